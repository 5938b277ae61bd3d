/- Nets without a contradiction have a matrix of solutions; a contradiction without one of its uses is none. -/
import Derived.OwnWalk
import Derived.Deep.RegionHeld3
import Derived.Test.YtjgnadighdbjlaaEe
namespace Go.Proofs.Ytjgnadighdbjlaa.C
open Go.RowKit Go.Shelf Go.Maps Go.Proofs.YtjgnadighdbjlaaW.PrintWords Go.Proofs.YtjgnadighdbjlaaW.PrintLast Go.Proofs.YtjgnadighdbjlaaW.PrintMore
set_option linter.unusedVariables false
set_option linter.unusedSimpArgs false
theorem ref_parts {n : Int} {l : List Bd} {u : List Us} (h : refuteF n l u = 0) : checkedF n l = 0 ∧ u.length ≤ 240 ∧ u.length ≠ 0 ∧ u.any (outU l.length) = false ∧ chainTo l u u.length := by
  unfold refuteF at h
  split at h
  · rename_i h1; exact absurd h h1
  rename_i h1
  split at h
  · omega
  rename_i h2
  split at h
  · omega
  rename_i h3
  split at h
  · rename_i h4
    refine ⟨by simpa using h1, by omega, fun e => h3 (Or.inl e), ?_, h4⟩
    cases e : u.any (outU l.length)
    · rfl
    · exact absurd (Or.inr e) h3
  · omega
theorem less_get {l : List Bd} {u : List Us} {i : Nat} (hi : i < u.length) (j : Nat) : uAt l (u.take i ++ u.drop (i + 1)) j = if j < i then uAt l u j else uAt l u (j + 1) := by
  unfold uAt
  rw [List.getD_eq_getElem?_getD, List.getElem?_append, List.length_take, show min i u.length = i by omega]
  split
  · rename_i h
    rw [List.getElem?_take, if_pos h, ← List.getD_eq_getElem?_getD]
  · rename_i h
    rw [List.getElem?_drop, show i + 1 + (j - i) = j + 1 by omega, ← List.getD_eq_getElem?_getD]
theorem ref_less {n : Int} {l : List Bd} {u : List Us} (h : refuteF n l u = 0) {i : Nat} (hi : i < u.length) (h1 : 1 < u.length) : refuteF n l (u.take i ++ u.drop (i + 1)) = 7 := by
  obtain ⟨hck, hlen, h0, hany, hch⟩ := ref_parts h
  obtain ⟨N, rfl, hn⟩ := netOk_of hck
  obtain ⟨k, hk⟩ : ∃ k, u.length = k := ⟨_, rfl⟩
  have hy : (u.take i ++ u.drop (i + 1)).length = k - 1 := by simp; omega
  have hne : (uAt l u i).1 ≠ (uAt l u i).2.1 := by
    have ho := List.any_eq_false.1 hany _ (List.getElem_mem hi)
    obtain ⟨⟨p, b⟩, hp⟩ : ∃ z, u[i] = z := ⟨_, rfl⟩
    rw [hp] at ho
    unfold outU at ho
    simp at ho
    obtain ⟨m, rfl⟩ := Int.eq_ofNat_of_zero_le ho.1
    have hm : m < l.length := by omega
    have e : uAt l u i = sideB l[m] b := by
      unfold uAt
      rw [List.getD_eq_getElem?_getD, List.getElem?_eq_getElem hi, Option.getD_some, hp]
      exact sideF_at hm b
    rw [e]
    have := hn.ne _ (List.getElem_mem hm)
    unfold sideB
    split
    · exact this
    · exact fun e => this e.symm
  unfold refuteF
  rw [if_neg (by rw [hck]; simp), if_neg (by omega)]
  split
  · rfl
  · rw [if_neg]
    intro hc
    rw [hy] at hc
    unfold chainTo at hc hch
    rw [hy] at hc
    rw [hk] at hch hi h1
    by_cases hi0 : i = 0
    · subst hi0
      have a1 := hc (k - 2) (by omega)
      rw [show (k - 2 + 1) % (k - 1) = 0 by rw [show k - 2 + 1 = k - 1 by omega]; exact Nat.mod_self _, less_get (by omega), less_get (by omega), if_neg (by omega), if_neg (by omega), show k - 2 + 1 = k - 1 by omega] at a1
      have a2 := hch (k - 1) (by omega)
      rw [show (k - 1 + 1) % k = 0 by rw [show k - 1 + 1 = k by omega]; exact Nat.mod_self _] at a2
      have a3 := hch 0 (by omega)
      rw [Nat.mod_eq_of_lt (by omega)] at a3
      exact hne (by rw [← a2, a1, a3])
    · by_cases hik : i = k - 1
      · subst hik
        have a1 := hc (k - 2) (by omega)
        rw [show (k - 2 + 1) % (k - 1) = 0 by rw [show k - 2 + 1 = k - 1 by omega]; exact Nat.mod_self _, less_get (by omega), less_get (by omega), if_pos (by omega), if_pos (by omega)] at a1
        have a2 := hch (k - 2) (by omega)
        rw [Nat.mod_eq_of_lt (by omega), show k - 2 + 1 = k - 1 by omega] at a2
        have a3 := hch (k - 1) (by omega)
        rw [show (k - 1 + 1) % k = 0 by rw [show k - 1 + 1 = k by omega]; exact Nat.mod_self _] at a3
        exact hne (by rw [← a2, a1, a3])
      · have a1 := hc (i - 1) (by omega)
        rw [Nat.mod_eq_of_lt (by omega), less_get (by omega), less_get (by omega), if_pos (by omega), if_neg (by omega), show i - 1 + 1 = i by omega] at a1
        have a2 := hch (i - 1) (by omega)
        rw [Nat.mod_eq_of_lt (by omega), show i - 1 + 1 = i by omega] at a2
        have a3 := hch i (by omega)
        rw [Nat.mod_eq_of_lt (by omega)] at a3
        exact hne (by rw [← a2, a1, a3])
/-- What holds of the matrix of a net without a contradiction. -/
structure SolOk (l : List Bd) (N : Nat) (D : Nat → Nat → Int) : Prop where
  tri : ∀ a b k, a < N → b < N → k < N → D a k < 100000000000000000 → D k b < 100000000000000000 → D a b ≤ D a k + D k b
  diag : ∀ a, a < N → D a a = 0
  top : ∀ a b, D a b ≤ 100000000000000000
  low : ∀ a b, a < N → b < N → -20000000000000000 ≤ D a b
  cl : ∀ x ∈ l, ∃ p q : Nat, x.1 = p ∧ x.2.1 = q ∧ p < N ∧ q < N ∧ ∀ a, a < N → (D q a < 100000000000000000 → D p a ≤ x.2.2.2 + D q a ∧ D p a < 100000000000000000) ∧ (D p a < 100000000000000000 → D q a ≤ -x.2.2.1 + D p a ∧ D q a < 100000000000000000)
theorem sol_ok {l : List Bd} {N : Nat} (hn : NetOk l N) (hok : okFw N (mat1 l N (2 * l.length))) : SolOk l N (fwIt (mat1 l N (2 * l.length)) N) := by
  have hB := mat1_base hn
  have hn2 := hn.n2
  have hE := Ed_ok hn
  have le : ∀ (t : List (Nat × Int)) a b, a < N → b < N → IsWay (Ed l) a t b → t.length ≤ 40 → fwIt (mat1 l N (2 * l.length)) N a b ≤ wsum t := fun t a b ha hb hw hl => fw_le hB N (Nat.le_refl _) (fun j hj => hok j (by omega) j hj) t a b ha hb hw (via_all hE ha hw) hl
  have way : ∀ a b, a < N → b < N → fwIt (mat1 l N (2 * l.length)) N a b < 100000000000000000 → ∃ t, IsWay (Ed l) a t b ∧ t.length ≤ N ∧ wsum t = fwIt (mat1 l N (2 * l.length)) N a b := fun a b ha hb h => by
    obtain ⟨t, h1, _, h2, h3⟩ := fw_way hB N (Nat.le_refl _) hok a b ha hb h
    exact ⟨t, h1, h2, h3⟩
  have top := fw_top hB N
  have DG := hok N (Nat.le_refl _)
  generalize fwIt (mat1 l N (2 * l.length)) N = D at *
  have edge : ∀ p q a L, p < N → q < N → a < N → Ed l p q L → D q a < 100000000000000000 → D p a ≤ L + D q a ∧ D p a < 100000000000000000 := fun p q a L hp hq ha he h => by
    obtain ⟨t, h1, h2, h3⟩ := way q a hq ha h
    have h4 := le ((q, L) :: t) p a hp ha ⟨he, h1⟩ (by simp; omega)
    have h5 := way_bound hE t _ _ h1
    have h6 := hE.lt _ _ _ he
    simp only [wsum] at h4
    rw [h3] at h4
    refine ⟨h4, ?_⟩
    have : (t.length : Int) ≤ 16 := by omega
    omega
  refine ⟨fun a b k ha hb hk h1 h2 => ?_, fun a ha => ?_, top, fun a b ha hb => ?_, fun x hx => ?_⟩
  · obtain ⟨t1, p1, p2, p3⟩ := way a k ha hk h1
    obtain ⟨t2, q1, q2, q3⟩ := way k b hk hb h2
    have := le (t1 ++ t2) a b ha hb ((way_append _ _ _ _).2 ⟨k, p1, q1⟩) (by simp; omega)
    rw [wsum_append] at this
    omega
  · have h1 := le [] a a ha ha rfl (by simp)
    simp only [wsum] at h1
    have h2 := DG a ha
    omega
  · rcases Int.lt_or_le (D a b) 100000000000000000 with h | h
    · obtain ⟨t, h1, h2, h3⟩ := way a b ha hb h
      have h5 := way_bound hE t _ _ h1
      have : (t.length : Int) ≤ 16 := by omega
      omega
    · omega
  · obtain ⟨h1, h2, h3, h4⟩ := hn.cl x hx
    obtain ⟨p, hp⟩ := Int.eq_ofNat_of_zero_le h1
    obtain ⟨q, hq⟩ := Int.eq_ofNat_of_zero_le h3
    refine ⟨p, q, hp, hq, by omega, by omega, fun a ha => ⟨fun h => edge p q a _ (by omega) (by omega) ha (Ed_up hx hp hq) h, fun h => edge q p a _ (by omega) (by omega) ha (Ed_down hx hq hp) h⟩⟩
end Go.Proofs.Ytjgnadighdbjlaa.C
