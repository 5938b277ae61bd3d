/- The same turns are found by both ways. -/
import Derived.OwnWalk
import Derived.Deep.RegionHeld3
import Derived.Test.YtjgnadighdbjlaaDg
namespace Go.Proofs.Ytjgnadighdbjlaa.C
open Go.RowKit Go.Shelf Go.Maps Go.Proofs.YtjgnadighdbjlaaW.PrintWords Go.Proofs.YtjgnadighdbjlaaW.PrintLast Go.Proofs.YtjgnadighdbjlaaW.PrintMore
set_option linter.unusedVariables false
set_option linter.unusedSimpArgs false
def hitAt (F O R e m lo hi k : Int) : Prop := max (tLo F O R e m k) lo ≤ min (tHi F O R e m k) hi
instance (F O R e m lo hi k : Int) : Decidable (hitAt F O R e m lo hi k) := by unfold hitAt; infer_instance
/-- The turns that meet a span. -/
def hitsL (F O R e m lo hi : Int) : Int → Nat → List (Int × Int)
  | _, 0 => []
  | k, n + 1 => if hitAt F O R e m lo hi k then (max (tLo F O R e m k) lo, min (tHi F O R e m k) hi) :: hitsL F O R e m lo hi (k + 1) n else hitsL F O R e m lo hi (k + 1) n
theorem hit_iff {F O R e m lo hi k : Int} : hitAt F O R e m lo hi k ↔ tLo F O R e m k ≤ tHi F O R e m k ∧ tLo F O R e m k ≤ hi ∧ lo ≤ tHi F O R e m k ∧ lo ≤ hi := by
  unfold hitAt; omega
theorem tAt_mono {O R m k j : Int} (hR : 1 ≤ R) (h : k ≤ j) : tAt O R m k ≤ tAt O R m j := by
  unfold tAt
  have := Int.mul_le_mul_of_nonneg_right h (show (0 : Int) ≤ R by omega)
  omega
theorem tLo_mono {F O R e m k j : Int} (hF : 1 ≤ F) (hR : 1 ≤ R) (h : k ≤ j) : tLo F O R e m k ≤ tLo F O R e m j := by
  have := tAt_mono (O := O) (m := m) hR h
  have := Int.ediv_le_ediv (show (0 : Int) < F by omega) (show e - tAt O R m j ≤ e - tAt O R m k by omega)
  unfold tLo; omega
theorem tHi_mono {F O R e m k j : Int} (hF : 1 ≤ F) (hR : 1 ≤ R) (h : k ≤ j) : tHi F O R e m k ≤ tHi F O R e m j := by
  have := tAt_mono (O := O) (m := m) hR h
  exact Int.ediv_le_ediv (show (0 : Int) < F by omega) (by omega)
theorem tLo_le {F O R e m k v : Int} (hF : 1 ≤ F) : tLo F O R e m k ≤ v ↔ tAt O R m k - e ≤ F * v := by
  unfold tLo
  have := Int.le_ediv_iff_mul_le (a := -v) (b := e - tAt O R m k) (show (0 : Int) < F by omega)
  rw [Int.neg_mul, Int.mul_comm v F] at this
  omega
theorem le_tHi {F O R e m k v : Int} (hF : 1 ≤ F) : v ≤ tHi F O R e m k ↔ F * v ≤ tAt O R m k + e := by
  unfold tHi
  have := Int.le_ediv_iff_mul_le (a := v) (b := tAt O R m k + e) (show (0 : Int) < F by omega)
  rw [Int.mul_comm v F] at this
  omega
theorem hits_none {F O R e m lo hi : Int} : ∀ (n : Nat) (k : Int), (∀ j, k ≤ j → j < k + n → ¬ hitAt F O R e m lo hi j) → hitsL F O R e m lo hi k n = []
  | 0, _, _ => rfl
  | n + 1, k, h => by
    rw [hitsL, if_neg (h k (by omega) (by omega))]
    exact hits_none n (k + 1) (fun j h1 h2 => h j (by omega) (by omega))
theorem turns_hits {F O R e m lo hi : Int} (hF : 1 ≤ F) (hR : 1 ≤ R) : ∀ (n : Nat) (k : Int), turnsL F O R e m lo hi k n = hitsL F O R e m lo hi k n
  | 0, _ => rfl
  | n + 1, k => by
    rw [turnsL]
    split
    · rename_i h
      refine (hits_none (n + 1) k (fun j h1 _ hh => ?_)).symm
      have := tLo_mono (e := e) (O := O) (m := m) hF hR h1
      have := hit_iff.1 hh
      omega
    · rw [turns_hits hF hR n (k + 1), hitsL]; rfl
theorem last_lt {F O R e m hi k : Int} (hF : 1 ≤ F) (hR : 1 ≤ R) (h : lastF F O R e m hi < k) : hi < tLo F O R e m k := by
  unfold lastF at h
  have h1 := (Int.ediv_lt_iff_lt_mul (show (0 : Int) < R by omega)).1 h
  have h2 := tLo_le (O := O) (R := R) (e := e) (m := m) (k := k) (v := hi) hF
  unfold tAt at h2
  omega
theorem ref_hits {F O R e m lo hi : Int} (hF : 1 ≤ F) (hR : 1 ≤ R) : ∀ (n : Nat) (k : Int), refL F O R e m lo hi (lastF F O R e m hi) k n = hitsL F O R e m lo hi k n
  | 0, _ => rfl
  | n + 1, k => by
    rw [refL]
    split
    · rename_i h
      refine (hits_none (n + 1) k (fun j h1 _ hh => ?_)).symm
      have := last_lt (O := O) (e := e) (m := m) hF hR (show lastF F O R e m hi < j by omega)
      have := hit_iff.1 hh
      omega
    · rw [ref_hits hF hR n (k + 1), hitsL, Int.max_comm, Int.min_comm]; rfl
theorem hits_append {F O R e m lo hi : Int} : ∀ (a b : Nat) (k : Int), hitsL F O R e m lo hi k (a + b) = hitsL F O R e m lo hi k a ++ hitsL F O R e m lo hi (k + a) b
  | 0, b, k => by simp [hitsL]
  | a + 1, b, k => by
    rw [show a + 1 + b = (a + b) + 1 by omega, hitsL, hitsL, hits_append a b (k + 1), show k + 1 + (a : Int) = k + ((a + 1 : Nat) : Int) by push_cast; omega]
    split <;> simp
theorem hits_ne {F O R e m lo hi : Int} : ∀ (n : Nat) (k j : Int), k ≤ j → j < k + n → hitAt F O R e m lo hi j → hitsL F O R e m lo hi k n ≠ []
  | 0, k, j, h1, h2, _ => by omega
  | n + 1, k, j, h1, h2, h => by
    rw [hitsL]
    split
    · simp
    · rename_i hn
      have : k ≠ j := fun e => hn (e ▸ h)
      exact hits_ne n (k + 1) j (by omega) (by omega) h
theorem hits_mem {F O R e m lo hi : Int} {x : Int × Int} : ∀ (n : Nat) (k : Int), x ∈ hitsL F O R e m lo hi k n → ∃ j, k ≤ j ∧ j < k + n ∧ hitAt F O R e m lo hi j ∧ x = (max (tLo F O R e m j) lo, min (tHi F O R e m j) hi)
  | 0, k, h => by cases h
  | n + 1, k, h => by
    rw [hitsL] at h
    split at h
    · rename_i hh
      rcases List.mem_cons.1 h with h | h
      · exact ⟨k, by omega, by omega, hh, h⟩
      · obtain ⟨j, h1, h2, h3⟩ := hits_mem n (k + 1) h
        exact ⟨j, by omega, by omega, h3⟩
    · obtain ⟨j, h1, h2, h3⟩ := hits_mem n (k + 1) h
      exact ⟨j, by omega, by omega, h3⟩
theorem tAt_shift (F O R m k q : Int) : tAt O R m (k + F * q) = tAt O R m k + F * (R * q) := by
  unfold tAt
  rw [Int.add_mul, Int.mul_assoc, Int.mul_comm q R]; omega
theorem tLo_shift {F O R e m k q : Int} (hF : 1 ≤ F) : tLo F O R e m (k + F * q) = tLo F O R e m k + R * q := by
  unfold tLo
  rw [tAt_shift, show e - (tAt O R m k + F * (R * q)) = (e - tAt O R m k) + F * (-(R * q)) by rw [Int.mul_neg]; omega, Int.add_mul_ediv_left _ _ (by omega)]
  omega
theorem tHi_shift {F O R e m k q : Int} (hF : 1 ≤ F) : tHi F O R e m (k + F * q) = tHi F O R e m k + R * q := by
  unfold tHi
  rw [tAt_shift, show tAt O R m k + F * (R * q) + e = (tAt O R m k + e) + F * (R * q) by omega, Int.add_mul_ediv_left _ _ (by omega)]
theorem least_hi {F O R e m lo k : Int} (hF : 1 ≤ F) (hR : 1 ≤ R) : leastF F O R e m lo ≤ k ↔ lo ≤ tHi F O R e m k := by
  unfold leastF
  rw [le_tHi hF]
  have := Int.le_ediv_iff_mul_le (a := -k) (b := -(F * lo + O - e - m)) (show (0 : Int) < R by omega)
  rw [Int.neg_mul] at this
  unfold tAt
  omega
theorem resV_two {a b : List (Int × Int)} (ha : a ≠ []) (hb : b ≠ []) (c : List (Int × Int)) : resV (a ++ b ++ c) = .tuple #[.agg #[.int .i64 0, .int .i64 0], .int .i64 8] := by
  rcases a with _ | ⟨x, a⟩
  · exact absurd rfl ha
  · rcases b with _ | ⟨y, b⟩
    · exact absurd rfl hb
    · rcases a with _ | ⟨z, a⟩ <;> rfl
theorem hits_same {F O R e m lo hi : Int} (hF : 1 ≤ F) (hR : 1 ≤ R) (a b : Nat) (ha : 2 * F ≤ a) (hab : a ≤ b) : resV (hitsL F O R e m lo hi (leastF F O R e m lo) a) = resV (hitsL F O R e m lo hi (leastF F O R e m lo) b) := by
  obtain ⟨k, hk⟩ : ∃ k, leastF F O R e m lo = k := ⟨_, rfl⟩
  rw [hk, show b = a + (b - a) by omega, hits_append]
  by_cases hz : hitsL F O R e m lo hi (k + a) (b - a) = []
  · rw [hz, List.append_nil]
  · obtain ⟨x, hx⟩ := List.exists_mem_of_ne_nil _ hz
    obtain ⟨j, h1, h2, h3, _⟩ := hits_mem _ _ hx
    have h4 := hit_iff.1 h3
    have hm0 := Int.emod_nonneg (j - k) (b := F) (by omega)
    have hm1 := Int.emod_lt_of_pos (j - k) (b := F) (by omega)
    have hm2 := Int.mul_ediv_add_emod (j - k) F
    obtain ⟨q, hq⟩ : ∃ q, (j - k) / F = q := ⟨_, rfl⟩
    obtain ⟨r, hr⟩ : ∃ r, (j - k) % F = r := ⟨_, rfl⟩
    rw [hq, hr] at hm2
    rw [hr] at hm0 hm1
    have hgood : ∀ q', 0 ≤ F * (q - q') → k ≤ k + r + F * q' → hitAt F O R e m lo hi (k + r + F * q') := by
      intro q' hle hk2
      rw [hit_iff]
      have e1 : k + r + F * q' = j + F * (q' - q) := by rw [Int.mul_sub]; omega
      have e2 : j = (k + r + F * q') + F * (q - q') := by rw [Int.mul_sub]; omega
      have t1 := tLo_shift (O := O) (R := R) (e := e) (m := m) (k := j) (q := q' - q) hF
      have t2 := tHi_shift (O := O) (R := R) (e := e) (m := m) (k := j) (q := q' - q) hF
      have t3 := tLo_mono (O := O) (e := e) (m := m) hF hR (show k + r + F * q' ≤ j by omega)
      have t4 := (least_hi (O := O) (e := e) (m := m) (lo := lo) hF hR).1 (show leastF F O R e m lo ≤ k + r + F * q' by omega)
      rw [e1] at t3 t4 ⊢
      omega
    have hq2 : 2 ≤ q := by
      rcases Int.lt_or_le q 2 with h | h
      · have : F * q ≤ F * 1 := Int.mul_le_mul_of_nonneg_left (by omega) (by omega)
        omega
      · exact h
    have g0 := hgood 0 (by rw [Int.sub_zero]; exact Int.mul_nonneg (by omega) (by omega)) (by omega)
    have g1 := hgood 1 (Int.mul_nonneg (by omega) (by omega)) (by omega)
    rw [Int.mul_zero, Int.add_zero] at g0
    rw [Int.mul_one] at g1
    obtain ⟨f, hf⟩ : ∃ f : Nat, (f : Int) = F := ⟨F.toNat, by omega⟩
    have n0 := hits_ne f k (k + r) (by omega) (by omega) g0
    have n1 := hits_ne (a - f) (k + f) (k + r + F) (by omega) (by omega) g1
    have ea : hitsL F O R e m lo hi k a = hitsL F O R e m lo hi k f ++ hitsL F O R e m lo hi (k + f) (a - f) := by rw [← hits_append, show f + (a - f) = a by omega]
    rw [ea, resV_two n0 n1]
    have := resV_two n0 n1 []
    rw [List.append_nil] at this
    exact this
theorem first_least {F O R e m lo : Int} (hR : 1 ≤ R) : firstF F O R e m lo = leastF F O R e m lo ∨ firstF F O R e m lo + 1 = leastF F O R e m lo := by
  unfold firstF leastF
  generalize F * lo + O - e - m = z
  have a1 := Int.mul_ediv_add_emod z R
  have a2 := Int.emod_nonneg z (b := R) (by omega)
  have a3 := Int.emod_lt_of_pos z (b := R) (by omega)
  have b1 := Int.mul_ediv_add_emod (-z) R
  have b2 := Int.emod_nonneg (-z) (b := R) (by omega)
  have b3 := Int.emod_lt_of_pos (-z) (b := R) (by omega)
  obtain ⟨p, hp⟩ : ∃ p, z / R = p := ⟨_, rfl⟩
  obtain ⟨q, hq⟩ : ∃ q, (-z) / R = q := ⟨_, rfl⟩
  rw [hp] at a1 ⊢
  rw [hq] at b1 ⊢
  have h1 : R * (p + q) = -(z % R) - (-z) % R := by rw [Int.mul_add]; omega
  have h2 : p + q ≤ 0 := by
    rcases Int.lt_or_le 0 (p + q) with h | h
    · have : R * 1 ≤ R * (p + q) := Int.mul_le_mul_of_nonneg_left (by omega) (by omega)
      omega
    · exact h
  have h3 : -1 ≤ p + q := by
    rcases Int.lt_or_le (p + q) (-1) with h | h
    · have : R * (p + q) ≤ R * (-2) := Int.mul_le_mul_of_nonneg_left (by omega) (by omega)
      omega
    · exact h
  omega
/-- What resolve finds, from the least turn on. -/
theorem turns_res {F O R e m lo hi : Int} (hF : 1 ≤ F) (hR : 1 ≤ R) (n : Nat) (hn : 2 * F + 1 ≤ n) : resV (turnsL F O R e m lo hi (firstF F O R e m lo) n) = resV (hitsL F O R e m lo hi (leastF F O R e m lo) n) := by
  rw [turns_hits hF hR]
  rcases first_least (F := F) (O := O) (e := e) (m := m) (lo := lo) hR with h | h
  · rw [h]
  · have e1 : firstF F O R e m lo = leastF F O R e m lo - 1 := by omega
    rw [e1, show n = (n - 1) + 1 by omega, hitsL, if_neg ?_, show leastF F O R e m lo - 1 + 1 = leastF F O R e m lo by omega]
    · exact hits_same hF hR _ _ (by omega) (by omega)
    · intro hh
      have h1 := hit_iff.1 hh
      have h2 := (least_hi (O := O) (e := e) (m := m) (lo := lo) (k := leastF F O R e m lo - 1) hF hR).2 h1.2.2.1
      omega
theorem resolve_eq (F O J G R D I m lo hi : Int) : resolveR F O J G R D I m lo hi = rResolveR F O J G R D I m lo hi := by
  unfold resolveR rResolveR
  split
  · rename_i hk
    have HK := CtrOk.of hk
    split
    · split
      · have hF := HK.f
        have hR := HK.r
        rw [turns_res hF.1 hR.1 _ (by omega), ref_hits hF.1 hR.1, hits_same hF.1 hR.1 _ 2500 (by omega) (by omega)]
      · rfl
    · rfl
  · rfl
end Go.Proofs.Ytjgnadighdbjlaa.C
