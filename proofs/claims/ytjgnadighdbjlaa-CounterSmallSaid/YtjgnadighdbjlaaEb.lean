/- Shortest ways: both ways to find them agree. -/
import Derived.OwnWalk
import Derived.Test.YtjgnadighdbjlaaEa
import Derived.Deep.RegionHeld3
import Derived.Test.YtjgnadighdbjlaaDe
namespace Go.Proofs.Ytjgnadighdbjlaa.C
open Go.RowKit Go.Shelf Go.Maps Go.Proofs.YtjgnadighdbjlaaW.PrintWords Go.Proofs.YtjgnadighdbjlaaW.PrintLast Go.Proofs.YtjgnadighdbjlaaW.PrintMore
set_option linter.unusedVariables false
set_option linter.unusedSimpArgs false
theorem sAt_eq {l : List Bd} {i : Nat} (hi : i < 2 * l.length) : sAt l i = sideB (l[i / 2]'(by omega)) (decide (i % 2 = 0)) := by
  unfold sAt
  rw [List.getD_eq_getElem?_getD, usesL_get _ _ hi, Option.getD_some, sideF_at (by omega)]
/-- The limits of a net. -/
def Ed (l : List Bd) (p q : Nat) (L : Int) : Prop := ∃ i, i < 2 * l.length ∧ sAt l i = ((p : Int), (q : Int), L)
structure NetOk (l : List Bd) (N : Nat) : Prop where
  n1 : 1 ≤ N
  n2 : N ≤ 16
  len : l.length ≤ 240
  cl : ∀ x ∈ l, 0 ≤ x.1 ∧ x.1 < N ∧ 0 ≤ x.2.1 ∧ x.2.1 < N
  ne : ∀ x ∈ l, x.1 ≠ x.2.1
  sp : SpanOk l
theorem netOk_of {l : List Bd} {n : Int} (h : checkedF n l = 0) : ∃ N : Nat, n = N ∧ NetOk l N := by
  unfold checkedF at h
  split at h
  · omega
  · split at h
    · omega
    · split at h
      · omega
      · rename_i h1 h2 h3
        have hb : ∀ x ∈ l, badB n x = false := by
          intro x hx
          cases hb : badB n x
          · rfl
          · exact absurd (List.any_eq_true.2 ⟨x, hx, hb⟩) h3
        have hb2 : ∀ x ∈ l, (0 ≤ x.1 ∧ x.1 ≤ n - 1) ∧ (0 ≤ x.2.1 ∧ x.2.1 ≤ n - 1) ∧ x.1 ≠ x.2.1 ∧ x.2.2.1 ≤ x.2.2.2 ∧ -1000000000000000 ≤ x.2.2.1 ∧ x.2.2.2 ≤ 1000000000000000 := by
          intro x hx
          have := hb x hx
          unfold badB at this
          simp at this
          omega
        refine ⟨n.toNat, by omega, by omega, by omega, by omega, fun x hx => ?_, fun x hx => (hb2 x hx).2.2.1, fun x hx => ?_⟩
        · have := hb2 x hx; omega
        · have := hb2 x hx; omega
theorem Ed_ok {l : List Bd} {N : Nat} (h : NetOk l N) : EOk (Ed l) N := ⟨fun a b L ⟨i, hi, hs⟩ => by
  obtain ⟨p, q, L', h1, h2, h3, h4, h5⟩ := sAt_ok h.cl h.sp hi
  rw [hs] at h1
  simp only [Prod.mk.injEq] at h1
  obtain ⟨e1, e2, rfl⟩ := h1
  have := sAt_ne h.ne hi hs
  exact ⟨by omega, by omega, this, h4, h5⟩⟩
theorem Ed_up {l : List Bd} {x : Bd} (hx : x ∈ l) {p q : Nat} (h1 : x.1 = p) (h2 : x.2.1 = q) : Ed l p q x.2.2.2 := by
  obtain ⟨j, hj, rfl⟩ := List.getElem_of_mem hx
  refine ⟨2 * j, by omega, ?_⟩
  rw [sAt_eq (by omega)]
  unfold sideB
  simp only [show 2 * j / 2 = j by omega, show 2 * j % 2 = 0 by omega]
  simp [h1, h2]
theorem Ed_down {l : List Bd} {x : Bd} (hx : x ∈ l) {p q : Nat} (h1 : x.2.1 = p) (h2 : x.1 = q) : Ed l p q (-x.2.2.1) := by
  obtain ⟨j, hj, rfl⟩ := List.getElem_of_mem hx
  refine ⟨2 * j + 1, by omega, ?_⟩
  rw [sAt_eq (by omega)]
  unfold sideB
  simp only [show (2 * j + 1) / 2 = j by omega, show (2 * j + 1) % 2 = 1 by omega]
  simp [h1, h2]
theorem Ed_cases {l : List Bd} {p q : Nat} {L : Int} (h : Ed l p q L) : ∃ x ∈ l, (x.1 = p ∧ x.2.1 = q ∧ L = x.2.2.2) ∨ (x.2.1 = p ∧ x.1 = q ∧ L = -x.2.2.1) := by
  obtain ⟨i, hi, hs⟩ := h
  rw [sAt_eq hi] at hs
  refine ⟨l[i / 2]'(by omega), List.getElem_mem _, ?_⟩
  unfold sideB at hs
  split at hs
  · simp only [Prod.mk.injEq] at hs
    left; exact ⟨hs.1, hs.2.1, hs.2.2.symm⟩
  · simp only [Prod.mk.injEq] at hs
    right; exact ⟨hs.1, hs.2.1, hs.2.2.symm⟩
theorem mat1_next {l : List Bd} {n i : Nat} (hi : i < 2 * l.length) : mat1 l n (i + 1) = useStep (mat1 l n i) (sAt l i) :=
  mat1_succ (by rw [List.getD_eq_getElem?_getD, List.getElem?_eq_getElem (by rw [usesL_len]; exact hi)]; rfl)
theorem mat1_base {l : List Bd} {N : Nat} (h : NetOk l N) : FwBase (Ed l) N (mat1 l N (2 * l.length)) := by
  have key : ∀ i, i ≤ 2 * l.length → (∀ a, a < N → mat1 l N i a a = 0) ∧ (∀ j p q L, j < i → sAt l j = (((p : Nat) : Int), ((q : Nat) : Int), L) → mat1 l N i p q ≤ L) ∧ (∀ a b, a < N → mat1 l N i a b < 100000000000000000 → a = b ∨ ∃ j, j < i ∧ sAt l j = ((a : Int), (b : Int), mat1 l N i a b)) := by
    intro i
    induction i with
    | zero =>
      intro _
      have e : mat1 l N 0 = mat0 N := rfl
      rw [e]
      refine ⟨fun a ha => by unfold mat0; rw [if_pos ⟨rfl, ha⟩], fun j p q L hj => by omega, fun a b ha hlt => ?_⟩
      left
      unfold mat0 at hlt
      split at hlt
      · rename_i hh; exact hh.1
      · omega
    | succ i ih =>
      intro hi
      obtain ⟨h1, h2, h3⟩ := ih (by omega)
      obtain ⟨p, q, L, hs, hp, hq, hL⟩ := sAt_ok h.cl h.sp (show i < 2 * l.length by omega)
      have hpq := sAt_ne h.ne (show i < 2 * l.length by omega) hs
      have hm : ∀ a b, mat1 l N (i + 1) a b = if a = p ∧ b = q then min (mat1 l N i a b) L else mat1 l N i a b := by
        intro a b
        rw [mat1_next (by omega), hs]
        unfold useStep
        simp only [Int.toNat_natCast]
      refine ⟨fun a ha => ?_, fun j p' q' L' hj hs' => ?_, fun a b ha hlt => ?_⟩
      · rw [hm, if_neg (by omega)]; exact h1 a ha
      · rw [hm]
        by_cases hji : j = i
        · subst hji
          rw [hs] at hs'
          simp only [Prod.mk.injEq] at hs'
          rw [if_pos ⟨by omega, by omega⟩]
          omega
        · have := h2 j p' q' L' (by omega) hs'
          split <;> omega
      · rw [hm] at hlt ⊢
        split
        · rename_i hab
          rw [if_pos hab] at hlt
          by_cases hmin : mat1 l N i a b ≤ L
          · rw [Int.min_eq_left hmin] at hlt ⊢
            rcases h3 a b ha hlt with e | ⟨j, hj, e⟩
            · exact Or.inl e
            · exact Or.inr ⟨j, by omega, e⟩
          · rw [Int.min_eq_right (by omega)]
            right
            exact ⟨i, by omega, by rw [hs, hab.1, hab.2]⟩
        · rename_i hab
          rw [if_neg hab] at hlt
          rcases h3 a b ha hlt with e | ⟨j, hj, e⟩
          · exact Or.inl e
          · exact Or.inr ⟨j, by omega, e⟩
  obtain ⟨h1, h2, h3⟩ := key (2 * l.length) (Nat.le_refl _)
  exact ⟨Ed_ok h, h.n2, h1, fun a b L ⟨j, hj, hs⟩ => h2 j a b L hj hs, fun a b ha _ hlt => h3 a b ha hlt, fun a b => (mat1_bound h.sp N _ a b).1⟩
theorem bfUse_le (r f : Nat → Int) (x : Bd) (c : Nat) : bfUse r f x c ≤ f c := by
  unfold bfUse
  simp only
  split <;> split <;> omega
theorem bfFold_le (r : Nat → Int) (c : Nat) : ∀ (l : List Bd) (f : Nat → Int), l.foldl (bfUse r) f c ≤ f c
  | [], f => Int.le_refl _
  | x :: l, f => by
    have h1 := bfFold_le r c l (bfUse r f x)
    have h2 := bfUse_le r f x c
    rw [List.foldl_cons]
    omega
theorem bfFold_up (r : Nat → Int) {y : Bd} (hy : r y.1.toNat < 100000000000000000) : ∀ (l : List Bd) (f : Nat → Int), y ∈ l → l.foldl (bfUse r) f y.2.1.toNat ≤ r y.1.toNat + y.2.2.2
  | [], f, h => by cases h
  | x :: l, f, h => by
    rw [List.foldl_cons]
    rcases List.mem_cons.1 h with rfl | h
    · have h1 := bfFold_le r y.2.1.toNat l (bfUse r f y)
      have h2 : bfUse r f y y.2.1.toNat ≤ r y.1.toNat + y.2.2.2 := by
        unfold bfUse
        simp only
        rw [if_pos (show r y.1.toNat < 100000000000000000 ∧ True from ⟨hy, trivial⟩)]
        split <;> omega
      omega
    · exact bfFold_up r hy l _ h
theorem bfFold_down (r : Nat → Int) {y : Bd} (hy : r y.2.1.toNat < 100000000000000000) : ∀ (l : List Bd) (f : Nat → Int), y ∈ l → l.foldl (bfUse r) f y.1.toNat ≤ r y.2.1.toNat - y.2.2.1
  | [], f, h => by cases h
  | x :: l, f, h => by
    rw [List.foldl_cons]
    rcases List.mem_cons.1 h with rfl | h
    · have h1 := bfFold_le r y.1.toNat l (bfUse r f y)
      have h2 : bfUse r f y y.1.toNat ≤ r y.2.1.toNat - y.2.2.1 := by
        unfold bfUse
        simp only
        rw [if_pos (show r y.2.1.toNat < 100000000000000000 ∧ True from ⟨hy, trivial⟩)]
        omega
      omega
    · exact bfFold_down r hy l _ h
theorem bfFold_cases (r : Nat → Int) (c : Nat) : ∀ (l : List Bd) (f : Nat → Int), l.foldl (bfUse r) f c = f c ∨ ∃ x ∈ l, (c = x.2.1.toNat ∧ r x.1.toNat < 100000000000000000 ∧ l.foldl (bfUse r) f c = r x.1.toNat + x.2.2.2) ∨ (c = x.1.toNat ∧ r x.2.1.toNat < 100000000000000000 ∧ l.foldl (bfUse r) f c = r x.2.1.toNat - x.2.2.1)
  | [], f => Or.inl rfl
  | x :: l, f => by
    rw [List.foldl_cons]
    rcases bfFold_cases r c l (bfUse r f x) with h | ⟨y, hy, h⟩
    · rw [h]
      have hu : bfUse r f x c = f c ∨ (c = x.2.1.toNat ∧ r x.1.toNat < 100000000000000000 ∧ bfUse r f x c = r x.1.toNat + x.2.2.2) ∨ (c = x.1.toNat ∧ r x.2.1.toNat < 100000000000000000 ∧ bfUse r f x c = r x.2.1.toNat - x.2.2.1) := by
        unfold bfUse
        simp only
        split <;> split <;> omega
      rcases hu with hu | hu
      · exact Or.inl hu
      · exact Or.inr ⟨x, List.mem_cons_self .., hu⟩
    · exact Or.inr ⟨y, List.mem_cons_of_mem _ hy, h⟩
theorem bf_le {l : List Bd} {N : Nat} (h : NetOk l N) {a : Nat} : ∀ (i : Nat) (t : List (Nat × Int)) (b : Nat), i ≤ 40 → IsWay (Ed l) a t b → t.length ≤ i → bfRow l a i b ≤ wsum t
  | 0, t, b, _, hw, hl => by
    have : t = [] := List.length_eq_zero_iff.1 (by omega)
    subst this
    have : a = b := hw
    subst this
    simp [bfRow, wsum]
  | i + 1, t, b, hi, hw, hl => by
    rcases List.eq_nil_or_concat t with rfl | ⟨s, x, rfl⟩
    · have h1 := bf_le h i [] b (by omega) hw (by simp)
      have h2 := bfFold_le (bfRow l a i) b l (bfRow l a i)
      show l.foldl (bfUse (bfRow l a i)) (bfRow l a i) b ≤ _
      omega
    · rw [List.concat_eq_append] at hw hl ⊢
      obtain ⟨p, hs, hx⟩ := (way_append _ _ _ _).1 hw
      have e : x.1 = b := hx.2
      simp only [List.length_append, List.length_cons, List.length_nil] at hl
      have ih := bf_le h i s p (by omega) hs (by omega)
      have hb := (way_bound (Ed_ok h) s _ _ hs).2
      rw [wsum_append]
      simp only [wsum]
      show l.foldl (bfUse (bfRow l a i)) (bfRow l a i) b ≤ _
      obtain ⟨y, hy, hc⟩ := Ed_cases hx.1
      rcases hc with ⟨c1, c2, c3⟩ | ⟨c1, c2, c3⟩
      · have := bfFold_up (bfRow l a i) (y := y) (by rw [c1, Int.toNat_natCast]; omega) l (bfRow l a i) hy
        rw [c1, c2, Int.toNat_natCast, Int.toNat_natCast, e] at this
        omega
      · have := bfFold_down (bfRow l a i) (y := y) (by rw [c1, Int.toNat_natCast]; omega) l (bfRow l a i) hy
        rw [c1, c2, Int.toNat_natCast, Int.toNat_natCast, e] at this
        omega
theorem bf_way {l : List Bd} {N : Nat} (h : NetOk l N) {a : Nat} : ∀ (i b : Nat), bfRow l a i b < 100000000000000000 → ∃ t, IsWay (Ed l) a t b ∧ t.length ≤ i ∧ wsum t = bfRow l a i b
  | 0, b, hlt => by
    simp only [bfRow] at hlt ⊢
    split at hlt
    · rename_i e
      subst e
      exact ⟨[], rfl, by simp, by simp [wsum]⟩
    · omega
  | i + 1, b, hlt => by
    have hr : bfRow l a (i + 1) b = l.foldl (bfUse (bfRow l a i)) (bfRow l a i) b := rfl
    rw [hr] at hlt ⊢
    rcases bfFold_cases (bfRow l a i) b l (bfRow l a i) with hc | ⟨x, hx, hc⟩
    · rw [hc] at hlt ⊢
      obtain ⟨t, h1, h2, h3⟩ := bf_way h i b hlt
      exact ⟨t, h1, by omega, h3⟩
    · have hcl := h.cl x hx
      rcases hc with ⟨c1, c2, c3⟩ | ⟨c1, c2, c3⟩
      · obtain ⟨t, h1, h2, h3⟩ := bf_way h i _ c2
        refine ⟨t ++ [(b, x.2.2.2)], (way_append _ _ _ _).2 ⟨_, h1, ?_, rfl⟩, by simp; omega, ?_⟩
        · exact Ed_up hx (by omega) (by omega)
        · rw [wsum_append]; simp only [wsum]; omega
      · obtain ⟨t, h1, h2, h3⟩ := bf_way h i _ c2
        refine ⟨t ++ [(b, -x.2.2.1)], (way_append _ _ _ _).2 ⟨_, h1, ?_, rfl⟩, by simp; omega, ?_⟩
        · exact Ed_down hx (by omega) (by omega)
        · rw [wsum_append]; simp only [wsum]; omega
theorem bf_top {l : List Bd} {a : Nat} : ∀ (i b : Nat), bfRow l a i b ≤ 100000000000000000
  | 0, b => by simp only [bfRow]; split <;> omega
  | i + 1, b => by
    have h1 := bfFold_le (bfRow l a i) b l (bfRow l a i)
    have h2 := bf_top (l := l) (a := a) i b
    show l.foldl (bfUse (bfRow l a i)) (bfRow l a i) b ≤ _
    omega
theorem bf_bound {l : List Bd} {N : Nat} (h : NetOk l N) {a : Nat} (i b : Nat) (hi : i ≤ 16) : -20000000000000000 ≤ bfRow l a i b ∧ bfRow l a i b ≤ 100000000000000000 := by
  refine ⟨?_, bf_top i b⟩
  rcases Int.lt_or_le (bfRow l a i b) 100000000000000000 with hlt | hge
  · obtain ⟨t, h1, h2, h3⟩ := bf_way h i b hlt
    have := (way_bound (Ed_ok h) t _ _ h1).1
    omega
  · omega
theorem fw_top {E : Nat → Nat → Int → Prop} {N : Nat} {D : Nat → Nat → Int} (hB : FwBase E N D) : ∀ k a b, fwIt D k a b ≤ 100000000000000000
  | 0, a, b => hB.top a b
  | k + 1, a, b => by
    have := fw_top hB k a b
    show fwStep k (fwIt D k) a b ≤ _
    unfold fwStep
    split <;> omega
theorem fw_bf {l : List Bd} {N : Nat} (h : NetOk l N) (hok : okFw N (mat1 l N (2 * l.length))) {a b : Nat} (ha : a < N) (hb : b < N) : fwIt (mat1 l N (2 * l.length)) N a b = bfRow l a N b := by
  have hB := mat1_base h
  have hn := h.n2
  have h1 : bfRow l a N b < 100000000000000000 → fwIt (mat1 l N (2 * l.length)) N a b ≤ bfRow l a N b := by
    intro hlt
    obtain ⟨t, g1, g2, g3⟩ := bf_way h N b hlt
    have := fw_le hB N (Nat.le_refl _) (fun j hj => hok j (by omega) j hj) t a b ha hb g1 (via_all hB.ok ha g1) (by omega)
    omega
  have h2 : fwIt (mat1 l N (2 * l.length)) N a b < 100000000000000000 → bfRow l a N b ≤ fwIt (mat1 l N (2 * l.length)) N a b := by
    intro hlt
    obtain ⟨t, g1, _, g3, g4⟩ := fw_way hB N (Nat.le_refl _) hok a b ha hb hlt
    have := bf_le h N t b (by omega) g1 g3
    omega
  have h3 := bf_top (l := l) (a := a) N b
  have h4 := fw_top hB N a b
  rcases Int.lt_or_le (bfRow l a N b) 100000000000000000 with c | c <;> rcases Int.lt_or_le (fwIt (mat1 l N (2 * l.length)) N a b) 100000000000000000 with d | d
  · have := h1 c; have := h2 d; omega
  · have := h1 c; omega
  · have := h2 d; omega
  · omega
theorem okBf_iff {l : List Bd} {N : Nat} (h : NetOk l N) : okBf N (fun a => bfRow l a N) ↔ okFw N (mat1 l N (2 * l.length)) := by
  have hB := mat1_base h
  have hn := h.n2
  rw [okFw_iff hB]
  constructor
  · intro hb t v hv hw
    rcases Int.lt_or_le (wsum t) 0 with hneg | h0
    · obtain ⟨t', v', h1, h2, h3, h4⟩ := loop_short hB.ok _ t v (Nat.le_refl _) hv hw hneg
      have := bf_le h N t' v' (by omega) h2 h3
      have := hb v' h1
      simp only at this
      omega
    · exact h0
  · intro hw a ha
    rcases Int.lt_or_le (bfRow l a N a) 100000000000000000 with c | c
    · obtain ⟨t, g1, g2, g3⟩ := bf_way h N a c
      have := hw t a ha g1
      simp only
      omega
    · simp only
      omega
end Go.Proofs.Ytjgnadighdbjlaa.C
