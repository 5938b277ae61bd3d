/- Unwrapped values differ as the true differences do. -/
import Derived.OwnWalk
import Derived.Deep.RegionHeld3
import Derived.Test.YtjgnadighdbjlaaDj
namespace Go.Proofs.Ytjgnadighdbjlaa.C
open Go.RowKit Go.Shelf Go.Maps Go.Proofs.YtjgnadighdbjlaaW.PrintWords Go.Proofs.YtjgnadighdbjlaaW.PrintLast Go.Proofs.YtjgnadighdbjlaaW.PrintMore
set_option linter.unusedVariables false
set_option linter.unusedSimpArgs false
theorem wrapF_eq {R n y k : Int} (hR : 1 ≤ R) (he : R % 2 = 0) (h : n = y + k * R) (h1 : -(R / 2) ≤ y) (h2 : y < R / 2) : wrapF R n = y := by
  unfold wrapF
  have e : n + R / 2 = (y + R / 2) + R * k := by rw [h, Int.mul_comm]; omega
  rw [e, Int.add_mul_emod_self_left, Int.emod_eq_of_lt (by omega) (by omega)]
  omega
/-- The true differences: each change is at most far. -/
def dAt (d0 far : Int) (ch : List Int) : Nat → Int
  | 0 => d0
  | i + 1 => dAt d0 far ch i + (ch.getD i 0 % (2 * far + 1) - far)
theorem dAt_step {d0 far : Int} (hf : 0 ≤ far) (ch : List Int) (i : Nat) : -far ≤ dAt d0 far ch (i + 1) - dAt d0 far ch i ∧ dAt d0 far ch (i + 1) - dAt d0 far ch i ≤ far := by
  unfold dAt
  have h1 := Int.emod_nonneg (ch.getD i 0) (b := 2 * far + 1) (by omega)
  have h2 := Int.emod_lt_of_pos (ch.getD i 0) (b := 2 * far + 1) (by omega)
  cases i <;> simp only [dAt] <;> omega
theorem dAt_bound {d0 far M : Int} (hf : 0 ≤ far) (hM : far ≤ M) (hd : -M * 100 ≤ d0 ∧ d0 ≤ M * 100) (ch : List Int) : ∀ i : Nat, -(M * (100 + i)) ≤ dAt d0 far ch i ∧ dAt d0 far ch i ≤ M * (100 + i)
  | 0 => by simp only [dAt]; push_cast; omega
  | i + 1 => by
    have h1 := dAt_bound hf hM hd ch i
    have h2 := dAt_step (d0 := d0) hf ch i
    have e : M * (100 + ((i + 1 : Nat) : Int)) = M * (100 + (i : Int)) + M := by push_cast; rw [← Int.add_assoc, Int.mul_add]; omega
    rw [e]
    omega
/-- What is shown, one after the other. -/
def mL (F O J G R D I seed d0 far : Int) (ch : List Int) (i : Nat) : Int := showF F O J G R I seed ((i : Int) * D % ((1000000 / D + 1) * D)) (dAt d0 far ch i)
def mList (F O J G R D I seed d0 far : Int) (ch : List Int) (n : Nat) : List Int := (List.range n).map (mL F O J G R D I seed d0 far ch)
theorem turns_all {F O J G R D I seed d0 far : Int} (h : CtrOk F O J G R D I) (hf : 0 ≤ far) (hj : F * far + 2 * (J + G / 2) < R / 2) (ch : List Int) (n : Nat) :
    ∃ k0 : Int, ∀ i : Nat, i < n → ∃ k x : Int, mL F O J G R D I seed d0 far ch i + k * R = F * dAt d0 far ch i + O - x ∧ -(J + G / 2) ≤ x ∧ x ≤ J + G / 2 ∧ unwAt R (mList F O J G R D I seed d0 far ch n) i = F * dAt d0 far ch i + O - x - k0 * R := by
  have hr := h.r; have hF := h.f
  have hev : R % 2 = 0 := h.even
  have get : ∀ i, i < n → (mList F O J G R D I seed d0 far ch n).getD i 0 = mL F O J G R D I seed d0 far ch i := fun i hi => by simp [mList, List.getD_eq_getElem?_getD, hi]
  obtain ⟨k0, x0, e0, b0, b0', _⟩ := show_err (seed := seed) (s := ((0 : Nat) : Int) * D % ((1000000 / D + 1) * D)) (d := dAt d0 far ch 0) h
  refine ⟨k0, fun i => ?_⟩
  induction i with
  | zero =>
    intro hi
    refine ⟨k0, x0, e0, b0, b0', ?_⟩
    simp only [unwAt]
    rw [get 0 hi]
    unfold mL
    omega
  | succ i ih =>
    intro hi
    obtain ⟨k, x, e1, b1, b1', u1⟩ := ih (by omega)
    obtain ⟨k', x', e2, b2, b2', _⟩ := show_err (seed := seed) (s := ((i + 1 : Nat) : Int) * D % ((1000000 / D + 1) * D)) (d := dAt d0 far ch (i + 1)) h
    refine ⟨k', x', e2, b2, b2', ?_⟩
    have hs := dAt_step (d0 := d0) hf ch i
    have m1 := Int.mul_le_mul_of_nonneg_left hs.1 (show 0 ≤ F by omega)
    have m2 := Int.mul_le_mul_of_nonneg_left hs.2 (show 0 ≤ F by omega)
    rw [Int.mul_neg] at m1
    have m3 : F * (dAt d0 far ch (i + 1) - dAt d0 far ch i) = F * dAt d0 far ch (i + 1) - F * dAt d0 far ch i := Int.mul_sub _ _ _
    rw [m3] at m1 m2
    have e2' : mL F O J G R D I seed d0 far ch (i + 1) + k' * R = F * dAt d0 far ch (i + 1) + O - x' := e2
    have hw : wrapF R (mL F O J G R D I seed d0 far ch (i + 1) - mL F O J G R D I seed d0 far ch i) = F * dAt d0 far ch (i + 1) - F * dAt d0 far ch i - (x' - x) := by
      refine wrapF_eq (k := k - k') (by omega) hev ?_ (by omega) (by omega)
      rw [Int.sub_mul]
      omega
    simp only [unwAt]
    rw [get (i + 1) hi, get i (by omega), hw, u1]
    omega
/-- The seconds at which it measures. -/
theorem sec_ok {D i : Int} (hD : 1 ≤ D) (hi : 0 ≤ i) : 0 ≤ i * D % ((1000000 / D + 1) * D) ∧ i * D % ((1000000 / D + 1) * D) ≤ 1000000 ∧ i * D % ((1000000 / D + 1) * D) % D = 0 := by
  rw [Int.mul_comm i D, Int.mul_comm _ D, Int.mul_emod_mul_of_pos _ _ (by omega)]
  have h0 : 0 ≤ (1000000 : Int) / D := Int.ediv_nonneg (by omega) (by omega)
  have h1 := Int.emod_nonneg i (b := 1000000 / D + 1) (by omega)
  have h2 := Int.emod_lt_of_pos i (show 0 < 1000000 / D + 1 by omega)
  have h3 : D * (i % (1000000 / D + 1)) ≤ D * (1000000 / D) := Int.mul_le_mul_of_nonneg_left (by omega) (by omega)
  have h4 : D * (1000000 / D) ≤ 1000000 := Int.mul_ediv_self_le (by omega)
  have h5 : 0 ≤ D * (i % (1000000 / D + 1)) := Int.mul_nonneg (by omega) (by omega)
  exact ⟨h5, by omega, Int.mul_emod_right _ _⟩
theorem turns_show {F O J G R D I seed s d : Int} (hk : okC F O J G R D I = true) (hs : 0 ≤ s ∧ s ≤ 1000000 ∧ s % D = 0) (hd : -1000000000000000 ≤ d ∧ d ≤ 1000000000000000) : showR F O J G R D I seed s d = (showF F O J G R I seed s d, 0) := by
  unfold showR
  rw [if_pos hk, if_pos (by unfold readyF; simp; omega), if_pos (by unfold inB; simp; omega)]
theorem mL_range {F O J G R D I seed d0 far : Int} (h : CtrOk F O J G R D I) (ch : List Int) (i : Nat) : -(R / 2) ≤ mL F O J G R D I seed d0 far ch i ∧ mL F O J G R D I seed d0 far ch i < R / 2 := by
  obtain ⟨k, x, _, _, _, _, h1, h2⟩ := show_err (seed := seed) (s := (i : Int) * D % ((1000000 / D + 1) * D)) (d := dAt d0 far ch i) h
  exact ⟨h1, h2⟩
theorem turns_unw {F O J G R D I seed d0 far : Int} (hk : okC F O J G R D I = true) (hf : 0 ≤ far) (hf2 : far ≤ 1000000000000) (hj : F * far + 2 * (J + G / 2) < R / 2) (ch : List Int) (n : Nat) (hn : n ≤ 41) :
    unwE F O J G R D I (mList F O J G R D I seed d0 far ch n) far = 0 ∧ unwR F O J G R D I (mList F O J G R D I seed d0 far ch n) far = unwL R (mList F O J G R D I seed d0 far ch n) := by
  have h := CtrOk.of hk
  have hl : (mList F O J G R D I seed d0 far ch n).length = n := by simp [mList]
  have hE : unwE F O J G R D I (mList F O J G R D I seed d0 far ch n) far = 0 := by
    unfold unwE
    rw [if_pos hk, if_neg (by omega), if_neg, if_neg (by omega)]
    intro hc
    rw [Bool.or_eq_true] at hc
    rcases hc with hc | hc
    · obtain ⟨x, hx, hx2⟩ := List.any_eq_true.1 hc
      obtain ⟨i, _, rfl⟩ := List.mem_map.1 hx
      have hr := mL_range (seed := seed) (d0 := d0) (far := far) h ch i
      unfold shownF at hx2
      simp at hx2
      omega
    · simp at hc; omega
  exact ⟨hE, by unfold unwR; rw [if_pos hE]⟩
/-- What the law asks of two of the values, and of one. -/
theorem turns_two {F O J G R D I seed d0 far : Int} (h : CtrOk F O J G R D I) (hf : 0 ≤ far) (hf2 : far ≤ 1000000000000) (hd : -100000000000000 ≤ d0 ∧ d0 ≤ 100000000000000) (hj : F * far + 2 * (J + G / 2) < R / 2) (ch : List Int) (n : Nat) (hn : n ≤ 41) :
    (∀ i, i < n → -100000000000000000 ≤ unwAt R (mList F O J G R D I seed d0 far ch n) i ∧ unwAt R (mList F O J G R D I seed d0 far ch n) i ≤ 100000000000000000 ∧ (unwAt R (mList F O J G R D I seed d0 far ch n) i - mL F O J G R D I seed d0 far ch i).tmod R = 0 ∧ -150000000000000 ≤ dAt d0 far ch i ∧ dAt d0 far ch i ≤ 150000000000000) ∧
    (∀ i k, i < n → k < n → -2 * (J + G / 2) ≤ unwAt R (mList F O J G R D I seed d0 far ch n) i - unwAt R (mList F O J G R D I seed d0 far ch n) k - F * (dAt d0 far ch i - dAt d0 far ch k) ∧ unwAt R (mList F O J G R D I seed d0 far ch n) i - unwAt R (mList F O J G R D I seed d0 far ch n) k - F * (dAt d0 far ch i - dAt d0 far ch k) ≤ 2 * (J + G / 2) ∧ -300000000000000000 ≤ F * (dAt d0 far ch i - dAt d0 far ch k) ∧ F * (dAt d0 far ch i - dAt d0 far ch k) ≤ 300000000000000000) := by
  obtain ⟨k0, hall⟩ := turns_all (seed := seed) (d0 := d0) h hf hj ch n
  have hr := h.r; have hF := h.f
  have hlen : (mList F O J G R D I seed d0 far ch n).length = n := by simp [mList]
  have hml : ∀ x ∈ mList F O J G R D I seed d0 far ch n, -R ≤ x ∧ x ≤ R := fun x hx => by
    obtain ⟨i, _, rfl⟩ := List.mem_map.1 hx
    have := mL_range (seed := seed) (d0 := d0) (far := far) h ch i
    omega
  have hdb : ∀ i, i < n → -150000000000000 ≤ dAt d0 far ch i ∧ dAt d0 far ch i ≤ 150000000000000 := fun i hi => by
    have := dAt_bound (d0 := d0) (M := 1000000000000) hf hf2 ⟨by omega, by omega⟩ ch i
    omega
  refine ⟨fun i hi => ?_, fun i k hi hk => ?_⟩
  · have b := unwAt_bound (R := R) (by omega) hml i (by omega)
    have m1 : R * ((i : Int) + 1) ≤ 1000000000000000 * 42 := Int.mul_le_mul hr.2 (by omega) (by omega) (by omega)
    obtain ⟨k, x, e, _, _, hu⟩ := hall i hi
    refine ⟨by omega, by omega, ?_, hdb i hi⟩
    have e2 : unwAt R (mList F O J G R D I seed d0 far ch n) i - mL F O J G R D I seed d0 far ch i = (k - k0) * R := by rw [Int.sub_mul]; omega
    rw [e2]
    exact Int.tmod_eq_zero_of_dvd (Int.dvd_mul_left _ _)
  · obtain ⟨k1, x1, _, a1, a2, hu1⟩ := hall i hi
    obtain ⟨k2, x2, _, b1, b2, hu2⟩ := hall k hk
    rw [Int.mul_sub, hu1, hu2]
    have c1 := hdb i hi
    have c2 := hdb k hk
    have m1 := mul_bound (F := F) (d := dAt d0 far ch i) (M := 150000000000000) (by omega) c1.1 c1.2
    have m2 := mul_bound (F := F) (d := dAt d0 far ch k) (M := 150000000000000) (by omega) c2.1 c2.2
    have m3 : F * 150000000000000 ≤ 150000000000000000 := by omega
    refine ⟨by omega, by omega, by omega, by omega⟩
end Go.Proofs.Ytjgnadighdbjlaa.C
