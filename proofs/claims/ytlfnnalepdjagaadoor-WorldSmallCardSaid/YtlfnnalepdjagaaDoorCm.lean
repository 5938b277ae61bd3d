/- What Track answers. -/
import Derived.OwnWalk
import Derived.BigRegion
import Derived.Deep.RegionHeld3
import Derived.Test.YtlfnnalepdjagaaDoorBf
import Derived.Test.YtlfnnalepdjagaaDoorBd
import Derived.Test.YtlfnnalepdjagaaDoorCl
import Derived.Test.YtlfnnalepdjagaaDoorAs
namespace Go.Proofs.YtlfnnalepdjagaaDoor.C
open Go.RowKit Go.Shelf Go.Maps Go.Proofs.YtlfnnalepdjagaaDoorW.PrintWords Go.Proofs.YtlfnnalepdjagaaDoorW.PrintLast Go.Proofs.YtlfnnalepdjagaaDoorW.PrintMore
set_option linter.unusedVariables false
set_option linter.unusedSimpArgs false
theorem steps_app (seed k wk : Int) (m : Nat) : ∀ (n : Nat) (a : Int), stepsT seed k wk a (n + m) = stepsT seed k wk a n ++ stepsT seed k wk (a + n) m
  | 0, a => by simp [stepsT]
  | n + 1, a => by
    rw [show n + 1 + m = (n + m) + 1 by omega, stepsT, steps_app seed k wk m n (a + 1), stepsT]
    simp only [List.cons_append, show a + 1 + (n : Int) = a + ((n + 1 : Nat) : Int) by omega]
theorem foldl_from : ∀ (l : List Int) (x : Int), l.foldl (· + ·) x = x + l.foldl (· + ·) 0
  | [], x => by simp
  | y :: l, x => by
    rw [List.foldl_cons, List.foldl_cons, foldl_from l (x + y), foldl_from l (0 + y)]
    omega
theorem walked_add {seed k wk a b : Int} (ha : 0 ≤ a) (hab : a ≤ b) : walkedF seed k wk 0 a + walkedF seed k wk a b = walkedF seed k wk 0 b := by
  unfold walkedF
  have hm : stepsN 0 b = stepsN 0 a + stepsN a b := by unfold stepsN; omega
  have e2 : (stepsN 0 a : Int) = a / 100 := by unfold stepsN; omega
  rw [hm, steps_app, List.foldl_append, e2, foldl_from (stepsT seed k wk (0 / 100 + 1 + a / 100) (stepsN a b)), show (0 : Int) / 100 + 1 + a / 100 = a / 100 + 1 by omega]
theorem walked_00 (seed k wk : Int) : walkedF seed k wk 0 0 = 0 := by unfold walkedF stepsN; simp [stepsT]
def icells (l : List Int) : List Value := pcells (l.map fun x => (x, [Value.int .i64 x]))
theorem icells_snoc (l : List Int) (x : Int) : icells (l ++ [x]) = icells l ++ [.int .i64 x] := by
  unfold icells; rw [List.map_append, pcells_append]; simp [pcells]
theorem own_I {W : World} {base e : Nat} {v : Value} {l : List Int} (h : W.ownsRow base e 1 v l.length (icells l)) : ∃ A c, v = .slice A l.length c ∧ Kd.C kI W A l.length l := by
  have h2 := own_C kI (W := W) (l.map fun x => (x, [Value.int .i64 x])) (by rw [List.length_map]; exact h) (fun x hx => by obtain ⟨c, _, rfl⟩ := List.mem_map.1 hx; rfl) (fun x hx => by obtain ⟨c, _, rfl⟩ := List.mem_map.1 hx; rfl)
  rw [List.length_map, List.map_map] at h2
  have e2 : ((fun x : Int × List Value => x.1) ∘ fun x : Int => (x, [Value.int .i64 x])) = id := rfl
  rw [e2, List.map_id] at h2
  obtain ⟨A, c, e1, _, hC⟩ := h2
  exact ⟨A, c, e1, hC⟩
/-- The error of a track. -/
def errTr (chs : List T3) (cks : List Ck) (k fr st n : Int) : Int :=
  if errK chs cks k = 0 then
    if st < 1 ∨ ¬ (0 ≤ n ∧ n ≤ 20000) then 1
    else if ¬ (0 ≤ fr ∧ fr ≤ 1000000) ∨ (1 < n ∧ 1000000 - fr < (n - 1) * st) then 21
    else if (List.range n.toNat).all (fun (i : Nat) => runsF (ckAt cks k).es (fr + (i : Int) * st)) then 0 else 22
  else errK chs cks k
def trackV (seed : Int) (chs : List T3) (cks : List Ck) (k fr st : Int) (n : Nat) : List Int := (List.range n).map fun (i : Nat) => shownF seed chs cks k (fr + (i : Int) * st)
theorem trackV_len (seed : Int) (chs : List T3) (cks : List Ck) (k fr st : Int) (n : Nat) : (trackV seed chs cks k fr st n).length = n := by unfold trackV; simp
theorem trackV_next (seed : Int) (chs : List T3) (cks : List Ck) (k fr st : Int) (n : Nat) : trackV seed chs cks k fr st (n + 1) = trackV seed chs cks k fr st n ++ [shownF seed chs cks k (fr + n * st)] := by
  unfold trackV; rw [List.range_succ, List.map_append]; rfl
def trackL (seed : Int) (chs : List T3) (cks : List Ck) (k fr st n : Int) : List Int := if errTr chs cks k fr st n = 0 then trackV seed chs cks k fr st n.toNat else []
theorem tr_arg {chs : List T3} {cks : List Ck} {k fr st n : Int} (hk : errK chs cks k = 0) (h : st < 1 ∨ ¬ (0 ≤ n ∧ n ≤ 20000)) : errTr chs cks k fr st n = 1 := by unfold errTr; rw [if_pos hk, if_pos h]
theorem tr_time {chs : List T3} {cks : List Ck} {k fr st n : Int} (hk : errK chs cks k = 0) (h : ¬ (st < 1 ∨ ¬ (0 ≤ n ∧ n ≤ 20000))) (h2 : ¬ (0 ≤ fr ∧ fr ≤ 1000000) ∨ (1 < n ∧ 1000000 - fr < (n - 1) * st)) : errTr chs cks k fr st n = 21 := by unfold errTr; rw [if_pos hk, if_neg h, if_pos h2]
theorem tr_run {chs : List T3} {cks : List Ck} {k fr st n : Int} (hk : errK chs cks k = 0) (h : ¬ (st < 1 ∨ ¬ (0 ≤ n ∧ n ≤ 20000))) (h2 : ¬ (¬ (0 ≤ fr ∧ fr ≤ 1000000) ∨ (1 < n ∧ 1000000 - fr < (n - 1) * st))) : errTr chs cks k fr st n = if (List.range n.toNat).all (fun (i : Nat) => runsF (ckAt cks k).es (fr + (i : Int) * st)) then 0 else 22 := by unfold errTr; rw [if_pos hk, if_neg h, if_neg h2]
theorem tr_at {fr st n : Int} (hst : 1 ≤ st) (hfr : 0 ≤ fr ∧ fr ≤ 1000000) (h2 : ¬ (1 < n ∧ 1000000 - fr < (n - 1) * st)) {j : Nat} (hj : (j : Int) < n) : 0 ≤ (j : Int) * st ∧ fr + j * st ≤ 1000000 := by
  have h0 : 0 ≤ (j : Int) * st := Int.mul_nonneg (by omega) (by omega)
  refine ⟨h0, ?_⟩
  rcases Nat.eq_zero_or_pos j with rfl | hp
  · simp; omega
  · have h3 : (n - 1) * st ≤ 1000000 - fr := by
      rcases Int.lt_or_le (1000000 - fr) ((n - 1) * st) with h | h
      · exact absurd ⟨by omega, h⟩ h2
      · exact h
    have h4 : (j : Int) * st ≤ (n - 1) * st := Int.mul_le_mul_of_nonneg_right (by omega) (by omega)
    omega
def lastS (fr st : Int) : Nat → Int
  | 0 => 0
  | j + 1 => fr + j * st
theorem tr_quo {fr st n : Int} (hfr : 0 ≤ fr ∧ fr ≤ 1000000) (hn : 1 < n) : (1000000 - fr) / (n - 1) < st ↔ 1000000 - fr < (n - 1) * st := by
  constructor
  · intro h
    have h1 := Int.lt_ediv_add_one_mul_self (1000000 - fr) (show 0 < n - 1 by omega)
    have h2 : ((1000000 - fr) / (n - 1) + 1) * (n - 1) ≤ st * (n - 1) := Int.mul_le_mul_of_nonneg_right (by omega) (by omega)
    rw [Int.mul_comm (n - 1) st]
    omega
  · intro h
    exact Int.ediv_lt_of_lt_mul (by omega) (by rw [Int.mul_comm]; exact h)
end Go.Proofs.YtlfnnalepdjagaaDoor.C
