/- Contracts of the calendar's small functions, by hand. -/
import Derived.Lib.ConvBytes
import Derived.Laws.Slices
import Derived.WalkKit
import Derived.KernelRfl
import Derived.RowKit3
import Derived.Deep.LoopGhost
import Derived.Deep.QuietTactic
import Derived.BigQuiet
import Derived.WideLaws
import Derived.Deep.DeepCutAuto
import Derived.Deep.CutBlock
import Derived.Deep.RegionHeld3
import Derived.Laws.Rows
import Derived.ArgAppend
import Derived.Laws.IdiomCopy
import Derived.OrdersHeld
import Derived.Laws.BitsLemmas
import Derived.RowKit
import Derived.Shelf.Abstract
import Derived.Maps.AppendAt
import Derived.Lib.SliceRun
import Derived.Deep.Draws
import Derived.Deep.Cut
import Derived.Laws.ResultCell
import Derived.Maps.Own
import Derived.Maps.OwnOps
import Derived.Test.YtleipbanadnchaaProg
import Derived.Test.YtleipbanadnchaaCb
import Derived.Test.YtleipbanadnchaaWWords
import Derived.Test.YtleipbanadnchaaWLast
import Derived.Test.YtleipbanadnchaaWMore
namespace Go.Proofs.Ytleipbanadnchaa.C
open Go.RowKit Go.Shelf Go.Proofs.YtleipbanadnchaaW.PrintWords Go.Proofs.YtleipbanadnchaaW.PrintLast Go.Proofs.YtleipbanadnchaaW.PrintMore
set_option linter.unusedVariables false
set_option linter.unusedSimpArgs false
theorem al_new (w : World) (o : Obj) (k : Nat) (h : k = w.heap.size) : (w.alloc o).heap[k]? = some o := by rw [h]; exact heap_alloc_new w o
theorem al_old {w : World} {o o' : Obj} {k : Nat} (h : w.heap[k]? = some o) : (w.alloc o').heap[k]? = some o := (Below.heap_alloc w o' k (Array.getElem?_eq_some_iff.1 h).1).trans h
theorem cell_on {W1 w' : World} {p : Addr} {v : Value} (hB : Below W1.heap.size W1 w') (h : W1.cell? p = some v) : w'.cell? p = some v := (hB.cell (World.block_lt_of_cell? _ _ h)).trans h
theorem within_calls (n a b : Int) (w : World) :
    Calls Try.prog 81 #[.int .i64 n, .int .i64 a, .int .i64 b] w fun e w' => e = .returned (.bool (decide (a ≤ n) && decide (n ≤ b))) ∧ Below w.heap.size w w' := by
  cases h1 : decide (a ≤ n)
  · go_enter Try.func81, Try.ntmps81
    go_wp2
    repeat (go_quiet (fail); try go_wp2)
    go_ret
    exact ⟨rfl, Below.refl _ _⟩
  · cases h2 : decide (n ≤ b)
    all_goals
      go_enter Try.func81, Try.ntmps81
      go_wp2
      repeat (go_quiet (fail); try go_wp2)
      go_ret
      exact ⟨rfl, Below.refl _ _⟩
theorem rin_calls (n a b : Int) (w : World) :
    Calls Try.prog 104 #[.int .i64 n, .int .i64 a, .int .i64 b] w fun e w' => e = .returned (.bool (decide (a ≤ n) && decide (n ≤ b))) ∧ Below w.heap.size w w' := by
  cases h1 : decide (a ≤ n)
  · go_enter Try.func104, Try.ntmps104
    go_wp2
    repeat (go_quiet (fail); try go_wp2)
    go_ret
    exact ⟨rfl, Below.refl _ _⟩
  · cases h2 : decide (n ≤ b)
    all_goals
      go_enter Try.func104, Try.ntmps104
      go_wp2
      repeat (go_quiet (fail); try go_wp2)
      go_ret
      exact ⟨rfl, Below.refl _ _⟩
theorem known_calls (n : Int) (w : World) :
    Calls Try.prog 87 #[.int .i64 n] w fun e w' => e = .returned (.bool (decide (41317 ≤ n) && decide (n ≤ 88068))) ∧ Below w.heap.size w w' := by
  go_enter Try.func87, Try.ntmps87
  go_wp2_with fail
  refine (within_calls n 41317 88068 _).mono ?_
  rintro en w1 ⟨rfl, hB⟩
  go_wp2
  go_ret
  exact ⟨rfl, hB⟩
theorem newYear_calls (y : Int) (hy0 : 1972 ≤ y) (hy1 : y ≤ 3000) (w : World) :
    Calls Try.prog 107 #[.int .i64 y] w fun e w' => e = .returned (.int .i64 (ny y)) ∧ w' = w := by
  go_enter Try.func107, Try.ntmps107
  go_wp2
  go_ret
  exact ⟨by unfold ny; rfl, rfl⟩
/-- The days of the months, as a value. -/
def mths (y : Int) : Value := .agg #[.int .i64 31, .int .i64 (if y % 4 = 0 then 29 else 28), .int .i64 31, .int .i64 30, .int .i64 31, .int .i64 30, .int .i64 31, .int .i64 31, .int .i64 30, .int .i64 31, .int .i64 30, .int .i64 31]
theorem info134 : (Try.prog.info? 134).map (·.size) = some 12 := by kernel_rfl
theorem months_calls (y : Int) (hy0 : 1900 ≤ y) (hy1 : y ≤ 3000) (w : World) :
    Calls Try.prog 86 #[.int .i64 y] w fun e w' => e = .returned (mths y) ∧ Below w.heap.size w w' := by
  by_cases h : y % 4 = 0
  · have d1 : decide (y % 4 = 0) = true := decide_eq_true h
    unfold mths
    rw [if_pos h]
    go_enter Try.func86, Try.ntmps86
    go_wp2
    exact bodyPost_ret (results_cell_row rfl _ _ w.heap.size 134 _ (0, 0) _ rfl (al_old (al_new _ _ _ rfl)) Try.underlying134 rfl info134) rfl ⟨rfl, ((Below.refl _ _).alloc (Nat.le_refl _) _).alloc (by simp) _⟩
  · have d1 : decide (y % 4 = 0) = false := decide_eq_false h
    unfold mths
    rw [if_neg h]
    go_enter Try.func86, Try.ntmps86
    go_wp2
    exact bodyPost_ret (results_cell_row rfl _ _ w.heap.size 134 _ (0, 0) _ rfl (al_old (al_new _ _ _ rfl)) Try.underlying134 rfl info134) rfl ⟨rfl, ((Below.refl _ _).alloc (Nat.le_refl _) _).alloc (by simp) _⟩
theorem index_mths (y i : Int) (h0 : 0 ≤ i) (h1 : i < 12) (w : World) : (Instr.index 134 (mths y) (.int .i64 i)).run Try.prog w = .ok (.int .i64 (mlen y (i + 1))) w := by
  have hn : 0 ≤ i ∧ i < (12 : Int) := ⟨h0, h1⟩
  have h : i = 0 ∨ i = 1 ∨ i = 2 ∨ i = 3 ∨ i = 4 ∨ i = 5 ∨ i = 6 ∨ i = 7 ∨ i = 8 ∨ i = 9 ∨ i = 10 ∨ i = 11 := by omega
  rcases h with rfl | rfl | rfl | rfl | rfl | rfl | rfl | rfl | rfl | rfl | rfl | rfl <;> simp [Instr.index, run_underlying Try.underlying134, asIntOf, go_sem, mths, mlen]
set_option maxRecDepth 100000 in
theorem exists_calls (y m d : Int) (w : World) :
    Calls Try.prog 79 #[.int .i64 y, .int .i64 m, .int .i64 d] w fun e w' => e = .returned (.bool (okD y m d)) ∧ Below w.heap.size w w' := by
  by_cases h1 : 1972 ≤ y ∧ y ≤ 2099
  · have e1 : (decide (1972 ≤ y) && decide (y ≤ 2099)) = true := by simp [h1]
    have a81 := fun w => within_calls y 1972 2099 w
    rw [e1] at a81
    by_cases h2 : 1 ≤ m ∧ m ≤ 12
    · have e2 : (decide (1 ≤ m) && decide (m ≤ 12)) = true := by simp [h2]
      have b81 := fun w => within_calls m 1 12 w
      have hix := fun w => index_mths y (m - 1) (by omega) (by omega) w
      rw [show m - 1 + 1 = m by omega] at hix
      rw [e2] at b81
      have hr : okD y m d = (decide (1 ≤ d) && decide (d ≤ mlen y m)) := by rw [Bool.eq_iff_iff]; simp [okD]; omega
      rw [hr]
      go_enter Try.func79, Try.ntmps79
      go_wp2_with fail
      refine (a81 _).mono ?_
      rintro en w2 ⟨rfl, hB2⟩
      go_wp2_with fail
      refine (b81 _).mono ?_
      rintro en w3 ⟨rfl, hB3⟩
      clear a81 b81
      go_wp2_with fail
      refine (months_calls y (by omega) (by omega) _).mono ?_
      rintro en w4 ⟨rfl, hB4⟩
      go_wp2_with fail
      refine (within_calls d 1 _ _).mono ?_
      rintro en w5 ⟨rfl, hB5⟩
      go_wp2
      go_ret
      exact ⟨rfl, ((hB2.trans (hB3.mono hB2.size)).trans (hB4.mono (by have := hB2.size; have := hB3.size; omega))).trans (hB5.mono (by have := hB2.size; have := hB3.size; have := hB4.size; omega))⟩
    · have e2 : (decide (1 ≤ m) && decide (m ≤ 12)) = false := by simp; omega
      have b81 := fun w => within_calls m 1 12 w
      rw [e2] at b81
      have hr : okD y m d = false := by simp [okD]; omega
      rw [hr]
      go_enter Try.func79, Try.ntmps79
      go_wp2_with fail
      refine (a81 _).mono ?_
      rintro en w2 ⟨rfl, hB2⟩
      go_wp2_with fail
      refine (b81 _).mono ?_
      rintro en w3 ⟨rfl, hB3⟩
      go_wp2
      go_ret
      exact ⟨rfl, hB2.trans (hB3.mono hB2.size)⟩
  · have e1 : (decide (1972 ≤ y) && decide (y ≤ 2099)) = false := by simp; omega
    have a81 := fun w => within_calls y 1972 2099 w
    rw [e1] at a81
    have hr : okD y m d = false := by simp [okD]; omega
    rw [hr]
    go_enter Try.func79, Try.ntmps79
    go_wp2_with fail
    refine (a81 _).mono ?_
    rintro en w2 ⟨rfl, hB2⟩
    go_wp2
    go_ret
    exact ⟨rfl, hB2⟩
end Go.Proofs.Ytleipbanadnchaa.C
