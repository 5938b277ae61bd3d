/- Contracts of calendar.number and calendar.Day, by hand. -/
import Derived.Test.YtleipbanadnchaaCc
namespace Go.Proofs.Ytleipbanadnchaa.C
open Go.RowKit Go.Shelf Go.Proofs.YtleipbanadnchaaW.PrintWords Go.Proofs.YtleipbanadnchaaW.PrintLast Go.Proofs.YtleipbanadnchaaW.PrintMore
set_option linter.unusedVariables false
set_option linter.unusedSimpArgs false
/-- The days of the months: feb of the second. -/
abbrev mcs (feb : Int) : Array Value := #[.int .i64 31, .int .i64 feb, .int .i64 31, .int .i64 30, .int .i64 31, .int .i64 30, .int .i64 31, .int .i64 31, .int .i64 30, .int .i64 31, .int .i64 30, .int .i64 31]
theorem mths_at (y feb : Int) (hf : feb = if y % 4 = 0 then 29 else 28) {k : Nat} (hk : k < 12) : (mcs feb)[k]? = some (.int .i64 (mlen y ((k : Int) + 1))) := by
  subst hf
  have h : k = 0 ∨ k = 1 ∨ k = 2 ∨ k = 3 ∨ k = 4 ∨ k = 5 ∨ k = 6 ∨ k = 7 ∨ k = 8 ∨ k = 9 ∨ k = 10 ∨ k = 11 := by omega
  rcases h with rfl | rfl | rfl | rfl | rfl | rfl | rfl | rfl | rfl | rfl | rfl | rfl <;> simp [mlen]
theorem slice134 (b k : Nat) (h1 : k ≤ 12) (w : World) : (Instr.sliceAt 134 (.pointer (some ⟨b, 0, none⟩)) none (some (.int .i64 k)) none).run Try.prog w = .ok (.slice (some ⟨b, 0, none⟩) k 12) w := by
  have e : Try.prog.arrayLen 134 = 12 := by kernel_rfl
  have el : Try.prog.elem 134 = 3 := by kernel_rfl
  have ht : Try.prog.underlying 134 = some (.array (Try.prog.arrayLen 134) (Try.prog.elem 134)) := by rw [e, el]; exact Try.underlying134
  have := run_sliceAt_array_h (P := Try.prog) w 134 ⟨b, 0, none⟩ ht .i64 k (by omega) (by rw [e]; omega)
  rw [this, e, el]
  simp [go_sem]
set_option maxRecDepth 100000 in
theorem number_calls (y m d : Int) (hy0 : 1972 ≤ y) (hy1 : y ≤ 3000) (hm0 : 1 ≤ m) (hm1 : m ≤ 12) (hd0 : -100000 ≤ d) (hd1 : d ≤ 100000) (w : World) :
    Calls Try.prog 80 #[.int .i64 y, .int .i64 m, .int .i64 d] w fun e w' => e = .returned (.int .i64 (dayN y m d)) ∧ Below w.heap.size w w' := by
  have hny : 41316 ≤ ny y ∧ ny y ≤ 1000000 := by unfold ny; omega
  have hcb := cum_bound y
  obtain ⟨k, rfl⟩ : ∃ k : Nat, m = (k : Int) + 1 := ⟨(m - 1).toNat, by omega⟩
  have hsl := fun b w => slice134 b k (by omega) w
  have hk : k ≤ 11 := by omega
  have hres : dayN y ((k : Int) + 1) d = ny y + d + cum y k := by unfold dayN; rw [show ((k : Int) + 1 - 1).toNat = k by omega]; omega
  rw [hres]
  clear hres hm0 hm1
  have HC := Aside0.mk hcb
  clear hcb
  go_enter Try.func80, Try.ntmps80
  go_wp2_with fail
  refine (newYear_calls y hy0 hy1 _).mono ?_
  rintro en w1 ⟨rfl, rfl⟩
  generalize hn0 : ny y = n0 at hny
  have HN0 := Aside0.mk hn0
  clear hn0
  go_wp2_with fail
  refine (months_calls y (by omega) (by omega) _).mono ?_
  rintro en w2 ⟨rfl, hB⟩
  unfold mths
  generalize hf : (if y % 4 = 0 then (29 : Int) else 28) = feb
  have HF := Aside0.mk hf
  clear hf
  have HB := Aside0.mk hB
  clear hB
  go_wp2_with fail
  have HB0 : Aside0 (Below w1.heap.size w1 (w2.alloc (.cells (mcs feb) 134)) ∧ (w2.alloc (.cells (mcs feb) 134)).heap[w2.heap.size]? = some (.cells (mcs feb) 134 (0, 0))) := ⟨HB.out.alloc (by have := HB.out.size; omega) _, al_new _ _ _ rfl⟩
  go_loopw [21, 7] (fun v21 v7 wr => ∃ i : Nat, i ≤ k ∧ v21 = .int .i64 i ∧ v7 = .int .i64 (n0 + d + cum y i) ∧ Aside0 (Below w1.heap.size w1 wr ∧ wr.heap[w2.heap.size]? = some (.cells (mcs feb) 134 (0, 0))))
    (fun v _ _ => k - (intOf v).toNat)
  case atStart => exact ⟨0, by omega, rfl, by simp [cum], HB0⟩
  case round =>
    obtain ⟨i, hi, rfl, rfl, HW⟩ := hrel
    have hci := HC.out i
    by_cases hlt : i < k
    · have hc : wr.cell? ⟨w2.heap.size, i, none⟩ = some (.int .i64 (mlen y ((i : Int) + 1))) := (blk_cell HW.out.2 i).trans (mths_at y feb HF.out.symm (by omega))
      have hml := mlen_bound y ((i : Int) + 1)
      have HS : Aside0 (cum y (i + 1) = cum y i + mlen y ((i : Int) + 1)) := ⟨rfl⟩
      generalize mlen y ((i : Int) + 1) = ml at *
      generalize cum y i = ci at *
      have d1 : decide ((i : Int) < (k : Int)) = true := decide_eq_true (by omega)
      go_wp2
      go_roundw
      case rel => exact ⟨i + 1, by omega, by go_num, by rw [HS.out]; simp; omega, HW⟩
      case measure => simp [intOf]; omega
    · obtain rfl : i = k := by omega
      go_wp2
      go_ret
      exact ⟨by rw [HN0.out]; rfl, HW.out.1⟩
theorem day_true (y m d : Int) (h : okD y m d = true) (w : World) :
    Calls Try.prog 26 #[.int .i64 y, .int .i64 m, .int .i64 d] w fun e w' => e = .returned (.tuple #[.int .i64 (dayN y m d), .int .i64 0]) ∧ Below w.heap.size w w' := by
  have h' := okD_iff.1 h
  have hmb := mlen_bound y m
  have a79 := fun w => exists_calls y m d w
  rw [h] at a79
  go_enter Try.func26, Try.ntmps26
  go_wp2_with fail
  refine (a79 _).mono ?_
  rintro en w1 ⟨rfl, hB⟩
  go_wp2_with fail
  refine (number_calls y m d (by omega) (by omega) (by omega) (by omega) (by omega) (by omega) _).mono ?_
  rintro en w2 ⟨rfl, hB2⟩
  go_wp2
  go_ret2
  exact ⟨rfl, hB.trans (hB2.mono hB.size)⟩
theorem day_false (y m d : Int) (h : okD y m d = false) (w : World) :
    Calls Try.prog 26 #[.int .i64 y, .int .i64 m, .int .i64 d] w fun e w' => e = .returned (.tuple #[.int .i64 0, .int .i64 90]) ∧ Below w.heap.size w w' := by
  have a79 := fun w => exists_calls y m d w
  rw [h] at a79
  go_enter Try.func26, Try.ntmps26
  go_wp2_with fail
  refine (a79 _).mono ?_
  rintro en w1 ⟨rfl, hB⟩
  go_wp2
  go_ret2
  exact ⟨rfl, hB⟩
/-- The number of a day, and what is wrong with it. -/
def dayV (y m d : Int) : Int := if okD y m d = true then dayN y m d else 0
def dayE (y m d : Int) : Int := if okD y m d = true then 0 else 90
theorem day_calls (y m d : Int) (w : World) :
    Calls Try.prog 26 #[.int .i64 y, .int .i64 m, .int .i64 d] w fun e w' => e = .returned (.tuple #[.int .i64 (dayV y m d), .int .i64 (dayE y m d)]) ∧ Below w.heap.size w w' := by
  unfold dayV dayE
  cases h : okD y m d
  · exact day_false y m d h w
  · exact day_true y m d h w
end Go.Proofs.Ytleipbanadnchaa.C
