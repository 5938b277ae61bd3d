/- Contracts of calendar.Seconds and FromUnix on the examples' ways, by hand. -/
import Derived.OwnWalk
import Derived.Test.YtleipbanadnchaaCm
namespace Go.Proofs.Ytleipbanadnchaa.C
open Go.RowKit Go.Shelf Go.Maps Go.Proofs.YtleipbanadnchaaW.PrintWords Go.Proofs.YtleipbanadnchaaW.PrintLast Go.Proofs.YtleipbanadnchaaW.PrintMore
set_option linter.unusedVariables false
set_option linter.unusedSimpArgs false
/-- A date, as a value. -/
abbrev dateV (y m d h i s : Int) : Value := .agg #[.int .i64 y, .int .i64 m, .int .i64 d, .int .i64 h, .int .i64 i, .int .i64 s]
set_option maxHeartbeats 4000000 in
set_option maxRecDepth 100000 in
/-- A leap second: 'second' of a date at 23:59:60 of a day of 86401 seconds. -/
theorem second_leap (kb : Nat) (b u : Int) (A : Option Addr) (c : Nat) (l : List (Int × Int)) (y m d : Int) (w : World) (hc : CtAt w kb b A c u l) (hR : Right u l) (hlen : l.length ≤ 100)
    (hok : okD y m d = true) (hday : dayN y m d < u) (hst : stepF l (dayN y m d) = 1) :
    Calls Try.prog 67 #[.pointer (some ⟨kb, 0, none⟩), dateV y m d 23 59 60] w fun e w' => e = .returned (.tuple #[.int .i64 (beginF l (dayN y m d) + 86400), .bool true]) ∧ Below w.heap.size w w' := by
  have h' := okD_iff.1 hok
  have hmb := mlen_bound y m
  have a79 := fun w => exists_calls y m d w
  have a80 := fun w => number_calls y m d (by omega) (by omega) (by omega) (by omega) (by omega) (by omega) w
  have hdb : 0 ≤ dayN y m d ∧ dayN y m d ≤ 100000 := by
    have := cum_bound y (m - 1).toNat
    unfold dayN ny; omega
  have a88 := fun w hc => length_calls kb b u A c l (dayN y m d) (wf_64 (by omega) (by omega)) w hc hR
  have a115 := fun w hc => begin_calls kb b u A c l (dayN y m d) (by omega) (by omega) w hc hR hlen
  have hgb := hR.take l.length (dayN y m d)
  rw [List.take_length] at hgb
  have hbb : -1000000000000 ≤ beginF l (dayN y m d) ∧ beginF l (dayN y m d) ≤ 1000000000000 := by unfold beginF; omega
  rw [hok] at a79
  rw [hst] at a88
  have HC := Aside0.mk hc
  clear hc hR hmb hgb hst hok
  generalize beginF l (dayN y m d) = g at *
  generalize dayN y m d = n at *
  have dn : decide (u ≤ n) = false := decide_eq_false (by omega)
  go_enter Try.func67, Try.ntmps67
  go_wp2_with fail
  refine (a79 _).mono ?_
  rintro en w1 ⟨rfl, hB⟩
  have HK : Aside0 (w1.heap[w.heap.size]? = some (.cells #[.int .i64 y, .int .i64 m, .int .i64 d, .int .i64 23, .int .i64 59, .int .i64 60] 30 (0, 0)) ∧ Below w.heap.size w w1) := ⟨(hB.block _ (by simp)).trans (al_new _ _ _ rfl), ((Below.refl _ w).alloc (Nat.le_refl _) _).trans (hB.mono (by simp))⟩
  clear hB
  have x3 : w1.cell? ⟨w.heap.size, 3, none⟩ = some (.int .i64 (23)) := blk_cell HK.out.1 3
  go_wp2_with fail
  clear x3
  refine (within_calls 23 0 23 _).mono ?_
  rintro en w2 ⟨rfl, hB⟩
  replace HK : Aside0 (w2.heap[w.heap.size]? = some (.cells #[.int .i64 y, .int .i64 m, .int .i64 d, .int .i64 23, .int .i64 59, .int .i64 60] 30 (0, 0)) ∧ Below w.heap.size w w2) := ⟨(hB.block _ (Array.getElem?_eq_some_iff.1 HK.out.1).1).trans HK.out.1, HK.out.2.trans (hB.mono HK.out.2.size)⟩
  clear hB
  have x4 : w2.cell? ⟨w.heap.size, 4, none⟩ = some (.int .i64 (59)) := blk_cell HK.out.1 4
  go_wp2_with fail
  clear x4
  refine (within_calls 59 0 59 _).mono ?_
  rintro en w3 ⟨rfl, hB⟩
  replace HK : Aside0 (w3.heap[w.heap.size]? = some (.cells #[.int .i64 y, .int .i64 m, .int .i64 d, .int .i64 23, .int .i64 59, .int .i64 60] 30 (0, 0)) ∧ Below w.heap.size w w3) := ⟨(hB.block _ (Array.getElem?_eq_some_iff.1 HK.out.1).1).trans HK.out.1, HK.out.2.trans (hB.mono HK.out.2.size)⟩
  clear hB
  have x5 : w3.cell? ⟨w.heap.size, 5, none⟩ = some (.int .i64 (60)) := blk_cell HK.out.1 5
  go_wp2_with fail
  clear x5
  refine (within_calls 60 0 60 _).mono ?_
  rintro en w4 ⟨rfl, hB⟩
  replace HK : Aside0 (w4.heap[w.heap.size]? = some (.cells #[.int .i64 y, .int .i64 m, .int .i64 d, .int .i64 23, .int .i64 59, .int .i64 60] 30 (0, 0)) ∧ Below w.heap.size w w4) := ⟨(hB.block _ (Array.getElem?_eq_some_iff.1 HK.out.1).1).trans HK.out.1, HK.out.2.trans (hB.mono HK.out.2.size)⟩
  clear hB
  have x0 : w4.cell? ⟨w.heap.size, 0, none⟩ = some (.int .i64 (y)) := blk_cell HK.out.1 0
  have x1 : w4.cell? ⟨w.heap.size, 1, none⟩ = some (.int .i64 (m)) := blk_cell HK.out.1 1
  have x2 : w4.cell? ⟨w.heap.size, 2, none⟩ = some (.int .i64 (d)) := blk_cell HK.out.1 2
  go_wp2_with fail
  clear x0
  clear x1
  clear x2
  refine (a80 _).mono ?_
  rintro en w5 ⟨rfl, hB⟩
  replace HK : Aside0 (w5.heap[w.heap.size]? = some (.cells #[.int .i64 y, .int .i64 m, .int .i64 d, .int .i64 23, .int .i64 59, .int .i64 60] 30 (0, 0)) ∧ Below w.heap.size w w5) := ⟨(hB.block _ (Array.getElem?_eq_some_iff.1 HK.out.1).1).trans HK.out.1, HK.out.2.trans (hB.mono HK.out.2.size)⟩
  clear hB
  have x3 : w5.cell? ⟨w.heap.size, 3, none⟩ = some (.int .i64 (23)) := blk_cell HK.out.1 3
  have x4 : w5.cell? ⟨w.heap.size, 4, none⟩ = some (.int .i64 (59)) := blk_cell HK.out.1 4
  have x5 : w5.cell? ⟨w.heap.size, 5, none⟩ = some (.int .i64 (60)) := blk_cell HK.out.1 5
  have HCx := HC.out.below HK.out.2
  obtain ⟨_, _, hkx, _⟩ := HCx
  have u2 : w5.cell? ⟨kb, 2, none⟩ = some (.int .i64 u) := blk_cell hkx 2
  clear hkx
  go_wp2_with fail
  refine (a88 _ (HC.out.below HK.out.2)).mono ?_
  rintro en w6 ⟨rfl, rfl⟩
  go_wp2_with fail
  refine (a115 _ (HC.out.below HK.out.2)).mono ?_
  rintro en w7 ⟨rfl, hB⟩
  go_wp2
  go_ret2
  exact ⟨rfl, HK.out.2.trans (hB.mono HK.out.2.size)⟩
end Go.Proofs.Ytleipbanadnchaa.C
