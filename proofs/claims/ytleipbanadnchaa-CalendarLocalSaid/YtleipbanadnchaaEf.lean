/- Contracts of calendar.Seconds, all ways, by hand. -/
import Derived.OwnWalk
import Derived.Test.YtleipbanadnchaaCn
import Derived.Test.YtleipbanadnchaaDp
namespace Go.Proofs.Ytleipbanadnchaa.C
open Go.RowKit Go.Shelf Go.Maps Go.Proofs.YtleipbanadnchaaW.PrintWords Go.Proofs.YtleipbanadnchaaW.PrintLast Go.Proofs.YtleipbanadnchaaW.PrintMore
set_option linter.unusedVariables false
set_option linter.unusedSimpArgs false
set_option maxHeartbeats 2000000 in
set_option maxRecDepth 100000 in
theorem second_noday (kb : Nat) (b u : Int) (A : Option Addr) (c : Nat) (l : List (Int × Int)) (y m d h i s : Int) (w : World) (hc : CtAt w kb b A c u l) (hk : checkF b l u = 0) (hok : okD y m d = false) :
    Calls Try.prog 67 #[.pointer (some ⟨kb, 0, none⟩), dateV y m d h i s] w fun e w' => e = .returned (.tuple #[.int .i64 0, .bool false]) ∧ Below w.heap.size w w' := by
  have HC := Aside0.mk hc
  obtain ⟨h1, h2, h3, h4, h5, h6⟩ := checkF_right hk
  have H6 := Aside0.mk h6
  clear hc hk h6
  have a79 := fun w => exists_calls y m d w
  rw [hok] at a79
  clear hok
  go_enter Try.func67, Try.ntmps67
  go_wp2_with fail
  refine (a79 _).mono ?_
  rintro en w1 ⟨rfl, hB⟩
  have hv : Below w.heap.size w w1 := ((Below.refl _ w).alloc (Nat.le_refl _) _).trans (hB.mono (by simp))
  have kd : w1.heap[w.heap.size]? = some (.cells #[.int .i64 y, .int .i64 m, .int .i64 d, .int .i64 h, .int .i64 i, .int .i64 s] 30 (0, 0)) := (hB.block _ (by simp)).trans (al_new _ _ _ (by simp))
  have x0 : w1.cell? ⟨w.heap.size, 0, none⟩ = some (.int .i64 y) := blk_cell kd 0
  have x1 : w1.cell? ⟨w.heap.size, 1, none⟩ = some (.int .i64 m) := blk_cell kd 1
  have x2 : w1.cell? ⟨w.heap.size, 2, none⟩ = some (.int .i64 d) := blk_cell kd 2
  have x3 : w1.cell? ⟨w.heap.size, 3, none⟩ = some (.int .i64 h) := blk_cell kd 3
  have x4 : w1.cell? ⟨w.heap.size, 4, none⟩ = some (.int .i64 i) := blk_cell kd 4
  have x5 : w1.cell? ⟨w.heap.size, 5, none⟩ = some (.int .i64 s) := blk_cell kd 5
  clear hB kd
  go_wp2
  go_ret2
  exact ⟨rfl, hv⟩
set_option maxHeartbeats 2000000 in
set_option maxRecDepth 100000 in
theorem second_h (kb : Nat) (b u : Int) (A : Option Addr) (c : Nat) (l : List (Int × Int)) (y m d h i s : Int) (w : World) (hc : CtAt w kb b A c u l) (hk : checkF b l u = 0) (hok : okD y m d = true) (hh : ¬ (0 ≤ h ∧ h ≤ 23)) :
    Calls Try.prog 67 #[.pointer (some ⟨kb, 0, none⟩), dateV y m d h i s] w fun e w' => e = .returned (.tuple #[.int .i64 0, .bool false]) ∧ Below w.heap.size w w' := by
  have HC := Aside0.mk hc
  obtain ⟨h1, h2, h3, h4, h5, h6⟩ := checkF_right hk
  have H6 := Aside0.mk h6
  clear hc hk h6
  have a79 := fun w => exists_calls y m d w
  rw [hok] at a79
  have h' := okD_iff.1 hok
  have hmb := mlen_bound y m
  have a80 := fun w => number_calls y m d (by omega) (by omega) (by omega) (by omega) (by omega) (by omega) w
  have hdb : 0 ≤ dayN y m d ∧ dayN y m d ≤ 100000 := by have := cum_bound y (m - 1).toNat; unfold dayN ny; omega
  have a88 := fun w hc => length_calls kb b u A c l (dayN y m d) (wf_64 (by omega) (by omega)) w hc H6.out
  have a115 := fun w hc => begin_calls kb b u A c l (dayN y m d) (by omega) (by omega) w hc H6.out h5
  have hsb := step_bound (dayN y m d) l (fun x hx => (H6.out.steps x hx).1)
  have hgb := H6.out.take l.length (dayN y m d)
  rw [List.take_length] at hgb
  have hbb : -100000000000 ≤ beginF l (dayN y m d) ∧ beginF l (dayN y m d) ≤ 100000000000 := by unfold beginF; omega
  clear hok h' hmb hgb
  generalize beginF l (dayN y m d) = g at *
  generalize stepF l (dayN y m d) = q at *
  generalize dayN y m d = n at *
  have c1 := fun w => within_calls h 0 23 w
  rw [show (decide (0 ≤ h) && decide (h ≤ 23)) = false by simp; omega] at c1
  clear hh
  go_enter Try.func67, Try.ntmps67
  go_wp2_with fail
  refine (a79 _).mono ?_
  rintro en w1 ⟨rfl, hB⟩
  have hv : Below w.heap.size w w1 := ((Below.refl _ w).alloc (Nat.le_refl _) _).trans (hB.mono (by simp))
  have kd : w1.heap[w.heap.size]? = some (.cells #[.int .i64 y, .int .i64 m, .int .i64 d, .int .i64 h, .int .i64 i, .int .i64 s] 30 (0, 0)) := (hB.block _ (by simp)).trans (al_new _ _ _ (by simp))
  have x0 : w1.cell? ⟨w.heap.size, 0, none⟩ = some (.int .i64 y) := blk_cell kd 0
  have x1 : w1.cell? ⟨w.heap.size, 1, none⟩ = some (.int .i64 m) := blk_cell kd 1
  have x2 : w1.cell? ⟨w.heap.size, 2, none⟩ = some (.int .i64 d) := blk_cell kd 2
  have x3 : w1.cell? ⟨w.heap.size, 3, none⟩ = some (.int .i64 h) := blk_cell kd 3
  have x4 : w1.cell? ⟨w.heap.size, 4, none⟩ = some (.int .i64 i) := blk_cell kd 4
  have x5 : w1.cell? ⟨w.heap.size, 5, none⟩ = some (.int .i64 s) := blk_cell kd 5
  clear hB kd
  go_wp2_with fail
  refine (c1 _).mono ?_
  rintro en w2 ⟨rfl, hB⟩
  replace hv := hv.trans (hB.mono hv.size)
  replace x0 := cell_on hB x0
  replace x1 := cell_on hB x1
  replace x2 := cell_on hB x2
  replace x3 := cell_on hB x3
  replace x4 := cell_on hB x4
  replace x5 := cell_on hB x5
  clear hB
  go_wp2
  go_ret2
  exact ⟨rfl, hv⟩
set_option maxHeartbeats 2000000 in
set_option maxRecDepth 100000 in
theorem second_i (kb : Nat) (b u : Int) (A : Option Addr) (c : Nat) (l : List (Int × Int)) (y m d h i s : Int) (w : World) (hc : CtAt w kb b A c u l) (hk : checkF b l u = 0) (hok : okD y m d = true) (hh : 0 ≤ h ∧ h ≤ 23) (hi : ¬ (0 ≤ i ∧ i ≤ 59)) :
    Calls Try.prog 67 #[.pointer (some ⟨kb, 0, none⟩), dateV y m d h i s] w fun e w' => e = .returned (.tuple #[.int .i64 0, .bool false]) ∧ Below w.heap.size w w' := by
  have HC := Aside0.mk hc
  obtain ⟨h1, h2, h3, h4, h5, h6⟩ := checkF_right hk
  have H6 := Aside0.mk h6
  clear hc hk h6
  have a79 := fun w => exists_calls y m d w
  rw [hok] at a79
  have h' := okD_iff.1 hok
  have hmb := mlen_bound y m
  have a80 := fun w => number_calls y m d (by omega) (by omega) (by omega) (by omega) (by omega) (by omega) w
  have hdb : 0 ≤ dayN y m d ∧ dayN y m d ≤ 100000 := by have := cum_bound y (m - 1).toNat; unfold dayN ny; omega
  have a88 := fun w hc => length_calls kb b u A c l (dayN y m d) (wf_64 (by omega) (by omega)) w hc H6.out
  have a115 := fun w hc => begin_calls kb b u A c l (dayN y m d) (by omega) (by omega) w hc H6.out h5
  have hsb := step_bound (dayN y m d) l (fun x hx => (H6.out.steps x hx).1)
  have hgb := H6.out.take l.length (dayN y m d)
  rw [List.take_length] at hgb
  have hbb : -100000000000 ≤ beginF l (dayN y m d) ∧ beginF l (dayN y m d) ≤ 100000000000 := by unfold beginF; omega
  clear hok h' hmb hgb
  generalize beginF l (dayN y m d) = g at *
  generalize stepF l (dayN y m d) = q at *
  generalize dayN y m d = n at *
  have c1 := fun w => within_calls h 0 23 w
  rw [show (decide (0 ≤ h) && decide (h ≤ 23)) = true by simp; omega] at c1
  have c2 := fun w => within_calls i 0 59 w
  rw [show (decide (0 ≤ i) && decide (i ≤ 59)) = false by simp; omega] at c2
  clear hi
  go_enter Try.func67, Try.ntmps67
  go_wp2_with fail
  refine (a79 _).mono ?_
  rintro en w1 ⟨rfl, hB⟩
  have hv : Below w.heap.size w w1 := ((Below.refl _ w).alloc (Nat.le_refl _) _).trans (hB.mono (by simp))
  have kd : w1.heap[w.heap.size]? = some (.cells #[.int .i64 y, .int .i64 m, .int .i64 d, .int .i64 h, .int .i64 i, .int .i64 s] 30 (0, 0)) := (hB.block _ (by simp)).trans (al_new _ _ _ (by simp))
  have x0 : w1.cell? ⟨w.heap.size, 0, none⟩ = some (.int .i64 y) := blk_cell kd 0
  have x1 : w1.cell? ⟨w.heap.size, 1, none⟩ = some (.int .i64 m) := blk_cell kd 1
  have x2 : w1.cell? ⟨w.heap.size, 2, none⟩ = some (.int .i64 d) := blk_cell kd 2
  have x3 : w1.cell? ⟨w.heap.size, 3, none⟩ = some (.int .i64 h) := blk_cell kd 3
  have x4 : w1.cell? ⟨w.heap.size, 4, none⟩ = some (.int .i64 i) := blk_cell kd 4
  have x5 : w1.cell? ⟨w.heap.size, 5, none⟩ = some (.int .i64 s) := blk_cell kd 5
  clear hB kd
  go_wp2_with fail
  refine (c1 _).mono ?_
  rintro en w2 ⟨rfl, hB⟩
  replace hv := hv.trans (hB.mono hv.size)
  replace x0 := cell_on hB x0
  replace x1 := cell_on hB x1
  replace x2 := cell_on hB x2
  replace x3 := cell_on hB x3
  replace x4 := cell_on hB x4
  replace x5 := cell_on hB x5
  clear hB
  go_wp2_with fail
  refine (c2 _).mono ?_
  rintro en w3 ⟨rfl, hB⟩
  replace hv := hv.trans (hB.mono hv.size)
  replace x0 := cell_on hB x0
  replace x1 := cell_on hB x1
  replace x2 := cell_on hB x2
  replace x3 := cell_on hB x3
  replace x4 := cell_on hB x4
  replace x5 := cell_on hB x5
  clear hB
  go_wp2
  go_ret2
  exact ⟨rfl, hv⟩
set_option maxHeartbeats 2000000 in
set_option maxRecDepth 100000 in
theorem second_s (kb : Nat) (b u : Int) (A : Option Addr) (c : Nat) (l : List (Int × Int)) (y m d h i s : Int) (w : World) (hc : CtAt w kb b A c u l) (hk : checkF b l u = 0) (hok : okD y m d = true) (hh : 0 ≤ h ∧ h ≤ 23) (hi : 0 ≤ i ∧ i ≤ 59) (hs : ¬ (0 ≤ s ∧ s ≤ 60)) :
    Calls Try.prog 67 #[.pointer (some ⟨kb, 0, none⟩), dateV y m d h i s] w fun e w' => e = .returned (.tuple #[.int .i64 0, .bool false]) ∧ Below w.heap.size w w' := by
  have HC := Aside0.mk hc
  obtain ⟨h1, h2, h3, h4, h5, h6⟩ := checkF_right hk
  have H6 := Aside0.mk h6
  clear hc hk h6
  have a79 := fun w => exists_calls y m d w
  rw [hok] at a79
  have h' := okD_iff.1 hok
  have hmb := mlen_bound y m
  have a80 := fun w => number_calls y m d (by omega) (by omega) (by omega) (by omega) (by omega) (by omega) w
  have hdb : 0 ≤ dayN y m d ∧ dayN y m d ≤ 100000 := by have := cum_bound y (m - 1).toNat; unfold dayN ny; omega
  have a88 := fun w hc => length_calls kb b u A c l (dayN y m d) (wf_64 (by omega) (by omega)) w hc H6.out
  have a115 := fun w hc => begin_calls kb b u A c l (dayN y m d) (by omega) (by omega) w hc H6.out h5
  have hsb := step_bound (dayN y m d) l (fun x hx => (H6.out.steps x hx).1)
  have hgb := H6.out.take l.length (dayN y m d)
  rw [List.take_length] at hgb
  have hbb : -100000000000 ≤ beginF l (dayN y m d) ∧ beginF l (dayN y m d) ≤ 100000000000 := by unfold beginF; omega
  clear hok h' hmb hgb
  generalize beginF l (dayN y m d) = g at *
  generalize stepF l (dayN y m d) = q at *
  generalize dayN y m d = n at *
  have c1 := fun w => within_calls h 0 23 w
  rw [show (decide (0 ≤ h) && decide (h ≤ 23)) = true by simp; omega] at c1
  have c2 := fun w => within_calls i 0 59 w
  rw [show (decide (0 ≤ i) && decide (i ≤ 59)) = true by simp; omega] at c2
  have c3 := fun w => within_calls s 0 60 w
  rw [show (decide (0 ≤ s) && decide (s ≤ 60)) = false by simp; omega] at c3
  clear hs
  go_enter Try.func67, Try.ntmps67
  go_wp2_with fail
  refine (a79 _).mono ?_
  rintro en w1 ⟨rfl, hB⟩
  have hv : Below w.heap.size w w1 := ((Below.refl _ w).alloc (Nat.le_refl _) _).trans (hB.mono (by simp))
  have kd : w1.heap[w.heap.size]? = some (.cells #[.int .i64 y, .int .i64 m, .int .i64 d, .int .i64 h, .int .i64 i, .int .i64 s] 30 (0, 0)) := (hB.block _ (by simp)).trans (al_new _ _ _ (by simp))
  have x0 : w1.cell? ⟨w.heap.size, 0, none⟩ = some (.int .i64 y) := blk_cell kd 0
  have x1 : w1.cell? ⟨w.heap.size, 1, none⟩ = some (.int .i64 m) := blk_cell kd 1
  have x2 : w1.cell? ⟨w.heap.size, 2, none⟩ = some (.int .i64 d) := blk_cell kd 2
  have x3 : w1.cell? ⟨w.heap.size, 3, none⟩ = some (.int .i64 h) := blk_cell kd 3
  have x4 : w1.cell? ⟨w.heap.size, 4, none⟩ = some (.int .i64 i) := blk_cell kd 4
  have x5 : w1.cell? ⟨w.heap.size, 5, none⟩ = some (.int .i64 s) := blk_cell kd 5
  clear hB kd
  go_wp2_with fail
  refine (c1 _).mono ?_
  rintro en w2 ⟨rfl, hB⟩
  replace hv := hv.trans (hB.mono hv.size)
  replace x0 := cell_on hB x0
  replace x1 := cell_on hB x1
  replace x2 := cell_on hB x2
  replace x3 := cell_on hB x3
  replace x4 := cell_on hB x4
  replace x5 := cell_on hB x5
  clear hB
  go_wp2_with fail
  refine (c2 _).mono ?_
  rintro en w3 ⟨rfl, hB⟩
  replace hv := hv.trans (hB.mono hv.size)
  replace x0 := cell_on hB x0
  replace x1 := cell_on hB x1
  replace x2 := cell_on hB x2
  replace x3 := cell_on hB x3
  replace x4 := cell_on hB x4
  replace x5 := cell_on hB x5
  clear hB
  go_wp2_with fail
  refine (c3 _).mono ?_
  rintro en w4 ⟨rfl, hB⟩
  replace hv := hv.trans (hB.mono hv.size)
  replace x0 := cell_on hB x0
  replace x1 := cell_on hB x1
  replace x2 := cell_on hB x2
  replace x3 := cell_on hB x3
  replace x4 := cell_on hB x4
  replace x5 := cell_on hB x5
  clear hB
  go_wp2
  go_ret2
  exact ⟨rfl, hv⟩
set_option maxHeartbeats 2000000 in
set_option maxRecDepth 100000 in
theorem second_late (kb : Nat) (b u : Int) (A : Option Addr) (c : Nat) (l : List (Int × Int)) (y m d h i s : Int) (w : World) (hc : CtAt w kb b A c u l) (hk : checkF b l u = 0) (hok : okD y m d = true) (hh : 0 ≤ h ∧ h ≤ 23) (hi : 0 ≤ i ∧ i ≤ 59) (hs : 0 ≤ s ∧ s ≤ 60) (hday : u ≤ dayN y m d) :
    Calls Try.prog 67 #[.pointer (some ⟨kb, 0, none⟩), dateV y m d h i s] w fun e w' => e = .returned (.tuple #[.int .i64 0, .bool false]) ∧ Below w.heap.size w w' := by
  have HC := Aside0.mk hc
  obtain ⟨h1, h2, h3, h4, h5, h6⟩ := checkF_right hk
  have H6 := Aside0.mk h6
  clear hc hk h6
  have a79 := fun w => exists_calls y m d w
  rw [hok] at a79
  have h' := okD_iff.1 hok
  have hmb := mlen_bound y m
  have a80 := fun w => number_calls y m d (by omega) (by omega) (by omega) (by omega) (by omega) (by omega) w
  have hdb : 0 ≤ dayN y m d ∧ dayN y m d ≤ 100000 := by have := cum_bound y (m - 1).toNat; unfold dayN ny; omega
  have a88 := fun w hc => length_calls kb b u A c l (dayN y m d) (wf_64 (by omega) (by omega)) w hc H6.out
  have a115 := fun w hc => begin_calls kb b u A c l (dayN y m d) (by omega) (by omega) w hc H6.out h5
  have hsb := step_bound (dayN y m d) l (fun x hx => (H6.out.steps x hx).1)
  have hgb := H6.out.take l.length (dayN y m d)
  rw [List.take_length] at hgb
  have hbb : -100000000000 ≤ beginF l (dayN y m d) ∧ beginF l (dayN y m d) ≤ 100000000000 := by unfold beginF; omega
  clear hok h' hmb hgb
  generalize beginF l (dayN y m d) = g at *
  generalize stepF l (dayN y m d) = q at *
  generalize dayN y m d = n at *
  have c1 := fun w => within_calls h 0 23 w
  rw [show (decide (0 ≤ h) && decide (h ≤ 23)) = true by simp; omega] at c1
  have c2 := fun w => within_calls i 0 59 w
  rw [show (decide (0 ≤ i) && decide (i ≤ 59)) = true by simp; omega] at c2
  have c3 := fun w => within_calls s 0 60 w
  rw [show (decide (0 ≤ s) && decide (s ≤ 60)) = true by simp; omega] at c3
  have d1 : decide (u ≤ n) = true := decide_eq_true hday
  go_enter Try.func67, Try.ntmps67
  go_wp2_with fail
  refine (a79 _).mono ?_
  rintro en w1 ⟨rfl, hB⟩
  have hv : Below w.heap.size w w1 := ((Below.refl _ w).alloc (Nat.le_refl _) _).trans (hB.mono (by simp))
  have kd : w1.heap[w.heap.size]? = some (.cells #[.int .i64 y, .int .i64 m, .int .i64 d, .int .i64 h, .int .i64 i, .int .i64 s] 30 (0, 0)) := (hB.block _ (by simp)).trans (al_new _ _ _ (by simp))
  have x0 : w1.cell? ⟨w.heap.size, 0, none⟩ = some (.int .i64 y) := blk_cell kd 0
  have x1 : w1.cell? ⟨w.heap.size, 1, none⟩ = some (.int .i64 m) := blk_cell kd 1
  have x2 : w1.cell? ⟨w.heap.size, 2, none⟩ = some (.int .i64 d) := blk_cell kd 2
  have x3 : w1.cell? ⟨w.heap.size, 3, none⟩ = some (.int .i64 h) := blk_cell kd 3
  have x4 : w1.cell? ⟨w.heap.size, 4, none⟩ = some (.int .i64 i) := blk_cell kd 4
  have x5 : w1.cell? ⟨w.heap.size, 5, none⟩ = some (.int .i64 s) := blk_cell kd 5
  clear hB kd
  go_wp2_with fail
  refine (c1 _).mono ?_
  rintro en w2 ⟨rfl, hB⟩
  replace hv := hv.trans (hB.mono hv.size)
  replace x0 := cell_on hB x0
  replace x1 := cell_on hB x1
  replace x2 := cell_on hB x2
  replace x3 := cell_on hB x3
  replace x4 := cell_on hB x4
  replace x5 := cell_on hB x5
  clear hB
  go_wp2_with fail
  refine (c2 _).mono ?_
  rintro en w3 ⟨rfl, hB⟩
  replace hv := hv.trans (hB.mono hv.size)
  replace x0 := cell_on hB x0
  replace x1 := cell_on hB x1
  replace x2 := cell_on hB x2
  replace x3 := cell_on hB x3
  replace x4 := cell_on hB x4
  replace x5 := cell_on hB x5
  clear hB
  go_wp2_with fail
  refine (c3 _).mono ?_
  rintro en w4 ⟨rfl, hB⟩
  replace hv := hv.trans (hB.mono hv.size)
  replace x0 := cell_on hB x0
  replace x1 := cell_on hB x1
  replace x2 := cell_on hB x2
  replace x3 := cell_on hB x3
  replace x4 := cell_on hB x4
  replace x5 := cell_on hB x5
  clear hB
  go_wp2_with fail
  refine (a80 _).mono ?_
  rintro en w5 ⟨rfl, hB⟩
  replace hv := hv.trans (hB.mono hv.size)
  replace x0 := cell_on hB x0
  replace x1 := cell_on hB x1
  replace x2 := cell_on hB x2
  replace x3 := cell_on hB x3
  replace x4 := cell_on hB x4
  replace x5 := cell_on hB x5
  clear hB
  have u2 : w5.cell? ⟨kb, 2, none⟩ = some (.int .i64 u) := by
    obtain ⟨_, _, hkx, _⟩ := HC.out.below hv
    exact blk_cell hkx 2
  go_wp2
  go_ret2
  exact ⟨rfl, hv⟩
set_option maxHeartbeats 2000000 in
set_option maxRecDepth 100000 in
theorem second_long (kb : Nat) (b u : Int) (A : Option Addr) (c : Nat) (l : List (Int × Int)) (y m d h i s : Int) (w : World) (hc : CtAt w kb b A c u l) (hk : checkF b l u = 0) (hok : okD y m d = true) (hh : 0 ≤ h ∧ h ≤ 23) (hi : 0 ≤ i ∧ i ≤ 59) (hs : 0 ≤ s ∧ s ≤ 60) (hday : dayN y m d < u) (hn : 86400 + stepF l (dayN y m d) ≤ 3600 * h + 60 * i + s) :
    Calls Try.prog 67 #[.pointer (some ⟨kb, 0, none⟩), dateV y m d h i s] w fun e w' => e = .returned (.tuple #[.int .i64 0, .bool false]) ∧ Below w.heap.size w w' := by
  have HC := Aside0.mk hc
  obtain ⟨h1, h2, h3, h4, h5, h6⟩ := checkF_right hk
  have H6 := Aside0.mk h6
  clear hc hk h6
  have a79 := fun w => exists_calls y m d w
  rw [hok] at a79
  have h' := okD_iff.1 hok
  have hmb := mlen_bound y m
  have a80 := fun w => number_calls y m d (by omega) (by omega) (by omega) (by omega) (by omega) (by omega) w
  have hdb : 0 ≤ dayN y m d ∧ dayN y m d ≤ 100000 := by have := cum_bound y (m - 1).toNat; unfold dayN ny; omega
  have a88 := fun w hc => length_calls kb b u A c l (dayN y m d) (wf_64 (by omega) (by omega)) w hc H6.out
  have a115 := fun w hc => begin_calls kb b u A c l (dayN y m d) (by omega) (by omega) w hc H6.out h5
  have hsb := step_bound (dayN y m d) l (fun x hx => (H6.out.steps x hx).1)
  have hgb := H6.out.take l.length (dayN y m d)
  rw [List.take_length] at hgb
  have hbb : -100000000000 ≤ beginF l (dayN y m d) ∧ beginF l (dayN y m d) ≤ 100000000000 := by unfold beginF; omega
  clear hok h' hmb hgb
  generalize beginF l (dayN y m d) = g at *
  generalize stepF l (dayN y m d) = q at *
  generalize dayN y m d = n at *
  have c1 := fun w => within_calls h 0 23 w
  rw [show (decide (0 ≤ h) && decide (h ≤ 23)) = true by simp; omega] at c1
  have c2 := fun w => within_calls i 0 59 w
  rw [show (decide (0 ≤ i) && decide (i ≤ 59)) = true by simp; omega] at c2
  have c3 := fun w => within_calls s 0 60 w
  rw [show (decide (0 ≤ s) && decide (s ≤ 60)) = true by simp; omega] at c3
  have d1 : decide (u ≤ n) = false := decide_eq_false (by omega)
  have d2 : decide (86400 + q ≤ 3600 * h + 60 * i + s) = true := decide_eq_true hn
  go_enter Try.func67, Try.ntmps67
  go_wp2_with fail
  refine (a79 _).mono ?_
  rintro en w1 ⟨rfl, hB⟩
  have hv : Below w.heap.size w w1 := ((Below.refl _ w).alloc (Nat.le_refl _) _).trans (hB.mono (by simp))
  have kd : w1.heap[w.heap.size]? = some (.cells #[.int .i64 y, .int .i64 m, .int .i64 d, .int .i64 h, .int .i64 i, .int .i64 s] 30 (0, 0)) := (hB.block _ (by simp)).trans (al_new _ _ _ (by simp))
  have x0 : w1.cell? ⟨w.heap.size, 0, none⟩ = some (.int .i64 y) := blk_cell kd 0
  have x1 : w1.cell? ⟨w.heap.size, 1, none⟩ = some (.int .i64 m) := blk_cell kd 1
  have x2 : w1.cell? ⟨w.heap.size, 2, none⟩ = some (.int .i64 d) := blk_cell kd 2
  have x3 : w1.cell? ⟨w.heap.size, 3, none⟩ = some (.int .i64 h) := blk_cell kd 3
  have x4 : w1.cell? ⟨w.heap.size, 4, none⟩ = some (.int .i64 i) := blk_cell kd 4
  have x5 : w1.cell? ⟨w.heap.size, 5, none⟩ = some (.int .i64 s) := blk_cell kd 5
  clear hB kd
  go_wp2_with fail
  refine (c1 _).mono ?_
  rintro en w2 ⟨rfl, hB⟩
  replace hv := hv.trans (hB.mono hv.size)
  replace x0 := cell_on hB x0
  replace x1 := cell_on hB x1
  replace x2 := cell_on hB x2
  replace x3 := cell_on hB x3
  replace x4 := cell_on hB x4
  replace x5 := cell_on hB x5
  clear hB
  go_wp2_with fail
  refine (c2 _).mono ?_
  rintro en w3 ⟨rfl, hB⟩
  replace hv := hv.trans (hB.mono hv.size)
  replace x0 := cell_on hB x0
  replace x1 := cell_on hB x1
  replace x2 := cell_on hB x2
  replace x3 := cell_on hB x3
  replace x4 := cell_on hB x4
  replace x5 := cell_on hB x5
  clear hB
  go_wp2_with fail
  refine (c3 _).mono ?_
  rintro en w4 ⟨rfl, hB⟩
  replace hv := hv.trans (hB.mono hv.size)
  replace x0 := cell_on hB x0
  replace x1 := cell_on hB x1
  replace x2 := cell_on hB x2
  replace x3 := cell_on hB x3
  replace x4 := cell_on hB x4
  replace x5 := cell_on hB x5
  clear hB
  go_wp2_with fail
  refine (a80 _).mono ?_
  rintro en w5 ⟨rfl, hB⟩
  replace hv := hv.trans (hB.mono hv.size)
  replace x0 := cell_on hB x0
  replace x1 := cell_on hB x1
  replace x2 := cell_on hB x2
  replace x3 := cell_on hB x3
  replace x4 := cell_on hB x4
  replace x5 := cell_on hB x5
  clear hB
  have u2 : w5.cell? ⟨kb, 2, none⟩ = some (.int .i64 u) := by
    obtain ⟨_, _, hkx, _⟩ := HC.out.below hv
    exact blk_cell hkx 2
  go_wp2_with fail
  refine (a88 _ (HC.out.below hv)).mono ?_
  rintro en w6 ⟨rfl, rfl⟩
  go_wp2
  go_ret2
  exact ⟨rfl, hv⟩
set_option maxHeartbeats 2000000 in
set_option maxRecDepth 100000 in
theorem second_sixty (kb : Nat) (b u : Int) (A : Option Addr) (c : Nat) (l : List (Int × Int)) (y m d h i s : Int) (w : World) (hc : CtAt w kb b A c u l) (hk : checkF b l u = 0) (hok : okD y m d = true) (hh : 0 ≤ h ∧ h ≤ 23) (hi : 0 ≤ i ∧ i ≤ 59) (hs : 0 ≤ s ∧ s ≤ 60) (hday : dayN y m d < u) (hn : 3600 * h + 60 * i + s < 86400 + stepF l (dayN y m d)) (h60 : s = 60) (hne : 3600 * h + 60 * i + s ≠ 86400) :
    Calls Try.prog 67 #[.pointer (some ⟨kb, 0, none⟩), dateV y m d h i s] w fun e w' => e = .returned (.tuple #[.int .i64 0, .bool false]) ∧ Below w.heap.size w w' := by
  have HC := Aside0.mk hc
  obtain ⟨h1, h2, h3, h4, h5, h6⟩ := checkF_right hk
  have H6 := Aside0.mk h6
  clear hc hk h6
  have a79 := fun w => exists_calls y m d w
  rw [hok] at a79
  have h' := okD_iff.1 hok
  have hmb := mlen_bound y m
  have a80 := fun w => number_calls y m d (by omega) (by omega) (by omega) (by omega) (by omega) (by omega) w
  have hdb : 0 ≤ dayN y m d ∧ dayN y m d ≤ 100000 := by have := cum_bound y (m - 1).toNat; unfold dayN ny; omega
  have a88 := fun w hc => length_calls kb b u A c l (dayN y m d) (wf_64 (by omega) (by omega)) w hc H6.out
  have a115 := fun w hc => begin_calls kb b u A c l (dayN y m d) (by omega) (by omega) w hc H6.out h5
  have hsb := step_bound (dayN y m d) l (fun x hx => (H6.out.steps x hx).1)
  have hgb := H6.out.take l.length (dayN y m d)
  rw [List.take_length] at hgb
  have hbb : -100000000000 ≤ beginF l (dayN y m d) ∧ beginF l (dayN y m d) ≤ 100000000000 := by unfold beginF; omega
  clear hok h' hmb hgb
  generalize beginF l (dayN y m d) = g at *
  generalize stepF l (dayN y m d) = q at *
  generalize dayN y m d = n at *
  have c1 := fun w => within_calls h 0 23 w
  rw [show (decide (0 ≤ h) && decide (h ≤ 23)) = true by simp; omega] at c1
  have c2 := fun w => within_calls i 0 59 w
  rw [show (decide (0 ≤ i) && decide (i ≤ 59)) = true by simp; omega] at c2
  have c3 := fun w => within_calls s 0 60 w
  rw [show (decide (0 ≤ s) && decide (s ≤ 60)) = true by simp; omega] at c3
  have d1 : decide (u ≤ n) = false := decide_eq_false (by omega)
  have d2 : decide (86400 + q ≤ 3600 * h + 60 * i + s) = false := decide_eq_false (by omega)
  subst h60
  have q1 : (3600 * h + 60 * i + 60 == 86400) = false := beq_eq_false_iff_ne.2 hne
  have q2 : (3600 * h + 60 * i + 60 != 86400) = true := bne_iff_ne.2 hne
  go_enter Try.func67, Try.ntmps67
  go_wp2_with fail
  refine (a79 _).mono ?_
  rintro en w1 ⟨rfl, hB⟩
  have hv : Below w.heap.size w w1 := ((Below.refl _ w).alloc (Nat.le_refl _) _).trans (hB.mono (by simp))
  have kd : w1.heap[w.heap.size]? = some (.cells #[.int .i64 y, .int .i64 m, .int .i64 d, .int .i64 h, .int .i64 i, .int .i64 60] 30 (0, 0)) := (hB.block _ (by simp)).trans (al_new _ _ _ (by simp))
  have x0 : w1.cell? ⟨w.heap.size, 0, none⟩ = some (.int .i64 y) := blk_cell kd 0
  have x1 : w1.cell? ⟨w.heap.size, 1, none⟩ = some (.int .i64 m) := blk_cell kd 1
  have x2 : w1.cell? ⟨w.heap.size, 2, none⟩ = some (.int .i64 d) := blk_cell kd 2
  have x3 : w1.cell? ⟨w.heap.size, 3, none⟩ = some (.int .i64 h) := blk_cell kd 3
  have x4 : w1.cell? ⟨w.heap.size, 4, none⟩ = some (.int .i64 i) := blk_cell kd 4
  have x5 : w1.cell? ⟨w.heap.size, 5, none⟩ = some (.int .i64 60) := blk_cell kd 5
  clear hB kd
  go_wp2_with fail
  refine (c1 _).mono ?_
  rintro en w2 ⟨rfl, hB⟩
  replace hv := hv.trans (hB.mono hv.size)
  replace x0 := cell_on hB x0
  replace x1 := cell_on hB x1
  replace x2 := cell_on hB x2
  replace x3 := cell_on hB x3
  replace x4 := cell_on hB x4
  replace x5 := cell_on hB x5
  clear hB
  go_wp2_with fail
  refine (c2 _).mono ?_
  rintro en w3 ⟨rfl, hB⟩
  replace hv := hv.trans (hB.mono hv.size)
  replace x0 := cell_on hB x0
  replace x1 := cell_on hB x1
  replace x2 := cell_on hB x2
  replace x3 := cell_on hB x3
  replace x4 := cell_on hB x4
  replace x5 := cell_on hB x5
  clear hB
  go_wp2_with fail
  refine (c3 _).mono ?_
  rintro en w4 ⟨rfl, hB⟩
  replace hv := hv.trans (hB.mono hv.size)
  replace x0 := cell_on hB x0
  replace x1 := cell_on hB x1
  replace x2 := cell_on hB x2
  replace x3 := cell_on hB x3
  replace x4 := cell_on hB x4
  replace x5 := cell_on hB x5
  clear hB
  go_wp2_with fail
  refine (a80 _).mono ?_
  rintro en w5 ⟨rfl, hB⟩
  replace hv := hv.trans (hB.mono hv.size)
  replace x0 := cell_on hB x0
  replace x1 := cell_on hB x1
  replace x2 := cell_on hB x2
  replace x3 := cell_on hB x3
  replace x4 := cell_on hB x4
  replace x5 := cell_on hB x5
  clear hB
  have u2 : w5.cell? ⟨kb, 2, none⟩ = some (.int .i64 u) := by
    obtain ⟨_, _, hkx, _⟩ := HC.out.below hv
    exact blk_cell hkx 2
  go_wp2_with fail
  refine (a88 _ (HC.out.below hv)).mono ?_
  rintro en w6 ⟨rfl, rfl⟩
  go_wp2
  go_ret2
  exact ⟨rfl, hv⟩
set_option maxHeartbeats 2000000 in
set_option maxRecDepth 100000 in
theorem second_good (kb : Nat) (b u : Int) (A : Option Addr) (c : Nat) (l : List (Int × Int)) (y m d h i s : Int) (w : World) (hc : CtAt w kb b A c u l) (hk : checkF b l u = 0) (hok : okD y m d = true) (hh : 0 ≤ h ∧ h ≤ 23) (hi : 0 ≤ i ∧ i ≤ 59) (hs : 0 ≤ s ∧ s ≤ 60) (hday : dayN y m d < u) (hn : 3600 * h + 60 * i + s < 86400 + stepF l (dayN y m d)) (h60 : s ≠ 60) :
    Calls Try.prog 67 #[.pointer (some ⟨kb, 0, none⟩), dateV y m d h i s] w fun e w' => e = .returned (.tuple #[.int .i64 (beginF l (dayN y m d) + (3600 * h + 60 * i + s)), .bool true]) ∧ Below w.heap.size w w' := by
  have HC := Aside0.mk hc
  obtain ⟨h1, h2, h3, h4, h5, h6⟩ := checkF_right hk
  have H6 := Aside0.mk h6
  clear hc hk h6
  have a79 := fun w => exists_calls y m d w
  rw [hok] at a79
  have h' := okD_iff.1 hok
  have hmb := mlen_bound y m
  have a80 := fun w => number_calls y m d (by omega) (by omega) (by omega) (by omega) (by omega) (by omega) w
  have hdb : 0 ≤ dayN y m d ∧ dayN y m d ≤ 100000 := by have := cum_bound y (m - 1).toNat; unfold dayN ny; omega
  have a88 := fun w hc => length_calls kb b u A c l (dayN y m d) (wf_64 (by omega) (by omega)) w hc H6.out
  have a115 := fun w hc => begin_calls kb b u A c l (dayN y m d) (by omega) (by omega) w hc H6.out h5
  have hsb := step_bound (dayN y m d) l (fun x hx => (H6.out.steps x hx).1)
  have hgb := H6.out.take l.length (dayN y m d)
  rw [List.take_length] at hgb
  have hbb : -100000000000 ≤ beginF l (dayN y m d) ∧ beginF l (dayN y m d) ≤ 100000000000 := by unfold beginF; omega
  clear hok h' hmb hgb
  generalize beginF l (dayN y m d) = g at *
  generalize stepF l (dayN y m d) = q at *
  generalize dayN y m d = n at *
  have c1 := fun w => within_calls h 0 23 w
  rw [show (decide (0 ≤ h) && decide (h ≤ 23)) = true by simp; omega] at c1
  have c2 := fun w => within_calls i 0 59 w
  rw [show (decide (0 ≤ i) && decide (i ≤ 59)) = true by simp; omega] at c2
  have c3 := fun w => within_calls s 0 60 w
  rw [show (decide (0 ≤ s) && decide (s ≤ 60)) = true by simp; omega] at c3
  have d1 : decide (u ≤ n) = false := decide_eq_false (by omega)
  have d2 : decide (86400 + q ≤ 3600 * h + 60 * i + s) = false := decide_eq_false (by omega)
  have q1 : (s == 60) = false := beq_eq_false_iff_ne.2 h60
  go_enter Try.func67, Try.ntmps67
  go_wp2_with fail
  refine (a79 _).mono ?_
  rintro en w1 ⟨rfl, hB⟩
  have hv : Below w.heap.size w w1 := ((Below.refl _ w).alloc (Nat.le_refl _) _).trans (hB.mono (by simp))
  have kd : w1.heap[w.heap.size]? = some (.cells #[.int .i64 y, .int .i64 m, .int .i64 d, .int .i64 h, .int .i64 i, .int .i64 s] 30 (0, 0)) := (hB.block _ (by simp)).trans (al_new _ _ _ (by simp))
  have x0 : w1.cell? ⟨w.heap.size, 0, none⟩ = some (.int .i64 y) := blk_cell kd 0
  have x1 : w1.cell? ⟨w.heap.size, 1, none⟩ = some (.int .i64 m) := blk_cell kd 1
  have x2 : w1.cell? ⟨w.heap.size, 2, none⟩ = some (.int .i64 d) := blk_cell kd 2
  have x3 : w1.cell? ⟨w.heap.size, 3, none⟩ = some (.int .i64 h) := blk_cell kd 3
  have x4 : w1.cell? ⟨w.heap.size, 4, none⟩ = some (.int .i64 i) := blk_cell kd 4
  have x5 : w1.cell? ⟨w.heap.size, 5, none⟩ = some (.int .i64 s) := blk_cell kd 5
  clear hB kd
  go_wp2_with fail
  refine (c1 _).mono ?_
  rintro en w2 ⟨rfl, hB⟩
  replace hv := hv.trans (hB.mono hv.size)
  replace x0 := cell_on hB x0
  replace x1 := cell_on hB x1
  replace x2 := cell_on hB x2
  replace x3 := cell_on hB x3
  replace x4 := cell_on hB x4
  replace x5 := cell_on hB x5
  clear hB
  go_wp2_with fail
  refine (c2 _).mono ?_
  rintro en w3 ⟨rfl, hB⟩
  replace hv := hv.trans (hB.mono hv.size)
  replace x0 := cell_on hB x0
  replace x1 := cell_on hB x1
  replace x2 := cell_on hB x2
  replace x3 := cell_on hB x3
  replace x4 := cell_on hB x4
  replace x5 := cell_on hB x5
  clear hB
  go_wp2_with fail
  refine (c3 _).mono ?_
  rintro en w4 ⟨rfl, hB⟩
  replace hv := hv.trans (hB.mono hv.size)
  replace x0 := cell_on hB x0
  replace x1 := cell_on hB x1
  replace x2 := cell_on hB x2
  replace x3 := cell_on hB x3
  replace x4 := cell_on hB x4
  replace x5 := cell_on hB x5
  clear hB
  go_wp2_with fail
  refine (a80 _).mono ?_
  rintro en w5 ⟨rfl, hB⟩
  replace hv := hv.trans (hB.mono hv.size)
  replace x0 := cell_on hB x0
  replace x1 := cell_on hB x1
  replace x2 := cell_on hB x2
  replace x3 := cell_on hB x3
  replace x4 := cell_on hB x4
  replace x5 := cell_on hB x5
  clear hB
  have u2 : w5.cell? ⟨kb, 2, none⟩ = some (.int .i64 u) := by
    obtain ⟨_, _, hkx, _⟩ := HC.out.below hv
    exact blk_cell hkx 2
  go_wp2_with fail
  refine (a88 _ (HC.out.below hv)).mono ?_
  rintro en w6 ⟨rfl, rfl⟩
  go_wp2_with fail
  refine (a115 _ (HC.out.below hv)).mono ?_
  rintro en w7 ⟨rfl, hB⟩
  replace hv := hv.trans (hB.mono hv.size)
  replace x0 := cell_on hB x0
  replace x1 := cell_on hB x1
  replace x2 := cell_on hB x2
  replace x3 := cell_on hB x3
  replace x4 := cell_on hB x4
  replace x5 := cell_on hB x5
  clear hB
  go_wp2
  go_ret2
  exact ⟨by first | rfl | (simp; omega), hv⟩
theorem second_calls (kb : Nat) (b u : Int) (A : Option Addr) (c : Nat) (l : List (Int × Int)) (y m d h i s : Int) (w : World) (hc : CtAt w kb b A c u l) (hk : checkF b l u = 0) :
    Calls Try.prog 67 #[.pointer (some ⟨kb, 0, none⟩), dateV y m d h i s] w fun e w' => e = .returned (.tuple #[.int .i64 (if secOk l u y m d h i s = true then beginF l (dayN y m d) + (3600 * h + 60 * i + s) else 0), .bool (secOk l u y m d h i s)]) ∧ Below w.heap.size w w' := by
  have hst : -1 ≤ stepF l (dayN y m d) ∧ stepF l (dayN y m d) ≤ 1 := step_bound (dayN y m d) l (fun x hx => ((checkF_right hk).2.2.2.2.2.steps x hx).1)
  have bad : secOk l u y m d h i s = false → (Calls Try.prog 67 #[.pointer (some ⟨kb, 0, none⟩), dateV y m d h i s] w fun e w' => e = .returned (.tuple #[.int .i64 0, .bool false]) ∧ Below w.heap.size w w') → Calls Try.prog 67 #[.pointer (some ⟨kb, 0, none⟩), dateV y m d h i s] w fun e w' => e = .returned (.tuple #[.int .i64 (if secOk l u y m d h i s = true then beginF l (dayN y m d) + (3600 * h + 60 * i + s) else 0), .bool (secOk l u y m d h i s)]) ∧ Below w.heap.size w w' := fun e hh => by rw [e]; exact hh
  cases hok : okD y m d
  · exact bad (by unfold secOk; rw [hok]; rfl) (second_noday kb b u A c l y m d h i s w hc hk hok)
  · have hso : secOk l u y m d h i s = true ↔ (0 ≤ h ∧ h ≤ 23 ∧ 0 ≤ i ∧ i ≤ 59 ∧ 0 ≤ s ∧ s ≤ 60 ∧ dayN y m d < u ∧ 3600 * h + 60 * i + s < 86400 + stepF l (dayN y m d) ∧ (s = 60 → 3600 * h + 60 * i + s = 86400)) := by unfold secOk; rw [hok, Bool.true_and, decide_eq_true_iff]
    have hno : ¬ (0 ≤ h ∧ h ≤ 23 ∧ 0 ≤ i ∧ i ≤ 59 ∧ 0 ≤ s ∧ s ≤ 60 ∧ dayN y m d < u ∧ 3600 * h + 60 * i + s < 86400 + stepF l (dayN y m d) ∧ (s = 60 → 3600 * h + 60 * i + s = 86400)) → secOk l u y m d h i s = false := fun hn => by
      cases e : secOk l u y m d h i s
      · rfl
      · exact absurd (hso.1 e) hn
    by_cases hh : 0 ≤ h ∧ h ≤ 23
    · by_cases hi : 0 ≤ i ∧ i ≤ 59
      · by_cases hs : 0 ≤ s ∧ s ≤ 60
        · by_cases hday : dayN y m d < u
          · by_cases hn : 3600 * h + 60 * i + s < 86400 + stepF l (dayN y m d)
            · by_cases h60 : s = 60
              · by_cases hne : 3600 * h + 60 * i + s = 86400
                · rw [hso.2 (by omega), if_pos rfl]
                  obtain rfl := h60
                  obtain rfl : h = 23 := by omega
                  obtain rfl : i = 59 := by omega
                  have hR := (checkF_right hk).2.2.2.2
                  exact second_leap kb b u A c l y m d w hc hR.2 hR.1 hok hday (by omega)
                · exact bad (hno (by omega)) (second_sixty kb b u A c l y m d h i s w hc hk hok hh hi hs hday hn h60 hne)
              · rw [hso.2 (by omega), if_pos rfl]
                exact second_good kb b u A c l y m d h i s w hc hk hok hh hi hs hday hn h60
            · exact bad (hno (by omega)) (second_long kb b u A c l y m d h i s w hc hk hok hh hi hs hday (by omega))
          · exact bad (hno (by omega)) (second_late kb b u A c l y m d h i s w hc hk hok hh hi hs (by omega))
        · exact bad (hno (by omega)) (second_s kb b u A c l y m d h i s w hc hk hok hh hi hs)
      · exact bad (hno (by omega)) (second_i kb b u A c l y m d h i s w hc hk hok hh hi)
    · exact bad (hno (by omega)) (second_h kb b u A c l y m d h i s w hc hk hok hh)
set_option maxRecDepth 100000 in
theorem Seconds_calls (b u : Int) (A : Option Addr) (c : Nat) (l : List (Int × Int)) (y m d h i s : Int) (w : World) (hr : Kd.C kl w A l.length l) :
    Calls Try.prog 20 #[tabV b A l.length c u, dateV y m d h i s] w fun e w' => e = .returned (.tuple #[.int .i64 (secondsR b l u y m d h i s).1, .int .i64 (secondsR b l u y m d h i s).2]) ∧ Below w.heap.size w w' := by
  have HR := Aside0.mk hr
  have a62 := fun w h => open_calls b u A c l w h
  clear hr
  unfold secondsR
  by_cases hk : checkF b l u = 0
  · rw [if_pos hk]
    have a67 := fun kb w hc => second_calls kb b u A c l y m d h i s w hc hk
    have hK2 := Aside0.mk hk
    clear hk
    generalize beginF l (dayN y m d) + (3600 * h + 60 * i + s) = v at *
    cases hso : secOk l u y m d h i s
    all_goals
      rw [hso] at a67
      go_enter Try.func20, Try.ntmps20
      go_wp2_with fail
      refine (a62 _ (Kd.C_below HR.out (((Below.refl _ w).alloc (Nat.le_refl _) _).alloc (by simp) _))).mono ?_
      rintro en w1 ⟨_, h2, hB⟩
      obtain ⟨kb, rfl, hkb, hct⟩ := h2 hK2.out
      have hv : Below w.heap.size w w1 := (((Below.refl _ w).alloc (Nat.le_refl _) _).alloc (by simp) _).trans (hB.mono (by simp; omega))
      have kd : w1.heap[w.heap.size + 1]? = some (.cells #[.int .i64 y, .int .i64 m, .int .i64 d, .int .i64 h, .int .i64 i, .int .i64 s] 30 (0, 0)) := (hB.block _ (by simp)).trans (al_new _ _ _ (by simp))
      have x0 : w1.cell? ⟨w.heap.size + 1, 0, none⟩ = some (.int .i64 y) := blk_cell kd 0
      have x1 : w1.cell? ⟨w.heap.size + 1, 1, none⟩ = some (.int .i64 m) := blk_cell kd 1
      have x2 : w1.cell? ⟨w.heap.size + 1, 2, none⟩ = some (.int .i64 d) := blk_cell kd 2
      have x3 : w1.cell? ⟨w.heap.size + 1, 3, none⟩ = some (.int .i64 h) := blk_cell kd 3
      have x4 : w1.cell? ⟨w.heap.size + 1, 4, none⟩ = some (.int .i64 i) := blk_cell kd 4
      have x5 : w1.cell? ⟨w.heap.size + 1, 5, none⟩ = some (.int .i64 s) := blk_cell kd 5
      have HC := Aside0.mk hct
      clear hB h2 a62 kd hct
      go_wp2_with fail
      refine (a67 kb _ HC.out).mono ?_
      rintro en w2 ⟨rfl, hB⟩
      go_wp2
      go_ret2
      exact ⟨rfl, hv.trans (hB.mono hv.size)⟩
  · rw [if_neg hk]
    have q1 : (checkF b l u == 0) = false := beq_eq_false_iff_ne.2 hk
    have q2 : (checkF b l u != 0) = true := bne_iff_ne.2 hk
    generalize checkF b l u = q at *
    go_enter Try.func20, Try.ntmps20
    go_wp2_with fail
    refine (a62 _ (Kd.C_below HR.out (((Below.refl _ w).alloc (Nat.le_refl _) _).alloc (by simp) _))).mono ?_
    rintro en w1 ⟨h1, _, hB⟩
    obtain rfl := h1 hk
    have hv : Below w.heap.size w w1 := (((Below.refl _ w).alloc (Nat.le_refl _) _).alloc (by simp) _).trans (hB.mono (by simp; omega))
    go_wp2
    go_ret2
    exact ⟨rfl, hv⟩
end Go.Proofs.Ytleipbanadnchaa.C
