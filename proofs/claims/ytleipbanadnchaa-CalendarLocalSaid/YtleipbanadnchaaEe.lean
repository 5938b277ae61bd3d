/- Contracts of the reference's Announced and Seconds, by hand. -/
import Derived.OwnWalk
import Derived.Test.YtleipbanadnchaaEd
namespace Go.Proofs.Ytleipbanadnchaa.C
open Go.RowKit Go.Shelf Go.Maps Go.Proofs.YtleipbanadnchaaW.PrintWords Go.Proofs.YtleipbanadnchaaW.PrintLast Go.Proofs.YtleipbanadnchaaW.PrintMore
set_option linter.unusedVariables false
set_option linter.unusedSimpArgs false
set_option maxHeartbeats 2000000 in
set_option maxRecDepth 100000 in
theorem rAnnounced_ok (b u : Int) (A : Option Addr) (c : Nat) (l : List (Int × Int)) (s D : Int) (w : World) (hr : Kd.C kl w A l.length l) (hk : askE b l u s = 0) (hD : IsDay l u s D) :
    Calls Try.prog 60 #[tabV b A l.length c u, .int .i64 s] w fun e w' => e = .returned (.tuple #[.int .i64 (stepF l (endF D)), .int .i64 0]) ∧ Below w.heap.size w w' := by
  have HR := Aside0.mk hr
  have hz := askE_zero hk
  obtain ⟨h1, h2, h3, h4, h5, h6⟩ := checkF_right hz.1
  have a112 := fun w h => rknownS_calls b u A c l s w h
  have a113 := fun w h => rsplit_calls b u A c l s D w h hz.1 hD
  have a45 := fun w => refCivil_calls D w
  unfold kv ke at a45
  rw [knownB_iff.2 ⟨hD.d0, by have := hD.d1; omega⟩, if_pos rfl, if_pos rfl, if_pos rfl, if_pos rfl] at a45
  have hc := civ_is hD.d0 (by have := hD.d1; omega)
  have hy0 := hc.y0
  have hy1 := hc.y2 (by have := hD.d1; omega)
  have hm0 := hc.m0
  have hm1 := hc.m1
  have hml := mlen_bound (cY D) (cM D)
  have a105 := fun w => month_calls (cY D) (cM D) (by omega) (by omega) hm0 hm1 w
  have a44 := fun w => refDay_true (cY D) (cM D) (mlen (cY D) (cM D)) (okD_iff.2 ⟨by omega, by omega, by omega, by omega, by omega, by omega⟩) w
  rw [show dayN (cY D) (cM D) (mlen (cY D) (cM D)) = endF D from rfl] at a44
  have a111 := fun w h => rstep_calls b u A c l (endF D) w h h5
  rw [hk] at a112
  clear hr hD hz h6 hc hk
  generalize s - beginF l D = n at *
  generalize endF D = E at *
  generalize stepF l E = q at *
  generalize cY D = Y at *
  generalize cM D = M at *
  generalize cD D = K at *
  generalize mlen Y M = ml at *
  go_enter Try.func60, Try.ntmps60
  go_wp2_with fail
  refine (a112 _ (Kd.C_below HR.out ((Below.refl _ w).alloc (Nat.le_refl _) _))).mono ?_
  rintro en w1 ⟨rfl, hB⟩
  have hv : Below w.heap.size w w1 := ((Below.refl _ w).alloc (Nat.le_refl _) _).trans (hB.mono (by simp))
  have kx : w1.heap[w.heap.size]? = some (.cells #[.int .i64 b, .slice A l.length c, .int .i64 u] 90 (0, 0)) := (hB.block _ (by simp)).trans (al_new _ _ _ rfl)
  have t0 : w1.cell? ⟨w.heap.size, 0, none⟩ = some (.int .i64 b) := blk_cell kx 0
  have t1 : w1.cell? ⟨w.heap.size, 1, none⟩ = some (.slice A l.length c) := blk_cell kx 1
  have t2 : w1.cell? ⟨w.heap.size, 2, none⟩ = some (.int .i64 u) := blk_cell kx 2
  clear hB kx a112
  go_wp2_with fail
  refine (a113 _ (Kd.C_below HR.out hv)).mono ?_
  rintro en w2 ⟨rfl, hB⟩
  have hv2 := hv.trans (hB.mono hv.size)
  replace t0 := cell_on hB t0
  replace t1 := cell_on hB t1
  replace t2 := cell_on hB t2
  clear hB hv a113
  go_wp2_with fail
  refine (a45 _).mono ?_
  rintro en w3 ⟨rfl, hB⟩
  have hv3 := hv2.trans (hB.mono hv2.size)
  replace t0 := cell_on hB t0
  replace t1 := cell_on hB t1
  replace t2 := cell_on hB t2
  clear hB hv2 a45
  go_wp2_with fail
  refine (a105 _).mono ?_
  rintro en w4 ⟨rfl, rfl⟩
  go_wp2_with fail
  refine (a44 _).mono ?_
  rintro en w5 ⟨rfl, hB⟩
  have hv5 := hv3.trans (hB.mono hv3.size)
  replace t0 := cell_on hB t0
  replace t1 := cell_on hB t1
  replace t2 := cell_on hB t2
  clear hB hv3 a44
  go_wp2_with fail
  refine (a111 _ (Kd.C_below HR.out hv5)).mono ?_
  rintro en w6 ⟨rfl, hB⟩
  go_wp2
  go_ret2
  exact ⟨rfl, hv5.trans (hB.mono hv5.size)⟩
set_option maxRecDepth 100000 in
theorem rAnnounced_err (b u : Int) (A : Option Addr) (c : Nat) (l : List (Int × Int)) (s : Int) (w : World) (hr : Kd.C kl w A l.length l) (hk : askE b l u s ≠ 0) :
    Calls Try.prog 60 #[tabV b A l.length c u, .int .i64 s] w fun e w' => e = .returned (.tuple #[.int .i64 0, .int .i64 (askE b l u s)]) ∧ Below w.heap.size w w' := by
  have HR := Aside0.mk hr
  have a112 := fun w h => rknownS_calls b u A c l s w h
  clear hr
  have q1 : (askE b l u s == 0) = false := beq_eq_false_iff_ne.2 hk
  have q2 : (askE b l u s != 0) = true := bne_iff_ne.2 hk
  generalize askE b l u s = q at *
  go_enter Try.func60, Try.ntmps60
  go_wp2_with fail
  refine (a112 _ (Kd.C_below HR.out ((Below.refl _ w).alloc (Nat.le_refl _) _))).mono ?_
  rintro en w1 ⟨rfl, hB⟩
  have hv : Below w.heap.size w w1 := ((Below.refl _ w).alloc (Nat.le_refl _) _).trans (hB.mono (by simp))
  go_wp2
  go_ret2
  exact ⟨rfl, hv⟩
set_option maxHeartbeats 2000000 in
set_option maxRecDepth 100000 in
theorem rSeconds_err (b u : Int) (A : Option Addr) (c : Nat) (l : List (Int × Int)) (y m d h i s : Int) (w : World) (hr : Kd.C kl w A l.length l) (hk : checkF b l u ≠ 0) :
    Calls Try.prog 57 #[tabV b A l.length c u, dateV y m d h i s] w fun e w' => e = .returned (.tuple #[.int .i64 0, .int .i64 (checkF b l u)]) ∧ Below w.heap.size w w' := by
  have HR := Aside0.mk hr
  have a53 := fun w h => rcheck_calls b u A c l w h
  clear hr
  have q1 : (checkF b l u == 0) = false := beq_eq_false_iff_ne.2 hk
  have q2 : (checkF b l u != 0) = true := bne_iff_ne.2 hk
  generalize checkF b l u = q at *
  go_enter Try.func57, Try.ntmps57
  go_wp2_with fail
  refine (a53 _ (Kd.C_below HR.out (((Below.refl _ w).alloc (Nat.le_refl _) _).alloc (by simp) _))).mono ?_
  rintro en w1 ⟨rfl, hB⟩
  have hv : Below w.heap.size w w1 := (((Below.refl _ w).alloc (Nat.le_refl _) _).alloc (by simp) _).trans (hB.mono (by simp; omega))
  have kx : w1.heap[w.heap.size]? = some (.cells #[.int .i64 b, .slice A l.length c, .int .i64 u] 90 (0, 0)) := (hB.block _ (by simp; omega)).trans (al_old (al_new _ _ _ rfl))
  have kd : w1.heap[w.heap.size + 1]? = some (.cells #[.int .i64 y, .int .i64 m, .int .i64 d, .int .i64 h, .int .i64 i, .int .i64 s] 98 (0, 0)) := (hB.block _ (by simp)).trans (al_new _ _ _ (by simp))
  have x0 : w1.cell? ⟨w.heap.size + 1, 0, none⟩ = some (.int .i64 y) := blk_cell kd 0
  have x1 : w1.cell? ⟨w.heap.size + 1, 1, none⟩ = some (.int .i64 m) := blk_cell kd 1
  have x2 : w1.cell? ⟨w.heap.size + 1, 2, none⟩ = some (.int .i64 d) := blk_cell kd 2
  have x3 : w1.cell? ⟨w.heap.size + 1, 3, none⟩ = some (.int .i64 h) := blk_cell kd 3
  have x4 : w1.cell? ⟨w.heap.size + 1, 4, none⟩ = some (.int .i64 i) := blk_cell kd 4
  have x5 : w1.cell? ⟨w.heap.size + 1, 5, none⟩ = some (.int .i64 s) := blk_cell kd 5
  have t0 : w1.cell? ⟨w.heap.size, 0, none⟩ = some (.int .i64 b) := blk_cell kx 0
  have t1 : w1.cell? ⟨w.heap.size, 1, none⟩ = some (.slice A l.length c) := blk_cell kx 1
  have t2 : w1.cell? ⟨w.heap.size, 2, none⟩ = some (.int .i64 u) := blk_cell kx 2
  clear hB kx kd
  go_wp2
  go_ret2
  exact ⟨rfl, hv⟩
set_option maxHeartbeats 2000000 in
set_option maxRecDepth 100000 in
theorem rSeconds_noday (b u : Int) (A : Option Addr) (c : Nat) (l : List (Int × Int)) (y m d h i s : Int) (w : World) (hr : Kd.C kl w A l.length l) (hk : checkF b l u = 0) (hok : okD y m d = false) :
    Calls Try.prog 57 #[tabV b A l.length c u, dateV y m d h i s] w fun e w' => e = .returned (.tuple #[.int .i64 0, .int .i64 90]) ∧ Below w.heap.size w w' := by
  have HR := Aside0.mk hr
  have a53 := fun w h => rcheck_calls b u A c l w h
  clear hr
  rw [hk] at a53
  have a44 := fun w => refDay_false y m d hok w
  clear hk hok
  go_enter Try.func57, Try.ntmps57
  go_wp2_with fail
  refine (a53 _ (Kd.C_below HR.out (((Below.refl _ w).alloc (Nat.le_refl _) _).alloc (by simp) _))).mono ?_
  rintro en w1 ⟨rfl, hB⟩
  have hv : Below w.heap.size w w1 := (((Below.refl _ w).alloc (Nat.le_refl _) _).alloc (by simp) _).trans (hB.mono (by simp; omega))
  have kx : w1.heap[w.heap.size]? = some (.cells #[.int .i64 b, .slice A l.length c, .int .i64 u] 90 (0, 0)) := (hB.block _ (by simp; omega)).trans (al_old (al_new _ _ _ rfl))
  have kd : w1.heap[w.heap.size + 1]? = some (.cells #[.int .i64 y, .int .i64 m, .int .i64 d, .int .i64 h, .int .i64 i, .int .i64 s] 98 (0, 0)) := (hB.block _ (by simp)).trans (al_new _ _ _ (by simp))
  have x0 : w1.cell? ⟨w.heap.size + 1, 0, none⟩ = some (.int .i64 y) := blk_cell kd 0
  have x1 : w1.cell? ⟨w.heap.size + 1, 1, none⟩ = some (.int .i64 m) := blk_cell kd 1
  have x2 : w1.cell? ⟨w.heap.size + 1, 2, none⟩ = some (.int .i64 d) := blk_cell kd 2
  have x3 : w1.cell? ⟨w.heap.size + 1, 3, none⟩ = some (.int .i64 h) := blk_cell kd 3
  have x4 : w1.cell? ⟨w.heap.size + 1, 4, none⟩ = some (.int .i64 i) := blk_cell kd 4
  have x5 : w1.cell? ⟨w.heap.size + 1, 5, none⟩ = some (.int .i64 s) := blk_cell kd 5
  have t0 : w1.cell? ⟨w.heap.size, 0, none⟩ = some (.int .i64 b) := blk_cell kx 0
  have t1 : w1.cell? ⟨w.heap.size, 1, none⟩ = some (.slice A l.length c) := blk_cell kx 1
  have t2 : w1.cell? ⟨w.heap.size, 2, none⟩ = some (.int .i64 u) := blk_cell kx 2
  clear hB kx kd
  go_wp2_with fail
  refine (a44 _).mono ?_
  rintro en w2 ⟨rfl, hB⟩
  replace hv := hv.trans (hB.mono hv.size)
  replace x0 := cell_on hB x0
  replace x1 := cell_on hB x1
  replace x2 := cell_on hB x2
  replace x3 := cell_on hB x3
  replace x4 := cell_on hB x4
  replace x5 := cell_on hB x5
  replace t0 := cell_on hB t0
  replace t1 := cell_on hB t1
  replace t2 := cell_on hB t2
  clear hB
  go_wp2
  go_ret2
  exact ⟨rfl, hv⟩
set_option maxHeartbeats 2000000 in
set_option maxRecDepth 100000 in
theorem rSeconds_late (b u : Int) (A : Option Addr) (c : Nat) (l : List (Int × Int)) (y m d h i s : Int) (w : World) (hr : Kd.C kl w A l.length l) (hk : checkF b l u = 0) (hok : okD y m d = true) (hday : u ≤ dayN y m d) :
    Calls Try.prog 57 #[tabV b A l.length c u, dateV y m d h i s] w fun e w' => e = .returned (.tuple #[.int .i64 0, .int .i64 90]) ∧ Below w.heap.size w w' := by
  have HR := Aside0.mk hr
  have a53 := fun w h => rcheck_calls b u A c l w h
  clear hr
  rw [hk] at a53
  have a44 := fun w => refDay_true y m d hok w
  obtain ⟨h1, h2, h3, h4, h5, h6⟩ := checkF_right hk
  have H6 := Aside0.mk h6
  clear hk hok h6
  generalize dayN y m d = n at *
  have d1 : decide (u ≤ n) = true := decide_eq_true hday
  go_enter Try.func57, Try.ntmps57
  go_wp2_with fail
  refine (a53 _ (Kd.C_below HR.out (((Below.refl _ w).alloc (Nat.le_refl _) _).alloc (by simp) _))).mono ?_
  rintro en w1 ⟨rfl, hB⟩
  have hv : Below w.heap.size w w1 := (((Below.refl _ w).alloc (Nat.le_refl _) _).alloc (by simp) _).trans (hB.mono (by simp; omega))
  have kx : w1.heap[w.heap.size]? = some (.cells #[.int .i64 b, .slice A l.length c, .int .i64 u] 90 (0, 0)) := (hB.block _ (by simp; omega)).trans (al_old (al_new _ _ _ rfl))
  have kd : w1.heap[w.heap.size + 1]? = some (.cells #[.int .i64 y, .int .i64 m, .int .i64 d, .int .i64 h, .int .i64 i, .int .i64 s] 98 (0, 0)) := (hB.block _ (by simp)).trans (al_new _ _ _ (by simp))
  have x0 : w1.cell? ⟨w.heap.size + 1, 0, none⟩ = some (.int .i64 y) := blk_cell kd 0
  have x1 : w1.cell? ⟨w.heap.size + 1, 1, none⟩ = some (.int .i64 m) := blk_cell kd 1
  have x2 : w1.cell? ⟨w.heap.size + 1, 2, none⟩ = some (.int .i64 d) := blk_cell kd 2
  have x3 : w1.cell? ⟨w.heap.size + 1, 3, none⟩ = some (.int .i64 h) := blk_cell kd 3
  have x4 : w1.cell? ⟨w.heap.size + 1, 4, none⟩ = some (.int .i64 i) := blk_cell kd 4
  have x5 : w1.cell? ⟨w.heap.size + 1, 5, none⟩ = some (.int .i64 s) := blk_cell kd 5
  have t0 : w1.cell? ⟨w.heap.size, 0, none⟩ = some (.int .i64 b) := blk_cell kx 0
  have t1 : w1.cell? ⟨w.heap.size, 1, none⟩ = some (.slice A l.length c) := blk_cell kx 1
  have t2 : w1.cell? ⟨w.heap.size, 2, none⟩ = some (.int .i64 u) := blk_cell kx 2
  clear hB kx kd
  go_wp2_with fail
  refine (a44 _).mono ?_
  rintro en w2 ⟨rfl, hB⟩
  replace hv := hv.trans (hB.mono hv.size)
  replace x0 := cell_on hB x0
  replace x1 := cell_on hB x1
  replace x2 := cell_on hB x2
  replace x3 := cell_on hB x3
  replace x4 := cell_on hB x4
  replace x5 := cell_on hB x5
  replace t0 := cell_on hB t0
  replace t1 := cell_on hB t1
  replace t2 := cell_on hB t2
  clear hB
  go_wp2
  go_ret2
  exact ⟨rfl, hv⟩
set_option maxHeartbeats 2000000 in
set_option maxRecDepth 100000 in
theorem rSeconds_h (b u : Int) (A : Option Addr) (c : Nat) (l : List (Int × Int)) (y m d h i s : Int) (w : World) (hr : Kd.C kl w A l.length l) (hk : checkF b l u = 0) (hok : okD y m d = true) (hday : dayN y m d < u) (hh : ¬ (0 ≤ h ∧ h ≤ 23)) :
    Calls Try.prog 57 #[tabV b A l.length c u, dateV y m d h i s] w fun e w' => e = .returned (.tuple #[.int .i64 0, .int .i64 90]) ∧ Below w.heap.size w w' := by
  have HR := Aside0.mk hr
  have a53 := fun w h => rcheck_calls b u A c l w h
  clear hr
  rw [hk] at a53
  have a44 := fun w => refDay_true y m d hok w
  obtain ⟨h1, h2, h3, h4, h5, h6⟩ := checkF_right hk
  have H6 := Aside0.mk h6
  clear hk hok h6
  generalize dayN y m d = n at *
  have d1 : decide (u ≤ n) = false := decide_eq_false (by omega)
  have c1 := fun w => rin_calls h 0 23 w
  rw [show (decide (0 ≤ h) && decide (h ≤ 23)) = false by simp; omega] at c1
  clear hh
  go_enter Try.func57, Try.ntmps57
  go_wp2_with fail
  refine (a53 _ (Kd.C_below HR.out (((Below.refl _ w).alloc (Nat.le_refl _) _).alloc (by simp) _))).mono ?_
  rintro en w1 ⟨rfl, hB⟩
  have hv : Below w.heap.size w w1 := (((Below.refl _ w).alloc (Nat.le_refl _) _).alloc (by simp) _).trans (hB.mono (by simp; omega))
  have kx : w1.heap[w.heap.size]? = some (.cells #[.int .i64 b, .slice A l.length c, .int .i64 u] 90 (0, 0)) := (hB.block _ (by simp; omega)).trans (al_old (al_new _ _ _ rfl))
  have kd : w1.heap[w.heap.size + 1]? = some (.cells #[.int .i64 y, .int .i64 m, .int .i64 d, .int .i64 h, .int .i64 i, .int .i64 s] 98 (0, 0)) := (hB.block _ (by simp)).trans (al_new _ _ _ (by simp))
  have x0 : w1.cell? ⟨w.heap.size + 1, 0, none⟩ = some (.int .i64 y) := blk_cell kd 0
  have x1 : w1.cell? ⟨w.heap.size + 1, 1, none⟩ = some (.int .i64 m) := blk_cell kd 1
  have x2 : w1.cell? ⟨w.heap.size + 1, 2, none⟩ = some (.int .i64 d) := blk_cell kd 2
  have x3 : w1.cell? ⟨w.heap.size + 1, 3, none⟩ = some (.int .i64 h) := blk_cell kd 3
  have x4 : w1.cell? ⟨w.heap.size + 1, 4, none⟩ = some (.int .i64 i) := blk_cell kd 4
  have x5 : w1.cell? ⟨w.heap.size + 1, 5, none⟩ = some (.int .i64 s) := blk_cell kd 5
  have t0 : w1.cell? ⟨w.heap.size, 0, none⟩ = some (.int .i64 b) := blk_cell kx 0
  have t1 : w1.cell? ⟨w.heap.size, 1, none⟩ = some (.slice A l.length c) := blk_cell kx 1
  have t2 : w1.cell? ⟨w.heap.size, 2, none⟩ = some (.int .i64 u) := blk_cell kx 2
  clear hB kx kd
  go_wp2_with fail
  refine (a44 _).mono ?_
  rintro en w2 ⟨rfl, hB⟩
  replace hv := hv.trans (hB.mono hv.size)
  replace x0 := cell_on hB x0
  replace x1 := cell_on hB x1
  replace x2 := cell_on hB x2
  replace x3 := cell_on hB x3
  replace x4 := cell_on hB x4
  replace x5 := cell_on hB x5
  replace t0 := cell_on hB t0
  replace t1 := cell_on hB t1
  replace t2 := cell_on hB t2
  clear hB
  go_wp2_with fail
  refine (c1 _).mono ?_
  rintro en w3 ⟨rfl, hB⟩
  replace hv := hv.trans (hB.mono hv.size)
  replace x0 := cell_on hB x0
  replace x1 := cell_on hB x1
  replace x2 := cell_on hB x2
  replace x3 := cell_on hB x3
  replace x4 := cell_on hB x4
  replace x5 := cell_on hB x5
  replace t0 := cell_on hB t0
  replace t1 := cell_on hB t1
  replace t2 := cell_on hB t2
  clear hB
  go_wp2
  go_ret2
  exact ⟨rfl, hv⟩
set_option maxHeartbeats 2000000 in
set_option maxRecDepth 100000 in
theorem rSeconds_i (b u : Int) (A : Option Addr) (c : Nat) (l : List (Int × Int)) (y m d h i s : Int) (w : World) (hr : Kd.C kl w A l.length l) (hk : checkF b l u = 0) (hok : okD y m d = true) (hday : dayN y m d < u) (hh : 0 ≤ h ∧ h ≤ 23) (hi : ¬ (0 ≤ i ∧ i ≤ 59)) :
    Calls Try.prog 57 #[tabV b A l.length c u, dateV y m d h i s] w fun e w' => e = .returned (.tuple #[.int .i64 0, .int .i64 90]) ∧ Below w.heap.size w w' := by
  have HR := Aside0.mk hr
  have a53 := fun w h => rcheck_calls b u A c l w h
  clear hr
  rw [hk] at a53
  have a44 := fun w => refDay_true y m d hok w
  obtain ⟨h1, h2, h3, h4, h5, h6⟩ := checkF_right hk
  have H6 := Aside0.mk h6
  clear hk hok h6
  generalize dayN y m d = n at *
  have d1 : decide (u ≤ n) = false := decide_eq_false (by omega)
  have c1 := fun w => rin_calls h 0 23 w
  rw [show (decide (0 ≤ h) && decide (h ≤ 23)) = true by simp; omega] at c1
  have c2 := fun w => rin_calls i 0 59 w
  rw [show (decide (0 ≤ i) && decide (i ≤ 59)) = false by simp; omega] at c2
  clear hi
  go_enter Try.func57, Try.ntmps57
  go_wp2_with fail
  refine (a53 _ (Kd.C_below HR.out (((Below.refl _ w).alloc (Nat.le_refl _) _).alloc (by simp) _))).mono ?_
  rintro en w1 ⟨rfl, hB⟩
  have hv : Below w.heap.size w w1 := (((Below.refl _ w).alloc (Nat.le_refl _) _).alloc (by simp) _).trans (hB.mono (by simp; omega))
  have kx : w1.heap[w.heap.size]? = some (.cells #[.int .i64 b, .slice A l.length c, .int .i64 u] 90 (0, 0)) := (hB.block _ (by simp; omega)).trans (al_old (al_new _ _ _ rfl))
  have kd : w1.heap[w.heap.size + 1]? = some (.cells #[.int .i64 y, .int .i64 m, .int .i64 d, .int .i64 h, .int .i64 i, .int .i64 s] 98 (0, 0)) := (hB.block _ (by simp)).trans (al_new _ _ _ (by simp))
  have x0 : w1.cell? ⟨w.heap.size + 1, 0, none⟩ = some (.int .i64 y) := blk_cell kd 0
  have x1 : w1.cell? ⟨w.heap.size + 1, 1, none⟩ = some (.int .i64 m) := blk_cell kd 1
  have x2 : w1.cell? ⟨w.heap.size + 1, 2, none⟩ = some (.int .i64 d) := blk_cell kd 2
  have x3 : w1.cell? ⟨w.heap.size + 1, 3, none⟩ = some (.int .i64 h) := blk_cell kd 3
  have x4 : w1.cell? ⟨w.heap.size + 1, 4, none⟩ = some (.int .i64 i) := blk_cell kd 4
  have x5 : w1.cell? ⟨w.heap.size + 1, 5, none⟩ = some (.int .i64 s) := blk_cell kd 5
  have t0 : w1.cell? ⟨w.heap.size, 0, none⟩ = some (.int .i64 b) := blk_cell kx 0
  have t1 : w1.cell? ⟨w.heap.size, 1, none⟩ = some (.slice A l.length c) := blk_cell kx 1
  have t2 : w1.cell? ⟨w.heap.size, 2, none⟩ = some (.int .i64 u) := blk_cell kx 2
  clear hB kx kd
  go_wp2_with fail
  refine (a44 _).mono ?_
  rintro en w2 ⟨rfl, hB⟩
  replace hv := hv.trans (hB.mono hv.size)
  replace x0 := cell_on hB x0
  replace x1 := cell_on hB x1
  replace x2 := cell_on hB x2
  replace x3 := cell_on hB x3
  replace x4 := cell_on hB x4
  replace x5 := cell_on hB x5
  replace t0 := cell_on hB t0
  replace t1 := cell_on hB t1
  replace t2 := cell_on hB t2
  clear hB
  go_wp2_with fail
  refine (c1 _).mono ?_
  rintro en w3 ⟨rfl, hB⟩
  replace hv := hv.trans (hB.mono hv.size)
  replace x0 := cell_on hB x0
  replace x1 := cell_on hB x1
  replace x2 := cell_on hB x2
  replace x3 := cell_on hB x3
  replace x4 := cell_on hB x4
  replace x5 := cell_on hB x5
  replace t0 := cell_on hB t0
  replace t1 := cell_on hB t1
  replace t2 := cell_on hB t2
  clear hB
  go_wp2_with fail
  refine (c2 _).mono ?_
  rintro en w4 ⟨rfl, hB⟩
  replace hv := hv.trans (hB.mono hv.size)
  replace x0 := cell_on hB x0
  replace x1 := cell_on hB x1
  replace x2 := cell_on hB x2
  replace x3 := cell_on hB x3
  replace x4 := cell_on hB x4
  replace x5 := cell_on hB x5
  replace t0 := cell_on hB t0
  replace t1 := cell_on hB t1
  replace t2 := cell_on hB t2
  clear hB
  go_wp2
  go_ret2
  exact ⟨rfl, hv⟩
set_option maxHeartbeats 2000000 in
set_option maxRecDepth 100000 in
theorem rSeconds_neg (b u : Int) (A : Option Addr) (c : Nat) (l : List (Int × Int)) (y m d h i s : Int) (w : World) (hr : Kd.C kl w A l.length l) (hk : checkF b l u = 0) (hok : okD y m d = true) (hday : dayN y m d < u) (hh : 0 ≤ h ∧ h ≤ 23) (hi : 0 ≤ i ∧ i ≤ 59) (hs : s < 0) :
    Calls Try.prog 57 #[tabV b A l.length c u, dateV y m d h i s] w fun e w' => e = .returned (.tuple #[.int .i64 0, .int .i64 90]) ∧ Below w.heap.size w w' := by
  have HR := Aside0.mk hr
  have a53 := fun w h => rcheck_calls b u A c l w h
  clear hr
  rw [hk] at a53
  have a44 := fun w => refDay_true y m d hok w
  obtain ⟨h1, h2, h3, h4, h5, h6⟩ := checkF_right hk
  have H6 := Aside0.mk h6
  clear hk hok h6
  generalize dayN y m d = n at *
  have d1 : decide (u ≤ n) = false := decide_eq_false (by omega)
  have c1 := fun w => rin_calls h 0 23 w
  rw [show (decide (0 ≤ h) && decide (h ≤ 23)) = true by simp; omega] at c1
  have c2 := fun w => rin_calls i 0 59 w
  rw [show (decide (0 ≤ i) && decide (i ≤ 59)) = true by simp; omega] at c2
  have d2 : decide (s < 0) = true := decide_eq_true hs
  go_enter Try.func57, Try.ntmps57
  go_wp2_with fail
  refine (a53 _ (Kd.C_below HR.out (((Below.refl _ w).alloc (Nat.le_refl _) _).alloc (by simp) _))).mono ?_
  rintro en w1 ⟨rfl, hB⟩
  have hv : Below w.heap.size w w1 := (((Below.refl _ w).alloc (Nat.le_refl _) _).alloc (by simp) _).trans (hB.mono (by simp; omega))
  have kx : w1.heap[w.heap.size]? = some (.cells #[.int .i64 b, .slice A l.length c, .int .i64 u] 90 (0, 0)) := (hB.block _ (by simp; omega)).trans (al_old (al_new _ _ _ rfl))
  have kd : w1.heap[w.heap.size + 1]? = some (.cells #[.int .i64 y, .int .i64 m, .int .i64 d, .int .i64 h, .int .i64 i, .int .i64 s] 98 (0, 0)) := (hB.block _ (by simp)).trans (al_new _ _ _ (by simp))
  have x0 : w1.cell? ⟨w.heap.size + 1, 0, none⟩ = some (.int .i64 y) := blk_cell kd 0
  have x1 : w1.cell? ⟨w.heap.size + 1, 1, none⟩ = some (.int .i64 m) := blk_cell kd 1
  have x2 : w1.cell? ⟨w.heap.size + 1, 2, none⟩ = some (.int .i64 d) := blk_cell kd 2
  have x3 : w1.cell? ⟨w.heap.size + 1, 3, none⟩ = some (.int .i64 h) := blk_cell kd 3
  have x4 : w1.cell? ⟨w.heap.size + 1, 4, none⟩ = some (.int .i64 i) := blk_cell kd 4
  have x5 : w1.cell? ⟨w.heap.size + 1, 5, none⟩ = some (.int .i64 s) := blk_cell kd 5
  have t0 : w1.cell? ⟨w.heap.size, 0, none⟩ = some (.int .i64 b) := blk_cell kx 0
  have t1 : w1.cell? ⟨w.heap.size, 1, none⟩ = some (.slice A l.length c) := blk_cell kx 1
  have t2 : w1.cell? ⟨w.heap.size, 2, none⟩ = some (.int .i64 u) := blk_cell kx 2
  clear hB kx kd
  go_wp2_with fail
  refine (a44 _).mono ?_
  rintro en w2 ⟨rfl, hB⟩
  replace hv := hv.trans (hB.mono hv.size)
  replace x0 := cell_on hB x0
  replace x1 := cell_on hB x1
  replace x2 := cell_on hB x2
  replace x3 := cell_on hB x3
  replace x4 := cell_on hB x4
  replace x5 := cell_on hB x5
  replace t0 := cell_on hB t0
  replace t1 := cell_on hB t1
  replace t2 := cell_on hB t2
  clear hB
  go_wp2_with fail
  refine (c1 _).mono ?_
  rintro en w3 ⟨rfl, hB⟩
  replace hv := hv.trans (hB.mono hv.size)
  replace x0 := cell_on hB x0
  replace x1 := cell_on hB x1
  replace x2 := cell_on hB x2
  replace x3 := cell_on hB x3
  replace x4 := cell_on hB x4
  replace x5 := cell_on hB x5
  replace t0 := cell_on hB t0
  replace t1 := cell_on hB t1
  replace t2 := cell_on hB t2
  clear hB
  go_wp2_with fail
  refine (c2 _).mono ?_
  rintro en w4 ⟨rfl, hB⟩
  replace hv := hv.trans (hB.mono hv.size)
  replace x0 := cell_on hB x0
  replace x1 := cell_on hB x1
  replace x2 := cell_on hB x2
  replace x3 := cell_on hB x3
  replace x4 := cell_on hB x4
  replace x5 := cell_on hB x5
  replace t0 := cell_on hB t0
  replace t1 := cell_on hB t1
  replace t2 := cell_on hB t2
  clear hB
  go_wp2
  go_ret2
  exact ⟨rfl, hv⟩
set_option maxHeartbeats 2000000 in
set_option maxRecDepth 100000 in
theorem rSeconds_leap_ok (b u : Int) (A : Option Addr) (c : Nat) (l : List (Int × Int)) (y m d h i s : Int) (w : World) (hr : Kd.C kl w A l.length l) (hk : checkF b l u = 0) (hok : okD y m d = true) (hday : dayN y m d < u) (hh : 0 ≤ h ∧ h ≤ 23) (hi : 0 ≤ i ∧ i ≤ 59) (hs : 0 ≤ s) (hs2 : s ≤ 1000) (hl : h = 23 ∧ i = 59) (hm : s ≤ 59 + stepF l (dayN y m d)) :
    Calls Try.prog 57 #[tabV b A l.length c u, dateV y m d h i s] w fun e w' => e = .returned (.tuple #[.int .i64 (beginF l (dayN y m d) + (3600 * h + 60 * i + s)), .int .i64 0]) ∧ Below w.heap.size w w' := by
  have HR := Aside0.mk hr
  have a53 := fun w h => rcheck_calls b u A c l w h
  clear hr
  rw [hk] at a53
  have hdb : 0 ≤ dayN y m d ∧ dayN y m d ≤ 100000 := by have h' := okD_iff.1 hok; have := mlen_bound y m; have := cum_bound y (m - 1).toNat; unfold dayN ny; omega
  have a44 := fun w => refDay_true y m d hok w
  obtain ⟨h1, h2, h3, h4, h5, h6⟩ := checkF_right hk
  have H6 := Aside0.mk h6
  clear hk hok h6
  have hsb := step_bound (dayN y m d) l (fun x hx => (H6.out.steps x hx).1)
  have hgb := H6.out.take l.length (dayN y m d)
  rw [List.take_length] at hgb
  have hbb : -100000000000 ≤ beginF l (dayN y m d) ∧ beginF l (dayN y m d) ≤ 100000000000 := by unfold beginF; omega
  clear hgb
  have a111 := fun w h => rstep_calls b u A c l (dayN y m d) w h h5
  have a109 := fun w h => rbegin_calls b u u A c l (dayN y m d) (by omega) (by omega) w h H6.out h5
  generalize beginF l (dayN y m d) = g at *
  generalize stepF l (dayN y m d) = q at *
  generalize dayN y m d = n at *
  have d1 : decide (u ≤ n) = false := decide_eq_false (by omega)
  have c1 := fun w => rin_calls h 0 23 w
  rw [show (decide (0 ≤ h) && decide (h ≤ 23)) = true by simp; omega] at c1
  have c2 := fun w => rin_calls i 0 59 w
  rw [show (decide (0 ≤ i) && decide (i ≤ 59)) = true by simp; omega] at c2
  have d2 : decide (s < 0) = false := decide_eq_false (by omega)
  have dm : decide (59 + q < s) = false := decide_eq_false (by omega)
  obtain ⟨rfl, rfl⟩ := hl
  go_enter Try.func57, Try.ntmps57
  go_wp2_with fail
  refine (a53 _ (Kd.C_below HR.out (((Below.refl _ w).alloc (Nat.le_refl _) _).alloc (by simp) _))).mono ?_
  rintro en w1 ⟨rfl, hB⟩
  have hv : Below w.heap.size w w1 := (((Below.refl _ w).alloc (Nat.le_refl _) _).alloc (by simp) _).trans (hB.mono (by simp; omega))
  have kx : w1.heap[w.heap.size]? = some (.cells #[.int .i64 b, .slice A l.length c, .int .i64 u] 90 (0, 0)) := (hB.block _ (by simp; omega)).trans (al_old (al_new _ _ _ rfl))
  have kd : w1.heap[w.heap.size + 1]? = some (.cells #[.int .i64 y, .int .i64 m, .int .i64 d, .int .i64 23, .int .i64 59, .int .i64 s] 98 (0, 0)) := (hB.block _ (by simp)).trans (al_new _ _ _ (by simp))
  have x0 : w1.cell? ⟨w.heap.size + 1, 0, none⟩ = some (.int .i64 y) := blk_cell kd 0
  have x1 : w1.cell? ⟨w.heap.size + 1, 1, none⟩ = some (.int .i64 m) := blk_cell kd 1
  have x2 : w1.cell? ⟨w.heap.size + 1, 2, none⟩ = some (.int .i64 d) := blk_cell kd 2
  have x3 : w1.cell? ⟨w.heap.size + 1, 3, none⟩ = some (.int .i64 23) := blk_cell kd 3
  have x4 : w1.cell? ⟨w.heap.size + 1, 4, none⟩ = some (.int .i64 59) := blk_cell kd 4
  have x5 : w1.cell? ⟨w.heap.size + 1, 5, none⟩ = some (.int .i64 s) := blk_cell kd 5
  have t0 : w1.cell? ⟨w.heap.size, 0, none⟩ = some (.int .i64 b) := blk_cell kx 0
  have t1 : w1.cell? ⟨w.heap.size, 1, none⟩ = some (.slice A l.length c) := blk_cell kx 1
  have t2 : w1.cell? ⟨w.heap.size, 2, none⟩ = some (.int .i64 u) := blk_cell kx 2
  clear hB kx kd
  go_wp2_with fail
  refine (a44 _).mono ?_
  rintro en w2 ⟨rfl, hB⟩
  replace hv := hv.trans (hB.mono hv.size)
  replace x0 := cell_on hB x0
  replace x1 := cell_on hB x1
  replace x2 := cell_on hB x2
  replace x3 := cell_on hB x3
  replace x4 := cell_on hB x4
  replace x5 := cell_on hB x5
  replace t0 := cell_on hB t0
  replace t1 := cell_on hB t1
  replace t2 := cell_on hB t2
  clear hB
  go_wp2_with fail
  refine (c1 _).mono ?_
  rintro en w3 ⟨rfl, hB⟩
  replace hv := hv.trans (hB.mono hv.size)
  replace x0 := cell_on hB x0
  replace x1 := cell_on hB x1
  replace x2 := cell_on hB x2
  replace x3 := cell_on hB x3
  replace x4 := cell_on hB x4
  replace x5 := cell_on hB x5
  replace t0 := cell_on hB t0
  replace t1 := cell_on hB t1
  replace t2 := cell_on hB t2
  clear hB
  go_wp2_with fail
  refine (c2 _).mono ?_
  rintro en w4 ⟨rfl, hB⟩
  replace hv := hv.trans (hB.mono hv.size)
  replace x0 := cell_on hB x0
  replace x1 := cell_on hB x1
  replace x2 := cell_on hB x2
  replace x3 := cell_on hB x3
  replace x4 := cell_on hB x4
  replace x5 := cell_on hB x5
  replace t0 := cell_on hB t0
  replace t1 := cell_on hB t1
  replace t2 := cell_on hB t2
  clear hB
  go_wp2_with fail
  refine (a111 _ (Kd.C_below HR.out hv)).mono ?_
  rintro en w5 ⟨rfl, hB⟩
  replace hv := hv.trans (hB.mono hv.size)
  replace x0 := cell_on hB x0
  replace x1 := cell_on hB x1
  replace x2 := cell_on hB x2
  replace x3 := cell_on hB x3
  replace x4 := cell_on hB x4
  replace x5 := cell_on hB x5
  replace t0 := cell_on hB t0
  replace t1 := cell_on hB t1
  replace t2 := cell_on hB t2
  clear hB
  go_wp2_with fail
  have hw1 : IntKind.i64.wrap (82800) = 82800 := iw _ (by omega) (by omega)
  have hw2 : IntKind.i64.wrap (g + 82800) = g + 82800 := iw _ (by omega) (by omega)
  have hw3 : IntKind.i64.wrap (3540) = 3540 := iw _ (by omega) (by omega)
  have hw4 : IntKind.i64.wrap (g + 82800 + 3540) = g + 82800 + 3540 := iw _ (by omega) (by omega)
  have hw5 : IntKind.i64.wrap (g + 82800 + 3540 + s) = g + (3600 * 23 + 60 * 59 + s) := by rw [iw _ (by omega) (by omega)]; omega
  have hS : ∀ w', Below w5.heap.size w5 w' → ((w'.cell? ⟨w.heap.size, 0, none⟩ = some (.int .i64 b) ∧ w'.cell? ⟨w.heap.size, 1, none⟩ = some (.slice A l.length c) ∧ w'.cell? ⟨w.heap.size, 2, none⟩ = some (.int .i64 u) ∧ w'.cell? ⟨w.heap.size + 1, 3, none⟩ = some (.int .i64 23) ∧ w'.cell? ⟨w.heap.size + 1, 4, none⟩ = some (.int .i64 59) ∧ w'.cell? ⟨w.heap.size + 1, 5, none⟩ = some (.int .i64 s)) ∧ Below w5.heap.size w5 w') := fun w' hB => ⟨⟨cell_on hB t0, cell_on hB t1, cell_on hB t2, cell_on hB x3, cell_on hB x4, cell_on hB x5⟩, hB⟩
  go_region_held3 (fun w' => (w'.cell? ⟨w.heap.size, 0, none⟩ = some (.int .i64 b) ∧ w'.cell? ⟨w.heap.size, 1, none⟩ = some (.slice A l.length c) ∧ w'.cell? ⟨w.heap.size, 2, none⟩ = some (.int .i64 u) ∧ w'.cell? ⟨w.heap.size + 1, 3, none⟩ = some (.int .i64 23) ∧ w'.cell? ⟨w.heap.size + 1, 4, none⟩ = some (.int .i64 59) ∧ w'.cell? ⟨w.heap.size + 1, 5, none⟩ = some (.int .i64 s)) ∧ Below w5.heap.size w5 w') (first | exact hS _ (Below.refl _ _).drew | assumption | (have hh := ‹(_ ∧ _ ∧ _ ∧ _ ∧ _ ∧ _) ∧ Below w5.heap.size w5 _›; exact hS _ (hh.2.trans (hB.mono hh.2.size))))
    (first | (go_at_call 109; refine (a109 _ (by have hh := ‹(_ ∧ _ ∧ _ ∧ _ ∧ _ ∧ _) ∧ Below w5.heap.size w5 _›; exact Kd.C_below HR.out (hv.trans (hh.2.mono hv.size)))).mono ?_; rintro e w' ⟨rfl, hB⟩))
  rename_i hHeld
  have hV := hHeld.2
  clear hHeld hS hw1 hw2 hw3 hw4
  replace hw5 := Aside0.mk hw5
  try go_wp2
  go_ret2
  exact ⟨by first | rfl | (rw [← hw5.out]; rfl) | (simp; omega), hv.trans (hV.mono hv.size)⟩
set_option maxHeartbeats 2000000 in
set_option maxRecDepth 100000 in
theorem rSeconds_leap_bad (b u : Int) (A : Option Addr) (c : Nat) (l : List (Int × Int)) (y m d h i s : Int) (w : World) (hr : Kd.C kl w A l.length l) (hk : checkF b l u = 0) (hok : okD y m d = true) (hday : dayN y m d < u) (hh : 0 ≤ h ∧ h ≤ 23) (hi : 0 ≤ i ∧ i ≤ 59) (hs : 0 ≤ s) (hl : h = 23 ∧ i = 59) (hm : 59 + stepF l (dayN y m d) < s) :
    Calls Try.prog 57 #[tabV b A l.length c u, dateV y m d h i s] w fun e w' => e = .returned (.tuple #[.int .i64 0, .int .i64 90]) ∧ Below w.heap.size w w' := by
  have HR := Aside0.mk hr
  have a53 := fun w h => rcheck_calls b u A c l w h
  clear hr
  rw [hk] at a53
  have hdb : 0 ≤ dayN y m d ∧ dayN y m d ≤ 100000 := by have h' := okD_iff.1 hok; have := mlen_bound y m; have := cum_bound y (m - 1).toNat; unfold dayN ny; omega
  have a44 := fun w => refDay_true y m d hok w
  obtain ⟨h1, h2, h3, h4, h5, h6⟩ := checkF_right hk
  have H6 := Aside0.mk h6
  clear hk hok h6
  have hsb := step_bound (dayN y m d) l (fun x hx => (H6.out.steps x hx).1)
  have hgb := H6.out.take l.length (dayN y m d)
  rw [List.take_length] at hgb
  have hbb : -100000000000 ≤ beginF l (dayN y m d) ∧ beginF l (dayN y m d) ≤ 100000000000 := by unfold beginF; omega
  clear hgb
  have a111 := fun w h => rstep_calls b u A c l (dayN y m d) w h h5
  have a109 := fun w h => rbegin_calls b u u A c l (dayN y m d) (by omega) (by omega) w h H6.out h5
  generalize beginF l (dayN y m d) = g at *
  generalize stepF l (dayN y m d) = q at *
  generalize dayN y m d = n at *
  have d1 : decide (u ≤ n) = false := decide_eq_false (by omega)
  have c1 := fun w => rin_calls h 0 23 w
  rw [show (decide (0 ≤ h) && decide (h ≤ 23)) = true by simp; omega] at c1
  have c2 := fun w => rin_calls i 0 59 w
  rw [show (decide (0 ≤ i) && decide (i ≤ 59)) = true by simp; omega] at c2
  have d2 : decide (s < 0) = false := decide_eq_false (by omega)
  have dm : decide (59 + q < s) = true := decide_eq_true (by omega)
  obtain ⟨rfl, rfl⟩ := hl
  go_enter Try.func57, Try.ntmps57
  go_wp2_with fail
  refine (a53 _ (Kd.C_below HR.out (((Below.refl _ w).alloc (Nat.le_refl _) _).alloc (by simp) _))).mono ?_
  rintro en w1 ⟨rfl, hB⟩
  have hv : Below w.heap.size w w1 := (((Below.refl _ w).alloc (Nat.le_refl _) _).alloc (by simp) _).trans (hB.mono (by simp; omega))
  have kx : w1.heap[w.heap.size]? = some (.cells #[.int .i64 b, .slice A l.length c, .int .i64 u] 90 (0, 0)) := (hB.block _ (by simp; omega)).trans (al_old (al_new _ _ _ rfl))
  have kd : w1.heap[w.heap.size + 1]? = some (.cells #[.int .i64 y, .int .i64 m, .int .i64 d, .int .i64 23, .int .i64 59, .int .i64 s] 98 (0, 0)) := (hB.block _ (by simp)).trans (al_new _ _ _ (by simp))
  have x0 : w1.cell? ⟨w.heap.size + 1, 0, none⟩ = some (.int .i64 y) := blk_cell kd 0
  have x1 : w1.cell? ⟨w.heap.size + 1, 1, none⟩ = some (.int .i64 m) := blk_cell kd 1
  have x2 : w1.cell? ⟨w.heap.size + 1, 2, none⟩ = some (.int .i64 d) := blk_cell kd 2
  have x3 : w1.cell? ⟨w.heap.size + 1, 3, none⟩ = some (.int .i64 23) := blk_cell kd 3
  have x4 : w1.cell? ⟨w.heap.size + 1, 4, none⟩ = some (.int .i64 59) := blk_cell kd 4
  have x5 : w1.cell? ⟨w.heap.size + 1, 5, none⟩ = some (.int .i64 s) := blk_cell kd 5
  have t0 : w1.cell? ⟨w.heap.size, 0, none⟩ = some (.int .i64 b) := blk_cell kx 0
  have t1 : w1.cell? ⟨w.heap.size, 1, none⟩ = some (.slice A l.length c) := blk_cell kx 1
  have t2 : w1.cell? ⟨w.heap.size, 2, none⟩ = some (.int .i64 u) := blk_cell kx 2
  clear hB kx kd
  go_wp2_with fail
  refine (a44 _).mono ?_
  rintro en w2 ⟨rfl, hB⟩
  replace hv := hv.trans (hB.mono hv.size)
  replace x0 := cell_on hB x0
  replace x1 := cell_on hB x1
  replace x2 := cell_on hB x2
  replace x3 := cell_on hB x3
  replace x4 := cell_on hB x4
  replace x5 := cell_on hB x5
  replace t0 := cell_on hB t0
  replace t1 := cell_on hB t1
  replace t2 := cell_on hB t2
  clear hB
  go_wp2_with fail
  refine (c1 _).mono ?_
  rintro en w3 ⟨rfl, hB⟩
  replace hv := hv.trans (hB.mono hv.size)
  replace x0 := cell_on hB x0
  replace x1 := cell_on hB x1
  replace x2 := cell_on hB x2
  replace x3 := cell_on hB x3
  replace x4 := cell_on hB x4
  replace x5 := cell_on hB x5
  replace t0 := cell_on hB t0
  replace t1 := cell_on hB t1
  replace t2 := cell_on hB t2
  clear hB
  go_wp2_with fail
  refine (c2 _).mono ?_
  rintro en w4 ⟨rfl, hB⟩
  replace hv := hv.trans (hB.mono hv.size)
  replace x0 := cell_on hB x0
  replace x1 := cell_on hB x1
  replace x2 := cell_on hB x2
  replace x3 := cell_on hB x3
  replace x4 := cell_on hB x4
  replace x5 := cell_on hB x5
  replace t0 := cell_on hB t0
  replace t1 := cell_on hB t1
  replace t2 := cell_on hB t2
  clear hB
  go_wp2_with fail
  refine (a111 _ (Kd.C_below HR.out hv)).mono ?_
  rintro en w5 ⟨rfl, hB⟩
  replace hv := hv.trans (hB.mono hv.size)
  replace x0 := cell_on hB x0
  replace x1 := cell_on hB x1
  replace x2 := cell_on hB x2
  replace x3 := cell_on hB x3
  replace x4 := cell_on hB x4
  replace x5 := cell_on hB x5
  replace t0 := cell_on hB t0
  replace t1 := cell_on hB t1
  replace t2 := cell_on hB t2
  clear hB
  go_wp2
  go_ret2
  exact ⟨rfl, hv⟩
set_option maxHeartbeats 2000000 in
set_option maxRecDepth 100000 in
theorem rSeconds_other_ok (b u : Int) (A : Option Addr) (c : Nat) (l : List (Int × Int)) (y m d h i s : Int) (w : World) (hr : Kd.C kl w A l.length l) (hk : checkF b l u = 0) (hok : okD y m d = true) (hday : dayN y m d < u) (hh : 0 ≤ h ∧ h ≤ 23) (hi : 0 ≤ i ∧ i ≤ 59) (hs : 0 ≤ s) (hs2 : s ≤ 1000) (hl : ¬ (h = 23 ∧ i = 59)) (hm : s ≤ 59) :
    Calls Try.prog 57 #[tabV b A l.length c u, dateV y m d h i s] w fun e w' => e = .returned (.tuple #[.int .i64 (beginF l (dayN y m d) + (3600 * h + 60 * i + s)), .int .i64 0]) ∧ Below w.heap.size w w' := by
  have HR := Aside0.mk hr
  have a53 := fun w h => rcheck_calls b u A c l w h
  clear hr
  rw [hk] at a53
  have hdb : 0 ≤ dayN y m d ∧ dayN y m d ≤ 100000 := by have h' := okD_iff.1 hok; have := mlen_bound y m; have := cum_bound y (m - 1).toNat; unfold dayN ny; omega
  have a44 := fun w => refDay_true y m d hok w
  obtain ⟨h1, h2, h3, h4, h5, h6⟩ := checkF_right hk
  have H6 := Aside0.mk h6
  clear hk hok h6
  have hsb := step_bound (dayN y m d) l (fun x hx => (H6.out.steps x hx).1)
  have hgb := H6.out.take l.length (dayN y m d)
  rw [List.take_length] at hgb
  have hbb : -100000000000 ≤ beginF l (dayN y m d) ∧ beginF l (dayN y m d) ≤ 100000000000 := by unfold beginF; omega
  clear hgb
  have a111 := fun w h => rstep_calls b u A c l (dayN y m d) w h h5
  have a109 := fun w h => rbegin_calls b u u A c l (dayN y m d) (by omega) (by omega) w h H6.out h5
  generalize beginF l (dayN y m d) = g at *
  generalize stepF l (dayN y m d) = q at *
  generalize dayN y m d = n at *
  have d1 : decide (u ≤ n) = false := decide_eq_false (by omega)
  have c1 := fun w => rin_calls h 0 23 w
  rw [show (decide (0 ≤ h) && decide (h ≤ 23)) = true by simp; omega] at c1
  have c2 := fun w => rin_calls i 0 59 w
  rw [show (decide (0 ≤ i) && decide (i ≤ 59)) = true by simp; omega] at c2
  have d2 : decide (s < 0) = false := decide_eq_false (by omega)
  have dm : decide (59 < s) = false := decide_eq_false (by omega)
  by_cases h23 : h = 23
  · subst h23
    have i59 : (i == 59) = false := beq_eq_false_iff_ne.2 (fun e => hl ⟨rfl, e⟩)
    clear hl
    go_enter Try.func57, Try.ntmps57
    go_wp2_with fail
    refine (a53 _ (Kd.C_below HR.out (((Below.refl _ w).alloc (Nat.le_refl _) _).alloc (by simp) _))).mono ?_
    rintro en w1 ⟨rfl, hB⟩
    have hv : Below w.heap.size w w1 := (((Below.refl _ w).alloc (Nat.le_refl _) _).alloc (by simp) _).trans (hB.mono (by simp; omega))
    have kx : w1.heap[w.heap.size]? = some (.cells #[.int .i64 b, .slice A l.length c, .int .i64 u] 90 (0, 0)) := (hB.block _ (by simp; omega)).trans (al_old (al_new _ _ _ rfl))
    have kd : w1.heap[w.heap.size + 1]? = some (.cells #[.int .i64 y, .int .i64 m, .int .i64 d, .int .i64 23, .int .i64 i, .int .i64 s] 98 (0, 0)) := (hB.block _ (by simp)).trans (al_new _ _ _ (by simp))
    have x0 : w1.cell? ⟨w.heap.size + 1, 0, none⟩ = some (.int .i64 y) := blk_cell kd 0
    have x1 : w1.cell? ⟨w.heap.size + 1, 1, none⟩ = some (.int .i64 m) := blk_cell kd 1
    have x2 : w1.cell? ⟨w.heap.size + 1, 2, none⟩ = some (.int .i64 d) := blk_cell kd 2
    have x3 : w1.cell? ⟨w.heap.size + 1, 3, none⟩ = some (.int .i64 23) := blk_cell kd 3
    have x4 : w1.cell? ⟨w.heap.size + 1, 4, none⟩ = some (.int .i64 i) := blk_cell kd 4
    have x5 : w1.cell? ⟨w.heap.size + 1, 5, none⟩ = some (.int .i64 s) := blk_cell kd 5
    have t0 : w1.cell? ⟨w.heap.size, 0, none⟩ = some (.int .i64 b) := blk_cell kx 0
    have t1 : w1.cell? ⟨w.heap.size, 1, none⟩ = some (.slice A l.length c) := blk_cell kx 1
    have t2 : w1.cell? ⟨w.heap.size, 2, none⟩ = some (.int .i64 u) := blk_cell kx 2
    clear hB kx kd
    go_wp2_with fail
    refine (a44 _).mono ?_
    rintro en w2 ⟨rfl, hB⟩
    replace hv := hv.trans (hB.mono hv.size)
    replace x0 := cell_on hB x0
    replace x1 := cell_on hB x1
    replace x2 := cell_on hB x2
    replace x3 := cell_on hB x3
    replace x4 := cell_on hB x4
    replace x5 := cell_on hB x5
    replace t0 := cell_on hB t0
    replace t1 := cell_on hB t1
    replace t2 := cell_on hB t2
    clear hB
    go_wp2_with fail
    refine (c1 _).mono ?_
    rintro en w3 ⟨rfl, hB⟩
    replace hv := hv.trans (hB.mono hv.size)
    replace x0 := cell_on hB x0
    replace x1 := cell_on hB x1
    replace x2 := cell_on hB x2
    replace x3 := cell_on hB x3
    replace x4 := cell_on hB x4
    replace x5 := cell_on hB x5
    replace t0 := cell_on hB t0
    replace t1 := cell_on hB t1
    replace t2 := cell_on hB t2
    clear hB
    go_wp2_with fail
    refine (c2 _).mono ?_
    rintro en w4 ⟨rfl, hB⟩
    replace hv := hv.trans (hB.mono hv.size)
    replace x0 := cell_on hB x0
    replace x1 := cell_on hB x1
    replace x2 := cell_on hB x2
    replace x3 := cell_on hB x3
    replace x4 := cell_on hB x4
    replace x5 := cell_on hB x5
    replace t0 := cell_on hB t0
    replace t1 := cell_on hB t1
    replace t2 := cell_on hB t2
    clear hB
    go_wp2_with fail
    have hw1 : IntKind.i64.wrap (82800) = 82800 := iw _ (by omega) (by omega)
    have hw2 : IntKind.i64.wrap (g + 82800) = g + 82800 := iw _ (by omega) (by omega)
    have hw3 : IntKind.i64.wrap (60 * i) = 60 * i := iw _ (by omega) (by omega)
    have hw4 : IntKind.i64.wrap (g + 82800 + 60 * i) = g + 82800 + 60 * i := iw _ (by omega) (by omega)
    have hw5 : IntKind.i64.wrap (g + 82800 + 60 * i + s) = g + (3600 * 23 + 60 * i + s) := by rw [iw _ (by omega) (by omega)]; omega
    have hS : ∀ w', Below w4.heap.size w4 w' → ((w'.cell? ⟨w.heap.size, 0, none⟩ = some (.int .i64 b) ∧ w'.cell? ⟨w.heap.size, 1, none⟩ = some (.slice A l.length c) ∧ w'.cell? ⟨w.heap.size, 2, none⟩ = some (.int .i64 u) ∧ w'.cell? ⟨w.heap.size + 1, 3, none⟩ = some (.int .i64 23) ∧ w'.cell? ⟨w.heap.size + 1, 4, none⟩ = some (.int .i64 i) ∧ w'.cell? ⟨w.heap.size + 1, 5, none⟩ = some (.int .i64 s)) ∧ Below w4.heap.size w4 w') := fun w' hB => ⟨⟨cell_on hB t0, cell_on hB t1, cell_on hB t2, cell_on hB x3, cell_on hB x4, cell_on hB x5⟩, hB⟩
    go_region_held3 (fun w' => (w'.cell? ⟨w.heap.size, 0, none⟩ = some (.int .i64 b) ∧ w'.cell? ⟨w.heap.size, 1, none⟩ = some (.slice A l.length c) ∧ w'.cell? ⟨w.heap.size, 2, none⟩ = some (.int .i64 u) ∧ w'.cell? ⟨w.heap.size + 1, 3, none⟩ = some (.int .i64 23) ∧ w'.cell? ⟨w.heap.size + 1, 4, none⟩ = some (.int .i64 i) ∧ w'.cell? ⟨w.heap.size + 1, 5, none⟩ = some (.int .i64 s)) ∧ Below w4.heap.size w4 w') (first | exact hS _ (Below.refl _ _).drew | assumption | (have hh := ‹(_ ∧ _ ∧ _ ∧ _ ∧ _ ∧ _) ∧ Below w4.heap.size w4 _›; exact hS _ (hh.2.trans (hB.mono hh.2.size))))
      (first | (go_at_call 109; refine (a109 _ (by have hh := ‹(_ ∧ _ ∧ _ ∧ _ ∧ _ ∧ _) ∧ Below w4.heap.size w4 _›; exact Kd.C_below HR.out (hv.trans (hh.2.mono hv.size)))).mono ?_; rintro e w' ⟨rfl, hB⟩))
    rename_i hHeld
    have hV := hHeld.2
    clear hHeld hS hw1 hw2 hw3 hw4
    replace hw5 := Aside0.mk hw5
    try go_wp2
    go_ret2
    exact ⟨by first | rfl | (rw [← hw5.out]; rfl) | (simp; omega), hv.trans (hV.mono hv.size)⟩
  · have h23' : (h == 23) = false := beq_eq_false_iff_ne.2 h23
    clear hl h23
    go_enter Try.func57, Try.ntmps57
    go_wp2_with fail
    refine (a53 _ (Kd.C_below HR.out (((Below.refl _ w).alloc (Nat.le_refl _) _).alloc (by simp) _))).mono ?_
    rintro en w1 ⟨rfl, hB⟩
    have hv : Below w.heap.size w w1 := (((Below.refl _ w).alloc (Nat.le_refl _) _).alloc (by simp) _).trans (hB.mono (by simp; omega))
    have kx : w1.heap[w.heap.size]? = some (.cells #[.int .i64 b, .slice A l.length c, .int .i64 u] 90 (0, 0)) := (hB.block _ (by simp; omega)).trans (al_old (al_new _ _ _ rfl))
    have kd : w1.heap[w.heap.size + 1]? = some (.cells #[.int .i64 y, .int .i64 m, .int .i64 d, .int .i64 h, .int .i64 i, .int .i64 s] 98 (0, 0)) := (hB.block _ (by simp)).trans (al_new _ _ _ (by simp))
    have x0 : w1.cell? ⟨w.heap.size + 1, 0, none⟩ = some (.int .i64 y) := blk_cell kd 0
    have x1 : w1.cell? ⟨w.heap.size + 1, 1, none⟩ = some (.int .i64 m) := blk_cell kd 1
    have x2 : w1.cell? ⟨w.heap.size + 1, 2, none⟩ = some (.int .i64 d) := blk_cell kd 2
    have x3 : w1.cell? ⟨w.heap.size + 1, 3, none⟩ = some (.int .i64 h) := blk_cell kd 3
    have x4 : w1.cell? ⟨w.heap.size + 1, 4, none⟩ = some (.int .i64 i) := blk_cell kd 4
    have x5 : w1.cell? ⟨w.heap.size + 1, 5, none⟩ = some (.int .i64 s) := blk_cell kd 5
    have t0 : w1.cell? ⟨w.heap.size, 0, none⟩ = some (.int .i64 b) := blk_cell kx 0
    have t1 : w1.cell? ⟨w.heap.size, 1, none⟩ = some (.slice A l.length c) := blk_cell kx 1
    have t2 : w1.cell? ⟨w.heap.size, 2, none⟩ = some (.int .i64 u) := blk_cell kx 2
    clear hB kx kd
    go_wp2_with fail
    refine (a44 _).mono ?_
    rintro en w2 ⟨rfl, hB⟩
    replace hv := hv.trans (hB.mono hv.size)
    replace x0 := cell_on hB x0
    replace x1 := cell_on hB x1
    replace x2 := cell_on hB x2
    replace x3 := cell_on hB x3
    replace x4 := cell_on hB x4
    replace x5 := cell_on hB x5
    replace t0 := cell_on hB t0
    replace t1 := cell_on hB t1
    replace t2 := cell_on hB t2
    clear hB
    go_wp2_with fail
    refine (c1 _).mono ?_
    rintro en w3 ⟨rfl, hB⟩
    replace hv := hv.trans (hB.mono hv.size)
    replace x0 := cell_on hB x0
    replace x1 := cell_on hB x1
    replace x2 := cell_on hB x2
    replace x3 := cell_on hB x3
    replace x4 := cell_on hB x4
    replace x5 := cell_on hB x5
    replace t0 := cell_on hB t0
    replace t1 := cell_on hB t1
    replace t2 := cell_on hB t2
    clear hB
    go_wp2_with fail
    refine (c2 _).mono ?_
    rintro en w4 ⟨rfl, hB⟩
    replace hv := hv.trans (hB.mono hv.size)
    replace x0 := cell_on hB x0
    replace x1 := cell_on hB x1
    replace x2 := cell_on hB x2
    replace x3 := cell_on hB x3
    replace x4 := cell_on hB x4
    replace x5 := cell_on hB x5
    replace t0 := cell_on hB t0
    replace t1 := cell_on hB t1
    replace t2 := cell_on hB t2
    clear hB
    go_wp2_with fail
    have hw1 : IntKind.i64.wrap (3600 * h) = 3600 * h := iw _ (by omega) (by omega)
    have hw2 : IntKind.i64.wrap (g + 3600 * h) = g + 3600 * h := iw _ (by omega) (by omega)
    have hw3 : IntKind.i64.wrap (60 * i) = 60 * i := iw _ (by omega) (by omega)
    have hw4 : IntKind.i64.wrap (g + 3600 * h + 60 * i) = g + 3600 * h + 60 * i := iw _ (by omega) (by omega)
    have hw5 : IntKind.i64.wrap (g + 3600 * h + 60 * i + s) = g + (3600 * h + 60 * i + s) := by rw [iw _ (by omega) (by omega)]; omega
    have hS : ∀ w', Below w4.heap.size w4 w' → ((w'.cell? ⟨w.heap.size, 0, none⟩ = some (.int .i64 b) ∧ w'.cell? ⟨w.heap.size, 1, none⟩ = some (.slice A l.length c) ∧ w'.cell? ⟨w.heap.size, 2, none⟩ = some (.int .i64 u) ∧ w'.cell? ⟨w.heap.size + 1, 3, none⟩ = some (.int .i64 h) ∧ w'.cell? ⟨w.heap.size + 1, 4, none⟩ = some (.int .i64 i) ∧ w'.cell? ⟨w.heap.size + 1, 5, none⟩ = some (.int .i64 s)) ∧ Below w4.heap.size w4 w') := fun w' hB => ⟨⟨cell_on hB t0, cell_on hB t1, cell_on hB t2, cell_on hB x3, cell_on hB x4, cell_on hB x5⟩, hB⟩
    go_region_held3 (fun w' => (w'.cell? ⟨w.heap.size, 0, none⟩ = some (.int .i64 b) ∧ w'.cell? ⟨w.heap.size, 1, none⟩ = some (.slice A l.length c) ∧ w'.cell? ⟨w.heap.size, 2, none⟩ = some (.int .i64 u) ∧ w'.cell? ⟨w.heap.size + 1, 3, none⟩ = some (.int .i64 h) ∧ w'.cell? ⟨w.heap.size + 1, 4, none⟩ = some (.int .i64 i) ∧ w'.cell? ⟨w.heap.size + 1, 5, none⟩ = some (.int .i64 s)) ∧ Below w4.heap.size w4 w') (first | exact hS _ (Below.refl _ _).drew | assumption | (have hh := ‹(_ ∧ _ ∧ _ ∧ _ ∧ _ ∧ _) ∧ Below w4.heap.size w4 _›; exact hS _ (hh.2.trans (hB.mono hh.2.size))))
      (first | (go_at_call 109; refine (a109 _ (by have hh := ‹(_ ∧ _ ∧ _ ∧ _ ∧ _ ∧ _) ∧ Below w4.heap.size w4 _›; exact Kd.C_below HR.out (hv.trans (hh.2.mono hv.size)))).mono ?_; rintro e w' ⟨rfl, hB⟩))
    rename_i hHeld
    have hV := hHeld.2
    clear hHeld hS hw1 hw2 hw3 hw4
    replace hw5 := Aside0.mk hw5
    try go_wp2
    go_ret2
    exact ⟨by first | rfl | (rw [← hw5.out]; rfl) | (simp; omega), hv.trans (hV.mono hv.size)⟩
set_option maxHeartbeats 2000000 in
set_option maxRecDepth 100000 in
theorem rSeconds_other_bad (b u : Int) (A : Option Addr) (c : Nat) (l : List (Int × Int)) (y m d h i s : Int) (w : World) (hr : Kd.C kl w A l.length l) (hk : checkF b l u = 0) (hok : okD y m d = true) (hday : dayN y m d < u) (hh : 0 ≤ h ∧ h ≤ 23) (hi : 0 ≤ i ∧ i ≤ 59) (hs : 0 ≤ s) (hl : ¬ (h = 23 ∧ i = 59)) (hm : 59 < s) :
    Calls Try.prog 57 #[tabV b A l.length c u, dateV y m d h i s] w fun e w' => e = .returned (.tuple #[.int .i64 0, .int .i64 90]) ∧ Below w.heap.size w w' := by
  have HR := Aside0.mk hr
  have a53 := fun w h => rcheck_calls b u A c l w h
  clear hr
  rw [hk] at a53
  have hdb : 0 ≤ dayN y m d ∧ dayN y m d ≤ 100000 := by have h' := okD_iff.1 hok; have := mlen_bound y m; have := cum_bound y (m - 1).toNat; unfold dayN ny; omega
  have a44 := fun w => refDay_true y m d hok w
  obtain ⟨h1, h2, h3, h4, h5, h6⟩ := checkF_right hk
  have H6 := Aside0.mk h6
  clear hk hok h6
  have hsb := step_bound (dayN y m d) l (fun x hx => (H6.out.steps x hx).1)
  have hgb := H6.out.take l.length (dayN y m d)
  rw [List.take_length] at hgb
  have hbb : -100000000000 ≤ beginF l (dayN y m d) ∧ beginF l (dayN y m d) ≤ 100000000000 := by unfold beginF; omega
  clear hgb
  have a111 := fun w h => rstep_calls b u A c l (dayN y m d) w h h5
  have a109 := fun w h => rbegin_calls b u u A c l (dayN y m d) (by omega) (by omega) w h H6.out h5
  generalize beginF l (dayN y m d) = g at *
  generalize stepF l (dayN y m d) = q at *
  generalize dayN y m d = n at *
  have d1 : decide (u ≤ n) = false := decide_eq_false (by omega)
  have c1 := fun w => rin_calls h 0 23 w
  rw [show (decide (0 ≤ h) && decide (h ≤ 23)) = true by simp; omega] at c1
  have c2 := fun w => rin_calls i 0 59 w
  rw [show (decide (0 ≤ i) && decide (i ≤ 59)) = true by simp; omega] at c2
  have d2 : decide (s < 0) = false := decide_eq_false (by omega)
  have dm : decide (59 < s) = true := decide_eq_true (by omega)
  by_cases h23 : h = 23
  · subst h23
    have i59 : (i == 59) = false := beq_eq_false_iff_ne.2 (fun e => hl ⟨rfl, e⟩)
    clear hl
    go_enter Try.func57, Try.ntmps57
    go_wp2_with fail
    refine (a53 _ (Kd.C_below HR.out (((Below.refl _ w).alloc (Nat.le_refl _) _).alloc (by simp) _))).mono ?_
    rintro en w1 ⟨rfl, hB⟩
    have hv : Below w.heap.size w w1 := (((Below.refl _ w).alloc (Nat.le_refl _) _).alloc (by simp) _).trans (hB.mono (by simp; omega))
    have kx : w1.heap[w.heap.size]? = some (.cells #[.int .i64 b, .slice A l.length c, .int .i64 u] 90 (0, 0)) := (hB.block _ (by simp; omega)).trans (al_old (al_new _ _ _ rfl))
    have kd : w1.heap[w.heap.size + 1]? = some (.cells #[.int .i64 y, .int .i64 m, .int .i64 d, .int .i64 23, .int .i64 i, .int .i64 s] 98 (0, 0)) := (hB.block _ (by simp)).trans (al_new _ _ _ (by simp))
    have x0 : w1.cell? ⟨w.heap.size + 1, 0, none⟩ = some (.int .i64 y) := blk_cell kd 0
    have x1 : w1.cell? ⟨w.heap.size + 1, 1, none⟩ = some (.int .i64 m) := blk_cell kd 1
    have x2 : w1.cell? ⟨w.heap.size + 1, 2, none⟩ = some (.int .i64 d) := blk_cell kd 2
    have x3 : w1.cell? ⟨w.heap.size + 1, 3, none⟩ = some (.int .i64 23) := blk_cell kd 3
    have x4 : w1.cell? ⟨w.heap.size + 1, 4, none⟩ = some (.int .i64 i) := blk_cell kd 4
    have x5 : w1.cell? ⟨w.heap.size + 1, 5, none⟩ = some (.int .i64 s) := blk_cell kd 5
    have t0 : w1.cell? ⟨w.heap.size, 0, none⟩ = some (.int .i64 b) := blk_cell kx 0
    have t1 : w1.cell? ⟨w.heap.size, 1, none⟩ = some (.slice A l.length c) := blk_cell kx 1
    have t2 : w1.cell? ⟨w.heap.size, 2, none⟩ = some (.int .i64 u) := blk_cell kx 2
    clear hB kx kd
    go_wp2_with fail
    refine (a44 _).mono ?_
    rintro en w2 ⟨rfl, hB⟩
    replace hv := hv.trans (hB.mono hv.size)
    replace x0 := cell_on hB x0
    replace x1 := cell_on hB x1
    replace x2 := cell_on hB x2
    replace x3 := cell_on hB x3
    replace x4 := cell_on hB x4
    replace x5 := cell_on hB x5
    replace t0 := cell_on hB t0
    replace t1 := cell_on hB t1
    replace t2 := cell_on hB t2
    clear hB
    go_wp2_with fail
    refine (c1 _).mono ?_
    rintro en w3 ⟨rfl, hB⟩
    replace hv := hv.trans (hB.mono hv.size)
    replace x0 := cell_on hB x0
    replace x1 := cell_on hB x1
    replace x2 := cell_on hB x2
    replace x3 := cell_on hB x3
    replace x4 := cell_on hB x4
    replace x5 := cell_on hB x5
    replace t0 := cell_on hB t0
    replace t1 := cell_on hB t1
    replace t2 := cell_on hB t2
    clear hB
    go_wp2_with fail
    refine (c2 _).mono ?_
    rintro en w4 ⟨rfl, hB⟩
    replace hv := hv.trans (hB.mono hv.size)
    replace x0 := cell_on hB x0
    replace x1 := cell_on hB x1
    replace x2 := cell_on hB x2
    replace x3 := cell_on hB x3
    replace x4 := cell_on hB x4
    replace x5 := cell_on hB x5
    replace t0 := cell_on hB t0
    replace t1 := cell_on hB t1
    replace t2 := cell_on hB t2
    clear hB
    go_wp2
    go_ret2
    exact ⟨rfl, hv⟩
  · have h23' : (h == 23) = false := beq_eq_false_iff_ne.2 h23
    clear hl h23
    go_enter Try.func57, Try.ntmps57
    go_wp2_with fail
    refine (a53 _ (Kd.C_below HR.out (((Below.refl _ w).alloc (Nat.le_refl _) _).alloc (by simp) _))).mono ?_
    rintro en w1 ⟨rfl, hB⟩
    have hv : Below w.heap.size w w1 := (((Below.refl _ w).alloc (Nat.le_refl _) _).alloc (by simp) _).trans (hB.mono (by simp; omega))
    have kx : w1.heap[w.heap.size]? = some (.cells #[.int .i64 b, .slice A l.length c, .int .i64 u] 90 (0, 0)) := (hB.block _ (by simp; omega)).trans (al_old (al_new _ _ _ rfl))
    have kd : w1.heap[w.heap.size + 1]? = some (.cells #[.int .i64 y, .int .i64 m, .int .i64 d, .int .i64 h, .int .i64 i, .int .i64 s] 98 (0, 0)) := (hB.block _ (by simp)).trans (al_new _ _ _ (by simp))
    have x0 : w1.cell? ⟨w.heap.size + 1, 0, none⟩ = some (.int .i64 y) := blk_cell kd 0
    have x1 : w1.cell? ⟨w.heap.size + 1, 1, none⟩ = some (.int .i64 m) := blk_cell kd 1
    have x2 : w1.cell? ⟨w.heap.size + 1, 2, none⟩ = some (.int .i64 d) := blk_cell kd 2
    have x3 : w1.cell? ⟨w.heap.size + 1, 3, none⟩ = some (.int .i64 h) := blk_cell kd 3
    have x4 : w1.cell? ⟨w.heap.size + 1, 4, none⟩ = some (.int .i64 i) := blk_cell kd 4
    have x5 : w1.cell? ⟨w.heap.size + 1, 5, none⟩ = some (.int .i64 s) := blk_cell kd 5
    have t0 : w1.cell? ⟨w.heap.size, 0, none⟩ = some (.int .i64 b) := blk_cell kx 0
    have t1 : w1.cell? ⟨w.heap.size, 1, none⟩ = some (.slice A l.length c) := blk_cell kx 1
    have t2 : w1.cell? ⟨w.heap.size, 2, none⟩ = some (.int .i64 u) := blk_cell kx 2
    clear hB kx kd
    go_wp2_with fail
    refine (a44 _).mono ?_
    rintro en w2 ⟨rfl, hB⟩
    replace hv := hv.trans (hB.mono hv.size)
    replace x0 := cell_on hB x0
    replace x1 := cell_on hB x1
    replace x2 := cell_on hB x2
    replace x3 := cell_on hB x3
    replace x4 := cell_on hB x4
    replace x5 := cell_on hB x5
    replace t0 := cell_on hB t0
    replace t1 := cell_on hB t1
    replace t2 := cell_on hB t2
    clear hB
    go_wp2_with fail
    refine (c1 _).mono ?_
    rintro en w3 ⟨rfl, hB⟩
    replace hv := hv.trans (hB.mono hv.size)
    replace x0 := cell_on hB x0
    replace x1 := cell_on hB x1
    replace x2 := cell_on hB x2
    replace x3 := cell_on hB x3
    replace x4 := cell_on hB x4
    replace x5 := cell_on hB x5
    replace t0 := cell_on hB t0
    replace t1 := cell_on hB t1
    replace t2 := cell_on hB t2
    clear hB
    go_wp2_with fail
    refine (c2 _).mono ?_
    rintro en w4 ⟨rfl, hB⟩
    replace hv := hv.trans (hB.mono hv.size)
    replace x0 := cell_on hB x0
    replace x1 := cell_on hB x1
    replace x2 := cell_on hB x2
    replace x3 := cell_on hB x3
    replace x4 := cell_on hB x4
    replace x5 := cell_on hB x5
    replace t0 := cell_on hB t0
    replace t1 := cell_on hB t1
    replace t2 := cell_on hB t2
    clear hB
    go_wp2
    go_ret2
    exact ⟨rfl, hv⟩
theorem rSeconds_calls (b u : Int) (A : Option Addr) (c : Nat) (l : List (Int × Int)) (y m d h i s : Int) (w : World) (hr : Kd.C kl w A l.length l) :
    Calls Try.prog 57 #[tabV b A l.length c u, dateV y m d h i s] w fun e w' => e = .returned (.tuple #[.int .i64 (secondsR b l u y m d h i s).1, .int .i64 (secondsR b l u y m d h i s).2]) ∧ Below w.heap.size w w' := by
  unfold secondsR
  by_cases hk : checkF b l u = 0
  · rw [if_pos hk]
    cases hok : okD y m d
    · rw [if_neg (by unfold secOk; rw [hok]; simp)]
      exact rSeconds_noday b u A c l y m d h i s w hr hk hok
    · have hst : -1 ≤ stepF l (dayN y m d) ∧ stepF l (dayN y m d) ≤ 1 := step_bound (dayN y m d) l (fun x hx => ((checkF_right hk).2.2.2.2.2.steps x hx).1)
      have hso : secOk l u y m d h i s = true ↔ (0 ≤ h ∧ h ≤ 23 ∧ 0 ≤ i ∧ i ≤ 59 ∧ 0 ≤ s ∧ s ≤ 60 ∧ dayN y m d < u ∧ 3600 * h + 60 * i + s < 86400 + stepF l (dayN y m d) ∧ (s = 60 → 3600 * h + 60 * i + s = 86400)) := by unfold secOk; rw [hok, Bool.true_and, decide_eq_true_iff]
      by_cases hday : dayN y m d < u
      · by_cases hh : 0 ≤ h ∧ h ≤ 23
        · by_cases hi : 0 ≤ i ∧ i ≤ 59
          · by_cases hs : 0 ≤ s
            · by_cases hl : h = 23 ∧ i = 59
              · by_cases hm : s ≤ 59 + stepF l (dayN y m d)
                · rw [if_pos (hso.2 (by omega))]
                  exact rSeconds_leap_ok b u A c l y m d h i s w hr hk hok hday hh hi hs (by omega) hl hm
                · rw [if_neg (fun e => by have := hso.1 e; omega)]
                  by_cases hs2 : s ≤ 1000
                  · exact rSeconds_leap_bad b u A c l y m d h i s w hr hk hok hday hh hi hs hl (by omega)
                  · exact rSeconds_leap_bad b u A c l y m d h i s w hr hk hok hday hh hi hs hl (by omega)
              · by_cases hm : s ≤ 59
                · rw [if_pos (hso.2 (by omega))]
                  exact rSeconds_other_ok b u A c l y m d h i s w hr hk hok hday hh hi hs (by omega) hl hm
                · rw [if_neg (fun e => by have := hso.1 e; omega)]
                  exact rSeconds_other_bad b u A c l y m d h i s w hr hk hok hday hh hi hs hl (by omega)
            · rw [if_neg (fun e => by have := hso.1 e; omega)]
              exact rSeconds_neg b u A c l y m d h i s w hr hk hok hday hh hi (by omega)
          · rw [if_neg (fun e => by have := hso.1 e; omega)]
            exact rSeconds_i b u A c l y m d h i s w hr hk hok hday hh hi
        · rw [if_neg (fun e => by have := hso.1 e; omega)]
          exact rSeconds_h b u A c l y m d h i s w hr hk hok hday hh
      · rw [if_neg (fun e => by have := hso.1 e; omega)]
        exact rSeconds_late b u A c l y m d h i s w hr hk hok (by omega)
  · rw [if_neg hk]
    exact rSeconds_err b u A c l y m d h i s w hr hk
end Go.Proofs.Ytleipbanadnchaa.C
