/- Contracts of calendar.Dates and Announced, by hand. -/
import Derived.OwnWalk
import Derived.Test.YtleipbanadnchaaDd
namespace Go.Proofs.Ytleipbanadnchaa.C
open Go.RowKit Go.Shelf Go.Maps Go.Proofs.YtleipbanadnchaaW.PrintWords Go.Proofs.YtleipbanadnchaaW.PrintLast Go.Proofs.YtleipbanadnchaaW.PrintMore
set_option linter.unusedVariables false
set_option linter.unusedSimpArgs false
theorem results_row_tmp {P : Program} {fn : Func} {p u : Tmp} {ty : TypeId} (h : fn.results = #[.cell p ty, .tmp u]) (tmps : Array Value) (w : World) (g : Nat) (t : TypeId) (cs : Array Value) (fr : Nat × Nat) (d : TypeDesc)
    (hp : tmps.getD p undef = .pointer (some ⟨g, 0, none⟩)) (hg : w.heap[g]? = some (.cells cs t fr))
    (hu : P.underlying ty = some d) (hd : (match d with | .struct _ | .array _ _ => true | _ => false) = true) (hi : (P.info? ty).map (·.size) = some cs.size) :
    (results fn tmps).run P w = .ok (.tuple #[.agg cs, tmps.getD u undef]) w := by
  rw [results_cell_tmp h, hp]
  simp [asAddr, run_loadVar_row w g t ty cs fr d hg hu hd hi, Result.andThen]
set_option maxHeartbeats 1000000 in
set_option maxRecDepth 100000 in
theorem Dates_err (b u : Int) (A : Option Addr) (c : Nat) (l : List (Int × Int)) (s : Int) (w : World) (hr : Kd.C kl w A l.length l) (hk : askE b l u s ≠ 0) :
    Calls Try.prog 19 #[tabV b A l.length c u, .int .i64 s] w fun e w' => e = .returned (.tuple #[dateV 0 0 0 0 0 0, .int .i64 (askE b l u s)]) ∧ Below w.heap.size w w' := by
  have HR := Aside0.mk hr
  have a65 := fun w h => ask_calls b u A c l s w h
  clear hr
  have q1 : (askE b l u s == 0) = false := beq_eq_false_iff_ne.2 hk
  have q2 : (askE b l u s != 0) = true := bne_iff_ne.2 hk
  generalize askE b l u s = q at *
  go_enter Try.func19, Try.ntmps19
  go_wp2_with fail
  refine (a65 _ (Kd.C_below HR.out (((Below.refl _ w).alloc (Nat.le_refl _) _).alloc (by simp) _))).mono ?_
  rintro en w1 ⟨⟨p, rfl, _⟩, hB⟩
  have hv : Below w.heap.size w w1 := (((Below.refl _ w).alloc (Nat.le_refl _) _).alloc (by simp) _).trans (hB.mono (by simp; omega))
  have kr : w1.heap[w.heap.size + 1]? = some (.cells #[.int .i64 0, .int .i64 0, .int .i64 0, .int .i64 0, .int .i64 0, .int .i64 0] 30 (0, 0)) := (hB.block _ (by simp)).trans (al_new _ _ _ (by simp))
  clear hB a65
  have r0 : w1.cell? ⟨w.heap.size + 1, 0, none⟩ = some (.int .i64 0) := blk_cell kr 0
  have r1 : w1.cell? ⟨w.heap.size + 1, 1, none⟩ = some (.int .i64 0) := blk_cell kr 1
  have r2 : w1.cell? ⟨w.heap.size + 1, 2, none⟩ = some (.int .i64 0) := blk_cell kr 2
  have r3 : w1.cell? ⟨w.heap.size + 1, 3, none⟩ = some (.int .i64 0) := blk_cell kr 3
  have r4 : w1.cell? ⟨w.heap.size + 1, 4, none⟩ = some (.int .i64 0) := blk_cell kr 4
  have r5 : w1.cell? ⟨w.heap.size + 1, 5, none⟩ = some (.int .i64 0) := blk_cell kr 5
  have z0 := blk_frozen kr 0
  have z1 := blk_frozen kr 1
  have z2 := blk_frozen kr 2
  have z3 := blk_frozen kr 3
  have z4 := blk_frozen kr 4
  have z5 := blk_frozen kr 5
  go_wp2
  exact bodyPost_ret (results_row_tmp rfl _ _ (w.heap.size + 1) 30 _ (0, 0) _ rfl (blk_put (blk_put (blk_put (blk_put (blk_put (blk_put kr 0 _ rfl) 1 _ rfl) 2 _ rfl) 3 _ rfl) 4 _ rfl) 5 _ rfl) Try.underlying30 rfl info30) rfl
    ⟨rfl, (((((hv.setCell (by simp) _).setCell (by simp) _).setCell (by simp) _).setCell (by simp) _).setCell (by simp) _).setCell (by simp) _⟩
set_option maxHeartbeats 1000000 in
set_option maxRecDepth 100000 in
theorem Dates_ok (b u : Int) (A : Option Addr) (c : Nat) (l : List (Int × Int)) (s D : Int) (w : World) (hr : Kd.C kl w A l.length l) (hk : askE b l u s = 0) (hD : IsDay l u s D) :
    Calls Try.prog 19 #[tabV b A l.length c u, .int .i64 s] w fun e w' => e = .returned (.tuple #[dateV (cY D) (cM D) (cD D) (ckH (s - beginF l D)) (ckM (s - beginF l D)) (ckS (s - beginF l D)), .int .i64 0]) ∧ Below w.heap.size w w' := by
  have HR := Aside0.mk hr
  have a65 := fun w h => ask_calls b u A c l s w h
  have a66 := fun kb w hc => date_calls kb b u A c l s D w hc (askE_zero hk).1 hD
  clear hr hD
  generalize s - beginF l D = n at *
  generalize cY D = Y at *
  generalize cM D = M at *
  generalize cD D = K at *
  generalize ckH n = H at *
  generalize ckM n = I at *
  generalize ckS n = S at *
  rw [hk] at a65
  clear hk
  go_enter Try.func19, Try.ntmps19
  go_wp2_with fail
  refine (a65 _ (Kd.C_below HR.out (((Below.refl _ w).alloc (Nat.le_refl _) _).alloc (by simp) _))).mono ?_
  rintro en w1 ⟨⟨p, rfl, h2⟩, hB⟩
  obtain ⟨kb, rfl, hct⟩ := (by first | exact h2 rfl | exact h2 trivial | exact h2)
  have hv : Below w.heap.size w w1 := (((Below.refl _ w).alloc (Nat.le_refl _) _).alloc (by simp) _).trans (hB.mono (by simp; omega))
  have kr : w1.heap[w.heap.size + 1]? = some (.cells #[.int .i64 0, .int .i64 0, .int .i64 0, .int .i64 0, .int .i64 0, .int .i64 0] 30 (0, 0)) := (hB.block _ (by simp)).trans (al_new _ _ _ (by simp))
  have HC := Aside0.mk hct
  clear hB a65 h2 hct
  go_wp2_with fail
  refine (a66 kb _ HC.out).mono ?_
  rintro en w2 ⟨rfl, hB⟩
  have hv2 := hv.trans (hB.mono hv.size)
  replace kr := (hB.block _ (Array.getElem?_eq_some_iff.1 kr).1).trans kr
  clear hB hv a66
  have r0 : w2.cell? ⟨w.heap.size + 1, 0, none⟩ = some (.int .i64 0) := blk_cell kr 0
  have r1 : w2.cell? ⟨w.heap.size + 1, 1, none⟩ = some (.int .i64 0) := blk_cell kr 1
  have r2 : w2.cell? ⟨w.heap.size + 1, 2, none⟩ = some (.int .i64 0) := blk_cell kr 2
  have r3 : w2.cell? ⟨w.heap.size + 1, 3, none⟩ = some (.int .i64 0) := blk_cell kr 3
  have r4 : w2.cell? ⟨w.heap.size + 1, 4, none⟩ = some (.int .i64 0) := blk_cell kr 4
  have r5 : w2.cell? ⟨w.heap.size + 1, 5, none⟩ = some (.int .i64 0) := blk_cell kr 5
  have z0 := blk_frozen kr 0
  have z1 := blk_frozen kr 1
  have z2 := blk_frozen kr 2
  have z3 := blk_frozen kr 3
  have z4 := blk_frozen kr 4
  have z5 := blk_frozen kr 5
  go_wp2
  exact bodyPost_ret (results_row_tmp rfl _ _ (w.heap.size + 1) 30 _ (0, 0) _ rfl (blk_put (blk_put (blk_put (blk_put (blk_put (blk_put kr 0 _ rfl) 1 _ rfl) 2 _ rfl) 3 _ rfl) 4 _ rfl) 5 _ rfl) Try.underlying30 rfl info30) rfl
    ⟨rfl, (((((hv2.setCell (by simp) _).setCell (by simp) _).setCell (by simp) _).setCell (by simp) _).setCell (by simp) _).setCell (by simp) _⟩
set_option maxHeartbeats 1000000 in
set_option maxRecDepth 100000 in
theorem Announced_err (b u : Int) (A : Option Addr) (c : Nat) (l : List (Int × Int)) (s : Int) (w : World) (hr : Kd.C kl w A l.length l) (hk : askE b l u s ≠ 0) :
    Calls Try.prog 29 #[tabV b A l.length c u, .int .i64 s] w fun e w' => e = .returned (.tuple #[.int .i64 0, .int .i64 (askE b l u s)]) ∧ Below w.heap.size w w' := by
  have HR := Aside0.mk hr
  have a65 := fun w h => ask_calls b u A c l s w h
  clear hr
  have q1 : (askE b l u s == 0) = false := beq_eq_false_iff_ne.2 hk
  have q2 : (askE b l u s != 0) = true := bne_iff_ne.2 hk
  generalize askE b l u s = q at *
  go_enter Try.func29, Try.ntmps29
  go_wp2_with fail
  refine (a65 _ (Kd.C_below HR.out ((Below.refl _ w).alloc (Nat.le_refl _) _))).mono ?_
  rintro en w1 ⟨⟨p, rfl, _⟩, hB⟩
  have hv : Below w.heap.size w w1 := ((Below.refl _ w).alloc (Nat.le_refl _) _).trans (hB.mono (by simp))
  clear hB a65
  go_wp2
  go_ret2
  exact ⟨rfl, hv⟩
end Go.Proofs.Ytleipbanadnchaa.C
