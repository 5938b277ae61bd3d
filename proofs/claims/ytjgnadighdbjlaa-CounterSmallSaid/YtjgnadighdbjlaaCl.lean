/- The contract of resolve, by hand. -/
import Derived.OwnWalk
import Derived.Deep.RegionHeld3
import Derived.Test.YtjgnadighdbjlaaCk
namespace Go.Proofs.Ytjgnadighdbjlaa.C
open Go.RowKit Go.Shelf Go.Maps Go.Proofs.YtjgnadighdbjlaaW.PrintWords Go.Proofs.YtjgnadighdbjlaaW.PrintLast Go.Proofs.YtjgnadighdbjlaaW.PrintMore
set_option linter.unusedVariables false
set_option linter.unusedSimpArgs false
attribute [local go_sem] Oper.semAt_some
set_option maxRecDepth 100000 in
set_option maxHeartbeats 4000000 in
theorem resolve_calls (F O J G R D I m lo hi : Int) (w : World) (HK : CtrOk F O J G R D I)
    (hm : -1000000000000000 ≤ m ∧ m ≤ 1000000000000000) (hlo : -1000000000000000 ≤ lo ∧ lo ≤ 1000000000000000) (hhi : -1000000000000000 ≤ hi ∧ hi ≤ 1000000000000000) :
    Calls Try.prog 45 #[.agg #[.int .i64 F, .int .i64 O, .int .i64 J, .int .i64 G, .int .i64 R, .int .i64 D, .int .i64 I], .int .i64 m, .agg #[.int .i64 lo, .int .i64 hi]] w fun e w' => e = .returned (resV (turnsL F O R (J + G / 2) m lo hi (firstF F O R (J + G / 2) m lo) (2 * F + 5).toNat)) ∧ Below w.heap.size w w' := by
  refine (callsIn_wide (n := 9)).1 ?_
  obtain ⟨L, hL⟩ : ∃ L, turnsL F O R (J + G / 2) m lo hi (firstF F O R (J + G / 2) m lo) (2 * F + 5).toNat = L := ⟨_, rfl⟩
  rw [hL]
  have HL := Aside0.mk hL
  clear hL
  refine callsIn_of_wp_marks Try.func45 rfl trivial ?_ rfl
  simp only [Try.ntmps45, List.size_toArray, List.length_cons, List.length_nil, Nat.reduceAdd, Nat.reduceSub, Array.replicate_succ, Array.replicate_zero, List.push_toArray, List.append_toArray, List.nil_append, List.cons_append]
  have a73 : ∀ W, CallsIn Fence.wide (9 - 1) Try.prog 73 #[.agg #[.int .i64 F, .int .i64 O, .int .i64 J, .int .i64 G, .int .i64 R, .int .i64 D, .int .i64 I], .int .i64 m, .agg #[.int .i64 lo, .int .i64 hi]] W _ := fun W => callsIn_wide.2 (turns_calls F O J G R D I m lo hi W)
  have f73 : Fence.wide.fn 73 := trivial
  gi_wp2_with (gi_at_call 73; refine (a73 _).mono ?_; rintro e w' ⟨rfl, rfl⟩)
  clear a73 f73
  simp only [Nat.add_assoc, Nat.reduceAdd]
  obtain ⟨W0, hW0⟩ : ∃ W0, (((((((w.alloc (.cells #[.int .i64 F, .int .i64 O, .int .i64 J, .int .i64 G, .int .i64 R, .int .i64 D, .int .i64 I] 51)).alloc (.cells #[.int .i64 lo, .int .i64 hi] 43)).alloc (.cells #[.int .i64 0, .int .i64 0] 43)).alloc (.cells #[.int .i64 0] 28)).alloc (.cells #[.slice none 0 0] 108)).alloc (.cells #[.int .i64 F, .int .i64 O, .int .i64 J, .int .i64 G, .int .i64 R, .int .i64 D, .int .i64 I] 51)).alloc (.cells #[.int .i64 m] 3)).alloc (.cells #[.int .i64 lo, .int .i64 hi] 43) = W0 := ⟨_, rfl⟩
  rw [hW0]
  have hsz : W0.heap.size = w.heap.size + 8 := by rw [← hW0]; simp
  have k6 : W0.heap[w.heap.size + 2]? = some (.cells #[.int .i64 0, .int .i64 0] 43 (0, 0)) := by rw [← hW0]; repeat (first | (refine al_new _ _ _ ?_; simp; done) | refine al_old ?_)
  have k7 : W0.heap[w.heap.size + 3]? = some (.cells #[.int .i64 0] 28 (0, 0)) := by rw [← hW0]; repeat (first | (refine al_new _ _ _ ?_; simp; done) | refine al_old ?_)
  have k8 : W0.heap[w.heap.size + 4]? = some (.cells #[.slice none 0 0] 108 (0, 0)) := by rw [← hW0]; repeat (first | (refine al_new _ _ _ ?_; simp; done) | refine al_old ?_)
  have q0 : W0.heap[w.heap.size + 5]? = some (.cells #[.int .i64 F, .int .i64 O, .int .i64 J, .int .i64 G, .int .i64 R, .int .i64 D, .int .i64 I] 51 (0, 0)) := by rw [← hW0]; repeat (first | (refine al_new _ _ _ ?_; simp; done) | refine al_old ?_)
  have q1 : W0.heap[w.heap.size + 6]? = some (.cells #[.int .i64 m] 3 (0, 0)) := by rw [← hW0]; repeat (first | (refine al_new _ _ _ ?_; simp; done) | refine al_old ?_)
  have q2 : W0.heap[w.heap.size + 7]? = some (.cells #[.int .i64 lo, .int .i64 hi] 43 (0, 0)) := by rw [← hW0]; repeat (first | (refine al_new _ _ _ ?_; simp; done) | refine al_old ?_)
  have hB0 : Below w.heap.size w W0 := by
    rw [← hW0]
    repeat (refine Below.alloc ?_ (by simp; try omega) _)
    exact Below.refl _ _
  clear hW0
  have hI0 : RsI w W0 (.slice none 0 0) [] := ⟨hB0, k6, k7, k8, own_nil _ _ _ _, by omega⟩
  refine wpIn_rangeFunc_ownH rfl (by decide) (gf := 80) (lb := #[.pointer (some ⟨w.heap.size + 5, 0, none⟩), .pointer (some ⟨w.heap.size + 7, 0, none⟩), .pointer (some ⟨w.heap.size + 6, 0, none⟩)]) rfl trivial (enters_of Try.func80 (by kernel_rfl) rfl)
    (turns_stops (9 - 1) (by decide) F O J G R D I m lo hi _ _ _ W0 q0 q2 q1 HK hm hlo hhi) SameAt.t (SameAt.b (by simp; omega)) (Below.refl _ _) (fun _ => rfl)
    (fun pre W => ∃ vo, RsI w W vo pre ∧ pre.length ≤ 1)
    (fun c pre W => (c = .ret ∧ 2 ≤ pre.length) ∧ W.heap[w.heap.size + 2]? = some (.cells #[.int .i64 0, .int .i64 0] 43 (0, 0)) ∧ W.heap[w.heap.size + 3]? = some (.cells #[.int .i64 8] 28 (0, 0)) ∧ Below w.heap.size w W)
    (by rw [hsz]; exact RsI.from w)
    (fun c => OwnFrom.and (ownFrom_pure _ _) (OwnFrom.and (blk_own _ (fun _ => _) (fun _ => _) _ _) (OwnFrom.and (blk_own _ (fun _ => _) (fun _ => _) _ _) (ownFrom_below (Nat.le_refl _) (by omega)))))
    ⟨_, hI0, by simp⟩
    (fun x a' W => ∃ Bx, W0.heap.size ≤ Bx ∧ W.heap[Bx]? = some (.cells #[.int .i64 x.1, .int .i64 x.2] 43 (0, 0)) ∧ a' = { tmps := #[.agg #[.int .i64 F, .int .i64 O, .int .i64 J, .int .i64 G, .int .i64 R, .int .i64 D, .int .i64 I], .int .i64 m, .agg #[.int .i64 lo, .int .i64 hi], .pointer (some ⟨w.heap.size, 0, none⟩), undef, .pointer (some ⟨w.heap.size + 1, 0, none⟩), .pointer (some ⟨w.heap.size + 2, 0, none⟩), .pointer (some ⟨w.heap.size + 3, 0, none⟩), .pointer (some ⟨w.heap.size + 4, 0, none⟩), .pointer (some ⟨Bx, 0, none⟩), .agg #[.int .i64 F, .int .i64 O, .int .i64 J, .int .i64 G, .int .i64 R, .int .i64 D, .int .i64 I], .int .i64 m, .agg #[.int .i64 lo, .int .i64 hi], .func (.func 80) #[] #[.pointer (some ⟨w.heap.size + 5, 0, none⟩), .pointer (some ⟨w.heap.size + 7, 0, none⟩), .pointer (some ⟨w.heap.size + 6, 0, none⟩)], .agg #[.int .i64 x.1, .int .i64 x.2], undef, undef, undef, undef, undef, undef, undef, undef, undef, undef, undef, undef, undef, undef, undef], defers := [] })
    (fun x a' _ X Y row hs hg hr => by obtain ⟨Bx, h1, h2, h3⟩ := hs; exact ⟨Bx, h1, (grownBy_keeps_cells hg (fun r e => (hr r e).2) h2 rfl).trans h2, h3⟩)
    ?assign ?body ?done ?stop
  case assign =>
    rintro l pre x W K ⟨vo, hI, hl⟩ hK
    gi_wp2
    exact hK _ _ ((KeepsOthers.alloc _ _).from _) (fun b hb => Below.heap_alloc _ _ _ (by have := hI.sz; simp at hb; omega)) ⟨vo, hI.alloc _, hl⟩ ⟨W.heap.size, by have := hI.sz; omega, al_new _ _ _ rfl, rfl⟩
  case body =>
    rintro l pre x a' W hl ⟨r', hr'⟩ ⟨vo, hI, hpl⟩ ⟨Bx, hBx, hX, rfl⟩ hlt
    obtain ⟨x0, x1⟩ := x
    rcases pre with _ | ⟨y, _ | ⟨y2, t⟩⟩
    · skip
      clear hr' hl hlt hI0 k6 k7 k8 q0 q1 q2
      have hXl := (Array.getElem?_eq_some_iff.1 hX).1
      have c8 := blk_cell hI.k8 0
      have c8' : W.cell? ⟨w.heap.size + 4, 0, none⟩ = some vo := c8
      have x0' : W.cell? ⟨Bx, 0, none⟩ = some (.int .i64 x0) := blk_cell hX 0
      have x1' : W.cell? ⟨Bx, 1, none⟩ = some (.int .i64 x1) := blk_cell hX 1
      have hWs := hI.sz
      have HI := Aside0.mk hI
      have hownA : (W.alloc (.cells #[.int .i64 x0, .int .i64 x1] 43)).ownsRow (w.heap.size + 8) 43 2 vo 0 (lcells []) := own_move hI.own (fun k hk => Below.heap_alloc _ _ k (own_lt hI.own k hk))
      clear hI c8 hX hBx hXl
      obtain ⟨i0, hi0, hz0, hz1, hz2⟩ := info_parts info43n
      gi_wp2_with (gi_at_builtin; refine wpListIn_append_own _ rfl _ _ 108 rfl (w.heap.size + 8) 43 i0 (.agg #[.int .i64 0, .int .i64 0]) 2 16 Try.underlying108 hi0 hz0 hz1 hz2 rfl (by decide) _ _ _ rfl hownA ⟨W.heap.size, 0, none⟩ 1 1 [.int .i64 x0, .int .i64 x1] rfl ?qc1 ?qc2 ?qc3 ?qc4 ?qc5 ?qc6 ?_)
      case qc1 => rfl
      case qc2 => exact World.news_of_block (cs := #[.int .i64 x0, .int .i64 x1]) (t := 43) (fr := (0, 0)) (al_new _ _ _ rfl)
      case qc3 => simp [Value.oneCell']
      case qc4 => unfold maxLen; omega
      case qc5 => omega
      case qc6 => simp; omega
      intro v2 W4 hown4 hg4 hnil4
      have hfa := Aside0.mk (rs_append (x := (x0, x1)) HI.out hown4 hg4)
      have t4 := hfa.out.1
      have t4f := hfa.out.2.1
      obtain ⟨Av, cv, rfl⟩ := hfa.out.2.2.1
      clear hown4 hg4 hnil4 hownA c8' x0' x1'
      have HY := Aside0.mk hfa.out.2.2.2.2.2.2.2
      have HKF : Aside0 (KeepsOthers W (W4.setCell ⟨w.heap.size + 4, 0, none⟩ (.slice Av (0 + 1) cv)) ∧ SameAt [w.heap.size + 5, w.heap.size + 7, w.heap.size + 6] W (W4.setCell ⟨w.heap.size + 4, 0, none⟩ (.slice Av (0 + 1) cv))) := ⟨⟨hfa.out.2.2.2.2.2.1, fun k ob h hc => hfa.out.2.2.2.2.1 k ob h hc⟩, fun b hb => hfa.out.2.2.2.2.2.2.1 b (by simp at hb; omega) (by simp at hb; omega)⟩
      gi_wp2
      exact ⟨HKF.out.1.from _, HKF.out.2, _, hfa.out.2.2.2.1, by simp⟩
    · skip
      clear hr' hl hlt hI0 k6 k7 k8 q0 q1 q2
      have hXl := (Array.getElem?_eq_some_iff.1 hX).1
      have c8 := blk_cell hI.k8 0
      have c8' : W.cell? ⟨w.heap.size + 4, 0, none⟩ = some vo := c8
      have x0' : W.cell? ⟨Bx, 0, none⟩ = some (.int .i64 x0) := blk_cell hX 0
      have x1' : W.cell? ⟨Bx, 1, none⟩ = some (.int .i64 x1) := blk_cell hX 1
      have hWs := hI.sz
      have HI := Aside0.mk hI
      have hownA : (W.alloc (.cells #[.int .i64 x0, .int .i64 x1] 43)).ownsRow (w.heap.size + 8) 43 2 vo 1 (lcells [y]) := own_move hI.own (fun k hk => Below.heap_alloc _ _ k (own_lt hI.own k hk))
      clear hI c8 hX hBx hXl
      obtain ⟨i0, hi0, hz0, hz1, hz2⟩ := info_parts info43n
      gi_wp2_with (gi_at_builtin; refine wpListIn_append_own _ rfl _ _ 108 rfl (w.heap.size + 8) 43 i0 (.agg #[.int .i64 0, .int .i64 0]) 2 16 Try.underlying108 hi0 hz0 hz1 hz2 rfl (by decide) _ _ _ rfl hownA ⟨W.heap.size, 0, none⟩ 1 1 [.int .i64 x0, .int .i64 x1] rfl ?qc1 ?qc2 ?qc3 ?qc4 ?qc5 ?qc6 ?_)
      case qc1 => rfl
      case qc2 => exact World.news_of_block (cs := #[.int .i64 x0, .int .i64 x1]) (t := 43) (fr := (0, 0)) (al_new _ _ _ rfl)
      case qc3 => simp [Value.oneCell']
      case qc4 => unfold maxLen; omega
      case qc5 => omega
      case qc6 => simp; omega
      intro v2 W4 hown4 hg4 hnil4
      have hfa := Aside0.mk (rs_append (x := (x0, x1)) HI.out hown4 hg4)
      have t4 := hfa.out.1
      have t4f := hfa.out.2.1
      obtain ⟨Av, cv, rfl⟩ := hfa.out.2.2.1
      clear hown4 hg4 hnil4 hownA c8' x0' x1'
      have HY := Aside0.mk hfa.out.2.2.2.2.2.2.2
      have HKF : Aside0 (KeepsOthers W (W4.setCell ⟨w.heap.size + 4, 0, none⟩ (.slice Av (1 + 1) cv)) ∧ SameAt [w.heap.size + 5, w.heap.size + 7, w.heap.size + 6] W (W4.setCell ⟨w.heap.size + 4, 0, none⟩ (.slice Av (1 + 1) cv))) := ⟨⟨hfa.out.2.2.2.2.2.1, fun k ob h hc => hfa.out.2.2.2.2.1 k ob h hc⟩, fun b hb => hfa.out.2.2.2.2.2.2.1 b (by simp at hb; omega) (by simp at hb; omega)⟩
      have z6 : W4.cell? ⟨w.heap.size + 2, 0, none⟩ = some (.int .i64 0) := blk_cell ((HY.out _ (by omega)).trans HI.out.k6) 0
      have z6b : W4.cell? ⟨w.heap.size + 2, 1, none⟩ = some (.int .i64 0) := blk_cell ((HY.out _ (by omega)).trans HI.out.k6) 1
      have z6f : W4.frozen? ⟨w.heap.size + 2, 0, none⟩ = false := blk_frozen ((HY.out _ (by omega)).trans HI.out.k6) 0
      have z6g : W4.frozen? ⟨w.heap.size + 2, 1, none⟩ = false := blk_frozen ((HY.out _ (by omega)).trans HI.out.k6) 1
      have z7 : W4.cell? ⟨w.heap.size + 3, 0, none⟩ = some (.int .i64 0) := blk_cell ((HY.out _ (by omega)).trans HI.out.k7) 0
      have z7f : W4.frozen? ⟨w.heap.size + 3, 0, none⟩ = false := blk_frozen ((HY.out _ (by omega)).trans HI.out.k7) 0
      gi_wp2
      have HF := hfa.out.2.2.2.1
      exact ⟨(((HKF.out.1.trans (KeepsOthers.setCell _ _ _)).trans (KeepsOthers.setCell _ _ _)).trans (KeepsOthers.setCell _ _ _)).from _, ⟨rfl, by simp⟩, blk_far (blk_put (blk_put HF.k6 0 _ rfl) 1 _ rfl) (by simp) _, blk_put (blk_far (blk_far HF.k7 (by simp) _) (by simp) _) 0 _ rfl, ((HF.bel.setCell (by simp) _).setCell (by simp) _).setCell (by simp) _⟩
    · simp at hpl
  case done =>
    rintro D ys W hD hS ⟨vo, hI, hpl⟩ hK
    obtain rfl : ys = L := hS.trans HL.out
    clear hS HL k6 k7 k8 q0 q1 q2 hI0 hB0
    rcases ys with _ | ⟨⟨y1, y2⟩, _ | ⟨y3, t⟩⟩
    · obtain ⟨A, c, rfl, _⟩ := own_leaps hI.own
      have z8 : W.cell? ⟨w.heap.size + 4, 0, none⟩ = some (.slice A 0 c) := blk_cell hI.k8 0
      have z6 : W.cell? ⟨w.heap.size + 2, 0, none⟩ = some (.int .i64 0) := blk_cell hI.k6 0
      have z6b : W.cell? ⟨w.heap.size + 2, 1, none⟩ = some (.int .i64 0) := blk_cell hI.k6 1
      have z6f : W.frozen? ⟨w.heap.size + 2, 0, none⟩ = false := blk_frozen hI.k6 0
      have z6g : W.frozen? ⟨w.heap.size + 2, 1, none⟩ = false := blk_frozen hI.k6 1
      have z7 : W.cell? ⟨w.heap.size + 3, 0, none⟩ = some (.int .i64 0) := blk_cell hI.k7 0
      have z7f : W.frozen? ⟨w.heap.size + 3, 0, none⟩ = false := blk_frozen hI.k7 0
      have hsz2 := hI.sz
      have HI := Aside0.mk hI
      clear hI
      gi_wp2
      have hK' : (((W.setCell ⟨w.heap.size + 2, 0, none⟩ (.int .i64 0)).setCell ⟨w.heap.size + 2, 1, none⟩ (.int .i64 0)).setCell ⟨w.heap.size + 3, 0, none⟩ (.int .i64 12)).heap[D]? = some (.deferred (some [])) := (((KeepsOthers.setCell _ _ _).trans (KeepsOthers.setCell _ _ _)).trans (KeepsOthers.setCell _ _ _)).same D _ hK rfl
      have K6 : (((W.setCell ⟨w.heap.size + 2, 0, none⟩ (.int .i64 0)).setCell ⟨w.heap.size + 2, 1, none⟩ (.int .i64 0)).setCell ⟨w.heap.size + 3, 0, none⟩ (.int .i64 12)).heap[w.heap.size + 2]? = some (.cells #[.int .i64 0, .int .i64 0] 43 (0, 0)) := blk_far (blk_put (blk_put HI.out.k6 0 _ rfl) 1 _ rfl) (by simp) _
      have K7 : (((W.setCell ⟨w.heap.size + 2, 0, none⟩ (.int .i64 0)).setCell ⟨w.heap.size + 2, 1, none⟩ (.int .i64 0)).setCell ⟨w.heap.size + 3, 0, none⟩ (.int .i64 12)).heap[w.heap.size + 3]? = some (.cells #[.int .i64 12] 28 (0, 0)) := blk_put (blk_far (blk_far HI.out.k7 (by simp) _) (by simp) _) 0 _ rfl
      have hB : Below w.heap.size w (((W.setCell ⟨w.heap.size + 2, 0, none⟩ (.int .i64 0)).setCell ⟨w.heap.size + 2, 1, none⟩ (.int .i64 0)).setCell ⟨w.heap.size + 3, 0, none⟩ (.int .i64 12)) := ((HI.out.bel.setCell (by simp) _).setCell (by simp) _).setCell (by simp) _
      refine ⟨by simp, .inl ⟨_, _, rfl, run_takeDeferred hK', ?_⟩⟩
      refine ⟨_, res_span (p := 6) (q := 7) rfl _ _ (w.heap.size + 2) (w.heap.size + 3) (0) (0) 12 (by simp) (by simp) (blk_cell ((World.putObj_heap_other (by omega)).trans K6) 0) (blk_cell ((World.putObj_heap_other (by omega)).trans K6) 1) (blk_cell ((World.putObj_heap_other (by omega)).trans K7) 0), rfl, ?_⟩
      exact hB.trans (belowK_b (Nat.le_refl _) _ D _ _ (by omega) hK' rfl rfl)
    · obtain ⟨A, c, rfl, hC⟩ := own_leaps hI.own
      obtain ⟨g, rfl⟩ : ∃ g, A = some ⟨g, 0, none⟩ := by
        rcases hI.own.2 with ⟨e, h0⟩ | ⟨g, cap, cur, e, h1, _⟩
        · simp at h0
        · injection e with e; exact ⟨g, e⟩
      obtain ⟨ad, e, y0', y1'⟩ := C_leap hC 0 (by simp) (by simp)
      cases e
      have z8 : W.cell? ⟨w.heap.size + 4, 0, none⟩ = some (.slice (some ⟨g, 0, none⟩) 1 c) := blk_cell hI.k8 0
      have yy0 : W.cell? ⟨g, 0, none⟩ = some (.int .i64 y1) := y0'
      have yy1 : W.cell? ⟨g, 1, none⟩ = some (.int .i64 y2) := y1'
      have hgb : w.heap.size + 8 ≤ g := own_base hI.own g rfl
      clear hC y0' y1'
      have z6 : W.cell? ⟨w.heap.size + 2, 0, none⟩ = some (.int .i64 0) := blk_cell hI.k6 0
      have z6b : W.cell? ⟨w.heap.size + 2, 1, none⟩ = some (.int .i64 0) := blk_cell hI.k6 1
      have z6f : W.frozen? ⟨w.heap.size + 2, 0, none⟩ = false := blk_frozen hI.k6 0
      have z6g : W.frozen? ⟨w.heap.size + 2, 1, none⟩ = false := blk_frozen hI.k6 1
      have z7 : W.cell? ⟨w.heap.size + 3, 0, none⟩ = some (.int .i64 0) := blk_cell hI.k7 0
      have z7f : W.frozen? ⟨w.heap.size + 3, 0, none⟩ = false := blk_frozen hI.k7 0
      have hsz2 := hI.sz
      have HI := Aside0.mk hI
      clear hI
      gi_wp2
      have hK' : (((W.setCell ⟨w.heap.size + 2, 0, none⟩ (.int .i64 y1)).setCell ⟨w.heap.size + 2, 1, none⟩ (.int .i64 y2)).setCell ⟨w.heap.size + 3, 0, none⟩ (.int .i64 0)).heap[D]? = some (.deferred (some [])) := (((KeepsOthers.setCell _ _ _).trans (KeepsOthers.setCell _ _ _)).trans (KeepsOthers.setCell _ _ _)).same D _ hK rfl
      have K6 : (((W.setCell ⟨w.heap.size + 2, 0, none⟩ (.int .i64 y1)).setCell ⟨w.heap.size + 2, 1, none⟩ (.int .i64 y2)).setCell ⟨w.heap.size + 3, 0, none⟩ (.int .i64 0)).heap[w.heap.size + 2]? = some (.cells #[.int .i64 y1, .int .i64 y2] 43 (0, 0)) := blk_far (blk_put (blk_put HI.out.k6 0 _ rfl) 1 _ rfl) (by simp) _
      have K7 : (((W.setCell ⟨w.heap.size + 2, 0, none⟩ (.int .i64 y1)).setCell ⟨w.heap.size + 2, 1, none⟩ (.int .i64 y2)).setCell ⟨w.heap.size + 3, 0, none⟩ (.int .i64 0)).heap[w.heap.size + 3]? = some (.cells #[.int .i64 0] 28 (0, 0)) := blk_put (blk_far (blk_far HI.out.k7 (by simp) _) (by simp) _) 0 _ rfl
      have hB : Below w.heap.size w (((W.setCell ⟨w.heap.size + 2, 0, none⟩ (.int .i64 y1)).setCell ⟨w.heap.size + 2, 1, none⟩ (.int .i64 y2)).setCell ⟨w.heap.size + 3, 0, none⟩ (.int .i64 0)) := ((HI.out.bel.setCell (by simp) _).setCell (by simp) _).setCell (by simp) _
      refine ⟨by simp, .inl ⟨_, _, rfl, run_takeDeferred hK', ?_⟩⟩
      refine ⟨_, res_span (p := 6) (q := 7) rfl _ _ (w.heap.size + 2) (w.heap.size + 3) (y1) (y2) 0 (by simp) (by simp) (blk_cell ((World.putObj_heap_other (by omega)).trans K6) 0) (blk_cell ((World.putObj_heap_other (by omega)).trans K6) 1) (blk_cell ((World.putObj_heap_other (by omega)).trans K7) 0), rfl, ?_⟩
      exact hB.trans (belowK_b (Nat.le_refl _) _ D _ _ (by omega) hK' rfl rfl)
    · simp at hpl
  case stop =>
    rintro D c pre W hD ⟨s, hs⟩ ⟨⟨rfl, h2⟩, K6, K7, hB⟩ hK
    gi_wp2
    refine ⟨by simp, .inl ⟨_, _, rfl, run_takeDeferred hK, ?_⟩⟩
    have hPK : ∀ k, k < w.heap.size + 8 → (W.putObj D (.deferred none)).heap[k]? = W.heap[k]? := fun k hk => World.putObj_heap_other (by omega)
    refine ⟨_, res_span (p := 6) (q := 7) rfl _ _ (w.heap.size + 2) (w.heap.size + 3) 0 0 8 (by simp) (by simp) (blk_cell ((hPK _ (by omega)).trans K6) 0) (blk_cell ((hPK _ (by omega)).trans K6) 1) (blk_cell ((hPK _ (by omega)).trans K7) 0), ?_, ?_⟩
    · have hLL : 2 ≤ L.length := by rw [← HL.out, ← hs, List.length_append]; omega
      match L, hLL with
      | _ :: _ :: _, _ => rfl
      | [_], h => simp at h
      | [], h => simp at h
    · exact hB.trans (belowK_b (Nat.le_refl _) _ D _ _ (by omega) hK rfl rfl)
end Go.Proofs.Ytjgnadighdbjlaa.C
