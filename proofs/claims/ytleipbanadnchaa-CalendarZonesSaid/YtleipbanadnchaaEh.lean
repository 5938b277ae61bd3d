/- Contracts of copied, by hand. -/
import Derived.OwnWalk
import Derived.Deep.RegionWith
import Derived.BigRegion
import Derived.Laws.AppendOwn
import Derived.Test.YtleipbanadnchaaEg
namespace Go.Proofs.Ytleipbanadnchaa.C
open Go.RowKit Go.Shelf Go.Maps Go.Proofs.YtleipbanadnchaaW.PrintWords Go.Proofs.YtleipbanadnchaaW.PrintLast Go.Proofs.YtleipbanadnchaaW.PrintMore
set_option linter.unusedVariables false
set_option linter.unusedSimpArgs false
theorem info160n : (Try.prog.info? 160).map (fun i => (i.zero, i.size, i.bytes)) = some (some (.agg #[.int .i64 0, .int .i64 0]), 2, 16) := by kernel_rfl
theorem info90 : (Try.prog.info? 90).map (·.size) = some 3 := by kernel_rfl
theorem info28' : (Try.prog.info? 28).map (·.size) = some 3 := by kernel_rfl
theorem results_two_rows {P : Program} {fn : Func} {p p' : Tmp} {ty ty' : TypeId} (h : fn.results = #[.cell p ty, .cell p' ty']) (tmps : Array Value) (w : World) (g g' : Nat) (t t' : TypeId) (cs cs' : Array Value) (fr fr' : Nat × Nat) (d d' : TypeDesc)
    (hp : tmps.getD p undef = .pointer (some ⟨g, 0, none⟩)) (hg : w.heap[g]? = some (.cells cs t fr)) (hu : P.underlying ty = some d) (hd : (match d with | .struct _ | .array _ _ => true | _ => false) = true) (hi : (P.info? ty).map (·.size) = some cs.size)
    (hp' : tmps.getD p' undef = .pointer (some ⟨g', 0, none⟩)) (hg' : w.heap[g']? = some (.cells cs' t' fr')) (hu' : P.underlying ty' = some d') (hd' : (match d' with | .struct _ | .array _ _ => true | _ => false) = true) (hi' : (P.info? ty').map (·.size) = some cs'.size) :
    (results fn tmps).run P w = .ok (.tuple #[.agg cs, .agg cs']) w := by
  have e : tmps[p]?.getD undef = .pointer (some ⟨g, 0, none⟩) := by simpa using hp
  have e' : tmps[p']?.getD undef = .pointer (some ⟨g', 0, none⟩) := by simpa using hp'
  simp [results, h, e, e', asAddr, run_loadVar_row w g t ty cs fr d hg hu hd hi, run_loadVar_row w g' t' ty' cs' fr' d' hg' hu' hd' hi', Sem.run_bind, Result.andThen]
theorem lcells_take {l : List (Int × Int)} {i : Nat} (h : i < l.length) : lcells (l.take (i + 1)) = lcells (l.take i) ++ [.int .i64 l[i].1, .int .i64 l[i].2] := by
  rw [List.take_add_one, List.getElem?_eq_getElem h, lcells_append]
  rfl
/-- What copied has made so far: i leaps. -/
structure CpInv (w wr : World) (A : Option Addr) (b u : Int) (c : Nat) (l : List (Int × Int)) (i : Nat) (vo : Value) : Prop where
  bel : Below w.heap.size w wr
  box : wr.heap[w.heap.size]? = some (.cells #[.int .i64 b, .slice A l.length c, .int .i64 u] 28 (0, 0))
  r1 : wr.heap[w.heap.size + 1]? = some (.cells #[.int .i64 0, .slice none 0 0, .int .i64 0] 28 (0, 0))
  r2 : wr.heap[w.heap.size + 1 + 1]? = some (.cells #[.int .i64 0, .slice none 0 0, .int .i64 0] 90 (0, 0))
  ref : wr.heap[w.heap.size + 1 + 1 + 1]? = some (.cells #[.int .i64 b, vo, .int .i64 u] 90 (0, 0))
  own : wr.ownsRow (w.heap.size + 4) 160 2 vo i (lcells (l.take i))
theorem cp_close {w wr w' : World} {A A1 A2 : Option Addr} {b u : Int} {c c1 c2 : Nat} {l : List (Int × Int)} (HI : CpInv w wr A b u c l l.length (.slice A2 l.length c2)) (hB : Below wr.heap.size wr w') (hown : w'.ownsRow wr.heap.size 45 2 (.slice A1 l.length c1) l.length (lcells l)) :
    ((((((w'.setCell ⟨w.heap.size + 1, 0, none⟩ (.int .i64 b)).setCell ⟨w.heap.size + 1, 1, none⟩ (.slice A1 l.length c1)).setCell ⟨w.heap.size + 1, 2, none⟩ (.int .i64 u)).setCell ⟨w.heap.size + 1 + 1, 0, none⟩ (.int .i64 b)).setCell ⟨w.heap.size + 1 + 1, 1, none⟩ (.slice A2 l.length c2)).setCell ⟨w.heap.size + 1 + 1, 2, none⟩ (.int .i64 u)).heap[w.heap.size + 1]? = some (.cells #[.int .i64 b, .slice A1 l.length c1, .int .i64 u] 28 (0, 0)) ∧ ((((((w'.setCell ⟨w.heap.size + 1, 0, none⟩ (.int .i64 b)).setCell ⟨w.heap.size + 1, 1, none⟩ (.slice A1 l.length c1)).setCell ⟨w.heap.size + 1, 2, none⟩ (.int .i64 u)).setCell ⟨w.heap.size + 1 + 1, 0, none⟩ (.int .i64 b)).setCell ⟨w.heap.size + 1 + 1, 1, none⟩ (.slice A2 l.length c2)).setCell ⟨w.heap.size + 1 + 1, 2, none⟩ (.int .i64 u)).heap[w.heap.size + 1 + 1]? = some (.cells #[.int .i64 b, .slice A2 l.length c2, .int .i64 u] 90 (0, 0)) ∧ Kd.C kl ((((((w'.setCell ⟨w.heap.size + 1, 0, none⟩ (.int .i64 b)).setCell ⟨w.heap.size + 1, 1, none⟩ (.slice A1 l.length c1)).setCell ⟨w.heap.size + 1, 2, none⟩ (.int .i64 u)).setCell ⟨w.heap.size + 1 + 1, 0, none⟩ (.int .i64 b)).setCell ⟨w.heap.size + 1 + 1, 1, none⟩ (.slice A2 l.length c2)).setCell ⟨w.heap.size + 1 + 1, 2, none⟩ (.int .i64 u)) A1 l.length l ∧ Kd.C kl ((((((w'.setCell ⟨w.heap.size + 1, 0, none⟩ (.int .i64 b)).setCell ⟨w.heap.size + 1, 1, none⟩ (.slice A1 l.length c1)).setCell ⟨w.heap.size + 1, 2, none⟩ (.int .i64 u)).setCell ⟨w.heap.size + 1 + 1, 0, none⟩ (.int .i64 b)).setCell ⟨w.heap.size + 1 + 1, 1, none⟩ (.slice A2 l.length c2)).setCell ⟨w.heap.size + 1 + 1, 2, none⟩ (.int .i64 u)) A2 l.length l ∧ Below w.heap.size w ((((((w'.setCell ⟨w.heap.size + 1, 0, none⟩ (.int .i64 b)).setCell ⟨w.heap.size + 1, 1, none⟩ (.slice A1 l.length c1)).setCell ⟨w.heap.size + 1, 2, none⟩ (.int .i64 u)).setCell ⟨w.heap.size + 1 + 1, 0, none⟩ (.int .i64 b)).setCell ⟨w.heap.size + 1 + 1, 1, none⟩ (.slice A2 l.length c2)).setCell ⟨w.heap.size + 1 + 1, 2, none⟩ (.int .i64 u)) := by
  have hsz : w.heap.size + 1 + 1 + 1 < wr.heap.size := (Array.getElem?_eq_some_iff.1 HI.ref).1
  have kz := (hB.block _ (Array.getElem?_eq_some_iff.1 HI.r1).1).trans HI.r1
  have ky := (hB.block _ (Array.getElem?_eq_some_iff.1 HI.r2).1).trans HI.r2
  have far : ∀ k, w.heap.size + 1 + 1 < k → ((((((w'.setCell ⟨w.heap.size + 1, 0, none⟩ (.int .i64 b)).setCell ⟨w.heap.size + 1, 1, none⟩ (.slice A1 l.length c1)).setCell ⟨w.heap.size + 1, 2, none⟩ (.int .i64 u)).setCell ⟨w.heap.size + 1 + 1, 0, none⟩ (.int .i64 b)).setCell ⟨w.heap.size + 1 + 1, 1, none⟩ (.slice A2 l.length c2)).setCell ⟨w.heap.size + 1 + 1, 2, none⟩ (.int .i64 u)).heap[k]? = w'.heap[k]? := fun k hk => by
    rw [Below.heap_setCell _ _ _ k (by simp; omega), Below.heap_setCell _ _ _ k (by simp; omega), Below.heap_setCell _ _ _ k (by simp; omega), Below.heap_setCell _ _ _ k (by simp; omega), Below.heap_setCell _ _ _ k (by simp; omega), Below.heap_setCell _ _ _ k (by simp; omega)]
  have o1 := own_move (w1 := ((((((w'.setCell ⟨w.heap.size + 1, 0, none⟩ (.int .i64 b)).setCell ⟨w.heap.size + 1, 1, none⟩ (.slice A1 l.length c1)).setCell ⟨w.heap.size + 1, 2, none⟩ (.int .i64 u)).setCell ⟨w.heap.size + 1 + 1, 0, none⟩ (.int .i64 b)).setCell ⟨w.heap.size + 1 + 1, 1, none⟩ (.slice A2 l.length c2)).setCell ⟨w.heap.size + 1 + 1, 2, none⟩ (.int .i64 u))) hown (fun k hk => far k (by have := own_base hown k hk; omega))
  have h2 := HI.own
  rw [List.take_length] at h2
  have o2 := own_move (w1 := w') h2 (fun k hk => hB.block k (own_lt h2 k hk))
  have o3 := own_move (w1 := ((((((w'.setCell ⟨w.heap.size + 1, 0, none⟩ (.int .i64 b)).setCell ⟨w.heap.size + 1, 1, none⟩ (.slice A1 l.length c1)).setCell ⟨w.heap.size + 1, 2, none⟩ (.int .i64 u)).setCell ⟨w.heap.size + 1 + 1, 0, none⟩ (.int .i64 b)).setCell ⟨w.heap.size + 1 + 1, 1, none⟩ (.slice A2 l.length c2)).setCell ⟨w.heap.size + 1 + 1, 2, none⟩ (.int .i64 u))) o2 (fun k hk => far k (by have := own_base o2 k hk; omega))
  obtain ⟨_, _, e1, hC1⟩ := own_leaps o1
  obtain ⟨_, _, e2, hC2⟩ := own_leaps o3
  cases e1
  cases e2
  refine ⟨?_, ?_, hC1, hC2, ?_⟩
  · exact blk_far (blk_far (blk_far (blk_put (blk_put (blk_put kz 0 _ rfl) 1 _ rfl) 2 _ rfl) (by simp) _) (by simp) _) (by simp) _
  · exact blk_put (blk_put (blk_put (blk_far (blk_far (blk_far ky (by simp) _) (by simp) _) (by simp) _) 0 _ rfl) 1 _ rfl) 2 _ rfl
  · exact (((((((HI.bel.trans (hB.mono HI.bel.size)).setCell (by simp) _).setCell (by simp) _).setCell (by simp) _).setCell (by simp; omega) _).setCell (by simp; omega) _).setCell (by simp; omega) _)
set_option maxHeartbeats 4000000 in
set_option maxRecDepth 100000 in
theorem copied_calls (b u : Int) (A : Option Addr) (c : Nat) (l : List (Int × Int)) (w : World) (hr : Kd.C kl w A l.length l) (hl : l.length ≤ 1000000) (hnil : A = none → l = [] ∧ c = 0) :
    Calls Try.prog 51 #[tabV b A l.length c u] w fun e w' => (∃ A1 c1 A2 c2, e = .returned (.tuple #[tabV b A1 l.length c1 u, tabV b A2 l.length c2 u]) ∧ Kd.C kl w' A1 l.length l ∧ Kd.C kl w' A2 l.length l) ∧ Below w.heap.size w w' := by
  obtain ⟨ii, hii, hz0, hz1, hz2⟩ := info_parts info160n
  have HR := Aside0.mk hr
  have HN := Aside0.mk hnil
  clear hr hnil
  go_enter Try.func51, Try.ntmps51
  go_wp2_with fail
  obtain ⟨W0, hW0⟩ : ∃ W0, ((((w.alloc (.cells #[.int .i64 b, .slice A l.length c, .int .i64 u] 28)).alloc (.cells #[.int .i64 0, .slice none 0 0, .int .i64 0] 28)).alloc (.cells #[.int .i64 0, .slice none 0 0, .int .i64 0] 90)).alloc (.cells #[.int .i64 b, .slice none 0 0, .int .i64 u] 90)) = W0 := ⟨_, rfl⟩
  rw [hW0]
  have HI0 : Aside0 (CpInv w W0 A b u c l 0 (.slice none 0 0)) := ⟨by
    rw [← hW0]
    exact ⟨((((Below.refl _ w).alloc (Nat.le_refl _) _).alloc (by simp) _).alloc (by simp; omega) _).alloc (by simp; omega) _,
      al_old (al_old (al_old (al_new _ _ _ rfl))), al_old (al_old (al_new _ _ _ (by simp))), al_old (al_new _ _ _ (by simp)), al_new _ _ _ (by simp), own_nil _ _ _ _⟩⟩
  clear hW0
  go_loopw [15] (fun v15 wr => ∃ (i : Nat) (vo : Value), i ≤ l.length ∧ v15 = .int .i64 i ∧ Aside0 (CpInv w wr A b u c l i vo)) (fun v _ => l.length - (intOf v).toNat)
  case atStart => exact ⟨0, _, by omega, rfl, HI0⟩
  case round =>
    obtain ⟨i, vo, hi, rfl, HI⟩ := hrel
    by_cases hlt : i < l.length
    · obtain ⟨ad, rfl, hc0, hc1⟩ := C_leap (Kd.C_below HR.out HI.out.bel) i hlt hlt
      have HS := Aside0.mk (lcells_take hlt)
      generalize l[i] = x at *
      obtain ⟨xd, xs⟩ := x
      simp only at hc0 hc1 HS
      have d1 : decide ((i : Int) < (l.length : Int)) = true := decide_eq_true (by omega)
      have c31 : wr.cell? ⟨w.heap.size + 1 + 1 + 1, 1, none⟩ = some vo := blk_cell HI.out.ref 1
      have hsz : w.heap.size + 1 + 1 + 1 < wr.heap.size := (Array.getElem?_eq_some_iff.1 HI.out.ref).1
      have hownD : ((wr.alloc (.cells #[.int .i64 xd, .int .i64 xs] 45)).alloc (.cells #[.int .i64 xd, .int .i64 xs] 160)).ownsRow (w.heap.size + 4) 160 2 vo i (lcells (l.take i)) := own_move HI.out.own (fun k hk => by
        have hlt := own_lt HI.out.own k hk
        exact (Below.heap_alloc _ _ k (by simp; omega)).trans (Below.heap_alloc _ _ k hlt))
      go_wp2_with (at_builtin; refine wpList_append_own _ rfl _ _ 88 rfl (w.heap.size + 4) 160 ii (.agg #[.int .i64 0, .int .i64 0]) 2 16 Try.underlying88 hii hz0 hz1 hz2 rfl (by decide) _ _ _ rfl hownD ⟨wr.heap.size + 1, 0, none⟩ 1 1 [.int .i64 xd, .int .i64 xs] rfl ?qc1 ?qc2 ?qc3 ?qc4 ?qc5 ?qc6 ?_)
      case qc1 => rfl
      case qc2 => exact World.news_of_block (cs := #[.int .i64 xd, .int .i64 xs]) (t := 160) (fr := (0, 0)) (al_new _ _ _ (by simp))
      case qc3 => simp [Value.oneCell']
      case qc4 => unfold maxLen; omega
      case qc5 => omega
      case qc6 => simp; omega
      intro v1 w1 hown1 hgrow1 hnil1
      have hob : ∀ k, vo.ownBlock = some k → w.heap.size + 4 ≤ k := fun k hk => own_base HI.out.own k hk
      have keep : ∀ (k : Nat) (o : Obj), k < w.heap.size + 4 → wr.heap[k]? = some o → w1.heap[k]? = some o := fun k o hk ho => by
        have h1 := (Array.getElem?_eq_some_iff.1 ho).1
        refine (hgrow1.block k (by simp; omega) (fun e => by have := hob k e.symm; omega)).trans ?_
        exact al_old (al_old ho)
      have hbel1 : Below w.heap.size w w1 := ((HI.out.bel.alloc HI.out.bel.size _).alloc (by simp; omega) _).grown hgrow1 (by simp; omega) (fun k hk => by have := hob k hk; omega)
      have kref := keep _ _ (by omega) HI.out.ref
      have c31' : w1.cell? ⟨w.heap.size + 1 + 1 + 1, 1, none⟩ = some vo := blk_cell kref 1
      have f31 := blk_frozen kref 1
      have hown2 : w1.ownsRow (w.heap.size + 4) 160 2 v1 (i + 1) (lcells (l.take (i + 1))) := by rw [HS.out]; exact hown1
      obtain ⟨Av, cv, rfl, _⟩ : ∃ A c, v1 = .slice A (l.take (i + 1)).length c ∧ Kd.C kl w1 A (l.take (i + 1)).length (l.take (i + 1)) := own_leaps (e := 160) (by rw [show (l.take (i + 1)).length = i + 1 by simp; omega]; exact hown2)
      have HI1 : Aside0 (CpInv w (w1.setCell ⟨w.heap.size + 1 + 1 + 1, 1, none⟩ (.slice Av (l.take (i + 1)).length cv)) (some ad) b u c l (i + 1) (.slice Av (l.take (i + 1)).length cv)) := ⟨by
        refine ⟨hbel1.setCell (p := ⟨w.heap.size + 1 + 1 + 1, 1, none⟩) (by simp; omega) _, ?_, ?_, ?_, ?_, ?_⟩
        · exact blk_far (keep _ _ (by omega) HI.out.box) (by simp; omega) _
        · exact blk_far (keep _ _ (by omega) HI.out.r1) (by simp) _
        · exact blk_far (keep _ _ (by omega) HI.out.r2) (by simp) _
        · exact blk_put kref 1 _ rfl
        · exact own_move hown2 (fun k hk => Below.heap_setCell _ _ _ k (by have := own_base hown2 k hk; simp; omega))⟩
      clear keep hob hown1 hgrow1 hnil1 hownD kref
      clear hc0 hc1 c31
      generalize (l.take (i + 1)).length = len at *
      go_wp2
      go_roundw
      case rel => exact ⟨i + 1, _, by omega, by go_num, HI1⟩
      case measure => simp [intOf]; omega
    · obtain rfl : i = l.length := by omega
      have hC2 : ∃ A2 c2, vo = .slice A2 l.length c2 ∧ Kd.C kl wr A2 l.length l := by
        have h := HI.out.own
        rw [List.take_length] at h
        exact own_leaps (e := 160) h
      obtain ⟨A2, c2, rfl, hC2⟩ := hC2
      have t0 : wr.cell? ⟨w.heap.size, 0, none⟩ = some (.int .i64 b) := blk_cell HI.out.box 0
      have t1 : wr.cell? ⟨w.heap.size, 1, none⟩ = some (.slice A l.length c) := blk_cell HI.out.box 1
      have t2 : wr.cell? ⟨w.heap.size, 2, none⟩ = some (.int .i64 u) := blk_cell HI.out.box 2
      have s0 : wr.cell? ⟨w.heap.size + 1 + 1 + 1, 0, none⟩ = some (.int .i64 b) := blk_cell HI.out.ref 0
      have s1 : wr.cell? ⟨w.heap.size + 1 + 1 + 1, 1, none⟩ = some (.slice A2 l.length c2) := blk_cell HI.out.ref 1
      have s2 : wr.cell? ⟨w.heap.size + 1 + 1 + 1, 2, none⟩ = some (.int .i64 u) := blk_cell HI.out.ref 2
      have z0 : wr.cell? ⟨w.heap.size + 1, 0, none⟩ = some (.int .i64 0) := blk_cell HI.out.r1 0
      have z1 : wr.cell? ⟨w.heap.size + 1, 1, none⟩ = some (.slice none 0 0) := blk_cell HI.out.r1 1
      have z2 : wr.cell? ⟨w.heap.size + 1, 2, none⟩ = some (.int .i64 0) := blk_cell HI.out.r1 2
      have y0 : wr.cell? ⟨w.heap.size + 1 + 1, 0, none⟩ = some (.int .i64 0) := blk_cell HI.out.r2 0
      have y1 : wr.cell? ⟨w.heap.size + 1 + 1, 1, none⟩ = some (.slice none 0 0) := blk_cell HI.out.r2 1
      have y2 : wr.cell? ⟨w.heap.size + 1 + 1, 2, none⟩ = some (.int .i64 0) := blk_cell HI.out.r2 2
      have hcl := Aside0.mk (fun W (hW : Below wr.heap.size wr W) => clone_calls A c l W (Kd.C_below HR.out (HI.out.bel.trans (hW.mono HI.out.bel.size))) hl HN.out)
      go_wp2_with fail
      clear hC2
      go_region_with (go_at_call 72; refine (hcl.out _ (by first | exact Below.refl _ _ | exact (Below.refl _ _).drew)).mono ?_; rintro e w' ⟨v', rfl, hown, hB⟩; have t0' := cell_on hB t0; have t2' := cell_on hB t2; have s0' := cell_on hB s0; have s1' := cell_on hB s1; have s2' := cell_on hB s2; have z0' := cell_on hB z0; have z1' := cell_on hB z1; have z2' := cell_on hB z2; have y0' := cell_on hB y0; have y1' := cell_on hB y1; have y2' := cell_on hB y2; obtain ⟨A1, c1, rfl, _⟩ := own_leaps (e := 45) hown; have kz := (hB.block _ (Array.getElem?_eq_some_iff.1 HI.out.r1).1).trans HI.out.r1; have ky := (hB.block _ (Array.getElem?_eq_some_iff.1 HI.out.r2).1).trans HI.out.r2; have fz0 := blk_frozen kz 0; have fz1 := blk_frozen kz 1; have fz2 := blk_frozen kz 2; have fy0 := blk_frozen ky 0; have fy1 := blk_frozen ky 1; have fy2 := blk_frozen ky 2; clear kz ky; have hown9 : Aside0 (w'.ownsRow wr.heap.size 45 2 (.slice A1 l.length c1) l.length (lcells l)) := ⟨hown⟩; have hB9 : Aside0 (Below wr.heap.size wr w') := ⟨(Below.refl wr.heap.size wr).drew.trans hB⟩; clear hown hB)
      all_goals
        have hfin := cp_close HI.out hB9.out hown9.out
        go_wp2
        exact bodyPost_ret (results_two_rows rfl _ _ (w.heap.size + 1) (w.heap.size + 1 + 1) 28 90 _ _ (0, 0) (0, 0) _ _ rfl hfin.1 Try.underlying28 rfl info28' rfl hfin.2.1 Try.underlying90 rfl info90) rfl ⟨⟨A1, c1, A2, c2, rfl, hfin.2.2.1, hfin.2.2.2.1⟩, hfin.2.2.2.2⟩
end Go.Proofs.Ytleipbanadnchaa.C
