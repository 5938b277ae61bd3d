/- set, the events. -/
import Derived.OwnWalk
import Derived.BigRegion
import Derived.WalkKit
import Derived.Great.Walk
import Derived.Deep.CutBlock
import Derived.Maps.AppendAt
import Derived.Deep.RegionHeld3
import Derived.Test.YtlfnnalepdjagaaDoorCs
namespace Go.Proofs.YtlfnnalepdjagaaDoor.C
open Go.RowKit Go.Shelf Go.Maps Go.Proofs.YtlfnnalepdjagaaDoorW.PrintWords Go.Proofs.YtlfnnalepdjagaaDoorW.PrintLast Go.Proofs.YtlfnnalepdjagaaDoorW.PrintMore
set_option linter.unusedVariables false
set_option linter.unusedSimpArgs false
theorem info90n : (Tryd.prog.info? 90).map (fun i => (i.zero, i.size, i.bytes)) = some (some (.agg #[.int .i64 0, .int .i64 0, .int .i64 0]), 3, 24) := by kernel_rfl
/-- The memory while events are laid. -/
structure SetE (b : Nat) (w : World) (P Bh Bk : Nat) (kd : Int) (wi : World) (i : Nat) (ve : Value) (es : List T3) : Prop where
  bel : Below b w wi
  p : wi.heap[P]? = some (.cells #[.int .u64 0, .slice (some ⟨Bh, 0, none⟩) 1 1, .slice (some ⟨Bk, 0, none⟩) 2 2] 26 (0, 0))
  h : wi.heap[Bh]? = some (.cells #[.int .i64 5, .int .i64 5, .int .i64 9] 85 (0, 0))
  k : wi.heap[Bk]? = some (.cells #[.int .i64 1, .int .i64 0, .int .i64 0, .int .i64 0, .int .i64 0, .int .i64 0, .int .i64 0, .int .i64 0, .slice none 0 0, .int .i64 kd, .int .i64 0, .int .i64 0, .int .i64 0, .int .i64 0, .int .i64 0, .int .i64 0, .int .i64 0, ve] 88 (0, 0))
  own : wi.ownsRow b 90 3 ve (i + 1) (tcells es)
  len : es.length = i + 1
  lim : ∀ ev ∈ es, -9223372036854775808 ≤ ev.1 ∧ ev.1 ≤ 9223372036854775807
  ap : ve.ownBlock ≠ some P ∧ ve.ownBlock ≠ some Bh ∧ ve.ownBlock ≠ some Bk
theorem tcells_app (l m : List T3) : tcells (l ++ m) = tcells l ++ tcells m := by unfold tcells; rw [List.map_append, pcells_append]
theorem SetE.next {b : Nat} {w wi w1 : World} {P Bh Bk : Nat} {kd : Int} {i : Nat} {ve v' : Value} {es : List T3} (H : SetE b w P Bh Bk kd wi i ve es) (o : Obj) (c : T3) (hne : P ≠ Bh ∧ P ≠ Bk ∧ Bh ≠ Bk) (hb : b ≤ Bk)
    (hc : -9223372036854775808 ≤ c.1 ∧ c.1 ≤ 9223372036854775807) (hown : w1.ownsRow b 90 3 v' (i + 1 + 1) (tcells es ++ t3c c)) (hg : (wi.alloc o).grownBy w1 ve.ownBlock) (hat : v'.ownBlock = ve.ownBlock ∨ v'.ownBlock = some (wi.alloc o).heap.size) (hw : b ≤ w.heap.size) :
    w1.heap[P]? = some (.cells #[.int .u64 0, .slice (some ⟨Bh, 0, none⟩) 1 1, .slice (some ⟨Bk, 0, none⟩) 2 2] 26 (0, 0)) ∧ w1.heap[Bk]? = some (.cells #[.int .i64 1, .int .i64 0, .int .i64 0, .int .i64 0, .int .i64 0, .int .i64 0, .int .i64 0, .int .i64 0, .slice none 0 0, .int .i64 kd, .int .i64 0, .int .i64 0, .int .i64 0, .int .i64 0, .int .i64 0, .int .i64 0, .int .i64 0, ve] 88 (0, 0)) ∧ SetE b w P Bh Bk kd (w1.setCell ⟨Bk, 17, none⟩ v') (i + 1) v' (es ++ [c]) := by
  have h0 := H.bel.size
  have keep : ∀ (k : Nat) (o : Obj), ve.ownBlock ≠ some k → wi.heap[k]? = some o → w1.heap[k]? = some o := fun k o hk ho => by
    have h1 := (Array.getElem?_eq_some_iff.1 ho).1
    refine (hg.block k (by simp; omega) (fun e => hk e.symm)).trans ?_
    exact al_old ho
  have hbel1 : Below b w w1 := (H.bel.alloc (by omega) _).grown hg (by simp; omega) (fun k hk => own_base H.own k hk)
  have eP := keep _ _ H.ap.1 H.p
  have eh := keep _ _ H.ap.2.1 H.h
  have ek := keep _ _ H.ap.2.2 H.k
  have lP := blk_lt H.p
  have lh := blk_lt H.h
  have lk := blk_lt H.k
  have hap : v'.ownBlock ≠ some P ∧ v'.ownBlock ≠ some Bh ∧ v'.ownBlock ≠ some Bk := by
    rcases hat with e | e
    · rw [e]; exact H.ap
    · rw [e]; refine ⟨?_, ?_, ?_⟩ <;> (intro h; injection h with h; simp at h; omega)
  refine ⟨eP, ek, hbel1.setCell (by simp; omega) _, blk_far eP (by simpa using hne.2.1) _, blk_far eh (by simpa using hne.2.2) _, blk_put ek 17 _ rfl, ?_, by simp [H.len], ?_, hap⟩
  · rw [tcells_app, show tcells [c] = t3c c by simp [tcells, pcells]]
    refine own_move hown (fun k hk => Below.heap_setCell _ _ _ k ?_)
    simp
    exact fun h => hap.2.2 (h ▸ hk)
  · intro ev hev
    rw [List.mem_append] at hev
    rcases hev with h | h
    · exact H.lim ev h
    · rw [List.mem_singleton] at h; subst h; exact hc
theorem SetE.done {b : Nat} {w wi : World} {P Bh Bk : Nat} {kd : Int} {i : Nat} {ve : Value} {es : List T3} (H : SetE b w P Bh Bk kd wi i ve es) (hi : i ≤ 20) : SetDone w wi b P Bh Bk := by
  have ho := H.own
  rw [← H.len] at ho
  obtain ⟨A, c, rfl, hle, hC⟩ := own_T ho
  refine ⟨⟨(5, 5, 9), ⟨kd, 0, 0, 0, 0, 0, 0, 0, es⟩, ⟨?_, ?_⟩, by have := H.len; simp; omega, H.lim⟩, H.p, H.bel⟩
  · exact blk_C k3 ([((5, 5, 9), [.int .i64 5, .int .i64 5, .int .i64 9])] : List (T3 × List Value)) H.h (by simp; rfl) (fun y hy => by simp at hy; subst hy; exact k3_mk _ (5, 5, 9)) (by simp)
  · refine blk_C (kck 90) ([(⟨1, 0, 0, 0, 0, 0, 0, 0, []⟩, [.int .i64 1, .int .i64 0, .int .i64 0, .int .i64 0, .int .i64 0, .int .i64 0, .int .i64 0, .int .i64 0, .slice none 0 0]), (⟨kd, 0, 0, 0, 0, 0, 0, 0, es⟩, [.int .i64 kd, .int .i64 0, .int .i64 0, .int .i64 0, .int .i64 0, .int .i64 0, .int .i64 0, .int .i64 0, .slice A es.length c])] : List (Ck × List Value)) H.k (fun z hz => by simp at hz; rcases hz with rfl | rfl <;> rfl) (fun z hz => by
      simp at hz
      rcases hz with rfl | rfl
      · exact ck_K ⟨1, 0, 0, 0, 0, 0, 0, 0, []⟩ none 0 (by simp) (C_nil _ _)
      · exact ck_K ⟨kd, 0, 0, 0, 0, 0, 0, 0, es⟩ A c hle hC) (by simp)
set_option maxHeartbeats 4000000 in
set_option maxRecDepth 100000 in
theorem set_events (v kd : Int) (w : World) (b P Bh Bk Be : Nat) (hM : SetMem w P Bh Bk Be kd) (hb : b ≤ Bh ∧ b ≤ Bk ∧ b ≤ Be ∧ b ≤ w.heap.size) (hne : P ≠ Bh ∧ P ≠ Bk ∧ P ≠ Be ∧ Bh ≠ Bk ∧ Bh ≠ Be ∧ Bk ≠ Be) :
    Calls Tryd.prog 43 #[.pointer (some ⟨P, 0, none⟩), .int .i64 13, .int .i64 v] w fun e w' => (∃ r, e = .returned r) ∧ SetDone w w' b P Bh Bk := by
  obtain ⟨i9, hi9, hi90, hi91, hi92⟩ := info_parts info90n
  have p2 : w.cell? ⟨P, 2, none⟩ = some (.slice (some ⟨Bk, 0, none⟩) 2 2) := blk_cell hM.p 2
  have HI0 : Aside0 (SetE b w P Bh Bk kd w 0 (.slice (some ⟨Be, 0, none⟩) 1 1) [(2, 3, 0)]) := ⟨⟨Below.refl b w, hM.p, hM.h, hM.k, ⟨by simp [tcells, pcells, t3c], .inr ⟨Be, 1, _, rfl, hb.2.2.1, hM.e, by omega, by unfold maxLen; omega, rfl, rfl⟩⟩, by simp, (fun ev hev => by simp at hev; subst hev; exact ⟨by decide, by decide⟩), by simp [Value.ownBlock]; omega⟩⟩
  have HNE := Aside0.mk hne
  have HBB := Aside0.mk hb
  clear hM hne hb
  go_enter Tryd.func43, Tryd.ntmps43
  go_upto_block 1 with fail
  clear p2
  go_wp2
  go_loopw [7] (fun x wi => ∃ (i : Nat) (ve : Value) (es : List T3), i ≤ 20 ∧ x = .int .i64 i ∧ Aside0 (SetE b w P Bh Bk kd wi i ve es)) (fun x _ => 20 - (intOf x).toNat)
  case atStart => exact ⟨0, _, _, by omega, rfl, HI0⟩
  case round =>
    obtain ⟨i, ve, es, hi, rfl, HI⟩ := hrel
    clear HI0
    have hsz := HI.out.bel.size
    have k17 : wr.cell? ⟨Bk, 17, none⟩ = some ve := blk_cell HI.out.k 17
    by_cases h1 : (i : Int) < v
    · by_cases h2 : (i : Int) < 20
      · go_upto_block 2 with fail
        have NX := fun (c : T3) (w1 : World) (v' : Value) => SetE.next (w1 := w1) (v' := v') HI.out (.cells (t3c c).toArray 90) c ⟨HNE.out.1, HNE.out.2.1, HNE.out.2.2.2.1⟩ HBB.out.2.1
        have NX9 := Aside0.mk NX
        have hownD : ∀ o, (wr.alloc o).ownsRow b 90 3 ve (i + 1) (tcells es) := fun o => own_move HI.out.own (fun k hk => Below.heap_alloc _ _ k (own_lt HI.out.own k hk))
        have HOD := Aside0.mk hownD
        clear NX hownD
        go_wp2_with (at_builtin; refine wpList_append_own_at _ rfl _ _ 86 rfl b 90 i9 (.agg #[.int .i64 0, .int .i64 0, .int .i64 0]) 3 24 Tryd.underlying86 hi9 hi90 hi91 hi92 rfl (by decide) _ _ _ rfl (HOD.out _) ⟨wr.heap.size, 0, none⟩ 1 1 (t3c (1 + (i : Int) % 4, 4 + (i : Int), 0)) rfl ?qe1 ?qe2 ?qe3 ?qe4 ?qe5 ?qe6 ?_)
        case qe1 => rfl
        case qe2 => exact World.news_of_block (cs := #[.int .i64 (1 + (i : Int) % 4), .int .i64 (4 + (i : Int)), .int .i64 0]) (t := 90) (fr := (0, 0)) (al_new _ _ _ (by simp))
        case qe3 => simp [t3c, Value.oneCell']
        case qe4 => unfold maxLen; omega
        case qe5 => omega
        case qe6 => have := HBB.out; simp; omega
        intro v' w1 hown1 hgrow1 hnil1 hat1
        obtain ⟨kP, kk, HI1⟩ := NX9.out (1 + (i : Int) % 4, 4 + (i : Int), 0) w1 v' ⟨by simp; omega, by simp; omega⟩ hown1 hgrow1 (by simpa using hat1) HBB.out.2.2.2
        have HI2 := Aside0.mk HI1
        have q17 : w1.cell? ⟨Bk, 17, none⟩ = some ve := blk_cell kk 17
        have qf := blk_frozen kk 17
        obtain ⟨Av, cv, rfl⟩ := own_form hown1
        clear HI1 kP kk hown1 hgrow1 hnil1 hat1 NX9 HOD HI k17
        go_wp2
        go_roundw
        case rel => exact ⟨i + 1, _, _, by omega, by go_num, HI2⟩
        case measure => simp [intOf]; omega
      · go_wp2
        refine Go.Great.bodyPost_end0 (P := Tryd.prog) rfl rfl ?_
        exact ⟨⟨_, rfl⟩, HI.out.done hi⟩
    · go_wp2
      refine Go.Great.bodyPost_end0 (P := Tryd.prog) rfl rfl ?_
      exact ⟨⟨_, rfl⟩, HI.out.done hi⟩
end Go.Proofs.YtlfnnalepdjagaaDoor.C
