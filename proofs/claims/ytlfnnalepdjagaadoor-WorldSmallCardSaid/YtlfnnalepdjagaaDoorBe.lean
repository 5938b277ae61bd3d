/- The contract of Own, by hand. -/
import Derived.OwnWalk
import Derived.BigRegion
import Derived.WalkKit
import Derived.Deep.CutBlock
import Derived.Deep.RegionHeld3
import Derived.Test.YtlfnnalepdjagaaDoorBd
namespace Go.Proofs.YtlfnnalepdjagaaDoor.C
open Go.RowKit Go.Shelf Go.Maps Go.Proofs.YtlfnnalepdjagaaDoorW.PrintWords Go.Proofs.YtlfnnalepdjagaaDoorW.PrintLast Go.Proofs.YtlfnnalepdjagaaDoorW.PrintMore
set_option linter.unusedVariables false
set_option linter.unusedSimpArgs false
theorem info53n : (Tryd.prog.info? 53).map (fun i => (i.zero, i.size, i.bytes)) = some (some (.agg #[.int .i64 0, .int .i64 0, .int .i64 0]), 3, 24) := by kernel_rfl
theorem info51n : (Tryd.prog.info? 51).map (fun i => (i.zero, i.size, i.bytes)) = some (some (.agg #[.int .i64 0, .int .i64 0, .int .i64 0]), 3, 24) := by kernel_rfl
theorem info48n : (Tryd.prog.info? 48).map (fun i => (i.zero, i.size, i.bytes)) = some (some (.agg #[.int .i64 0, .int .i64 0, .int .i64 0, .int .i64 0, .int .i64 0, .int .i64 0, .int .i64 0, .int .i64 0, .slice none 0 0]), 9, 88) := by kernel_rfl
set_option maxHeartbeats 4000000 in
set_option maxRecDepth 100000 in
theorem Own_calls (seed : Int) (Ah : Option Addr) (chc : Nat) (Ak : Option Addr) (ckc_ : Nat) (chs : List T3) (cks : List Ck) (w : World) (hW : WAt 90 w Ah Ak chs cks) (hn : chs.length ≤ 40) (hk : cks.length ≤ 40) (hes : ∀ x ∈ cks, x.es.length ≤ 40) :
    Calls Tryd.prog 12 #[woV seed Ah chs.length chc Ak cks.length ckc_] w fun e w' => ∃ A1 c1 A2 c2, e = .returned (woV seed A1 chs.length c1 A2 cks.length c2) ∧ WAt 51 w' A1 A2 chs cks ∧ Below w.heap.size w w' := by
  obtain ⟨i5, hi5, hi50, hi51, hi52⟩ := info_parts info53n
  obtain ⟨i1, hi1, hi10, hi11, hi12⟩ := info_parts info51n
  obtain ⟨i8, hi8, hi80, hi81, hi82⟩ := info_parts info48n
  have HH := Aside0.mk hW.h
  have HC := Aside0.mk hW.k
  have HES := Aside0.mk hes
  clear hW hes
  unfold woV
  go_enter Tryd.func12, Tryd.ntmps12
  go_upto_block 0 with fail
  obtain ⟨W0, hW0⟩ : ∃ W0, ((w.alloc (.cells #[.int .u64 seed, .slice Ah chs.length chc, .slice Ak cks.length ckc_] 26)).alloc (.cells #[.int .u64 0, .slice none 0 0, .slice none 0 0] 32)).alloc (.cells #[.int .u64 seed, .slice none 0 0, .slice none 0 0] 32) = W0 := ⟨_, rfl⟩
  rw [hW0]
  have HI0 : Aside0 (OwA w W0 seed (.slice Ah chs.length chc) (.slice Ak cks.length ckc_) chs 0 (.slice none 0 0)) := ⟨by
    rw [← hW0]
    exact ⟨(((Below.refl _ w).alloc (Nat.le_refl _) _).alloc (by simp) _).alloc (by simp; omega) _, al_old (al_old (al_new _ _ _ rfl)), al_old (al_new _ _ _ (by simp)), al_new _ _ _ (by simp), by simpa [tcells, pcells] using own_nil _ _ _ _⟩⟩
  clear hW0
  go_wp2
  go_loopw [4] (fun v wr => ∃ (i : Nat) (v1 : Value), i ≤ chs.length ∧ v = .int .i64 i ∧ Aside0 (OwA w wr seed (.slice Ah chs.length chc) (.slice Ak cks.length ckc_) chs i v1)) (fun v _ => chs.length - (intOf v).toNat)
  case atStart => exact ⟨0, _, by omega, rfl, HI0⟩
  case round =>
    obtain ⟨i, v1, hi, rfl, HI⟩ := hrel
    clear HI0
    have hsz := HI.out.bel.size
    have hs2 := blk_lt HI.out.out
    have x1 : wr.cell? ⟨w.heap.size, 1, none⟩ = some (.slice Ah chs.length chc) := blk_cell HI.out.box 1
    have x2 : wr.cell? ⟨w.heap.size, 2, none⟩ = some (.slice Ak cks.length ckc_) := blk_cell HI.out.box 2
    have o1 : wr.cell? ⟨w.heap.size + 1 + 1, 1, none⟩ = some v1 := blk_cell HI.out.out 1
    by_cases hlt : i < chs.length
    · have d1 : (i : Int) < (chs.length : Int) := by omega
      obtain ⟨ad, rfl, hc0, hc1, hc2⟩ := C_3 (Kd.C_below HH.out HI.out.bel) i hlt hlt
      have NX := fun (w1 : World) (v' : Value) => OwA.next (w1 := w1) (v' := v') HI.out (.cells (t3c chs[i]).toArray 53) hlt
      unfold t3c at NX
      obtain ⟨⟨ca, cb, cc⟩, hci⟩ : ∃ c, chs[i] = c := ⟨_, rfl⟩
      rw [hci] at NX hc0 hc1 hc2
      simp only at NX hc0 hc1 hc2
      have hownD : (wr.alloc (.cells #[.int .i64 ca, .int .i64 cb, .int .i64 cc] 53)).ownsRow (w.heap.size + 3) 53 3 v1 i (tcells (chs.take i)) := own_move HI.out.own (fun k hk => Below.heap_alloc _ _ k (own_lt HI.out.own k hk))
      have NX9 := Aside0.mk NX
      clear NX hci
      go_wp2_with (at_builtin; refine wpList_append_own _ rfl _ _ 29 rfl (w.heap.size + 3) 53 i5 (.agg #[.int .i64 0, .int .i64 0, .int .i64 0]) 3 24 Tryd.underlying29 hi5 hi50 hi51 hi52 rfl (by decide) _ _ _ rfl hownD ⟨wr.heap.size, 0, none⟩ 1 1 [.int .i64 ca, .int .i64 cb, .int .i64 cc] rfl ?qc1 ?qc2 ?qc3 ?qc4 ?qc5 ?qc6 ?_)
      case qc1 => rfl
      case qc2 => exact World.news_of_block (cs := #[.int .i64 ca, .int .i64 cb, .int .i64 cc]) (t := 53) (fr := (0, 0)) (al_new _ _ _ (by simp))
      case qc3 => simp [Value.oneCell']
      case qc4 => unfold maxLen; omega
      case qc5 => omega
      case qc6 => simp; omega
      intro v' w1 hown1 hgrow1 hnil1
      have HI1 := Aside0.mk (NX9.out w1 v' hown1 hgrow1)
      have kout : w1.heap[w.heap.size + 1 + 1]? = some (.cells #[.int .u64 seed, v1, .slice none 0 0] 32 (0, 0)) := (hgrow1.block _ (by simp; omega) (fun e => by have := own_base HI.out.own _ e.symm; omega)).trans (al_old HI.out.out)
      have o1' : w1.cell? ⟨w.heap.size + 1 + 1, 1, none⟩ = some v1 := blk_cell kout 1
      have f1 := blk_frozen kout 1
      obtain ⟨Av, cv, rfl, _⟩ : ∃ A c, v' = .slice A (chs.take (i + 1)).length c ∧ (chs.take (i + 1)).length ≤ c := by
        have h := HI1.out.own
        have hl : (chs.take (i + 1)).length = i + 1 := by simp; omega
        obtain ⟨A, c, e, h2, _⟩ := own_T (show World.ownsRow _ _ 53 3 v' (chs.take (i + 1)).length (tcells (chs.take (i + 1))) by rw [hl]; exact h)
        exact ⟨A, c, e, h2⟩
      clear hown1 hgrow1 hnil1 hownD kout NX9 HI hc0 hc1 hc2 x1 x2 o1
      generalize (chs.take (i + 1)).length = len at *
      go_wp2
      go_roundw
      case rel => exact ⟨i + 1, _, by omega, by go_num, HI1⟩
      case measure => simp [intOf]; omega
    · have d1 : ¬ (i : Int) < (chs.length : Int) := by omega
      obtain rfl : i = chs.length := by omega
      have HK0 := Aside0.mk (HI.out.to (cks := cks))
      clear HI o1 hlt hi
      go_upto_block 2 with fail
      clear d1 x1 x2 hs2 hsz
      go_wp2
      go_loopw [6] (fun v wq => ∃ (i : Nat) (v2 : Value) (l : List (Ck × Value)), i ≤ cks.length ∧ v = .int .i64 i ∧ Aside0 (OwK w wq seed (.slice Ah chs.length chc) (.slice Ak cks.length ckc_) chs cks i v1 v2 l)) (fun v _ => cks.length - (intOf v).toNat)
      case atStart => exact ⟨0, _, _, by omega, rfl, HK0⟩
      case round =>
        obtain ⟨i, v2, l, hi, rfl, HI⟩ := hrel
        clear HK0
        have hsz := HI.out.bel.size
        have hs2 := blk_lt HI.out.out
        have x2 : wr.cell? ⟨w.heap.size, 2, none⟩ = some (.slice Ak cks.length ckc_) := blk_cell HI.out.box 2
        by_cases hlt : i < cks.length
        · have d1 : (i : Int) < (cks.length : Int) := by omega
          obtain ⟨ad, Ax, cx, rfl, hc0, hc1, hc2, hc3, hc4, hc5, hc6, hc7, hc8, hle, hCe⟩ := C_ck (Kd.C_below HC.out HI.out.bel) i hlt hlt
          obtain ⟨x, hx⟩ : ∃ x, cks[i] = x := ⟨_, rfl⟩
          have hx40 : x.es.length ≤ 40 := by rw [← hx]; exact HES.out _ (List.getElem_mem hlt)
          rw [hx] at hc0 hc1 hc2 hc3 hc4 hc5 hc6 hc7 hc8 hle hCe
          have HX := Aside0.mk hx
          clear hx
          have HE0 := OwE.first (wr := wr) x Ax cx
          have NK := Aside0.mk (fun (wi w1 : World) (v' ve : Value) (HE : OwE wr wi x Ax cx x.es.length ve) => OwK.next (wi := wi) (w1 := w1) (v' := v') (ve := ve) HI.out HE (.cells (ckc x ve).toArray 48) hlt HX.out)
          have NE := Aside0.mk (fun (wi w1 : World) (k : Nat) (ve v' : Value) (HE : OwE wr wi x Ax cx k ve) (hk : k < x.es.length) => OwE.grow (w1 := w1) (v' := v') HE (.cells (t3c x.es[k]).toArray 51) hk)
          have HCE := Aside0.mk hCe
          have HEX := Aside0.mk hle
          have HXB := fun (wi : World) (k : Nat) (ve : Value) (h : OwE wr wi x Ax cx k ve) => h.xb
          have HCB := fun (wi : World) (k : Nat) (ve : Value) (h : OwE wr wi x Ax cx k ve) => h.cb
          have HCK : ∀ ve, ckc x ve = [.int .i64 x.kd, .int .i64 x.ph, .int .i64 x.rt, .int .i64 x.dr, .int .i64 x.wh, .int .i64 x.wk, .int .i64 x.ht, .int .i64 x.ch, ve] := fun ve => rfl
          clear hle hCe HX
          go_upto_block 4 with fail
          obtain ⟨W1, hW1⟩ : ∃ W1, (wr.alloc (.cells #[.int .i64 x.kd, .int .i64 x.ph, .int .i64 x.rt, .int .i64 x.dr, .int .i64 x.wh, .int .i64 x.wk, .int .i64 x.ht, .int .i64 x.ch, .slice Ax x.es.length cx] 88)).alloc (.cells #[.int .i64 x.kd, .int .i64 x.ph, .int .i64 x.rt, .int .i64 x.dr, .int .i64 x.wh, .int .i64 x.wk, .int .i64 x.ht, .int .i64 x.ch, .slice none 0 0] 48) = W1 := ⟨_, rfl⟩
          rw [hW1] at HE0 ⊢
          clear hW1 hc0 hc1 hc2 hc3 hc4 hc5 hc6 hc7 hc8 x2 d1
          have HE9 := Aside0.mk HE0
          clear HE0
          have HCC := HC
          go_wp2
          go_loopw [9] (fun v wi => ∃ (k : Nat) (ve : Value), k ≤ x.es.length ∧ v = .int .i64 k ∧ Aside0 (OwE wr wi x Ax cx k ve)) (fun v _ => x.es.length - (intOf v).toNat)
          case atStart => exact ⟨0, _, by omega, rfl, HE9⟩
          case round =>
            obtain ⟨k, ve, hk9, rfl, HE⟩ := hrel
            clear HE9
            rename World => wi
            have hsi := HE.out.bel.size
            have hs3 := blk_lt HE.out.cb
            have xb8 : wi.cell? ⟨wr.heap.size, 8, none⟩ = some (.slice Ax x.es.length cx) := blk_cell HE.out.xb 8
            have cb8 : wi.cell? ⟨wr.heap.size + 1, 8, none⟩ = some ve := blk_cell HE.out.cb 8
            by_cases hlt2 : k < x.es.length
            · have d2 : (k : Int) < (x.es.length : Int) := by omega
              obtain ⟨ad2, rfl, hc0, hc1, hc2⟩ := C_3 (Kd.C_below HCE.out HE.out.bel) k hlt2 hlt2
              have hadb : (ad2.add (k * 3)).block < wr.heap.size := World.block_lt_of_cell? _ _ (show wr.cell? (ad2.add (k * 3)) = some (.int .i64 x.es[k].1) by obtain ⟨_, e, h0, _, _⟩ := C_3 HCE.out k hlt2 hlt2; cases e; exact h0)
              have NX := fun (w1 : World) (v' : Value) => NE.out wi.drew w1 k ve v' HE.out.drew hlt2
              unfold t3c at NX
              obtain ⟨⟨ca, cb, cc⟩, hci⟩ : ∃ c, x.es[k] = c := ⟨_, rfl⟩
              rw [hci] at NX hc0 hc1 hc2
              simp only at NX hc0 hc1 hc2
              have hownD : (wi.drew.alloc (.cells #[.int .i64 ca, .int .i64 cb, .int .i64 cc] 51)).ownsRow (wr.heap.size + 2) 51 3 ve k (tcells (x.es.take k)) := own_move HE.out.own (fun k hk => Below.heap_alloc _ _ k (own_lt HE.out.own k hk))
              have hownD' : (wi.alloc (.cells #[.int .i64 ca, .int .i64 cb, .int .i64 cc] 51)).drew.ownsRow (wr.heap.size + 2) 51 3 ve k (tcells (x.es.take k)) := own_move HE.out.own (fun k hk => Below.heap_alloc _ _ k (own_lt HE.out.own k hk))
              have NX9 := Aside0.mk NX
              have hnews : ∀ (j : Nat) (u : Value), [Value.int .i64 ca, .int .i64 cb, .int .i64 cc][j]? = some u → (wi.drew.alloc (.cells #[.int .i64 ca, .int .i64 cb, .int .i64 cc] 51)).cell? ((⟨wi.heap.size, 0, none⟩ : Addr).add j) = some u := World.news_of_block (cs := #[.int .i64 ca, .int .i64 cb, .int .i64 cc]) (t := 51) (fr := (0, 0)) (al_new _ _ _ rfl)
              have HNW := Aside0.mk hnews
              have hS : ∀ w' : World, Aside0 (∀ j, j < wr.heap.size + 1 → w'.heap[j]? = wi.heap[j]?) → ((w'.cell? ⟨wr.heap.size, 8, none⟩ = some (.slice (some ad2) x.es.length cx) ∧ w'.cell? (ad2.add (k * 3)) = some (.int .i64 ca) ∧ w'.cell? ⟨(ad2.add (k * 3)).block, (ad2.add (k * 3)).off + 1, none⟩ = some (.int .i64 cb) ∧ w'.cell? ⟨(ad2.add (k * 3)).block, (ad2.add (k * 3)).off + 2, none⟩ = some (.int .i64 cc)) ∧ Aside0 (∀ j, j < wr.heap.size + 1 → w'.heap[j]? = wi.heap[j]?)) := fun w' h => by
                have hb : (ad2.add (k * 3)).block < wr.heap.size := hadb
                exact ⟨⟨(World.cell?_of_block (h.out _ (by simp))).trans xb8, (World.cell?_of_block (h.out _ (by omega))).trans hc0, (World.cell?_of_block (h.out _ (by simp; omega))).trans hc1, (World.cell?_of_block (h.out _ (by simp; omega))).trans hc2⟩, h⟩
              have kp0 : Aside0 (∀ j, j < wr.heap.size + 1 → wi.drew.heap[j]? = wi.heap[j]?) := ⟨fun _ _ => rfl⟩
              have kpA : ∀ o : Obj, Aside0 (∀ j, j < wr.heap.size + 1 → (wi.drew.alloc o).heap[j]? = wi.heap[j]?) := fun o => ⟨fun j hj => Below.heap_alloc _ _ j (by simp; omega)⟩
              clear NX hci hnews hadb
              go_wp2_with fail
              go_region_held3 (fun w' => (w'.cell? ⟨wr.heap.size, 8, none⟩ = some (.slice (some ad2) x.es.length cx) ∧ w'.cell? (ad2.add (k * 3)) = some (.int .i64 ca) ∧ w'.cell? ⟨(ad2.add (k * 3)).block, (ad2.add (k * 3)).off + 1, none⟩ = some (.int .i64 cb) ∧ w'.cell? ⟨(ad2.add (k * 3)).block, (ad2.add (k * 3)).off + 2, none⟩ = some (.int .i64 cc)) ∧ Aside0 (∀ j, j < wr.heap.size + 1 → w'.heap[j]? = wi.heap[j]?)) (first | with_reducible exact hS _ kp0 | with_reducible exact hS _ (kpA _) | exact hS _ (kpA _) | exact hS _ kpB | exact hS _ (kpC _))
                (first | (refine step_append_own rfl (.tmp 71) (.tmp 91) 46 rfl (wr.heap.size + 2) 51 i1 (.agg #[.int .i64 0, .int .i64 0, .int .i64 0]) 3 24 Tryd.underlying46 hi1 hi10 hi11 hi12 rfl (by decide) ve k (tcells (x.es.take k)) (by simp [Act.eval, Act.put]) hownD ⟨wi.heap.size, 0, none⟩ 1 1 [.int .i64 ca, .int .i64 cb, .int .i64 cc] (by simp [Act.eval, Act.put]) rfl HNW.out (by simp [Value.oneCell']) (by unfold maxLen; omega) (by omega) (by simp; omega) ?_; intro v' w1 hown1 hgrow1; obtain ⟨Av, cv, rfl, HE1, cbq, cbf, kpB⟩ := NX9.out w1 v' hown1 hgrow1; have HE2 := Aside0.mk HE1; have kpC : ∀ V : Value, Aside0 (∀ j, j < wr.heap.size + 1 → (w1.setCell ⟨wr.heap.size + 1, 8, none⟩ V).heap[j]? = wi.heap[j]?) := fun V => ⟨fun j hj => (Below.heap_setCell _ _ _ j (by simp; omega)).trans (kpB.out j hj)⟩; clear HE1 hown1 hgrow1; obtain ⟨len, hlen⟩ : ∃ n, (x.es.take (k + 1)).length = n := ⟨_, rfl⟩; rw [hlen] at HE2 ⊢; clear hlen))
              clear hS kp0 kpA hownD hownD' HNW cbq cbf kpB kpC
              go_wp2
              go_roundw
              case rel => exact ⟨k + 1, _, by omega, by go_num, HE2⟩
              case measure => simp [intOf]; omega
            · have d2 : ¬ (k : Int) < (x.es.length : Int) := by omega
              obtain rfl : k = x.es.length := by omega
              clear NE HXB hlt2 hk9
              obtain ⟨Ae, ce, rfl, hle⟩ : ∃ A c, ve = .slice A x.es.length c ∧ x.es.length ≤ c := by
                have h := HE.out.own
                rw [List.take_length] at h
                obtain ⟨A, c, e, h2, _⟩ := own_T h
                exact ⟨A, c, e, h2⟩
              have NX := fun (w1 : World) (v' : Value) => NK.out wi w1 v' _ HE.out
              unfold ckc at NX
              have NX9 := Aside0.mk NX
              have kout := (HE.out.bel.block _ hs2).trans HI.out.out
              have o2 : wi.cell? ⟨w.heap.size + 1 + 1, 2, none⟩ = some v2 := blk_cell kout 2
              have cq0 : wi.cell? ⟨wr.heap.size + 1, 0, none⟩ = some (.int .i64 x.kd) := blk_cell HE.out.cb 0
              have cq1 : wi.cell? ⟨wr.heap.size + 1, 1, none⟩ = some (.int .i64 x.ph) := blk_cell HE.out.cb 1
              have cq2 : wi.cell? ⟨wr.heap.size + 1, 2, none⟩ = some (.int .i64 x.rt) := blk_cell HE.out.cb 2
              have cq3 : wi.cell? ⟨wr.heap.size + 1, 3, none⟩ = some (.int .i64 x.dr) := blk_cell HE.out.cb 3
              have cq4 : wi.cell? ⟨wr.heap.size + 1, 4, none⟩ = some (.int .i64 x.wh) := blk_cell HE.out.cb 4
              have cq5 : wi.cell? ⟨wr.heap.size + 1, 5, none⟩ = some (.int .i64 x.wk) := blk_cell HE.out.cb 5
              have cq6 : wi.cell? ⟨wr.heap.size + 1, 6, none⟩ = some (.int .i64 x.ht) := blk_cell HE.out.cb 6
              have cq7 : wi.cell? ⟨wr.heap.size + 1, 7, none⟩ = some (.int .i64 x.ch) := blk_cell HE.out.cb 7
              have cq8 : wi.cell? ⟨wr.heap.size + 1, 8, none⟩ = some (.slice Ae x.es.length ce) := blk_cell HE.out.cb 8
              have hownD : (wi.alloc (.cells #[.int .i64 x.kd, .int .i64 x.ph, .int .i64 x.rt, .int .i64 x.dr, .int .i64 x.wh, .int .i64 x.wk, .int .i64 x.ht, .int .i64 x.ch, .slice Ae x.es.length ce] 48)).ownsRow (w.heap.size + 3) 48 9 v2 i (kcells l) := own_move HI.out.own2 (fun k hk => by
                have h1 := own_lt HI.out.own2 k hk
                exact (Below.heap_alloc _ _ k (by omega)).trans (HE.out.bel.block k h1))
              clear NX cb8
              go_wp2_with (at_builtin; refine wpList_append_own_at _ rfl _ _ 30 rfl (w.heap.size + 3) 48 i8 (.agg #[.int .i64 0, .int .i64 0, .int .i64 0, .int .i64 0, .int .i64 0, .int .i64 0, .int .i64 0, .int .i64 0, .slice none 0 0]) 9 88 Tryd.underlying30 hi8 hi80 hi81 hi82 rfl (by decide) _ _ _ rfl hownD ⟨wi.heap.size, 0, none⟩ 1 1 [.int .i64 x.kd, .int .i64 x.ph, .int .i64 x.rt, .int .i64 x.dr, .int .i64 x.wh, .int .i64 x.wk, .int .i64 x.ht, .int .i64 x.ch, .slice Ae x.es.length ce] rfl ?qe1 ?qe2 ?qe3 ?qe4 ?qe5 ?qe6 ?_)
              case qe3 => simp [Value.oneCell']
              case qe4 => unfold maxLen; omega
              case qe5 => omega
              case qe6 => first | omega | (simp; omega)
              intro v' w1 hown1 hgrow1 hnil1 hat1
              have HI1 := Aside0.mk (NX9.out w1 v' hown1 hgrow1 (by simpa using hat1))
              have kout' : w1.heap[w.heap.size + 1 + 1]? = some (.cells #[.int .u64 seed, v1, v2] 32 (0, 0)) := (hgrow1.block _ (by simp; omega) (fun e => by have := own_base HI.out.own2 _ e.symm; omega)).trans (al_old kout)
              have o2' : w1.cell? ⟨w.heap.size + 1 + 1, 2, none⟩ = some v2 := blk_cell kout' 2
              have f2 := blk_frozen kout' 2
              obtain ⟨Av, cv, rfl⟩ := own_form hown1
              clear hown1 hgrow1 hnil1 hat1 hownD kout kout' NX9 HI HE NK o2 HES HC xb8 d2 cq0 cq1 cq2 cq3 cq4 cq5 cq6 cq7 cq8
              go_wp2
              go_roundw
              case rel => exact ⟨i + 1, _, _, by omega, by go_num, HI1⟩
              case measure => simp [intOf]; omega
        · have d1 : ¬ (i : Int) < (cks.length : Int) := by omega
          obtain rfl : i = cks.length := by omega
          obtain ⟨A1, c1, A2, c2, rfl, rfl, hWW⟩ := HI.out.world
          have HWW := Aside0.mk hWW
          have o0 : wr.cell? ⟨w.heap.size + 1 + 1, 0, none⟩ = some (.int .u64 seed) := blk_cell HI.out.out 0
          have o1 : wr.cell? ⟨w.heap.size + 1 + 1, 1, none⟩ = some (.slice A1 chs.length c1) := blk_cell HI.out.out 1
          have o2 : wr.cell? ⟨w.heap.size + 1 + 1, 2, none⟩ = some (.slice A2 cks.length c2) := blk_cell HI.out.out 2
          have z0 : wr.cell? ⟨w.heap.size + 1, 0, none⟩ = some (.int .u64 0) := blk_cell HI.out.r1 0
          have z1 : wr.cell? ⟨w.heap.size + 1, 1, none⟩ = some (.slice none 0 0) := blk_cell HI.out.r1 1
          have z2 : wr.cell? ⟨w.heap.size + 1, 2, none⟩ = some (.slice none 0 0) := blk_cell HI.out.r1 2
          have y0 := blk_frozen HI.out.r1 0
          have y1 := blk_frozen HI.out.r1 1
          have y2 := blk_frozen HI.out.r1 2
          have kr := blk_put (blk_put (blk_put HI.out.r1 0 (.int .u64 seed) rfl) 1 (.slice A1 chs.length c1) rfl) 2 (.slice A2 cks.length c2) rfl
          have HKR := Aside0.mk kr
          have HBL := Aside0.mk HI.out.bel
          clear hWW kr HI
          go_wp2
          refine bodyPost_ret (results_cell_row rfl _ _ (w.heap.size + 1) 32 _ (0, 0) _ rfl HKR.out Tryd.underlying32 rfl info32) rfl ⟨_, _, _, ⟨_, rfl⟩, ?_, ?_⟩
          · exact HWW.out _ (fun k hk => by rw [Below.heap_setCell _ _ _ k (by simp; omega), Below.heap_setCell _ _ _ k (by simp; omega), Below.heap_setCell _ _ _ k (by simp; omega)])
          · exact ((HBL.out.setCell (by simp) _).setCell (by simp) _).setCell (by simp) _
end Go.Proofs.YtlfnnalepdjagaaDoor.C
