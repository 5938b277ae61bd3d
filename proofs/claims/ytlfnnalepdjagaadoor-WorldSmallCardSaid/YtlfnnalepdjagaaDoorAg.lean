/- What Check's closure says of a clock's events. -/
import Derived.OwnWalk
import Derived.BigRegion
import Derived.Deep.Cut
import Derived.Maps.Own
import Derived.Maps.Views
import Derived.Maps.OwnSet
import Derived.Maps.OwnOps
import Derived.Deep.RegionHeld3
import Derived.Test.YtlfnnalepdjagaaDoorAf
namespace Go.Proofs.YtlfnnalepdjagaaDoor.C
open Go.RowKit Go.Shelf Go.Maps Go.Proofs.YtlfnnalepdjagaaDoorW.PrintWords Go.Proofs.YtlfnnalepdjagaaDoorW.PrintLast Go.Proofs.YtlfnnalepdjagaaDoorW.PrintMore
set_option linter.unusedVariables false
set_option linter.unusedSimpArgs false
theorem kd49 : Keyed Tryd.prog 49 := int_keyed Tryd.underlying49
theorem zero3 (w : World) : (zeroValue 3).run Tryd.prog w = .ok (.int .i64 0) w := by kernel_rfl
theorem wf_64 {n : Int} (h0 : -9223372036854775808 ≤ n) (h1 : n ≤ 9223372036854775807) : (Lit.int .i64 n).wf = true := by
  simp [Lit.wf, IntKind.min, IntKind.max, IntKind.bits, IntKind.signed]; omega
/-- The greatest size of an event of a kind. -/
def sizeF (n : Int) : Int := if n = 1 then 10000000000000 else if n = 2 then 10000000000 else 0
def szD : DataW Unit := ((DataW.map []).put (.int .i64 1) (.lit (.int .i64 10000000000000))).put (.int .i64 2) (.lit (.int .i64 10000000000))
theorem szD_at (n : Int) : szD.atKey (.int .i64 n) (.lit (.int .i64 0)) = .lit (.int .i64 (sizeF n)) := by
  unfold szD sizeF
  have h1 : IsMap ((DataW.map [] : DataW Unit).put (.int .i64 1) (.lit (.int .i64 10000000000000))) := isMap_empty.put _ _
  by_cases h2 : n = 2
  · subst h2
    rw [atKey_put_same h1 (show WideAt.IsKeyLit (.int .i64 2) from by simp [WideAt.IsKeyLit])]
    rfl
  · rw [atKey_put_other (fun e => h2 (by injection e with _ e))]
    by_cases h3 : n = 1
    · subst h3
      rw [atKey_put_same isMap_empty (show WideAt.IsKeyLit (.int .i64 1) from by simp [WideAt.IsKeyLit])]
      rfl
    · rw [atKey_put_other (fun e => h3 (by injection e with _ e)), if_neg h3, if_neg h2]
      rfl
set_option maxRecDepth 100000 in
theorem sizes_map (W : World) : ∃ W1 W2, (Instr.mapUpdate 112 (.map (some W.heap.size)) (.int .i64 1) (.int .i64 10000000000000)).run Tryd.prog (W.alloc (.map #[] 0)) = .ok () W1 ∧ (Instr.mapUpdate 112 (.map (some W.heap.size)) (.int .i64 2) (.int .i64 10000000000)).run Tryd.prog W1 = .ok () W2 ∧
    (∀ n : Int, -9223372036854775808 ≤ n → n ≤ 9223372036854775807 → (Instr.lookup 112 (.map (some W.heap.size)) (.int .i64 n) false).run Tryd.prog W2 = .ok (.int .i64 (sizeF n)) W2) ∧ Below W.heap.size W W2 := by
  have hown0 : (W.alloc (.map #[] 0)).ownsMap Tryd.prog 49 (plainElem Tryd.prog 3) W.heap.size 0 (.map []) := World.ownsMap_made (H := Unit) W Tryd.prog 49 (plainElem Tryd.prog 3)
  obtain ⟨W1, r1, o1, g1⟩ := hown0.update kd49 Tryd.underlying112 (by unfold maxLen; omega) (keyOf_int_mk Tryd.underlying49 (wf_64 (n := 1) (by omega) (by omega))) (plainElem_int Tryd.underlying3 (wf_64 (n := 10000000000000) (by omega) (by omega)))
  obtain ⟨W2, r2, o2, g2⟩ := o1.update kd49 Tryd.underlying112 (by unfold maxLen; omega) (keyOf_int_mk Tryd.underlying49 (wf_64 (n := 2) (by omega) (by omega))) (plainElem_int Tryd.underlying3 (wf_64 (n := 10000000000) (by omega) (by omega)))
  refine ⟨W1, W2, r1, r2, fun n h0 h1 => ?_, ?_⟩
  · obtain ⟨v, ps, hrun, hv⟩ := o2.lookup kd49 Tryd.underlying112 (zero3 W2) (plainElem_int Tryd.underlying3 (wf_64 (n := 0) (by omega) (by omega))) (keyOf_int_mk Tryd.underlying49 (wf_64 h0 h1))
    obtain ⟨c, rfl, hc, _⟩ := plainElem_int_inv Tryd.underlying3 hv
    simp only [Prod.mk.injEq] at hc
    have e := hc.1
    rw [show (((DataW.map [] : DataW Unit).put (.int .i64 1) (.lit (.int .i64 10000000000000))).put (.int .i64 2) (.lit (.int .i64 10000000000))) = szD from rfl, szD_at] at e
    injection e with e
    injection e with _ e
    rw [hrun, ← e]
  · exact (((Below.refl _ W).alloc (Nat.le_refl _) _).grown g1 (by simp) (fun k e => by cases e; exact Nat.le_refl _)).grown g2 (by have := g1.size; simp at this; omega) (fun k e => by cases e; exact Nat.le_refl _)
/-- When the event ahead was. -/
def lastOf (es : List T3) : Nat → Int
  | 0 => 0
  | i + 1 => (es.getD i (0, 0, 0)).2.1
def badAt (es : List T3) (i : Nat) : Bool := !inW (es.getD i (0, 0, 0)).1 1 4 || !inW (es.getD i (0, 0, 0)).2.1 (lastOf es i + 1) 1000000 || !inW (es.getD i (0, 0, 0)).2.2 (-sizeF (es.getD i (0, 0, 0)).1) (sizeF (es.getD i (0, 0, 0)).1)
/-- Events are wrong. -/
def badEv (es : List T3) : Bool := (List.range es.length).any (badAt es) || decide (8 < es.length)
theorem badEv_hit {es : List T3} {i : Nat} (hi : i < es.length) (h : badAt es i = true) : badEv es = true := by
  unfold badEv
  rw [List.any_eq_true.2 ⟨i, by simpa using hi, h⟩]; rfl
theorem badEv_miss {es : List T3} (h : ∀ j, j < es.length → badAt es j = false) : badEv es = decide (8 < es.length) := by
  unfold badEv
  rw [List.any_eq_false.2 (fun x hx => by rw [h x (by simpa using hx)]; simp)]; rfl
theorem sizeF_b (n : Int) : 0 ≤ sizeF n ∧ sizeF n ≤ 10000000000000 := by unfold sizeF; split <;> (try split) <;> omega
theorem inW_iff (n a b : Int) : inW n a b = true ↔ a ≤ n ∧ n ≤ b := by unfold inW; simp
theorem last_b {es : List T3} {i : Nat} (h : ∀ j, j < i → badAt es j = false) : -9223372036854775807 ≤ lastOf es i ∧ lastOf es i ≤ 1000000 := by
  rcases i with _ | i
  · simp [lastOf]
  · have h1 := h i (by omega)
    unfold badAt at h1
    simp only [Bool.or_eq_false_iff, Bool.not_eq_false'] at h1
    have h2 := (inW_iff _ _ _).1 h1.1.2
    have hl : ∀ k, k ≤ i → 0 ≤ lastOf es k := by
      intro k
      induction k with
      | zero => intro _; simp [lastOf]
      | succ k ih =>
        intro hk
        have h3 := h k (by omega)
        unfold badAt at h3
        simp only [Bool.or_eq_false_iff, Bool.not_eq_false'] at h3
        have h4 := (inW_iff _ _ _).1 h3.1.2
        have := ih (by omega)
        simp only [lastOf]
        omega
    have := hl i (Nat.le_refl _)
    simp only [lastOf]
    omega
set_option maxHeartbeats 4000000 in
set_option maxRecDepth 100000 in
theorem events_calls (x : Ck) (Ae : Option Addr) (ce : Nat) (w : World) (hC : Kd.C k3 w Ae x.es.length x.es) (hwf : ∀ e ∈ x.es, -9223372036854775808 ≤ e.1 ∧ e.1 ≤ 9223372036854775807) :
    Calls Tryd.prog 63 #[ckV x Ae ce] w fun e w' => e = .returned (.bool (badEv x.es)) ∧ Below w.heap.size w w' := by
  obtain ⟨kd, ph, rt, dr, wh, wk, ht, ch, es⟩ := x
  unfold ckV
  simp only at hC hwf ⊢
  have hlm : es.length ≤ 9223372036854775807 := hC.2.1
  have HC := Aside0.mk hC
  have HWF := Aside0.mk hwf
  have HBE := Aside0.mk (@badEv_hit es)
  have HBM := Aside0.mk (@badEv_miss es)
  obtain ⟨RB, hRB⟩ : ∃ R, badEv es = R := ⟨_, rfl⟩
  rw [hRB] at HBE HBM ⊢
  clear hC hwf hRB
  go_enter Tryd.func63, Tryd.ntmps63
  go_wp2_with fail
  obtain ⟨w1, hw1⟩ : ∃ w1, w.alloc (.cells #[.int .i64 kd, .int .i64 ph, .int .i64 rt, .int .i64 dr, .int .i64 wh, .int .i64 wk, .int .i64 ht, .int .i64 ch, .slice Ae es.length ce] 48) = w1 := ⟨_, rfl⟩
  try rw [hw1]
  have hB : Below w.heap.size w w1 := by rw [← hw1]; exact (Below.refl _ _).alloc (Nat.le_refl _) _
  have ke : w1.cell? ⟨w.heap.size, 8, none⟩ = some (.slice Ae es.length ce) := by rw [← hw1]; exact blk_cell (al_new _ _ _ rfl) 8
  have HB := Aside0.mk hB
  clear hw1 hB
  go_loopw [3, 10] (fun v3 v10 wr => ∃ i : Nat, i ≤ es.length ∧ v10 = .int .i64 i ∧ v3 = .int .i64 (lastOf es i) ∧ Aside0 (∀ j, j < i → badAt es j = false) ∧ Aside0 (Below w1.heap.size w1 wr)) (fun _ v10 _ => es.length - (intOf v10).toNat)
  case atStart => exact ⟨0, by omega, by simp, rfl, ⟨fun j h => by omega⟩, ⟨Below.refl _ _⟩⟩
  case round =>
    obtain ⟨i, hi, rfl, rfl, HG, HI⟩ := hrel
    have HBI : Aside0 (Below w.heap.size w wr) := ⟨HB.out.trans (HI.out.mono HB.out.size)⟩
    by_cases hlt : i < es.length
    · have hd : (i : Int) < (es.length : Int) := by omega
      have hi0 : (0 : Int) ≤ (i : Int) := by omega
      have hwi := C.wr ((i : Int) + 1) (by omega) (by omega)
      obtain ⟨ad, rfl, c0, c1, c2⟩ := C_3 (Kd.C_below HC.out HBI.out) i hlt hlt
      have hwh := HWF.out _ (List.getElem_mem hlt)
      have hlb := last_b HG.out
      have hL1 : lastOf es (i + 1) = (es[i]).2.1 := by rw [lastOf, getD_at hlt]
      have hBA : badAt es i = (!inW (es[i]).1 1 4 || !inW (es[i]).2.1 (lastOf es i + 1) 1000000 || !inW (es[i]).2.2 (-sizeF (es[i]).1) (sizeF (es[i]).1)) := by unfold badAt; rw [getD_at hlt]
      have HL1 := Aside0.mk hL1
      have HBA := Aside0.mk hBA
      have HLT := Aside0.mk hlt
      clear hL1 hBA
      generalize es[i] = z at *
      clear hlt hi
      obtain ⟨za, zb, zc⟩ := z
      simp only at c0 c1 c2 HL1 HBA hwh
      obtain ⟨la, hla⟩ : ∃ la, lastOf es i = la := ⟨_, rfl⟩
      rw [hla] at HBA hlb ⊢
      clear hla
      have hsb := sizeF_b za
      have hs0 := World.block_lt_of_cell? _ _ c0
      obtain ⟨wv, hwv⟩ : ∃ wv, wr.alloc (.cells #[.int .i64 za, .int .i64 zb, .int .i64 zc] 51) = wv := ⟨_, rfl⟩
      have hBv : Below wr.heap.size wr wv := by rw [← hwv]; exact (Below.refl _ _).alloc (Nat.le_refl _) _
      have kv : wv.heap[wr.heap.size]? = some (.cells #[.int .i64 za, .int .i64 zb, .int .i64 zc] 51 (0, 0)) := by rw [← hwv]; exact al_new _ _ _ rfl
      obtain ⟨wm1, wm, m1, m2, m3, hBm⟩ := sizes_map wv
      have m4 := m3 za hwh.1 hwh.2
      have kv2 := blk_on hBm kv
      obtain ⟨sz, hsz⟩ : ∃ sz, sizeF za = sz := ⟨_, rfl⟩
      rw [hsz] at m4 hsb HBA
      have y0 : wm.cell? ⟨wr.heap.size, 0, none⟩ = some (.int .i64 za) := blk_cell kv2 0
      have u1 := C.wr (la + 1) (by omega) (by omega)
      have u2 := C.wr (-sz) (by omega) (by omega)
      have hmm := @run_makeMap Tryd.prog
      clear m3 hsz
      have d1 := fun w => inW_calls za 1 4 w
      have d2 := fun w => inW_calls zb (la + 1) 1000000 w
      have d3 := fun w => inW_calls zc (-sz) sz w
      generalize inW za 1 4 = r1 at *
      generalize inW zb (la + 1) 1000000 = r2 at *
      generalize inW zc (-sz) sz = r3 at *
      have KV := Aside0.mk kv2
      have HBX := Aside0.mk (hBv.trans (hBm.mono hBv.size))
      clear kv2 kv hBm hBv
      go_wp2_with fail
      clear hwv m1 m2 m4 y0
      cases r1
      · skip
        refine (d1 _).mono ?_
        rintro en we1 ⟨rfl, hB⟩
        replace KV := Aside0.mk (blk_on hB KV.out)
        replace HBX := Aside0.mk (HBX.out.trans (hB.mono HBX.out.size))
        clear hB d1
        have HE : Aside0 (RB = true) := ⟨HBE.out HLT.out (by rw [HBA.out]; rfl)⟩
        go_wp2_with fail
        go_ret
        exact ⟨by rw [HE.out]; rfl, HBI.out.trans (HBX.out.mono HBI.out.size)⟩
      · cases r2
        · skip
          refine (d1 _).mono ?_
          rintro en we1 ⟨rfl, hB⟩
          replace KV := Aside0.mk (blk_on hB KV.out)
          replace HBX := Aside0.mk (HBX.out.trans (hB.mono HBX.out.size))
          clear hB d1
          have y1 : we1.cell? ⟨wr.heap.size, 1, none⟩ = some (.int .i64 zb) := blk_cell KV.out 1
          go_wp2_with fail
          clear y1
          refine (d2 _).mono ?_
          rintro en we2 ⟨rfl, hB⟩
          replace KV := Aside0.mk (blk_on hB KV.out)
          replace HBX := Aside0.mk (HBX.out.trans (hB.mono HBX.out.size))
          clear hB d2
          have HE : Aside0 (RB = true) := ⟨HBE.out HLT.out (by rw [HBA.out]; rfl)⟩
          go_wp2_with fail
          go_ret
          exact ⟨by rw [HE.out]; rfl, HBI.out.trans (HBX.out.mono HBI.out.size)⟩
        · cases r3
          · skip
            refine (d1 _).mono ?_
            rintro en we1 ⟨rfl, hB⟩
            replace KV := Aside0.mk (blk_on hB KV.out)
            replace HBX := Aside0.mk (HBX.out.trans (hB.mono HBX.out.size))
            clear hB d1
            have y1 : we1.cell? ⟨wr.heap.size, 1, none⟩ = some (.int .i64 zb) := blk_cell KV.out 1
            go_wp2_with fail
            clear y1
            refine (d2 _).mono ?_
            rintro en we2 ⟨rfl, hB⟩
            replace KV := Aside0.mk (blk_on hB KV.out)
            replace HBX := Aside0.mk (HBX.out.trans (hB.mono HBX.out.size))
            clear hB d2
            have y2 : we2.cell? ⟨wr.heap.size, 2, none⟩ = some (.int .i64 zc) := blk_cell KV.out 2
            go_wp2_with fail
            clear y2
            refine (d3 _).mono ?_
            rintro en we3 ⟨rfl, hB⟩
            replace KV := Aside0.mk (blk_on hB KV.out)
            replace HBX := Aside0.mk (HBX.out.trans (hB.mono HBX.out.size))
            clear hB d3
            have HE : Aside0 (RB = true) := ⟨HBE.out HLT.out (by rw [HBA.out]; rfl)⟩
            go_wp2_with fail
            go_ret
            exact ⟨by rw [HE.out]; rfl, HBI.out.trans (HBX.out.mono HBI.out.size)⟩
          · skip
            refine (d1 _).mono ?_
            rintro en we1 ⟨rfl, hB⟩
            replace KV := Aside0.mk (blk_on hB KV.out)
            replace HBX := Aside0.mk (HBX.out.trans (hB.mono HBX.out.size))
            clear hB d1
            have y1 : we1.cell? ⟨wr.heap.size, 1, none⟩ = some (.int .i64 zb) := blk_cell KV.out 1
            go_wp2_with fail
            clear y1
            refine (d2 _).mono ?_
            rintro en we2 ⟨rfl, hB⟩
            replace KV := Aside0.mk (blk_on hB KV.out)
            replace HBX := Aside0.mk (HBX.out.trans (hB.mono HBX.out.size))
            clear hB d2
            have y2 : we2.cell? ⟨wr.heap.size, 2, none⟩ = some (.int .i64 zc) := blk_cell KV.out 2
            go_wp2_with fail
            clear y2
            refine (d3 _).mono ?_
            rintro en we3 ⟨rfl, hB⟩
            replace KV := Aside0.mk (blk_on hB KV.out)
            replace HBX := Aside0.mk (HBX.out.trans (hB.mono HBX.out.size))
            clear hB d3
            have y1 : we3.cell? ⟨wr.heap.size, 1, none⟩ = some (.int .i64 zb) := blk_cell KV.out 1
            have HG2 : Aside0 (∀ j, j < i + 1 → badAt es j = false) := ⟨fun j hj => by
                by_cases ej : j = i
                · subst ej; rw [HBA.out]; rfl
                · exact HG.out j (by omega)⟩
            go_wp2_with fail
            go_roundw
            case rel => exact ⟨i + 1, by have := HLT.out; omega, by go_num, by rw [HL1.out], HG2, ⟨HI.out.trans (HBX.out.mono HI.out.size)⟩⟩
            case measure => simp [intOf]; have := HLT.out; omega
    · obtain rfl : i = es.length := by omega
      have hd : ¬ (es.length : Int) < (es.length : Int) := by omega
      have ke' := cell_on HI.out ke
      have HE : Aside0 (RB = decide (8 < es.length)) := ⟨HBM.out (fun j hj => HG.out j hj)⟩
      by_cases h8 : (8 : Int) < (es.length : Int)
      · have HE2 : Aside0 (RB = true) := ⟨by rw [HE.out]; exact decide_eq_true (by omega)⟩
        have h8d := decide_eq_true h8
        go_wp2_with fail
        go_ret
        exact ⟨by rw [HE2.out]; rfl, HBI.out⟩
      · have HE2 : Aside0 (RB = false) := ⟨by rw [HE.out]; exact decide_eq_false (by omega)⟩
        have h8d := decide_eq_false h8
        go_wp2_with fail
        go_ret
        exact ⟨by rw [HE2.out]; rfl, HBI.out⟩
end Go.Proofs.YtlfnnalepdjagaaDoor.C
