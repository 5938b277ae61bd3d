/- The contract of found. -/
import Derived.OwnWalk
import Derived.BigRegion
import Derived.Deep.Cut
import Derived.Laws.ResultCell
import Derived.Laws.Rows
import Derived.Deep.RegionHeld3
import Derived.Test.YtlfnnalepdjagaaDoorAi
namespace Go.Proofs.YtlfnnalepdjagaaDoor.C
open Go.RowKit Go.Shelf Go.Maps Go.Proofs.YtlfnnalepdjagaaDoorW.PrintWords Go.Proofs.YtlfnnalepdjagaaDoorW.PrintLast Go.Proofs.YtlfnnalepdjagaaDoorW.PrintMore
set_option linter.unusedVariables false
set_option linter.unusedSimpArgs false
set_option maxHeartbeats 4000000 in
set_option maxRecDepth 100000 in
theorem found_err (seed : Int) (Ah : Option Addr) (chc : Nat) (Ak : Option Addr) (ckc : Nat) (chs : List T3) (cks : List Ck) (k s : Int) (w : World) (hL : Lim w) (hW : WAt 51 w Ah Ak chs cks) (hwf : WfK cks) (hE : errS chs cks k s ≠ 0) :
    Calls Tryd.prog 55 #[woV seed Ah chs.length chc Ak cks.length ckc, .int .i64 k, .int .i64 s] w fun e w' => ∃ (x : Ck) (Ae : Option Addr) (ce : Nat) (sd : Int) (Ah2 Ak2 : Option Addr) (nh2 ch2 nk2 ck2 : Nat) (kk : Int), e = .returned (.tuple #[wkV x Ae ce sd (.slice Ah2 nh2 ch2) (.slice Ak2 nk2 ck2) kk, .int .i64 (errS chs cks k s)]) ∧ Below w.heap.size w w' := by
  obtain ⟨w1, hw1⟩ : ∃ w1, (w.alloc (.cells #[.int .u64 seed, .slice Ah chs.length chc, .slice Ak cks.length ckc] 32)).alloc (.cells #[.int .i64 0, .int .i64 0, .int .i64 0, .int .i64 0, .int .i64 0, .int .i64 0, .int .i64 0, .int .i64 0, .slice none 0 0, .int .u64 0, .slice none 0 0, .slice none 0 0, .int .i64 0] 97) = w1 := ⟨_, rfl⟩
  have hB : Below w.heap.size w w1 := by rw [← hw1]; exact ((Below.refl _ _).alloc (Nat.le_refl _) _).alloc (by simp) _
  have kr : w1.heap[w.heap.size + 1]? = some (.cells #[.int .i64 0, .int .i64 0, .int .i64 0, .int .i64 0, .int .i64 0, .int .i64 0, .int .i64 0, .int .i64 0, .slice none 0 0, .int .u64 0, .slice none 0 0, .slice none 0 0, .int .i64 0] 97 (0, 0)) := by rw [← hw1]; exact al_new _ _ _ (by simp)
  have kb : w1.heap[w.heap.size]? = some (.cells #[.int .u64 seed, .slice Ah chs.length chc, .slice Ak cks.length ckc] 32 (0, 0)) := by rw [← hw1]; exact al_old (al_new _ _ _ rfl)
  have x0 : w1.cell? ⟨w.heap.size, 0, none⟩ = some (.int .u64 seed) := blk_cell kb 0
  have x1 : w1.cell? ⟨w.heap.size, 1, none⟩ = some (.slice Ah chs.length chc) := blk_cell kb 1
  have x2 : w1.cell? ⟨w.heap.size, 2, none⟩ = some (.slice Ak cks.length ckc) := blk_cell kb 2
  have HKR := Aside0.mk kr
  have HV := Aside0.mk hB
  have c2 := fun w => timed_calls s w
  clear kr hB kb
  unfold errS at *
  by_cases hc : errK chs cks k = 0
  · rw [if_pos hc] at hE ⊢
    have c1 := fun (W : World) (hB2 : Below w.heap.size w W) => find_ok seed Ah chc Ak ckc chs cks k W (hL.below hB2) hwf w hB2 hW hc
    obtain ⟨T, hT⟩ : ∃ T, timedF s = T := ⟨_, rfl⟩
    rw [hT] at hE c2 ⊢
    clear hL hW hwf hc hT
    unfold woV at *
    go_enter Tryd.func55, Tryd.ntmps55
    go_wp2_with fail
    try rw [hw1]
    refine (c1 _ HV.out).mono ?_
    rintro en w2 ⟨i, hi, Ae, ce, rfl, rfl, hCe, hB⟩
    replace HKR := Aside0.mk (blk_on hB HKR.out)
    replace HV := Aside0.mk (HV.out.trans (hB.mono HV.out.size))
    clear hB c1 hCe x0 x1 x2
    generalize cks[i] = z at *
    obtain ⟨kd, ph, rt, dr, wh, wk, ht, ch, es⟩ := z
    obtain ⟨sd, hsd⟩ : ∃ sd, seed = sd := ⟨_, rfl⟩
    obtain ⟨kk, hkk⟩ : ∃ kk, (i : Int) = kk := ⟨_, rfl⟩
    unfold wkV
    simp only [hsd, hkk]
    obtain ⟨w3, hw3⟩ : ∃ w3, w2.alloc (.cells #[.int .i64 kd, .int .i64 ph, .int .i64 rt, .int .i64 dr, .int .i64 wh, .int .i64 wk, .int .i64 ht, .int .i64 ch, .slice Ae es.length ce, .int .u64 sd, .slice Ah chs.length chc, .slice Ak cks.length ckc, .int .i64 kk] 97) = w3 := ⟨_, rfl⟩
    have hB3 : Below w2.heap.size w2 w3 := by rw [← hw3]; exact (Below.refl _ _).alloc (Nat.le_refl _) _
    have ky : w3.heap[w2.heap.size]? = some (.cells #[.int .i64 kd, .int .i64 ph, .int .i64 rt, .int .i64 dr, .int .i64 wh, .int .i64 wk, .int .i64 ht, .int .i64 ch, .slice Ae es.length ce, .int .u64 sd, .slice Ah chs.length chc, .slice Ak cks.length ckc, .int .i64 kk] 97 (0, 0)) := by rw [← hw3]; exact al_new _ _ _ rfl
    replace HKR := Aside0.mk (blk_on hB3 HKR.out)
    replace HV := Aside0.mk (HV.out.trans (hB3.mono HV.out.size))
    have HKY := Aside0.mk ky
    clear ky hB3
    go_wp2_with fail
    try rw [hw3]
    refine (c2 _).mono ?_
    rintro en w4 ⟨rfl, hB⟩
    replace HKR := Aside0.mk (blk_on hB HKR.out)
    replace HKY := Aside0.mk (blk_on hB HKY.out)
    replace HV := Aside0.mk (HV.out.trans (hB.mono HV.out.size))
    clear hB c2
    have y0 : w4.cell? ⟨w2.heap.size, 0, none⟩ = some (.int .i64 kd) := blk_cell HKY.out 0
    have y1 : w4.cell? ⟨w2.heap.size, 1, none⟩ = some (.int .i64 ph) := blk_cell HKY.out 1
    have y2 : w4.cell? ⟨w2.heap.size, 2, none⟩ = some (.int .i64 rt) := blk_cell HKY.out 2
    have y3 : w4.cell? ⟨w2.heap.size, 3, none⟩ = some (.int .i64 dr) := blk_cell HKY.out 3
    have y4 : w4.cell? ⟨w2.heap.size, 4, none⟩ = some (.int .i64 wh) := blk_cell HKY.out 4
    have y5 : w4.cell? ⟨w2.heap.size, 5, none⟩ = some (.int .i64 wk) := blk_cell HKY.out 5
    have y6 : w4.cell? ⟨w2.heap.size, 6, none⟩ = some (.int .i64 ht) := blk_cell HKY.out 6
    have y7 : w4.cell? ⟨w2.heap.size, 7, none⟩ = some (.int .i64 ch) := blk_cell HKY.out 7
    have y8 : w4.cell? ⟨w2.heap.size, 8, none⟩ = some (.slice Ae es.length ce) := blk_cell HKY.out 8
    have y9 : w4.cell? ⟨w2.heap.size, 9, none⟩ = some (.int .u64 sd) := blk_cell HKY.out 9
    have y10 : w4.cell? ⟨w2.heap.size, 10, none⟩ = some (.slice Ah chs.length chc) := blk_cell HKY.out 10
    have y11 : w4.cell? ⟨w2.heap.size, 11, none⟩ = some (.slice Ak cks.length ckc) := blk_cell HKY.out 11
    have y12 : w4.cell? ⟨w2.heap.size, 12, none⟩ = some (.int .i64 kk) := blk_cell HKY.out 12
    have z0 : w4.cell? ⟨w.heap.size + 1, 0, none⟩ = some (.int .i64 0) := blk_cell HKR.out 0
    have z1 : w4.cell? ⟨w.heap.size + 1, 1, none⟩ = some (.int .i64 0) := blk_cell HKR.out 1
    have z2 : w4.cell? ⟨w.heap.size + 1, 2, none⟩ = some (.int .i64 0) := blk_cell HKR.out 2
    have z3 : w4.cell? ⟨w.heap.size + 1, 3, none⟩ = some (.int .i64 0) := blk_cell HKR.out 3
    have z4 : w4.cell? ⟨w.heap.size + 1, 4, none⟩ = some (.int .i64 0) := blk_cell HKR.out 4
    have z5 : w4.cell? ⟨w.heap.size + 1, 5, none⟩ = some (.int .i64 0) := blk_cell HKR.out 5
    have z6 : w4.cell? ⟨w.heap.size + 1, 6, none⟩ = some (.int .i64 0) := blk_cell HKR.out 6
    have z7 : w4.cell? ⟨w.heap.size + 1, 7, none⟩ = some (.int .i64 0) := blk_cell HKR.out 7
    have z8 : w4.cell? ⟨w.heap.size + 1, 8, none⟩ = some (.slice none 0 0) := blk_cell HKR.out 8
    have z9 : w4.cell? ⟨w.heap.size + 1, 9, none⟩ = some (.int .u64 0) := blk_cell HKR.out 9
    have z10 : w4.cell? ⟨w.heap.size + 1, 10, none⟩ = some (.slice none 0 0) := blk_cell HKR.out 10
    have z11 : w4.cell? ⟨w.heap.size + 1, 11, none⟩ = some (.slice none 0 0) := blk_cell HKR.out 11
    have z12 : w4.cell? ⟨w.heap.size + 1, 12, none⟩ = some (.int .i64 0) := blk_cell HKR.out 12
    have q0 := blk_frozen HKR.out 0
    have q1 := blk_frozen HKR.out 1
    have q2 := blk_frozen HKR.out 2
    have q3 := blk_frozen HKR.out 3
    have q4 := blk_frozen HKR.out 4
    have q5 := blk_frozen HKR.out 5
    have q6 := blk_frozen HKR.out 6
    have q7 := blk_frozen HKR.out 7
    have q8 := blk_frozen HKR.out 8
    have q9 := blk_frozen HKR.out 9
    have q10 := blk_frozen HKR.out 10
    have q11 := blk_frozen HKR.out 11
    have q12 := blk_frozen HKR.out 12
    go_wp2_with fail
    clear y0 z0 q0 y1 z1 q1 y2 z2 q2 y3 z3 q3 y4 z4 q4 y5 z5 q5 y6 z6 q6 y7 z7 q7 y8 z8 q8 y9 z9 q9 y10 z10 q10 y11 z11 q11 y12 z12 q12
    have fk0 : (w4.setCell ⟨w.heap.size + 1, 0, none⟩ (.int .i64 kd)).heap[w.heap.size + 1]? = some (.cells #[.int .i64 kd, .int .i64 0, .int .i64 0, .int .i64 0, .int .i64 0, .int .i64 0, .int .i64 0, .int .i64 0, .slice none 0 0, .int .u64 0, .slice none 0 0, .slice none 0 0, .int .i64 0] 97 (0, 0)) := blk_put HKR.out 0 _ rfl
    have fb0 := (HV.out).setCell (show w.heap.size ≤ w.heap.size + 1 from by omega) (p := ⟨w.heap.size + 1, 0, none⟩) (.int .i64 kd)
    have fk1 : ((w4.setCell ⟨w.heap.size + 1, 0, none⟩ (.int .i64 kd)).setCell ⟨w.heap.size + 1, 1, none⟩ (.int .i64 ph)).heap[w.heap.size + 1]? = some (.cells #[.int .i64 kd, .int .i64 ph, .int .i64 0, .int .i64 0, .int .i64 0, .int .i64 0, .int .i64 0, .int .i64 0, .slice none 0 0, .int .u64 0, .slice none 0 0, .slice none 0 0, .int .i64 0] 97 (0, 0)) := blk_put fk0 1 _ rfl
    have fb1 := (fb0).setCell (show w.heap.size ≤ w.heap.size + 1 from by omega) (p := ⟨w.heap.size + 1, 1, none⟩) (.int .i64 ph)
    clear fk0 fb0
    have fk2 : (((w4.setCell ⟨w.heap.size + 1, 0, none⟩ (.int .i64 kd)).setCell ⟨w.heap.size + 1, 1, none⟩ (.int .i64 ph)).setCell ⟨w.heap.size + 1, 2, none⟩ (.int .i64 rt)).heap[w.heap.size + 1]? = some (.cells #[.int .i64 kd, .int .i64 ph, .int .i64 rt, .int .i64 0, .int .i64 0, .int .i64 0, .int .i64 0, .int .i64 0, .slice none 0 0, .int .u64 0, .slice none 0 0, .slice none 0 0, .int .i64 0] 97 (0, 0)) := blk_put fk1 2 _ rfl
    have fb2 := (fb1).setCell (show w.heap.size ≤ w.heap.size + 1 from by omega) (p := ⟨w.heap.size + 1, 2, none⟩) (.int .i64 rt)
    clear fk1 fb1
    have fk3 : ((((w4.setCell ⟨w.heap.size + 1, 0, none⟩ (.int .i64 kd)).setCell ⟨w.heap.size + 1, 1, none⟩ (.int .i64 ph)).setCell ⟨w.heap.size + 1, 2, none⟩ (.int .i64 rt)).setCell ⟨w.heap.size + 1, 3, none⟩ (.int .i64 dr)).heap[w.heap.size + 1]? = some (.cells #[.int .i64 kd, .int .i64 ph, .int .i64 rt, .int .i64 dr, .int .i64 0, .int .i64 0, .int .i64 0, .int .i64 0, .slice none 0 0, .int .u64 0, .slice none 0 0, .slice none 0 0, .int .i64 0] 97 (0, 0)) := blk_put fk2 3 _ rfl
    have fb3 := (fb2).setCell (show w.heap.size ≤ w.heap.size + 1 from by omega) (p := ⟨w.heap.size + 1, 3, none⟩) (.int .i64 dr)
    clear fk2 fb2
    have fk4 : (((((w4.setCell ⟨w.heap.size + 1, 0, none⟩ (.int .i64 kd)).setCell ⟨w.heap.size + 1, 1, none⟩ (.int .i64 ph)).setCell ⟨w.heap.size + 1, 2, none⟩ (.int .i64 rt)).setCell ⟨w.heap.size + 1, 3, none⟩ (.int .i64 dr)).setCell ⟨w.heap.size + 1, 4, none⟩ (.int .i64 wh)).heap[w.heap.size + 1]? = some (.cells #[.int .i64 kd, .int .i64 ph, .int .i64 rt, .int .i64 dr, .int .i64 wh, .int .i64 0, .int .i64 0, .int .i64 0, .slice none 0 0, .int .u64 0, .slice none 0 0, .slice none 0 0, .int .i64 0] 97 (0, 0)) := blk_put fk3 4 _ rfl
    have fb4 := (fb3).setCell (show w.heap.size ≤ w.heap.size + 1 from by omega) (p := ⟨w.heap.size + 1, 4, none⟩) (.int .i64 wh)
    clear fk3 fb3
    have fk5 : ((((((w4.setCell ⟨w.heap.size + 1, 0, none⟩ (.int .i64 kd)).setCell ⟨w.heap.size + 1, 1, none⟩ (.int .i64 ph)).setCell ⟨w.heap.size + 1, 2, none⟩ (.int .i64 rt)).setCell ⟨w.heap.size + 1, 3, none⟩ (.int .i64 dr)).setCell ⟨w.heap.size + 1, 4, none⟩ (.int .i64 wh)).setCell ⟨w.heap.size + 1, 5, none⟩ (.int .i64 wk)).heap[w.heap.size + 1]? = some (.cells #[.int .i64 kd, .int .i64 ph, .int .i64 rt, .int .i64 dr, .int .i64 wh, .int .i64 wk, .int .i64 0, .int .i64 0, .slice none 0 0, .int .u64 0, .slice none 0 0, .slice none 0 0, .int .i64 0] 97 (0, 0)) := blk_put fk4 5 _ rfl
    have fb5 := (fb4).setCell (show w.heap.size ≤ w.heap.size + 1 from by omega) (p := ⟨w.heap.size + 1, 5, none⟩) (.int .i64 wk)
    clear fk4 fb4
    have fk6 : (((((((w4.setCell ⟨w.heap.size + 1, 0, none⟩ (.int .i64 kd)).setCell ⟨w.heap.size + 1, 1, none⟩ (.int .i64 ph)).setCell ⟨w.heap.size + 1, 2, none⟩ (.int .i64 rt)).setCell ⟨w.heap.size + 1, 3, none⟩ (.int .i64 dr)).setCell ⟨w.heap.size + 1, 4, none⟩ (.int .i64 wh)).setCell ⟨w.heap.size + 1, 5, none⟩ (.int .i64 wk)).setCell ⟨w.heap.size + 1, 6, none⟩ (.int .i64 ht)).heap[w.heap.size + 1]? = some (.cells #[.int .i64 kd, .int .i64 ph, .int .i64 rt, .int .i64 dr, .int .i64 wh, .int .i64 wk, .int .i64 ht, .int .i64 0, .slice none 0 0, .int .u64 0, .slice none 0 0, .slice none 0 0, .int .i64 0] 97 (0, 0)) := blk_put fk5 6 _ rfl
    have fb6 := (fb5).setCell (show w.heap.size ≤ w.heap.size + 1 from by omega) (p := ⟨w.heap.size + 1, 6, none⟩) (.int .i64 ht)
    clear fk5 fb5
    have fk7 : ((((((((w4.setCell ⟨w.heap.size + 1, 0, none⟩ (.int .i64 kd)).setCell ⟨w.heap.size + 1, 1, none⟩ (.int .i64 ph)).setCell ⟨w.heap.size + 1, 2, none⟩ (.int .i64 rt)).setCell ⟨w.heap.size + 1, 3, none⟩ (.int .i64 dr)).setCell ⟨w.heap.size + 1, 4, none⟩ (.int .i64 wh)).setCell ⟨w.heap.size + 1, 5, none⟩ (.int .i64 wk)).setCell ⟨w.heap.size + 1, 6, none⟩ (.int .i64 ht)).setCell ⟨w.heap.size + 1, 7, none⟩ (.int .i64 ch)).heap[w.heap.size + 1]? = some (.cells #[.int .i64 kd, .int .i64 ph, .int .i64 rt, .int .i64 dr, .int .i64 wh, .int .i64 wk, .int .i64 ht, .int .i64 ch, .slice none 0 0, .int .u64 0, .slice none 0 0, .slice none 0 0, .int .i64 0] 97 (0, 0)) := blk_put fk6 7 _ rfl
    have fb7 := (fb6).setCell (show w.heap.size ≤ w.heap.size + 1 from by omega) (p := ⟨w.heap.size + 1, 7, none⟩) (.int .i64 ch)
    clear fk6 fb6
    have fk8 : (((((((((w4.setCell ⟨w.heap.size + 1, 0, none⟩ (.int .i64 kd)).setCell ⟨w.heap.size + 1, 1, none⟩ (.int .i64 ph)).setCell ⟨w.heap.size + 1, 2, none⟩ (.int .i64 rt)).setCell ⟨w.heap.size + 1, 3, none⟩ (.int .i64 dr)).setCell ⟨w.heap.size + 1, 4, none⟩ (.int .i64 wh)).setCell ⟨w.heap.size + 1, 5, none⟩ (.int .i64 wk)).setCell ⟨w.heap.size + 1, 6, none⟩ (.int .i64 ht)).setCell ⟨w.heap.size + 1, 7, none⟩ (.int .i64 ch)).setCell ⟨w.heap.size + 1, 8, none⟩ (.slice Ae es.length ce)).heap[w.heap.size + 1]? = some (.cells #[.int .i64 kd, .int .i64 ph, .int .i64 rt, .int .i64 dr, .int .i64 wh, .int .i64 wk, .int .i64 ht, .int .i64 ch, .slice Ae es.length ce, .int .u64 0, .slice none 0 0, .slice none 0 0, .int .i64 0] 97 (0, 0)) := blk_put fk7 8 _ rfl
    have fb8 := (fb7).setCell (show w.heap.size ≤ w.heap.size + 1 from by omega) (p := ⟨w.heap.size + 1, 8, none⟩) (.slice Ae es.length ce)
    clear fk7 fb7
    have fk9 : ((((((((((w4.setCell ⟨w.heap.size + 1, 0, none⟩ (.int .i64 kd)).setCell ⟨w.heap.size + 1, 1, none⟩ (.int .i64 ph)).setCell ⟨w.heap.size + 1, 2, none⟩ (.int .i64 rt)).setCell ⟨w.heap.size + 1, 3, none⟩ (.int .i64 dr)).setCell ⟨w.heap.size + 1, 4, none⟩ (.int .i64 wh)).setCell ⟨w.heap.size + 1, 5, none⟩ (.int .i64 wk)).setCell ⟨w.heap.size + 1, 6, none⟩ (.int .i64 ht)).setCell ⟨w.heap.size + 1, 7, none⟩ (.int .i64 ch)).setCell ⟨w.heap.size + 1, 8, none⟩ (.slice Ae es.length ce)).setCell ⟨w.heap.size + 1, 9, none⟩ (.int .u64 sd)).heap[w.heap.size + 1]? = some (.cells #[.int .i64 kd, .int .i64 ph, .int .i64 rt, .int .i64 dr, .int .i64 wh, .int .i64 wk, .int .i64 ht, .int .i64 ch, .slice Ae es.length ce, .int .u64 sd, .slice none 0 0, .slice none 0 0, .int .i64 0] 97 (0, 0)) := blk_put fk8 9 _ rfl
    have fb9 := (fb8).setCell (show w.heap.size ≤ w.heap.size + 1 from by omega) (p := ⟨w.heap.size + 1, 9, none⟩) (.int .u64 sd)
    clear fk8 fb8
    have fk10 : (((((((((((w4.setCell ⟨w.heap.size + 1, 0, none⟩ (.int .i64 kd)).setCell ⟨w.heap.size + 1, 1, none⟩ (.int .i64 ph)).setCell ⟨w.heap.size + 1, 2, none⟩ (.int .i64 rt)).setCell ⟨w.heap.size + 1, 3, none⟩ (.int .i64 dr)).setCell ⟨w.heap.size + 1, 4, none⟩ (.int .i64 wh)).setCell ⟨w.heap.size + 1, 5, none⟩ (.int .i64 wk)).setCell ⟨w.heap.size + 1, 6, none⟩ (.int .i64 ht)).setCell ⟨w.heap.size + 1, 7, none⟩ (.int .i64 ch)).setCell ⟨w.heap.size + 1, 8, none⟩ (.slice Ae es.length ce)).setCell ⟨w.heap.size + 1, 9, none⟩ (.int .u64 sd)).setCell ⟨w.heap.size + 1, 10, none⟩ (.slice Ah chs.length chc)).heap[w.heap.size + 1]? = some (.cells #[.int .i64 kd, .int .i64 ph, .int .i64 rt, .int .i64 dr, .int .i64 wh, .int .i64 wk, .int .i64 ht, .int .i64 ch, .slice Ae es.length ce, .int .u64 sd, .slice Ah chs.length chc, .slice none 0 0, .int .i64 0] 97 (0, 0)) := blk_put fk9 10 _ rfl
    have fb10 := (fb9).setCell (show w.heap.size ≤ w.heap.size + 1 from by omega) (p := ⟨w.heap.size + 1, 10, none⟩) (.slice Ah chs.length chc)
    clear fk9 fb9
    have fk11 : ((((((((((((w4.setCell ⟨w.heap.size + 1, 0, none⟩ (.int .i64 kd)).setCell ⟨w.heap.size + 1, 1, none⟩ (.int .i64 ph)).setCell ⟨w.heap.size + 1, 2, none⟩ (.int .i64 rt)).setCell ⟨w.heap.size + 1, 3, none⟩ (.int .i64 dr)).setCell ⟨w.heap.size + 1, 4, none⟩ (.int .i64 wh)).setCell ⟨w.heap.size + 1, 5, none⟩ (.int .i64 wk)).setCell ⟨w.heap.size + 1, 6, none⟩ (.int .i64 ht)).setCell ⟨w.heap.size + 1, 7, none⟩ (.int .i64 ch)).setCell ⟨w.heap.size + 1, 8, none⟩ (.slice Ae es.length ce)).setCell ⟨w.heap.size + 1, 9, none⟩ (.int .u64 sd)).setCell ⟨w.heap.size + 1, 10, none⟩ (.slice Ah chs.length chc)).setCell ⟨w.heap.size + 1, 11, none⟩ (.slice Ak cks.length ckc)).heap[w.heap.size + 1]? = some (.cells #[.int .i64 kd, .int .i64 ph, .int .i64 rt, .int .i64 dr, .int .i64 wh, .int .i64 wk, .int .i64 ht, .int .i64 ch, .slice Ae es.length ce, .int .u64 sd, .slice Ah chs.length chc, .slice Ak cks.length ckc, .int .i64 0] 97 (0, 0)) := blk_put fk10 11 _ rfl
    have fb11 := (fb10).setCell (show w.heap.size ≤ w.heap.size + 1 from by omega) (p := ⟨w.heap.size + 1, 11, none⟩) (.slice Ak cks.length ckc)
    clear fk10 fb10
    have fk12 : (((((((((((((w4.setCell ⟨w.heap.size + 1, 0, none⟩ (.int .i64 kd)).setCell ⟨w.heap.size + 1, 1, none⟩ (.int .i64 ph)).setCell ⟨w.heap.size + 1, 2, none⟩ (.int .i64 rt)).setCell ⟨w.heap.size + 1, 3, none⟩ (.int .i64 dr)).setCell ⟨w.heap.size + 1, 4, none⟩ (.int .i64 wh)).setCell ⟨w.heap.size + 1, 5, none⟩ (.int .i64 wk)).setCell ⟨w.heap.size + 1, 6, none⟩ (.int .i64 ht)).setCell ⟨w.heap.size + 1, 7, none⟩ (.int .i64 ch)).setCell ⟨w.heap.size + 1, 8, none⟩ (.slice Ae es.length ce)).setCell ⟨w.heap.size + 1, 9, none⟩ (.int .u64 sd)).setCell ⟨w.heap.size + 1, 10, none⟩ (.slice Ah chs.length chc)).setCell ⟨w.heap.size + 1, 11, none⟩ (.slice Ak cks.length ckc)).setCell ⟨w.heap.size + 1, 12, none⟩ (.int .i64 kk)).heap[w.heap.size + 1]? = some (.cells #[.int .i64 kd, .int .i64 ph, .int .i64 rt, .int .i64 dr, .int .i64 wh, .int .i64 wk, .int .i64 ht, .int .i64 ch, .slice Ae es.length ce, .int .u64 sd, .slice Ah chs.length chc, .slice Ak cks.length ckc, .int .i64 kk] 97 (0, 0)) := blk_put fk11 12 _ rfl
    have fb12 := (fb11).setCell (show w.heap.size ≤ w.heap.size + 1 from by omega) (p := ⟨w.heap.size + 1, 12, none⟩) (.int .i64 kk)
    clear fk11 fb11
    refine bodyPost_ret (results_row_tmp rfl _ _ (w.heap.size + 1) 97 _ (0, 0) _ rfl fk12 Tryd.underlying97 rfl info97) rfl ?_
    exact ⟨⟨kd, ph, rt, dr, wh, wk, ht, ch, es⟩, Ae, ce, sd, Ah, Ak, chs.length, chc, cks.length, ckc, kk, rfl, fb12⟩
  · rw [if_neg hc] at hE ⊢
    have c1 := fun (W : World) (hB2 : Below w.heap.size w W) => find_err seed Ah chc Ak ckc chs cks k W (hL.below hB2) (hW.below hB2) hwf hc
    obtain ⟨E, hEE⟩ : ∃ E, errK chs cks k = E := ⟨_, rfl⟩
    rw [hEE] at hE c1 hc ⊢
    have q := beq_eq_false_iff_ne.2 hc
    clear hL hW hwf hEE
    unfold woV at *
    unfold wkZ at c1
    go_enter Tryd.func55, Tryd.ntmps55
    go_wp2_with fail
    try rw [hw1]
    refine (c1 _ HV.out).mono ?_
    rintro en w2 ⟨rfl, hB⟩
    replace HKR := Aside0.mk (blk_on hB HKR.out)
    replace HV := Aside0.mk (HV.out.trans (hB.mono HV.out.size))
    clear hB c1 x0 x1 x2
    go_upto_region 4 with fail
    obtain ⟨w3, hw3⟩ : ∃ w3, w2.alloc (.cells #[.int .i64 0, .int .i64 0, .int .i64 0, .int .i64 0, .int .i64 0, .int .i64 0, .int .i64 0, .int .i64 0, .slice none 0 0, .int .u64 0, .slice none 0 0, .slice none 0 0, .int .i64 0] 97) = w3 := ⟨_, rfl⟩
    have hB3 : Below w2.heap.size w2 w3 := by rw [← hw3]; exact (Below.refl _ _).alloc (Nat.le_refl _) _
    have ky : w3.heap[w2.heap.size]? = some (.cells #[.int .i64 0, .int .i64 0, .int .i64 0, .int .i64 0, .int .i64 0, .int .i64 0, .int .i64 0, .int .i64 0, .slice none 0 0, .int .u64 0, .slice none 0 0, .slice none 0 0, .int .i64 0] 97 (0, 0)) := by rw [← hw3]; exact al_new _ _ _ rfl
    replace HKR := Aside0.mk (blk_on hB3 HKR.out)
    replace HV := Aside0.mk (HV.out.trans (hB3.mono HV.out.size))
    have HKY := Aside0.mk ky
    clear ky hB3
    try rw [hw3]
    have y0 : w3.cell? ⟨w2.heap.size, 0, none⟩ = some (.int .i64 0) := blk_cell HKY.out 0
    have y1 : w3.cell? ⟨w2.heap.size, 1, none⟩ = some (.int .i64 0) := blk_cell HKY.out 1
    have y2 : w3.cell? ⟨w2.heap.size, 2, none⟩ = some (.int .i64 0) := blk_cell HKY.out 2
    have y3 : w3.cell? ⟨w2.heap.size, 3, none⟩ = some (.int .i64 0) := blk_cell HKY.out 3
    have y4 : w3.cell? ⟨w2.heap.size, 4, none⟩ = some (.int .i64 0) := blk_cell HKY.out 4
    have y5 : w3.cell? ⟨w2.heap.size, 5, none⟩ = some (.int .i64 0) := blk_cell HKY.out 5
    have y6 : w3.cell? ⟨w2.heap.size, 6, none⟩ = some (.int .i64 0) := blk_cell HKY.out 6
    have y7 : w3.cell? ⟨w2.heap.size, 7, none⟩ = some (.int .i64 0) := blk_cell HKY.out 7
    have y8 : w3.cell? ⟨w2.heap.size, 8, none⟩ = some (.slice none 0 0) := blk_cell HKY.out 8
    have y9 : w3.cell? ⟨w2.heap.size, 9, none⟩ = some (.int .u64 0) := blk_cell HKY.out 9
    have y10 : w3.cell? ⟨w2.heap.size, 10, none⟩ = some (.slice none 0 0) := blk_cell HKY.out 10
    have y11 : w3.cell? ⟨w2.heap.size, 11, none⟩ = some (.slice none 0 0) := blk_cell HKY.out 11
    have y12 : w3.cell? ⟨w2.heap.size, 12, none⟩ = some (.int .i64 0) := blk_cell HKY.out 12
    have z0 : w3.cell? ⟨w.heap.size + 1, 0, none⟩ = some (.int .i64 0) := blk_cell HKR.out 0
    have z1 : w3.cell? ⟨w.heap.size + 1, 1, none⟩ = some (.int .i64 0) := blk_cell HKR.out 1
    have z2 : w3.cell? ⟨w.heap.size + 1, 2, none⟩ = some (.int .i64 0) := blk_cell HKR.out 2
    have z3 : w3.cell? ⟨w.heap.size + 1, 3, none⟩ = some (.int .i64 0) := blk_cell HKR.out 3
    have z4 : w3.cell? ⟨w.heap.size + 1, 4, none⟩ = some (.int .i64 0) := blk_cell HKR.out 4
    have z5 : w3.cell? ⟨w.heap.size + 1, 5, none⟩ = some (.int .i64 0) := blk_cell HKR.out 5
    have z6 : w3.cell? ⟨w.heap.size + 1, 6, none⟩ = some (.int .i64 0) := blk_cell HKR.out 6
    have z7 : w3.cell? ⟨w.heap.size + 1, 7, none⟩ = some (.int .i64 0) := blk_cell HKR.out 7
    have z8 : w3.cell? ⟨w.heap.size + 1, 8, none⟩ = some (.slice none 0 0) := blk_cell HKR.out 8
    have z9 : w3.cell? ⟨w.heap.size + 1, 9, none⟩ = some (.int .u64 0) := blk_cell HKR.out 9
    have z10 : w3.cell? ⟨w.heap.size + 1, 10, none⟩ = some (.slice none 0 0) := blk_cell HKR.out 10
    have z11 : w3.cell? ⟨w.heap.size + 1, 11, none⟩ = some (.slice none 0 0) := blk_cell HKR.out 11
    have z12 : w3.cell? ⟨w.heap.size + 1, 12, none⟩ = some (.int .i64 0) := blk_cell HKR.out 12
    have q0 := blk_frozen HKR.out 0
    have q1 := blk_frozen HKR.out 1
    have q2 := blk_frozen HKR.out 2
    have q3 := blk_frozen HKR.out 3
    have q4 := blk_frozen HKR.out 4
    have q5 := blk_frozen HKR.out 5
    have q6 := blk_frozen HKR.out 6
    have q7 := blk_frozen HKR.out 7
    have q8 := blk_frozen HKR.out 8
    have q9 := blk_frozen HKR.out 9
    have q10 := blk_frozen HKR.out 10
    have q11 := blk_frozen HKR.out 11
    have q12 := blk_frozen HKR.out 12
    go_wp2_with fail
    clear y0 z0 q0 y1 z1 q1 y2 z2 q2 y3 z3 q3 y4 z4 q4 y5 z5 q5 y6 z6 q6 y7 z7 q7 y8 z8 q8 y9 z9 q9 y10 z10 q10 y11 z11 q11 y12 z12 q12
    have fk0 : (w3.setCell ⟨w.heap.size + 1, 0, none⟩ (.int .i64 0)).heap[w.heap.size + 1]? = some (.cells #[.int .i64 0, .int .i64 0, .int .i64 0, .int .i64 0, .int .i64 0, .int .i64 0, .int .i64 0, .int .i64 0, .slice none 0 0, .int .u64 0, .slice none 0 0, .slice none 0 0, .int .i64 0] 97 (0, 0)) := blk_put HKR.out 0 _ rfl
    have fb0 := (HV.out).setCell (show w.heap.size ≤ w.heap.size + 1 from by omega) (p := ⟨w.heap.size + 1, 0, none⟩) (.int .i64 0)
    have fk1 : ((w3.setCell ⟨w.heap.size + 1, 0, none⟩ (.int .i64 0)).setCell ⟨w.heap.size + 1, 1, none⟩ (.int .i64 0)).heap[w.heap.size + 1]? = some (.cells #[.int .i64 0, .int .i64 0, .int .i64 0, .int .i64 0, .int .i64 0, .int .i64 0, .int .i64 0, .int .i64 0, .slice none 0 0, .int .u64 0, .slice none 0 0, .slice none 0 0, .int .i64 0] 97 (0, 0)) := blk_put fk0 1 _ rfl
    have fb1 := (fb0).setCell (show w.heap.size ≤ w.heap.size + 1 from by omega) (p := ⟨w.heap.size + 1, 1, none⟩) (.int .i64 0)
    clear fk0 fb0
    have fk2 : (((w3.setCell ⟨w.heap.size + 1, 0, none⟩ (.int .i64 0)).setCell ⟨w.heap.size + 1, 1, none⟩ (.int .i64 0)).setCell ⟨w.heap.size + 1, 2, none⟩ (.int .i64 0)).heap[w.heap.size + 1]? = some (.cells #[.int .i64 0, .int .i64 0, .int .i64 0, .int .i64 0, .int .i64 0, .int .i64 0, .int .i64 0, .int .i64 0, .slice none 0 0, .int .u64 0, .slice none 0 0, .slice none 0 0, .int .i64 0] 97 (0, 0)) := blk_put fk1 2 _ rfl
    have fb2 := (fb1).setCell (show w.heap.size ≤ w.heap.size + 1 from by omega) (p := ⟨w.heap.size + 1, 2, none⟩) (.int .i64 0)
    clear fk1 fb1
    have fk3 : ((((w3.setCell ⟨w.heap.size + 1, 0, none⟩ (.int .i64 0)).setCell ⟨w.heap.size + 1, 1, none⟩ (.int .i64 0)).setCell ⟨w.heap.size + 1, 2, none⟩ (.int .i64 0)).setCell ⟨w.heap.size + 1, 3, none⟩ (.int .i64 0)).heap[w.heap.size + 1]? = some (.cells #[.int .i64 0, .int .i64 0, .int .i64 0, .int .i64 0, .int .i64 0, .int .i64 0, .int .i64 0, .int .i64 0, .slice none 0 0, .int .u64 0, .slice none 0 0, .slice none 0 0, .int .i64 0] 97 (0, 0)) := blk_put fk2 3 _ rfl
    have fb3 := (fb2).setCell (show w.heap.size ≤ w.heap.size + 1 from by omega) (p := ⟨w.heap.size + 1, 3, none⟩) (.int .i64 0)
    clear fk2 fb2
    have fk4 : (((((w3.setCell ⟨w.heap.size + 1, 0, none⟩ (.int .i64 0)).setCell ⟨w.heap.size + 1, 1, none⟩ (.int .i64 0)).setCell ⟨w.heap.size + 1, 2, none⟩ (.int .i64 0)).setCell ⟨w.heap.size + 1, 3, none⟩ (.int .i64 0)).setCell ⟨w.heap.size + 1, 4, none⟩ (.int .i64 0)).heap[w.heap.size + 1]? = some (.cells #[.int .i64 0, .int .i64 0, .int .i64 0, .int .i64 0, .int .i64 0, .int .i64 0, .int .i64 0, .int .i64 0, .slice none 0 0, .int .u64 0, .slice none 0 0, .slice none 0 0, .int .i64 0] 97 (0, 0)) := blk_put fk3 4 _ rfl
    have fb4 := (fb3).setCell (show w.heap.size ≤ w.heap.size + 1 from by omega) (p := ⟨w.heap.size + 1, 4, none⟩) (.int .i64 0)
    clear fk3 fb3
    have fk5 : ((((((w3.setCell ⟨w.heap.size + 1, 0, none⟩ (.int .i64 0)).setCell ⟨w.heap.size + 1, 1, none⟩ (.int .i64 0)).setCell ⟨w.heap.size + 1, 2, none⟩ (.int .i64 0)).setCell ⟨w.heap.size + 1, 3, none⟩ (.int .i64 0)).setCell ⟨w.heap.size + 1, 4, none⟩ (.int .i64 0)).setCell ⟨w.heap.size + 1, 5, none⟩ (.int .i64 0)).heap[w.heap.size + 1]? = some (.cells #[.int .i64 0, .int .i64 0, .int .i64 0, .int .i64 0, .int .i64 0, .int .i64 0, .int .i64 0, .int .i64 0, .slice none 0 0, .int .u64 0, .slice none 0 0, .slice none 0 0, .int .i64 0] 97 (0, 0)) := blk_put fk4 5 _ rfl
    have fb5 := (fb4).setCell (show w.heap.size ≤ w.heap.size + 1 from by omega) (p := ⟨w.heap.size + 1, 5, none⟩) (.int .i64 0)
    clear fk4 fb4
    have fk6 : (((((((w3.setCell ⟨w.heap.size + 1, 0, none⟩ (.int .i64 0)).setCell ⟨w.heap.size + 1, 1, none⟩ (.int .i64 0)).setCell ⟨w.heap.size + 1, 2, none⟩ (.int .i64 0)).setCell ⟨w.heap.size + 1, 3, none⟩ (.int .i64 0)).setCell ⟨w.heap.size + 1, 4, none⟩ (.int .i64 0)).setCell ⟨w.heap.size + 1, 5, none⟩ (.int .i64 0)).setCell ⟨w.heap.size + 1, 6, none⟩ (.int .i64 0)).heap[w.heap.size + 1]? = some (.cells #[.int .i64 0, .int .i64 0, .int .i64 0, .int .i64 0, .int .i64 0, .int .i64 0, .int .i64 0, .int .i64 0, .slice none 0 0, .int .u64 0, .slice none 0 0, .slice none 0 0, .int .i64 0] 97 (0, 0)) := blk_put fk5 6 _ rfl
    have fb6 := (fb5).setCell (show w.heap.size ≤ w.heap.size + 1 from by omega) (p := ⟨w.heap.size + 1, 6, none⟩) (.int .i64 0)
    clear fk5 fb5
    have fk7 : ((((((((w3.setCell ⟨w.heap.size + 1, 0, none⟩ (.int .i64 0)).setCell ⟨w.heap.size + 1, 1, none⟩ (.int .i64 0)).setCell ⟨w.heap.size + 1, 2, none⟩ (.int .i64 0)).setCell ⟨w.heap.size + 1, 3, none⟩ (.int .i64 0)).setCell ⟨w.heap.size + 1, 4, none⟩ (.int .i64 0)).setCell ⟨w.heap.size + 1, 5, none⟩ (.int .i64 0)).setCell ⟨w.heap.size + 1, 6, none⟩ (.int .i64 0)).setCell ⟨w.heap.size + 1, 7, none⟩ (.int .i64 0)).heap[w.heap.size + 1]? = some (.cells #[.int .i64 0, .int .i64 0, .int .i64 0, .int .i64 0, .int .i64 0, .int .i64 0, .int .i64 0, .int .i64 0, .slice none 0 0, .int .u64 0, .slice none 0 0, .slice none 0 0, .int .i64 0] 97 (0, 0)) := blk_put fk6 7 _ rfl
    have fb7 := (fb6).setCell (show w.heap.size ≤ w.heap.size + 1 from by omega) (p := ⟨w.heap.size + 1, 7, none⟩) (.int .i64 0)
    clear fk6 fb6
    have fk8 : (((((((((w3.setCell ⟨w.heap.size + 1, 0, none⟩ (.int .i64 0)).setCell ⟨w.heap.size + 1, 1, none⟩ (.int .i64 0)).setCell ⟨w.heap.size + 1, 2, none⟩ (.int .i64 0)).setCell ⟨w.heap.size + 1, 3, none⟩ (.int .i64 0)).setCell ⟨w.heap.size + 1, 4, none⟩ (.int .i64 0)).setCell ⟨w.heap.size + 1, 5, none⟩ (.int .i64 0)).setCell ⟨w.heap.size + 1, 6, none⟩ (.int .i64 0)).setCell ⟨w.heap.size + 1, 7, none⟩ (.int .i64 0)).setCell ⟨w.heap.size + 1, 8, none⟩ (.slice none 0 0)).heap[w.heap.size + 1]? = some (.cells #[.int .i64 0, .int .i64 0, .int .i64 0, .int .i64 0, .int .i64 0, .int .i64 0, .int .i64 0, .int .i64 0, .slice none 0 0, .int .u64 0, .slice none 0 0, .slice none 0 0, .int .i64 0] 97 (0, 0)) := blk_put fk7 8 _ rfl
    have fb8 := (fb7).setCell (show w.heap.size ≤ w.heap.size + 1 from by omega) (p := ⟨w.heap.size + 1, 8, none⟩) (.slice none 0 0)
    clear fk7 fb7
    have fk9 : ((((((((((w3.setCell ⟨w.heap.size + 1, 0, none⟩ (.int .i64 0)).setCell ⟨w.heap.size + 1, 1, none⟩ (.int .i64 0)).setCell ⟨w.heap.size + 1, 2, none⟩ (.int .i64 0)).setCell ⟨w.heap.size + 1, 3, none⟩ (.int .i64 0)).setCell ⟨w.heap.size + 1, 4, none⟩ (.int .i64 0)).setCell ⟨w.heap.size + 1, 5, none⟩ (.int .i64 0)).setCell ⟨w.heap.size + 1, 6, none⟩ (.int .i64 0)).setCell ⟨w.heap.size + 1, 7, none⟩ (.int .i64 0)).setCell ⟨w.heap.size + 1, 8, none⟩ (.slice none 0 0)).setCell ⟨w.heap.size + 1, 9, none⟩ (.int .u64 0)).heap[w.heap.size + 1]? = some (.cells #[.int .i64 0, .int .i64 0, .int .i64 0, .int .i64 0, .int .i64 0, .int .i64 0, .int .i64 0, .int .i64 0, .slice none 0 0, .int .u64 0, .slice none 0 0, .slice none 0 0, .int .i64 0] 97 (0, 0)) := blk_put fk8 9 _ rfl
    have fb9 := (fb8).setCell (show w.heap.size ≤ w.heap.size + 1 from by omega) (p := ⟨w.heap.size + 1, 9, none⟩) (.int .u64 0)
    clear fk8 fb8
    have fk10 : (((((((((((w3.setCell ⟨w.heap.size + 1, 0, none⟩ (.int .i64 0)).setCell ⟨w.heap.size + 1, 1, none⟩ (.int .i64 0)).setCell ⟨w.heap.size + 1, 2, none⟩ (.int .i64 0)).setCell ⟨w.heap.size + 1, 3, none⟩ (.int .i64 0)).setCell ⟨w.heap.size + 1, 4, none⟩ (.int .i64 0)).setCell ⟨w.heap.size + 1, 5, none⟩ (.int .i64 0)).setCell ⟨w.heap.size + 1, 6, none⟩ (.int .i64 0)).setCell ⟨w.heap.size + 1, 7, none⟩ (.int .i64 0)).setCell ⟨w.heap.size + 1, 8, none⟩ (.slice none 0 0)).setCell ⟨w.heap.size + 1, 9, none⟩ (.int .u64 0)).setCell ⟨w.heap.size + 1, 10, none⟩ (.slice none 0 0)).heap[w.heap.size + 1]? = some (.cells #[.int .i64 0, .int .i64 0, .int .i64 0, .int .i64 0, .int .i64 0, .int .i64 0, .int .i64 0, .int .i64 0, .slice none 0 0, .int .u64 0, .slice none 0 0, .slice none 0 0, .int .i64 0] 97 (0, 0)) := blk_put fk9 10 _ rfl
    have fb10 := (fb9).setCell (show w.heap.size ≤ w.heap.size + 1 from by omega) (p := ⟨w.heap.size + 1, 10, none⟩) (.slice none 0 0)
    clear fk9 fb9
    have fk11 : ((((((((((((w3.setCell ⟨w.heap.size + 1, 0, none⟩ (.int .i64 0)).setCell ⟨w.heap.size + 1, 1, none⟩ (.int .i64 0)).setCell ⟨w.heap.size + 1, 2, none⟩ (.int .i64 0)).setCell ⟨w.heap.size + 1, 3, none⟩ (.int .i64 0)).setCell ⟨w.heap.size + 1, 4, none⟩ (.int .i64 0)).setCell ⟨w.heap.size + 1, 5, none⟩ (.int .i64 0)).setCell ⟨w.heap.size + 1, 6, none⟩ (.int .i64 0)).setCell ⟨w.heap.size + 1, 7, none⟩ (.int .i64 0)).setCell ⟨w.heap.size + 1, 8, none⟩ (.slice none 0 0)).setCell ⟨w.heap.size + 1, 9, none⟩ (.int .u64 0)).setCell ⟨w.heap.size + 1, 10, none⟩ (.slice none 0 0)).setCell ⟨w.heap.size + 1, 11, none⟩ (.slice none 0 0)).heap[w.heap.size + 1]? = some (.cells #[.int .i64 0, .int .i64 0, .int .i64 0, .int .i64 0, .int .i64 0, .int .i64 0, .int .i64 0, .int .i64 0, .slice none 0 0, .int .u64 0, .slice none 0 0, .slice none 0 0, .int .i64 0] 97 (0, 0)) := blk_put fk10 11 _ rfl
    have fb11 := (fb10).setCell (show w.heap.size ≤ w.heap.size + 1 from by omega) (p := ⟨w.heap.size + 1, 11, none⟩) (.slice none 0 0)
    clear fk10 fb10
    have fk12 : (((((((((((((w3.setCell ⟨w.heap.size + 1, 0, none⟩ (.int .i64 0)).setCell ⟨w.heap.size + 1, 1, none⟩ (.int .i64 0)).setCell ⟨w.heap.size + 1, 2, none⟩ (.int .i64 0)).setCell ⟨w.heap.size + 1, 3, none⟩ (.int .i64 0)).setCell ⟨w.heap.size + 1, 4, none⟩ (.int .i64 0)).setCell ⟨w.heap.size + 1, 5, none⟩ (.int .i64 0)).setCell ⟨w.heap.size + 1, 6, none⟩ (.int .i64 0)).setCell ⟨w.heap.size + 1, 7, none⟩ (.int .i64 0)).setCell ⟨w.heap.size + 1, 8, none⟩ (.slice none 0 0)).setCell ⟨w.heap.size + 1, 9, none⟩ (.int .u64 0)).setCell ⟨w.heap.size + 1, 10, none⟩ (.slice none 0 0)).setCell ⟨w.heap.size + 1, 11, none⟩ (.slice none 0 0)).setCell ⟨w.heap.size + 1, 12, none⟩ (.int .i64 0)).heap[w.heap.size + 1]? = some (.cells #[.int .i64 0, .int .i64 0, .int .i64 0, .int .i64 0, .int .i64 0, .int .i64 0, .int .i64 0, .int .i64 0, .slice none 0 0, .int .u64 0, .slice none 0 0, .slice none 0 0, .int .i64 0] 97 (0, 0)) := blk_put fk11 12 _ rfl
    have fb12 := (fb11).setCell (show w.heap.size ≤ w.heap.size + 1 from by omega) (p := ⟨w.heap.size + 1, 12, none⟩) (.int .i64 0)
    clear fk11 fb11
    refine bodyPost_ret (results_row_tmp rfl _ _ (w.heap.size + 1) 97 _ (0, 0) _ rfl fk12 Tryd.underlying97 rfl info97) rfl ?_
    exact ⟨⟨0, 0, 0, 0, 0, 0, 0, 0, []⟩, none, 0, 0, none, none, 0, 0, 0, 0, 0, rfl, fb12⟩
set_option maxHeartbeats 4000000 in
set_option maxRecDepth 100000 in
theorem found_ok (seed : Int) (Ah : Option Addr) (chc : Nat) (Ak : Option Addr) (ckc : Nat) (chs : List T3) (cks : List Ck) (k s : Int) (w : World) (hL : Lim w) (hwf : WfK cks) (w0 : World) (hB0 : Below w0.heap.size w0 w) (hW : WAt 51 w0 Ah Ak chs cks) (hE : errS chs cks k s = 0) :
    Calls Tryd.prog 55 #[woV seed Ah chs.length chc Ak cks.length ckc, .int .i64 k, .int .i64 s] w fun e w' => ∃ (i : Nat) (hi : i < cks.length) (Ae : Option Addr) (ce : Nat), k = i ∧ e = .returned (.tuple #[wkV cks[i] Ae ce seed (.slice Ah chs.length chc) (.slice Ak cks.length ckc) k, .int .i64 0]) ∧ Kd.C k3 w0 Ae cks[i].es.length cks[i].es ∧ Below w.heap.size w w' := by
  obtain ⟨w1, hw1⟩ : ∃ w1, (w.alloc (.cells #[.int .u64 seed, .slice Ah chs.length chc, .slice Ak cks.length ckc] 32)).alloc (.cells #[.int .i64 0, .int .i64 0, .int .i64 0, .int .i64 0, .int .i64 0, .int .i64 0, .int .i64 0, .int .i64 0, .slice none 0 0, .int .u64 0, .slice none 0 0, .slice none 0 0, .int .i64 0] 97) = w1 := ⟨_, rfl⟩
  have hB : Below w.heap.size w w1 := by rw [← hw1]; exact ((Below.refl _ _).alloc (Nat.le_refl _) _).alloc (by simp) _
  have kr : w1.heap[w.heap.size + 1]? = some (.cells #[.int .i64 0, .int .i64 0, .int .i64 0, .int .i64 0, .int .i64 0, .int .i64 0, .int .i64 0, .int .i64 0, .slice none 0 0, .int .u64 0, .slice none 0 0, .slice none 0 0, .int .i64 0] 97 (0, 0)) := by rw [← hw1]; exact al_new _ _ _ (by simp)
  have kb : w1.heap[w.heap.size]? = some (.cells #[.int .u64 seed, .slice Ah chs.length chc, .slice Ak cks.length ckc] 32 (0, 0)) := by rw [← hw1]; exact al_old (al_new _ _ _ rfl)
  have x0 : w1.cell? ⟨w.heap.size, 0, none⟩ = some (.int .u64 seed) := blk_cell kb 0
  have x1 : w1.cell? ⟨w.heap.size, 1, none⟩ = some (.slice Ah chs.length chc) := blk_cell kb 1
  have x2 : w1.cell? ⟨w.heap.size, 2, none⟩ = some (.slice Ak cks.length ckc) := blk_cell kb 2
  have HKR := Aside0.mk kr
  have HV := Aside0.mk hB
  have c2 := fun w => timed_calls s w
  clear kr hB kb
  unfold errS at *
  have hc : errK chs cks k = 0 := by
    by_cases h : errK chs cks k = 0
    · exact h
    · rw [if_neg h] at hE; exact absurd hE h
  rw [if_pos hc] at hE
  have c1 := fun (W : World) (hB2 : Below w.heap.size w W) => find_ok seed Ah chc Ak ckc chs cks k W (hL.below hB2) hwf w0 (hB0.trans (hB2.mono hB0.size)) hW hc
  rw [hE] at c2
  clear hL hW hwf hc hE
  unfold woV at *
  go_enter Tryd.func55, Tryd.ntmps55
  go_wp2_with fail
  try rw [hw1]
  refine (c1 _ HV.out).mono ?_
  rintro en w2 ⟨i, hi, Ae, ce, rfl, rfl, hCe, hB⟩
  replace HKR := Aside0.mk (blk_on hB HKR.out)
  replace HV := Aside0.mk (HV.out.trans (hB.mono HV.out.size))
  have HFIN : Aside0 (∀ e w', Below w2.heap.size w2 w' ∨ (∃ w3, Below w2.heap.size w2 w3 ∧ Below w.heap.size w w') → e = Ending.returned (.tuple #[wkV cks[i] Ae ce seed (.slice Ah chs.length chc) (.slice Ak cks.length ckc) i, .int .i64 0]) → Kd.C k3 w0 Ae cks[i].es.length cks[i].es → Below w.heap.size w w' → ∃ (j : Nat) (hj : j < cks.length) (Ae : Option Addr) (ce : Nat), (i : Int) = j ∧ e = .returned (.tuple #[wkV cks[j] Ae ce seed (.slice Ah chs.length chc) (.slice Ak cks.length ckc) i, .int .i64 0]) ∧ Kd.C k3 w0 Ae cks[j].es.length cks[j].es ∧ Below w.heap.size w w') := ⟨fun e w' _ h1 h2 h3 => ⟨i, hi, Ae, ce, rfl, h1, h2, h3⟩⟩
  have HCE := Aside0.mk hCe
  clear hB c1 x0 x1 x2 hCe
  generalize cks[i] = z at *
  obtain ⟨kd, ph, rt, dr, wh, wk, ht, ch, es⟩ := z
  unfold wkV at HFIN ⊢
  simp only at HFIN HCE ⊢
  obtain ⟨w3, hw3⟩ : ∃ w3, w2.alloc (.cells #[.int .i64 kd, .int .i64 ph, .int .i64 rt, .int .i64 dr, .int .i64 wh, .int .i64 wk, .int .i64 ht, .int .i64 ch, .slice Ae es.length ce, .int .u64 seed, .slice Ah chs.length chc, .slice Ak cks.length ckc, .int .i64 (i : Int)] 97) = w3 := ⟨_, rfl⟩
  have hB3 : Below w2.heap.size w2 w3 := by rw [← hw3]; exact (Below.refl _ _).alloc (Nat.le_refl _) _
  have ky : w3.heap[w2.heap.size]? = some (.cells #[.int .i64 kd, .int .i64 ph, .int .i64 rt, .int .i64 dr, .int .i64 wh, .int .i64 wk, .int .i64 ht, .int .i64 ch, .slice Ae es.length ce, .int .u64 seed, .slice Ah chs.length chc, .slice Ak cks.length ckc, .int .i64 (i : Int)] 97 (0, 0)) := by rw [← hw3]; exact al_new _ _ _ rfl
  replace HKR := Aside0.mk (blk_on hB3 HKR.out)
  replace HV := Aside0.mk (HV.out.trans (hB3.mono HV.out.size))
  have HKY := Aside0.mk ky
  clear ky hB3
  go_wp2_with fail
  try rw [hw3]
  refine (c2 _).mono ?_
  rintro en w4 ⟨rfl, hB⟩
  replace HKR := Aside0.mk (blk_on hB HKR.out)
  replace HKY := Aside0.mk (blk_on hB HKY.out)
  replace HV := Aside0.mk (HV.out.trans (hB.mono HV.out.size))
  clear hB c2
  have y0 : w4.cell? ⟨w2.heap.size, 0, none⟩ = some (.int .i64 kd) := blk_cell HKY.out 0
  have y1 : w4.cell? ⟨w2.heap.size, 1, none⟩ = some (.int .i64 ph) := blk_cell HKY.out 1
  have y2 : w4.cell? ⟨w2.heap.size, 2, none⟩ = some (.int .i64 rt) := blk_cell HKY.out 2
  have y3 : w4.cell? ⟨w2.heap.size, 3, none⟩ = some (.int .i64 dr) := blk_cell HKY.out 3
  have y4 : w4.cell? ⟨w2.heap.size, 4, none⟩ = some (.int .i64 wh) := blk_cell HKY.out 4
  have y5 : w4.cell? ⟨w2.heap.size, 5, none⟩ = some (.int .i64 wk) := blk_cell HKY.out 5
  have y6 : w4.cell? ⟨w2.heap.size, 6, none⟩ = some (.int .i64 ht) := blk_cell HKY.out 6
  have y7 : w4.cell? ⟨w2.heap.size, 7, none⟩ = some (.int .i64 ch) := blk_cell HKY.out 7
  have y8 : w4.cell? ⟨w2.heap.size, 8, none⟩ = some (.slice Ae es.length ce) := blk_cell HKY.out 8
  have y9 : w4.cell? ⟨w2.heap.size, 9, none⟩ = some (.int .u64 seed) := blk_cell HKY.out 9
  have y10 : w4.cell? ⟨w2.heap.size, 10, none⟩ = some (.slice Ah chs.length chc) := blk_cell HKY.out 10
  have y11 : w4.cell? ⟨w2.heap.size, 11, none⟩ = some (.slice Ak cks.length ckc) := blk_cell HKY.out 11
  have y12 : w4.cell? ⟨w2.heap.size, 12, none⟩ = some (.int .i64 (i : Int)) := blk_cell HKY.out 12
  have z0 : w4.cell? ⟨w.heap.size + 1, 0, none⟩ = some (.int .i64 0) := blk_cell HKR.out 0
  have z1 : w4.cell? ⟨w.heap.size + 1, 1, none⟩ = some (.int .i64 0) := blk_cell HKR.out 1
  have z2 : w4.cell? ⟨w.heap.size + 1, 2, none⟩ = some (.int .i64 0) := blk_cell HKR.out 2
  have z3 : w4.cell? ⟨w.heap.size + 1, 3, none⟩ = some (.int .i64 0) := blk_cell HKR.out 3
  have z4 : w4.cell? ⟨w.heap.size + 1, 4, none⟩ = some (.int .i64 0) := blk_cell HKR.out 4
  have z5 : w4.cell? ⟨w.heap.size + 1, 5, none⟩ = some (.int .i64 0) := blk_cell HKR.out 5
  have z6 : w4.cell? ⟨w.heap.size + 1, 6, none⟩ = some (.int .i64 0) := blk_cell HKR.out 6
  have z7 : w4.cell? ⟨w.heap.size + 1, 7, none⟩ = some (.int .i64 0) := blk_cell HKR.out 7
  have z8 : w4.cell? ⟨w.heap.size + 1, 8, none⟩ = some (.slice none 0 0) := blk_cell HKR.out 8
  have z9 : w4.cell? ⟨w.heap.size + 1, 9, none⟩ = some (.int .u64 0) := blk_cell HKR.out 9
  have z10 : w4.cell? ⟨w.heap.size + 1, 10, none⟩ = some (.slice none 0 0) := blk_cell HKR.out 10
  have z11 : w4.cell? ⟨w.heap.size + 1, 11, none⟩ = some (.slice none 0 0) := blk_cell HKR.out 11
  have z12 : w4.cell? ⟨w.heap.size + 1, 12, none⟩ = some (.int .i64 0) := blk_cell HKR.out 12
  have q0 := blk_frozen HKR.out 0
  have q1 := blk_frozen HKR.out 1
  have q2 := blk_frozen HKR.out 2
  have q3 := blk_frozen HKR.out 3
  have q4 := blk_frozen HKR.out 4
  have q5 := blk_frozen HKR.out 5
  have q6 := blk_frozen HKR.out 6
  have q7 := blk_frozen HKR.out 7
  have q8 := blk_frozen HKR.out 8
  have q9 := blk_frozen HKR.out 9
  have q10 := blk_frozen HKR.out 10
  have q11 := blk_frozen HKR.out 11
  have q12 := blk_frozen HKR.out 12
  go_wp2_with fail
  clear y0 z0 q0 y1 z1 q1 y2 z2 q2 y3 z3 q3 y4 z4 q4 y5 z5 q5 y6 z6 q6 y7 z7 q7 y8 z8 q8 y9 z9 q9 y10 z10 q10 y11 z11 q11 y12 z12 q12
  have fk0 : (w4.setCell ⟨w.heap.size + 1, 0, none⟩ (.int .i64 kd)).heap[w.heap.size + 1]? = some (.cells #[.int .i64 kd, .int .i64 0, .int .i64 0, .int .i64 0, .int .i64 0, .int .i64 0, .int .i64 0, .int .i64 0, .slice none 0 0, .int .u64 0, .slice none 0 0, .slice none 0 0, .int .i64 0] 97 (0, 0)) := blk_put HKR.out 0 _ rfl
  have fb0 := (HV.out).setCell (show w.heap.size ≤ w.heap.size + 1 from by omega) (p := ⟨w.heap.size + 1, 0, none⟩) (.int .i64 kd)
  have fk1 : ((w4.setCell ⟨w.heap.size + 1, 0, none⟩ (.int .i64 kd)).setCell ⟨w.heap.size + 1, 1, none⟩ (.int .i64 ph)).heap[w.heap.size + 1]? = some (.cells #[.int .i64 kd, .int .i64 ph, .int .i64 0, .int .i64 0, .int .i64 0, .int .i64 0, .int .i64 0, .int .i64 0, .slice none 0 0, .int .u64 0, .slice none 0 0, .slice none 0 0, .int .i64 0] 97 (0, 0)) := blk_put fk0 1 _ rfl
  have fb1 := (fb0).setCell (show w.heap.size ≤ w.heap.size + 1 from by omega) (p := ⟨w.heap.size + 1, 1, none⟩) (.int .i64 ph)
  clear fk0 fb0
  have fk2 : (((w4.setCell ⟨w.heap.size + 1, 0, none⟩ (.int .i64 kd)).setCell ⟨w.heap.size + 1, 1, none⟩ (.int .i64 ph)).setCell ⟨w.heap.size + 1, 2, none⟩ (.int .i64 rt)).heap[w.heap.size + 1]? = some (.cells #[.int .i64 kd, .int .i64 ph, .int .i64 rt, .int .i64 0, .int .i64 0, .int .i64 0, .int .i64 0, .int .i64 0, .slice none 0 0, .int .u64 0, .slice none 0 0, .slice none 0 0, .int .i64 0] 97 (0, 0)) := blk_put fk1 2 _ rfl
  have fb2 := (fb1).setCell (show w.heap.size ≤ w.heap.size + 1 from by omega) (p := ⟨w.heap.size + 1, 2, none⟩) (.int .i64 rt)
  clear fk1 fb1
  have fk3 : ((((w4.setCell ⟨w.heap.size + 1, 0, none⟩ (.int .i64 kd)).setCell ⟨w.heap.size + 1, 1, none⟩ (.int .i64 ph)).setCell ⟨w.heap.size + 1, 2, none⟩ (.int .i64 rt)).setCell ⟨w.heap.size + 1, 3, none⟩ (.int .i64 dr)).heap[w.heap.size + 1]? = some (.cells #[.int .i64 kd, .int .i64 ph, .int .i64 rt, .int .i64 dr, .int .i64 0, .int .i64 0, .int .i64 0, .int .i64 0, .slice none 0 0, .int .u64 0, .slice none 0 0, .slice none 0 0, .int .i64 0] 97 (0, 0)) := blk_put fk2 3 _ rfl
  have fb3 := (fb2).setCell (show w.heap.size ≤ w.heap.size + 1 from by omega) (p := ⟨w.heap.size + 1, 3, none⟩) (.int .i64 dr)
  clear fk2 fb2
  have fk4 : (((((w4.setCell ⟨w.heap.size + 1, 0, none⟩ (.int .i64 kd)).setCell ⟨w.heap.size + 1, 1, none⟩ (.int .i64 ph)).setCell ⟨w.heap.size + 1, 2, none⟩ (.int .i64 rt)).setCell ⟨w.heap.size + 1, 3, none⟩ (.int .i64 dr)).setCell ⟨w.heap.size + 1, 4, none⟩ (.int .i64 wh)).heap[w.heap.size + 1]? = some (.cells #[.int .i64 kd, .int .i64 ph, .int .i64 rt, .int .i64 dr, .int .i64 wh, .int .i64 0, .int .i64 0, .int .i64 0, .slice none 0 0, .int .u64 0, .slice none 0 0, .slice none 0 0, .int .i64 0] 97 (0, 0)) := blk_put fk3 4 _ rfl
  have fb4 := (fb3).setCell (show w.heap.size ≤ w.heap.size + 1 from by omega) (p := ⟨w.heap.size + 1, 4, none⟩) (.int .i64 wh)
  clear fk3 fb3
  have fk5 : ((((((w4.setCell ⟨w.heap.size + 1, 0, none⟩ (.int .i64 kd)).setCell ⟨w.heap.size + 1, 1, none⟩ (.int .i64 ph)).setCell ⟨w.heap.size + 1, 2, none⟩ (.int .i64 rt)).setCell ⟨w.heap.size + 1, 3, none⟩ (.int .i64 dr)).setCell ⟨w.heap.size + 1, 4, none⟩ (.int .i64 wh)).setCell ⟨w.heap.size + 1, 5, none⟩ (.int .i64 wk)).heap[w.heap.size + 1]? = some (.cells #[.int .i64 kd, .int .i64 ph, .int .i64 rt, .int .i64 dr, .int .i64 wh, .int .i64 wk, .int .i64 0, .int .i64 0, .slice none 0 0, .int .u64 0, .slice none 0 0, .slice none 0 0, .int .i64 0] 97 (0, 0)) := blk_put fk4 5 _ rfl
  have fb5 := (fb4).setCell (show w.heap.size ≤ w.heap.size + 1 from by omega) (p := ⟨w.heap.size + 1, 5, none⟩) (.int .i64 wk)
  clear fk4 fb4
  have fk6 : (((((((w4.setCell ⟨w.heap.size + 1, 0, none⟩ (.int .i64 kd)).setCell ⟨w.heap.size + 1, 1, none⟩ (.int .i64 ph)).setCell ⟨w.heap.size + 1, 2, none⟩ (.int .i64 rt)).setCell ⟨w.heap.size + 1, 3, none⟩ (.int .i64 dr)).setCell ⟨w.heap.size + 1, 4, none⟩ (.int .i64 wh)).setCell ⟨w.heap.size + 1, 5, none⟩ (.int .i64 wk)).setCell ⟨w.heap.size + 1, 6, none⟩ (.int .i64 ht)).heap[w.heap.size + 1]? = some (.cells #[.int .i64 kd, .int .i64 ph, .int .i64 rt, .int .i64 dr, .int .i64 wh, .int .i64 wk, .int .i64 ht, .int .i64 0, .slice none 0 0, .int .u64 0, .slice none 0 0, .slice none 0 0, .int .i64 0] 97 (0, 0)) := blk_put fk5 6 _ rfl
  have fb6 := (fb5).setCell (show w.heap.size ≤ w.heap.size + 1 from by omega) (p := ⟨w.heap.size + 1, 6, none⟩) (.int .i64 ht)
  clear fk5 fb5
  have fk7 : ((((((((w4.setCell ⟨w.heap.size + 1, 0, none⟩ (.int .i64 kd)).setCell ⟨w.heap.size + 1, 1, none⟩ (.int .i64 ph)).setCell ⟨w.heap.size + 1, 2, none⟩ (.int .i64 rt)).setCell ⟨w.heap.size + 1, 3, none⟩ (.int .i64 dr)).setCell ⟨w.heap.size + 1, 4, none⟩ (.int .i64 wh)).setCell ⟨w.heap.size + 1, 5, none⟩ (.int .i64 wk)).setCell ⟨w.heap.size + 1, 6, none⟩ (.int .i64 ht)).setCell ⟨w.heap.size + 1, 7, none⟩ (.int .i64 ch)).heap[w.heap.size + 1]? = some (.cells #[.int .i64 kd, .int .i64 ph, .int .i64 rt, .int .i64 dr, .int .i64 wh, .int .i64 wk, .int .i64 ht, .int .i64 ch, .slice none 0 0, .int .u64 0, .slice none 0 0, .slice none 0 0, .int .i64 0] 97 (0, 0)) := blk_put fk6 7 _ rfl
  have fb7 := (fb6).setCell (show w.heap.size ≤ w.heap.size + 1 from by omega) (p := ⟨w.heap.size + 1, 7, none⟩) (.int .i64 ch)
  clear fk6 fb6
  have fk8 : (((((((((w4.setCell ⟨w.heap.size + 1, 0, none⟩ (.int .i64 kd)).setCell ⟨w.heap.size + 1, 1, none⟩ (.int .i64 ph)).setCell ⟨w.heap.size + 1, 2, none⟩ (.int .i64 rt)).setCell ⟨w.heap.size + 1, 3, none⟩ (.int .i64 dr)).setCell ⟨w.heap.size + 1, 4, none⟩ (.int .i64 wh)).setCell ⟨w.heap.size + 1, 5, none⟩ (.int .i64 wk)).setCell ⟨w.heap.size + 1, 6, none⟩ (.int .i64 ht)).setCell ⟨w.heap.size + 1, 7, none⟩ (.int .i64 ch)).setCell ⟨w.heap.size + 1, 8, none⟩ (.slice Ae es.length ce)).heap[w.heap.size + 1]? = some (.cells #[.int .i64 kd, .int .i64 ph, .int .i64 rt, .int .i64 dr, .int .i64 wh, .int .i64 wk, .int .i64 ht, .int .i64 ch, .slice Ae es.length ce, .int .u64 0, .slice none 0 0, .slice none 0 0, .int .i64 0] 97 (0, 0)) := blk_put fk7 8 _ rfl
  have fb8 := (fb7).setCell (show w.heap.size ≤ w.heap.size + 1 from by omega) (p := ⟨w.heap.size + 1, 8, none⟩) (.slice Ae es.length ce)
  clear fk7 fb7
  have fk9 : ((((((((((w4.setCell ⟨w.heap.size + 1, 0, none⟩ (.int .i64 kd)).setCell ⟨w.heap.size + 1, 1, none⟩ (.int .i64 ph)).setCell ⟨w.heap.size + 1, 2, none⟩ (.int .i64 rt)).setCell ⟨w.heap.size + 1, 3, none⟩ (.int .i64 dr)).setCell ⟨w.heap.size + 1, 4, none⟩ (.int .i64 wh)).setCell ⟨w.heap.size + 1, 5, none⟩ (.int .i64 wk)).setCell ⟨w.heap.size + 1, 6, none⟩ (.int .i64 ht)).setCell ⟨w.heap.size + 1, 7, none⟩ (.int .i64 ch)).setCell ⟨w.heap.size + 1, 8, none⟩ (.slice Ae es.length ce)).setCell ⟨w.heap.size + 1, 9, none⟩ (.int .u64 seed)).heap[w.heap.size + 1]? = some (.cells #[.int .i64 kd, .int .i64 ph, .int .i64 rt, .int .i64 dr, .int .i64 wh, .int .i64 wk, .int .i64 ht, .int .i64 ch, .slice Ae es.length ce, .int .u64 seed, .slice none 0 0, .slice none 0 0, .int .i64 0] 97 (0, 0)) := blk_put fk8 9 _ rfl
  have fb9 := (fb8).setCell (show w.heap.size ≤ w.heap.size + 1 from by omega) (p := ⟨w.heap.size + 1, 9, none⟩) (.int .u64 seed)
  clear fk8 fb8
  have fk10 : (((((((((((w4.setCell ⟨w.heap.size + 1, 0, none⟩ (.int .i64 kd)).setCell ⟨w.heap.size + 1, 1, none⟩ (.int .i64 ph)).setCell ⟨w.heap.size + 1, 2, none⟩ (.int .i64 rt)).setCell ⟨w.heap.size + 1, 3, none⟩ (.int .i64 dr)).setCell ⟨w.heap.size + 1, 4, none⟩ (.int .i64 wh)).setCell ⟨w.heap.size + 1, 5, none⟩ (.int .i64 wk)).setCell ⟨w.heap.size + 1, 6, none⟩ (.int .i64 ht)).setCell ⟨w.heap.size + 1, 7, none⟩ (.int .i64 ch)).setCell ⟨w.heap.size + 1, 8, none⟩ (.slice Ae es.length ce)).setCell ⟨w.heap.size + 1, 9, none⟩ (.int .u64 seed)).setCell ⟨w.heap.size + 1, 10, none⟩ (.slice Ah chs.length chc)).heap[w.heap.size + 1]? = some (.cells #[.int .i64 kd, .int .i64 ph, .int .i64 rt, .int .i64 dr, .int .i64 wh, .int .i64 wk, .int .i64 ht, .int .i64 ch, .slice Ae es.length ce, .int .u64 seed, .slice Ah chs.length chc, .slice none 0 0, .int .i64 0] 97 (0, 0)) := blk_put fk9 10 _ rfl
  have fb10 := (fb9).setCell (show w.heap.size ≤ w.heap.size + 1 from by omega) (p := ⟨w.heap.size + 1, 10, none⟩) (.slice Ah chs.length chc)
  clear fk9 fb9
  have fk11 : ((((((((((((w4.setCell ⟨w.heap.size + 1, 0, none⟩ (.int .i64 kd)).setCell ⟨w.heap.size + 1, 1, none⟩ (.int .i64 ph)).setCell ⟨w.heap.size + 1, 2, none⟩ (.int .i64 rt)).setCell ⟨w.heap.size + 1, 3, none⟩ (.int .i64 dr)).setCell ⟨w.heap.size + 1, 4, none⟩ (.int .i64 wh)).setCell ⟨w.heap.size + 1, 5, none⟩ (.int .i64 wk)).setCell ⟨w.heap.size + 1, 6, none⟩ (.int .i64 ht)).setCell ⟨w.heap.size + 1, 7, none⟩ (.int .i64 ch)).setCell ⟨w.heap.size + 1, 8, none⟩ (.slice Ae es.length ce)).setCell ⟨w.heap.size + 1, 9, none⟩ (.int .u64 seed)).setCell ⟨w.heap.size + 1, 10, none⟩ (.slice Ah chs.length chc)).setCell ⟨w.heap.size + 1, 11, none⟩ (.slice Ak cks.length ckc)).heap[w.heap.size + 1]? = some (.cells #[.int .i64 kd, .int .i64 ph, .int .i64 rt, .int .i64 dr, .int .i64 wh, .int .i64 wk, .int .i64 ht, .int .i64 ch, .slice Ae es.length ce, .int .u64 seed, .slice Ah chs.length chc, .slice Ak cks.length ckc, .int .i64 0] 97 (0, 0)) := blk_put fk10 11 _ rfl
  have fb11 := (fb10).setCell (show w.heap.size ≤ w.heap.size + 1 from by omega) (p := ⟨w.heap.size + 1, 11, none⟩) (.slice Ak cks.length ckc)
  clear fk10 fb10
  have fk12 : (((((((((((((w4.setCell ⟨w.heap.size + 1, 0, none⟩ (.int .i64 kd)).setCell ⟨w.heap.size + 1, 1, none⟩ (.int .i64 ph)).setCell ⟨w.heap.size + 1, 2, none⟩ (.int .i64 rt)).setCell ⟨w.heap.size + 1, 3, none⟩ (.int .i64 dr)).setCell ⟨w.heap.size + 1, 4, none⟩ (.int .i64 wh)).setCell ⟨w.heap.size + 1, 5, none⟩ (.int .i64 wk)).setCell ⟨w.heap.size + 1, 6, none⟩ (.int .i64 ht)).setCell ⟨w.heap.size + 1, 7, none⟩ (.int .i64 ch)).setCell ⟨w.heap.size + 1, 8, none⟩ (.slice Ae es.length ce)).setCell ⟨w.heap.size + 1, 9, none⟩ (.int .u64 seed)).setCell ⟨w.heap.size + 1, 10, none⟩ (.slice Ah chs.length chc)).setCell ⟨w.heap.size + 1, 11, none⟩ (.slice Ak cks.length ckc)).setCell ⟨w.heap.size + 1, 12, none⟩ (.int .i64 (i : Int))).heap[w.heap.size + 1]? = some (.cells #[.int .i64 kd, .int .i64 ph, .int .i64 rt, .int .i64 dr, .int .i64 wh, .int .i64 wk, .int .i64 ht, .int .i64 ch, .slice Ae es.length ce, .int .u64 seed, .slice Ah chs.length chc, .slice Ak cks.length ckc, .int .i64 (i : Int)] 97 (0, 0)) := blk_put fk11 12 _ rfl
  have fb12 := (fb11).setCell (show w.heap.size ≤ w.heap.size + 1 from by omega) (p := ⟨w.heap.size + 1, 12, none⟩) (.int .i64 (i : Int))
  clear fk11 fb11
  refine bodyPost_ret (results_row_tmp rfl _ _ (w.heap.size + 1) 97 _ (0, 0) _ rfl fk12 Tryd.underlying97 rfl info97) rfl ?_
  exact HFIN.out _ _ (Or.inr ⟨w2, Below.refl _ _, fb12⟩) rfl HCE.out fb12
end Go.Proofs.YtlfnnalepdjagaaDoor.C
