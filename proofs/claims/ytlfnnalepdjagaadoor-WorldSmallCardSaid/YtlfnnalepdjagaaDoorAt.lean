/- The contract of Back's closure. -/
import Derived.OwnWalk
import Derived.BigRegion
import Derived.Deep.Cut
import Derived.Deep.RegionHeld3
import Derived.Test.YtlfnnalepdjagaaDoorAs
namespace Go.Proofs.YtlfnnalepdjagaaDoor.C
open Go.RowKit Go.Shelf Go.Maps Go.Proofs.YtlfnnalepdjagaaDoorW.PrintWords Go.Proofs.YtlfnnalepdjagaaDoorW.PrintLast Go.Proofs.YtlfnnalepdjagaaDoorW.PrintMore
set_option linter.unusedVariables false
set_option linter.unusedSimpArgs false
theorem al_on {w w' : World} {o : Obj} (h : Below (w.alloc o).heap.size (w.alloc o) w') : w'.heap[w.heap.size]? = some o := (h.block _ (by simp)).trans (al_new _ _ _ rfl)
theorem al_onD {w w' : World} {o : Obj} (h : Below (w.alloc o).drew.heap.size (w.alloc o).drew w') : w'.heap[w.heap.size]? = some o := (h.block _ (by simp)).trans (al_new _ _ _ rfl)
/-- Whether what a clock shows at a second is behind a moment. -/
def laterB (mS mF s V : Int) : Bool := if s < IntKind.i64.wrap (mS - 1) ∨ IntKind.i64.wrap (mS + 1) < s then decide (mS < s) else decide (mS < (momF s V).1) || (decide ((momF s V).1 = mS) && decide (mF < (momF s V).2))
set_option maxHeartbeats 4000000 in
set_option maxRecDepth 100000 in
theorem later_calls (seed : Int) (Ah : Option Addr) (chc : Nat) (Ak : Option Addr) (ckc : Nat) (chs : List T3) (cks : List Ck) (x : Ck) (Ae : Option Addr) (ce : Nat) (i : Nat) (hik : 0 ≤ (i : Int) ∧ (i : Int) ≤ 1000000000000000) (n : Nat) (hO : CkOk n x) (hEv : EvOk x.es) (q : Nat) (hq : q < chs.length) (hxq : x.ch = q) (hc : ChOk chs[q]) (mS mF s : Int) (hs : 0 ≤ s ∧ s ≤ 1000000) (B5 B8 : Nat) (w : World)
    (k5 : w.heap[B5]? = some (.cells #[.int .i64 mS, .int .i64 mF] 35 (0, 0))) (k8 : w.heap[B8]? = some (.cells #[.int .i64 x.kd, .int .i64 x.ph, .int .i64 x.rt, .int .i64 x.dr, .int .i64 x.wh, .int .i64 x.wk, .int .i64 x.ht, .int .i64 x.ch, .slice Ae x.es.length ce, .int .u64 seed, .slice Ah chs.length chc, .slice Ak cks.length ckc, .int .i64 (i : Int)] 97 (0, 0))) (hC : Kd.C k3 w Ae x.es.length x.es) (hH : Kd.C k3 w Ah chs.length chs) :
    Calls Tryd.prog 50 #[.int .i64 s, .pointer (some ⟨B5, 0, none⟩), .pointer (some ⟨B8, 0, none⟩)] w fun e w' => e = .returned (.bool (laterB mS mF s (stillF x chs[q] s + walkedF seed (i : Int) x.wk 0 s + drawF seed 2 (i : Int) s x.wh))) ∧ Below w.heap.size w w' := by
  have hv := Below.refl w.heap.size w
  have HXQ := Aside0.mk hxq
  clear hxq
  have s1 := still_b hO hEv hc hs
  have s2 := walked_b (seed := seed) (k := (i : Int)) (fr := 0) hO (Int.le_refl 0) hs
  have s3 := white_b (s := s) (seed := seed) (k := (i : Int)) hO
  have hwk : 0 ≤ x.wk ∧ x.wk ≤ 100000000000000 := ⟨hO.wk.1, by have := (rt_b hO).2.2.2; omega⟩
  have hwh : 0 ≤ x.wh ∧ x.wh ≤ 100000000000000 := ⟨hO.wh.1, by have := (rt_b hO).2.2.1; omega⟩
  have b51 := fun (W : World) (hB : Below w.heap.size w W) => still_calls x Ae ce seed Ah chc (.slice Ak cks.length ckc) (i : Int) s chs q hq W HXQ.out (Kd.C_below hC hB) (Kd.C_below hH hB) n hO hEv hc hs
  have b52 := fun (W : World) (hB : Below w.heap.size w W) => walked_calls x.kd x.ph x.rt x.dr x.wh x.wk x.ht x.ch (.slice Ae x.es.length ce) seed (.slice Ah chs.length chc) (.slice Ak cks.length ckc) (i : Int) 0 s W (by omega) hs hik hwk
  have b53 := fun (W : World) (hB : Below w.heap.size w W) => white_calls x Ae ce seed (.slice Ah chs.length chc) (.slice Ak cks.length ckc) (i : Int) s W hik (by omega) hwh
  obtain ⟨SV, hSV⟩ : ∃ v, stillF x chs[q] s = v := ⟨_, rfl⟩
  obtain ⟨WV, hWV⟩ : ∃ v, walkedF seed (i : Int) x.wk 0 s = v := ⟨_, rfl⟩
  obtain ⟨NV, hNV⟩ : ∃ v, drawF seed 2 (i : Int) s x.wh = v := ⟨_, rfl⟩
  rw [hSV] at s1 b51 ⊢
  rw [hWV] at s2 b52 ⊢
  rw [hNV] at s3 b53 ⊢
  clear hSV hWV hNV hO hEv hC hH hc hwk hwh HXQ
  have v1 := C.wr (SV + WV) (by omega) (by omega)
  have v2 := C.wr (SV + WV + NV) (by omega) (by omega)
  have b46 := fun (W : World) (hB : Below w.heap.size w W) => moment_calls s (SV + WV + NV) W (by omega) (by omega)
  obtain ⟨M, hM⟩ : ∃ m, momF s (SV + WV + NV) = m := ⟨_, rfl⟩
  unfold laterB
  rw [hM] at b46 ⊢
  obtain ⟨M1, M2⟩ := M
  simp only at b46 ⊢
  obtain ⟨LO, hLO⟩ : ∃ v, IntKind.i64.wrap (mS - 1) = v := ⟨_, rfl⟩
  obtain ⟨HI, hHI⟩ : ∃ v, IntKind.i64.wrap (mS + 1) = v := ⟨_, rfl⟩
  rw [hLO, hHI]
  have m0 : w.cell? ⟨B5, 0, none⟩ = some (.int .i64 mS) := blk_cell k5 0
  have m1 : w.cell? ⟨B5, 1, none⟩ = some (.int .i64 mF) := blk_cell k5 1
  have y0 : w.cell? ⟨B8, 0, none⟩ = some (.int .i64 x.kd) := blk_cell k8 0
  have y1 : w.cell? ⟨B8, 1, none⟩ = some (.int .i64 x.ph) := blk_cell k8 1
  have y2 : w.cell? ⟨B8, 2, none⟩ = some (.int .i64 x.rt) := blk_cell k8 2
  have y3 : w.cell? ⟨B8, 3, none⟩ = some (.int .i64 x.dr) := blk_cell k8 3
  have y4 : w.cell? ⟨B8, 4, none⟩ = some (.int .i64 x.wh) := blk_cell k8 4
  have y5 : w.cell? ⟨B8, 5, none⟩ = some (.int .i64 x.wk) := blk_cell k8 5
  have y6 : w.cell? ⟨B8, 6, none⟩ = some (.int .i64 x.ht) := blk_cell k8 6
  have y7 : w.cell? ⟨B8, 7, none⟩ = some (.int .i64 x.ch) := blk_cell k8 7
  have y8 : w.cell? ⟨B8, 8, none⟩ = some (.slice Ae x.es.length ce) := blk_cell k8 8
  have y9 : w.cell? ⟨B8, 9, none⟩ = some (.int .u64 seed) := blk_cell k8 9
  have y10 : w.cell? ⟨B8, 10, none⟩ = some (.slice Ah chs.length chc) := blk_cell k8 10
  have y11 : w.cell? ⟨B8, 11, none⟩ = some (.slice Ak cks.length ckc) := blk_cell k8 11
  have y12 : w.cell? ⟨B8, 12, none⟩ = some (.int .i64 (i : Int)) := blk_cell k8 12
  clear k5 k8 hM s1 s2 s3
  by_cases h1 : s < LO
  · rw [if_pos (Or.inl h1)]
    clear b51 b52 b53 b46 v1 v2 y0 y1 y2 y3 y4 y5 y6 y7 y8 y9 y10 y11 y12
    go_enter Tryd.func50, Tryd.ntmps50
    go_wp2
    go_ret
    exact ⟨rfl, hv⟩
  by_cases h2 : HI < s
  · rw [if_pos (Or.inr h2)]
    clear b51 b52 b53 b46 v1 v2 y0 y1 y2 y3 y4 y5 y6 y7 y8 y9 y10 y11 y12
    go_enter Tryd.func50, Tryd.ntmps50
    go_wp2
    go_ret
    exact ⟨rfl, hv⟩
  rw [if_neg (by omega)]
  go_enter Tryd.func50, Tryd.ntmps50
  go_upto_region 3 with fail
  clear h1 h2 hLO hHI
  go_cut [5] from 22 (fun s5 wx => ∃ g, s5 = .pointer (some ⟨g, 0, none⟩) ∧ wx.heap[g]? = some (.cells #[.int .i64 M1, .int .i64 M2] 35 (0, 0)) ∧ w.heap.size ≤ g ∧ Below w.heap.size w wx)
  case first =>
    have hw := Below.refl w.heap.size w
    have hS : ∀ w', Below w.heap.size w w' → ((w'.cell? ⟨B8, 0, none⟩ = some (.int .i64 x.kd) ∧ w'.cell? ⟨B8, 1, none⟩ = some (.int .i64 x.ph) ∧ w'.cell? ⟨B8, 2, none⟩ = some (.int .i64 x.rt) ∧ w'.cell? ⟨B8, 3, none⟩ = some (.int .i64 x.dr) ∧ w'.cell? ⟨B8, 4, none⟩ = some (.int .i64 x.wh) ∧ w'.cell? ⟨B8, 5, none⟩ = some (.int .i64 x.wk) ∧ w'.cell? ⟨B8, 6, none⟩ = some (.int .i64 x.ht) ∧ w'.cell? ⟨B8, 7, none⟩ = some (.int .i64 x.ch) ∧ w'.cell? ⟨B8, 8, none⟩ = some (.slice Ae x.es.length ce) ∧ w'.cell? ⟨B8, 9, none⟩ = some (.int .u64 seed) ∧ w'.cell? ⟨B8, 10, none⟩ = some (.slice Ah chs.length chc) ∧ w'.cell? ⟨B8, 11, none⟩ = some (.slice Ak cks.length ckc) ∧ w'.cell? ⟨B8, 12, none⟩ = some (.int .i64 (i : Int))) ∧ Below w.heap.size w w') := fun w' hB => ⟨⟨cell_on hB y0, cell_on hB y1, cell_on hB y2, cell_on hB y3, cell_on hB y4, cell_on hB y5, cell_on hB y6, cell_on hB y7, cell_on hB y8, cell_on hB y9, cell_on hB y10, cell_on hB y11, cell_on hB y12⟩, hB⟩
    go_region_held3 (fun w' => (w'.cell? ⟨B8, 0, none⟩ = some (.int .i64 x.kd) ∧ w'.cell? ⟨B8, 1, none⟩ = some (.int .i64 x.ph) ∧ w'.cell? ⟨B8, 2, none⟩ = some (.int .i64 x.rt) ∧ w'.cell? ⟨B8, 3, none⟩ = some (.int .i64 x.dr) ∧ w'.cell? ⟨B8, 4, none⟩ = some (.int .i64 x.wh) ∧ w'.cell? ⟨B8, 5, none⟩ = some (.int .i64 x.wk) ∧ w'.cell? ⟨B8, 6, none⟩ = some (.int .i64 x.ht) ∧ w'.cell? ⟨B8, 7, none⟩ = some (.int .i64 x.ch) ∧ w'.cell? ⟨B8, 8, none⟩ = some (.slice Ae x.es.length ce) ∧ w'.cell? ⟨B8, 9, none⟩ = some (.int .u64 seed) ∧ w'.cell? ⟨B8, 10, none⟩ = some (.slice Ah chs.length chc) ∧ w'.cell? ⟨B8, 11, none⟩ = some (.slice Ak cks.length ckc) ∧ w'.cell? ⟨B8, 12, none⟩ = some (.int .i64 (i : Int))) ∧ Below w.heap.size w w') (first | with_reducible exact hS _ (Below.refl _ _).drew | assumption | with_reducible exact hS _ hw | with_reducible exact hS _ (hw.alloc hw.size _) | with_reducible exact hS _ (hw.alloc hw.size _).drew | with_reducible exact hS _ ((hw.setCell (by first | (simp; done) | (simp; omega)) _).setCell (by first | (simp; done) | (simp; omega)) _))
      (first | (go_at_call 51; (first | (have hh := ‹(_ ∧ _ ∧ _ ∧ _ ∧ _ ∧ _ ∧ _ ∧ _ ∧ _ ∧ _ ∧ _ ∧ _ ∧ _) ∧ Below w.heap.size w _›; with_reducible refine (b51 _ hh.2).mono ?_) | with_reducible refine (b51 _ (Below.refl _ _).drew).mono ?_ | with_reducible refine (b51 _ hw).mono ?_); rintro e w' ⟨rfl, hB⟩; (have hh := ‹(_ ∧ _ ∧ _ ∧ _ ∧ _ ∧ _ ∧ _ ∧ _ ∧ _ ∧ _ ∧ _ ∧ _ ∧ _) ∧ Below w.heap.size w _›; replace hw := hh.2.trans (hB.mono hh.2.size)); have hz := hB.size; (try simp at hz); (first | (with_reducible have kg := al_on hB; have g0 := blk_cell kg 0; have g1 := blk_cell kg 1; have gf0 := blk_frozen kg 0; have gf1 := blk_frozen kg 1) | (with_reducible have kg := al_onD hB; have g0 := blk_cell kg 0; have g1 := blk_cell kg 1; have gf0 := blk_frozen kg 0; have gf1 := blk_frozen kg 1) | (have kg := blk_on hB kg; have g0 := blk_cell kg 0; have g1 := blk_cell kg 1; have gf0 := blk_frozen kg 0; have gf1 := blk_frozen kg 1) | skip)) | (go_at_call 52; (first | (have hh := ‹(_ ∧ _ ∧ _ ∧ _ ∧ _ ∧ _ ∧ _ ∧ _ ∧ _ ∧ _ ∧ _ ∧ _ ∧ _) ∧ Below w.heap.size w _›; with_reducible refine (b52 _ hh.2).mono ?_) | with_reducible refine (b52 _ (Below.refl _ _).drew).mono ?_ | with_reducible refine (b52 _ hw).mono ?_); rintro e w' ⟨rfl, hB⟩; (have hh := ‹(_ ∧ _ ∧ _ ∧ _ ∧ _ ∧ _ ∧ _ ∧ _ ∧ _ ∧ _ ∧ _ ∧ _ ∧ _) ∧ Below w.heap.size w _›; replace hw := hh.2.trans (hB.mono hh.2.size)); have hz := hB.size; (try simp at hz); (first | (with_reducible have kg := al_on hB; have g0 := blk_cell kg 0; have g1 := blk_cell kg 1; have gf0 := blk_frozen kg 0; have gf1 := blk_frozen kg 1) | (with_reducible have kg := al_onD hB; have g0 := blk_cell kg 0; have g1 := blk_cell kg 1; have gf0 := blk_frozen kg 0; have gf1 := blk_frozen kg 1) | (have kg := blk_on hB kg; have g0 := blk_cell kg 0; have g1 := blk_cell kg 1; have gf0 := blk_frozen kg 0; have gf1 := blk_frozen kg 1) | skip)) | (go_at_call 53; (first | (have hh := ‹(_ ∧ _ ∧ _ ∧ _ ∧ _ ∧ _ ∧ _ ∧ _ ∧ _ ∧ _ ∧ _ ∧ _ ∧ _) ∧ Below w.heap.size w _›; with_reducible refine (b53 _ hh.2).mono ?_) | with_reducible refine (b53 _ (Below.refl _ _).drew).mono ?_ | with_reducible refine (b53 _ hw).mono ?_); rintro e w' ⟨rfl, hB⟩; (have hh := ‹(_ ∧ _ ∧ _ ∧ _ ∧ _ ∧ _ ∧ _ ∧ _ ∧ _ ∧ _ ∧ _ ∧ _ ∧ _) ∧ Below w.heap.size w _›; replace hw := hh.2.trans (hB.mono hh.2.size)); have hz := hB.size; (try simp at hz); (first | (with_reducible have kg := al_on hB; have g0 := blk_cell kg 0; have g1 := blk_cell kg 1; have gf0 := blk_frozen kg 0; have gf1 := blk_frozen kg 1) | (with_reducible have kg := al_onD hB; have g0 := blk_cell kg 0; have g1 := blk_cell kg 1; have gf0 := blk_frozen kg 0; have gf1 := blk_frozen kg 1) | (have kg := blk_on hB kg; have g0 := blk_cell kg 0; have g1 := blk_cell kg 1; have gf0 := blk_frozen kg 0; have gf1 := blk_frozen kg 1) | skip)) | (go_at_call 46; (first | (have hh := ‹(_ ∧ _ ∧ _ ∧ _ ∧ _ ∧ _ ∧ _ ∧ _ ∧ _ ∧ _ ∧ _ ∧ _ ∧ _) ∧ Below w.heap.size w _›; with_reducible refine (b46 _ hh.2).mono ?_) | with_reducible refine (b46 _ (Below.refl _ _).drew).mono ?_ | with_reducible refine (b46 _ hw).mono ?_); rintro e w' ⟨rfl, hB⟩; (have hh := ‹(_ ∧ _ ∧ _ ∧ _ ∧ _ ∧ _ ∧ _ ∧ _ ∧ _ ∧ _ ∧ _ ∧ _ ∧ _) ∧ Below w.heap.size w _›; replace hw := hh.2.trans (hB.mono hh.2.size)); have hz := hB.size; (try simp at hz); (first | (with_reducible have kg := al_on hB; have g0 := blk_cell kg 0; have g1 := blk_cell kg 1; have gf0 := blk_frozen kg 0; have gf1 := blk_frozen kg 1) | (with_reducible have kg := al_onD hB; have g0 := blk_cell kg 0; have g1 := blk_cell kg 1; have gf0 := blk_frozen kg 0; have gf1 := blk_frozen kg 1) | (have kg := blk_on hB kg; have g0 := blk_cell kg 0; have g1 := blk_cell kg 1; have gf0 := blk_frozen kg 0; have gf1 := blk_frozen kg 1) | skip)))
    all_goals
      apply_assumption
      go_meet
      exact ⟨_, rfl, by first | exact al_new _ _ _ rfl | exact blk_put (blk_put kg 0 _ rfl) 1 _ rfl, by first | omega | (simp; done) | (simp; omega), by first | exact hw.alloc hw.size _ | exact (hw.alloc hw.size _).drew | exact (hw.setCell (by first | (simp; done) | (simp; omega)) _).setCell (by first | (simp; done) | (simp; omega)) _⟩
  case rest =>
  obtain ⟨g, rfl, hg2, hgs, hB⟩ := hcut
  rename World => wd
  replace m0 := cell_on hB m0
  replace m1 := cell_on hB m1
  have q0 : wd.cell? ⟨g, 0, none⟩ = some (.int .i64 M1) := blk_cell hg2 0
  have q1 : wd.cell? ⟨g, 1, none⟩ = some (.int .i64 M2) := blk_cell hg2 1
  clear hg2 b51 b52 b53 b46 v1 v2 hv y0 y1 y2 y3 y4 y5 y6 y7 y8 y9 y10 y11 y12
  by_cases g1 : mS < M1
  · go_wp2
    go_ret
    exact ⟨by simp [g1], hB⟩
  by_cases g2 : M1 = mS
  · subst g2
    go_wp2
    go_ret
    exact ⟨by simp, hB⟩
  · have g3 : (M1 == mS) = false := beq_eq_false_iff_ne.2 g2
    go_wp2
    go_ret
    exact ⟨by simp [g1, g2], hB⟩
end Go.Proofs.YtlfnnalepdjagaaDoor.C
