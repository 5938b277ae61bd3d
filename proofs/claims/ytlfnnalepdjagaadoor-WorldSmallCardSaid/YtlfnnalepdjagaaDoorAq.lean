/- The contracts of Runs, Phase and Shown. -/
import Derived.OwnWalk
import Derived.BigRegion
import Derived.Deep.RegionHeld3
import Derived.Test.YtlfnnalepdjagaaDoorAp
namespace Go.Proofs.YtlfnnalepdjagaaDoor.C
open Go.RowKit Go.Shelf Go.Maps Go.Proofs.YtlfnnalepdjagaaDoorW.PrintWords Go.Proofs.YtlfnnalepdjagaaDoorW.PrintLast Go.Proofs.YtlfnnalepdjagaaDoorW.PrintMore
set_option linter.unusedVariables false
set_option linter.unusedSimpArgs false
set_option maxHeartbeats 4000000 in
set_option maxRecDepth 100000 in
theorem found_at (seed : Int) (Ah : Option Addr) (chc : Nat) (Ak : Option Addr) (ckc : Nat) (chs : List T3) (cks : List Ck) (i : Nat) (hi : i < cks.length) (x : Ck) (hx : cks[i] = x) (s : Int) (w : World) (hL : Lim w) (hwf : WfK cks) (w0 : World) (hB0 : Below w0.heap.size w0 w) (hW : WAt 51 w0 Ah Ak chs cks) (hE : errS chs cks (i : Int) s = 0) :
    Calls Tryd.prog 55 #[woV seed Ah chs.length chc Ak cks.length ckc, .int .i64 (i : Int), .int .i64 s] w fun e w' => ∃ (Ae : Option Addr) (ce : Nat), e = .returned (.tuple #[wkV x Ae ce seed (.slice Ah chs.length chc) (.slice Ak cks.length ckc) (i : Int), .int .i64 0]) ∧ Kd.C k3 w0 Ae x.es.length x.es ∧ Below w.heap.size w w' := by
  refine (found_ok seed Ah chc Ak ckc chs cks (i : Int) s w hL hwf w0 hB0 hW hE).mono ?_
  rintro e w' ⟨i', hi', Ae, ce, hk, rfl, hC, hB⟩
  obtain rfl : i = i' := by omega
  subst hx
  exact ⟨Ae, ce, rfl, hC, hB⟩
set_option maxHeartbeats 4000000 in
set_option maxRecDepth 100000 in
theorem Runs_calls (seed : Int) (Ah : Option Addr) (chc : Nat) (Ak : Option Addr) (ckc : Nat) (chs : List T3) (cks : List Ck) (k s : Int) (w : World) (hL : Lim w) (hW : WAt 51 w Ah Ak chs cks) (hwf : WfK cks) :
    Calls Tryd.prog 26 #[woV seed Ah chs.length chc Ak cks.length ckc, .int .i64 k, .int .i64 s] w fun e w' => e = .returned (.tuple #[.bool (if errS chs cks k s = 0 then runsF (ckAt cks k).es s else false), .int .i64 (errS chs cks k s)]) ∧ Below w.heap.size w w' := by
  have hv := Below.refl w.heap.size w
  by_cases hE : errS chs cks k s = 0
  rotate_left
  · rw [if_neg hE]
    have c1 := fun W (hB : Below w.heap.size w W) => found_err seed Ah chc Ak ckc chs cks k s W (hL.below hB) (hW.below hB) hwf hE
    generalize errS chs cks k s = E at *
    clear hL hW hwf
    have d1 : (E == 0) = false := beq_eq_false_iff_ne.2 hE
    go_enter Tryd.func26, Tryd.ntmps26
    go_wp2_with fail
    obtain ⟨w1, hw1⟩ : ∃ w1, w.alloc (.cells #[.int .u64 seed, .slice Ah chs.length chc, .slice Ak cks.length ckc] 32) = w1 := ⟨_, rfl⟩
    try rw [hw1]
    have hB : Below w.heap.size w w1 := by rw [← hw1]; exact (Below.refl _ w).alloc (by first | exact Nat.le_refl _ | (simp; done) | (simp; omega)) _
    have kx : w1.heap[w.heap.size]? = some (.cells #[.int .u64 seed, .slice Ah chs.length chc, .slice Ak cks.length ckc] 32 (0, 0)) := by rw [← hw1]; exact al_new _ _ _ (by first | rfl | (simp; done) | (simp; omega))
    have x0 : w1.cell? ⟨w.heap.size, 0, none⟩ = some (.int .u64 seed) := blk_cell kx 0
    have x1 : w1.cell? ⟨w.heap.size, 1, none⟩ = some (.slice Ah chs.length chc) := blk_cell kx 1
    have x2 : w1.cell? ⟨w.heap.size, 2, none⟩ = some (.slice Ak cks.length ckc) := blk_cell kx 2
    clear kx
    replace hv := hv.trans (hB.mono hv.size)
    clear hB hw1
    refine (c1 _ hv).mono ?_
    rintro en w2 ⟨x, Ae, ce, sd, Ah2, Ak2, nh2, ch2, nk2, ck2, kk, rfl, hB⟩
    replace x0 := cell_on hB x0
    replace x1 := cell_on hB x1
    replace x2 := cell_on hB x2
    replace hv := hv.trans (hB.mono hv.size)
    clear hB c1
    go_wp2_with fail
    go_ret2
    exact ⟨rfl, hv.alloc (by first | exact Nat.le_refl _ | exact hv.size) _⟩
  have hz := errS_zero hE
  have hkz := errK_zero hz.1
  obtain ⟨i, rfl⟩ : ∃ i : Nat, k = i := ⟨k.toNat, by omega⟩
  have hi : i < cks.length := by omega
  obtain ⟨hO, hEv, q, hq, hxq, hc⟩ := hkz.1.at hi
  have hs := hz.2
  have hik : 0 ≤ (i : Int) ∧ (i : Int) ≤ 1000000000000000 := by have := hkz.1.nk; omega
  clear hkz hz
  rw [if_pos hE, hE, ckAt_of hi]
  obtain ⟨x, hx⟩ : ∃ x, cks[i] = x := ⟨_, rfl⟩
  rw [hx] at hxq hO hEv ⊢
  have HXQ := Aside0.mk hxq
  clear hxq
  have c1 := fun W (hB : Below w.heap.size w W) => found_at seed Ah chc Ak ckc chs cks i hi x hx s W (hL.below hB) hwf w hB hW hE
  clear hL hwf
  go_enter Tryd.func26, Tryd.ntmps26
  go_wp2_with fail
  obtain ⟨w1, hw1⟩ : ∃ w1, w.alloc (.cells #[.int .u64 seed, .slice Ah chs.length chc, .slice Ak cks.length ckc] 32) = w1 := ⟨_, rfl⟩
  try rw [hw1]
  have hB : Below w.heap.size w w1 := by rw [← hw1]; exact (Below.refl _ w).alloc (by first | exact Nat.le_refl _ | (simp; done) | (simp; omega)) _
  have kx : w1.heap[w.heap.size]? = some (.cells #[.int .u64 seed, .slice Ah chs.length chc, .slice Ak cks.length ckc] 32 (0, 0)) := by rw [← hw1]; exact al_new _ _ _ (by first | rfl | (simp; done) | (simp; omega))
  have x0 : w1.cell? ⟨w.heap.size, 0, none⟩ = some (.int .u64 seed) := blk_cell kx 0
  have x1 : w1.cell? ⟨w.heap.size, 1, none⟩ = some (.slice Ah chs.length chc) := blk_cell kx 1
  have x2 : w1.cell? ⟨w.heap.size, 2, none⟩ = some (.slice Ak cks.length ckc) := blk_cell kx 2
  clear kx
  replace hv := hv.trans (hB.mono hv.size)
  clear hB hw1
  refine (c1 _ hv).mono ?_
  rintro en w2 ⟨Ae, ce, rfl, hC, hB⟩
  replace x0 := cell_on hB x0
  replace x1 := cell_on hB x1
  replace x2 := cell_on hB x2
  replace hv := hv.trans (hB.mono hv.size)
  clear hB c1
  go_wp2_with fail
  obtain ⟨w3, hw3⟩ : ∃ w3, w2.alloc (.cells #[.int .i64 x.kd, .int .i64 x.ph, .int .i64 x.rt, .int .i64 x.dr, .int .i64 x.wh, .int .i64 x.wk, .int .i64 x.ht, .int .i64 x.ch, .slice Ae x.es.length ce, .int .u64 seed, .slice Ah chs.length chc, .slice Ak cks.length ckc, .int .i64 (i : Int)] 97) = w3 := ⟨_, rfl⟩
  try rw [hw3]
  have hB : Below w2.heap.size w2 w3 := by rw [← hw3]; exact (Below.refl _ w2).alloc (by first | exact Nat.le_refl _ | (simp; done) | (simp; omega)) _
  have ky : w3.heap[w2.heap.size]? = some (.cells #[.int .i64 x.kd, .int .i64 x.ph, .int .i64 x.rt, .int .i64 x.dr, .int .i64 x.wh, .int .i64 x.wk, .int .i64 x.ht, .int .i64 x.ch, .slice Ae x.es.length ce, .int .u64 seed, .slice Ah chs.length chc, .slice Ak cks.length ckc, .int .i64 (i : Int)] 97 (0, 0)) := by rw [← hw3]; exact al_new _ _ _ (by first | rfl | (simp; done) | (simp; omega))
  have y0 : w3.cell? ⟨w2.heap.size, 0, none⟩ = some (.int .i64 x.kd) := blk_cell ky 0
  have y1 : w3.cell? ⟨w2.heap.size, 1, none⟩ = some (.int .i64 x.ph) := blk_cell ky 1
  have y2 : w3.cell? ⟨w2.heap.size, 2, none⟩ = some (.int .i64 x.rt) := blk_cell ky 2
  have y3 : w3.cell? ⟨w2.heap.size, 3, none⟩ = some (.int .i64 x.dr) := blk_cell ky 3
  have y4 : w3.cell? ⟨w2.heap.size, 4, none⟩ = some (.int .i64 x.wh) := blk_cell ky 4
  have y5 : w3.cell? ⟨w2.heap.size, 5, none⟩ = some (.int .i64 x.wk) := blk_cell ky 5
  have y6 : w3.cell? ⟨w2.heap.size, 6, none⟩ = some (.int .i64 x.ht) := blk_cell ky 6
  have y7 : w3.cell? ⟨w2.heap.size, 7, none⟩ = some (.int .i64 x.ch) := blk_cell ky 7
  have y8 : w3.cell? ⟨w2.heap.size, 8, none⟩ = some (.slice Ae x.es.length ce) := blk_cell ky 8
  have y9 : w3.cell? ⟨w2.heap.size, 9, none⟩ = some (.int .u64 seed) := blk_cell ky 9
  have y10 : w3.cell? ⟨w2.heap.size, 10, none⟩ = some (.slice Ah chs.length chc) := blk_cell ky 10
  have y11 : w3.cell? ⟨w2.heap.size, 11, none⟩ = some (.slice Ak cks.length ckc) := blk_cell ky 11
  have y12 : w3.cell? ⟨w2.heap.size, 12, none⟩ = some (.int .i64 (i : Int)) := blk_cell ky 12
  clear ky
  replace x0 := cell_on hB x0
  replace x1 := cell_on hB x1
  replace x2 := cell_on hB x2
  replace hv := hv.trans (hB.mono hv.size)
  clear hB hw3
  go_wp2_with fail
  refine (runs_calls x Ae ce seed (.slice Ah chs.length chc) (.slice Ak cks.length ckc) (i : Int) s _ (Kd.C_below hC hv) hEv.what).mono ?_
  rintro en w4 ⟨rfl, hB⟩
  replace hv := hv.trans (hB.mono hv.size)
  clear hB
  go_wp2_with fail
  go_ret2
  exact ⟨rfl, hv⟩
theorem phaseF_of {chs : List T3} {cks : List Ck} {i q : Nat} {x : Ck} (hi : i < cks.length) (hx : cks[i] = x) (hq : q < chs.length) (hxq : x.ch = q) (seed s : Int) : phaseF seed chs cks (i : Int) s = stillF x chs[q] s + walkedF seed (i : Int) x.wk 0 s := by
  unfold phaseF; rw [ckAt_of hi, hx, room_of hq hxq]
set_option maxHeartbeats 4000000 in
set_option maxRecDepth 100000 in
theorem Phase_calls (seed : Int) (Ah : Option Addr) (chc : Nat) (Ak : Option Addr) (ckc : Nat) (chs : List T3) (cks : List Ck) (k s : Int) (w : World) (hL : Lim w) (hW : WAt 51 w Ah Ak chs cks) (hwf : WfK cks) :
    Calls Tryd.prog 18 #[woV seed Ah chs.length chc Ak cks.length ckc, .int .i64 k, .int .i64 s] w fun e w' => e = .returned (.tuple #[.int .i64 (phaseR seed chs cks k s).1, .int .i64 (phaseR seed chs cks k s).2]) ∧ Below w.heap.size w w' := by
  have hv := Below.refl w.heap.size w
  unfold phaseR
  by_cases hE : errS chs cks k s = 0
  rotate_left
  · rw [if_neg hE]
    have c1 := fun W (hB : Below w.heap.size w W) => found_err seed Ah chc Ak ckc chs cks k s W (hL.below hB) (hW.below hB) hwf hE
    generalize errS chs cks k s = E at *
    clear hL hW hwf
    have d1 : (E == 0) = false := beq_eq_false_iff_ne.2 hE
    go_enter Tryd.func18, Tryd.ntmps18
    go_wp2_with fail
    obtain ⟨w1, hw1⟩ : ∃ w1, w.alloc (.cells #[.int .u64 seed, .slice Ah chs.length chc, .slice Ak cks.length ckc] 32) = w1 := ⟨_, rfl⟩
    try rw [hw1]
    have hB : Below w.heap.size w w1 := by rw [← hw1]; exact (Below.refl _ w).alloc (by first | exact Nat.le_refl _ | (simp; done) | (simp; omega)) _
    have kx : w1.heap[w.heap.size]? = some (.cells #[.int .u64 seed, .slice Ah chs.length chc, .slice Ak cks.length ckc] 32 (0, 0)) := by rw [← hw1]; exact al_new _ _ _ (by first | rfl | (simp; done) | (simp; omega))
    have x0 : w1.cell? ⟨w.heap.size, 0, none⟩ = some (.int .u64 seed) := blk_cell kx 0
    have x1 : w1.cell? ⟨w.heap.size, 1, none⟩ = some (.slice Ah chs.length chc) := blk_cell kx 1
    have x2 : w1.cell? ⟨w.heap.size, 2, none⟩ = some (.slice Ak cks.length ckc) := blk_cell kx 2
    clear kx
    replace hv := hv.trans (hB.mono hv.size)
    clear hB hw1
    refine (c1 _ hv).mono ?_
    rintro en w2 ⟨x, Ae, ce, sd, Ah2, Ak2, nh2, ch2, nk2, ck2, kk, rfl, hB⟩
    replace x0 := cell_on hB x0
    replace x1 := cell_on hB x1
    replace x2 := cell_on hB x2
    replace hv := hv.trans (hB.mono hv.size)
    clear hB c1
    go_wp2_with fail
    go_ret2
    exact ⟨rfl, hv.alloc (by first | exact Nat.le_refl _ | exact hv.size) _⟩
  have hz := errS_zero hE
  have hkz := errK_zero hz.1
  obtain ⟨i, rfl⟩ : ∃ i : Nat, k = i := ⟨k.toNat, by omega⟩
  have hi : i < cks.length := by omega
  obtain ⟨hO, hEv, q, hq, hxq, hc⟩ := hkz.1.at hi
  have hs := hz.2
  have hik : 0 ≤ (i : Int) ∧ (i : Int) ≤ 1000000000000000 := by have := hkz.1.nk; omega
  clear hkz hz
  rw [if_pos hE, phaseF_of hi rfl hq hxq]
  obtain ⟨x, hx⟩ : ∃ x, cks[i] = x := ⟨_, rfl⟩
  rw [hx] at hxq hO hEv ⊢
  have HXQ := Aside0.mk hxq
  clear hxq
  have s1 := still_b hO hEv hc hs
  have s2 := walked_b (seed := seed) (k := (i : Int)) (fr := 0) hO (Int.le_refl 0) hs
  have hwk : 0 ≤ x.wk ∧ x.wk ≤ 100000000000000 := ⟨hO.wk.1, by have := (rt_b hO).2.2.2; omega⟩
  have a51 := fun (Ae : Option Addr) (ce : Nat) (W : World) (hC : Kd.C k3 W Ae x.es.length x.es) (hH : Kd.C k3 W Ah chs.length chs) => still_calls x Ae ce seed Ah chc (.slice Ak cks.length ckc) (i : Int) s chs q hq W HXQ.out hC hH chs.length hO hEv hc hs
  have a52 := fun (Ae : Option Addr) (ce : Nat) (W : World) => walked_calls x.kd x.ph x.rt x.dr x.wh x.wk x.ht x.ch (.slice Ae x.es.length ce) seed (.slice Ah chs.length chc) (.slice Ak cks.length ckc) (i : Int) 0 s W (by omega) hs hik hwk
  obtain ⟨SV, hSV⟩ : ∃ v, stillF x chs[q] s = v := ⟨_, rfl⟩
  obtain ⟨WV, hWV⟩ : ∃ v, walkedF seed (i : Int) x.wk 0 s = v := ⟨_, rfl⟩
  rw [hSV] at s1 a51 ⊢
  rw [hWV] at s2 a52 ⊢
  clear hSV hWV
  have v1 := C.wr (SV + WV) (by omega) (by omega)
  have c1 := fun W (hB : Below w.heap.size w W) => found_at seed Ah chc Ak ckc chs cks i hi x hx s W (hL.below hB) hwf w hB hW hE
  clear hL hwf
  go_enter Tryd.func18, Tryd.ntmps18
  go_wp2_with fail
  obtain ⟨w1, hw1⟩ : ∃ w1, w.alloc (.cells #[.int .u64 seed, .slice Ah chs.length chc, .slice Ak cks.length ckc] 32) = w1 := ⟨_, rfl⟩
  try rw [hw1]
  have hB : Below w.heap.size w w1 := by rw [← hw1]; exact (Below.refl _ w).alloc (by first | exact Nat.le_refl _ | (simp; done) | (simp; omega)) _
  have kx : w1.heap[w.heap.size]? = some (.cells #[.int .u64 seed, .slice Ah chs.length chc, .slice Ak cks.length ckc] 32 (0, 0)) := by rw [← hw1]; exact al_new _ _ _ (by first | rfl | (simp; done) | (simp; omega))
  have x0 : w1.cell? ⟨w.heap.size, 0, none⟩ = some (.int .u64 seed) := blk_cell kx 0
  have x1 : w1.cell? ⟨w.heap.size, 1, none⟩ = some (.slice Ah chs.length chc) := blk_cell kx 1
  have x2 : w1.cell? ⟨w.heap.size, 2, none⟩ = some (.slice Ak cks.length ckc) := blk_cell kx 2
  clear kx
  replace hv := hv.trans (hB.mono hv.size)
  clear hB hw1
  refine (c1 _ hv).mono ?_
  rintro en w2 ⟨Ae, ce, rfl, hC, hB⟩
  replace x0 := cell_on hB x0
  replace x1 := cell_on hB x1
  replace x2 := cell_on hB x2
  replace hv := hv.trans (hB.mono hv.size)
  clear hB c1
  go_wp2_with fail
  obtain ⟨w3, hw3⟩ : ∃ w3, w2.alloc (.cells #[.int .i64 x.kd, .int .i64 x.ph, .int .i64 x.rt, .int .i64 x.dr, .int .i64 x.wh, .int .i64 x.wk, .int .i64 x.ht, .int .i64 x.ch, .slice Ae x.es.length ce, .int .u64 seed, .slice Ah chs.length chc, .slice Ak cks.length ckc, .int .i64 (i : Int)] 97) = w3 := ⟨_, rfl⟩
  try rw [hw3]
  have hB : Below w2.heap.size w2 w3 := by rw [← hw3]; exact (Below.refl _ w2).alloc (by first | exact Nat.le_refl _ | (simp; done) | (simp; omega)) _
  have ky : w3.heap[w2.heap.size]? = some (.cells #[.int .i64 x.kd, .int .i64 x.ph, .int .i64 x.rt, .int .i64 x.dr, .int .i64 x.wh, .int .i64 x.wk, .int .i64 x.ht, .int .i64 x.ch, .slice Ae x.es.length ce, .int .u64 seed, .slice Ah chs.length chc, .slice Ak cks.length ckc, .int .i64 (i : Int)] 97 (0, 0)) := by rw [← hw3]; exact al_new _ _ _ (by first | rfl | (simp; done) | (simp; omega))
  have y0 : w3.cell? ⟨w2.heap.size, 0, none⟩ = some (.int .i64 x.kd) := blk_cell ky 0
  have y1 : w3.cell? ⟨w2.heap.size, 1, none⟩ = some (.int .i64 x.ph) := blk_cell ky 1
  have y2 : w3.cell? ⟨w2.heap.size, 2, none⟩ = some (.int .i64 x.rt) := blk_cell ky 2
  have y3 : w3.cell? ⟨w2.heap.size, 3, none⟩ = some (.int .i64 x.dr) := blk_cell ky 3
  have y4 : w3.cell? ⟨w2.heap.size, 4, none⟩ = some (.int .i64 x.wh) := blk_cell ky 4
  have y5 : w3.cell? ⟨w2.heap.size, 5, none⟩ = some (.int .i64 x.wk) := blk_cell ky 5
  have y6 : w3.cell? ⟨w2.heap.size, 6, none⟩ = some (.int .i64 x.ht) := blk_cell ky 6
  have y7 : w3.cell? ⟨w2.heap.size, 7, none⟩ = some (.int .i64 x.ch) := blk_cell ky 7
  have y8 : w3.cell? ⟨w2.heap.size, 8, none⟩ = some (.slice Ae x.es.length ce) := blk_cell ky 8
  have y9 : w3.cell? ⟨w2.heap.size, 9, none⟩ = some (.int .u64 seed) := blk_cell ky 9
  have y10 : w3.cell? ⟨w2.heap.size, 10, none⟩ = some (.slice Ah chs.length chc) := blk_cell ky 10
  have y11 : w3.cell? ⟨w2.heap.size, 11, none⟩ = some (.slice Ak cks.length ckc) := blk_cell ky 11
  have y12 : w3.cell? ⟨w2.heap.size, 12, none⟩ = some (.int .i64 (i : Int)) := blk_cell ky 12
  clear ky
  replace x0 := cell_on hB x0
  replace x1 := cell_on hB x1
  replace x2 := cell_on hB x2
  replace hv := hv.trans (hB.mono hv.size)
  clear hB hw3
  have hH := hW.h
  have b51 := fun W (hB : Below w3.heap.size w3 W) => a51 Ae ce W (Kd.C_below hC (hv.trans (hB.mono hv.size))) (Kd.C_below hH (hv.trans (hB.mono hv.size)))
  have b52 := fun W (hB : Below w3.heap.size w3 W) => a52 Ae ce W
  clear a51 a52
  go_wp2_with fail
  have hS : ∀ w', Below w3.heap.size w3 w' → ((w'.cell? ⟨w2.heap.size, 0, none⟩ = some (.int .i64 x.kd) ∧ w'.cell? ⟨w2.heap.size, 1, none⟩ = some (.int .i64 x.ph) ∧ w'.cell? ⟨w2.heap.size, 2, none⟩ = some (.int .i64 x.rt) ∧ w'.cell? ⟨w2.heap.size, 3, none⟩ = some (.int .i64 x.dr) ∧ w'.cell? ⟨w2.heap.size, 4, none⟩ = some (.int .i64 x.wh) ∧ w'.cell? ⟨w2.heap.size, 5, none⟩ = some (.int .i64 x.wk) ∧ w'.cell? ⟨w2.heap.size, 6, none⟩ = some (.int .i64 x.ht) ∧ w'.cell? ⟨w2.heap.size, 7, none⟩ = some (.int .i64 x.ch) ∧ w'.cell? ⟨w2.heap.size, 8, none⟩ = some (.slice Ae x.es.length ce) ∧ w'.cell? ⟨w2.heap.size, 9, none⟩ = some (.int .u64 seed) ∧ w'.cell? ⟨w2.heap.size, 10, none⟩ = some (.slice Ah chs.length chc) ∧ w'.cell? ⟨w2.heap.size, 11, none⟩ = some (.slice Ak cks.length ckc) ∧ w'.cell? ⟨w2.heap.size, 12, none⟩ = some (.int .i64 (i : Int))) ∧ Below w3.heap.size w3 w') := fun w' hB => ⟨⟨cell_on hB y0, cell_on hB y1, cell_on hB y2, cell_on hB y3, cell_on hB y4, cell_on hB y5, cell_on hB y6, cell_on hB y7, cell_on hB y8, cell_on hB y9, cell_on hB y10, cell_on hB y11, cell_on hB y12⟩, hB⟩
  go_region_held3 (fun w' => (w'.cell? ⟨w2.heap.size, 0, none⟩ = some (.int .i64 x.kd) ∧ w'.cell? ⟨w2.heap.size, 1, none⟩ = some (.int .i64 x.ph) ∧ w'.cell? ⟨w2.heap.size, 2, none⟩ = some (.int .i64 x.rt) ∧ w'.cell? ⟨w2.heap.size, 3, none⟩ = some (.int .i64 x.dr) ∧ w'.cell? ⟨w2.heap.size, 4, none⟩ = some (.int .i64 x.wh) ∧ w'.cell? ⟨w2.heap.size, 5, none⟩ = some (.int .i64 x.wk) ∧ w'.cell? ⟨w2.heap.size, 6, none⟩ = some (.int .i64 x.ht) ∧ w'.cell? ⟨w2.heap.size, 7, none⟩ = some (.int .i64 x.ch) ∧ w'.cell? ⟨w2.heap.size, 8, none⟩ = some (.slice Ae x.es.length ce) ∧ w'.cell? ⟨w2.heap.size, 9, none⟩ = some (.int .u64 seed) ∧ w'.cell? ⟨w2.heap.size, 10, none⟩ = some (.slice Ah chs.length chc) ∧ w'.cell? ⟨w2.heap.size, 11, none⟩ = some (.slice Ak cks.length ckc) ∧ w'.cell? ⟨w2.heap.size, 12, none⟩ = some (.int .i64 (i : Int))) ∧ Below w3.heap.size w3 w') (first | exact hS _ (Below.refl _ _).drew | assumption | (have hh := ‹(_ ∧ _ ∧ _ ∧ _ ∧ _ ∧ _ ∧ _ ∧ _ ∧ _ ∧ _ ∧ _ ∧ _ ∧ _) ∧ Below w3.heap.size w3 _›; exact hS _ (hh.2.trans (hB.mono hh.2.size))))
    (first | (go_at_call 51; (first | (have hh := ‹(_ ∧ _ ∧ _ ∧ _ ∧ _ ∧ _ ∧ _ ∧ _ ∧ _ ∧ _ ∧ _ ∧ _ ∧ _) ∧ Below w3.heap.size w3 _›; with_reducible refine (b51 _ hh.2).mono ?_) | with_reducible refine (b51 _ (Below.refl _ _).drew).mono ?_ | with_reducible refine (b51 _ (Below.refl _ _)).mono ?_); rintro e w' ⟨rfl, hB⟩) | (go_at_call 52; (first | (have hh := ‹(_ ∧ _ ∧ _ ∧ _ ∧ _ ∧ _ ∧ _ ∧ _ ∧ _ ∧ _ ∧ _ ∧ _ ∧ _) ∧ Below w3.heap.size w3 _›; with_reducible refine (b52 _ hh.2).mono ?_) | with_reducible refine (b52 _ (Below.refl _ _).drew).mono ?_ | with_reducible refine (b52 _ (Below.refl _ _)).mono ?_); rintro e w' ⟨rfl, hB⟩))
  rename_i hHeld
  have hB := hHeld.2
  clear hHeld hS b51 b52
  clear y0 y1 y2 y3 y4 y5 y6 y7 y8 y9 y10 y11 y12
  go_wp2
  go_ret2
  exact ⟨rfl, hv.trans (hB.mono hv.size)⟩
end Go.Proofs.YtlfnnalepdjagaaDoor.C
