/- The contracts of sort.Search and of Back. -/
import Derived.OwnWalk
import Derived.BigRegion
import Derived.Deep.RegionHeld3
import Derived.Test.YtlfnnalepdjagaaDoorAt
namespace Go.Proofs.YtlfnnalepdjagaaDoor.C
open Go.RowKit Go.Shelf Go.Maps Go.Proofs.YtlfnnalepdjagaaDoorW.PrintWords Go.Proofs.YtlfnnalepdjagaaDoorW.PrintLast Go.Proofs.YtlfnnalepdjagaaDoorW.PrintMore
set_option linter.unusedVariables false
set_option linter.unusedSimpArgs false
set_option maxHeartbeats 4000000 in
set_option maxRecDepth 100000 in
theorem search_calls (n : Int) (hn : 0 ≤ n ∧ n ≤ 1000000000) (g : Nat) (cb : Array Value) (eg : ∀ args w, (callFunc g args).run Tryd.prog w = .ok (.enter g args) w) (p : Int → Bool) (w : World)
    (HP : ∀ W s, 0 ≤ s → s < n → Below w.heap.size w W → Calls Tryd.prog g (#[.int .i64 s] ++ cb) W fun e W' => e = .returned (.bool (p s)) ∧ Below W.heap.size W W') :
    Calls Tryd.prog 49 #[.int .i64 n, .func (.func g) #[] cb] w fun e w' => ∃ r, e = .returned (.int .i64 r) ∧ 0 ≤ r ∧ r ≤ n ∧ (0 < r → p (r - 1) = false) ∧ (r < n → p r = true) ∧ Below w.heap.size w w' := by
  have H := Aside0.mk HP
  clear HP
  go_enter Tryd.func49, Tryd.ntmps49
  go_wp2
  go_loopw [5, 6] (fun v5 v6 wr => ∃ i j : Int, v5 = .int .i64 i ∧ v6 = .int .i64 j ∧ 0 ≤ i ∧ i ≤ j ∧ j ≤ n ∧ Aside0 (0 < i → p (i - 1) = false) ∧ Aside0 (j < n → p j = true) ∧ Aside0 (Below w.heap.size w wr))
    (fun v5 v6 _ => (intOf v6 - intOf v5).toNat)
  case atStart => exact ⟨0, n, rfl, rfl, by omega, by omega, by omega, ⟨fun h => absurd h (by omega)⟩, ⟨fun h => absurd h (by omega)⟩, ⟨Below.refl _ _⟩⟩
  case round =>
    obtain ⟨i, j, rfl, rfl, h0, hij, hjn, HI, HJ, HB⟩ := hrel
    by_cases hlt : i < j
    · have u1 := C.wr (i + j) (by omega) (by omega)
      have u2 : IntKind.u64.wrap (i + j) = i + j := by rw [IntKind.wrap_u64]; omega
      obtain ⟨h, hh⟩ : ∃ h, (i + j) / 2 = h := ⟨_, rfl⟩
      have u3 := C.wr h (by omega) (by omega)
      have u4 : IntKind.u64.wrap h = h := by rw [IntKind.wrap_u64]; omega
      have u5 := C.wr (h + 1) (by omega) (by omega)
      have hcall := H.out wr h (by omega) (by omega) HB.out
      cases hp : p h with
      | false =>
        rw [hp] at hcall
        have HPK := Aside0.mk hp
        clear hp
        go_wp2_with (go_at_fn g; refine hcall.mono ?_; rintro e w' ⟨rfl, hB1⟩)
        go_roundw
        case rel => exact ⟨h + 1, j, rfl, rfl, by omega, by omega, by omega, ⟨fun _ => by rw [show h + 1 - 1 = h by omega]; exact HPK.out⟩, HJ, ⟨HB.out.trans (hB1.mono HB.out.size)⟩⟩
        case measure => simp [intOf]; omega
      | true =>
        rw [hp] at hcall
        have HPK := Aside0.mk hp
        clear hp
        go_wp2_with (go_at_fn g; refine hcall.mono ?_; rintro e w' ⟨rfl, hB1⟩)
        go_roundw
        case rel => exact ⟨i, h, rfl, rfl, by omega, by omega, by omega, HI, ⟨fun _ => HPK.out⟩, ⟨HB.out.trans (hB1.mono HB.out.size)⟩⟩
        case measure => simp [intOf]; omega
    · obtain rfl : i = j := by omega
      go_wp2
      go_ret
      exact ⟨i, rfl, h0, hjn, HI.out, HJ.out, HB.out⟩
/-- The last second ahead of n at which a clock runs. -/
def lastRunF (es : List T3) : Nat → Int × Int
  | 0 => (0, 4)
  | n + 1 => if runsF es (n : Int) then ((n : Int), 0) else lastRunF es n
def laterAt (seed : Int) (chs : List T3) (cks : List Ck) (k mS mF s : Int) : Bool := laterB mS mF s (shownF seed chs cks k s)
set_option maxHeartbeats 4000000 in
set_option maxRecDepth 100000 in
theorem Back_err (seed : Int) (Ah : Option Addr) (chc : Nat) (Ak : Option Addr) (ckc : Nat) (chs : List T3) (cks : List Ck) (k mS mF : Int) (w : World) (hL : Lim w) (hW : WAt 51 w Ah Ak chs cks) (hwf : WfK cks) (hE : errK chs cks k ≠ 0) :
    Calls Tryd.prog 15 #[woV seed Ah chs.length chc Ak cks.length ckc, .int .i64 k, .agg #[.int .i64 mS, .int .i64 mF]] w fun e w' => e = .returned (.tuple #[.int .i64 0, .int .i64 (errK chs cks k)]) ∧ Below w.heap.size w w' := by
  have hv := Below.refl w.heap.size w
  have c1 := fun W (hB : Below w.heap.size w W) => find_err seed Ah chc Ak ckc chs cks k W (hL.below hB) (hW.below hB) hwf hE
  generalize errK chs cks k = E at *
  clear hL hW hwf
  have d1 : (E == 0) = false := beq_eq_false_iff_ne.2 hE
  go_enter Tryd.func15, Tryd.ntmps15
  go_wp2_with fail
  obtain ⟨w1, hw1⟩ : ∃ w1, (w.alloc (.cells #[.int .u64 seed, .slice Ah chs.length chc, .slice Ak cks.length ckc] 32)).alloc (.cells #[.int .i64 mS, .int .i64 mF] 35) = w1 := ⟨_, rfl⟩
  try rw [hw1]
  have hB : Below w.heap.size w w1 := by rw [← hw1]; exact ((Below.refl _ w).alloc (by first | exact Nat.le_refl _ | (simp; done) | (simp; omega)) _).alloc (by first | exact Nat.le_refl _ | (simp; done) | (simp; omega)) _
  have kx : w1.heap[w.heap.size]? = some (.cells #[.int .u64 seed, .slice Ah chs.length chc, .slice Ak cks.length ckc] 32 (0, 0)) := by rw [← hw1]; exact al_old (al_new _ _ _ (by first | rfl | (simp; done) | (simp; omega)))
  have x0 : w1.cell? ⟨w.heap.size, 0, none⟩ = some (.int .u64 seed) := blk_cell kx 0
  have x1 : w1.cell? ⟨w.heap.size, 1, none⟩ = some (.slice Ah chs.length chc) := blk_cell kx 1
  have x2 : w1.cell? ⟨w.heap.size, 2, none⟩ = some (.slice Ak cks.length ckc) := blk_cell kx 2
  clear kx
  have km : w1.heap[w.heap.size + 1]? = some (.cells #[.int .i64 mS, .int .i64 mF] 35 (0, 0)) := by rw [← hw1]; exact al_new _ _ _ (by first | rfl | (simp; done) | (simp; omega))
  have m0 : w1.cell? ⟨w.heap.size + 1, 0, none⟩ = some (.int .i64 mS) := blk_cell km 0
  have m1 : w1.cell? ⟨w.heap.size + 1, 1, none⟩ = some (.int .i64 mF) := blk_cell km 1
  clear km
  replace hv := hv.trans (hB.mono hv.size)
  clear hB hw1
  refine (c1 _ hv).mono ?_
  rintro en w2 ⟨rfl, hB⟩
  replace x0 := cell_on hB x0
  replace x1 := cell_on hB x1
  replace x2 := cell_on hB x2
  replace m0 := cell_on hB m0
  replace m1 := cell_on hB m1
  replace hv := hv.trans (hB.mono hv.size)
  clear hB c1
  go_wp2_with fail
  go_ret2
  exact ⟨rfl, hv.alloc (by first | exact Nat.le_refl _ | exact hv.size) _⟩

theorem find_at (seed : Int) (Ah : Option Addr) (chc : Nat) (Ak : Option Addr) (ckc : Nat) (chs : List T3) (cks : List Ck) (i : Nat) (hi : i < cks.length) (x : Ck) (hx : cks[i] = x) (w : World) (hL : Lim w) (hwf : WfK cks) (w0 : World) (hB0 : Below w0.heap.size w0 w) (hW : WAt 51 w0 Ah Ak chs cks) (hE : errK chs cks (i : Int) = 0) :
    Calls Tryd.prog 47 #[woV seed Ah chs.length chc Ak cks.length ckc, .int .i64 (i : Int)] w fun e w' => ∃ (Ae : Option Addr) (ce : Nat), e = .returned (.tuple #[wkV x Ae ce seed (.slice Ah chs.length chc) (.slice Ak cks.length ckc) (i : Int), .int .i64 0]) ∧ Kd.C k3 w0 Ae x.es.length x.es ∧ Below w.heap.size w w' := by
  refine (find_ok seed Ah chc Ak ckc chs cks (i : Int) w hL hwf w0 hB0 hW hE).mono ?_
  rintro e w' ⟨i', hi', Ae, ce, hk, rfl, hC, hB⟩
  obtain rfl : i = i' := by omega
  subst hx
  exact ⟨Ae, ce, rfl, hC, hB⟩
set_option maxHeartbeats 4000000 in
set_option maxRecDepth 100000 in
theorem Back_bad (seed : Int) (Ah : Option Addr) (chc : Nat) (Ak : Option Addr) (ckc : Nat) (chs : List T3) (cks : List Ck) (k mS mF : Int) (w : World) (hL : Lim w) (hW : WAt 51 w Ah Ak chs cks) (hwf : WfK cks) (hE : errK chs cks k = 0) (hF : inW mF 0 999999999999999 = false) :
    Calls Tryd.prog 15 #[woV seed Ah chs.length chc Ak cks.length ckc, .int .i64 k, .agg #[.int .i64 mS, .int .i64 mF]] w fun e w' => e = .returned (.tuple #[.int .i64 0, .int .i64 1]) ∧ Below w.heap.size w w' := by
  have hv := Below.refl w.heap.size w
  have hkz := errK_zero hE
  obtain ⟨i, rfl⟩ : ∃ i : Nat, k = i := ⟨k.toNat, by omega⟩
  have hi : i < cks.length := by omega
  obtain ⟨hO, hEv, q, hq, hxq, hc⟩ := hkz.1.at hi
  have hik : 0 ≤ (i : Int) ∧ (i : Int) ≤ 1000000000000000 := by have := hkz.1.nk; omega
  clear hkz
  obtain ⟨x, hx⟩ : ∃ x, cks[i] = x := ⟨_, rfl⟩
  rw [hx] at hxq hO hEv
  have c48 := fun W => inW_calls mF 0 999999999999999 W
  rw [hF] at c48
  clear hF
  have c1 := fun W (hB : Below w.heap.size w W) => find_at seed Ah chc Ak ckc chs cks i hi x hx W (hL.below hB) hwf w hB hW hE
  have hH := hW.h
  have HXQ := Aside0.mk hxq
  clear hL hwf hW hE hxq
  go_enter Tryd.func15, Tryd.ntmps15
  go_wp2_with fail
  obtain ⟨w1, hw1⟩ : ∃ w1, (w.alloc (.cells #[.int .u64 seed, .slice Ah chs.length chc, .slice Ak cks.length ckc] 32)).alloc (.cells #[.int .i64 mS, .int .i64 mF] 35) = w1 := ⟨_, rfl⟩
  try rw [hw1]
  have hB : Below w.heap.size w w1 := by rw [← hw1]; exact ((Below.refl _ w).alloc (by first | exact Nat.le_refl _ | (simp; done) | (simp; omega)) _).alloc (by first | exact Nat.le_refl _ | (simp; done) | (simp; omega)) _
  have kx : w1.heap[w.heap.size]? = some (.cells #[.int .u64 seed, .slice Ah chs.length chc, .slice Ak cks.length ckc] 32 (0, 0)) := by rw [← hw1]; exact al_old (al_new _ _ _ (by first | rfl | (simp; done) | (simp; omega)))
  have x0 : w1.cell? ⟨w.heap.size, 0, none⟩ = some (.int .u64 seed) := blk_cell kx 0
  have x1 : w1.cell? ⟨w.heap.size, 1, none⟩ = some (.slice Ah chs.length chc) := blk_cell kx 1
  have x2 : w1.cell? ⟨w.heap.size, 2, none⟩ = some (.slice Ak cks.length ckc) := blk_cell kx 2
  have km : w1.heap[w.heap.size + 1]? = some (.cells #[.int .i64 mS, .int .i64 mF] 35 (0, 0)) := by rw [← hw1]; exact al_new _ _ _ (by first | rfl | (simp; done) | (simp; omega))
  have m0 : w1.cell? ⟨w.heap.size + 1, 0, none⟩ = some (.int .i64 mS) := blk_cell km 0
  have m1 : w1.cell? ⟨w.heap.size + 1, 1, none⟩ = some (.int .i64 mF) := blk_cell km 1
  replace hv := hv.trans (hB.mono hv.size)
  clear hB hw1
  clear kx
  refine (c1 _ hv).mono ?_
  rintro en w2 ⟨Ae, ce, rfl, hC, hB⟩
  replace km := blk_on hB km
  replace x0 := cell_on hB x0
  replace x1 := cell_on hB x1
  replace x2 := cell_on hB x2
  replace m0 := cell_on hB m0
  replace m1 := cell_on hB m1
  replace hv := hv.trans (hB.mono hv.size)
  clear hB c1
  go_upto_region 4 with fail
  obtain ⟨w3, hw3⟩ : ∃ w3, w2.alloc (.cells #[.int .i64 x.kd, .int .i64 x.ph, .int .i64 x.rt, .int .i64 x.dr, .int .i64 x.wh, .int .i64 x.wk, .int .i64 x.ht, .int .i64 x.ch, .slice Ae x.es.length ce, .int .u64 seed, .slice Ah chs.length chc, .slice Ak cks.length ckc, .int .i64 (i : Int)] 97) = w3 := ⟨_, rfl⟩
  try rw [hw3]
  have hB : Below w2.heap.size w2 w3 := by rw [← hw3]; exact (Below.refl _ w2).alloc (by first | exact Nat.le_refl _ | (simp; done) | (simp; omega)) _
  have ky : w3.heap[w2.heap.size]? = some (.cells #[.int .i64 x.kd, .int .i64 x.ph, .int .i64 x.rt, .int .i64 x.dr, .int .i64 x.wh, .int .i64 x.wk, .int .i64 x.ht, .int .i64 x.ch, .slice Ae x.es.length ce, .int .u64 seed, .slice Ah chs.length chc, .slice Ak cks.length ckc, .int .i64 (i : Int)] 97 (0, 0)) := by rw [← hw3]; exact al_new _ _ _ (by first | rfl | (simp; done) | (simp; omega))
  have y0 : w3.cell? ⟨w2.heap.size, 0, none⟩ = some (.int .i64 x.kd) := blk_cell ky 0
  have y1 : w3.cell? ⟨w2.heap.size, 1, none⟩ = some (.int .i64 x.ph) := blk_cell ky 1
  have y2 : w3.cell? ⟨w2.heap.size, 2, none⟩ = some (.int .i64 x.rt) := blk_cell ky 2
  have y3 : w3.cell? ⟨w2.heap.size, 3, none⟩ = some (.int .i64 x.dr) := blk_cell ky 3
  have y4 : w3.cell? ⟨w2.heap.size, 4, none⟩ = some (.int .i64 x.wh) := blk_cell ky 4
  have y5 : w3.cell? ⟨w2.heap.size, 5, none⟩ = some (.int .i64 x.wk) := blk_cell ky 5
  have y6 : w3.cell? ⟨w2.heap.size, 6, none⟩ = some (.int .i64 x.ht) := blk_cell ky 6
  have y7 : w3.cell? ⟨w2.heap.size, 7, none⟩ = some (.int .i64 x.ch) := blk_cell ky 7
  have y8 : w3.cell? ⟨w2.heap.size, 8, none⟩ = some (.slice Ae x.es.length ce) := blk_cell ky 8
  have y9 : w3.cell? ⟨w2.heap.size, 9, none⟩ = some (.int .u64 seed) := blk_cell ky 9
  have y10 : w3.cell? ⟨w2.heap.size, 10, none⟩ = some (.slice Ah chs.length chc) := blk_cell ky 10
  have y11 : w3.cell? ⟨w2.heap.size, 11, none⟩ = some (.slice Ak cks.length ckc) := blk_cell ky 11
  have y12 : w3.cell? ⟨w2.heap.size, 12, none⟩ = some (.int .i64 (i : Int)) := blk_cell ky 12
  replace km := blk_on hB km
  replace x0 := cell_on hB x0
  replace x1 := cell_on hB x1
  replace x2 := cell_on hB x2
  replace m0 := cell_on hB m0
  replace m1 := cell_on hB m1
  replace hv := hv.trans (hB.mono hv.size)
  clear hB hw3
  go_wp2_with fail
  refine (c48 _).mono ?_
  rintro en w4 ⟨rfl, hB⟩
  replace km := blk_on hB km
  replace x0 := cell_on hB x0
  replace x1 := cell_on hB x1
  replace x2 := cell_on hB x2
  replace m0 := cell_on hB m0
  replace m1 := cell_on hB m1
  replace y0 := cell_on hB y0
  replace y1 := cell_on hB y1
  replace y2 := cell_on hB y2
  replace y3 := cell_on hB y3
  replace y4 := cell_on hB y4
  replace y5 := cell_on hB y5
  replace y6 := cell_on hB y6
  replace y7 := cell_on hB y7
  replace y8 := cell_on hB y8
  replace y9 := cell_on hB y9
  replace y10 := cell_on hB y10
  replace y11 := cell_on hB y11
  replace y12 := cell_on hB y12
  replace hv := hv.trans (hB.mono hv.size)
  clear hB c48
  go_wp2_with fail
  go_ret2
  exact ⟨rfl, hv⟩
set_option maxHeartbeats 4000000 in
set_option maxRecDepth 100000 in
theorem Back_ok (seed : Int) (Ah : Option Addr) (chc : Nat) (Ak : Option Addr) (ckc : Nat) (chs : List T3) (cks : List Ck) (k mS mF : Int) (w : World) (hL : Lim w) (hW : WAt 51 w Ah Ak chs cks) (hwf : WfK cks) (hE : errK chs cks k = 0) (hF : inW mF 0 999999999999999 = true) :
    Calls Tryd.prog 15 #[woV seed Ah chs.length chc Ak cks.length ckc, .int .i64 k, .agg #[.int .i64 mS, .int .i64 mF]] w fun e w' => ∃ r : Nat, r ≤ 1000001 ∧ (0 < r → laterAt seed chs cks k mS mF ((r : Int) - 1) = false) ∧ (r < 1000001 → laterAt seed chs cks k mS mF r = true) ∧ e = .returned (.tuple #[.int .i64 (lastRunF (ckAt cks k).es r).1, .int .i64 (lastRunF (ckAt cks k).es r).2]) ∧ Below w.heap.size w w' := by
  have hv := Below.refl w.heap.size w
  have hkz := errK_zero hE
  obtain ⟨i, rfl⟩ : ∃ i : Nat, k = i := ⟨k.toNat, by omega⟩
  have hi : i < cks.length := by omega
  obtain ⟨hO, hEv, q, hq, hxq, hc⟩ := hkz.1.at hi
  have hik : 0 ≤ (i : Int) ∧ (i : Int) ≤ 1000000000000000 := by have := hkz.1.nk; omega
  clear hkz
  have hsh := fun s => shownF_of hi rfl hq hxq seed s
  unfold laterAt
  simp only [hsh]
  rw [ckAt_of hi]
  clear hsh
  obtain ⟨x, hx⟩ : ∃ x, cks[i] = x := ⟨_, rfl⟩
  rw [hx] at hxq hO hEv ⊢
  have c48 := fun W => inW_calls mF 0 999999999999999 W
  rw [hF] at c48
  clear hF
  have c1 := fun W (hB : Below w.heap.size w W) => find_at seed Ah chc Ak ckc chs cks i hi x hx W (hL.below hB) hwf w hB hW hE
  have hH := hW.h
  have HXQ := Aside0.mk hxq
  clear hL hwf hW hE hxq
  go_enter Tryd.func15, Tryd.ntmps15
  go_wp2_with fail
  obtain ⟨w1, hw1⟩ : ∃ w1, (w.alloc (.cells #[.int .u64 seed, .slice Ah chs.length chc, .slice Ak cks.length ckc] 32)).alloc (.cells #[.int .i64 mS, .int .i64 mF] 35) = w1 := ⟨_, rfl⟩
  try rw [hw1]
  have hB : Below w.heap.size w w1 := by rw [← hw1]; exact ((Below.refl _ w).alloc (by first | exact Nat.le_refl _ | (simp; done) | (simp; omega)) _).alloc (by first | exact Nat.le_refl _ | (simp; done) | (simp; omega)) _
  have kx : w1.heap[w.heap.size]? = some (.cells #[.int .u64 seed, .slice Ah chs.length chc, .slice Ak cks.length ckc] 32 (0, 0)) := by rw [← hw1]; exact al_old (al_new _ _ _ (by first | rfl | (simp; done) | (simp; omega)))
  have x0 : w1.cell? ⟨w.heap.size, 0, none⟩ = some (.int .u64 seed) := blk_cell kx 0
  have x1 : w1.cell? ⟨w.heap.size, 1, none⟩ = some (.slice Ah chs.length chc) := blk_cell kx 1
  have x2 : w1.cell? ⟨w.heap.size, 2, none⟩ = some (.slice Ak cks.length ckc) := blk_cell kx 2
  have km : w1.heap[w.heap.size + 1]? = some (.cells #[.int .i64 mS, .int .i64 mF] 35 (0, 0)) := by rw [← hw1]; exact al_new _ _ _ (by first | rfl | (simp; done) | (simp; omega))
  have m0 : w1.cell? ⟨w.heap.size + 1, 0, none⟩ = some (.int .i64 mS) := blk_cell km 0
  have m1 : w1.cell? ⟨w.heap.size + 1, 1, none⟩ = some (.int .i64 mF) := blk_cell km 1
  replace hv := hv.trans (hB.mono hv.size)
  clear hB hw1
  clear kx
  refine (c1 _ hv).mono ?_
  rintro en w2 ⟨Ae, ce, rfl, hC, hB⟩
  replace km := blk_on hB km
  replace x0 := cell_on hB x0
  replace x1 := cell_on hB x1
  replace x2 := cell_on hB x2
  replace m0 := cell_on hB m0
  replace m1 := cell_on hB m1
  replace hv := hv.trans (hB.mono hv.size)
  clear hB c1
  go_upto_region 4 with fail
  obtain ⟨w3, hw3⟩ : ∃ w3, w2.alloc (.cells #[.int .i64 x.kd, .int .i64 x.ph, .int .i64 x.rt, .int .i64 x.dr, .int .i64 x.wh, .int .i64 x.wk, .int .i64 x.ht, .int .i64 x.ch, .slice Ae x.es.length ce, .int .u64 seed, .slice Ah chs.length chc, .slice Ak cks.length ckc, .int .i64 (i : Int)] 97) = w3 := ⟨_, rfl⟩
  try rw [hw3]
  have hB : Below w2.heap.size w2 w3 := by rw [← hw3]; exact (Below.refl _ w2).alloc (by first | exact Nat.le_refl _ | (simp; done) | (simp; omega)) _
  have ky : w3.heap[w2.heap.size]? = some (.cells #[.int .i64 x.kd, .int .i64 x.ph, .int .i64 x.rt, .int .i64 x.dr, .int .i64 x.wh, .int .i64 x.wk, .int .i64 x.ht, .int .i64 x.ch, .slice Ae x.es.length ce, .int .u64 seed, .slice Ah chs.length chc, .slice Ak cks.length ckc, .int .i64 (i : Int)] 97 (0, 0)) := by rw [← hw3]; exact al_new _ _ _ (by first | rfl | (simp; done) | (simp; omega))
  have y0 : w3.cell? ⟨w2.heap.size, 0, none⟩ = some (.int .i64 x.kd) := blk_cell ky 0
  have y1 : w3.cell? ⟨w2.heap.size, 1, none⟩ = some (.int .i64 x.ph) := blk_cell ky 1
  have y2 : w3.cell? ⟨w2.heap.size, 2, none⟩ = some (.int .i64 x.rt) := blk_cell ky 2
  have y3 : w3.cell? ⟨w2.heap.size, 3, none⟩ = some (.int .i64 x.dr) := blk_cell ky 3
  have y4 : w3.cell? ⟨w2.heap.size, 4, none⟩ = some (.int .i64 x.wh) := blk_cell ky 4
  have y5 : w3.cell? ⟨w2.heap.size, 5, none⟩ = some (.int .i64 x.wk) := blk_cell ky 5
  have y6 : w3.cell? ⟨w2.heap.size, 6, none⟩ = some (.int .i64 x.ht) := blk_cell ky 6
  have y7 : w3.cell? ⟨w2.heap.size, 7, none⟩ = some (.int .i64 x.ch) := blk_cell ky 7
  have y8 : w3.cell? ⟨w2.heap.size, 8, none⟩ = some (.slice Ae x.es.length ce) := blk_cell ky 8
  have y9 : w3.cell? ⟨w2.heap.size, 9, none⟩ = some (.int .u64 seed) := blk_cell ky 9
  have y10 : w3.cell? ⟨w2.heap.size, 10, none⟩ = some (.slice Ah chs.length chc) := blk_cell ky 10
  have y11 : w3.cell? ⟨w2.heap.size, 11, none⟩ = some (.slice Ak cks.length ckc) := blk_cell ky 11
  have y12 : w3.cell? ⟨w2.heap.size, 12, none⟩ = some (.int .i64 (i : Int)) := blk_cell ky 12
  replace km := blk_on hB km
  replace x0 := cell_on hB x0
  replace x1 := cell_on hB x1
  replace x2 := cell_on hB x2
  replace m0 := cell_on hB m0
  replace m1 := cell_on hB m1
  replace hv := hv.trans (hB.mono hv.size)
  clear hB hw3
  go_wp2_with fail
  refine (c48 _).mono ?_
  rintro en w4 ⟨rfl, hB⟩
  replace km := blk_on hB km
  replace ky := blk_on hB ky
  replace x0 := cell_on hB x0
  replace x1 := cell_on hB x1
  replace x2 := cell_on hB x2
  replace m0 := cell_on hB m0
  replace m1 := cell_on hB m1
  replace y0 := cell_on hB y0
  replace y1 := cell_on hB y1
  replace y2 := cell_on hB y2
  replace y3 := cell_on hB y3
  replace y4 := cell_on hB y4
  replace y5 := cell_on hB y5
  replace y6 := cell_on hB y6
  replace y7 := cell_on hB y7
  replace y8 := cell_on hB y8
  replace y9 := cell_on hB y9
  replace y10 := cell_on hB y10
  replace y11 := cell_on hB y11
  replace y12 := cell_on hB y12
  replace hv := hv.trans (hB.mono hv.size)
  clear hB c48
  go_wp2_with fail
  refine (search_calls 1000001 (by omega) 50 #[.pointer (some ⟨w.heap.size + 1, 0, none⟩), .pointer (some ⟨w2.heap.size, 0, none⟩)] (enters_of Tryd.func50 (by kernel_rfl) rfl) (fun s => laterB mS mF s (stillF x chs[q] s + walkedF seed (i : Int) x.wk 0 s + drawF seed 2 (i : Int) s x.wh)) _ (fun W s h0 h1 hB => later_calls seed Ah chc Ak ckc chs cks x Ae ce i hik chs.length hO hEv q hq HXQ.out hc mS mF s (by omega) _ _ W (blk_on hB km) (blk_on hB ky) (Kd.C_below hC (hv.trans (hB.mono hv.size))) (Kd.C_below hH (hv.trans (hB.mono hv.size))))).mono ?_
  rintro en w5 ⟨r, rfl, hr0, hr1, hrA, hrB, hB⟩
  obtain ⟨r, rfl⟩ : ∃ n : Nat, r = n := ⟨r.toNat, by omega⟩
  have HA := Aside0.mk hrA
  have HBB := Aside0.mk hrB
  clear hrA hrB
  replace km := blk_on hB km
  replace ky := blk_on hB ky
  replace x0 := cell_on hB x0
  replace x1 := cell_on hB x1
  replace x2 := cell_on hB x2
  replace m0 := cell_on hB m0
  replace m1 := cell_on hB m1
  replace y0 := cell_on hB y0
  replace y1 := cell_on hB y1
  replace y2 := cell_on hB y2
  replace y3 := cell_on hB y3
  replace y4 := cell_on hB y4
  replace y5 := cell_on hB y5
  replace y6 := cell_on hB y6
  replace y7 := cell_on hB y7
  replace y8 := cell_on hB y8
  replace y9 := cell_on hB y9
  replace y10 := cell_on hB y10
  replace y11 := cell_on hB y11
  replace y12 := cell_on hB y12
  replace hv := hv.trans (hB.mono hv.size)
  have HEV := Aside0.mk hEv.what
  have HV := Aside0.mk hv
  have hC' := Aside0.mk (Kd.C_below hC hv)
  clear hB km ky hv hC hH x0 x1 x2 m0 m1 hEv hO hc hr0
  have u1 := C.wr ((r : Int) - 1) (by omega) (by omega)
  obtain ⟨RR, hRR⟩ : ∃ v, lastRunF x.es r = v := ⟨_, rfl⟩
  have HRR := Aside0.mk hRR
  clear hRR
  go_wp2_with fail
  go_loopw [11] (fun v wr => ∃ j : Nat, j ≤ r ∧ v = .int .i64 ((j : Int) - 1) ∧ Aside0 (lastRunF x.es j = RR) ∧ Aside0 (Below w5.heap.size w5 wr)) (fun v _ => (intOf v + 1).toNat)
  case atStart => exact ⟨r, by omega, rfl, HRR, ⟨Below.refl _ _⟩⟩
  case round =>
    obtain ⟨j, hj, rfl, HJ, HI⟩ := hrel
    replace y0 := cell_on HI.out y0
    replace y1 := cell_on HI.out y1
    replace y2 := cell_on HI.out y2
    replace y3 := cell_on HI.out y3
    replace y4 := cell_on HI.out y4
    replace y5 := cell_on HI.out y5
    replace y6 := cell_on HI.out y6
    replace y7 := cell_on HI.out y7
    replace y8 := cell_on HI.out y8
    replace y9 := cell_on HI.out y9
    replace y10 := cell_on HI.out y10
    replace y11 := cell_on HI.out y11
    replace y12 := cell_on HI.out y12
    rcases j with _ | j
    · have hd : ¬ (0 : Int) ≤ ((0 : Nat) : Int) - 1 := by omega
      have HJ2 : Aside0 (RR = (0, 4)) := ⟨HJ.out.symm⟩
      go_wp2
      go_ret2
      exact ⟨r, by omega, fun h => HA.out (by omega), fun h => HBB.out (by omega), by rw [HRR.out, HJ2.out]; rfl, HV.out.trans (HI.out.mono HV.out.size)⟩
    · have e1 : ((j + 1 : Nat) : Int) - 1 = (j : Int) := by omega
      rw [e1]
      have hd : (0 : Int) ≤ (j : Int) := by omega
      have u2 := C.wr ((j : Int) - 1) (by omega) (by omega)
      have HJ2 : Aside0 ((if runsF x.es (j : Int) then ((j : Int), (0 : Int)) else lastRunF x.es j) = RR) := ⟨HJ.out⟩
      have c54 := fun W (hB : Below w5.heap.size w5 W) => runs_calls x Ae ce seed (.slice Ah chs.length chc) (.slice Ak cks.length ckc) (i : Int) (j : Int) W (Kd.C_below hC'.out hB) HEV.out
      cases hR : runsF x.es (j : Int)
      · rw [hR] at c54
        have HJ3 : Aside0 (lastRunF x.es j = RR) := ⟨by rw [← HJ2.out, hR]; rfl⟩
        clear hR e1 HJ
        go_wp2_with fail
        refine (c54 _ HI.out).mono ?_
        rintro en w6 ⟨rfl, hB⟩
        clear c54
        go_wp2
        go_roundw
        case rel => exact ⟨j, by omega, rfl, HJ3, ⟨HI.out.trans (hB.mono HI.out.size)⟩⟩
        case measure => simp [intOf]
      · rw [hR] at c54
        have HJ3 : Aside0 (RR = ((j : Int), 0)) := ⟨by rw [← HJ2.out, hR]; rfl⟩
        clear hR e1 HJ
        go_wp2_with fail
        refine (c54 _ HI.out).mono ?_
        rintro en w6 ⟨rfl, hB⟩
        clear c54
        go_wp2
        go_ret2
        exact ⟨r, by omega, fun h => HA.out (by omega), fun h => HBB.out (by omega), by rw [HRR.out, HJ3.out]; rfl, (HV.out.trans (HI.out.mono HV.out.size)).trans (hB.mono (HV.out.trans (HI.out.mono HV.out.size)).size)⟩
end Go.Proofs.YtlfnnalepdjagaaDoor.C
