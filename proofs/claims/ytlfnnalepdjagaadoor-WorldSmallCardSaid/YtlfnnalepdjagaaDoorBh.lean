/- The contracts of Reach and Growth. -/
import Derived.OwnWalk
import Derived.BigRegion
import Derived.Deep.Cut
import Derived.Deep.RegionHeld3
import Derived.Test.YtlfnnalepdjagaaDoorBf
import Derived.Test.YtlfnnalepdjagaaDoorAs
namespace Go.Proofs.YtlfnnalepdjagaaDoor.C
open Go.RowKit Go.Shelf Go.Maps Go.Proofs.YtlfnnalepdjagaaDoorW.PrintWords Go.Proofs.YtlfnnalepdjagaaDoorW.PrintLast Go.Proofs.YtlfnnalepdjagaaDoorW.PrintMore
set_option linter.unusedVariables false
set_option linter.unusedSimpArgs false
def stillK (chs : List T3) (cks : List Ck) (k s : Int) : Int := stillF (ckAt cks k) (roomF chs (ckAt cks k)) s
def farF (x : Ck) (s : Int) : Int := x.wk * (s / 100) + x.wh
/-- Where what a clock shows can lie. -/
def reachR (chs : List T3) (cks : List Ck) (k s : Int) : (Int × Int) × Int := if errS chs cks k s = 0 then ((stillK chs cks k s - farF (ckAt cks k) s, stillK chs cks k s + farF (ckAt cks k) s), 0) else ((0, 0), errS chs cks k s)
def errG (chs : List T3) (cks : List Ck) (k a b : Int) : Int := if errS chs cks k a = 0 then if timedF b = 0 then if b < a then 1 else 0 else timedF b else errS chs cks k a
def growF (x : Ck) (a b : Int) : Int := x.wk * (b / 100 - a / 100)
/-- How much a phase can grow. -/
def growthR (chs : List T3) (cks : List Ck) (k a b : Int) : (Int × Int) × Int := if errG chs cks k a b = 0 then ((stillK chs cks k b - stillK chs cks k a - growF (ckAt cks k) a b, stillK chs cks k b - stillK chs cks k a + growF (ckAt cks k) a b), 0) else ((0, 0), errG chs cks k a b)
set_option maxHeartbeats 4000000 in
set_option maxRecDepth 100000 in
theorem Reach_calls (seed : Int) (Ah : Option Addr) (chc : Nat) (Ak : Option Addr) (ckc : Nat) (chs : List T3) (cks : List Ck) (k s : Int) (w : World) (hL : Lim w) (hW : WAt 51 w Ah Ak chs cks) (hwf : WfK cks) :
    Calls Tryd.prog 30 #[woV seed Ah chs.length chc Ak cks.length ckc, .int .i64 k, .int .i64 s] w fun e w' => e = .returned (.tuple #[.agg #[.int .i64 (reachR chs cks k s).1.1, .int .i64 (reachR chs cks k s).1.2], .int .i64 (reachR chs cks k s).2]) ∧ Below w.heap.size w w' := by
  have hv := Below.refl w.heap.size w
  unfold reachR
  by_cases hE : errS chs cks k s = 0
  rotate_left
  · rw [if_neg hE]
    have c1 := fun W (hB : Below w.heap.size w W) => found_err seed Ah chc Ak ckc chs cks k s W (hL.below hB) (hW.below hB) hwf hE
    generalize errS chs cks k s = E at *
    clear hL hW hwf
    have d1 : (E == 0) = false := beq_eq_false_iff_ne.2 hE
    go_enter Tryd.func30, Tryd.ntmps30
    go_wp2_with fail
    obtain ⟨w1, hw1⟩ : ∃ w1, (w.alloc (.cells #[.int .u64 seed, .slice Ah chs.length chc, .slice Ak cks.length ckc] 32)).alloc (.cells #[.int .i64 0, .int .i64 0] 65) = w1 := ⟨_, rfl⟩
    try rw [hw1]
    have hB : Below w.heap.size w w1 := by rw [← hw1]; exact ((Below.refl _ w).alloc (by first | exact Nat.le_refl _ | (simp; done) | (simp; omega)) _).alloc (by first | exact Nat.le_refl _ | (simp; done) | (simp; omega)) _
    have kx : w1.heap[w.heap.size]? = some (.cells #[.int .u64 seed, .slice Ah chs.length chc, .slice Ak cks.length ckc] 32 (0, 0)) := by rw [← hw1]; exact al_old (al_new _ _ _ (by first | rfl | (simp; done) | (simp; omega)))
    have x0 : w1.cell? ⟨w.heap.size, 0, none⟩ = some (.int .u64 seed) := blk_cell kx 0
    have x1 : w1.cell? ⟨w.heap.size, 1, none⟩ = some (.slice Ah chs.length chc) := blk_cell kx 1
    have x2 : w1.cell? ⟨w.heap.size, 2, none⟩ = some (.slice Ak cks.length ckc) := blk_cell kx 2
    have kr : w1.heap[w.heap.size + 1]? = some (.cells #[.int .i64 0, .int .i64 0] 65 (0, 0)) := by rw [← hw1]; exact al_new _ _ _ (by first | rfl | (simp; done) | (simp; omega))
    have r0 : w1.cell? ⟨w.heap.size + 1, 0, none⟩ = some (.int .i64 0) := blk_cell kr 0
    have r1 : w1.cell? ⟨w.heap.size + 1, 1, none⟩ = some (.int .i64 0) := blk_cell kr 1
    replace hv := hv.trans (hB.mono hv.size)
    clear hB hw1
    clear kx
    have z0 := blk_frozen kr 0
    have z1 := blk_frozen kr 1
    refine (c1 _ hv).mono ?_
    rintro en w2 ⟨x, Ae, ce, sd, Ah2, Ak2, nh2, ch2, nk2, ck2, kk, rfl, hB⟩
    replace kr := blk_on hB kr
    replace x0 := cell_on hB x0
    replace x1 := cell_on hB x1
    replace x2 := cell_on hB x2
    replace r0 := cell_on hB r0
    replace r1 := cell_on hB r1
    replace hv := hv.trans (hB.mono hv.size)
    replace z0 := blk_frozen kr 0
    replace z1 := blk_frozen kr 1
    have hz7 := blk_lt kr
    clear hB c1
    go_wp2_with fail
    exact bodyPost_ret (results_row_tmp rfl _ _ (w.heap.size + 1) 65 _ (0, 0) _ rfl (al_old (blk_put (blk_put kr 0 _ rfl) 1 _ rfl)) Tryd.underlying65 rfl info65) rfl ⟨rfl, ((hv.setCell (by simp) _).setCell (by simp) _).alloc (by have := hv.size; simp; omega) _⟩
  have hz := errS_zero hE
  have hkz := errK_zero hz.1
  obtain ⟨i, rfl⟩ : ∃ i : Nat, k = i := ⟨k.toNat, by omega⟩
  have hi : i < cks.length := by omega
  obtain ⟨hO, hEv, q, hq, hxq, hc⟩ := hkz.1.at hi
  have hs := hz.2
  have hik : 0 ≤ (i : Int) ∧ (i : Int) ≤ 1000000000000000 := by have := hkz.1.nk; omega
  clear hkz hz
  rw [if_pos hE]
  unfold stillK farF
  rw [ckAt_of hi]
  rw [room_of hq hxq]
  obtain ⟨x, hx⟩ : ∃ x, cks[i] = x := ⟨_, rfl⟩
  rw [hx] at hxq hO hEv ⊢
  have HXQ := Aside0.mk hxq
  clear hxq
  have s1 := still_b hO hEv hc hs
  have hwk := rt_b hO
  have hwk0 := hO.wk.1
  have hwh0 := hO.wh.1
  have a51 := fun (Ae : Option Addr) (ce : Nat) (W : World) (hC : Kd.C k3 W Ae x.es.length x.es) (hH : Kd.C k3 W Ah chs.length chs) => still_calls x Ae ce seed Ah chc (.slice Ak cks.length ckc) (i : Int) s chs q hq W HXQ.out hC hH chs.length hO hEv hc hs
  obtain ⟨SV, hSV⟩ : ∃ v, stillF x chs[q] s = v := ⟨_, rfl⟩
  rw [hSV] at s1 a51 ⊢
  clear hSV
  have q1 : IntKind.i64.wrap (s.tdiv 100) = s / 100 := by rw [Int.tdiv_eq_ediv_of_nonneg hs.1]; exact C.wr _ (by omega) (by omega)
  have q2 : 0 ≤ x.wk * (s / 100) ∧ x.wk * (s / 100) ≤ 10000000000000 := ⟨Int.mul_nonneg hwk0 (by omega), by have : x.wk * (s / 100) ≤ 1000000000 * 10000 := Int.mul_le_mul hwk.2.2.2 (by omega) (by omega) (by omega); omega⟩
  have q3 : IntKind.i64.wrap (x.wk * (s / 100)) = x.wk * (s / 100) := C.wr _ (by omega) (by omega)
  have q4 : IntKind.i64.wrap (x.wk * (s / 100) + x.wh) = x.wk * (s / 100) + x.wh := C.wr _ (by omega) (by omega)
  have b71 := fun (W : World) => around_calls SV (x.wk * (s / 100) + x.wh) W (by omega) (by omega)
  have c1 := fun W (hB : Below w.heap.size w W) => found_at seed Ah chc Ak ckc chs cks i hi x hx s W (hL.below hB) hwf w hB hW hE
  have hH := hW.h
  clear hL hwf hW
  go_enter Tryd.func30, Tryd.ntmps30
  go_wp2_with fail
  obtain ⟨w1, hw1⟩ : ∃ w1, (w.alloc (.cells #[.int .u64 seed, .slice Ah chs.length chc, .slice Ak cks.length ckc] 32)).alloc (.cells #[.int .i64 0, .int .i64 0] 65) = w1 := ⟨_, rfl⟩
  try rw [hw1]
  have hB : Below w.heap.size w w1 := by rw [← hw1]; exact ((Below.refl _ w).alloc (by first | exact Nat.le_refl _ | (simp; done) | (simp; omega)) _).alloc (by first | exact Nat.le_refl _ | (simp; done) | (simp; omega)) _
  have kx : w1.heap[w.heap.size]? = some (.cells #[.int .u64 seed, .slice Ah chs.length chc, .slice Ak cks.length ckc] 32 (0, 0)) := by rw [← hw1]; exact al_old (al_new _ _ _ (by first | rfl | (simp; done) | (simp; omega)))
  have x0 : w1.cell? ⟨w.heap.size, 0, none⟩ = some (.int .u64 seed) := blk_cell kx 0
  have x1 : w1.cell? ⟨w.heap.size, 1, none⟩ = some (.slice Ah chs.length chc) := blk_cell kx 1
  have x2 : w1.cell? ⟨w.heap.size, 2, none⟩ = some (.slice Ak cks.length ckc) := blk_cell kx 2
  have kr : w1.heap[w.heap.size + 1]? = some (.cells #[.int .i64 0, .int .i64 0] 65 (0, 0)) := by rw [← hw1]; exact al_new _ _ _ (by first | rfl | (simp; done) | (simp; omega))
  have r0 : w1.cell? ⟨w.heap.size + 1, 0, none⟩ = some (.int .i64 0) := blk_cell kr 0
  have r1 : w1.cell? ⟨w.heap.size + 1, 1, none⟩ = some (.int .i64 0) := blk_cell kr 1
  replace hv := hv.trans (hB.mono hv.size)
  clear hB hw1
  clear kx
  have z0 := blk_frozen kr 0
  have z1 := blk_frozen kr 1
  refine (c1 _ hv).mono ?_
  rintro en w2 ⟨Ae, ce, rfl, hC, hB⟩
  replace kr := blk_on hB kr
  replace x0 := cell_on hB x0
  replace x1 := cell_on hB x1
  replace x2 := cell_on hB x2
  replace r0 := cell_on hB r0
  replace r1 := cell_on hB r1
  replace hv := hv.trans (hB.mono hv.size)
  replace z0 := blk_frozen kr 0
  replace z1 := blk_frozen kr 1
  clear hB c1
  have hz7 := blk_lt kr
  go_upto_region 4 with fail
  obtain ⟨w3, hw3⟩ : ∃ w3, w2.alloc (.cells #[.int .i64 x.kd, .int .i64 x.ph, .int .i64 x.rt, .int .i64 x.dr, .int .i64 x.wh, .int .i64 x.wk, .int .i64 x.ht, .int .i64 x.ch, .slice Ae x.es.length ce, .int .u64 seed, .slice Ah chs.length chc, .slice Ak cks.length ckc, .int .i64 (i : Int)] 97) = w3 := ⟨_, rfl⟩
  try rw [hw3]
  have hB : Below w2.heap.size w2 w3 := by rw [← hw3]; exact (Below.refl _ w2).alloc (by first | exact Nat.le_refl _ | (simp; done) | (simp; omega)) _
  have ky : w3.heap[w2.heap.size]? = some (.cells #[.int .i64 x.kd, .int .i64 x.ph, .int .i64 x.rt, .int .i64 x.dr, .int .i64 x.wh, .int .i64 x.wk, .int .i64 x.ht, .int .i64 x.ch, .slice Ae x.es.length ce, .int .u64 seed, .slice Ah chs.length chc, .slice Ak cks.length ckc, .int .i64 (i : Int)] 97 (0, 0)) := by rw [← hw3]; exact al_new _ _ _ (by first | rfl | (simp; done) | (simp; omega))
  have y0 : w3.cell? ⟨w2.heap.size, 0, none⟩ = some (.int .i64 x.kd) := blk_cell ky 0
  have y1 : w3.cell? ⟨w2.heap.size, 1, none⟩ = some (.int .i64 x.ph) := blk_cell ky 1
  have y2 : w3.cell? ⟨w2.heap.size, 2, none⟩ = some (.int .i64 x.rt) := blk_cell ky 2
  have y3 : w3.cell? ⟨w2.heap.size, 3, none⟩ = some (.int .i64 x.dr) := blk_cell ky 3
  have y4 : w3.cell? ⟨w2.heap.size, 4, none⟩ = some (.int .i64 x.wh) := blk_cell ky 4
  have y5 : w3.cell? ⟨w2.heap.size, 5, none⟩ = some (.int .i64 x.wk) := blk_cell ky 5
  have y6 : w3.cell? ⟨w2.heap.size, 6, none⟩ = some (.int .i64 x.ht) := blk_cell ky 6
  have y7 : w3.cell? ⟨w2.heap.size, 7, none⟩ = some (.int .i64 x.ch) := blk_cell ky 7
  have y8 : w3.cell? ⟨w2.heap.size, 8, none⟩ = some (.slice Ae x.es.length ce) := blk_cell ky 8
  have y9 : w3.cell? ⟨w2.heap.size, 9, none⟩ = some (.int .u64 seed) := blk_cell ky 9
  have y10 : w3.cell? ⟨w2.heap.size, 10, none⟩ = some (.slice Ah chs.length chc) := blk_cell ky 10
  have y11 : w3.cell? ⟨w2.heap.size, 11, none⟩ = some (.slice Ak cks.length ckc) := blk_cell ky 11
  have y12 : w3.cell? ⟨w2.heap.size, 12, none⟩ = some (.int .i64 (i : Int)) := blk_cell ky 12
  clear ky
  replace kr := blk_on hB kr
  replace x0 := cell_on hB x0
  replace x1 := cell_on hB x1
  replace x2 := cell_on hB x2
  replace r0 := cell_on hB r0
  replace r1 := cell_on hB r1
  replace hv := hv.trans (hB.mono hv.size)
  clear hB hw3
  have hne : w2.heap.size ≠ w.heap.size + 1 := by have := hz7; omega
  have b51 := fun (W : World) (hB : Below w.heap.size w W) => a51 Ae ce W (Kd.C_below hC hB) (Kd.C_below hH hB)
  clear a51 x0 x1 x2 r0 r1 z0 z1 hC hH
  have hS0 : (fun w' : World => (w'.cell? ⟨w2.heap.size, 0, none⟩ = some (.int .i64 x.kd) ∧ w'.cell? ⟨w2.heap.size, 1, none⟩ = some (.int .i64 x.ph) ∧ w'.cell? ⟨w2.heap.size, 2, none⟩ = some (.int .i64 x.rt) ∧ w'.cell? ⟨w2.heap.size, 3, none⟩ = some (.int .i64 x.dr) ∧ w'.cell? ⟨w2.heap.size, 4, none⟩ = some (.int .i64 x.wh) ∧ w'.cell? ⟨w2.heap.size, 5, none⟩ = some (.int .i64 x.wk) ∧ w'.cell? ⟨w2.heap.size, 6, none⟩ = some (.int .i64 x.ht) ∧ w'.cell? ⟨w2.heap.size, 7, none⟩ = some (.int .i64 x.ch) ∧ w'.cell? ⟨w2.heap.size, 8, none⟩ = some (.slice Ae x.es.length ce) ∧ w'.cell? ⟨w2.heap.size, 9, none⟩ = some (.int .u64 seed) ∧ w'.cell? ⟨w2.heap.size, 10, none⟩ = some (.slice Ah chs.length chc) ∧ w'.cell? ⟨w2.heap.size, 11, none⟩ = some (.slice Ak cks.length ckc) ∧ w'.cell? ⟨w2.heap.size, 12, none⟩ = some (.int .i64 (i : Int))) ∧ (∃ u0 u1 : Value, w'.heap[w.heap.size + 1]? = some (.cells #[u0, u1] 65 (0, 0))) ∧ Below w.heap.size w w') w3 := ⟨⟨y0, y1, y2, y3, y4, y5, y6, y7, y8, y9, y10, y11, y12⟩, ⟨_, _, kr⟩, hv⟩
  have hSb : ∀ W w' : World, (fun w' : World => (w'.cell? ⟨w2.heap.size, 0, none⟩ = some (.int .i64 x.kd) ∧ w'.cell? ⟨w2.heap.size, 1, none⟩ = some (.int .i64 x.ph) ∧ w'.cell? ⟨w2.heap.size, 2, none⟩ = some (.int .i64 x.rt) ∧ w'.cell? ⟨w2.heap.size, 3, none⟩ = some (.int .i64 x.dr) ∧ w'.cell? ⟨w2.heap.size, 4, none⟩ = some (.int .i64 x.wh) ∧ w'.cell? ⟨w2.heap.size, 5, none⟩ = some (.int .i64 x.wk) ∧ w'.cell? ⟨w2.heap.size, 6, none⟩ = some (.int .i64 x.ht) ∧ w'.cell? ⟨w2.heap.size, 7, none⟩ = some (.int .i64 x.ch) ∧ w'.cell? ⟨w2.heap.size, 8, none⟩ = some (.slice Ae x.es.length ce) ∧ w'.cell? ⟨w2.heap.size, 9, none⟩ = some (.int .u64 seed) ∧ w'.cell? ⟨w2.heap.size, 10, none⟩ = some (.slice Ah chs.length chc) ∧ w'.cell? ⟨w2.heap.size, 11, none⟩ = some (.slice Ak cks.length ckc) ∧ w'.cell? ⟨w2.heap.size, 12, none⟩ = some (.int .i64 (i : Int))) ∧ (∃ u0 u1 : Value, w'.heap[w.heap.size + 1]? = some (.cells #[u0, u1] 65 (0, 0))) ∧ Below w.heap.size w w') W → Below W.heap.size W w' → (fun w' : World => (w'.cell? ⟨w2.heap.size, 0, none⟩ = some (.int .i64 x.kd) ∧ w'.cell? ⟨w2.heap.size, 1, none⟩ = some (.int .i64 x.ph) ∧ w'.cell? ⟨w2.heap.size, 2, none⟩ = some (.int .i64 x.rt) ∧ w'.cell? ⟨w2.heap.size, 3, none⟩ = some (.int .i64 x.dr) ∧ w'.cell? ⟨w2.heap.size, 4, none⟩ = some (.int .i64 x.wh) ∧ w'.cell? ⟨w2.heap.size, 5, none⟩ = some (.int .i64 x.wk) ∧ w'.cell? ⟨w2.heap.size, 6, none⟩ = some (.int .i64 x.ht) ∧ w'.cell? ⟨w2.heap.size, 7, none⟩ = some (.int .i64 x.ch) ∧ w'.cell? ⟨w2.heap.size, 8, none⟩ = some (.slice Ae x.es.length ce) ∧ w'.cell? ⟨w2.heap.size, 9, none⟩ = some (.int .u64 seed) ∧ w'.cell? ⟨w2.heap.size, 10, none⟩ = some (.slice Ah chs.length chc) ∧ w'.cell? ⟨w2.heap.size, 11, none⟩ = some (.slice Ak cks.length ckc) ∧ w'.cell? ⟨w2.heap.size, 12, none⟩ = some (.int .i64 (i : Int))) ∧ (∃ u0 u1 : Value, w'.heap[w.heap.size + 1]? = some (.cells #[u0, u1] 65 (0, 0))) ∧ Below w.heap.size w w') w' := fun W w' h hB => ⟨⟨cell_on hB h.1.1, cell_on hB h.1.2.1, cell_on hB h.1.2.2.1, cell_on hB h.1.2.2.2.1, cell_on hB h.1.2.2.2.2.1, cell_on hB h.1.2.2.2.2.2.1, cell_on hB h.1.2.2.2.2.2.2.1, cell_on hB h.1.2.2.2.2.2.2.2.1, cell_on hB h.1.2.2.2.2.2.2.2.2.1, cell_on hB h.1.2.2.2.2.2.2.2.2.2.1, cell_on hB h.1.2.2.2.2.2.2.2.2.2.2.1, cell_on hB h.1.2.2.2.2.2.2.2.2.2.2.2.1, cell_on hB h.1.2.2.2.2.2.2.2.2.2.2.2.2⟩, by obtain ⟨u0, u1, hb⟩ := h.2.1; exact ⟨u0, u1, blk_on hB hb⟩, h.2.2.trans (hB.mono h.2.2.size)⟩
  have hSs : ∀ (W : World) (v0 v1 : Value), (fun w' : World => (w'.cell? ⟨w2.heap.size, 0, none⟩ = some (.int .i64 x.kd) ∧ w'.cell? ⟨w2.heap.size, 1, none⟩ = some (.int .i64 x.ph) ∧ w'.cell? ⟨w2.heap.size, 2, none⟩ = some (.int .i64 x.rt) ∧ w'.cell? ⟨w2.heap.size, 3, none⟩ = some (.int .i64 x.dr) ∧ w'.cell? ⟨w2.heap.size, 4, none⟩ = some (.int .i64 x.wh) ∧ w'.cell? ⟨w2.heap.size, 5, none⟩ = some (.int .i64 x.wk) ∧ w'.cell? ⟨w2.heap.size, 6, none⟩ = some (.int .i64 x.ht) ∧ w'.cell? ⟨w2.heap.size, 7, none⟩ = some (.int .i64 x.ch) ∧ w'.cell? ⟨w2.heap.size, 8, none⟩ = some (.slice Ae x.es.length ce) ∧ w'.cell? ⟨w2.heap.size, 9, none⟩ = some (.int .u64 seed) ∧ w'.cell? ⟨w2.heap.size, 10, none⟩ = some (.slice Ah chs.length chc) ∧ w'.cell? ⟨w2.heap.size, 11, none⟩ = some (.slice Ak cks.length ckc) ∧ w'.cell? ⟨w2.heap.size, 12, none⟩ = some (.int .i64 (i : Int))) ∧ (∃ u0 u1 : Value, w'.heap[w.heap.size + 1]? = some (.cells #[u0, u1] 65 (0, 0))) ∧ Below w.heap.size w w') W → (fun w' : World => (w'.cell? ⟨w2.heap.size, 0, none⟩ = some (.int .i64 x.kd) ∧ w'.cell? ⟨w2.heap.size, 1, none⟩ = some (.int .i64 x.ph) ∧ w'.cell? ⟨w2.heap.size, 2, none⟩ = some (.int .i64 x.rt) ∧ w'.cell? ⟨w2.heap.size, 3, none⟩ = some (.int .i64 x.dr) ∧ w'.cell? ⟨w2.heap.size, 4, none⟩ = some (.int .i64 x.wh) ∧ w'.cell? ⟨w2.heap.size, 5, none⟩ = some (.int .i64 x.wk) ∧ w'.cell? ⟨w2.heap.size, 6, none⟩ = some (.int .i64 x.ht) ∧ w'.cell? ⟨w2.heap.size, 7, none⟩ = some (.int .i64 x.ch) ∧ w'.cell? ⟨w2.heap.size, 8, none⟩ = some (.slice Ae x.es.length ce) ∧ w'.cell? ⟨w2.heap.size, 9, none⟩ = some (.int .u64 seed) ∧ w'.cell? ⟨w2.heap.size, 10, none⟩ = some (.slice Ah chs.length chc) ∧ w'.cell? ⟨w2.heap.size, 11, none⟩ = some (.slice Ak cks.length ckc) ∧ w'.cell? ⟨w2.heap.size, 12, none⟩ = some (.int .i64 (i : Int))) ∧ (∃ u0 u1 : Value, w'.heap[w.heap.size + 1]? = some (.cells #[u0, u1] 65 (0, 0))) ∧ Below w.heap.size w w') ((W.setCell ⟨w.heap.size + 1, 0, none⟩ v0).setCell ⟨w.heap.size + 1, 1, none⟩ v1) := fun W v0 v1 h => ⟨⟨(World.cell?_of_block ((Below.heap_setCell _ _ _ _ hne).trans (Below.heap_setCell _ _ _ _ hne))).trans h.1.1, (World.cell?_of_block ((Below.heap_setCell _ _ _ _ hne).trans (Below.heap_setCell _ _ _ _ hne))).trans h.1.2.1, (World.cell?_of_block ((Below.heap_setCell _ _ _ _ hne).trans (Below.heap_setCell _ _ _ _ hne))).trans h.1.2.2.1, (World.cell?_of_block ((Below.heap_setCell _ _ _ _ hne).trans (Below.heap_setCell _ _ _ _ hne))).trans h.1.2.2.2.1, (World.cell?_of_block ((Below.heap_setCell _ _ _ _ hne).trans (Below.heap_setCell _ _ _ _ hne))).trans h.1.2.2.2.2.1, (World.cell?_of_block ((Below.heap_setCell _ _ _ _ hne).trans (Below.heap_setCell _ _ _ _ hne))).trans h.1.2.2.2.2.2.1, (World.cell?_of_block ((Below.heap_setCell _ _ _ _ hne).trans (Below.heap_setCell _ _ _ _ hne))).trans h.1.2.2.2.2.2.2.1, (World.cell?_of_block ((Below.heap_setCell _ _ _ _ hne).trans (Below.heap_setCell _ _ _ _ hne))).trans h.1.2.2.2.2.2.2.2.1, (World.cell?_of_block ((Below.heap_setCell _ _ _ _ hne).trans (Below.heap_setCell _ _ _ _ hne))).trans h.1.2.2.2.2.2.2.2.2.1, (World.cell?_of_block ((Below.heap_setCell _ _ _ _ hne).trans (Below.heap_setCell _ _ _ _ hne))).trans h.1.2.2.2.2.2.2.2.2.2.1, (World.cell?_of_block ((Below.heap_setCell _ _ _ _ hne).trans (Below.heap_setCell _ _ _ _ hne))).trans h.1.2.2.2.2.2.2.2.2.2.2.1, (World.cell?_of_block ((Below.heap_setCell _ _ _ _ hne).trans (Below.heap_setCell _ _ _ _ hne))).trans h.1.2.2.2.2.2.2.2.2.2.2.2.1, (World.cell?_of_block ((Below.heap_setCell _ _ _ _ hne).trans (Below.heap_setCell _ _ _ _ hne))).trans h.1.2.2.2.2.2.2.2.2.2.2.2.2⟩, by obtain ⟨u0, u1, hb⟩ := h.2.1; exact ⟨v0, v1, blk_put (blk_put hb 0 _ rfl) 1 _ rfl⟩, (h.2.2.setCell (by simp) _).setCell (by simp) _⟩
  have hS0d := hSb _ w3.drew hS0 (Below.refl _ _).drew
  simp only at hS0d hSb hSs
  have hSb9 := Aside0.mk hSb
  have hSs9 := Aside0.mk hSs
  clear hSb hSs hS0
  go_region_held3 (fun w' => (w'.cell? ⟨w2.heap.size, 0, none⟩ = some (.int .i64 x.kd) ∧ w'.cell? ⟨w2.heap.size, 1, none⟩ = some (.int .i64 x.ph) ∧ w'.cell? ⟨w2.heap.size, 2, none⟩ = some (.int .i64 x.rt) ∧ w'.cell? ⟨w2.heap.size, 3, none⟩ = some (.int .i64 x.dr) ∧ w'.cell? ⟨w2.heap.size, 4, none⟩ = some (.int .i64 x.wh) ∧ w'.cell? ⟨w2.heap.size, 5, none⟩ = some (.int .i64 x.wk) ∧ w'.cell? ⟨w2.heap.size, 6, none⟩ = some (.int .i64 x.ht) ∧ w'.cell? ⟨w2.heap.size, 7, none⟩ = some (.int .i64 x.ch) ∧ w'.cell? ⟨w2.heap.size, 8, none⟩ = some (.slice Ae x.es.length ce) ∧ w'.cell? ⟨w2.heap.size, 9, none⟩ = some (.int .u64 seed) ∧ w'.cell? ⟨w2.heap.size, 10, none⟩ = some (.slice Ah chs.length chc) ∧ w'.cell? ⟨w2.heap.size, 11, none⟩ = some (.slice Ak cks.length ckc) ∧ w'.cell? ⟨w2.heap.size, 12, none⟩ = some (.int .i64 (i : Int))) ∧ (∃ u0 u1 : Value, w'.heap[w.heap.size + 1]? = some (.cells #[u0, u1] 65 (0, 0))) ∧ Below w.heap.size w w') (first | with_reducible exact hS0d | (have hh := ‹(_ ∧ _ ∧ _ ∧ _ ∧ _ ∧ _ ∧ _ ∧ _ ∧ _ ∧ _ ∧ _ ∧ _ ∧ _) ∧ (∃ u0 u1 : Value, _ = some (Obj.cells #[u0, u1] 65 (0, 0))) ∧ Below w.heap.size w _›; with_reducible exact hSb9.out _ _ hh hB) | (have hh := ‹(_ ∧ _ ∧ _ ∧ _ ∧ _ ∧ _ ∧ _ ∧ _ ∧ _ ∧ _ ∧ _ ∧ _ ∧ _) ∧ (∃ u0 u1 : Value, _ = some (Obj.cells #[u0, u1] 65 (0, 0))) ∧ Below w.heap.size w _›; with_reducible exact hSs9.out _ _ _ hh))
    (first | (go_at_call 51; (first | (have hh := ‹(_ ∧ _ ∧ _ ∧ _ ∧ _ ∧ _ ∧ _ ∧ _ ∧ _ ∧ _ ∧ _ ∧ _ ∧ _) ∧ (∃ u0 u1 : Value, _ = some (Obj.cells #[u0, u1] 65 (0, 0))) ∧ Below w.heap.size w _›; with_reducible refine (b51 _ hh.2.2).mono ?_) | with_reducible refine (b51 _ hv.drew).mono ?_ | with_reducible refine (b51 _ hv).mono ?_); rintro e w' ⟨rfl, hB⟩) | (go_at_call 71; with_reducible refine (b71 _).mono ?_; rintro e w' ⟨rfl, hB⟩; have hh := ‹(_ ∧ _ ∧ _ ∧ _ ∧ _ ∧ _ ∧ _ ∧ _ ∧ _ ∧ _ ∧ _ ∧ _ ∧ _) ∧ (∃ u0 u1 : Value, _ = some (Obj.cells #[u0, u1] 65 (0, 0))) ∧ Below w.heap.size w _›; obtain ⟨u0, u1, hb0⟩ := hh.2.1; have hb := blk_on hB hb0; have hr0 := blk_cell hb 0; have hr1 := blk_cell hb 1; have hf0 := blk_frozen hb 0; have hf1 := blk_frozen hb 1; have hv9 := hh.2.2.trans (hB.mono hh.2.2.size); clear hb0 hh))
  clear hSb9 hSs9 hS0d hr0 hr1 hf0 hf1 y0 y1 y2 y3 y4 y5 y6 y7 y8 y9 y10 y11 y12 b51 b71
  go_wp2
  exact bodyPost_ret (results_row_tmp rfl _ _ (w.heap.size + 1) 65 _ (0, 0) _ rfl (blk_put (blk_put hb 0 _ rfl) 1 _ rfl) Tryd.underlying65 rfl info65) rfl ⟨rfl, (hv9.setCell (by simp) _).setCell (by simp) _⟩
set_option maxHeartbeats 4000000 in
set_option maxRecDepth 100000 in
theorem Growth_calls (seed : Int) (Ah : Option Addr) (chc : Nat) (Ak : Option Addr) (ckc : Nat) (chs : List T3) (cks : List Ck) (k a b : Int) (w : World) (hL : Lim w) (hW : WAt 51 w Ah Ak chs cks) (hwf : WfK cks) :
    Calls Tryd.prog 34 #[woV seed Ah chs.length chc Ak cks.length ckc, .int .i64 k, .int .i64 a, .int .i64 b] w fun e w' => e = .returned (.tuple #[.agg #[.int .i64 (growthR chs cks k a b).1.1, .int .i64 (growthR chs cks k a b).1.2], .int .i64 (growthR chs cks k a b).2]) ∧ Below w.heap.size w w' := by
  have hv := Below.refl w.heap.size w
  unfold growthR
  by_cases hE : errS chs cks k a = 0
  rotate_left
  · have hG : errG chs cks k a b = errS chs cks k a := by unfold errG; rw [if_neg hE]
    rw [hG, if_neg hE]
    clear hG
    have c1 := fun W (hB : Below w.heap.size w W) => found_err seed Ah chc Ak ckc chs cks k a W (hL.below hB) (hW.below hB) hwf hE
    generalize errS chs cks k a = E at *
    clear hL hW hwf
    have d1 : (E == 0) = false := beq_eq_false_iff_ne.2 hE
    go_enter Tryd.func34, Tryd.ntmps34
    go_wp2_with fail
    obtain ⟨w1, hw1⟩ : ∃ w1, (w.alloc (.cells #[.int .u64 seed, .slice Ah chs.length chc, .slice Ak cks.length ckc] 32)).alloc (.cells #[.int .i64 0, .int .i64 0] 65) = w1 := ⟨_, rfl⟩
    try rw [hw1]
    have hB : Below w.heap.size w w1 := by rw [← hw1]; exact ((Below.refl _ w).alloc (by first | exact Nat.le_refl _ | (simp; done) | (simp; omega)) _).alloc (by first | exact Nat.le_refl _ | (simp; done) | (simp; omega)) _
    have kx : w1.heap[w.heap.size]? = some (.cells #[.int .u64 seed, .slice Ah chs.length chc, .slice Ak cks.length ckc] 32 (0, 0)) := by rw [← hw1]; exact al_old (al_new _ _ _ (by first | rfl | (simp; done) | (simp; omega)))
    have x0 : w1.cell? ⟨w.heap.size, 0, none⟩ = some (.int .u64 seed) := blk_cell kx 0
    have x1 : w1.cell? ⟨w.heap.size, 1, none⟩ = some (.slice Ah chs.length chc) := blk_cell kx 1
    have x2 : w1.cell? ⟨w.heap.size, 2, none⟩ = some (.slice Ak cks.length ckc) := blk_cell kx 2
    have kr : w1.heap[w.heap.size + 1]? = some (.cells #[.int .i64 0, .int .i64 0] 65 (0, 0)) := by rw [← hw1]; exact al_new _ _ _ (by first | rfl | (simp; done) | (simp; omega))
    have r0 : w1.cell? ⟨w.heap.size + 1, 0, none⟩ = some (.int .i64 0) := blk_cell kr 0
    have r1 : w1.cell? ⟨w.heap.size + 1, 1, none⟩ = some (.int .i64 0) := blk_cell kr 1
    replace hv := hv.trans (hB.mono hv.size)
    clear hB hw1
    clear kx
    have z0 := blk_frozen kr 0
    have z1 := blk_frozen kr 1
    refine (c1 _ hv).mono ?_
    rintro en w2 ⟨x, Ae, ce, sd, Ah2, Ak2, nh2, ch2, nk2, ck2, kk, rfl, hB⟩
    replace kr := blk_on hB kr
    replace x0 := cell_on hB x0
    replace x1 := cell_on hB x1
    replace x2 := cell_on hB x2
    replace r0 := cell_on hB r0
    replace r1 := cell_on hB r1
    replace hv := hv.trans (hB.mono hv.size)
    replace z0 := blk_frozen kr 0
    replace z1 := blk_frozen kr 1
    have hz7 := blk_lt kr
    clear hB c1
    go_wp2_with fail
    exact bodyPost_ret (results_row_tmp rfl _ _ (w.heap.size + 1) 65 _ (0, 0) _ rfl (al_old (blk_put (blk_put kr 0 _ rfl) 1 _ rfl)) Tryd.underlying65 rfl info65) rfl ⟨rfl, ((hv.setCell (by simp) _).setCell (by simp) _).alloc (by have := hv.size; simp; omega) _⟩
  have c57 := fun (W : World) => timed_calls b W
  by_cases hT : timedF b = 0
  rotate_left
  · have hz := errS_zero hE
    have hkz := errK_zero hz.1
    obtain ⟨i, rfl⟩ : ∃ i : Nat, k = i := ⟨k.toNat, by omega⟩
    have hi : i < cks.length := by omega
    obtain ⟨hO, hEv, q, hq, hxq, hc⟩ := hkz.1.at hi
    have hs := hz.2
    have hik : 0 ≤ (i : Int) ∧ (i : Int) ≤ 1000000000000000 := by have := hkz.1.nk; omega
    clear hkz hz
    have hG : errG chs cks (i : Int) a b = timedF b := by unfold errG; rw [if_pos hE, if_neg hT]
    rw [hG, if_neg hT]
    clear hG
    obtain ⟨x, hx⟩ : ∃ x, cks[i] = x := ⟨_, rfl⟩
    generalize timedF b = E at *
    have d2 : (E == 0) = false := beq_eq_false_iff_ne.2 hT
    have c1 := fun W (hB : Below w.heap.size w W) => found_at seed Ah chc Ak ckc chs cks i hi x hx a W (hL.below hB) hwf w hB hW hE
    have hH := hW.h
    clear hL hwf hW
    go_enter Tryd.func34, Tryd.ntmps34
    go_wp2_with fail
    obtain ⟨w1, hw1⟩ : ∃ w1, (w.alloc (.cells #[.int .u64 seed, .slice Ah chs.length chc, .slice Ak cks.length ckc] 32)).alloc (.cells #[.int .i64 0, .int .i64 0] 65) = w1 := ⟨_, rfl⟩
    try rw [hw1]
    have hB : Below w.heap.size w w1 := by rw [← hw1]; exact ((Below.refl _ w).alloc (by first | exact Nat.le_refl _ | (simp; done) | (simp; omega)) _).alloc (by first | exact Nat.le_refl _ | (simp; done) | (simp; omega)) _
    have kx : w1.heap[w.heap.size]? = some (.cells #[.int .u64 seed, .slice Ah chs.length chc, .slice Ak cks.length ckc] 32 (0, 0)) := by rw [← hw1]; exact al_old (al_new _ _ _ (by first | rfl | (simp; done) | (simp; omega)))
    have x0 : w1.cell? ⟨w.heap.size, 0, none⟩ = some (.int .u64 seed) := blk_cell kx 0
    have x1 : w1.cell? ⟨w.heap.size, 1, none⟩ = some (.slice Ah chs.length chc) := blk_cell kx 1
    have x2 : w1.cell? ⟨w.heap.size, 2, none⟩ = some (.slice Ak cks.length ckc) := blk_cell kx 2
    have kr : w1.heap[w.heap.size + 1]? = some (.cells #[.int .i64 0, .int .i64 0] 65 (0, 0)) := by rw [← hw1]; exact al_new _ _ _ (by first | rfl | (simp; done) | (simp; omega))
    have r0 : w1.cell? ⟨w.heap.size + 1, 0, none⟩ = some (.int .i64 0) := blk_cell kr 0
    have r1 : w1.cell? ⟨w.heap.size + 1, 1, none⟩ = some (.int .i64 0) := blk_cell kr 1
    replace hv := hv.trans (hB.mono hv.size)
    clear hB hw1
    clear kx
    have z0 := blk_frozen kr 0
    have z1 := blk_frozen kr 1
    refine (c1 _ hv).mono ?_
    rintro en w2 ⟨Ae, ce, rfl, hC, hB⟩
    replace kr := blk_on hB kr
    replace x0 := cell_on hB x0
    replace x1 := cell_on hB x1
    replace x2 := cell_on hB x2
    replace r0 := cell_on hB r0
    replace r1 := cell_on hB r1
    replace hv := hv.trans (hB.mono hv.size)
    replace z0 := blk_frozen kr 0
    replace z1 := blk_frozen kr 1
    clear hB c1
    have hz7 := blk_lt kr
    clear hC hH hO hEv hxq
    go_wp2_with fail
    obtain ⟨w3, hw3⟩ : ∃ w3, w2.alloc (.cells #[.int .i64 x.kd, .int .i64 x.ph, .int .i64 x.rt, .int .i64 x.dr, .int .i64 x.wh, .int .i64 x.wk, .int .i64 x.ht, .int .i64 x.ch, .slice Ae x.es.length ce, .int .u64 seed, .slice Ah chs.length chc, .slice Ak cks.length ckc, .int .i64 (i : Int)] 97) = w3 := ⟨_, rfl⟩
    try rw [hw3]
    have hB : Below w2.heap.size w2 w3 := by rw [← hw3]; exact (Below.refl _ w2).alloc (by first | exact Nat.le_refl _ | (simp; done) | (simp; omega)) _
    have ky : w3.heap[w2.heap.size]? = some (.cells #[.int .i64 x.kd, .int .i64 x.ph, .int .i64 x.rt, .int .i64 x.dr, .int .i64 x.wh, .int .i64 x.wk, .int .i64 x.ht, .int .i64 x.ch, .slice Ae x.es.length ce, .int .u64 seed, .slice Ah chs.length chc, .slice Ak cks.length ckc, .int .i64 (i : Int)] 97 (0, 0)) := by rw [← hw3]; exact al_new _ _ _ (by first | rfl | (simp; done) | (simp; omega))
    have y0 : w3.cell? ⟨w2.heap.size, 0, none⟩ = some (.int .i64 x.kd) := blk_cell ky 0
    have y1 : w3.cell? ⟨w2.heap.size, 1, none⟩ = some (.int .i64 x.ph) := blk_cell ky 1
    have y2 : w3.cell? ⟨w2.heap.size, 2, none⟩ = some (.int .i64 x.rt) := blk_cell ky 2
    have y3 : w3.cell? ⟨w2.heap.size, 3, none⟩ = some (.int .i64 x.dr) := blk_cell ky 3
    have y4 : w3.cell? ⟨w2.heap.size, 4, none⟩ = some (.int .i64 x.wh) := blk_cell ky 4
    have y5 : w3.cell? ⟨w2.heap.size, 5, none⟩ = some (.int .i64 x.wk) := blk_cell ky 5
    have y6 : w3.cell? ⟨w2.heap.size, 6, none⟩ = some (.int .i64 x.ht) := blk_cell ky 6
    have y7 : w3.cell? ⟨w2.heap.size, 7, none⟩ = some (.int .i64 x.ch) := blk_cell ky 7
    have y8 : w3.cell? ⟨w2.heap.size, 8, none⟩ = some (.slice Ae x.es.length ce) := blk_cell ky 8
    have y9 : w3.cell? ⟨w2.heap.size, 9, none⟩ = some (.int .u64 seed) := blk_cell ky 9
    have y10 : w3.cell? ⟨w2.heap.size, 10, none⟩ = some (.slice Ah chs.length chc) := blk_cell ky 10
    have y11 : w3.cell? ⟨w2.heap.size, 11, none⟩ = some (.slice Ak cks.length ckc) := blk_cell ky 11
    have y12 : w3.cell? ⟨w2.heap.size, 12, none⟩ = some (.int .i64 (i : Int)) := blk_cell ky 12
    clear ky
    replace kr := blk_on hB kr
    replace x0 := cell_on hB x0
    replace x1 := cell_on hB x1
    replace x2 := cell_on hB x2
    replace r0 := cell_on hB r0
    replace r1 := cell_on hB r1
    replace hv := hv.trans (hB.mono hv.size)
    clear hB hw3
    clear y0 y1 y2 y3 y4 y5 y6 y7 y8 y9 y10 y11 y12
    refine (c57 _).mono ?_
    rintro en w4 ⟨rfl, hB⟩
    replace kr := blk_on hB kr
    replace x0 := cell_on hB x0
    replace x1 := cell_on hB x1
    replace x2 := cell_on hB x2
    replace r0 := cell_on hB r0
    replace r1 := cell_on hB r1
    replace hv := hv.trans (hB.mono hv.size)
    replace z0 := blk_frozen kr 0
    replace z1 := blk_frozen kr 1
    clear hB
    go_wp2_with fail
    refine (c57 _).mono ?_
    rintro en w5 ⟨rfl, hB⟩
    replace kr := blk_on hB kr
    replace x0 := cell_on hB x0
    replace x1 := cell_on hB x1
    replace x2 := cell_on hB x2
    replace r0 := cell_on hB r0
    replace r1 := cell_on hB r1
    replace hv := hv.trans (hB.mono hv.size)
    replace z0 := blk_frozen kr 0
    replace z1 := blk_frozen kr 1
    clear hB c57
    go_wp2_with fail
    exact bodyPost_ret (results_row_tmp rfl _ _ (w.heap.size + 1) 65 _ (0, 0) _ rfl (blk_put (blk_put kr 0 _ rfl) 1 _ rfl) Tryd.underlying65 rfl info65) rfl ⟨rfl, (hv.setCell (by simp) _).setCell (by simp) _⟩
  by_cases hab : b < a
  · have hz := errS_zero hE
    have hkz := errK_zero hz.1
    obtain ⟨i, rfl⟩ : ∃ i : Nat, k = i := ⟨k.toNat, by omega⟩
    have hi : i < cks.length := by omega
    obtain ⟨hO, hEv, q, hq, hxq, hc⟩ := hkz.1.at hi
    have hs := hz.2
    have hik : 0 ≤ (i : Int) ∧ (i : Int) ≤ 1000000000000000 := by have := hkz.1.nk; omega
    clear hkz hz
    have hG : errG chs cks (i : Int) a b = 1 := by unfold errG; rw [if_pos hE, if_pos hT, if_pos hab]
    rw [hG, if_neg (by decide)]
    clear hG
    rw [hT] at c57
    have d3 : decide (a > b) = true := decide_eq_true hab
    have d3' : decide (b < a) = true := decide_eq_true hab
    obtain ⟨x, hx⟩ : ∃ x, cks[i] = x := ⟨_, rfl⟩
    have c1 := fun W (hB : Below w.heap.size w W) => found_at seed Ah chc Ak ckc chs cks i hi x hx a W (hL.below hB) hwf w hB hW hE
    have hH := hW.h
    clear hL hwf hW
    go_enter Tryd.func34, Tryd.ntmps34
    go_wp2_with fail
    obtain ⟨w1, hw1⟩ : ∃ w1, (w.alloc (.cells #[.int .u64 seed, .slice Ah chs.length chc, .slice Ak cks.length ckc] 32)).alloc (.cells #[.int .i64 0, .int .i64 0] 65) = w1 := ⟨_, rfl⟩
    try rw [hw1]
    have hB : Below w.heap.size w w1 := by rw [← hw1]; exact ((Below.refl _ w).alloc (by first | exact Nat.le_refl _ | (simp; done) | (simp; omega)) _).alloc (by first | exact Nat.le_refl _ | (simp; done) | (simp; omega)) _
    have kx : w1.heap[w.heap.size]? = some (.cells #[.int .u64 seed, .slice Ah chs.length chc, .slice Ak cks.length ckc] 32 (0, 0)) := by rw [← hw1]; exact al_old (al_new _ _ _ (by first | rfl | (simp; done) | (simp; omega)))
    have x0 : w1.cell? ⟨w.heap.size, 0, none⟩ = some (.int .u64 seed) := blk_cell kx 0
    have x1 : w1.cell? ⟨w.heap.size, 1, none⟩ = some (.slice Ah chs.length chc) := blk_cell kx 1
    have x2 : w1.cell? ⟨w.heap.size, 2, none⟩ = some (.slice Ak cks.length ckc) := blk_cell kx 2
    have kr : w1.heap[w.heap.size + 1]? = some (.cells #[.int .i64 0, .int .i64 0] 65 (0, 0)) := by rw [← hw1]; exact al_new _ _ _ (by first | rfl | (simp; done) | (simp; omega))
    have r0 : w1.cell? ⟨w.heap.size + 1, 0, none⟩ = some (.int .i64 0) := blk_cell kr 0
    have r1 : w1.cell? ⟨w.heap.size + 1, 1, none⟩ = some (.int .i64 0) := blk_cell kr 1
    replace hv := hv.trans (hB.mono hv.size)
    clear hB hw1
    clear kx
    have z0 := blk_frozen kr 0
    have z1 := blk_frozen kr 1
    refine (c1 _ hv).mono ?_
    rintro en w2 ⟨Ae, ce, rfl, hC, hB⟩
    replace kr := blk_on hB kr
    replace x0 := cell_on hB x0
    replace x1 := cell_on hB x1
    replace x2 := cell_on hB x2
    replace r0 := cell_on hB r0
    replace r1 := cell_on hB r1
    replace hv := hv.trans (hB.mono hv.size)
    replace z0 := blk_frozen kr 0
    replace z1 := blk_frozen kr 1
    clear hB c1
    have hz7 := blk_lt kr
    clear hC hH hO hEv hxq
    go_wp2_with fail
    obtain ⟨w3, hw3⟩ : ∃ w3, w2.alloc (.cells #[.int .i64 x.kd, .int .i64 x.ph, .int .i64 x.rt, .int .i64 x.dr, .int .i64 x.wh, .int .i64 x.wk, .int .i64 x.ht, .int .i64 x.ch, .slice Ae x.es.length ce, .int .u64 seed, .slice Ah chs.length chc, .slice Ak cks.length ckc, .int .i64 (i : Int)] 97) = w3 := ⟨_, rfl⟩
    try rw [hw3]
    have hB : Below w2.heap.size w2 w3 := by rw [← hw3]; exact (Below.refl _ w2).alloc (by first | exact Nat.le_refl _ | (simp; done) | (simp; omega)) _
    have ky : w3.heap[w2.heap.size]? = some (.cells #[.int .i64 x.kd, .int .i64 x.ph, .int .i64 x.rt, .int .i64 x.dr, .int .i64 x.wh, .int .i64 x.wk, .int .i64 x.ht, .int .i64 x.ch, .slice Ae x.es.length ce, .int .u64 seed, .slice Ah chs.length chc, .slice Ak cks.length ckc, .int .i64 (i : Int)] 97 (0, 0)) := by rw [← hw3]; exact al_new _ _ _ (by first | rfl | (simp; done) | (simp; omega))
    have y0 : w3.cell? ⟨w2.heap.size, 0, none⟩ = some (.int .i64 x.kd) := blk_cell ky 0
    have y1 : w3.cell? ⟨w2.heap.size, 1, none⟩ = some (.int .i64 x.ph) := blk_cell ky 1
    have y2 : w3.cell? ⟨w2.heap.size, 2, none⟩ = some (.int .i64 x.rt) := blk_cell ky 2
    have y3 : w3.cell? ⟨w2.heap.size, 3, none⟩ = some (.int .i64 x.dr) := blk_cell ky 3
    have y4 : w3.cell? ⟨w2.heap.size, 4, none⟩ = some (.int .i64 x.wh) := blk_cell ky 4
    have y5 : w3.cell? ⟨w2.heap.size, 5, none⟩ = some (.int .i64 x.wk) := blk_cell ky 5
    have y6 : w3.cell? ⟨w2.heap.size, 6, none⟩ = some (.int .i64 x.ht) := blk_cell ky 6
    have y7 : w3.cell? ⟨w2.heap.size, 7, none⟩ = some (.int .i64 x.ch) := blk_cell ky 7
    have y8 : w3.cell? ⟨w2.heap.size, 8, none⟩ = some (.slice Ae x.es.length ce) := blk_cell ky 8
    have y9 : w3.cell? ⟨w2.heap.size, 9, none⟩ = some (.int .u64 seed) := blk_cell ky 9
    have y10 : w3.cell? ⟨w2.heap.size, 10, none⟩ = some (.slice Ah chs.length chc) := blk_cell ky 10
    have y11 : w3.cell? ⟨w2.heap.size, 11, none⟩ = some (.slice Ak cks.length ckc) := blk_cell ky 11
    have y12 : w3.cell? ⟨w2.heap.size, 12, none⟩ = some (.int .i64 (i : Int)) := blk_cell ky 12
    clear ky
    replace kr := blk_on hB kr
    replace x0 := cell_on hB x0
    replace x1 := cell_on hB x1
    replace x2 := cell_on hB x2
    replace r0 := cell_on hB r0
    replace r1 := cell_on hB r1
    replace hv := hv.trans (hB.mono hv.size)
    clear hB hw3
    clear y0 y1 y2 y3 y4 y5 y6 y7 y8 y9 y10 y11 y12
    refine (c57 _).mono ?_
    rintro en w4 ⟨rfl, hB⟩
    replace kr := blk_on hB kr
    replace x0 := cell_on hB x0
    replace x1 := cell_on hB x1
    replace x2 := cell_on hB x2
    replace r0 := cell_on hB r0
    replace r1 := cell_on hB r1
    replace hv := hv.trans (hB.mono hv.size)
    replace z0 := blk_frozen kr 0
    replace z1 := blk_frozen kr 1
    clear hB c57
    go_wp2_with fail
    exact bodyPost_ret (results_row_tmp rfl _ _ (w.heap.size + 1) 65 _ (0, 0) _ rfl (blk_put (blk_put kr 0 _ rfl) 1 _ rfl) Tryd.underlying65 rfl info65) rfl ⟨rfl, (hv.setCell (by simp) _).setCell (by simp) _⟩
  have hz := errS_zero hE
  have hkz := errK_zero hz.1
  obtain ⟨i, rfl⟩ : ∃ i : Nat, k = i := ⟨k.toNat, by omega⟩
  have hi : i < cks.length := by omega
  obtain ⟨hO, hEv, q, hq, hxq, hc⟩ := hkz.1.at hi
  have hs := hz.2
  have hik : 0 ≤ (i : Int) ∧ (i : Int) ≤ 1000000000000000 := by have := hkz.1.nk; omega
  clear hkz hz
  have hG : errG chs cks (i : Int) a b = 0 := by unfold errG; rw [if_pos hE, if_pos hT, if_neg hab]
  rw [if_pos hG]
  clear hG
  rw [hT] at c57
  have hb2 : 0 ≤ b ∧ b ≤ 1000000 := by rcases Classical.em (0 ≤ b ∧ b ≤ 1000000) with h | h; (exact h); (unfold timedF at hT; rw [if_neg h] at hT; omega)
  have d3 : decide (a > b) = false := decide_eq_false (by omega)
  have d3' : decide (b < a) = false := decide_eq_false hab
  unfold stillK growF
  rw [ckAt_of hi]
  rw [room_of hq hxq]
  obtain ⟨x, hx⟩ : ∃ x, cks[i] = x := ⟨_, rfl⟩
  rw [hx] at hxq hO hEv ⊢
  have HXQ := Aside0.mk hxq
  clear hxq
  have s1A := still_b hO hEv hc hs
  have s1B := still_b hO hEv hc hb2
  have hwk := rt_b hO
  have hwk0 := hO.wk.1
  have a51A := fun (Ae : Option Addr) (ce : Nat) (W : World) (hC : Kd.C k3 W Ae x.es.length x.es) (hH : Kd.C k3 W Ah chs.length chs) => still_calls x Ae ce seed Ah chc (.slice Ak cks.length ckc) (i : Int) a chs q hq W HXQ.out hC hH chs.length hO hEv hc hs
  obtain ⟨SA, hSA⟩ : ∃ v, stillF x chs[q] a = v := ⟨_, rfl⟩
  rw [hSA] at s1A a51A ⊢
  clear hSA
  have a51B := fun (Ae : Option Addr) (ce : Nat) (W : World) (hC : Kd.C k3 W Ae x.es.length x.es) (hH : Kd.C k3 W Ah chs.length chs) => still_calls x Ae ce seed Ah chc (.slice Ak cks.length ckc) (i : Int) b chs q hq W HXQ.out hC hH chs.length hO hEv hc hb2
  obtain ⟨SB, hSB⟩ : ∃ v, stillF x chs[q] b = v := ⟨_, rfl⟩
  rw [hSB] at s1B a51B ⊢
  clear hSB
  have q1 : IntKind.i64.wrap (a.tdiv 100) = a / 100 := by rw [Int.tdiv_eq_ediv_of_nonneg hs.1]; exact C.wr _ (by omega) (by omega)
  have q1' : IntKind.i64.wrap (b.tdiv 100) = b / 100 := by rw [Int.tdiv_eq_ediv_of_nonneg hb2.1]; exact C.wr _ (by omega) (by omega)
  have q5 : IntKind.i64.wrap (b / 100 - a / 100) = b / 100 - a / 100 := C.wr _ (by omega) (by omega)
  have q6 : IntKind.i64.wrap (SB - SA) = SB - SA := C.wr _ (by omega) (by omega)
  have q2 : 0 ≤ x.wk * (b / 100 - a / 100) ∧ x.wk * (b / 100 - a / 100) ≤ 10000000000000 := ⟨Int.mul_nonneg hwk0 (by omega), by have : x.wk * (b / 100 - a / 100) ≤ 1000000000 * 10000 := Int.mul_le_mul hwk.2.2.2 (by omega) (by omega) (by omega); omega⟩
  have q3 : IntKind.i64.wrap (x.wk * (b / 100 - a / 100)) = x.wk * (b / 100 - a / 100) := C.wr _ (by omega) (by omega)
  have b71 := fun (W : World) => around_calls (SB - SA) (x.wk * (b / 100 - a / 100)) W (by omega) (by omega)
  have c1 := fun W (hB : Below w.heap.size w W) => found_at seed Ah chc Ak ckc chs cks i hi x hx a W (hL.below hB) hwf w hB hW hE
  have hH := hW.h
  clear hL hwf hW
  go_enter Tryd.func34, Tryd.ntmps34
  go_wp2_with fail
  obtain ⟨w1, hw1⟩ : ∃ w1, (w.alloc (.cells #[.int .u64 seed, .slice Ah chs.length chc, .slice Ak cks.length ckc] 32)).alloc (.cells #[.int .i64 0, .int .i64 0] 65) = w1 := ⟨_, rfl⟩
  try rw [hw1]
  have hB : Below w.heap.size w w1 := by rw [← hw1]; exact ((Below.refl _ w).alloc (by first | exact Nat.le_refl _ | (simp; done) | (simp; omega)) _).alloc (by first | exact Nat.le_refl _ | (simp; done) | (simp; omega)) _
  have kx : w1.heap[w.heap.size]? = some (.cells #[.int .u64 seed, .slice Ah chs.length chc, .slice Ak cks.length ckc] 32 (0, 0)) := by rw [← hw1]; exact al_old (al_new _ _ _ (by first | rfl | (simp; done) | (simp; omega)))
  have x0 : w1.cell? ⟨w.heap.size, 0, none⟩ = some (.int .u64 seed) := blk_cell kx 0
  have x1 : w1.cell? ⟨w.heap.size, 1, none⟩ = some (.slice Ah chs.length chc) := blk_cell kx 1
  have x2 : w1.cell? ⟨w.heap.size, 2, none⟩ = some (.slice Ak cks.length ckc) := blk_cell kx 2
  have kr : w1.heap[w.heap.size + 1]? = some (.cells #[.int .i64 0, .int .i64 0] 65 (0, 0)) := by rw [← hw1]; exact al_new _ _ _ (by first | rfl | (simp; done) | (simp; omega))
  have r0 : w1.cell? ⟨w.heap.size + 1, 0, none⟩ = some (.int .i64 0) := blk_cell kr 0
  have r1 : w1.cell? ⟨w.heap.size + 1, 1, none⟩ = some (.int .i64 0) := blk_cell kr 1
  replace hv := hv.trans (hB.mono hv.size)
  clear hB hw1
  clear kx
  have z0 := blk_frozen kr 0
  have z1 := blk_frozen kr 1
  refine (c1 _ hv).mono ?_
  rintro en w2 ⟨Ae, ce, rfl, hC, hB⟩
  replace kr := blk_on hB kr
  replace x0 := cell_on hB x0
  replace x1 := cell_on hB x1
  replace x2 := cell_on hB x2
  replace r0 := cell_on hB r0
  replace r1 := cell_on hB r1
  replace hv := hv.trans (hB.mono hv.size)
  replace z0 := blk_frozen kr 0
  replace z1 := blk_frozen kr 1
  clear hB c1
  have hz7 := blk_lt kr
  go_wp2_with fail
  obtain ⟨w3, hw3⟩ : ∃ w3, w2.alloc (.cells #[.int .i64 x.kd, .int .i64 x.ph, .int .i64 x.rt, .int .i64 x.dr, .int .i64 x.wh, .int .i64 x.wk, .int .i64 x.ht, .int .i64 x.ch, .slice Ae x.es.length ce, .int .u64 seed, .slice Ah chs.length chc, .slice Ak cks.length ckc, .int .i64 (i : Int)] 97) = w3 := ⟨_, rfl⟩
  try rw [hw3]
  have hB : Below w2.heap.size w2 w3 := by rw [← hw3]; exact (Below.refl _ w2).alloc (by first | exact Nat.le_refl _ | (simp; done) | (simp; omega)) _
  have ky : w3.heap[w2.heap.size]? = some (.cells #[.int .i64 x.kd, .int .i64 x.ph, .int .i64 x.rt, .int .i64 x.dr, .int .i64 x.wh, .int .i64 x.wk, .int .i64 x.ht, .int .i64 x.ch, .slice Ae x.es.length ce, .int .u64 seed, .slice Ah chs.length chc, .slice Ak cks.length ckc, .int .i64 (i : Int)] 97 (0, 0)) := by rw [← hw3]; exact al_new _ _ _ (by first | rfl | (simp; done) | (simp; omega))
  have y0 : w3.cell? ⟨w2.heap.size, 0, none⟩ = some (.int .i64 x.kd) := blk_cell ky 0
  have y1 : w3.cell? ⟨w2.heap.size, 1, none⟩ = some (.int .i64 x.ph) := blk_cell ky 1
  have y2 : w3.cell? ⟨w2.heap.size, 2, none⟩ = some (.int .i64 x.rt) := blk_cell ky 2
  have y3 : w3.cell? ⟨w2.heap.size, 3, none⟩ = some (.int .i64 x.dr) := blk_cell ky 3
  have y4 : w3.cell? ⟨w2.heap.size, 4, none⟩ = some (.int .i64 x.wh) := blk_cell ky 4
  have y5 : w3.cell? ⟨w2.heap.size, 5, none⟩ = some (.int .i64 x.wk) := blk_cell ky 5
  have y6 : w3.cell? ⟨w2.heap.size, 6, none⟩ = some (.int .i64 x.ht) := blk_cell ky 6
  have y7 : w3.cell? ⟨w2.heap.size, 7, none⟩ = some (.int .i64 x.ch) := blk_cell ky 7
  have y8 : w3.cell? ⟨w2.heap.size, 8, none⟩ = some (.slice Ae x.es.length ce) := blk_cell ky 8
  have y9 : w3.cell? ⟨w2.heap.size, 9, none⟩ = some (.int .u64 seed) := blk_cell ky 9
  have y10 : w3.cell? ⟨w2.heap.size, 10, none⟩ = some (.slice Ah chs.length chc) := blk_cell ky 10
  have y11 : w3.cell? ⟨w2.heap.size, 11, none⟩ = some (.slice Ak cks.length ckc) := blk_cell ky 11
  have y12 : w3.cell? ⟨w2.heap.size, 12, none⟩ = some (.int .i64 (i : Int)) := blk_cell ky 12
  clear ky
  replace kr := blk_on hB kr
  replace x0 := cell_on hB x0
  replace x1 := cell_on hB x1
  replace x2 := cell_on hB x2
  replace r0 := cell_on hB r0
  replace r1 := cell_on hB r1
  replace hv := hv.trans (hB.mono hv.size)
  clear hB hw3
  refine (c57 _).mono ?_
  rintro en w4 ⟨rfl, hB⟩
  replace kr := blk_on hB kr
  replace x0 := cell_on hB x0
  replace x1 := cell_on hB x1
  replace x2 := cell_on hB x2
  replace r0 := cell_on hB r0
  replace r1 := cell_on hB r1
  replace y0 := cell_on hB y0
  replace y1 := cell_on hB y1
  replace y2 := cell_on hB y2
  replace y3 := cell_on hB y3
  replace y4 := cell_on hB y4
  replace y5 := cell_on hB y5
  replace y6 := cell_on hB y6
  replace y7 := cell_on hB y7
  replace y8 := cell_on hB y8
  replace y9 := cell_on hB y9
  replace y10 := cell_on hB y10
  replace y11 := cell_on hB y11
  replace y12 := cell_on hB y12
  replace hv := hv.trans (hB.mono hv.size)
  clear hB c57
  go_upto_region 8 with fail
  have hne : w2.heap.size ≠ w.heap.size + 1 := by have := hz7; omega
  have b51A := fun (W : World) (hB : Below w.heap.size w W) => a51A Ae ce W (Kd.C_below hC hB) (Kd.C_below hH hB)
  have b51B := fun (W : World) (hB : Below w.heap.size w W) => a51B Ae ce W (Kd.C_below hC hB) (Kd.C_below hH hB)
  clear a51A a51B x0 x1 x2 r0 r1 z0 z1 hC hH
  have hS0 : (fun w' : World => (w'.cell? ⟨w2.heap.size, 0, none⟩ = some (.int .i64 x.kd) ∧ w'.cell? ⟨w2.heap.size, 1, none⟩ = some (.int .i64 x.ph) ∧ w'.cell? ⟨w2.heap.size, 2, none⟩ = some (.int .i64 x.rt) ∧ w'.cell? ⟨w2.heap.size, 3, none⟩ = some (.int .i64 x.dr) ∧ w'.cell? ⟨w2.heap.size, 4, none⟩ = some (.int .i64 x.wh) ∧ w'.cell? ⟨w2.heap.size, 5, none⟩ = some (.int .i64 x.wk) ∧ w'.cell? ⟨w2.heap.size, 6, none⟩ = some (.int .i64 x.ht) ∧ w'.cell? ⟨w2.heap.size, 7, none⟩ = some (.int .i64 x.ch) ∧ w'.cell? ⟨w2.heap.size, 8, none⟩ = some (.slice Ae x.es.length ce) ∧ w'.cell? ⟨w2.heap.size, 9, none⟩ = some (.int .u64 seed) ∧ w'.cell? ⟨w2.heap.size, 10, none⟩ = some (.slice Ah chs.length chc) ∧ w'.cell? ⟨w2.heap.size, 11, none⟩ = some (.slice Ak cks.length ckc) ∧ w'.cell? ⟨w2.heap.size, 12, none⟩ = some (.int .i64 (i : Int))) ∧ (∃ u0 u1 : Value, w'.heap[w.heap.size + 1]? = some (.cells #[u0, u1] 65 (0, 0))) ∧ Below w.heap.size w w') w4 := ⟨⟨y0, y1, y2, y3, y4, y5, y6, y7, y8, y9, y10, y11, y12⟩, ⟨_, _, kr⟩, hv⟩
  have hSb : ∀ W w' : World, (fun w' : World => (w'.cell? ⟨w2.heap.size, 0, none⟩ = some (.int .i64 x.kd) ∧ w'.cell? ⟨w2.heap.size, 1, none⟩ = some (.int .i64 x.ph) ∧ w'.cell? ⟨w2.heap.size, 2, none⟩ = some (.int .i64 x.rt) ∧ w'.cell? ⟨w2.heap.size, 3, none⟩ = some (.int .i64 x.dr) ∧ w'.cell? ⟨w2.heap.size, 4, none⟩ = some (.int .i64 x.wh) ∧ w'.cell? ⟨w2.heap.size, 5, none⟩ = some (.int .i64 x.wk) ∧ w'.cell? ⟨w2.heap.size, 6, none⟩ = some (.int .i64 x.ht) ∧ w'.cell? ⟨w2.heap.size, 7, none⟩ = some (.int .i64 x.ch) ∧ w'.cell? ⟨w2.heap.size, 8, none⟩ = some (.slice Ae x.es.length ce) ∧ w'.cell? ⟨w2.heap.size, 9, none⟩ = some (.int .u64 seed) ∧ w'.cell? ⟨w2.heap.size, 10, none⟩ = some (.slice Ah chs.length chc) ∧ w'.cell? ⟨w2.heap.size, 11, none⟩ = some (.slice Ak cks.length ckc) ∧ w'.cell? ⟨w2.heap.size, 12, none⟩ = some (.int .i64 (i : Int))) ∧ (∃ u0 u1 : Value, w'.heap[w.heap.size + 1]? = some (.cells #[u0, u1] 65 (0, 0))) ∧ Below w.heap.size w w') W → Below W.heap.size W w' → (fun w' : World => (w'.cell? ⟨w2.heap.size, 0, none⟩ = some (.int .i64 x.kd) ∧ w'.cell? ⟨w2.heap.size, 1, none⟩ = some (.int .i64 x.ph) ∧ w'.cell? ⟨w2.heap.size, 2, none⟩ = some (.int .i64 x.rt) ∧ w'.cell? ⟨w2.heap.size, 3, none⟩ = some (.int .i64 x.dr) ∧ w'.cell? ⟨w2.heap.size, 4, none⟩ = some (.int .i64 x.wh) ∧ w'.cell? ⟨w2.heap.size, 5, none⟩ = some (.int .i64 x.wk) ∧ w'.cell? ⟨w2.heap.size, 6, none⟩ = some (.int .i64 x.ht) ∧ w'.cell? ⟨w2.heap.size, 7, none⟩ = some (.int .i64 x.ch) ∧ w'.cell? ⟨w2.heap.size, 8, none⟩ = some (.slice Ae x.es.length ce) ∧ w'.cell? ⟨w2.heap.size, 9, none⟩ = some (.int .u64 seed) ∧ w'.cell? ⟨w2.heap.size, 10, none⟩ = some (.slice Ah chs.length chc) ∧ w'.cell? ⟨w2.heap.size, 11, none⟩ = some (.slice Ak cks.length ckc) ∧ w'.cell? ⟨w2.heap.size, 12, none⟩ = some (.int .i64 (i : Int))) ∧ (∃ u0 u1 : Value, w'.heap[w.heap.size + 1]? = some (.cells #[u0, u1] 65 (0, 0))) ∧ Below w.heap.size w w') w' := fun W w' h hB => ⟨⟨cell_on hB h.1.1, cell_on hB h.1.2.1, cell_on hB h.1.2.2.1, cell_on hB h.1.2.2.2.1, cell_on hB h.1.2.2.2.2.1, cell_on hB h.1.2.2.2.2.2.1, cell_on hB h.1.2.2.2.2.2.2.1, cell_on hB h.1.2.2.2.2.2.2.2.1, cell_on hB h.1.2.2.2.2.2.2.2.2.1, cell_on hB h.1.2.2.2.2.2.2.2.2.2.1, cell_on hB h.1.2.2.2.2.2.2.2.2.2.2.1, cell_on hB h.1.2.2.2.2.2.2.2.2.2.2.2.1, cell_on hB h.1.2.2.2.2.2.2.2.2.2.2.2.2⟩, by obtain ⟨u0, u1, hb⟩ := h.2.1; exact ⟨u0, u1, blk_on hB hb⟩, h.2.2.trans (hB.mono h.2.2.size)⟩
  have hSs : ∀ (W : World) (v0 v1 : Value), (fun w' : World => (w'.cell? ⟨w2.heap.size, 0, none⟩ = some (.int .i64 x.kd) ∧ w'.cell? ⟨w2.heap.size, 1, none⟩ = some (.int .i64 x.ph) ∧ w'.cell? ⟨w2.heap.size, 2, none⟩ = some (.int .i64 x.rt) ∧ w'.cell? ⟨w2.heap.size, 3, none⟩ = some (.int .i64 x.dr) ∧ w'.cell? ⟨w2.heap.size, 4, none⟩ = some (.int .i64 x.wh) ∧ w'.cell? ⟨w2.heap.size, 5, none⟩ = some (.int .i64 x.wk) ∧ w'.cell? ⟨w2.heap.size, 6, none⟩ = some (.int .i64 x.ht) ∧ w'.cell? ⟨w2.heap.size, 7, none⟩ = some (.int .i64 x.ch) ∧ w'.cell? ⟨w2.heap.size, 8, none⟩ = some (.slice Ae x.es.length ce) ∧ w'.cell? ⟨w2.heap.size, 9, none⟩ = some (.int .u64 seed) ∧ w'.cell? ⟨w2.heap.size, 10, none⟩ = some (.slice Ah chs.length chc) ∧ w'.cell? ⟨w2.heap.size, 11, none⟩ = some (.slice Ak cks.length ckc) ∧ w'.cell? ⟨w2.heap.size, 12, none⟩ = some (.int .i64 (i : Int))) ∧ (∃ u0 u1 : Value, w'.heap[w.heap.size + 1]? = some (.cells #[u0, u1] 65 (0, 0))) ∧ Below w.heap.size w w') W → (fun w' : World => (w'.cell? ⟨w2.heap.size, 0, none⟩ = some (.int .i64 x.kd) ∧ w'.cell? ⟨w2.heap.size, 1, none⟩ = some (.int .i64 x.ph) ∧ w'.cell? ⟨w2.heap.size, 2, none⟩ = some (.int .i64 x.rt) ∧ w'.cell? ⟨w2.heap.size, 3, none⟩ = some (.int .i64 x.dr) ∧ w'.cell? ⟨w2.heap.size, 4, none⟩ = some (.int .i64 x.wh) ∧ w'.cell? ⟨w2.heap.size, 5, none⟩ = some (.int .i64 x.wk) ∧ w'.cell? ⟨w2.heap.size, 6, none⟩ = some (.int .i64 x.ht) ∧ w'.cell? ⟨w2.heap.size, 7, none⟩ = some (.int .i64 x.ch) ∧ w'.cell? ⟨w2.heap.size, 8, none⟩ = some (.slice Ae x.es.length ce) ∧ w'.cell? ⟨w2.heap.size, 9, none⟩ = some (.int .u64 seed) ∧ w'.cell? ⟨w2.heap.size, 10, none⟩ = some (.slice Ah chs.length chc) ∧ w'.cell? ⟨w2.heap.size, 11, none⟩ = some (.slice Ak cks.length ckc) ∧ w'.cell? ⟨w2.heap.size, 12, none⟩ = some (.int .i64 (i : Int))) ∧ (∃ u0 u1 : Value, w'.heap[w.heap.size + 1]? = some (.cells #[u0, u1] 65 (0, 0))) ∧ Below w.heap.size w w') ((W.setCell ⟨w.heap.size + 1, 0, none⟩ v0).setCell ⟨w.heap.size + 1, 1, none⟩ v1) := fun W v0 v1 h => ⟨⟨(World.cell?_of_block ((Below.heap_setCell _ _ _ _ hne).trans (Below.heap_setCell _ _ _ _ hne))).trans h.1.1, (World.cell?_of_block ((Below.heap_setCell _ _ _ _ hne).trans (Below.heap_setCell _ _ _ _ hne))).trans h.1.2.1, (World.cell?_of_block ((Below.heap_setCell _ _ _ _ hne).trans (Below.heap_setCell _ _ _ _ hne))).trans h.1.2.2.1, (World.cell?_of_block ((Below.heap_setCell _ _ _ _ hne).trans (Below.heap_setCell _ _ _ _ hne))).trans h.1.2.2.2.1, (World.cell?_of_block ((Below.heap_setCell _ _ _ _ hne).trans (Below.heap_setCell _ _ _ _ hne))).trans h.1.2.2.2.2.1, (World.cell?_of_block ((Below.heap_setCell _ _ _ _ hne).trans (Below.heap_setCell _ _ _ _ hne))).trans h.1.2.2.2.2.2.1, (World.cell?_of_block ((Below.heap_setCell _ _ _ _ hne).trans (Below.heap_setCell _ _ _ _ hne))).trans h.1.2.2.2.2.2.2.1, (World.cell?_of_block ((Below.heap_setCell _ _ _ _ hne).trans (Below.heap_setCell _ _ _ _ hne))).trans h.1.2.2.2.2.2.2.2.1, (World.cell?_of_block ((Below.heap_setCell _ _ _ _ hne).trans (Below.heap_setCell _ _ _ _ hne))).trans h.1.2.2.2.2.2.2.2.2.1, (World.cell?_of_block ((Below.heap_setCell _ _ _ _ hne).trans (Below.heap_setCell _ _ _ _ hne))).trans h.1.2.2.2.2.2.2.2.2.2.1, (World.cell?_of_block ((Below.heap_setCell _ _ _ _ hne).trans (Below.heap_setCell _ _ _ _ hne))).trans h.1.2.2.2.2.2.2.2.2.2.2.1, (World.cell?_of_block ((Below.heap_setCell _ _ _ _ hne).trans (Below.heap_setCell _ _ _ _ hne))).trans h.1.2.2.2.2.2.2.2.2.2.2.2.1, (World.cell?_of_block ((Below.heap_setCell _ _ _ _ hne).trans (Below.heap_setCell _ _ _ _ hne))).trans h.1.2.2.2.2.2.2.2.2.2.2.2.2⟩, by obtain ⟨u0, u1, hb⟩ := h.2.1; exact ⟨v0, v1, blk_put (blk_put hb 0 _ rfl) 1 _ rfl⟩, (h.2.2.setCell (by simp) _).setCell (by simp) _⟩
  have hS0d := hSb _ w4.drew hS0 (Below.refl _ _).drew
  simp only at hS0d hSb hSs
  have hSb9 := Aside0.mk hSb
  have hSs9 := Aside0.mk hSs
  clear hSb hSs hS0
  go_region_held3 (fun w' => (w'.cell? ⟨w2.heap.size, 0, none⟩ = some (.int .i64 x.kd) ∧ w'.cell? ⟨w2.heap.size, 1, none⟩ = some (.int .i64 x.ph) ∧ w'.cell? ⟨w2.heap.size, 2, none⟩ = some (.int .i64 x.rt) ∧ w'.cell? ⟨w2.heap.size, 3, none⟩ = some (.int .i64 x.dr) ∧ w'.cell? ⟨w2.heap.size, 4, none⟩ = some (.int .i64 x.wh) ∧ w'.cell? ⟨w2.heap.size, 5, none⟩ = some (.int .i64 x.wk) ∧ w'.cell? ⟨w2.heap.size, 6, none⟩ = some (.int .i64 x.ht) ∧ w'.cell? ⟨w2.heap.size, 7, none⟩ = some (.int .i64 x.ch) ∧ w'.cell? ⟨w2.heap.size, 8, none⟩ = some (.slice Ae x.es.length ce) ∧ w'.cell? ⟨w2.heap.size, 9, none⟩ = some (.int .u64 seed) ∧ w'.cell? ⟨w2.heap.size, 10, none⟩ = some (.slice Ah chs.length chc) ∧ w'.cell? ⟨w2.heap.size, 11, none⟩ = some (.slice Ak cks.length ckc) ∧ w'.cell? ⟨w2.heap.size, 12, none⟩ = some (.int .i64 (i : Int))) ∧ (∃ u0 u1 : Value, w'.heap[w.heap.size + 1]? = some (.cells #[u0, u1] 65 (0, 0))) ∧ Below w.heap.size w w') (first | with_reducible exact hS0d | (have hh := ‹(_ ∧ _ ∧ _ ∧ _ ∧ _ ∧ _ ∧ _ ∧ _ ∧ _ ∧ _ ∧ _ ∧ _ ∧ _) ∧ (∃ u0 u1 : Value, _ = some (Obj.cells #[u0, u1] 65 (0, 0))) ∧ Below w.heap.size w _›; with_reducible exact hSb9.out _ _ hh hB) | (have hh := ‹(_ ∧ _ ∧ _ ∧ _ ∧ _ ∧ _ ∧ _ ∧ _ ∧ _ ∧ _ ∧ _ ∧ _ ∧ _) ∧ (∃ u0 u1 : Value, _ = some (Obj.cells #[u0, u1] 65 (0, 0))) ∧ Below w.heap.size w _›; with_reducible exact hSs9.out _ _ _ hh))
    (first | (go_at_call 51; (first | (have hh := ‹(_ ∧ _ ∧ _ ∧ _ ∧ _ ∧ _ ∧ _ ∧ _ ∧ _ ∧ _ ∧ _ ∧ _ ∧ _) ∧ (∃ u0 u1 : Value, _ = some (Obj.cells #[u0, u1] 65 (0, 0))) ∧ Below w.heap.size w _›; with_reducible refine (b51A _ hh.2.2).mono ?_) | with_reducible refine (b51A _ hv.drew).mono ?_ | with_reducible refine (b51A _ hv).mono ?_); rintro e w' ⟨rfl, hB⟩) | (go_at_call 51; (first | (have hh := ‹(_ ∧ _ ∧ _ ∧ _ ∧ _ ∧ _ ∧ _ ∧ _ ∧ _ ∧ _ ∧ _ ∧ _ ∧ _) ∧ (∃ u0 u1 : Value, _ = some (Obj.cells #[u0, u1] 65 (0, 0))) ∧ Below w.heap.size w _›; with_reducible refine (b51B _ hh.2.2).mono ?_) | with_reducible refine (b51B _ hv.drew).mono ?_ | with_reducible refine (b51B _ hv).mono ?_); rintro e w' ⟨rfl, hB⟩) | (go_at_call 71; with_reducible refine (b71 _).mono ?_; rintro e w' ⟨rfl, hB⟩; have hh := ‹(_ ∧ _ ∧ _ ∧ _ ∧ _ ∧ _ ∧ _ ∧ _ ∧ _ ∧ _ ∧ _ ∧ _ ∧ _) ∧ (∃ u0 u1 : Value, _ = some (Obj.cells #[u0, u1] 65 (0, 0))) ∧ Below w.heap.size w _›; obtain ⟨u0, u1, hb0⟩ := hh.2.1; have hb := blk_on hB hb0; have hr0 := blk_cell hb 0; have hr1 := blk_cell hb 1; have hf0 := blk_frozen hb 0; have hf1 := blk_frozen hb 1; have hv9 := hh.2.2.trans (hB.mono hh.2.2.size); clear hb0 hh))
  clear hSb9 hSs9 hS0d hr0 hr1 hf0 hf1 y0 y1 y2 y3 y4 y5 y6 y7 y8 y9 y10 y11 y12 b51A b51B b71
  go_wp2
  exact bodyPost_ret (results_row_tmp rfl _ _ (w.heap.size + 1) 65 _ (0, 0) _ rfl (blk_put (blk_put hb 0 _ rfl) 1 _ rfl) Tryd.underlying65 rfl info65) rfl ⟨rfl, (hv9.setCell (by simp) _).setCell (by simp) _⟩
end Go.Proofs.YtlfnnalepdjagaaDoor.C
