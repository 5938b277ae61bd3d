/- The contract of the reference's Resolve, by hand. -/
import Derived.OwnWalk
import Derived.Deep.CutRange
import Derived.Deep.RegionHeld3
import Derived.Test.YtjgnadighdbjlaaCm
namespace Go.Proofs.Ytjgnadighdbjlaa.C
open Go.RowKit Go.Shelf Go.Maps Go.Proofs.YtjgnadighdbjlaaW.PrintWords Go.Proofs.YtjgnadighdbjlaaW.PrintLast Go.Proofs.YtjgnadighdbjlaaW.PrintMore
set_option linter.unusedVariables false
set_option linter.unusedSimpArgs false
theorem up_calls (a b : Int) (w : World) (hb : 1 ≤ b ∧ b ≤ 1000000000000000) (ha : -8000000000000000000 ≤ a ∧ a ≤ 8000000000000000000) :
    Calls Try.prog 55 #[.int .i64 a, .int .i64 b] w fun e w' => e = .returned (.int .i64 (-((-a) / b))) ∧ Below w.heap.size w w' := by
  obtain ⟨x, hx⟩ : ∃ x, -a = x := ⟨_, rfl⟩
  have hw : IntKind.i64.wrap (-a) = x := by rw [hx]; exact wrp x (by omega) (by omega)
  have h1 := Int.mul_ediv_add_emod x b
  have h2 := Int.emod_nonneg x (b := b) (by omega)
  have h3 := Int.emod_lt_of_pos x (b := b) (by omega)
  have h4 := div_small (a := x) (b := b) (by omega)
  have h5 : (a + x % b).tdiv b = -(x / b) := by rw [show a + x % b = b * (-(x / b)) by rw [Int.mul_neg]; omega]; exact Int.mul_tdiv_cancel_left _ (by omega)
  rw [hx]
  have c1 := fun w => modulo_calls x b w (by omega) (by omega)
  generalize x % b = r at *
  generalize x / b = q at *
  have hw2 := wrp (a + r) (by omega) (by omega)
  have hw3 := wrp (-q) (by omega) (by omega)
  clear hx h1
  have hv := Below.refl w.heap.size w
  go_enter Try.func55, Try.ntmps55
  go_wp2_with fail
  refine (c1 _).mono ?_
  rintro en w1 ⟨rfl, hB⟩
  replace hv := hv.trans (hB.mono hv.size)
  clear hB c1
  go_wp2_with fail
  go_ret
  exact ⟨rfl, hv⟩
theorem down_calls (a b : Int) (w : World) (hb : 1 ≤ b ∧ b ≤ 1000000000000000) (ha : -8000000000000000000 ≤ a ∧ a ≤ 8000000000000000000) :
    Calls Try.prog 56 #[.int .i64 a, .int .i64 b] w fun e w' => e = .returned (.int .i64 (a / b)) ∧ Below w.heap.size w w' := by
  have h1 := Int.mul_ediv_add_emod a b
  have h2 := Int.emod_nonneg a (b := b) (by omega)
  have h3 := Int.emod_lt_of_pos a (b := b) (by omega)
  have h4 := div_small (a := a) (b := b) (by omega)
  have h5 : (a - a % b).tdiv b = a / b := by rw [show a - a % b = b * (a / b) by omega]; exact Int.mul_tdiv_cancel_left _ (by omega)
  have c1 := fun w => modulo_calls a b w (by omega) (by omega)
  generalize a % b = r at *
  generalize a / b = q at *
  have hw2 := wrp (a - r) (by omega) (by omega)
  have hw3 := wrp q (by omega) (by omega)
  clear h1
  have hv := Below.refl w.heap.size w
  go_enter Try.func56, Try.ntmps56
  go_wp2_with fail
  refine (c1 _).mono ?_
  rintro en w1 ⟨rfl, hB⟩
  replace hv := hv.trans (hB.mono hv.size)
  clear hB c1
  go_wp2_with fail
  go_ret
  exact ⟨rfl, hv⟩
/-- What the reference finds. -/
def refL (F O R e m lo hi last : Int) : Int → Nat → List (Int × Int)
  | _, 0 => []
  | k, n + 1 => if last < k then [] else
      if max lo (tLo F O R e m k) ≤ min hi (tHi F O R e m k) then (max lo (tLo F O R e m k), min hi (tHi F O R e m k)) :: refL F O R e m lo hi last (k + 1) n else refL F O R e m lo hi last (k + 1) n
def leastF (F O R e m lo : Int) : Int := -((-(F * lo + O - e - m)) / R)
def lastF (F O R e m hi : Int) : Int := (F * hi + O + e - m) / R
/-- What the reference's Resolve answers. -/
def rResolveR (F O J G R D I m lo hi : Int) : Value :=
  if okC F O J G R D I then if shownF R m && inB lo 1000000000000000 && inB hi 1000000000000000 then if lo ≤ hi then resV (refL F O R (J + G / 2) m lo hi (lastF F O R (J + G / 2) m hi) (leastF F O R (J + G / 2) m lo) 2500) else (.tuple #[.agg #[.int .i64 0, .int .i64 0], .int .i64 1]) else (.tuple #[.agg #[.int .i64 0, .int .i64 0], .int .i64 6]) else (.tuple #[.agg #[.int .i64 0, .int .i64 0], .int .i64 30])
def lastP (l : List (Int × Int)) : Int × Int := l.getLast?.getD (0, 0)
theorem lastP_snoc (l : List (Int × Int)) (x : Int × Int) : lastP (l ++ [x]) = x := by simp [lastP]
/-- What the loop keeps. -/
structure RRI (F O J G R D I lo hi : Int) (w : World) (g : Nat) (W : World) (pre : List (Int × Int)) : Prop where
  bel : Below w.heap.size w W
  kx : W.heap[w.heap.size]? = some (.cells #[.int .i64 F, .int .i64 O, .int .i64 J, .int .i64 G, .int .i64 R, .int .i64 D, .int .i64 I] 49 (0, 0))
  kp : W.heap[w.heap.size + 1]? = some (.cells #[.int .i64 lo, .int .i64 hi] 43 (0, 0))
  kr : W.heap[w.heap.size + 1 + 1]? = some (.cells #[.int .i64 0, .int .i64 0] 43 (0, 0))
  kg : W.heap[g]? = some (.cells #[.int .i64 (lastP pre).1, .int .i64 (lastP pre).2] 43 (0, 0))
  hg : w.heap.size + 1 + 1 < g
theorem RRI.below {F O J G R D I lo hi : Int} {w : World} {g : Nat} {W X : World} {pre : List (Int × Int)} (h : RRI F O J G R D I lo hi w g W pre) (hB : Below W.heap.size W X) : RRI F O J G R D I lo hi w g X pre :=
  ⟨h.bel.trans (hB.mono h.bel.size), blk_on hB h.kx, blk_on hB h.kp, blk_on hB h.kr, blk_on hB h.kg, h.hg⟩
theorem RRI.put {F O J G R D I lo hi : Int} {w : World} {g : Nat} {W : World} {pre : List (Int × Int)} (h : RRI F O J G R D I lo hi w g W pre) (a b : Int) : RRI F O J G R D I lo hi w g ((W.setCell ⟨g, 0, none⟩ (.int .i64 a)).setCell ⟨g, 1, none⟩ (.int .i64 b)) (pre ++ [(a, b)]) :=
  have hg := h.hg
  ⟨(h.bel.setCell (by simp; omega) _).setCell (by simp; omega) _, blk_far (blk_far h.kx (by simp; omega) _) (by simp; omega) _, blk_far (blk_far h.kp (by simp; omega) _) (by simp; omega) _, blk_far (blk_far h.kr (by simp; omega) _) (by simp; omega) _, by rw [lastP_snoc]; exact blk_put (blk_put h.kg 0 _ rfl) 1 _ rfl, hg⟩
set_option maxRecDepth 100000 in
set_option maxHeartbeats 2000000 in
theorem rresolve_main (F O J G R D I m lo hi : Int) (w : World) (HK : CtrOk F O J G R D I) (hk : okC F O J G R D I = true) (hm1 : -(R / 2) ≤ m) (hm2 : m < R / 2) (hl : -1000000000000000 ≤ lo ∧ lo ≤ 1000000000000000) (hh : -1000000000000000 ≤ hi ∧ hi ≤ 1000000000000000) (hle : lo ≤ hi) :
    Calls Try.prog 27 #[.agg #[.int .i64 F, .int .i64 O, .int .i64 J, .int .i64 G, .int .i64 R, .int .i64 D, .int .i64 I], .int .i64 m, .agg #[.int .i64 lo, .int .i64 hi]] w fun e w' => e = .returned (resV (refL F O R (J + G / 2) m lo hi (lastF F O R (J + G / 2) m hi) (leastF F O R (J + G / 2) m lo) 2500)) ∧ Below w.heap.size w w' := by
  have hv := Below.refl w.heap.size w
  have c1 := fun w => rCheck_calls F O J G R D I w
  rw [hk, if_pos rfl] at c1
  have hf := HK.f; have ho := HK.o; have hj := HK.j; have hg := HK.g; have hr := HK.r
  have t0 := Int.tdiv_eq_ediv_of_nonneg (a := R) (by omega) (b := 2)
  have hw0 := wrp (-(R / 2)) (by omega) (by omega)
  have hm3 : -1000000000000000 ≤ m ∧ m ≤ 1000000000000000 := by omega
  have c2 := fun w => rfault_calls F O J G R D I w (by omega) (by omega)
  have he1 : 0 ≤ J + G / 2 ∧ J + G / 2 ≤ 1500000000 := by omega
  generalize J + G / 2 = e at *
  have hb1 := mul_bound (F := F) (d := lo) (M := 1000000000000000) (by omega) hl.1 hl.2
  have hb2 := mul_bound (F := F) (d := hi) (M := 1000000000000000) (by omega) hh.1 hh.2
  unfold lastF leastF
  obtain ⟨X, hX⟩ : ∃ X, F * lo + O - e - m = X := ⟨_, rfl⟩
  obtain ⟨Y, hY⟩ : ∃ Y, F * hi + O + e - m = Y := ⟨_, rfl⟩
  have hw1 := wrp (F * lo) (by omega) (by omega)
  have hw2 := wrp (F * lo + O) (by omega) (by omega)
  have hw3 := wrp (F * lo + O - e) (by omega) (by omega)
  have hw4 : IntKind.i64.wrap (F * lo + O - e - m) = X := by rw [hX]; exact wrp X (by omega) (by omega)
  have hw5 := wrp (F * hi) (by omega) (by omega)
  have hw6 := wrp (F * hi + O) (by omega) (by omega)
  have hw7 := wrp (F * hi + O + e) (by omega) (by omega)
  have hw8 : IntKind.i64.wrap (F * hi + O + e - m) = Y := by rw [hY]; exact wrp Y (by omega) (by omega)
  have hXb : -1003000000000000000 ≤ X ∧ X ≤ 1003000000000000000 := by omega
  have hYb : -1003000000000000000 ≤ Y ∧ Y ≤ 1003000000000000000 := by omega
  rw [hX, hY]
  clear hX hY hb1 hb2
  have c3 := fun w => up_calls X R w hr (by omega)
  have c4 := fun w => down_calls Y R w hr (by omega)
  obtain ⟨k0, hk0⟩ : ∃ k0, -((-X) / R) = k0 := ⟨_, rfl⟩
  obtain ⟨k1, hk1⟩ : ∃ k1, Y / R = k1 := ⟨_, rfl⟩
  have HLE : Aside0 (X ≤ k0 * R ∧ k1 * R ≤ Y) := ⟨by
    have d1 := Int.mul_ediv_add_emod (-X) R
    have d2 := Int.emod_nonneg (-X) (b := R) (by omega)
    have d4 := Int.mul_ediv_add_emod Y R
    have d5 := Int.emod_nonneg Y (b := R) (by omega)
    rw [← hk0, ← hk1, Int.neg_mul, Int.mul_comm, Int.mul_comm (Y / R)]
    omega⟩
  have hk0b := div_small (a := -X) (b := R) (by omega)
  have hk1b := div_small (a := Y) (b := R) (by omega)
  have hkb : -1003000000000000010 ≤ k0 ∧ k0 ≤ 1003000000000000010 ∧ -1003000000000000010 ≤ k1 ∧ k1 ≤ 1003000000000000010 := by omega
  rw [hk0] at c3 ⊢
  rw [hk1] at c4 ⊢
  clear hk0 hk1 hk0b hk1b hk
  have hw9 := wrp (k0 + 2500) (by omega) (by omega)
  obtain ⟨RL, hRL⟩ : ∃ RL, refL F O R e m lo hi k1 k0 2500 = RL := ⟨_, rfl⟩
  rw [hRL]
  have HRL := Aside0.mk hRL
  clear hRL HK
  go_enter Try.func27, Try.ntmps27
  go_wp2_with fail
  obtain ⟨w1, hw1⟩ : ∃ w1, ((w.alloc (.cells #[.int .i64 F, .int .i64 O, .int .i64 J, .int .i64 G, .int .i64 R, .int .i64 D, .int .i64 I] 49)).alloc (.cells #[.int .i64 lo, .int .i64 hi] 43)).alloc (.cells #[.int .i64 0, .int .i64 0] 43) = w1 := ⟨_, rfl⟩
  try rw [hw1]
  have hB : Below w.heap.size w w1 := by rw [← hw1]; exact (((Below.refl _ w).alloc (by first | exact Nat.le_refl _ | (simp; done) | (simp; omega)) _).alloc (by first | exact Nat.le_refl _ | (simp; done) | (simp; omega)) _).alloc (by first | exact Nat.le_refl _ | (simp; done) | (simp; omega)) _
  have kx : w1.heap[w.heap.size]? = some (.cells #[.int .i64 F, .int .i64 O, .int .i64 J, .int .i64 G, .int .i64 R, .int .i64 D, .int .i64 I] 49 (0, 0)) := by rw [← hw1]; exact al_old (al_old (al_new _ _ _ (by first | rfl | (simp; done) | (simp; omega))))
  have x0 : w1.cell? ⟨w.heap.size, 0, none⟩ = some (.int .i64 F) := blk_cell kx 0
  have x1 : w1.cell? ⟨w.heap.size, 1, none⟩ = some (.int .i64 O) := blk_cell kx 1
  have x2 : w1.cell? ⟨w.heap.size, 2, none⟩ = some (.int .i64 J) := blk_cell kx 2
  have x3 : w1.cell? ⟨w.heap.size, 3, none⟩ = some (.int .i64 G) := blk_cell kx 3
  have x4 : w1.cell? ⟨w.heap.size, 4, none⟩ = some (.int .i64 R) := blk_cell kx 4
  have x5 : w1.cell? ⟨w.heap.size, 5, none⟩ = some (.int .i64 D) := blk_cell kx 5
  have x6 : w1.cell? ⟨w.heap.size, 6, none⟩ = some (.int .i64 I) := blk_cell kx 6
  have kp : w1.heap[w.heap.size + 1]? = some (.cells #[.int .i64 lo, .int .i64 hi] 43 (0, 0)) := by rw [← hw1]; exact al_old (al_new _ _ _ (by first | rfl | (simp; done) | (simp; omega)))
  have p0 : w1.cell? ⟨w.heap.size + 1, 0, none⟩ = some (.int .i64 lo) := blk_cell kp 0
  have p1 : w1.cell? ⟨w.heap.size + 1, 1, none⟩ = some (.int .i64 hi) := blk_cell kp 1
  have kr : w1.heap[w.heap.size + 1 + 1]? = some (.cells #[.int .i64 0, .int .i64 0] 43 (0, 0)) := by rw [← hw1]; exact al_new _ _ _ (by first | rfl | (simp; done) | (simp; omega))
  have r0 : w1.cell? ⟨w.heap.size + 1 + 1, 0, none⟩ = some (.int .i64 0) := blk_cell kr 0
  have r1 : w1.cell? ⟨w.heap.size + 1 + 1, 1, none⟩ = some (.int .i64 0) := blk_cell kr 1
  clear r0 r1
  replace hv := hv.trans (hB.mono hv.size)
  clear hB hw1
  have hs1 := World.block_lt_of_cell? _ _ x0
  have hs2 := World.block_lt_of_cell? _ _ p0
  have hs3 := blk_lt kr
  refine (c1 _).mono ?_
  rintro en w2 ⟨rfl, hB⟩
  replace kx := blk_on hB kx
  replace kp := blk_on hB kp
  replace kr := blk_on hB kr
  replace x0 := cell_on hB x0
  replace x1 := cell_on hB x1
  replace x2 := cell_on hB x2
  replace x3 := cell_on hB x3
  replace x4 := cell_on hB x4
  replace x5 := cell_on hB x5
  replace x6 := cell_on hB x6
  replace p0 := cell_on hB p0
  replace p1 := cell_on hB p1
  replace hv := hv.trans (hB.mono hv.size)
  clear hB c1
  go_wp2_with fail
  refine (c2 _).mono ?_
  rintro en w3 ⟨rfl, hB⟩
  replace kx := blk_on hB kx
  replace kp := blk_on hB kp
  replace kr := blk_on hB kr
  replace x0 := cell_on hB x0
  replace x1 := cell_on hB x1
  replace x2 := cell_on hB x2
  replace x3 := cell_on hB x3
  replace x4 := cell_on hB x4
  replace x5 := cell_on hB x5
  replace x6 := cell_on hB x6
  replace p0 := cell_on hB p0
  replace p1 := cell_on hB p1
  replace hv := hv.trans (hB.mono hv.size)
  clear hB c2
  have hs1 := World.block_lt_of_cell? _ _ x0
  have hs2 := World.block_lt_of_cell? _ _ p0
  have hs3 := blk_lt kr
  go_wp2_with fail
  obtain ⟨w4, hw4⟩ : ∃ w4, w3.alloc (.cells #[.int .i64 0, .int .i64 0] 43) = w4 := ⟨_, rfl⟩
  try rw [hw4]
  have hB : Below w3.heap.size w3 w4 := by rw [← hw4]; exact (Below.refl _ w3).alloc (by first | exact Nat.le_refl _ | (simp; done) | (simp; omega)) _
  have kg : w4.heap[w3.heap.size]? = some (.cells #[.int .i64 0, .int .i64 0] 43 (0, 0)) := by rw [← hw4]; exact al_new _ _ _ (by first | rfl | (simp; done) | (simp; omega))
  have g0 : w4.cell? ⟨w3.heap.size, 0, none⟩ = some (.int .i64 0) := blk_cell kg 0
  have g1 : w4.cell? ⟨w3.heap.size, 1, none⟩ = some (.int .i64 0) := blk_cell kg 1
  clear g0 g1
  replace kx := blk_on hB kx
  replace kp := blk_on hB kp
  replace kr := blk_on hB kr
  replace x0 := cell_on hB x0
  replace x1 := cell_on hB x1
  replace x2 := cell_on hB x2
  replace x3 := cell_on hB x3
  replace x4 := cell_on hB x4
  replace x5 := cell_on hB x5
  replace x6 := cell_on hB x6
  replace p0 := cell_on hB p0
  replace p1 := cell_on hB p1
  replace hv := hv.trans (hB.mono hv.size)
  clear hB hw4
  have hgs : w.heap.size + 1 + 1 < w3.heap.size := hs3
  refine (c3 _).mono ?_
  rintro en w5 ⟨rfl, hB⟩
  replace kx := blk_on hB kx
  replace kp := blk_on hB kp
  replace kr := blk_on hB kr
  replace kg := blk_on hB kg
  replace x0 := cell_on hB x0
  replace x1 := cell_on hB x1
  replace x2 := cell_on hB x2
  replace x3 := cell_on hB x3
  replace x4 := cell_on hB x4
  replace x5 := cell_on hB x5
  replace x6 := cell_on hB x6
  replace p0 := cell_on hB p0
  replace p1 := cell_on hB p1
  replace hv := hv.trans (hB.mono hv.size)
  clear hB c3
  go_wp2_with fail
  refine (c4 _).mono ?_
  rintro en w6 ⟨rfl, hB⟩
  replace kx := blk_on hB kx
  replace kp := blk_on hB kp
  replace kr := blk_on hB kr
  replace kg := blk_on hB kg
  replace x0 := cell_on hB x0
  replace x1 := cell_on hB x1
  replace x2 := cell_on hB x2
  replace x3 := cell_on hB x3
  replace x4 := cell_on hB x4
  replace x5 := cell_on hB x5
  replace x6 := cell_on hB x6
  replace p0 := cell_on hB p0
  replace p1 := cell_on hB p1
  replace hv := hv.trans (hB.mono hv.size)
  clear hB c4
  have HI0 : Aside0 (RRI F O J G R D I lo hi w w3.heap.size w6 []) := ⟨⟨hv, kx, kp, kr, kg, hgs⟩⟩
  clear hv kx kp kr kg x0 x1 x2 x3 x4 x5 x6 p0 p1 hw1 hw2 hw3 hw4 hw5 hw6 hw7 hw8 t0 hw0
  have HGS := Aside0.mk hgs
  clear hgs hs1 hs2 hs3
  go_wp2_with fail
  go_loopw [10, 13] (fun v10 v13 wr => ∃ (i : Nat) (pre : List (Int × Int)), i ≤ 2500 ∧ v13 = .int .i64 (k0 + i) ∧ v10 = .int .i64 pre.length ∧ pre.length ≤ i ∧ Aside0 (RL = pre ++ refL F O R e m lo hi k1 (k0 + i) (2500 - i)) ∧ Aside0 (RRI F O J G R D I lo hi w w3.heap.size wr pre)) (fun _ v13 _ => (k0 + 2500 - intOf v13).toNat)
  case atStart => exact ⟨0, [], by omega, by simp, by simp, by simp, ⟨by rw [← HRL.out]; simp⟩, HI0⟩
  case round =>
    clear HI0
    obtain ⟨i, pre, hi', rfl, rfl, hpl, HT, HI⟩ := hrel
    by_cases hin : k0 + (i : Int) ≤ k1 ∧ i < 2500
    · obtain ⟨hin1, hin2⟩ := hin
      have hlt2 : k0 + (i : Int) < k0 + 2500 := by omega
      have hkR : -1003000000000000000 ≤ (k0 + (i : Int)) * R ∧ (k0 + (i : Int)) * R ≤ 1003000000000000000 := by
        have h1 := Int.mul_le_mul_of_nonneg_right (show k0 ≤ k0 + (i : Int) by omega) (show 0 ≤ R by omega)
        have h2 := Int.mul_le_mul_of_nonneg_right hin1 (show 0 ≤ R by omega)
        have := HLE.out; omega
      obtain ⟨q, hq⟩ : ∃ q, (k0 + (i : Int)) * R = q := ⟨_, rfl⟩
      rw [hq] at hkR
      have hb1 : IntKind.i64.wrap ((k0 + (i : Int)) * R) = q := by rw [hq]; exact wrp q (by omega) (by omega)
      have hb2 := wrp (m + q) (by omega) (by omega)
      obtain ⟨t, ht⟩ : ∃ t, m + q - O = t := ⟨_, rfl⟩
      have hb3 : IntKind.i64.wrap (m + q - O) = t := by rw [ht]; exact wrp t (by omega) (by omega)
      have HAT : Aside0 (t = tAt O R m (k0 + i)) := ⟨by unfold tAt; rw [hq, ht]⟩
      have ht1 : -1006000000000000000 ≤ t ∧ t ≤ 1006000000000000000 := by omega
      clear hq ht hkR
      obtain ⟨r, hr1⟩ : ∃ r, t - e = r := ⟨_, rfl⟩
      obtain ⟨s, hs0⟩ : ∃ s, t + e = s := ⟨_, rfl⟩
      have hb4 : IntKind.i64.wrap (t - e) = r := by rw [hr1]; exact wrp r (by omega) (by omega)
      have hb5 : IntKind.i64.wrap (t + e) = s := by rw [hs0]; exact wrp s (by omega) (by omega)
      have c3 := fun w => up_calls r F w (by omega) (by omega)
      have c4 := fun w => down_calls s F w (by omega) (by omega)
      obtain ⟨a, ha⟩ : ∃ a, -((-r) / F) = a := ⟨_, rfl⟩
      obtain ⟨b, hb⟩ : ∃ b, s / F = b := ⟨_, rfl⟩
      rw [ha] at c3
      rw [hb] at c4
      have HLO : Aside0 (tLo F O R e m (k0 + i) = a) := ⟨by unfold tLo; rw [← HAT.out, ← ha, ← hr1, Int.neg_sub]⟩
      have HHI : Aside0 (tHi F O R e m (k0 + i) = b) := ⟨by unfold tHi; rw [← HAT.out, hs0, hb]⟩
      clear ha hb HAT hr1 hs0
      obtain ⟨nn, hnn⟩ : ∃ nn, 2500 - i = nn + 1 := ⟨2500 - i - 1, by omega⟩
      have hTU : refL F O R e m lo hi k1 (k0 + i) (nn + 1) = if max lo a ≤ min hi b then (max lo a, min hi b) :: refL F O R e m lo hi k1 (k0 + i + 1) nn else refL F O R e m lo hi k1 (k0 + i + 1) nn := by rw [refL, HLO.out, HHI.out, if_neg (by omega)]
      rw [hnn, hTU] at HT
      clear hTU HLO HHI
      obtain ⟨u, hu⟩ : ∃ u, max lo a = u := ⟨_, rfl⟩
      obtain ⟨v, hv'⟩ : ∃ v, min hi b = v := ⟨_, rfl⟩
      rw [hu, hv'] at HT
      have hmx : (if lo < a then a else lo) = u := by rw [← hu]; split <;> omega
      have hmn : (if b < hi then b else hi) = v := by rw [← hv']; split <;> omega
      clear hu hv'
      have hv := Below.refl wr.heap.size wr
      have x0 : wr.cell? ⟨w.heap.size, 0, none⟩ = some (.int .i64 F) := blk_cell HI.out.kx 0
      have x1 : wr.cell? ⟨w.heap.size, 1, none⟩ = some (.int .i64 O) := blk_cell HI.out.kx 1
      have x2 : wr.cell? ⟨w.heap.size, 2, none⟩ = some (.int .i64 J) := blk_cell HI.out.kx 2
      have x3 : wr.cell? ⟨w.heap.size, 3, none⟩ = some (.int .i64 G) := blk_cell HI.out.kx 3
      have x4 : wr.cell? ⟨w.heap.size, 4, none⟩ = some (.int .i64 R) := blk_cell HI.out.kx 4
      have x5 : wr.cell? ⟨w.heap.size, 5, none⟩ = some (.int .i64 D) := blk_cell HI.out.kx 5
      have x6 : wr.cell? ⟨w.heap.size, 6, none⟩ = some (.int .i64 I) := blk_cell HI.out.kx 6
      have p0 : wr.cell? ⟨w.heap.size + 1, 0, none⟩ = some (.int .i64 lo) := blk_cell HI.out.kp 0
      have p1 : wr.cell? ⟨w.heap.size + 1, 1, none⟩ = some (.int .i64 hi) := blk_cell HI.out.kp 1
      have hs1 := World.block_lt_of_cell? _ _ x0
      have hs2 := World.block_lt_of_cell? _ _ p0
      go_wp2_with fail
      go_cut [15, 16] from 95 to 140 (fun s15 s16 wx => s15 = .int .i64 u ∧ s16 = .int .i64 v ∧ Below wr.heap.size wr wx)
      case first =>
        have hS : ∀ w', Below wr.heap.size wr w' → ((w'.cell? ⟨w.heap.size, 0, none⟩ = some (.int .i64 F) ∧ w'.cell? ⟨w.heap.size, 1, none⟩ = some (.int .i64 O) ∧ w'.cell? ⟨w.heap.size, 2, none⟩ = some (.int .i64 J) ∧ w'.cell? ⟨w.heap.size, 3, none⟩ = some (.int .i64 G) ∧ w'.cell? ⟨w.heap.size, 4, none⟩ = some (.int .i64 R) ∧ w'.cell? ⟨w.heap.size, 5, none⟩ = some (.int .i64 D) ∧ w'.cell? ⟨w.heap.size, 6, none⟩ = some (.int .i64 I) ∧ w'.cell? ⟨w.heap.size + 1, 0, none⟩ = some (.int .i64 lo) ∧ w'.cell? ⟨w.heap.size + 1, 1, none⟩ = some (.int .i64 hi)) ∧ Below wr.heap.size wr w') := fun w' hB => ⟨⟨cell_on hB x0, cell_on hB x1, cell_on hB x2, cell_on hB x3, cell_on hB x4, cell_on hB x5, cell_on hB x6, cell_on hB p0, cell_on hB p1⟩, hB⟩
        go_region_held3 (fun w' => (w'.cell? ⟨w.heap.size, 0, none⟩ = some (.int .i64 F) ∧ w'.cell? ⟨w.heap.size, 1, none⟩ = some (.int .i64 O) ∧ w'.cell? ⟨w.heap.size, 2, none⟩ = some (.int .i64 J) ∧ w'.cell? ⟨w.heap.size, 3, none⟩ = some (.int .i64 G) ∧ w'.cell? ⟨w.heap.size, 4, none⟩ = some (.int .i64 R) ∧ w'.cell? ⟨w.heap.size, 5, none⟩ = some (.int .i64 D) ∧ w'.cell? ⟨w.heap.size, 6, none⟩ = some (.int .i64 I) ∧ w'.cell? ⟨w.heap.size + 1, 0, none⟩ = some (.int .i64 lo) ∧ w'.cell? ⟨w.heap.size + 1, 1, none⟩ = some (.int .i64 hi)) ∧ Below wr.heap.size wr w') (first | exact hS _ (Below.refl _ _).drew | assumption | (have hh := ‹(_ ∧ _ ∧ _ ∧ _ ∧ _ ∧ _ ∧ _ ∧ _ ∧ _) ∧ Below wr.heap.size wr _›; exact hS _ (hh.2.trans (hB.mono hh.2.size))))
          (first | (go_at_call 55; with_reducible refine (c3 _).mono ?_; rintro e w' ⟨rfl, hB⟩) | (go_at_call 56; with_reducible refine (c4 _).mono ?_; rintro e w' ⟨rfl, hB⟩))
        all_goals
          rename_i hHeld
          go_wp2
          go_meet
          exact ⟨rfl, rfl, hHeld.2⟩
      case rest =>
      obtain ⟨rfl, rfl, hB⟩ := hcut
      clear c3 c4 hmx hmn x0 x1 x2 x3 x4 x5 x6 p0 p1 hs1 hs2 hv
      replace HI := Aside0.mk (HI.out.below hB)
      clear hB
      by_cases huv : u ≤ v
      · rw [if_pos huv] at HT
        have HN : Aside0 (RL = (pre ++ [(u, v)]) ++ refL F O R e m lo hi k1 (k0 + ((i + 1 : Nat) : Int)) (2500 - (i + 1))) := ⟨by rw [HT.out, show 2500 - (i + 1) = nn by omega]; simp [Int.add_assoc]⟩
        have HI2 := Aside0.mk (HI.out.put u v)
        have g0 : wc.cell? ⟨w3.heap.size, 0, none⟩ = some (.int .i64 (lastP pre).1) := blk_cell HI.out.kg 0
        have g1 : wc.cell? ⟨w3.heap.size, 1, none⟩ = some (.int .i64 (lastP pre).2) := blk_cell HI.out.kg 1
        have gf0 : wc.frozen? ⟨w3.heap.size, 0, none⟩ = false := blk_frozen HI.out.kg 0
        have gf1 : wc.frozen? ⟨w3.heap.size, 1, none⟩ = false := blk_frozen HI.out.kg 1
        have hwl := wrp ((pre.length : Int) + 1) (by omega) (by omega)
        have hwi := wrp (k0 + (i : Int) + 1) (by omega) (by omega)
        clear HT HI
        go_wp2
        go_roundw
        case rel => exact ⟨i + 1, pre ++ [(u, v)], by omega, by go_num, by simp, by simp; omega, HN, HI2⟩
        case measure => simp [intOf]; omega
      · rw [if_neg huv] at HT
        have HN : Aside0 (RL = pre ++ refL F O R e m lo hi k1 (k0 + ((i + 1 : Nat) : Int)) (2500 - (i + 1))) := ⟨by rw [HT.out, show 2500 - (i + 1) = nn by omega]; simp [Int.add_assoc]⟩
        have hwi := wrp (k0 + (i : Int) + 1) (by omega) (by omega)
        clear HT
        go_wp2
        go_roundw
        case rel => exact ⟨i + 1, pre, by omega, by go_num, rfl, by omega, HN, HI⟩
        case measure => simp [intOf]; omega
    · have hRL : RL = pre := by
        rw [HT.out]
        cases hn : 2500 - i with
        | zero => simp [refL]
        | succ nn => rw [refL, if_pos (by omega), List.append_nil]
      clear HT
      subst hRL
      have g0 : wr.cell? ⟨w3.heap.size, 0, none⟩ = some (.int .i64 (lastP RL).1) := blk_cell HI.out.kg 0
      have g1 : wr.cell? ⟨w3.heap.size, 1, none⟩ = some (.int .i64 (lastP RL).2) := blk_cell HI.out.kg 1
      have kr := HI.out.kr
      have hv := HI.out.bel
      have krc0 : wr.cell? ⟨w.heap.size + 1 + 1, 0, none⟩ = some (.int .i64 0) := blk_cell kr 0
      have krc1 : wr.cell? ⟨w.heap.size + 1 + 1, 1, none⟩ = some (.int .i64 0) := blk_cell kr 1
      have krf0 : wr.frozen? ⟨w.heap.size + 1 + 1, 0, none⟩ = false := blk_frozen kr 0
      have krf1 : wr.frozen? ⟨w.heap.size + 1 + 1, 1, none⟩ = false := blk_frozen kr 1
      have KR := Aside0.mk kr
      have HV := Aside0.mk hv
      clear kr hv HI hi' HRL
      have hcnd : ¬ (k0 + (i : Int) ≤ k1 ∧ (i : Int) < 2500) := fun h => hin ⟨h.1, by omega⟩
      clear hin
      by_cases hk1i : k0 + (i : Int) ≤ k1
      · have hi5 : ¬ (k0 + (i : Int) < k0 + 2500) := by omega
        clear hcnd
        rcases RL with _ | ⟨y, _ | ⟨y2, l⟩⟩
        · skip
          go_wp2
          have kr := KR.out
          have hv := HV.out
          refine bodyPost_ret (res_spant (p := 6) (q := 7) rfl _ _ (w.heap.size + 1 + 1) (0) (0) (.int .i64 12) (by simp) (by simp) (blk_cell (blk_put (blk_put kr 0 _ rfl) 1 _ rfl) 0) (blk_cell (blk_put (blk_put kr 0 _ rfl) 1 _ rfl) 1)) rfl ?_
          exact ⟨rfl, (hv.setCell (by simp; omega) _).setCell (by simp; omega) _⟩
        · skip
          have hly : lastP [y] = y := rfl
          rw [hly] at g0 g1
          go_wp2
          have kr := KR.out
          have hv := HV.out
          refine bodyPost_ret (res_spant (p := 6) (q := 7) rfl _ _ (w.heap.size + 1 + 1) (y.1) (y.2) (.int .i64 0) (by simp) (by simp) (blk_cell (blk_put (blk_put kr 0 _ rfl) 1 _ rfl) 0) (blk_cell (blk_put (blk_put kr 0 _ rfl) 1 _ rfl) 1)) rfl ?_
          exact ⟨rfl, (hv.setCell (by simp; omega) _).setCell (by simp; omega) _⟩
        · have hl0 : (((y :: y2 :: l).length : Int) == 0) = false := by simp; omega
          have hl1 : 1 < ((y :: y2 :: l).length : Int) := by simp; omega
          generalize ((y :: y2 :: l).length : Int) = nl at *
          go_wp2
          have kr := KR.out
          have hv := HV.out
          refine bodyPost_ret (res_spant (p := 6) (q := 7) rfl _ _ (w.heap.size + 1 + 1) (0) (0) (.int .i64 8) (by simp) (by simp) (blk_cell (blk_put (blk_put kr 0 _ rfl) 1 _ rfl) 0) (blk_cell (blk_put (blk_put kr 0 _ rfl) 1 _ rfl) 1)) rfl ?_
          exact ⟨rfl, (hv.setCell (by simp; omega) _).setCell (by simp; omega) _⟩
      · clear hcnd
        rcases RL with _ | ⟨y, _ | ⟨y2, l⟩⟩
        · skip
          go_wp2
          have kr := KR.out
          have hv := HV.out
          refine bodyPost_ret (res_spant (p := 6) (q := 7) rfl _ _ (w.heap.size + 1 + 1) (0) (0) (.int .i64 12) (by simp) (by simp) (blk_cell (blk_put (blk_put kr 0 _ rfl) 1 _ rfl) 0) (blk_cell (blk_put (blk_put kr 0 _ rfl) 1 _ rfl) 1)) rfl ?_
          exact ⟨rfl, (hv.setCell (by simp; omega) _).setCell (by simp; omega) _⟩
        · skip
          have hly : lastP [y] = y := rfl
          rw [hly] at g0 g1
          go_wp2
          have kr := KR.out
          have hv := HV.out
          refine bodyPost_ret (res_spant (p := 6) (q := 7) rfl _ _ (w.heap.size + 1 + 1) (y.1) (y.2) (.int .i64 0) (by simp) (by simp) (blk_cell (blk_put (blk_put kr 0 _ rfl) 1 _ rfl) 0) (blk_cell (blk_put (blk_put kr 0 _ rfl) 1 _ rfl) 1)) rfl ?_
          exact ⟨rfl, (hv.setCell (by simp; omega) _).setCell (by simp; omega) _⟩
        · have hl0 : (((y :: y2 :: l).length : Int) == 0) = false := by simp; omega
          have hl1 : 1 < ((y :: y2 :: l).length : Int) := by simp; omega
          generalize ((y :: y2 :: l).length : Int) = nl at *
          go_wp2
          have kr := KR.out
          have hv := HV.out
          refine bodyPost_ret (res_spant (p := 6) (q := 7) rfl _ _ (w.heap.size + 1 + 1) (0) (0) (.int .i64 8) (by simp) (by simp) (blk_cell (blk_put (blk_put kr 0 _ rfl) 1 _ rfl) 0) (blk_cell (blk_put (blk_put kr 0 _ rfl) 1 _ rfl) 1)) rfl ?_
          exact ⟨rfl, (hv.setCell (by simp; omega) _).setCell (by simp; omega) _⟩
end Go.Proofs.Ytjgnadighdbjlaa.C
