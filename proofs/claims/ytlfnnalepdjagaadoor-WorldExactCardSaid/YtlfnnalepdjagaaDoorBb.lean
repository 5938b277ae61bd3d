/- WorldExact: the law's walk. -/
import Derived.OwnWalk
import Derived.BigRegion
import Derived.Deep.Cut
import Derived.Deep.RegionHeld3
import Derived.Test.YtlfnnalepdjagaaDoorAy
import Derived.Test.YtlfnnalepdjagaaDoorAz
namespace Go.Proofs.YtlfnnalepdjagaaDoor.C
open Go.RowKit Go.Shelf Go.Maps Go.Proofs.YtlfnnalepdjagaaDoorW.PrintWords Go.Proofs.YtlfnnalepdjagaaDoorW.PrintLast Go.Proofs.YtlfnnalepdjagaaDoorW.PrintMore
set_option linter.unusedVariables false
set_option linter.unusedSimpArgs false
set_option maxHeartbeats 4000000 in
set_option maxRecDepth 100000 in
theorem worldExact_main (start rate s size at_ : Int) (w : World) (hL : Lim w) : Calls Tryd.prog 4 #[.int .i64 start, .int .i64 rate, .int .i64 s, .int .i64 size, .int .i64 at_] w fun e w' => e = .returned (.bool true) ∧ Below w.heap.size w w' := by
  have hv := Below.refl w.heap.size w
  have aw := fun W (hB : Below w.heap.size w W) => awake_calls W (hL.below hB)
  have b1 := tmod_b (n := start) (m := 100000000000000) (by omega)
  have c1 := fun W => bounded_calls start 100000000000000 W (by omega)
  generalize start.tmod (100000000000000 + 1) = ST at b1 c1
  have b2 := tmod_b (n := rate) (m := 10000000) (by omega)
  have c2 := fun W => bounded_calls rate 10000000 W (by omega)
  generalize rate.tmod (10000000 + 1) = RT at b2 c2
  have b3 := posF_b s
  have c3 := fun W => pos_calls s W
  generalize posF s = S at b3 c3
  have b4 := tmod_b (n := size) (m := 10000000000) (by omega)
  have c4 := fun W => bounded_calls size 10000000000 W (by omega)
  generalize size.tmod (10000000000 + 1) = SZ at b4 c4
  have b5 := posF_b at_
  have c5 := fun W => pos_calls at_ W
  generalize posF at_ = PA at b5 c5
  obtain ⟨PM, hPM⟩ : ∃ x, PA.tmod 1000000 = x := ⟨_, rfl⟩
  have bM : 0 ≤ PM ∧ PM < 1000000 := by rw [Int.tmod_eq_emod_of_nonneg b5.1] at hPM; omega
  obtain ⟨AT, hAT⟩ : ∃ x, 1 + PM = x := ⟨_, rfl⟩
  have bA : 1 ≤ AT ∧ AT ≤ 1000000 := by omega
  have hAT' : IntKind.i64.wrap (1 + PM) = AT := by rw [hAT]; exact wr _ (by omega) (by omega)
  clear hAT
  have ph := fun (sd : Int) (y : Ck) (hy : badCk 1 y = false) (hz : badEv y.es = false) => exact_phase (seed := sd) (ph := ST) (rt := RT) (at_ := AT) (sz := SZ) (s := S) (y := y) b1 b2 bA b4 hy hz b3
  have hwf : ∀ y : Ck, y.es = [] → WfK (ckX ST RT AT SZ y) := fun y hy z hz ev he => by
    simp at hz
    rcases hz with rfl | rfl | rfl | rfl
    · simp at he
    · simp at he; subst he; simp
    · simp at he; subst he; simp
    · rw [hy] at he; simp at he
  have pc : ∀ (sd : Int) (y : Ck) (hy : y.es = []) (k V : Int), phaseR sd CH0 (ckX ST RT AT SZ y) k S = (V, 0) → ∀ Ah Ak W, Below w.heap.size w W → WAt 51 W Ah Ak CH0 (ckX ST RT AT SZ y) → Calls Tryd.prog 18 #[woV sd Ah 1 1 Ak 4 4, .int .i64 k, .int .i64 S] W fun e w' => e = .returned (.tuple #[.int .i64 V, .int .i64 0]) ∧ Below W.heap.size W w' := fun sd y hy k V hV Ah Ak W hB hA => by
    have := Phase_calls sd Ah 1 Ak 4 CH0 (ckX ST RT AT SZ y) k S W (hL.below hB) hA (hwf y hy)
    rw [hV] at this
    exact this
  have rs : -10000000000000 ≤ RT * S ∧ RT * S ≤ 10000000000000 := by
    have h1 : RT * S ≤ 10000000 * S := Int.mul_le_mul_of_nonneg_right b2.2 b3.1
    have h2 : -10000000 * S ≤ RT * S := Int.mul_le_mul_of_nonneg_right b2.1 b3.1
    omega
  obtain ⟨RS, hRS⟩ : ∃ x, RT * S = x := ⟨_, rfl⟩
  rw [hRS] at ph rs
  have wS : IntKind.u64.wrap S = S := mixU S b3.1 (by omega)
  have f1 : IntKind.i64.wrap RS = RS := wr _ (by omega) (by omega)
  have l1 := fun W => lower_calls RS W (by omega)
  have q1 := (ph S ckN (by kernel_rfl) (by kernel_rfl)).1
  have q4 := (ph 1 ckI (by kernel_rfl) (by kernel_rfl)).1
  have q2 := (ph S ckN (by kernel_rfl) (by kernel_rfl)).2.1
  have q3 := (ph S ckN (by kernel_rfl) (by kernel_rfl)).2.2
  have bq : -10000000000 ≤ RS / 1000 ∧ RS / 1000 ≤ 10000000000 := by omega
  obtain ⟨Q1, hQ1⟩ : ∃ x, RS / 1000 = x := ⟨_, rfl⟩
  rw [hQ1] at q1 q3 q4 l1 bq
  obtain ⟨A, hA0⟩ : ∃ x, ST + Q1 = x := ⟨_, rfl⟩
  rw [hA0] at q1 q4
  have f2 : IntKind.i64.wrap (ST + Q1) = A := by rw [hA0]; exact wr _ (by omega) (by omega)
  have p1 := pc S ckN rfl 0 A q1
  have p4 := pc 1 ckI rfl 0 A q4
  by_cases hAt : AT ≤ S
  · rw [if_pos hAt] at q2 q3
    have dd : decide (AT ≤ S) = true := decide_eq_true hAt
    have bD : 0 ≤ S - AT ∧ S - AT ≤ 1000000 := by omega
    have f3 : IntKind.i64.wrap (S - AT) = S - AT := wr _ (by omega) (by omega)
    have bK : -10000000000000000 ≤ SZ * (S - AT) ∧ SZ * (S - AT) ≤ 10000000000000000 := by
      have h1 : SZ * (S - AT) ≤ 10000000000 * (S - AT) := Int.mul_le_mul_of_nonneg_right b4.2 bD.1
      have h2 : -10000000000 * (S - AT) ≤ SZ * (S - AT) := Int.mul_le_mul_of_nonneg_right b4.1 bD.1
      omega
    have f4 : IntKind.i64.wrap (SZ * (S - AT)) = SZ * (S - AT) := wr _ (by omega) (by omega)
    have f5 : IntKind.i64.wrap SZ = SZ := wr _ (by omega) (by omega)
    obtain ⟨KZ, hKZ⟩ : ∃ x, SZ * (S - AT) = x := ⟨_, rfl⟩
    rw [hKZ] at f4 bK q2
    obtain ⟨RZ, hRZ⟩ : ∃ x, RS + KZ = x := ⟨_, rfl⟩
    have f6 : IntKind.i64.wrap (RS + KZ) = RZ := by rw [hRZ]; exact wr _ (by omega) (by omega)
    rw [hRZ] at q2
    have l2 := fun W => lower_calls RZ W (by omega)
    obtain ⟨Q2, hQ2⟩ : ∃ x, RZ / 1000 = x := ⟨_, rfl⟩
    have bq2 : -100000000000000 ≤ Q2 ∧ Q2 ≤ 100000000000000 := by omega
    rw [hQ2] at q2 l2
    obtain ⟨B, hB0⟩ : ∃ x, ST + Q2 = x := ⟨_, rfl⟩
    rw [hB0] at q2
    have f7 : IntKind.i64.wrap (ST + Q2) = B := by rw [hB0]; exact wr _ (by omega) (by omega)
    rw [show ST + SZ + Q1 = A + SZ by omega] at q3
    have f8 : IntKind.i64.wrap (A + SZ) = A + SZ := wr _ (by omega) (by omega)
    have p2 := pc S ckN rfl 1 B q2
    have p3 := pc S ckN rfl 2 (A + SZ) q3
    have HS := Aside0.mk (show -10000000000 ≤ SZ ∧ SZ ≤ 10000000000 from b4)
    clear b1 b2 b3 b4 b5 bM bA ph hwf pc rs q1 q2 q3 q4 bq hQ1 hA0 hAt bD bK hRZ hQ2 bq2 hB0 hL
    go_enter Tryd.func4, Tryd.ntmps4
    go_wp2_with fail
    refine (c1 _).mono ?_
    rintro en w1 ⟨rfl, hB⟩
    replace hv := hv.trans (hB.mono hv.size)
    clear hB c1
    go_wp2_with fail
    refine (c2 _).mono ?_
    rintro en w2 ⟨rfl, hB⟩
    replace hv := hv.trans (hB.mono hv.size)
    clear hB c2
    go_wp2_with fail
    refine (c3 _).mono ?_
    rintro en w3 ⟨rfl, hB⟩
    replace hv := hv.trans (hB.mono hv.size)
    clear hB c3
    go_wp2_with fail
    refine (c4 _).mono ?_
    rintro en w4 ⟨rfl, hB⟩
    replace hv := hv.trans (hB.mono hv.size)
    clear hB c4
    go_wp2_with fail
    refine (c5 _).mono ?_
    rintro en w5 ⟨rfl, hB⟩
    replace hv := hv.trans (hB.mono hv.size)
    clear hB c5
    go_upto_region 3 with fail
    obtain ⟨w6, hw6⟩ : ∃ w6, w5.alloc (.cells #[.int .i64 1, .int .i64 ST, .int .i64 RT, .int .i64 0, .int .i64 0, .int .i64 0, .int .i64 0, .int .i64 0, .slice none 0 0] 48) = w6 := ⟨_, rfl⟩
    try rw [hw6]
    have hB : Below w5.heap.size w5 w6 := by rw [← hw6]; exact (Below.refl _ w5).alloc (by first | exact Nat.le_refl _ | (simp; done) | (simp; omega)) _
    have kc : w6.heap[w5.heap.size]? = some (.cells #[.int .i64 1, .int .i64 ST, .int .i64 RT, .int .i64 0, .int .i64 0, .int .i64 0, .int .i64 0, .int .i64 0, .slice none 0 0] 48 (0, 0)) := by rw [← hw6]; exact al_new _ _ _ (by first | rfl | (simp; done) | (simp; omega))
    have c0 : w6.cell? ⟨w5.heap.size, 0, none⟩ = some (.int .i64 1) := blk_cell kc 0
    have c1 : w6.cell? ⟨w5.heap.size, 1, none⟩ = some (.int .i64 ST) := blk_cell kc 1
    have c2 : w6.cell? ⟨w5.heap.size, 2, none⟩ = some (.int .i64 RT) := blk_cell kc 2
    have c3 : w6.cell? ⟨w5.heap.size, 3, none⟩ = some (.int .i64 0) := blk_cell kc 3
    have c4 : w6.cell? ⟨w5.heap.size, 4, none⟩ = some (.int .i64 0) := blk_cell kc 4
    have c5 : w6.cell? ⟨w5.heap.size, 5, none⟩ = some (.int .i64 0) := blk_cell kc 5
    have c6 : w6.cell? ⟨w5.heap.size, 6, none⟩ = some (.int .i64 0) := blk_cell kc 6
    have c7 : w6.cell? ⟨w5.heap.size, 7, none⟩ = some (.int .i64 0) := blk_cell kc 7
    have c8 : w6.cell? ⟨w5.heap.size, 8, none⟩ = some (.slice none 0 0) := blk_cell kc 8
    replace hv := hv.trans (hB.mono hv.size)
    clear hB hw6
    have z6 : w5.heap.size < w6.heap.size := (Array.getElem?_eq_some_iff.1 kc).1
    have z6n : ¬ w5.heap.size = w6.heap.size := by omega
    have z6m : ¬ w5.heap.size = w6.heap.size + 1 := by omega
    have hkc := Aside0.mk kc
    clear kc
    go_cut [12, 13] from 25 (fun s12 s13 wx => ∃ g1 g2 : Nat, s12 = .pointer (some ⟨g1, 0, none⟩) ∧ s13 = .pointer (some ⟨g2, 0, none⟩) ∧ wx.heap[g1]? = some (.cells #[.int .i64 1, .int .i64 ST, .int .i64 RT, .int .i64 0, .int .i64 0, .int .i64 0, .int .i64 0, .int .i64 0, .slice none 0 0] 48 (0, 0)) ∧ wx.heap[g2]? = some (.cells #[.int .i64 1, .int .i64 ST, .int .i64 RT, .int .i64 0, .int .i64 0, .int .i64 0, .int .i64 0, .int .i64 0, .slice none 0 0] 48 (0, 0)) ∧ g1 ≠ g2 ∧ w6.heap.size ≤ g1 ∧ w6.heap.size ≤ g2 ∧ Below w6.heap.size w6 wx)
    case first =>
      go_big_region
      all_goals
        apply_assumption
        go_meet
        exact ⟨_, _, rfl, rfl, by first | exact al_old (al_new _ _ _ rfl) | exact al_new _ _ _ (by simp), by first | exact al_old (al_new _ _ _ rfl) | exact al_new _ _ _ (by simp), by omega, by omega, by omega, by exact (((Below.refl _ w6).alloc (Nat.le_refl _) _).alloc (by simp) _).drew⟩
    case rest =>
      obtain ⟨g1, g2, rfl, rfl, k1, k2, hne, hg1, hg2, hB⟩ := hcut
      rename World => wx
      have hB6 := Aside0.mk hB
      have g3 : Aside0 (w5.heap.size < g1 ∧ w5.heap.size < g2 ∧ w.heap.size ≤ g1 ∧ w.heap.size ≤ g2) := ⟨by have := hv.size; omega⟩
      have hc11 : Aside0 (wx.heap.size ≥ w6.heap.size) := ⟨hB.size⟩
      clear z6 z6n z6m
      replace c0 := cell_on hB c0
      replace c1 := cell_on hB c1
      replace c2 := cell_on hB c2
      replace c3 := cell_on hB c3
      replace c4 := cell_on hB c4
      replace c5 := cell_on hB c5
      replace c6 := cell_on hB c6
      replace c7 := cell_on hB c7
      replace c8 := cell_on hB c8
      replace hv := hv.trans (hB.mono hv.size)
      clear hB
      have z1 : g1 < wx.heap.size := (Array.getElem?_eq_some_iff.1 k1).1
      have z2 : g2 < wx.heap.size := (Array.getElem?_eq_some_iff.1 k2).1
      have n1 : ¬ g1 = wx.heap.size := by omega
      have n2 : ¬ g2 = wx.heap.size := by omega
      have n3 : ¬ g2 = g1 := fun h => hne h.symm
      have n4 : ¬ g2 = wx.heap.size + 1 := by omega
      have g1c0 : wx.cell? ⟨g1, 0, none⟩ = some (.int .i64 1) := blk_cell k1 0
      have g1c1 : wx.cell? ⟨g1, 1, none⟩ = some (.int .i64 ST) := blk_cell k1 1
      have g1c2 : wx.cell? ⟨g1, 2, none⟩ = some (.int .i64 RT) := blk_cell k1 2
      have g1c3 : wx.cell? ⟨g1, 3, none⟩ = some (.int .i64 0) := blk_cell k1 3
      have g1c4 : wx.cell? ⟨g1, 4, none⟩ = some (.int .i64 0) := blk_cell k1 4
      have g1c5 : wx.cell? ⟨g1, 5, none⟩ = some (.int .i64 0) := blk_cell k1 5
      have g1c6 : wx.cell? ⟨g1, 6, none⟩ = some (.int .i64 0) := blk_cell k1 6
      have g1c7 : wx.cell? ⟨g1, 7, none⟩ = some (.int .i64 0) := blk_cell k1 7
      have g1c8 : wx.cell? ⟨g1, 8, none⟩ = some (.slice none 0 0) := blk_cell k1 8
      have g1f : wx.frozen? ⟨g1, 8, none⟩ = false := blk_frozen k1 8
      have g2c0 : wx.cell? ⟨g2, 0, none⟩ = some (.int .i64 1) := blk_cell k2 0
      have g2c1 : wx.cell? ⟨g2, 1, none⟩ = some (.int .i64 ST) := blk_cell k2 1
      have g2c2 : wx.cell? ⟨g2, 2, none⟩ = some (.int .i64 RT) := blk_cell k2 2
      have g2c3 : wx.cell? ⟨g2, 3, none⟩ = some (.int .i64 0) := blk_cell k2 3
      have g2c4 : wx.cell? ⟨g2, 4, none⟩ = some (.int .i64 0) := blk_cell k2 4
      have g2c5 : wx.cell? ⟨g2, 5, none⟩ = some (.int .i64 0) := blk_cell k2 5
      have g2c6 : wx.cell? ⟨g2, 6, none⟩ = some (.int .i64 0) := blk_cell k2 6
      have g2c7 : wx.cell? ⟨g2, 7, none⟩ = some (.int .i64 0) := blk_cell k2 7
      have g2c8 : wx.cell? ⟨g2, 8, none⟩ = some (.slice none 0 0) := blk_cell k2 8
      have g2f : wx.frozen? ⟨g2, 8, none⟩ = false := blk_frozen k2 8
      go_upto_region 7 with fail
      obtain ⟨w7, hw7⟩ : ∃ w7, (((((wx.setCell ⟨g1, 8, none⟩ (.slice (some ⟨wx.heap.size, 0, none⟩) 1 1)).setCell ⟨g2, 8, none⟩ (.slice (some ⟨wx.heap.size + 1, 0, none⟩) 1 1)).alloc (.cells #[.int .i64 2, .int .i64 AT, .int .i64 SZ] 51)).alloc (.cells #[.int .i64 1, .int .i64 AT, .int .i64 SZ] 51)).alloc (.cells #[.int .i64 5, .int .i64 0, .int .i64 5, .int .i64 0, .int .i64 99, .int .i64 99, .int .i64 0, .int .i64 0, .slice none 0 0] 48)) = w7 := ⟨_, rfl⟩
      rw [hw7]
      have kc7 : w7.heap[w5.heap.size]? = some (.cells #[.int .i64 1, .int .i64 ST, .int .i64 RT, .int .i64 0, .int .i64 0, .int .i64 0, .int .i64 0, .int .i64 0, .slice none 0 0] 48 (0, 0)) := by rw [← hw7]; exact al_old (al_old (al_old (blk_far (blk_far (blk_on hB6.out hkc.out) (by have := g3.out; simp; omega) _) (by have := g3.out; simp; omega) _)))
      have k17 : w7.heap[g1]? = some (.cells #[.int .i64 1, .int .i64 ST, .int .i64 RT, .int .i64 0, .int .i64 0, .int .i64 0, .int .i64 0, .int .i64 0, .slice (some ⟨wx.heap.size, 0, none⟩) 1 1] 48 (0, 0)) := by rw [← hw7]; exact al_old (al_old (al_old (blk_far (blk_put k1 8 _ rfl) (by simpa using hne) _)))
      have k27 : w7.heap[g2]? = some (.cells #[.int .i64 1, .int .i64 ST, .int .i64 RT, .int .i64 0, .int .i64 0, .int .i64 0, .int .i64 0, .int .i64 0, .slice (some ⟨wx.heap.size + 1, 0, none⟩) 1 1] 48 (0, 0)) := by rw [← hw7]; exact al_old (al_old (al_old (blk_put (blk_far k2 (by simpa using hne.symm) _) 8 _ rfl)))
      have ke1 : w7.heap[wx.heap.size]? = some (.cells #[.int .i64 2, .int .i64 AT, .int .i64 SZ] 51 (0, 0)) := by rw [← hw7]; exact al_old (al_old (al_new _ _ _ (by simp)))
      have ke2 : w7.heap[wx.heap.size + 1]? = some (.cells #[.int .i64 1, .int .i64 AT, .int .i64 SZ] 51 (0, 0)) := by rw [← hw7]; exact al_old (al_new _ _ _ (by simp))
      have kn : w7.heap[wx.heap.size + 1 + 1]? = some (.cells #[.int .i64 5, .int .i64 0, .int .i64 5, .int .i64 0, .int .i64 99, .int .i64 99, .int .i64 0, .int .i64 0, .slice none 0 0] 48 (0, 0)) := by rw [← hw7]; exact al_new _ _ _ (by simp)
      have hv7 : Below w.heap.size w w7 := by rw [← hw7]; have h1 := hv.size; have h2 := g3.out; exact ((((hv.setCell (by simp; omega) _).setCell (by simp; omega) _).alloc (by simp; omega) _).alloc (by simp; omega) _).alloc (by simp; omega) _
      clear hv hw7 z1 z2 n1 n2 n3 n4 hB6 hkc hc11 g1c0 g1c1 g1c2 g1c3 g1c4 g1c5 g1c6 g1c7 g1c8 g2c0 g2c1 g2c2 g2c3 g2c4 g2c5 g2c6 g2c7 g2c8 g1f g2f k1 k2 c0 c1 c2 c3 c4 c5 c6 c7 c8
      rename Below _ w w7 => hv
      clear hg1 hg2 hne g3
      obtain ⟨e1, he1⟩ : ∃ e, wx.heap.size = e := ⟨_, rfl⟩
      obtain ⟨e2, he2⟩ : ∃ e, wx.heap.size + 1 = e := ⟨_, rfl⟩
      obtain ⟨e3, he3⟩ : ∃ e, wx.heap.size + 1 + 1 = e := ⟨_, rfl⟩
      obtain ⟨e0, he0⟩ : ∃ e, w5.heap.size = e := ⟨_, rfl⟩
      simp only [he3] at kn ⊢
      simp only [he2] at k27 ke2 ⊢
      simp only [he1] at k17 ke1 ⊢
      simp only [he0] at kc7 ⊢
      clear he1 he2 he3 he0
      have a0 : w7.cell? ⟨e0, 0, none⟩ = some (.int .i64 1) := blk_cell kc7 0
      have a1 : w7.cell? ⟨e0, 1, none⟩ = some (.int .i64 ST) := blk_cell kc7 1
      have a2 : w7.cell? ⟨e0, 2, none⟩ = some (.int .i64 RT) := blk_cell kc7 2
      have a3 : w7.cell? ⟨e0, 3, none⟩ = some (.int .i64 0) := blk_cell kc7 3
      have a4 : w7.cell? ⟨e0, 4, none⟩ = some (.int .i64 0) := blk_cell kc7 4
      have a5 : w7.cell? ⟨e0, 5, none⟩ = some (.int .i64 0) := blk_cell kc7 5
      have a6 : w7.cell? ⟨e0, 6, none⟩ = some (.int .i64 0) := blk_cell kc7 6
      have a7 : w7.cell? ⟨e0, 7, none⟩ = some (.int .i64 0) := blk_cell kc7 7
      have a8 : w7.cell? ⟨e0, 8, none⟩ = some (.slice none 0 0) := blk_cell kc7 8
      have az : e0 < w7.heap.size := blk_lt kc7
      have b0 : w7.cell? ⟨g1, 0, none⟩ = some (.int .i64 1) := blk_cell k17 0
      have b1 : w7.cell? ⟨g1, 1, none⟩ = some (.int .i64 ST) := blk_cell k17 1
      have b2 : w7.cell? ⟨g1, 2, none⟩ = some (.int .i64 RT) := blk_cell k17 2
      have b3 : w7.cell? ⟨g1, 3, none⟩ = some (.int .i64 0) := blk_cell k17 3
      have b4 : w7.cell? ⟨g1, 4, none⟩ = some (.int .i64 0) := blk_cell k17 4
      have b5 : w7.cell? ⟨g1, 5, none⟩ = some (.int .i64 0) := blk_cell k17 5
      have b6 : w7.cell? ⟨g1, 6, none⟩ = some (.int .i64 0) := blk_cell k17 6
      have b7 : w7.cell? ⟨g1, 7, none⟩ = some (.int .i64 0) := blk_cell k17 7
      have b8 : w7.cell? ⟨g1, 8, none⟩ = some (.slice (some ⟨e1, 0, none⟩) 1 1) := blk_cell k17 8
      have bz : g1 < w7.heap.size := blk_lt k17
      have d0 : w7.cell? ⟨g2, 0, none⟩ = some (.int .i64 1) := blk_cell k27 0
      have d1 : w7.cell? ⟨g2, 1, none⟩ = some (.int .i64 ST) := blk_cell k27 1
      have d2 : w7.cell? ⟨g2, 2, none⟩ = some (.int .i64 RT) := blk_cell k27 2
      have d3 : w7.cell? ⟨g2, 3, none⟩ = some (.int .i64 0) := blk_cell k27 3
      have d4 : w7.cell? ⟨g2, 4, none⟩ = some (.int .i64 0) := blk_cell k27 4
      have d5 : w7.cell? ⟨g2, 5, none⟩ = some (.int .i64 0) := blk_cell k27 5
      have d6 : w7.cell? ⟨g2, 6, none⟩ = some (.int .i64 0) := blk_cell k27 6
      have d7 : w7.cell? ⟨g2, 7, none⟩ = some (.int .i64 0) := blk_cell k27 7
      have d8 : w7.cell? ⟨g2, 8, none⟩ = some (.slice (some ⟨e2, 0, none⟩) 1 1) := blk_cell k27 8
      have dz : g2 < w7.heap.size := blk_lt k27
      have n0 : w7.cell? ⟨e3, 0, none⟩ = some (.int .i64 5) := blk_cell kn 0
      have n1 : w7.cell? ⟨e3, 1, none⟩ = some (.int .i64 0) := blk_cell kn 1
      have n2 : w7.cell? ⟨e3, 2, none⟩ = some (.int .i64 5) := blk_cell kn 2
      have n3 : w7.cell? ⟨e3, 3, none⟩ = some (.int .i64 0) := blk_cell kn 3
      have n4 : w7.cell? ⟨e3, 4, none⟩ = some (.int .i64 99) := blk_cell kn 4
      have n5 : w7.cell? ⟨e3, 5, none⟩ = some (.int .i64 99) := blk_cell kn 5
      have n6 : w7.cell? ⟨e3, 6, none⟩ = some (.int .i64 0) := blk_cell kn 6
      have n7 : w7.cell? ⟨e3, 7, none⟩ = some (.int .i64 0) := blk_cell kn 7
      have n8 : w7.cell? ⟨e3, 8, none⟩ = some (.slice none 0 0) := blk_cell kn 8
      have nz : e3 < w7.heap.size := blk_lt kn
      have hl7 := Aside0.mk (show e1 < w7.heap.size ∧ e2 < w7.heap.size ∧ w.heap.size ≤ w7.heap.size from ⟨blk_lt ke1, blk_lt ke2, hv.size⟩)
      clear kc7 k17 k27 kn
      go_upto_region 8 with fail
      clear az bz dz nz a0 a1 a2 a3 a4 a5 a6 a7 a8 b0 b1 b2 b3 b4 b5 b6 b7 b8 d0 d1 d2 d3 d4 d5 d6 d7 d8 n0 n1 n2 n3 n4 n5 n6 n7 n8
      obtain ⟨w8, hw8⟩ : ∃ w8, ((w7.alloc (.cells #[.int .i64 0, .int .i64 0, .int .i64 2] 53)).alloc (.cells #[.int .i64 1, .int .i64 ST, .int .i64 RT, .int .i64 0, .int .i64 0, .int .i64 0, .int .i64 0, .int .i64 0, .slice none 0 0, .int .i64 1, .int .i64 ST, .int .i64 RT, .int .i64 0, .int .i64 0, .int .i64 0, .int .i64 0, .int .i64 0, .slice (some ⟨e1, 0, none⟩) 1 1, .int .i64 1, .int .i64 ST, .int .i64 RT, .int .i64 0, .int .i64 0, .int .i64 0, .int .i64 0, .int .i64 0, .slice (some ⟨e2, 0, none⟩) 1 1, .int .i64 5, .int .i64 0, .int .i64 5, .int .i64 0, .int .i64 99, .int .i64 99, .int .i64 0, .int .i64 0, .slice none 0 0] 48)).alloc (.cells #[.int .u64 S, .slice (some ⟨w7.heap.size, 0, none⟩) 1 1, .slice (some ⟨w7.heap.size + 1, 0, none⟩) 4 4] 32) = w8 := ⟨_, rfl⟩
      try rw [hw8]
      have hB : Below w7.heap.size w7 w8 := by rw [← hw8]; exact (((Below.refl _ w7).alloc (by first | exact Nat.le_refl _ | (simp; done) | (simp; omega)) _).alloc (by first | exact Nat.le_refl _ | (simp; done) | (simp; omega)) _).alloc (by first | exact Nat.le_refl _ | (simp; done) | (simp; omega)) _
      have kh : w8.heap[w7.heap.size]? = some (.cells #[.int .i64 0, .int .i64 0, .int .i64 2] 53 (0, 0)) := by rw [← hw8]; exact al_old (al_old (al_new _ _ _ (by first | rfl | (simp; done) | (simp; omega))))
      have h0 : w8.cell? ⟨w7.heap.size, 0, none⟩ = some (.int .i64 0) := blk_cell kh 0
      have h1 : w8.cell? ⟨w7.heap.size, 1, none⟩ = some (.int .i64 0) := blk_cell kh 1
      have h2 : w8.cell? ⟨w7.heap.size, 2, none⟩ = some (.int .i64 2) := blk_cell kh 2
      have ky : w8.heap[w7.heap.size + 1]? = some (.cells #[.int .i64 1, .int .i64 ST, .int .i64 RT, .int .i64 0, .int .i64 0, .int .i64 0, .int .i64 0, .int .i64 0, .slice none 0 0, .int .i64 1, .int .i64 ST, .int .i64 RT, .int .i64 0, .int .i64 0, .int .i64 0, .int .i64 0, .int .i64 0, .slice (some ⟨e1, 0, none⟩) 1 1, .int .i64 1, .int .i64 ST, .int .i64 RT, .int .i64 0, .int .i64 0, .int .i64 0, .int .i64 0, .int .i64 0, .slice (some ⟨e2, 0, none⟩) 1 1, .int .i64 5, .int .i64 0, .int .i64 5, .int .i64 0, .int .i64 99, .int .i64 99, .int .i64 0, .int .i64 0, .slice none 0 0] 48 (0, 0)) := by rw [← hw8]; exact al_old (al_new _ _ _ (by first | rfl | (simp; done) | (simp; omega)))
      have y0 : w8.cell? ⟨w7.heap.size + 1, 0, none⟩ = some (.int .i64 1) := blk_cell ky 0
      have y1 : w8.cell? ⟨w7.heap.size + 1, 1, none⟩ = some (.int .i64 ST) := blk_cell ky 1
      have y2 : w8.cell? ⟨w7.heap.size + 1, 2, none⟩ = some (.int .i64 RT) := blk_cell ky 2
      have y3 : w8.cell? ⟨w7.heap.size + 1, 3, none⟩ = some (.int .i64 0) := blk_cell ky 3
      have y4 : w8.cell? ⟨w7.heap.size + 1, 4, none⟩ = some (.int .i64 0) := blk_cell ky 4
      have y5 : w8.cell? ⟨w7.heap.size + 1, 5, none⟩ = some (.int .i64 0) := blk_cell ky 5
      have y6 : w8.cell? ⟨w7.heap.size + 1, 6, none⟩ = some (.int .i64 0) := blk_cell ky 6
      have y7 : w8.cell? ⟨w7.heap.size + 1, 7, none⟩ = some (.int .i64 0) := blk_cell ky 7
      have y8 : w8.cell? ⟨w7.heap.size + 1, 8, none⟩ = some (.slice none 0 0) := blk_cell ky 8
      have y9 : w8.cell? ⟨w7.heap.size + 1, 9, none⟩ = some (.int .i64 1) := blk_cell ky 9
      have y10 : w8.cell? ⟨w7.heap.size + 1, 10, none⟩ = some (.int .i64 ST) := blk_cell ky 10
      have y11 : w8.cell? ⟨w7.heap.size + 1, 11, none⟩ = some (.int .i64 RT) := blk_cell ky 11
      have y12 : w8.cell? ⟨w7.heap.size + 1, 12, none⟩ = some (.int .i64 0) := blk_cell ky 12
      have y13 : w8.cell? ⟨w7.heap.size + 1, 13, none⟩ = some (.int .i64 0) := blk_cell ky 13
      have y14 : w8.cell? ⟨w7.heap.size + 1, 14, none⟩ = some (.int .i64 0) := blk_cell ky 14
      have y15 : w8.cell? ⟨w7.heap.size + 1, 15, none⟩ = some (.int .i64 0) := blk_cell ky 15
      have y16 : w8.cell? ⟨w7.heap.size + 1, 16, none⟩ = some (.int .i64 0) := blk_cell ky 16
      have y17 : w8.cell? ⟨w7.heap.size + 1, 17, none⟩ = some (.slice (some ⟨e1, 0, none⟩) 1 1) := blk_cell ky 17
      have y18 : w8.cell? ⟨w7.heap.size + 1, 18, none⟩ = some (.int .i64 1) := blk_cell ky 18
      have y19 : w8.cell? ⟨w7.heap.size + 1, 19, none⟩ = some (.int .i64 ST) := blk_cell ky 19
      have y20 : w8.cell? ⟨w7.heap.size + 1, 20, none⟩ = some (.int .i64 RT) := blk_cell ky 20
      have y21 : w8.cell? ⟨w7.heap.size + 1, 21, none⟩ = some (.int .i64 0) := blk_cell ky 21
      have y22 : w8.cell? ⟨w7.heap.size + 1, 22, none⟩ = some (.int .i64 0) := blk_cell ky 22
      have y23 : w8.cell? ⟨w7.heap.size + 1, 23, none⟩ = some (.int .i64 0) := blk_cell ky 23
      have y24 : w8.cell? ⟨w7.heap.size + 1, 24, none⟩ = some (.int .i64 0) := blk_cell ky 24
      have y25 : w8.cell? ⟨w7.heap.size + 1, 25, none⟩ = some (.int .i64 0) := blk_cell ky 25
      have y26 : w8.cell? ⟨w7.heap.size + 1, 26, none⟩ = some (.slice (some ⟨e2, 0, none⟩) 1 1) := blk_cell ky 26
      have y27 : w8.cell? ⟨w7.heap.size + 1, 27, none⟩ = some (.int .i64 5) := blk_cell ky 27
      have y28 : w8.cell? ⟨w7.heap.size + 1, 28, none⟩ = some (.int .i64 0) := blk_cell ky 28
      have y29 : w8.cell? ⟨w7.heap.size + 1, 29, none⟩ = some (.int .i64 5) := blk_cell ky 29
      have y30 : w8.cell? ⟨w7.heap.size + 1, 30, none⟩ = some (.int .i64 0) := blk_cell ky 30
      have y31 : w8.cell? ⟨w7.heap.size + 1, 31, none⟩ = some (.int .i64 99) := blk_cell ky 31
      have y32 : w8.cell? ⟨w7.heap.size + 1, 32, none⟩ = some (.int .i64 99) := blk_cell ky 32
      have y33 : w8.cell? ⟨w7.heap.size + 1, 33, none⟩ = some (.int .i64 0) := blk_cell ky 33
      have y34 : w8.cell? ⟨w7.heap.size + 1, 34, none⟩ = some (.int .i64 0) := blk_cell ky 34
      have y35 : w8.cell? ⟨w7.heap.size + 1, 35, none⟩ = some (.slice none 0 0) := blk_cell ky 35
      have kx : w8.heap[w7.heap.size + 1 + 1]? = some (.cells #[.int .u64 S, .slice (some ⟨w7.heap.size, 0, none⟩) 1 1, .slice (some ⟨w7.heap.size + 1, 0, none⟩) 4 4] 32 (0, 0)) := by rw [← hw8]; exact al_new _ _ _ (by first | rfl | (simp; done) | (simp; omega))
      have x0 : w8.cell? ⟨w7.heap.size + 1 + 1, 0, none⟩ = some (.int .u64 S) := blk_cell kx 0
      have x1 : w8.cell? ⟨w7.heap.size + 1 + 1, 1, none⟩ = some (.slice (some ⟨w7.heap.size, 0, none⟩) 1 1) := blk_cell kx 1
      have x2 : w8.cell? ⟨w7.heap.size + 1 + 1, 2, none⟩ = some (.slice (some ⟨w7.heap.size + 1, 0, none⟩) 4 4) := blk_cell kx 2
      replace ke1 := blk_on hB ke1
      replace ke2 := blk_on hB ke2
      replace hv := hv.trans (hB.mono hv.size)
      clear hB hw8
      clear h0 h1 h2 y0 y1 y2 y3 y4 y5 y6 y7 y8 y9 y10 y11 y12 y13 y14 y15 y16 y17 y18 y19 y20 y21 y22 y23 y24 y25 y26 y27 y28 y29 y30 y31 y32 y33 y34 y35 x0 x1 x2
      obtain ⟨m1, hf1⟩ : ∃ f, w7.heap.size = f := ⟨_, rfl⟩
      obtain ⟨m2, hf2⟩ : ∃ f, w7.heap.size + 1 = f := ⟨_, rfl⟩
      obtain ⟨m3, hf3⟩ : ∃ f, w7.heap.size + 1 + 1 = f := ⟨_, rfl⟩
      have HF := Aside0.mk (show m1 ≠ m2 ∧ m1 ≠ m3 ∧ m2 ≠ m3 ∧ e1 ≠ m1 ∧ e1 ≠ m2 ∧ e1 ≠ m3 ∧ e2 ≠ m1 ∧ e2 ≠ m2 ∧ e2 ≠ m3 ∧ w.heap.size ≤ m2 ∧ w.heap.size ≤ m3 from by have := hl7.out; omega)
      simp only [hf3] at kx ⊢
      simp only [hf2] at ky kx ⊢
      simp only [hf1] at kh kx ⊢
      clear hf1 hf2 hf3 hl7
      have x0 : w8.cell? ⟨m3, 0, none⟩ = some (.int .u64 S) := blk_cell kx 0
      have x1 : w8.cell? ⟨m3, 1, none⟩ = some (.slice (some ⟨m1, 0, none⟩) 1 1) := blk_cell kx 1
      have x2 : w8.cell? ⟨m3, 2, none⟩ = some (.slice (some ⟨m2, 0, none⟩) 4 4) := blk_cell kx 2
      have hA : WAt 51 w8 (some ⟨m1, 0, none⟩) (some ⟨m2, 0, none⟩) CH0 (ckX ST RT AT SZ ckN) := exact_world w8 ckN [.int .i64 5, .int .i64 0, .int .i64 5, .int .i64 0, .int .i64 99, .int .i64 99, .int .i64 0, .int .i64 0, .slice none 0 0] (ck_K ckN none 0 (by simp) (C_nil _ _)) ke1 ke2 kh rfl ky
      go_wp2_with fail
      refine (p1 _ _ _ hv hA).mono ?_
      rintro en w9 ⟨rfl, hB⟩
      replace ke1 := blk_on hB ke1
      replace ke2 := blk_on hB ke2
      replace kh := blk_on hB kh
      replace ky := blk_on hB ky
      replace kx := blk_on hB kx
      replace x0 := cell_on hB x0
      replace x1 := cell_on hB x1
      replace x2 := cell_on hB x2
      replace hv := hv.trans (hB.mono hv.size)
      replace hA := hA.below hB
      clear hB p1
      go_wp2_with fail
      refine (p2 _ _ _ hv hA).mono ?_
      rintro en w10 ⟨rfl, hB⟩
      replace ke1 := blk_on hB ke1
      replace ke2 := blk_on hB ke2
      replace kh := blk_on hB kh
      replace ky := blk_on hB ky
      replace kx := blk_on hB kx
      replace x0 := cell_on hB x0
      replace x1 := cell_on hB x1
      replace x2 := cell_on hB x2
      replace hv := hv.trans (hB.mono hv.size)
      replace hA := hA.below hB
      clear hB p2
      go_wp2_with fail
      refine (p3 _ _ _ hv hA).mono ?_
      rintro en w11 ⟨rfl, hB⟩
      replace ke1 := blk_on hB ke1
      replace ke2 := blk_on hB ke2
      replace kh := blk_on hB kh
      replace ky := blk_on hB ky
      replace kx := blk_on hB kx
      replace x0 := cell_on hB x0
      replace x1 := cell_on hB x1
      replace x2 := cell_on hB x2
      replace hv := hv.trans (hB.mono hv.size)
      replace hA := hA.below hB
      clear hB p3
      clear hA
      have y27 : w11.cell? ⟨m2, 27, none⟩ = some (.int .i64 5) := blk_cell ky 27
      have yf27 : w11.frozen? ⟨m2, 27, none⟩ = false := blk_frozen ky 27
      have y28 : w11.cell? ⟨m2, 28, none⟩ = some (.int .i64 0) := blk_cell ky 28
      have yf28 : w11.frozen? ⟨m2, 28, none⟩ = false := blk_frozen ky 28
      have y29 : w11.cell? ⟨m2, 29, none⟩ = some (.int .i64 5) := blk_cell ky 29
      have yf29 : w11.frozen? ⟨m2, 29, none⟩ = false := blk_frozen ky 29
      have y30 : w11.cell? ⟨m2, 30, none⟩ = some (.int .i64 0) := blk_cell ky 30
      have yf30 : w11.frozen? ⟨m2, 30, none⟩ = false := blk_frozen ky 30
      have y31 : w11.cell? ⟨m2, 31, none⟩ = some (.int .i64 99) := blk_cell ky 31
      have yf31 : w11.frozen? ⟨m2, 31, none⟩ = false := blk_frozen ky 31
      have y32 : w11.cell? ⟨m2, 32, none⟩ = some (.int .i64 99) := blk_cell ky 32
      have yf32 : w11.frozen? ⟨m2, 32, none⟩ = false := blk_frozen ky 32
      have y33 : w11.cell? ⟨m2, 33, none⟩ = some (.int .i64 0) := blk_cell ky 33
      have yf33 : w11.frozen? ⟨m2, 33, none⟩ = false := blk_frozen ky 33
      have y34 : w11.cell? ⟨m2, 34, none⟩ = some (.int .i64 0) := blk_cell ky 34
      have yf34 : w11.frozen? ⟨m2, 34, none⟩ = false := blk_frozen ky 34
      have y35 : w11.cell? ⟨m2, 35, none⟩ = some (.slice none 0 0) := blk_cell ky 35
      have yf35 : w11.frozen? ⟨m2, 35, none⟩ = false := blk_frozen ky 35
      have xf : w11.frozen? ⟨m3, 0, none⟩ = false := blk_frozen kx 0
      have ff : ¬ m3 = m2 := fun h => HF.out.2.2.1 h.symm
      have ff2 : ¬ m2 = m3 := HF.out.2.2.1
      go_upto_region 12 with fail
      obtain ⟨w12, hw12⟩ : ∃ w', (((((((((w11.setCell ⟨m2, 27, none⟩ (.int .i64 4)).setCell ⟨m2, 28, none⟩ (.int .i64 0)).setCell ⟨m2, 29, none⟩ (.int .i64 0)).setCell ⟨m2, 30, none⟩ (.int .i64 0)).setCell ⟨m2, 31, none⟩ (.int .i64 0)).setCell ⟨m2, 32, none⟩ (.int .i64 0)).setCell ⟨m2, 33, none⟩ (.int .i64 0)).setCell ⟨m2, 34, none⟩ (.int .i64 0)).setCell ⟨m2, 35, none⟩ (.slice none 0 0)).setCell ⟨m3, 0, none⟩ (.int .u64 1) = w' := ⟨_, rfl⟩
      rw [hw12]
      have ke1' := ke1
      have ke2' := ke2
      replace ke1 : w12.heap[e1]? = some (.cells #[.int .i64 2, .int .i64 AT, .int .i64 SZ] 51 (0, 0)) := by rw [← hw12]; exact blk_far (blk_far (blk_far (blk_far (blk_far (blk_far (blk_far (blk_far (blk_far (blk_far ke1 (by simpa using HF.out.2.2.2.2.1) _) (by simpa using HF.out.2.2.2.2.1) _) (by simpa using HF.out.2.2.2.2.1) _) (by simpa using HF.out.2.2.2.2.1) _) (by simpa using HF.out.2.2.2.2.1) _) (by simpa using HF.out.2.2.2.2.1) _) (by simpa using HF.out.2.2.2.2.1) _) (by simpa using HF.out.2.2.2.2.1) _) (by simpa using HF.out.2.2.2.2.1) _) (by simpa using HF.out.2.2.2.2.2.1) _
      replace ke2 : w12.heap[e2]? = some (.cells #[.int .i64 1, .int .i64 AT, .int .i64 SZ] 51 (0, 0)) := by rw [← hw12]; exact blk_far (blk_far (blk_far (blk_far (blk_far (blk_far (blk_far (blk_far (blk_far (blk_far ke2 (by simpa using HF.out.2.2.2.2.2.2.2.1) _) (by simpa using HF.out.2.2.2.2.2.2.2.1) _) (by simpa using HF.out.2.2.2.2.2.2.2.1) _) (by simpa using HF.out.2.2.2.2.2.2.2.1) _) (by simpa using HF.out.2.2.2.2.2.2.2.1) _) (by simpa using HF.out.2.2.2.2.2.2.2.1) _) (by simpa using HF.out.2.2.2.2.2.2.2.1) _) (by simpa using HF.out.2.2.2.2.2.2.2.1) _) (by simpa using HF.out.2.2.2.2.2.2.2.1) _) (by simpa using HF.out.2.2.2.2.2.2.2.2.1) _
      replace kh : w12.heap[m1]? = some (.cells #[.int .i64 0, .int .i64 0, .int .i64 2] 53 (0, 0)) := by rw [← hw12]; exact blk_far (blk_far (blk_far (blk_far (blk_far (blk_far (blk_far (blk_far (blk_far (blk_far kh (by simpa using HF.out.1) _) (by simpa using HF.out.1) _) (by simpa using HF.out.1) _) (by simpa using HF.out.1) _) (by simpa using HF.out.1) _) (by simpa using HF.out.1) _) (by simpa using HF.out.1) _) (by simpa using HF.out.1) _) (by simpa using HF.out.1) _) (by simpa using HF.out.2.1) _
      have k9 := put9 (w := w11) (g := m2) (t := 48) ([.int .i64 1, .int .i64 ST, .int .i64 RT, .int .i64 0, .int .i64 0, .int .i64 0, .int .i64 0, .int .i64 0, .slice none 0 0, .int .i64 1, .int .i64 ST, .int .i64 RT, .int .i64 0, .int .i64 0, .int .i64 0, .int .i64 0, .int .i64 0, .slice (some ⟨e1, 0, none⟩) 1 1, .int .i64 1, .int .i64 ST, .int .i64 RT, .int .i64 0, .int .i64 0, .int .i64 0, .int .i64 0, .int .i64 0, .slice (some ⟨e2, 0, none⟩) 1 1] : List Value) (.int .i64 5) (.int .i64 0) (.int .i64 5) (.int .i64 0) (.int .i64 99) (.int .i64 99) (.int .i64 0) (.int .i64 0) (.slice none 0 0) (.int .i64 4) (.int .i64 0) (.int .i64 0) (.int .i64 0) (.int .i64 0) (.int .i64 0) (.int .i64 0) (.int .i64 0) (.slice none 0 0) 27 rfl ky
      replace ky : w12.heap[m2]? = some (.cells #[.int .i64 1, .int .i64 ST, .int .i64 RT, .int .i64 0, .int .i64 0, .int .i64 0, .int .i64 0, .int .i64 0, .slice none 0 0, .int .i64 1, .int .i64 ST, .int .i64 RT, .int .i64 0, .int .i64 0, .int .i64 0, .int .i64 0, .int .i64 0, .slice (some ⟨e1, 0, none⟩) 1 1, .int .i64 1, .int .i64 ST, .int .i64 RT, .int .i64 0, .int .i64 0, .int .i64 0, .int .i64 0, .int .i64 0, .slice (some ⟨e2, 0, none⟩) 1 1, .int .i64 4, .int .i64 0, .int .i64 0, .int .i64 0, .int .i64 0, .int .i64 0, .int .i64 0, .int .i64 0, .slice none 0 0] 48 (0, 0)) := by rw [← hw12]; exact blk_far k9 (by simpa using HF.out.2.2.1) _
      clear k9
      replace kx : w12.heap[m3]? = some (.cells #[.int .u64 1, .slice (some ⟨m1, 0, none⟩) 1 1, .slice (some ⟨m2, 0, none⟩) 4 4] 32 (0, 0)) := by rw [← hw12]; exact blk_put (blk_far (blk_far (blk_far (blk_far (blk_far (blk_far (blk_far (blk_far (blk_far kx (by simpa using ff) _) (by simpa using ff) _) (by simpa using ff) _) (by simpa using ff) _) (by simpa using ff) _) (by simpa using ff) _) (by simpa using ff) _) (by simpa using ff) _) (by simpa using ff) _) 0 _ rfl
      have hv12 : Below w.heap.size w w12 := by rw [← hw12]; have h1 := HF.out.2.2.2.2.2.2.2.2.2; exact (((((((((hv.setCell (by simp; omega) _).setCell (by simp; omega) _).setCell (by simp; omega) _).setCell (by simp; omega) _).setCell (by simp; omega) _).setCell (by simp; omega) _).setCell (by simp; omega) _).setCell (by simp; omega) _).setCell (by simp; omega) _).setCell (by simp; omega) _
      clear hw12 hv xf ff ff2 x0 x1 x2 ke1' ke2' y27 yf27 y28 yf28 y29 yf29 y30 yf30 y31 yf31 y32 yf32 y33 yf33 y34 yf34 y35 yf35
      rename Below _ w w12 => hv
      have x0 : w12.cell? ⟨m3, 0, none⟩ = some (.int .u64 1) := blk_cell kx 0
      have x1 : w12.cell? ⟨m3, 1, none⟩ = some (.slice (some ⟨m1, 0, none⟩) 1 1) := blk_cell kx 1
      have x2 : w12.cell? ⟨m3, 2, none⟩ = some (.slice (some ⟨m2, 0, none⟩) 4 4) := blk_cell kx 2
      have hA : WAt 51 w12 (some ⟨m1, 0, none⟩) (some ⟨m2, 0, none⟩) CH0 (ckX ST RT AT SZ ckI) := exact_world w12 ckI [.int .i64 4, .int .i64 0, .int .i64 0, .int .i64 0, .int .i64 0, .int .i64 0, .int .i64 0, .int .i64 0, .slice none 0 0] (ck_K ckI none 0 (by simp) (C_nil _ _)) ke1 ke2 kh rfl ky
      clear ke1 ke2 kh ky kx
      go_wp2_with fail
      refine (p4 _ _ _ hv hA).mono ?_
      rintro en w13 ⟨rfl, hB⟩
      replace hv := hv.trans (hB.mono hv.size)
      replace hA := hA.below hB
      clear hB p4
      clear hA x0 x1 x2
      go_wp2_with fail
      refine (l1 _).mono ?_
      rintro en w14 ⟨rfl, hB⟩
      replace hv := hv.trans (hB.mono hv.size)
      clear hB l1
      go_wp2_with fail
      refine (l2 _).mono ?_
      rintro en w15 ⟨rfl, hB⟩
      replace hv := hv.trans (hB.mono hv.size)
      clear hB l2
      go_wp2_with fail
      refine (aw _ hv).mono ?_
      rintro en w16 ⟨rfl, hB⟩
      replace hv := hv.trans (hB.mono hv.size)
      clear hB aw
      go_wp2
      go_ret
      exact ⟨rfl, hv⟩
  · rw [if_neg hAt, Int.add_zero] at q2 q3
    have dd : decide (AT ≤ S) = false := decide_eq_false hAt
    rw [hQ1, hA0] at q2
    rw [hA0] at q3
    have f3 : IntKind.i64.wrap (S - AT) = S - AT := wr _ (by omega) (by omega)
    have f4 : IntKind.i64.wrap A = A := wr _ (by omega) (by omega)
    have p2 := pc S ckN rfl 1 A q2
    have p3 := pc S ckN rfl 2 A q3
    have l2 := l1
    clear b1 b2 b3 b4 b5 bM bA ph hwf pc rs q1 q2 q3 q4 bq hQ1 hA0 hAt hL
    go_enter Tryd.func4, Tryd.ntmps4
    go_wp2_with fail
    refine (c1 _).mono ?_
    rintro en w1 ⟨rfl, hB⟩
    replace hv := hv.trans (hB.mono hv.size)
    clear hB c1
    go_wp2_with fail
    refine (c2 _).mono ?_
    rintro en w2 ⟨rfl, hB⟩
    replace hv := hv.trans (hB.mono hv.size)
    clear hB c2
    go_wp2_with fail
    refine (c3 _).mono ?_
    rintro en w3 ⟨rfl, hB⟩
    replace hv := hv.trans (hB.mono hv.size)
    clear hB c3
    go_wp2_with fail
    refine (c4 _).mono ?_
    rintro en w4 ⟨rfl, hB⟩
    replace hv := hv.trans (hB.mono hv.size)
    clear hB c4
    go_wp2_with fail
    refine (c5 _).mono ?_
    rintro en w5 ⟨rfl, hB⟩
    replace hv := hv.trans (hB.mono hv.size)
    clear hB c5
    go_upto_region 3 with fail
    obtain ⟨w6, hw6⟩ : ∃ w6, w5.alloc (.cells #[.int .i64 1, .int .i64 ST, .int .i64 RT, .int .i64 0, .int .i64 0, .int .i64 0, .int .i64 0, .int .i64 0, .slice none 0 0] 48) = w6 := ⟨_, rfl⟩
    try rw [hw6]
    have hB : Below w5.heap.size w5 w6 := by rw [← hw6]; exact (Below.refl _ w5).alloc (by first | exact Nat.le_refl _ | (simp; done) | (simp; omega)) _
    have kc : w6.heap[w5.heap.size]? = some (.cells #[.int .i64 1, .int .i64 ST, .int .i64 RT, .int .i64 0, .int .i64 0, .int .i64 0, .int .i64 0, .int .i64 0, .slice none 0 0] 48 (0, 0)) := by rw [← hw6]; exact al_new _ _ _ (by first | rfl | (simp; done) | (simp; omega))
    have c0 : w6.cell? ⟨w5.heap.size, 0, none⟩ = some (.int .i64 1) := blk_cell kc 0
    have c1 : w6.cell? ⟨w5.heap.size, 1, none⟩ = some (.int .i64 ST) := blk_cell kc 1
    have c2 : w6.cell? ⟨w5.heap.size, 2, none⟩ = some (.int .i64 RT) := blk_cell kc 2
    have c3 : w6.cell? ⟨w5.heap.size, 3, none⟩ = some (.int .i64 0) := blk_cell kc 3
    have c4 : w6.cell? ⟨w5.heap.size, 4, none⟩ = some (.int .i64 0) := blk_cell kc 4
    have c5 : w6.cell? ⟨w5.heap.size, 5, none⟩ = some (.int .i64 0) := blk_cell kc 5
    have c6 : w6.cell? ⟨w5.heap.size, 6, none⟩ = some (.int .i64 0) := blk_cell kc 6
    have c7 : w6.cell? ⟨w5.heap.size, 7, none⟩ = some (.int .i64 0) := blk_cell kc 7
    have c8 : w6.cell? ⟨w5.heap.size, 8, none⟩ = some (.slice none 0 0) := blk_cell kc 8
    replace hv := hv.trans (hB.mono hv.size)
    clear hB hw6
    have z6 : w5.heap.size < w6.heap.size := (Array.getElem?_eq_some_iff.1 kc).1
    have z6n : ¬ w5.heap.size = w6.heap.size := by omega
    have z6m : ¬ w5.heap.size = w6.heap.size + 1 := by omega
    have hkc := Aside0.mk kc
    clear kc
    go_cut [12, 13] from 25 (fun s12 s13 wx => ∃ g1 g2 : Nat, s12 = .pointer (some ⟨g1, 0, none⟩) ∧ s13 = .pointer (some ⟨g2, 0, none⟩) ∧ wx.heap[g1]? = some (.cells #[.int .i64 1, .int .i64 ST, .int .i64 RT, .int .i64 0, .int .i64 0, .int .i64 0, .int .i64 0, .int .i64 0, .slice none 0 0] 48 (0, 0)) ∧ wx.heap[g2]? = some (.cells #[.int .i64 1, .int .i64 ST, .int .i64 RT, .int .i64 0, .int .i64 0, .int .i64 0, .int .i64 0, .int .i64 0, .slice none 0 0] 48 (0, 0)) ∧ g1 ≠ g2 ∧ w6.heap.size ≤ g1 ∧ w6.heap.size ≤ g2 ∧ Below w6.heap.size w6 wx)
    case first =>
      go_big_region
      all_goals
        apply_assumption
        go_meet
        exact ⟨_, _, rfl, rfl, by first | exact al_old (al_new _ _ _ rfl) | exact al_new _ _ _ (by simp), by first | exact al_old (al_new _ _ _ rfl) | exact al_new _ _ _ (by simp), by omega, by omega, by omega, by exact (((Below.refl _ w6).alloc (Nat.le_refl _) _).alloc (by simp) _).drew⟩
    case rest =>
      obtain ⟨g1, g2, rfl, rfl, k1, k2, hne, hg1, hg2, hB⟩ := hcut
      rename World => wx
      have hB6 := Aside0.mk hB
      have g3 : Aside0 (w5.heap.size < g1 ∧ w5.heap.size < g2 ∧ w.heap.size ≤ g1 ∧ w.heap.size ≤ g2) := ⟨by have := hv.size; omega⟩
      have hc11 : Aside0 (wx.heap.size ≥ w6.heap.size) := ⟨hB.size⟩
      clear z6 z6n z6m
      replace c0 := cell_on hB c0
      replace c1 := cell_on hB c1
      replace c2 := cell_on hB c2
      replace c3 := cell_on hB c3
      replace c4 := cell_on hB c4
      replace c5 := cell_on hB c5
      replace c6 := cell_on hB c6
      replace c7 := cell_on hB c7
      replace c8 := cell_on hB c8
      replace hv := hv.trans (hB.mono hv.size)
      clear hB
      have z1 : g1 < wx.heap.size := (Array.getElem?_eq_some_iff.1 k1).1
      have z2 : g2 < wx.heap.size := (Array.getElem?_eq_some_iff.1 k2).1
      have n1 : ¬ g1 = wx.heap.size := by omega
      have n2 : ¬ g2 = wx.heap.size := by omega
      have n3 : ¬ g2 = g1 := fun h => hne h.symm
      have n4 : ¬ g2 = wx.heap.size + 1 := by omega
      have g1c0 : wx.cell? ⟨g1, 0, none⟩ = some (.int .i64 1) := blk_cell k1 0
      have g1c1 : wx.cell? ⟨g1, 1, none⟩ = some (.int .i64 ST) := blk_cell k1 1
      have g1c2 : wx.cell? ⟨g1, 2, none⟩ = some (.int .i64 RT) := blk_cell k1 2
      have g1c3 : wx.cell? ⟨g1, 3, none⟩ = some (.int .i64 0) := blk_cell k1 3
      have g1c4 : wx.cell? ⟨g1, 4, none⟩ = some (.int .i64 0) := blk_cell k1 4
      have g1c5 : wx.cell? ⟨g1, 5, none⟩ = some (.int .i64 0) := blk_cell k1 5
      have g1c6 : wx.cell? ⟨g1, 6, none⟩ = some (.int .i64 0) := blk_cell k1 6
      have g1c7 : wx.cell? ⟨g1, 7, none⟩ = some (.int .i64 0) := blk_cell k1 7
      have g1c8 : wx.cell? ⟨g1, 8, none⟩ = some (.slice none 0 0) := blk_cell k1 8
      have g1f : wx.frozen? ⟨g1, 8, none⟩ = false := blk_frozen k1 8
      have g2c0 : wx.cell? ⟨g2, 0, none⟩ = some (.int .i64 1) := blk_cell k2 0
      have g2c1 : wx.cell? ⟨g2, 1, none⟩ = some (.int .i64 ST) := blk_cell k2 1
      have g2c2 : wx.cell? ⟨g2, 2, none⟩ = some (.int .i64 RT) := blk_cell k2 2
      have g2c3 : wx.cell? ⟨g2, 3, none⟩ = some (.int .i64 0) := blk_cell k2 3
      have g2c4 : wx.cell? ⟨g2, 4, none⟩ = some (.int .i64 0) := blk_cell k2 4
      have g2c5 : wx.cell? ⟨g2, 5, none⟩ = some (.int .i64 0) := blk_cell k2 5
      have g2c6 : wx.cell? ⟨g2, 6, none⟩ = some (.int .i64 0) := blk_cell k2 6
      have g2c7 : wx.cell? ⟨g2, 7, none⟩ = some (.int .i64 0) := blk_cell k2 7
      have g2c8 : wx.cell? ⟨g2, 8, none⟩ = some (.slice none 0 0) := blk_cell k2 8
      have g2f : wx.frozen? ⟨g2, 8, none⟩ = false := blk_frozen k2 8
      go_upto_region 7 with fail
      obtain ⟨w7, hw7⟩ : ∃ w7, (((((wx.setCell ⟨g1, 8, none⟩ (.slice (some ⟨wx.heap.size, 0, none⟩) 1 1)).setCell ⟨g2, 8, none⟩ (.slice (some ⟨wx.heap.size + 1, 0, none⟩) 1 1)).alloc (.cells #[.int .i64 2, .int .i64 AT, .int .i64 SZ] 51)).alloc (.cells #[.int .i64 1, .int .i64 AT, .int .i64 SZ] 51)).alloc (.cells #[.int .i64 5, .int .i64 0, .int .i64 5, .int .i64 0, .int .i64 99, .int .i64 99, .int .i64 0, .int .i64 0, .slice none 0 0] 48)) = w7 := ⟨_, rfl⟩
      rw [hw7]
      have kc7 : w7.heap[w5.heap.size]? = some (.cells #[.int .i64 1, .int .i64 ST, .int .i64 RT, .int .i64 0, .int .i64 0, .int .i64 0, .int .i64 0, .int .i64 0, .slice none 0 0] 48 (0, 0)) := by rw [← hw7]; exact al_old (al_old (al_old (blk_far (blk_far (blk_on hB6.out hkc.out) (by have := g3.out; simp; omega) _) (by have := g3.out; simp; omega) _)))
      have k17 : w7.heap[g1]? = some (.cells #[.int .i64 1, .int .i64 ST, .int .i64 RT, .int .i64 0, .int .i64 0, .int .i64 0, .int .i64 0, .int .i64 0, .slice (some ⟨wx.heap.size, 0, none⟩) 1 1] 48 (0, 0)) := by rw [← hw7]; exact al_old (al_old (al_old (blk_far (blk_put k1 8 _ rfl) (by simpa using hne) _)))
      have k27 : w7.heap[g2]? = some (.cells #[.int .i64 1, .int .i64 ST, .int .i64 RT, .int .i64 0, .int .i64 0, .int .i64 0, .int .i64 0, .int .i64 0, .slice (some ⟨wx.heap.size + 1, 0, none⟩) 1 1] 48 (0, 0)) := by rw [← hw7]; exact al_old (al_old (al_old (blk_put (blk_far k2 (by simpa using hne.symm) _) 8 _ rfl)))
      have ke1 : w7.heap[wx.heap.size]? = some (.cells #[.int .i64 2, .int .i64 AT, .int .i64 SZ] 51 (0, 0)) := by rw [← hw7]; exact al_old (al_old (al_new _ _ _ (by simp)))
      have ke2 : w7.heap[wx.heap.size + 1]? = some (.cells #[.int .i64 1, .int .i64 AT, .int .i64 SZ] 51 (0, 0)) := by rw [← hw7]; exact al_old (al_new _ _ _ (by simp))
      have kn : w7.heap[wx.heap.size + 1 + 1]? = some (.cells #[.int .i64 5, .int .i64 0, .int .i64 5, .int .i64 0, .int .i64 99, .int .i64 99, .int .i64 0, .int .i64 0, .slice none 0 0] 48 (0, 0)) := by rw [← hw7]; exact al_new _ _ _ (by simp)
      have hv7 : Below w.heap.size w w7 := by rw [← hw7]; have h1 := hv.size; have h2 := g3.out; exact ((((hv.setCell (by simp; omega) _).setCell (by simp; omega) _).alloc (by simp; omega) _).alloc (by simp; omega) _).alloc (by simp; omega) _
      clear hv hw7 z1 z2 n1 n2 n3 n4 hB6 hkc hc11 g1c0 g1c1 g1c2 g1c3 g1c4 g1c5 g1c6 g1c7 g1c8 g2c0 g2c1 g2c2 g2c3 g2c4 g2c5 g2c6 g2c7 g2c8 g1f g2f k1 k2 c0 c1 c2 c3 c4 c5 c6 c7 c8
      rename Below _ w w7 => hv
      clear hg1 hg2 hne g3
      obtain ⟨e1, he1⟩ : ∃ e, wx.heap.size = e := ⟨_, rfl⟩
      obtain ⟨e2, he2⟩ : ∃ e, wx.heap.size + 1 = e := ⟨_, rfl⟩
      obtain ⟨e3, he3⟩ : ∃ e, wx.heap.size + 1 + 1 = e := ⟨_, rfl⟩
      obtain ⟨e0, he0⟩ : ∃ e, w5.heap.size = e := ⟨_, rfl⟩
      simp only [he3] at kn ⊢
      simp only [he2] at k27 ke2 ⊢
      simp only [he1] at k17 ke1 ⊢
      simp only [he0] at kc7 ⊢
      clear he1 he2 he3 he0
      have a0 : w7.cell? ⟨e0, 0, none⟩ = some (.int .i64 1) := blk_cell kc7 0
      have a1 : w7.cell? ⟨e0, 1, none⟩ = some (.int .i64 ST) := blk_cell kc7 1
      have a2 : w7.cell? ⟨e0, 2, none⟩ = some (.int .i64 RT) := blk_cell kc7 2
      have a3 : w7.cell? ⟨e0, 3, none⟩ = some (.int .i64 0) := blk_cell kc7 3
      have a4 : w7.cell? ⟨e0, 4, none⟩ = some (.int .i64 0) := blk_cell kc7 4
      have a5 : w7.cell? ⟨e0, 5, none⟩ = some (.int .i64 0) := blk_cell kc7 5
      have a6 : w7.cell? ⟨e0, 6, none⟩ = some (.int .i64 0) := blk_cell kc7 6
      have a7 : w7.cell? ⟨e0, 7, none⟩ = some (.int .i64 0) := blk_cell kc7 7
      have a8 : w7.cell? ⟨e0, 8, none⟩ = some (.slice none 0 0) := blk_cell kc7 8
      have az : e0 < w7.heap.size := blk_lt kc7
      have b0 : w7.cell? ⟨g1, 0, none⟩ = some (.int .i64 1) := blk_cell k17 0
      have b1 : w7.cell? ⟨g1, 1, none⟩ = some (.int .i64 ST) := blk_cell k17 1
      have b2 : w7.cell? ⟨g1, 2, none⟩ = some (.int .i64 RT) := blk_cell k17 2
      have b3 : w7.cell? ⟨g1, 3, none⟩ = some (.int .i64 0) := blk_cell k17 3
      have b4 : w7.cell? ⟨g1, 4, none⟩ = some (.int .i64 0) := blk_cell k17 4
      have b5 : w7.cell? ⟨g1, 5, none⟩ = some (.int .i64 0) := blk_cell k17 5
      have b6 : w7.cell? ⟨g1, 6, none⟩ = some (.int .i64 0) := blk_cell k17 6
      have b7 : w7.cell? ⟨g1, 7, none⟩ = some (.int .i64 0) := blk_cell k17 7
      have b8 : w7.cell? ⟨g1, 8, none⟩ = some (.slice (some ⟨e1, 0, none⟩) 1 1) := blk_cell k17 8
      have bz : g1 < w7.heap.size := blk_lt k17
      have d0 : w7.cell? ⟨g2, 0, none⟩ = some (.int .i64 1) := blk_cell k27 0
      have d1 : w7.cell? ⟨g2, 1, none⟩ = some (.int .i64 ST) := blk_cell k27 1
      have d2 : w7.cell? ⟨g2, 2, none⟩ = some (.int .i64 RT) := blk_cell k27 2
      have d3 : w7.cell? ⟨g2, 3, none⟩ = some (.int .i64 0) := blk_cell k27 3
      have d4 : w7.cell? ⟨g2, 4, none⟩ = some (.int .i64 0) := blk_cell k27 4
      have d5 : w7.cell? ⟨g2, 5, none⟩ = some (.int .i64 0) := blk_cell k27 5
      have d6 : w7.cell? ⟨g2, 6, none⟩ = some (.int .i64 0) := blk_cell k27 6
      have d7 : w7.cell? ⟨g2, 7, none⟩ = some (.int .i64 0) := blk_cell k27 7
      have d8 : w7.cell? ⟨g2, 8, none⟩ = some (.slice (some ⟨e2, 0, none⟩) 1 1) := blk_cell k27 8
      have dz : g2 < w7.heap.size := blk_lt k27
      have n0 : w7.cell? ⟨e3, 0, none⟩ = some (.int .i64 5) := blk_cell kn 0
      have n1 : w7.cell? ⟨e3, 1, none⟩ = some (.int .i64 0) := blk_cell kn 1
      have n2 : w7.cell? ⟨e3, 2, none⟩ = some (.int .i64 5) := blk_cell kn 2
      have n3 : w7.cell? ⟨e3, 3, none⟩ = some (.int .i64 0) := blk_cell kn 3
      have n4 : w7.cell? ⟨e3, 4, none⟩ = some (.int .i64 99) := blk_cell kn 4
      have n5 : w7.cell? ⟨e3, 5, none⟩ = some (.int .i64 99) := blk_cell kn 5
      have n6 : w7.cell? ⟨e3, 6, none⟩ = some (.int .i64 0) := blk_cell kn 6
      have n7 : w7.cell? ⟨e3, 7, none⟩ = some (.int .i64 0) := blk_cell kn 7
      have n8 : w7.cell? ⟨e3, 8, none⟩ = some (.slice none 0 0) := blk_cell kn 8
      have nz : e3 < w7.heap.size := blk_lt kn
      have hl7 := Aside0.mk (show e1 < w7.heap.size ∧ e2 < w7.heap.size ∧ w.heap.size ≤ w7.heap.size from ⟨blk_lt ke1, blk_lt ke2, hv.size⟩)
      clear kc7 k17 k27 kn
      go_upto_region 8 with fail
      clear az bz dz nz a0 a1 a2 a3 a4 a5 a6 a7 a8 b0 b1 b2 b3 b4 b5 b6 b7 b8 d0 d1 d2 d3 d4 d5 d6 d7 d8 n0 n1 n2 n3 n4 n5 n6 n7 n8
      obtain ⟨w8, hw8⟩ : ∃ w8, ((w7.alloc (.cells #[.int .i64 0, .int .i64 0, .int .i64 2] 53)).alloc (.cells #[.int .i64 1, .int .i64 ST, .int .i64 RT, .int .i64 0, .int .i64 0, .int .i64 0, .int .i64 0, .int .i64 0, .slice none 0 0, .int .i64 1, .int .i64 ST, .int .i64 RT, .int .i64 0, .int .i64 0, .int .i64 0, .int .i64 0, .int .i64 0, .slice (some ⟨e1, 0, none⟩) 1 1, .int .i64 1, .int .i64 ST, .int .i64 RT, .int .i64 0, .int .i64 0, .int .i64 0, .int .i64 0, .int .i64 0, .slice (some ⟨e2, 0, none⟩) 1 1, .int .i64 5, .int .i64 0, .int .i64 5, .int .i64 0, .int .i64 99, .int .i64 99, .int .i64 0, .int .i64 0, .slice none 0 0] 48)).alloc (.cells #[.int .u64 S, .slice (some ⟨w7.heap.size, 0, none⟩) 1 1, .slice (some ⟨w7.heap.size + 1, 0, none⟩) 4 4] 32) = w8 := ⟨_, rfl⟩
      try rw [hw8]
      have hB : Below w7.heap.size w7 w8 := by rw [← hw8]; exact (((Below.refl _ w7).alloc (by first | exact Nat.le_refl _ | (simp; done) | (simp; omega)) _).alloc (by first | exact Nat.le_refl _ | (simp; done) | (simp; omega)) _).alloc (by first | exact Nat.le_refl _ | (simp; done) | (simp; omega)) _
      have kh : w8.heap[w7.heap.size]? = some (.cells #[.int .i64 0, .int .i64 0, .int .i64 2] 53 (0, 0)) := by rw [← hw8]; exact al_old (al_old (al_new _ _ _ (by first | rfl | (simp; done) | (simp; omega))))
      have h0 : w8.cell? ⟨w7.heap.size, 0, none⟩ = some (.int .i64 0) := blk_cell kh 0
      have h1 : w8.cell? ⟨w7.heap.size, 1, none⟩ = some (.int .i64 0) := blk_cell kh 1
      have h2 : w8.cell? ⟨w7.heap.size, 2, none⟩ = some (.int .i64 2) := blk_cell kh 2
      have ky : w8.heap[w7.heap.size + 1]? = some (.cells #[.int .i64 1, .int .i64 ST, .int .i64 RT, .int .i64 0, .int .i64 0, .int .i64 0, .int .i64 0, .int .i64 0, .slice none 0 0, .int .i64 1, .int .i64 ST, .int .i64 RT, .int .i64 0, .int .i64 0, .int .i64 0, .int .i64 0, .int .i64 0, .slice (some ⟨e1, 0, none⟩) 1 1, .int .i64 1, .int .i64 ST, .int .i64 RT, .int .i64 0, .int .i64 0, .int .i64 0, .int .i64 0, .int .i64 0, .slice (some ⟨e2, 0, none⟩) 1 1, .int .i64 5, .int .i64 0, .int .i64 5, .int .i64 0, .int .i64 99, .int .i64 99, .int .i64 0, .int .i64 0, .slice none 0 0] 48 (0, 0)) := by rw [← hw8]; exact al_old (al_new _ _ _ (by first | rfl | (simp; done) | (simp; omega)))
      have y0 : w8.cell? ⟨w7.heap.size + 1, 0, none⟩ = some (.int .i64 1) := blk_cell ky 0
      have y1 : w8.cell? ⟨w7.heap.size + 1, 1, none⟩ = some (.int .i64 ST) := blk_cell ky 1
      have y2 : w8.cell? ⟨w7.heap.size + 1, 2, none⟩ = some (.int .i64 RT) := blk_cell ky 2
      have y3 : w8.cell? ⟨w7.heap.size + 1, 3, none⟩ = some (.int .i64 0) := blk_cell ky 3
      have y4 : w8.cell? ⟨w7.heap.size + 1, 4, none⟩ = some (.int .i64 0) := blk_cell ky 4
      have y5 : w8.cell? ⟨w7.heap.size + 1, 5, none⟩ = some (.int .i64 0) := blk_cell ky 5
      have y6 : w8.cell? ⟨w7.heap.size + 1, 6, none⟩ = some (.int .i64 0) := blk_cell ky 6
      have y7 : w8.cell? ⟨w7.heap.size + 1, 7, none⟩ = some (.int .i64 0) := blk_cell ky 7
      have y8 : w8.cell? ⟨w7.heap.size + 1, 8, none⟩ = some (.slice none 0 0) := blk_cell ky 8
      have y9 : w8.cell? ⟨w7.heap.size + 1, 9, none⟩ = some (.int .i64 1) := blk_cell ky 9
      have y10 : w8.cell? ⟨w7.heap.size + 1, 10, none⟩ = some (.int .i64 ST) := blk_cell ky 10
      have y11 : w8.cell? ⟨w7.heap.size + 1, 11, none⟩ = some (.int .i64 RT) := blk_cell ky 11
      have y12 : w8.cell? ⟨w7.heap.size + 1, 12, none⟩ = some (.int .i64 0) := blk_cell ky 12
      have y13 : w8.cell? ⟨w7.heap.size + 1, 13, none⟩ = some (.int .i64 0) := blk_cell ky 13
      have y14 : w8.cell? ⟨w7.heap.size + 1, 14, none⟩ = some (.int .i64 0) := blk_cell ky 14
      have y15 : w8.cell? ⟨w7.heap.size + 1, 15, none⟩ = some (.int .i64 0) := blk_cell ky 15
      have y16 : w8.cell? ⟨w7.heap.size + 1, 16, none⟩ = some (.int .i64 0) := blk_cell ky 16
      have y17 : w8.cell? ⟨w7.heap.size + 1, 17, none⟩ = some (.slice (some ⟨e1, 0, none⟩) 1 1) := blk_cell ky 17
      have y18 : w8.cell? ⟨w7.heap.size + 1, 18, none⟩ = some (.int .i64 1) := blk_cell ky 18
      have y19 : w8.cell? ⟨w7.heap.size + 1, 19, none⟩ = some (.int .i64 ST) := blk_cell ky 19
      have y20 : w8.cell? ⟨w7.heap.size + 1, 20, none⟩ = some (.int .i64 RT) := blk_cell ky 20
      have y21 : w8.cell? ⟨w7.heap.size + 1, 21, none⟩ = some (.int .i64 0) := blk_cell ky 21
      have y22 : w8.cell? ⟨w7.heap.size + 1, 22, none⟩ = some (.int .i64 0) := blk_cell ky 22
      have y23 : w8.cell? ⟨w7.heap.size + 1, 23, none⟩ = some (.int .i64 0) := blk_cell ky 23
      have y24 : w8.cell? ⟨w7.heap.size + 1, 24, none⟩ = some (.int .i64 0) := blk_cell ky 24
      have y25 : w8.cell? ⟨w7.heap.size + 1, 25, none⟩ = some (.int .i64 0) := blk_cell ky 25
      have y26 : w8.cell? ⟨w7.heap.size + 1, 26, none⟩ = some (.slice (some ⟨e2, 0, none⟩) 1 1) := blk_cell ky 26
      have y27 : w8.cell? ⟨w7.heap.size + 1, 27, none⟩ = some (.int .i64 5) := blk_cell ky 27
      have y28 : w8.cell? ⟨w7.heap.size + 1, 28, none⟩ = some (.int .i64 0) := blk_cell ky 28
      have y29 : w8.cell? ⟨w7.heap.size + 1, 29, none⟩ = some (.int .i64 5) := blk_cell ky 29
      have y30 : w8.cell? ⟨w7.heap.size + 1, 30, none⟩ = some (.int .i64 0) := blk_cell ky 30
      have y31 : w8.cell? ⟨w7.heap.size + 1, 31, none⟩ = some (.int .i64 99) := blk_cell ky 31
      have y32 : w8.cell? ⟨w7.heap.size + 1, 32, none⟩ = some (.int .i64 99) := blk_cell ky 32
      have y33 : w8.cell? ⟨w7.heap.size + 1, 33, none⟩ = some (.int .i64 0) := blk_cell ky 33
      have y34 : w8.cell? ⟨w7.heap.size + 1, 34, none⟩ = some (.int .i64 0) := blk_cell ky 34
      have y35 : w8.cell? ⟨w7.heap.size + 1, 35, none⟩ = some (.slice none 0 0) := blk_cell ky 35
      have kx : w8.heap[w7.heap.size + 1 + 1]? = some (.cells #[.int .u64 S, .slice (some ⟨w7.heap.size, 0, none⟩) 1 1, .slice (some ⟨w7.heap.size + 1, 0, none⟩) 4 4] 32 (0, 0)) := by rw [← hw8]; exact al_new _ _ _ (by first | rfl | (simp; done) | (simp; omega))
      have x0 : w8.cell? ⟨w7.heap.size + 1 + 1, 0, none⟩ = some (.int .u64 S) := blk_cell kx 0
      have x1 : w8.cell? ⟨w7.heap.size + 1 + 1, 1, none⟩ = some (.slice (some ⟨w7.heap.size, 0, none⟩) 1 1) := blk_cell kx 1
      have x2 : w8.cell? ⟨w7.heap.size + 1 + 1, 2, none⟩ = some (.slice (some ⟨w7.heap.size + 1, 0, none⟩) 4 4) := blk_cell kx 2
      replace ke1 := blk_on hB ke1
      replace ke2 := blk_on hB ke2
      replace hv := hv.trans (hB.mono hv.size)
      clear hB hw8
      clear h0 h1 h2 y0 y1 y2 y3 y4 y5 y6 y7 y8 y9 y10 y11 y12 y13 y14 y15 y16 y17 y18 y19 y20 y21 y22 y23 y24 y25 y26 y27 y28 y29 y30 y31 y32 y33 y34 y35 x0 x1 x2
      obtain ⟨m1, hf1⟩ : ∃ f, w7.heap.size = f := ⟨_, rfl⟩
      obtain ⟨m2, hf2⟩ : ∃ f, w7.heap.size + 1 = f := ⟨_, rfl⟩
      obtain ⟨m3, hf3⟩ : ∃ f, w7.heap.size + 1 + 1 = f := ⟨_, rfl⟩
      have HF := Aside0.mk (show m1 ≠ m2 ∧ m1 ≠ m3 ∧ m2 ≠ m3 ∧ e1 ≠ m1 ∧ e1 ≠ m2 ∧ e1 ≠ m3 ∧ e2 ≠ m1 ∧ e2 ≠ m2 ∧ e2 ≠ m3 ∧ w.heap.size ≤ m2 ∧ w.heap.size ≤ m3 from by have := hl7.out; omega)
      simp only [hf3] at kx ⊢
      simp only [hf2] at ky kx ⊢
      simp only [hf1] at kh kx ⊢
      clear hf1 hf2 hf3 hl7
      have x0 : w8.cell? ⟨m3, 0, none⟩ = some (.int .u64 S) := blk_cell kx 0
      have x1 : w8.cell? ⟨m3, 1, none⟩ = some (.slice (some ⟨m1, 0, none⟩) 1 1) := blk_cell kx 1
      have x2 : w8.cell? ⟨m3, 2, none⟩ = some (.slice (some ⟨m2, 0, none⟩) 4 4) := blk_cell kx 2
      have hA : WAt 51 w8 (some ⟨m1, 0, none⟩) (some ⟨m2, 0, none⟩) CH0 (ckX ST RT AT SZ ckN) := exact_world w8 ckN [.int .i64 5, .int .i64 0, .int .i64 5, .int .i64 0, .int .i64 99, .int .i64 99, .int .i64 0, .int .i64 0, .slice none 0 0] (ck_K ckN none 0 (by simp) (C_nil _ _)) ke1 ke2 kh rfl ky
      go_wp2_with fail
      refine (p1 _ _ _ hv hA).mono ?_
      rintro en w9 ⟨rfl, hB⟩
      replace ke1 := blk_on hB ke1
      replace ke2 := blk_on hB ke2
      replace kh := blk_on hB kh
      replace ky := blk_on hB ky
      replace kx := blk_on hB kx
      replace x0 := cell_on hB x0
      replace x1 := cell_on hB x1
      replace x2 := cell_on hB x2
      replace hv := hv.trans (hB.mono hv.size)
      replace hA := hA.below hB
      clear hB p1
      go_wp2_with fail
      refine (p2 _ _ _ hv hA).mono ?_
      rintro en w10 ⟨rfl, hB⟩
      replace ke1 := blk_on hB ke1
      replace ke2 := blk_on hB ke2
      replace kh := blk_on hB kh
      replace ky := blk_on hB ky
      replace kx := blk_on hB kx
      replace x0 := cell_on hB x0
      replace x1 := cell_on hB x1
      replace x2 := cell_on hB x2
      replace hv := hv.trans (hB.mono hv.size)
      replace hA := hA.below hB
      clear hB p2
      go_wp2_with fail
      refine (p3 _ _ _ hv hA).mono ?_
      rintro en w11 ⟨rfl, hB⟩
      replace ke1 := blk_on hB ke1
      replace ke2 := blk_on hB ke2
      replace kh := blk_on hB kh
      replace ky := blk_on hB ky
      replace kx := blk_on hB kx
      replace x0 := cell_on hB x0
      replace x1 := cell_on hB x1
      replace x2 := cell_on hB x2
      replace hv := hv.trans (hB.mono hv.size)
      replace hA := hA.below hB
      clear hB p3
      clear hA
      have y27 : w11.cell? ⟨m2, 27, none⟩ = some (.int .i64 5) := blk_cell ky 27
      have yf27 : w11.frozen? ⟨m2, 27, none⟩ = false := blk_frozen ky 27
      have y28 : w11.cell? ⟨m2, 28, none⟩ = some (.int .i64 0) := blk_cell ky 28
      have yf28 : w11.frozen? ⟨m2, 28, none⟩ = false := blk_frozen ky 28
      have y29 : w11.cell? ⟨m2, 29, none⟩ = some (.int .i64 5) := blk_cell ky 29
      have yf29 : w11.frozen? ⟨m2, 29, none⟩ = false := blk_frozen ky 29
      have y30 : w11.cell? ⟨m2, 30, none⟩ = some (.int .i64 0) := blk_cell ky 30
      have yf30 : w11.frozen? ⟨m2, 30, none⟩ = false := blk_frozen ky 30
      have y31 : w11.cell? ⟨m2, 31, none⟩ = some (.int .i64 99) := blk_cell ky 31
      have yf31 : w11.frozen? ⟨m2, 31, none⟩ = false := blk_frozen ky 31
      have y32 : w11.cell? ⟨m2, 32, none⟩ = some (.int .i64 99) := blk_cell ky 32
      have yf32 : w11.frozen? ⟨m2, 32, none⟩ = false := blk_frozen ky 32
      have y33 : w11.cell? ⟨m2, 33, none⟩ = some (.int .i64 0) := blk_cell ky 33
      have yf33 : w11.frozen? ⟨m2, 33, none⟩ = false := blk_frozen ky 33
      have y34 : w11.cell? ⟨m2, 34, none⟩ = some (.int .i64 0) := blk_cell ky 34
      have yf34 : w11.frozen? ⟨m2, 34, none⟩ = false := blk_frozen ky 34
      have y35 : w11.cell? ⟨m2, 35, none⟩ = some (.slice none 0 0) := blk_cell ky 35
      have yf35 : w11.frozen? ⟨m2, 35, none⟩ = false := blk_frozen ky 35
      have xf : w11.frozen? ⟨m3, 0, none⟩ = false := blk_frozen kx 0
      have ff : ¬ m3 = m2 := fun h => HF.out.2.2.1 h.symm
      have ff2 : ¬ m2 = m3 := HF.out.2.2.1
      go_upto_region 12 with fail
      obtain ⟨w12, hw12⟩ : ∃ w', (((((((((w11.setCell ⟨m2, 27, none⟩ (.int .i64 4)).setCell ⟨m2, 28, none⟩ (.int .i64 0)).setCell ⟨m2, 29, none⟩ (.int .i64 0)).setCell ⟨m2, 30, none⟩ (.int .i64 0)).setCell ⟨m2, 31, none⟩ (.int .i64 0)).setCell ⟨m2, 32, none⟩ (.int .i64 0)).setCell ⟨m2, 33, none⟩ (.int .i64 0)).setCell ⟨m2, 34, none⟩ (.int .i64 0)).setCell ⟨m2, 35, none⟩ (.slice none 0 0)).setCell ⟨m3, 0, none⟩ (.int .u64 1) = w' := ⟨_, rfl⟩
      rw [hw12]
      have ke1' := ke1
      have ke2' := ke2
      replace ke1 : w12.heap[e1]? = some (.cells #[.int .i64 2, .int .i64 AT, .int .i64 SZ] 51 (0, 0)) := by rw [← hw12]; exact blk_far (blk_far (blk_far (blk_far (blk_far (blk_far (blk_far (blk_far (blk_far (blk_far ke1 (by simpa using HF.out.2.2.2.2.1) _) (by simpa using HF.out.2.2.2.2.1) _) (by simpa using HF.out.2.2.2.2.1) _) (by simpa using HF.out.2.2.2.2.1) _) (by simpa using HF.out.2.2.2.2.1) _) (by simpa using HF.out.2.2.2.2.1) _) (by simpa using HF.out.2.2.2.2.1) _) (by simpa using HF.out.2.2.2.2.1) _) (by simpa using HF.out.2.2.2.2.1) _) (by simpa using HF.out.2.2.2.2.2.1) _
      replace ke2 : w12.heap[e2]? = some (.cells #[.int .i64 1, .int .i64 AT, .int .i64 SZ] 51 (0, 0)) := by rw [← hw12]; exact blk_far (blk_far (blk_far (blk_far (blk_far (blk_far (blk_far (blk_far (blk_far (blk_far ke2 (by simpa using HF.out.2.2.2.2.2.2.2.1) _) (by simpa using HF.out.2.2.2.2.2.2.2.1) _) (by simpa using HF.out.2.2.2.2.2.2.2.1) _) (by simpa using HF.out.2.2.2.2.2.2.2.1) _) (by simpa using HF.out.2.2.2.2.2.2.2.1) _) (by simpa using HF.out.2.2.2.2.2.2.2.1) _) (by simpa using HF.out.2.2.2.2.2.2.2.1) _) (by simpa using HF.out.2.2.2.2.2.2.2.1) _) (by simpa using HF.out.2.2.2.2.2.2.2.1) _) (by simpa using HF.out.2.2.2.2.2.2.2.2.1) _
      replace kh : w12.heap[m1]? = some (.cells #[.int .i64 0, .int .i64 0, .int .i64 2] 53 (0, 0)) := by rw [← hw12]; exact blk_far (blk_far (blk_far (blk_far (blk_far (blk_far (blk_far (blk_far (blk_far (blk_far kh (by simpa using HF.out.1) _) (by simpa using HF.out.1) _) (by simpa using HF.out.1) _) (by simpa using HF.out.1) _) (by simpa using HF.out.1) _) (by simpa using HF.out.1) _) (by simpa using HF.out.1) _) (by simpa using HF.out.1) _) (by simpa using HF.out.1) _) (by simpa using HF.out.2.1) _
      have k9 := put9 (w := w11) (g := m2) (t := 48) ([.int .i64 1, .int .i64 ST, .int .i64 RT, .int .i64 0, .int .i64 0, .int .i64 0, .int .i64 0, .int .i64 0, .slice none 0 0, .int .i64 1, .int .i64 ST, .int .i64 RT, .int .i64 0, .int .i64 0, .int .i64 0, .int .i64 0, .int .i64 0, .slice (some ⟨e1, 0, none⟩) 1 1, .int .i64 1, .int .i64 ST, .int .i64 RT, .int .i64 0, .int .i64 0, .int .i64 0, .int .i64 0, .int .i64 0, .slice (some ⟨e2, 0, none⟩) 1 1] : List Value) (.int .i64 5) (.int .i64 0) (.int .i64 5) (.int .i64 0) (.int .i64 99) (.int .i64 99) (.int .i64 0) (.int .i64 0) (.slice none 0 0) (.int .i64 4) (.int .i64 0) (.int .i64 0) (.int .i64 0) (.int .i64 0) (.int .i64 0) (.int .i64 0) (.int .i64 0) (.slice none 0 0) 27 rfl ky
      replace ky : w12.heap[m2]? = some (.cells #[.int .i64 1, .int .i64 ST, .int .i64 RT, .int .i64 0, .int .i64 0, .int .i64 0, .int .i64 0, .int .i64 0, .slice none 0 0, .int .i64 1, .int .i64 ST, .int .i64 RT, .int .i64 0, .int .i64 0, .int .i64 0, .int .i64 0, .int .i64 0, .slice (some ⟨e1, 0, none⟩) 1 1, .int .i64 1, .int .i64 ST, .int .i64 RT, .int .i64 0, .int .i64 0, .int .i64 0, .int .i64 0, .int .i64 0, .slice (some ⟨e2, 0, none⟩) 1 1, .int .i64 4, .int .i64 0, .int .i64 0, .int .i64 0, .int .i64 0, .int .i64 0, .int .i64 0, .int .i64 0, .slice none 0 0] 48 (0, 0)) := by rw [← hw12]; exact blk_far k9 (by simpa using HF.out.2.2.1) _
      clear k9
      replace kx : w12.heap[m3]? = some (.cells #[.int .u64 1, .slice (some ⟨m1, 0, none⟩) 1 1, .slice (some ⟨m2, 0, none⟩) 4 4] 32 (0, 0)) := by rw [← hw12]; exact blk_put (blk_far (blk_far (blk_far (blk_far (blk_far (blk_far (blk_far (blk_far (blk_far kx (by simpa using ff) _) (by simpa using ff) _) (by simpa using ff) _) (by simpa using ff) _) (by simpa using ff) _) (by simpa using ff) _) (by simpa using ff) _) (by simpa using ff) _) (by simpa using ff) _) 0 _ rfl
      have hv12 : Below w.heap.size w w12 := by rw [← hw12]; have h1 := HF.out.2.2.2.2.2.2.2.2.2; exact (((((((((hv.setCell (by simp; omega) _).setCell (by simp; omega) _).setCell (by simp; omega) _).setCell (by simp; omega) _).setCell (by simp; omega) _).setCell (by simp; omega) _).setCell (by simp; omega) _).setCell (by simp; omega) _).setCell (by simp; omega) _).setCell (by simp; omega) _
      clear hw12 hv xf ff ff2 x0 x1 x2 ke1' ke2' y27 yf27 y28 yf28 y29 yf29 y30 yf30 y31 yf31 y32 yf32 y33 yf33 y34 yf34 y35 yf35
      rename Below _ w w12 => hv
      have x0 : w12.cell? ⟨m3, 0, none⟩ = some (.int .u64 1) := blk_cell kx 0
      have x1 : w12.cell? ⟨m3, 1, none⟩ = some (.slice (some ⟨m1, 0, none⟩) 1 1) := blk_cell kx 1
      have x2 : w12.cell? ⟨m3, 2, none⟩ = some (.slice (some ⟨m2, 0, none⟩) 4 4) := blk_cell kx 2
      have hA : WAt 51 w12 (some ⟨m1, 0, none⟩) (some ⟨m2, 0, none⟩) CH0 (ckX ST RT AT SZ ckI) := exact_world w12 ckI [.int .i64 4, .int .i64 0, .int .i64 0, .int .i64 0, .int .i64 0, .int .i64 0, .int .i64 0, .int .i64 0, .slice none 0 0] (ck_K ckI none 0 (by simp) (C_nil _ _)) ke1 ke2 kh rfl ky
      clear ke1 ke2 kh ky kx
      go_wp2_with fail
      refine (p4 _ _ _ hv hA).mono ?_
      rintro en w13 ⟨rfl, hB⟩
      replace hv := hv.trans (hB.mono hv.size)
      replace hA := hA.below hB
      clear hB p4
      clear hA x0 x1 x2
      go_wp2_with fail
      refine (l1 _).mono ?_
      rintro en w14 ⟨rfl, hB⟩
      replace hv := hv.trans (hB.mono hv.size)
      clear hB
      go_wp2_with fail
      refine (l2 _).mono ?_
      rintro en w15 ⟨rfl, hB⟩
      replace hv := hv.trans (hB.mono hv.size)
      clear hB l2
      go_wp2_with fail
      refine (aw _ hv).mono ?_
      rintro en w16 ⟨rfl, hB⟩
      replace hv := hv.trans (hB.mono hv.size)
      clear hB aw
      go_wp2
      go_ret
      exact ⟨rfl, hv⟩
end Go.Proofs.YtlfnnalepdjagaaDoor.C
