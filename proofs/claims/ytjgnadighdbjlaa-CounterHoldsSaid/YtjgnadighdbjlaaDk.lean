/- CounterHolds: the law's walk. -/
import Derived.OwnWalk
import Derived.Deep.CutRange
import Derived.Test.YtjgnadighdbjlaaDi
import Derived.Deep.RegionHeld3
import Derived.Test.YtjgnadighdbjlaaDj
namespace Go.Proofs.Ytjgnadighdbjlaa.C
open Go.RowKit Go.Shelf Go.Maps Go.Proofs.YtjgnadighdbjlaaW.PrintWords Go.Proofs.YtjgnadighdbjlaaW.PrintLast Go.Proofs.YtjgnadighdbjlaaW.PrintMore
set_option linter.unusedVariables false
set_option linter.unusedSimpArgs false
attribute [local go_sem high] max2_m min2_m
/-- What is shown at a second and a difference that are made right. -/
theorem holds_show {F O J G R D I seed s d : Int} (hk : okC F O J G R D I = true) (hs : 0 ≤ s ∧ s ≤ 1000000 ∧ s % D = 0) (hd : -1000000000000000 ≤ d ∧ d ≤ 1000000000000000) : showR F O J G R D I seed s d = (showF F O J G R I seed s d, 0) := by
  unfold showR
  rw [if_pos hk, if_pos (by unfold readyF; simp; omega), if_pos (by unfold inB; simp; omega)]
theorem holds_res {F O J G R D I seed s d lo hi : Int} (hk : okC F O J G R D I = true) (hl : lo ≤ d) (hh : d ≤ hi) (hl2 : -1000000000000000 ≤ lo) (hh2 : hi ≤ 1000000000000000) :
    (∃ a b : Int, resolveR F O J G R D I (showF F O J G R I seed s d) lo hi = .tuple #[.agg #[.int .i64 a, .int .i64 b], .int .i64 0] ∧ a ≤ d ∧ d ≤ b ∧ lo ≤ a ∧ b ≤ hi) ∨ resolveR F O J G R D I (showF F O J G R I seed s d) lo hi = .tuple #[.agg #[.int .i64 0, .int .i64 0], .int .i64 8] := by
  have HK := CtrOk.of hk
  have hF := HK.f
  have hR := HK.r
  obtain ⟨k, x, h1, h2, h3, h4, h5, h6⟩ := show_err (seed := seed) (s := s) (d := d) HK
  unfold resolveR
  rw [if_pos hk, if_pos (by unfold shownF inB; simp; omega), if_pos (by omega)]
  exact res_holds hF.1 hR.1 ⟨h2, h3⟩ h1 hl hh _ (by omega)
set_option maxHeartbeats 8000000 in
set_option maxRecDepth 100000 in
theorem holds_calls (F O J G R D I seed s d below above : Int) (w : World) :
    Calls Try.prog 4 #[.agg #[.int .i64 F, .int .i64 O, .int .i64 J, .int .i64 G, .int .i64 R, .int .i64 D, .int .i64 I], .int .u64 seed, .int .i64 s, .int .i64 d, .int .i64 below, .int .i64 above] w fun e w' => e = .returned (.bool true) ∧ Below w.heap.size w w' := by
  have hv := Below.refl w.heap.size w
  have caw := fun w => awake_calls w
  have c1 := fun w => Check_calls F O J G R D I w
  cases hk : okC F O J G R D I
  · rw [hk, if_neg (by simp)] at c1
    go_enter Try.func4, Try.ntmps4
    go_wp2_with fail
    obtain ⟨w1, hw1⟩ : ∃ w1, (w.alloc (.cells #[.int .i64 F, .int .i64 O, .int .i64 J, .int .i64 G, .int .i64 R, .int .i64 D, .int .i64 I] 49)).alloc (.cells #[.int .i64 F, .int .i64 O, .int .i64 J, .int .i64 G, .int .i64 R, .int .i64 D, .int .i64 I] 51) = w1 := ⟨_, rfl⟩
    try rw [hw1]
    have hB : Below w.heap.size w w1 := by rw [← hw1]; exact ((Below.refl _ w).alloc (by first | exact Nat.le_refl _ | (simp; done) | (simp; omega)) _).alloc (by first | exact Nat.le_refl _ | (simp; done) | (simp; omega)) _
    have kx : w1.heap[w.heap.size]? = some (.cells #[.int .i64 F, .int .i64 O, .int .i64 J, .int .i64 G, .int .i64 R, .int .i64 D, .int .i64 I] 49 (0, 0)) := by rw [← hw1]; exact al_old (al_new _ _ _ (by first | rfl | (simp; done) | (simp; omega)))
    have x0 : w1.cell? ⟨w.heap.size, 0, none⟩ = some (.int .i64 F) := blk_cell kx 0
    have x1 : w1.cell? ⟨w.heap.size, 1, none⟩ = some (.int .i64 O) := blk_cell kx 1
    have x2 : w1.cell? ⟨w.heap.size, 2, none⟩ = some (.int .i64 J) := blk_cell kx 2
    have x3 : w1.cell? ⟨w.heap.size, 3, none⟩ = some (.int .i64 G) := blk_cell kx 3
    have x4 : w1.cell? ⟨w.heap.size, 4, none⟩ = some (.int .i64 R) := blk_cell kx 4
    have x5 : w1.cell? ⟨w.heap.size, 5, none⟩ = some (.int .i64 D) := blk_cell kx 5
    have x6 : w1.cell? ⟨w.heap.size, 6, none⟩ = some (.int .i64 I) := blk_cell kx 6
    have ky : w1.heap[w.heap.size + 1]? = some (.cells #[.int .i64 F, .int .i64 O, .int .i64 J, .int .i64 G, .int .i64 R, .int .i64 D, .int .i64 I] 51 (0, 0)) := by rw [← hw1]; exact al_new _ _ _ (by first | rfl | (simp; done) | (simp; omega))
    have y0 : w1.cell? ⟨w.heap.size + 1, 0, none⟩ = some (.int .i64 F) := blk_cell ky 0
    have y1 : w1.cell? ⟨w.heap.size + 1, 1, none⟩ = some (.int .i64 O) := blk_cell ky 1
    have y2 : w1.cell? ⟨w.heap.size + 1, 2, none⟩ = some (.int .i64 J) := blk_cell ky 2
    have y3 : w1.cell? ⟨w.heap.size + 1, 3, none⟩ = some (.int .i64 G) := blk_cell ky 3
    have y4 : w1.cell? ⟨w.heap.size + 1, 4, none⟩ = some (.int .i64 R) := blk_cell ky 4
    have y5 : w1.cell? ⟨w.heap.size + 1, 5, none⟩ = some (.int .i64 D) := blk_cell ky 5
    have y6 : w1.cell? ⟨w.heap.size + 1, 6, none⟩ = some (.int .i64 I) := blk_cell ky 6
    replace hv := hv.trans (hB.mono hv.size)
    clear hB hw1
    have hx := World.block_lt_of_cell? _ _ x0
    refine (c1 _).mono ?_
    rintro en w2 ⟨rfl, hB⟩
    replace x0 := cell_on hB x0
    replace x1 := cell_on hB x1
    replace x2 := cell_on hB x2
    replace x3 := cell_on hB x3
    replace x4 := cell_on hB x4
    replace x5 := cell_on hB x5
    replace x6 := cell_on hB x6
    replace y0 := cell_on hB y0
    replace y1 := cell_on hB y1
    replace y2 := cell_on hB y2
    replace y3 := cell_on hB y3
    replace y4 := cell_on hB y4
    replace y5 := cell_on hB y5
    replace y6 := cell_on hB y6
    replace hv := hv.trans (hB.mono hv.size)
    clear hB c1
    go_wp2_with fail
    refine (caw _).mono ?_
    rintro en w3 ⟨rfl, hB⟩
    replace x0 := cell_on hB x0
    replace x1 := cell_on hB x1
    replace x2 := cell_on hB x2
    replace x3 := cell_on hB x3
    replace x4 := cell_on hB x4
    replace x5 := cell_on hB x5
    replace x6 := cell_on hB x6
    replace y0 := cell_on hB y0
    replace y1 := cell_on hB y1
    replace y2 := cell_on hB y2
    replace y3 := cell_on hB y3
    replace y4 := cell_on hB y4
    replace y5 := cell_on hB y5
    replace y6 := cell_on hB y6
    replace hv := hv.trans (hB.mono hv.size)
    clear hB caw
    go_wp2_with fail
    go_ret
    exact ⟨rfl, hv⟩
  · rw [hk, if_pos rfl] at c1
    have HK := CtrOk.of hk
    have hf := HK.f; have ho := HK.o; have hj := HK.j; have hg := HK.g; have hr := HK.r; have hd := HK.d; have hi := HK.i
    have hev := HK.even
    have hD0 : ¬ D < 1 := by omega
    have hR0 : ¬ R < 2 := by omega
    have hD1 : decide (D < 1) = false := decide_eq_false hD0
    have hR1 : decide (R < 2) = false := decide_eq_false hR0
    have hDz : D ≠ 0 := by omega
    have hDz2 : (D == 0) = false := beq_eq_false_iff_ne.2 hDz
    have tD := Int.tdiv_eq_ediv_of_nonneg (a := 1000000) (by omega) (b := D)
    have q1 := Int.mul_ediv_add_emod 1000000 D
    have q2 := Int.emod_nonneg 1000000 (b := D) (by omega)
    have q3 := Int.emod_lt_of_pos 1000000 (b := D) (by omega)
    obtain ⟨K, hK⟩ : ∃ K, (1000000 : Int) / D = K := ⟨_, rfl⟩
    rw [hK] at tD q1
    have hK0 : 0 ≤ K := by rw [← hK]; exact Int.ediv_nonneg (by omega) (by omega)
    have hK1 : K ≤ 1000000 := by rw [← hK]; exact Int.ediv_le_self _ (by omega)
    have w1 := wr (K + 1) (by omega) (by omega)
    have w0 := wr K (by omega) (by omega)
    have cp1 := fun w => pick_calls s (K + 1) w (by omega) (by omega)
    have p1 := Int.emod_nonneg s (b := K + 1) (by omega)
    have p2 := Int.emod_lt_of_pos s (show 0 < K + 1 by omega)
    obtain ⟨s1, hs1⟩ : ∃ s1, s % (K + 1) = s1 := ⟨_, rfl⟩
    rw [hs1] at p1 p2 cp1
    have m1 : s1 * D ≤ K * D := Int.mul_le_mul_of_nonneg_right (by omega) (by omega)
    have m2 : 0 ≤ s1 * D := Int.mul_nonneg (by omega) (by omega)
    have m3 : K * D ≤ 1000000 := by rw [Int.mul_comm]; omega
    have m4 : s1 * D % D = 0 := Int.mul_emod_left _ _
    have w2 := wr (s1 * D) (by omega) (by omega)
    have td1 := Int.tmod_lt_of_pos d (show (0 : Int) < 1000000000000001 by omega)
    have td2 : -1000000000000001 < d.tmod 1000000000000001 := by
      have h2 := Int.tmod_lt_of_pos (-d) (show (0 : Int) < 1000000000000001 by omega)
      rw [Int.neg_tmod] at h2
      omega
    obtain ⟨δ, hδ⟩ : ∃ δ, d.tmod 1000000000000001 = δ := ⟨_, rfl⟩
    rw [hδ] at td1 td2
    have cp2 := fun w => pick_calls below 1000000000000 w (by omega) (by omega)
    have cp3 := fun w => pick_calls above 1000000000000 w (by omega) (by omega)
    have pb0 := Int.emod_nonneg below (b := 1000000000000) (by omega)
    have pb1 := Int.emod_lt_of_pos below (show (0 : Int) < 1000000000000 by omega)
    have pa0 := Int.emod_nonneg above (b := 1000000000000) (by omega)
    have pa1 := Int.emod_lt_of_pos above (show (0 : Int) < 1000000000000 by omega)
    obtain ⟨pb, hpb⟩ : ∃ x, below % 1000000000000 = x := ⟨_, rfl⟩
    obtain ⟨pa, hpa⟩ : ∃ x, above % 1000000000000 = x := ⟨_, rfl⟩
    rw [hpb] at pb0 pb1 cp2
    rw [hpa] at pa0 pa1 cp3
    have w3 := wr (δ - pb) (by omega) (by omega)
    have w4 := wr (δ + pa) (by omega) (by omega)
    have csh := fun w => Show_calls F O J G R D I seed (s1 * D) δ w
    rw [holds_show hk ⟨by omega, by omega, m4⟩ ⟨by omega, by omega⟩] at csh
    simp only at csh
    obtain ⟨lo, hlo⟩ : ∃ x, max (δ - pb) (-1000000000000000) = x := ⟨_, rfl⟩
    obtain ⟨hi', hhi⟩ : ∃ x, min (δ + pa) 1000000000000000 = x := ⟨_, rfl⟩
    have hlo2 : (if δ - pb < -1000000000000000 then (-1000000000000000 : Int) else δ - pb) = lo := by split <;> omega
    have hhi2 : (if 1000000000000000 < δ + pa then (1000000000000000 : Int) else δ + pa) = hi' := by split <;> omega
    have hld : lo ≤ δ := by omega
    have hdh : δ ≤ hi' := by omega
    have hres := holds_res (seed := seed) (s := s1 * D) (d := δ) (lo := lo) (hi := hi') hk hld hdh (by omega) (by omega)
    obtain ⟨k, x, e1, e2, e3, e4, e5, e6⟩ := show_err (seed := seed) (s := s1 * D) (d := δ) HK
    have crs := fun w => Resolve_calls F O J G R D I (showF F O J G R I seed (s1 * D) δ) lo hi' w
    have hfar := far_ok (R := R) (x := x) (k := k) (e := J + G / 2) hr.1 e2 e3
    have hfd := mul_bound (F := F) (d := δ) (M := 1000000000000000) (by omega) (by omega) (by omega)
    obtain ⟨M, hM⟩ : ∃ M, showF F O J G R I seed (s1 * D) δ = M := ⟨_, rfl⟩
    rw [hM] at csh hres e1 e4 e5 e6 crs
    have hF15 : F * 1000000000000000 ≤ 1000000000000000000 := by omega
    have w5 := wr (F * δ) (by omega) (by omega)
    have w6 := wr (F * δ + O) (by omega) (by omega)
    have w7 := wr (F * δ + O - M) (by omega) (by omega)
    have w8 := wr (J + G / 2) (by omega) (by omega)
    have cp4 := fun w => pick_calls (F * δ + O - M) R w (by omega) (by omega)
    have ex : F * δ + O - M = x + k * R := by omega
    rw [← ex] at hfar
    have pf0 := Int.emod_nonneg (F * δ + O - M) (b := R) (by omega)
    have pf1 := Int.emod_lt_of_pos (F * δ + O - M) (show 0 < R by omega)
    obtain ⟨far, hfr⟩ : ∃ x, (F * δ + O - M) % R = x := ⟨_, rfl⟩
    rw [hfr] at hfar pf0 pf1 cp4
    have w9 := wr (R - far) (by omega) (by omega)
    have wn := wr (-R) (by omega) (by omega)
    have tR := Int.tdiv_eq_ediv_of_nonneg (a := R) (by omega) (b := 2)
    have tRn : (-R).tdiv 2 = -(R / 2) := by rw [Int.neg_tdiv, tR]
    have tG := Int.tdiv_eq_ediv_of_nonneg (a := G) (by omega) (b := 2)
    have tM : M.tmod G = 0 := Int.tmod_eq_zero_of_dvd (Int.dvd_of_emod_eq_zero e4)
    have g1 : ¬ M < -(R / 2) := by omega
    have g2 : ¬ R / 2 ≤ M := by omega
    have wG2 := wr (G / 2) (by omega) (by omega)
    have wR2 := wr (R / 2) (by omega) (by omega)
    have wRn := wr (-(R / 2)) (by omega) (by omega)
    have g1d : decide (M < -(R / 2)) = false := decide_eq_false g1
    have g2d : decide (R / 2 ≤ M) = false := decide_eq_false g2
    have hGz : G ≠ 0 := by omega
    have hGz2 : (G == 0) = false := beq_eq_false_iff_ne.2 hGz
    have HFAR := Aside0.mk hfar
    have HRES := Aside0.mk hres
    have HLO := Aside0.mk hlo
    have HHI := Aside0.mk hhi
    clear q1 q2 q3 hK m1 m3 m4 hs1 hev hpb hpa hM e1 e2 e3 e4 e5 e6 ex hfr hfar hres hk HK hfd hF15 ho hj hg hi hf hld hdh
    go_enter Try.func4, Try.ntmps4
    go_wp2_with fail
    obtain ⟨w100, hw100⟩ : ∃ w100, (w.alloc (.cells #[.int .i64 F, .int .i64 O, .int .i64 J, .int .i64 G, .int .i64 R, .int .i64 D, .int .i64 I] 49)).alloc (.cells #[.int .i64 F, .int .i64 O, .int .i64 J, .int .i64 G, .int .i64 R, .int .i64 D, .int .i64 I] 51) = w100 := ⟨_, rfl⟩
    try rw [hw100]
    have hB : Below w.heap.size w w100 := by rw [← hw100]; exact ((Below.refl _ w).alloc (by first | exact Nat.le_refl _ | (simp; done) | (simp; omega)) _).alloc (by first | exact Nat.le_refl _ | (simp; done) | (simp; omega)) _
    have kx : w100.heap[w.heap.size]? = some (.cells #[.int .i64 F, .int .i64 O, .int .i64 J, .int .i64 G, .int .i64 R, .int .i64 D, .int .i64 I] 49 (0, 0)) := by rw [← hw100]; exact al_old (al_new _ _ _ (by first | rfl | (simp; done) | (simp; omega)))
    have x0 : w100.cell? ⟨w.heap.size, 0, none⟩ = some (.int .i64 F) := blk_cell kx 0
    have x1 : w100.cell? ⟨w.heap.size, 1, none⟩ = some (.int .i64 O) := blk_cell kx 1
    have x2 : w100.cell? ⟨w.heap.size, 2, none⟩ = some (.int .i64 J) := blk_cell kx 2
    have x3 : w100.cell? ⟨w.heap.size, 3, none⟩ = some (.int .i64 G) := blk_cell kx 3
    have x4 : w100.cell? ⟨w.heap.size, 4, none⟩ = some (.int .i64 R) := blk_cell kx 4
    have x5 : w100.cell? ⟨w.heap.size, 5, none⟩ = some (.int .i64 D) := blk_cell kx 5
    have x6 : w100.cell? ⟨w.heap.size, 6, none⟩ = some (.int .i64 I) := blk_cell kx 6
    have ky : w100.heap[w.heap.size + 1]? = some (.cells #[.int .i64 F, .int .i64 O, .int .i64 J, .int .i64 G, .int .i64 R, .int .i64 D, .int .i64 I] 51 (0, 0)) := by rw [← hw100]; exact al_new _ _ _ (by first | rfl | (simp; done) | (simp; omega))
    have y0 : w100.cell? ⟨w.heap.size + 1, 0, none⟩ = some (.int .i64 F) := blk_cell ky 0
    have y1 : w100.cell? ⟨w.heap.size + 1, 1, none⟩ = some (.int .i64 O) := blk_cell ky 1
    have y2 : w100.cell? ⟨w.heap.size + 1, 2, none⟩ = some (.int .i64 J) := blk_cell ky 2
    have y3 : w100.cell? ⟨w.heap.size + 1, 3, none⟩ = some (.int .i64 G) := blk_cell ky 3
    have y4 : w100.cell? ⟨w.heap.size + 1, 4, none⟩ = some (.int .i64 R) := blk_cell ky 4
    have y5 : w100.cell? ⟨w.heap.size + 1, 5, none⟩ = some (.int .i64 D) := blk_cell ky 5
    have y6 : w100.cell? ⟨w.heap.size + 1, 6, none⟩ = some (.int .i64 I) := blk_cell ky 6
    replace hv := hv.trans (hB.mono hv.size)
    clear hB hw100
    have hx := World.block_lt_of_cell? _ _ x0
    refine (c1 _).mono ?_
    rintro en w101 ⟨rfl, hB⟩
    replace x0 := cell_on hB x0
    replace x1 := cell_on hB x1
    replace x2 := cell_on hB x2
    replace x3 := cell_on hB x3
    replace x4 := cell_on hB x4
    replace x5 := cell_on hB x5
    replace x6 := cell_on hB x6
    replace y0 := cell_on hB y0
    replace y1 := cell_on hB y1
    replace y2 := cell_on hB y2
    replace y3 := cell_on hB y3
    replace y4 := cell_on hB y4
    replace y5 := cell_on hB y5
    replace y6 := cell_on hB y6
    replace hv := hv.trans (hB.mono hv.size)
    clear hB c1
    go_wp2_with fail
    have hS : ∀ w', Below w101.heap.size w101 w' → ((w'.cell? ⟨w.heap.size, 0, none⟩ = some (.int .i64 F) ∧ w'.cell? ⟨w.heap.size, 1, none⟩ = some (.int .i64 O) ∧ w'.cell? ⟨w.heap.size, 2, none⟩ = some (.int .i64 J) ∧ w'.cell? ⟨w.heap.size, 3, none⟩ = some (.int .i64 G) ∧ w'.cell? ⟨w.heap.size, 4, none⟩ = some (.int .i64 R) ∧ w'.cell? ⟨w.heap.size, 5, none⟩ = some (.int .i64 D) ∧ w'.cell? ⟨w.heap.size, 6, none⟩ = some (.int .i64 I)) ∧ Below w101.heap.size w101 w') := fun w' hB => ⟨⟨cell_on hB x0, cell_on hB x1, cell_on hB x2, cell_on hB x3, cell_on hB x4, cell_on hB x5, cell_on hB x6⟩, hB⟩
    go_region_held3 (fun w' => (w'.cell? ⟨w.heap.size, 0, none⟩ = some (.int .i64 F) ∧ w'.cell? ⟨w.heap.size, 1, none⟩ = some (.int .i64 O) ∧ w'.cell? ⟨w.heap.size, 2, none⟩ = some (.int .i64 J) ∧ w'.cell? ⟨w.heap.size, 3, none⟩ = some (.int .i64 G) ∧ w'.cell? ⟨w.heap.size, 4, none⟩ = some (.int .i64 R) ∧ w'.cell? ⟨w.heap.size, 5, none⟩ = some (.int .i64 D) ∧ w'.cell? ⟨w.heap.size, 6, none⟩ = some (.int .i64 I)) ∧ Below w101.heap.size w101 w') (first | exact hS _ (Below.refl _ _).drew | assumption | (have hh := ‹(_ ∧ _ ∧ _ ∧ _ ∧ _ ∧ _ ∧ _) ∧ Below w101.heap.size w101 _›; exact hS _ (hh.2.trans (hB.mono hh.2.size))))
      (first | (go_at_call 19; refine (cp1 _).mono ?_; rintro e w' ⟨rfl, hB⟩))
    rename_i hHeld
    have hB := hHeld.2
    clear hHeld hS cp1
    rename World => w99
    replace x0 := cell_on hB x0
    replace x1 := cell_on hB x1
    replace x2 := cell_on hB x2
    replace x3 := cell_on hB x3
    replace x4 := cell_on hB x4
    replace x5 := cell_on hB x5
    replace x6 := cell_on hB x6
    replace y0 := cell_on hB y0
    replace y1 := cell_on hB y1
    replace y2 := cell_on hB y2
    replace y3 := cell_on hB y3
    replace y4 := cell_on hB y4
    replace y5 := cell_on hB y5
    replace y6 := cell_on hB y6
    replace hv := hv.trans (hB.mono hv.size)
    clear hB
    go_wp2_with fail
    refine (cp2 _).mono ?_
    rintro en w102 ⟨rfl, hB⟩
    replace x0 := cell_on hB x0
    replace x1 := cell_on hB x1
    replace x2 := cell_on hB x2
    replace x3 := cell_on hB x3
    replace x4 := cell_on hB x4
    replace x5 := cell_on hB x5
    replace x6 := cell_on hB x6
    replace y0 := cell_on hB y0
    replace y1 := cell_on hB y1
    replace y2 := cell_on hB y2
    replace y3 := cell_on hB y3
    replace y4 := cell_on hB y4
    replace y5 := cell_on hB y5
    replace y6 := cell_on hB y6
    replace hv := hv.trans (hB.mono hv.size)
    clear hB cp2
    go_wp2_with fail
    refine (cp3 _).mono ?_
    rintro en w103 ⟨rfl, hB⟩
    replace x0 := cell_on hB x0
    replace x1 := cell_on hB x1
    replace x2 := cell_on hB x2
    replace x3 := cell_on hB x3
    replace x4 := cell_on hB x4
    replace x5 := cell_on hB x5
    replace x6 := cell_on hB x6
    replace y0 := cell_on hB y0
    replace y1 := cell_on hB y1
    replace y2 := cell_on hB y2
    replace y3 := cell_on hB y3
    replace y4 := cell_on hB y4
    replace y5 := cell_on hB y5
    replace y6 := cell_on hB y6
    replace hv := hv.trans (hB.mono hv.size)
    clear hB cp3
    have hx := World.block_lt_of_cell? _ _ x0
    have hy := World.block_lt_of_cell? _ _ y0
    go_wp2_with fail
    clear hx hy
    obtain ⟨w104, hw104⟩ : ∃ w104, w103.alloc (.cells #[.int .i64 lo, .int .i64 hi'] 43) = w104 := ⟨_, rfl⟩
    try rw [hw104]
    have hB : Below w103.heap.size w103 w104 := by rw [← hw104]; exact (Below.refl _ w103).alloc (by first | exact Nat.le_refl _ | (simp; done) | (simp; omega)) _
    have kp : w104.heap[w103.heap.size]? = some (.cells #[.int .i64 lo, .int .i64 hi'] 43 (0, 0)) := by rw [← hw104]; exact al_new _ _ _ (by first | rfl | (simp; done) | (simp; omega))
    have p0 : w104.cell? ⟨w103.heap.size, 0, none⟩ = some (.int .i64 lo) := blk_cell kp 0
    have p1 : w104.cell? ⟨w103.heap.size, 1, none⟩ = some (.int .i64 hi') := blk_cell kp 1
    clear kp
    replace x0 := cell_on hB x0
    replace x1 := cell_on hB x1
    replace x2 := cell_on hB x2
    replace x3 := cell_on hB x3
    replace x4 := cell_on hB x4
    replace x5 := cell_on hB x5
    replace x6 := cell_on hB x6
    replace y0 := cell_on hB y0
    replace y1 := cell_on hB y1
    replace y2 := cell_on hB y2
    replace y3 := cell_on hB y3
    replace y4 := cell_on hB y4
    replace y5 := cell_on hB y5
    replace y6 := cell_on hB y6
    replace hv := hv.trans (hB.mono hv.size)
    clear hB hw104
    refine (csh _).mono ?_
    rintro en w105 ⟨rfl, hB⟩
    replace x0 := cell_on hB x0
    replace x1 := cell_on hB x1
    replace x2 := cell_on hB x2
    replace x3 := cell_on hB x3
    replace x4 := cell_on hB x4
    replace x5 := cell_on hB x5
    replace x6 := cell_on hB x6
    replace y0 := cell_on hB y0
    replace y1 := cell_on hB y1
    replace y2 := cell_on hB y2
    replace y3 := cell_on hB y3
    replace y4 := cell_on hB y4
    replace y5 := cell_on hB y5
    replace y6 := cell_on hB y6
    replace p0 := cell_on hB p0
    replace p1 := cell_on hB p1
    replace hv := hv.trans (hB.mono hv.size)
    clear hB csh
    go_wp2_with fail
    refine (cp4 _).mono ?_
    rintro en w106 ⟨rfl, hB⟩
    replace x0 := cell_on hB x0
    replace x1 := cell_on hB x1
    replace x2 := cell_on hB x2
    replace x3 := cell_on hB x3
    replace x4 := cell_on hB x4
    replace x5 := cell_on hB x5
    replace x6 := cell_on hB x6
    replace y0 := cell_on hB y0
    replace y1 := cell_on hB y1
    replace y2 := cell_on hB y2
    replace y3 := cell_on hB y3
    replace y4 := cell_on hB y4
    replace y5 := cell_on hB y5
    replace y6 := cell_on hB y6
    replace p0 := cell_on hB p0
    replace p1 := cell_on hB p1
    replace hv := hv.trans (hB.mono hv.size)
    clear hB cp4
    by_cases hf : J + G / 2 < far
    · have hf1 := decide_eq_true hf
      have hf2 : decide (J + G / 2 < R - far) = false := decide_eq_false (by rcases HFAR.out with h | h <;> omega)
      clear hf
      rcases HRES.out with ⟨a, b, er, ha, hb, hla, hbh⟩ | er
      · have da := decide_eq_true ha
        have db := decide_eq_true hb
        have dla := decide_eq_true hla
        have dbh := decide_eq_true hbh
        rw [er] at crs
        go_wp2_with fail
        refine (crs _).mono ?_
        rintro en w107 ⟨rfl, hB⟩
        replace x0 := cell_on hB x0
        replace x1 := cell_on hB x1
        replace x2 := cell_on hB x2
        replace x3 := cell_on hB x3
        replace x4 := cell_on hB x4
        replace x5 := cell_on hB x5
        replace x6 := cell_on hB x6
        replace y0 := cell_on hB y0
        replace y1 := cell_on hB y1
        replace y2 := cell_on hB y2
        replace y3 := cell_on hB y3
        replace y4 := cell_on hB y4
        replace y5 := cell_on hB y5
        replace y6 := cell_on hB y6
        replace p0 := cell_on hB p0
        replace p1 := cell_on hB p1
        replace hv := hv.trans (hB.mono hv.size)
        clear hB crs
        have hx := World.block_lt_of_cell? _ _ x0
        have hp := World.block_lt_of_cell? _ _ p0
        go_wp2_with fail
        clear hx hp
        obtain ⟨w108, hw108⟩ : ∃ w108, w107.alloc (.cells #[.int .i64 a, .int .i64 b] 43) = w108 := ⟨_, rfl⟩
        try rw [hw108]
        have hB : Below w107.heap.size w107 w108 := by rw [← hw108]; exact (Below.refl _ w107).alloc (by first | exact Nat.le_refl _ | (simp; done) | (simp; omega)) _
        have kq : w108.heap[w107.heap.size]? = some (.cells #[.int .i64 a, .int .i64 b] 43 (0, 0)) := by rw [← hw108]; exact al_new _ _ _ (by first | rfl | (simp; done) | (simp; omega))
        have q0 : w108.cell? ⟨w107.heap.size, 0, none⟩ = some (.int .i64 a) := blk_cell kq 0
        have q1 : w108.cell? ⟨w107.heap.size, 1, none⟩ = some (.int .i64 b) := blk_cell kq 1
        clear kq
        replace x0 := cell_on hB x0
        replace x1 := cell_on hB x1
        replace x2 := cell_on hB x2
        replace x3 := cell_on hB x3
        replace x4 := cell_on hB x4
        replace x5 := cell_on hB x5
        replace x6 := cell_on hB x6
        replace y0 := cell_on hB y0
        replace y1 := cell_on hB y1
        replace y2 := cell_on hB y2
        replace y3 := cell_on hB y3
        replace y4 := cell_on hB y4
        replace y5 := cell_on hB y5
        replace y6 := cell_on hB y6
        replace p0 := cell_on hB p0
        replace p1 := cell_on hB p1
        replace hv := hv.trans (hB.mono hv.size)
        clear hB hw108
        go_wp2_with fail
        refine (caw _).mono ?_
        rintro en w109 ⟨rfl, hB⟩
        replace x0 := cell_on hB x0
        replace x1 := cell_on hB x1
        replace x2 := cell_on hB x2
        replace x3 := cell_on hB x3
        replace x4 := cell_on hB x4
        replace x5 := cell_on hB x5
        replace x6 := cell_on hB x6
        replace y0 := cell_on hB y0
        replace y1 := cell_on hB y1
        replace y2 := cell_on hB y2
        replace y3 := cell_on hB y3
        replace y4 := cell_on hB y4
        replace y5 := cell_on hB y5
        replace y6 := cell_on hB y6
        replace p0 := cell_on hB p0
        replace p1 := cell_on hB p1
        replace q0 := cell_on hB q0
        replace q1 := cell_on hB q1
        replace hv := hv.trans (hB.mono hv.size)
        clear hB caw
        go_wp2_with fail
        go_ret
        exact ⟨rfl, hv⟩
      · skip
        rw [er] at crs
        go_wp2_with fail
        refine (crs _).mono ?_
        rintro en w107 ⟨rfl, hB⟩
        replace x0 := cell_on hB x0
        replace x1 := cell_on hB x1
        replace x2 := cell_on hB x2
        replace x3 := cell_on hB x3
        replace x4 := cell_on hB x4
        replace x5 := cell_on hB x5
        replace x6 := cell_on hB x6
        replace y0 := cell_on hB y0
        replace y1 := cell_on hB y1
        replace y2 := cell_on hB y2
        replace y3 := cell_on hB y3
        replace y4 := cell_on hB y4
        replace y5 := cell_on hB y5
        replace y6 := cell_on hB y6
        replace p0 := cell_on hB p0
        replace p1 := cell_on hB p1
        replace hv := hv.trans (hB.mono hv.size)
        clear hB crs
        have hx := World.block_lt_of_cell? _ _ x0
        have hp := World.block_lt_of_cell? _ _ p0
        go_wp2_with fail
        clear hx hp
        obtain ⟨w108, hw108⟩ : ∃ w108, w107.alloc (.cells #[.int .i64 0, .int .i64 0] 43) = w108 := ⟨_, rfl⟩
        try rw [hw108]
        have hB : Below w107.heap.size w107 w108 := by rw [← hw108]; exact (Below.refl _ w107).alloc (by first | exact Nat.le_refl _ | (simp; done) | (simp; omega)) _
        have kq : w108.heap[w107.heap.size]? = some (.cells #[.int .i64 0, .int .i64 0] 43 (0, 0)) := by rw [← hw108]; exact al_new _ _ _ (by first | rfl | (simp; done) | (simp; omega))
        have q0 : w108.cell? ⟨w107.heap.size, 0, none⟩ = some (.int .i64 0) := blk_cell kq 0
        have q1 : w108.cell? ⟨w107.heap.size, 1, none⟩ = some (.int .i64 0) := blk_cell kq 1
        clear kq
        replace x0 := cell_on hB x0
        replace x1 := cell_on hB x1
        replace x2 := cell_on hB x2
        replace x3 := cell_on hB x3
        replace x4 := cell_on hB x4
        replace x5 := cell_on hB x5
        replace x6 := cell_on hB x6
        replace y0 := cell_on hB y0
        replace y1 := cell_on hB y1
        replace y2 := cell_on hB y2
        replace y3 := cell_on hB y3
        replace y4 := cell_on hB y4
        replace y5 := cell_on hB y5
        replace y6 := cell_on hB y6
        replace p0 := cell_on hB p0
        replace p1 := cell_on hB p1
        replace hv := hv.trans (hB.mono hv.size)
        clear hB hw108
        go_wp2_with fail
        refine (caw _).mono ?_
        rintro en w109 ⟨rfl, hB⟩
        replace x0 := cell_on hB x0
        replace x1 := cell_on hB x1
        replace x2 := cell_on hB x2
        replace x3 := cell_on hB x3
        replace x4 := cell_on hB x4
        replace x5 := cell_on hB x5
        replace x6 := cell_on hB x6
        replace y0 := cell_on hB y0
        replace y1 := cell_on hB y1
        replace y2 := cell_on hB y2
        replace y3 := cell_on hB y3
        replace y4 := cell_on hB y4
        replace y5 := cell_on hB y5
        replace y6 := cell_on hB y6
        replace p0 := cell_on hB p0
        replace p1 := cell_on hB p1
        replace q0 := cell_on hB q0
        replace q1 := cell_on hB q1
        replace hv := hv.trans (hB.mono hv.size)
        clear hB caw
        go_wp2_with fail
        go_ret
        exact ⟨rfl, hv⟩
    · have hf1 := decide_eq_false hf
      clear hf
      rcases HRES.out with ⟨a, b, er, ha, hb, hla, hbh⟩ | er
      · have da := decide_eq_true ha
        have db := decide_eq_true hb
        have dla := decide_eq_true hla
        have dbh := decide_eq_true hbh
        rw [er] at crs
        go_wp2_with fail
        refine (crs _).mono ?_
        rintro en w107 ⟨rfl, hB⟩
        replace x0 := cell_on hB x0
        replace x1 := cell_on hB x1
        replace x2 := cell_on hB x2
        replace x3 := cell_on hB x3
        replace x4 := cell_on hB x4
        replace x5 := cell_on hB x5
        replace x6 := cell_on hB x6
        replace y0 := cell_on hB y0
        replace y1 := cell_on hB y1
        replace y2 := cell_on hB y2
        replace y3 := cell_on hB y3
        replace y4 := cell_on hB y4
        replace y5 := cell_on hB y5
        replace y6 := cell_on hB y6
        replace p0 := cell_on hB p0
        replace p1 := cell_on hB p1
        replace hv := hv.trans (hB.mono hv.size)
        clear hB crs
        have hx := World.block_lt_of_cell? _ _ x0
        have hp := World.block_lt_of_cell? _ _ p0
        go_wp2_with fail
        clear hx hp
        obtain ⟨w108, hw108⟩ : ∃ w108, w107.alloc (.cells #[.int .i64 a, .int .i64 b] 43) = w108 := ⟨_, rfl⟩
        try rw [hw108]
        have hB : Below w107.heap.size w107 w108 := by rw [← hw108]; exact (Below.refl _ w107).alloc (by first | exact Nat.le_refl _ | (simp; done) | (simp; omega)) _
        have kq : w108.heap[w107.heap.size]? = some (.cells #[.int .i64 a, .int .i64 b] 43 (0, 0)) := by rw [← hw108]; exact al_new _ _ _ (by first | rfl | (simp; done) | (simp; omega))
        have q0 : w108.cell? ⟨w107.heap.size, 0, none⟩ = some (.int .i64 a) := blk_cell kq 0
        have q1 : w108.cell? ⟨w107.heap.size, 1, none⟩ = some (.int .i64 b) := blk_cell kq 1
        clear kq
        replace x0 := cell_on hB x0
        replace x1 := cell_on hB x1
        replace x2 := cell_on hB x2
        replace x3 := cell_on hB x3
        replace x4 := cell_on hB x4
        replace x5 := cell_on hB x5
        replace x6 := cell_on hB x6
        replace y0 := cell_on hB y0
        replace y1 := cell_on hB y1
        replace y2 := cell_on hB y2
        replace y3 := cell_on hB y3
        replace y4 := cell_on hB y4
        replace y5 := cell_on hB y5
        replace y6 := cell_on hB y6
        replace p0 := cell_on hB p0
        replace p1 := cell_on hB p1
        replace hv := hv.trans (hB.mono hv.size)
        clear hB hw108
        go_wp2_with fail
        refine (caw _).mono ?_
        rintro en w109 ⟨rfl, hB⟩
        replace x0 := cell_on hB x0
        replace x1 := cell_on hB x1
        replace x2 := cell_on hB x2
        replace x3 := cell_on hB x3
        replace x4 := cell_on hB x4
        replace x5 := cell_on hB x5
        replace x6 := cell_on hB x6
        replace y0 := cell_on hB y0
        replace y1 := cell_on hB y1
        replace y2 := cell_on hB y2
        replace y3 := cell_on hB y3
        replace y4 := cell_on hB y4
        replace y5 := cell_on hB y5
        replace y6 := cell_on hB y6
        replace p0 := cell_on hB p0
        replace p1 := cell_on hB p1
        replace q0 := cell_on hB q0
        replace q1 := cell_on hB q1
        replace hv := hv.trans (hB.mono hv.size)
        clear hB caw
        go_wp2_with fail
        go_ret
        exact ⟨rfl, hv⟩
      · skip
        rw [er] at crs
        go_wp2_with fail
        refine (crs _).mono ?_
        rintro en w107 ⟨rfl, hB⟩
        replace x0 := cell_on hB x0
        replace x1 := cell_on hB x1
        replace x2 := cell_on hB x2
        replace x3 := cell_on hB x3
        replace x4 := cell_on hB x4
        replace x5 := cell_on hB x5
        replace x6 := cell_on hB x6
        replace y0 := cell_on hB y0
        replace y1 := cell_on hB y1
        replace y2 := cell_on hB y2
        replace y3 := cell_on hB y3
        replace y4 := cell_on hB y4
        replace y5 := cell_on hB y5
        replace y6 := cell_on hB y6
        replace p0 := cell_on hB p0
        replace p1 := cell_on hB p1
        replace hv := hv.trans (hB.mono hv.size)
        clear hB crs
        have hx := World.block_lt_of_cell? _ _ x0
        have hp := World.block_lt_of_cell? _ _ p0
        go_wp2_with fail
        clear hx hp
        obtain ⟨w108, hw108⟩ : ∃ w108, w107.alloc (.cells #[.int .i64 0, .int .i64 0] 43) = w108 := ⟨_, rfl⟩
        try rw [hw108]
        have hB : Below w107.heap.size w107 w108 := by rw [← hw108]; exact (Below.refl _ w107).alloc (by first | exact Nat.le_refl _ | (simp; done) | (simp; omega)) _
        have kq : w108.heap[w107.heap.size]? = some (.cells #[.int .i64 0, .int .i64 0] 43 (0, 0)) := by rw [← hw108]; exact al_new _ _ _ (by first | rfl | (simp; done) | (simp; omega))
        have q0 : w108.cell? ⟨w107.heap.size, 0, none⟩ = some (.int .i64 0) := blk_cell kq 0
        have q1 : w108.cell? ⟨w107.heap.size, 1, none⟩ = some (.int .i64 0) := blk_cell kq 1
        clear kq
        replace x0 := cell_on hB x0
        replace x1 := cell_on hB x1
        replace x2 := cell_on hB x2
        replace x3 := cell_on hB x3
        replace x4 := cell_on hB x4
        replace x5 := cell_on hB x5
        replace x6 := cell_on hB x6
        replace y0 := cell_on hB y0
        replace y1 := cell_on hB y1
        replace y2 := cell_on hB y2
        replace y3 := cell_on hB y3
        replace y4 := cell_on hB y4
        replace y5 := cell_on hB y5
        replace y6 := cell_on hB y6
        replace p0 := cell_on hB p0
        replace p1 := cell_on hB p1
        replace hv := hv.trans (hB.mono hv.size)
        clear hB hw108
        go_wp2_with fail
        refine (caw _).mono ?_
        rintro en w109 ⟨rfl, hB⟩
        replace x0 := cell_on hB x0
        replace x1 := cell_on hB x1
        replace x2 := cell_on hB x2
        replace x3 := cell_on hB x3
        replace x4 := cell_on hB x4
        replace x5 := cell_on hB x5
        replace x6 := cell_on hB x6
        replace y0 := cell_on hB y0
        replace y1 := cell_on hB y1
        replace y2 := cell_on hB y2
        replace y3 := cell_on hB y3
        replace y4 := cell_on hB y4
        replace y5 := cell_on hB y5
        replace y6 := cell_on hB y6
        replace p0 := cell_on hB p0
        replace p1 := cell_on hB p1
        replace q0 := cell_on hB q0
        replace q1 := cell_on hB q1
        replace hv := hv.trans (hB.mono hv.size)
        clear hB caw
        go_wp2_with fail
        go_ret
        exact ⟨rfl, hv⟩
theorem counterHolds_w.calls (F O J G R D I seed s d below above : Int) (w : World) (h0 : 0 ≤ seed) (h1 : seed ≤ 18446744073709551615) :
    Calls Try.prog 4 #[.agg #[.int .i64 F, .int .i64 O, .int .i64 J, .int .i64 G, .int .i64 R, .int .i64 D, .int .i64 I], .int .u64 seed, .int .i64 s, .int .i64 d, .int .i64 below, .int .i64 above] w fun e w' => e = .returned (.bool true) ∧ Below w.heap.size w w' := holds_calls F O J G R D I seed s d below above w
end Go.Proofs.Ytjgnadighdbjlaa.C
