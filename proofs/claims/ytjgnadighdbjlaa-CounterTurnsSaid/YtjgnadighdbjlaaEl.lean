/- CounterTurns: the other ways; the law. -/
import Derived.OwnWalk
import Derived.Deep.RegionHeld3
import Derived.Test.YtjgnadighdbjlaaEj
namespace Go.Proofs.Ytjgnadighdbjlaa.C
open Go.RowKit Go.Shelf Go.Maps Go.Proofs.YtjgnadighdbjlaaW.PrintWords Go.Proofs.YtjgnadighdbjlaaW.PrintLast Go.Proofs.YtjgnadighdbjlaaW.PrintMore
set_option linter.unusedVariables false
set_option linter.unusedSimpArgs false
set_option maxHeartbeats 8000000 in
set_option maxRecDepth 100000 in
theorem turns_wrong (F O J G R D I seed bg : Int) (A : Option Addr) (c : Nat) (ch : List Int) (w : World) (hlm : ch.length ≤ 9223372036854775807) (hk : okC F O J G R D I = false) :
    Calls Try.prog 5 #[.agg #[.int .i64 F, .int .i64 O, .int .i64 J, .int .i64 G, .int .i64 R, .int .i64 D, .int .i64 I], .int .u64 seed, .int .i64 bg, .slice A ch.length c] w fun e w' => e = .returned (.bool true) ∧ Below w.heap.size w w' := by
  have hv := Below.refl w.heap.size w
  have caw := fun w => awake_calls w
  have c1 := fun w => Check_calls F O J G R D I w
  rw [hk, if_neg (by simp)] at c1
  go_enter Try.func5, Try.ntmps5
  go_wp2_with fail
  obtain ⟨w100, hw100⟩ : ∃ w100, (w.alloc (.cells #[.int .i64 F, .int .i64 O, .int .i64 J, .int .i64 G, .int .i64 R, .int .i64 D, .int .i64 I] 49)).alloc (.cells #[.int .i64 F, .int .i64 O, .int .i64 J, .int .i64 G, .int .i64 R, .int .i64 D, .int .i64 I] 51) = w100 := ⟨_, rfl⟩
  try rw [hw100]
  have hB : Below w.heap.size w w100 := by rw [← hw100]; exact ((Below.refl _ w).alloc (by first | exact Nat.le_refl _ | (simp; done) | (simp; omega)) _).alloc (by first | exact Nat.le_refl _ | (simp; done) | (simp; omega)) _
  have kx : w100.heap[w.heap.size]? = some (.cells #[.int .i64 F, .int .i64 O, .int .i64 J, .int .i64 G, .int .i64 R, .int .i64 D, .int .i64 I] 49 (0, 0)) := by rw [← hw100]; exact al_old (al_new _ _ _ (by first | rfl | (simp; done) | (simp; omega)))
  have x0 : w100.cell? ⟨w.heap.size, 0, none⟩ = some (.int .i64 F) := blk_cell kx 0
  have x1 : w100.cell? ⟨w.heap.size, 1, none⟩ = some (.int .i64 O) := blk_cell kx 1
  have x2 : w100.cell? ⟨w.heap.size, 2, none⟩ = some (.int .i64 J) := blk_cell kx 2
  have x3 : w100.cell? ⟨w.heap.size, 3, none⟩ = some (.int .i64 G) := blk_cell kx 3
  have x4 : w100.cell? ⟨w.heap.size, 4, none⟩ = some (.int .i64 R) := blk_cell kx 4
  have x5 : w100.cell? ⟨w.heap.size, 5, none⟩ = some (.int .i64 D) := blk_cell kx 5
  have x6 : w100.cell? ⟨w.heap.size, 6, none⟩ = some (.int .i64 I) := blk_cell kx 6
  have ky : w100.heap[w.heap.size + 1]? = some (.cells #[.int .i64 F, .int .i64 O, .int .i64 J, .int .i64 G, .int .i64 R, .int .i64 D, .int .i64 I] 51 (0, 0)) := by rw [← hw100]; exact al_new _ _ _ (by first | rfl | (simp; done) | (simp; omega))
  have y0 : w100.cell? ⟨w.heap.size + 1, 0, none⟩ = some (.int .i64 F) := blk_cell ky 0
  have y1 : w100.cell? ⟨w.heap.size + 1, 1, none⟩ = some (.int .i64 O) := blk_cell ky 1
  have y2 : w100.cell? ⟨w.heap.size + 1, 2, none⟩ = some (.int .i64 J) := blk_cell ky 2
  have y3 : w100.cell? ⟨w.heap.size + 1, 3, none⟩ = some (.int .i64 G) := blk_cell ky 3
  have y4 : w100.cell? ⟨w.heap.size + 1, 4, none⟩ = some (.int .i64 R) := blk_cell ky 4
  have y5 : w100.cell? ⟨w.heap.size + 1, 5, none⟩ = some (.int .i64 D) := blk_cell ky 5
  have y6 : w100.cell? ⟨w.heap.size + 1, 6, none⟩ = some (.int .i64 I) := blk_cell ky 6
  replace hv := hv.trans (hB.mono hv.size)
  clear hB hw100
  have hx := World.block_lt_of_cell? _ _ x0
  have hy := World.block_lt_of_cell? _ _ y0
  refine (c1 _).mono ?_
  rintro en w101 ⟨rfl, hB⟩
  replace x0 := cell_on hB x0
  replace x1 := cell_on hB x1
  replace x2 := cell_on hB x2
  replace x3 := cell_on hB x3
  replace x4 := cell_on hB x4
  replace x5 := cell_on hB x5
  replace x6 := cell_on hB x6
  replace y0 := cell_on hB y0
  replace y1 := cell_on hB y1
  replace y2 := cell_on hB y2
  replace y3 := cell_on hB y3
  replace y4 := cell_on hB y4
  replace y5 := cell_on hB y5
  replace y6 := cell_on hB y6
  replace hv := hv.trans (hB.mono hv.size)
  clear hB c1
  go_wp2_with fail
  clear hx hy
  refine (caw _).mono ?_
  rintro en w102 ⟨rfl, hB⟩
  replace x0 := cell_on hB x0
  replace x1 := cell_on hB x1
  replace x2 := cell_on hB x2
  replace x3 := cell_on hB x3
  replace x4 := cell_on hB x4
  replace x5 := cell_on hB x5
  replace x6 := cell_on hB x6
  replace y0 := cell_on hB y0
  replace y1 := cell_on hB y1
  replace y2 := cell_on hB y2
  replace y3 := cell_on hB y3
  replace y4 := cell_on hB y4
  replace y5 := cell_on hB y5
  replace y6 := cell_on hB y6
  replace hv := hv.trans (hB.mono hv.size)
  clear hB caw
  go_wp2_with fail
  go_ret
  exact ⟨rfl, hv⟩
set_option maxHeartbeats 8000000 in
set_option maxRecDepth 100000 in
theorem turns_long (F O J G R D I seed bg : Int) (A : Option Addr) (c : Nat) (ch : List Int) (w : World) (hlm : ch.length ≤ 9223372036854775807) (hk : okC F O J G R D I = true) (hl : 40 < ch.length) :
    Calls Try.prog 5 #[.agg #[.int .i64 F, .int .i64 O, .int .i64 J, .int .i64 G, .int .i64 R, .int .i64 D, .int .i64 I], .int .u64 seed, .int .i64 bg, .slice A ch.length c] w fun e w' => e = .returned (.bool true) ∧ Below w.heap.size w w' := by
  have hv := Below.refl w.heap.size w
  have caw := fun w => awake_calls w
  have c1 := fun w => Check_calls F O J G R D I w
  rw [hk, if_pos rfl] at c1
  have HK := CtrOk.of hk
  have hfr := HK.f; have hdr := HK.d
  have hF1 : decide (F < 1) = false := decide_eq_false (by omega)
  have hD1 : decide (D < 1) = false := decide_eq_false (by omega)
  have h40 : (40 : Int) < (ch.length : Int) := by omega
  clear HK hk hl
  go_enter Try.func5, Try.ntmps5
  go_wp2_with fail
  obtain ⟨w100, hw100⟩ : ∃ w100, (w.alloc (.cells #[.int .i64 F, .int .i64 O, .int .i64 J, .int .i64 G, .int .i64 R, .int .i64 D, .int .i64 I] 49)).alloc (.cells #[.int .i64 F, .int .i64 O, .int .i64 J, .int .i64 G, .int .i64 R, .int .i64 D, .int .i64 I] 51) = w100 := ⟨_, rfl⟩
  try rw [hw100]
  have hB : Below w.heap.size w w100 := by rw [← hw100]; exact ((Below.refl _ w).alloc (by first | exact Nat.le_refl _ | (simp; done) | (simp; omega)) _).alloc (by first | exact Nat.le_refl _ | (simp; done) | (simp; omega)) _
  have kx : w100.heap[w.heap.size]? = some (.cells #[.int .i64 F, .int .i64 O, .int .i64 J, .int .i64 G, .int .i64 R, .int .i64 D, .int .i64 I] 49 (0, 0)) := by rw [← hw100]; exact al_old (al_new _ _ _ (by first | rfl | (simp; done) | (simp; omega)))
  have x0 : w100.cell? ⟨w.heap.size, 0, none⟩ = some (.int .i64 F) := blk_cell kx 0
  have x1 : w100.cell? ⟨w.heap.size, 1, none⟩ = some (.int .i64 O) := blk_cell kx 1
  have x2 : w100.cell? ⟨w.heap.size, 2, none⟩ = some (.int .i64 J) := blk_cell kx 2
  have x3 : w100.cell? ⟨w.heap.size, 3, none⟩ = some (.int .i64 G) := blk_cell kx 3
  have x4 : w100.cell? ⟨w.heap.size, 4, none⟩ = some (.int .i64 R) := blk_cell kx 4
  have x5 : w100.cell? ⟨w.heap.size, 5, none⟩ = some (.int .i64 D) := blk_cell kx 5
  have x6 : w100.cell? ⟨w.heap.size, 6, none⟩ = some (.int .i64 I) := blk_cell kx 6
  have ky : w100.heap[w.heap.size + 1]? = some (.cells #[.int .i64 F, .int .i64 O, .int .i64 J, .int .i64 G, .int .i64 R, .int .i64 D, .int .i64 I] 51 (0, 0)) := by rw [← hw100]; exact al_new _ _ _ (by first | rfl | (simp; done) | (simp; omega))
  have y0 : w100.cell? ⟨w.heap.size + 1, 0, none⟩ = some (.int .i64 F) := blk_cell ky 0
  have y1 : w100.cell? ⟨w.heap.size + 1, 1, none⟩ = some (.int .i64 O) := blk_cell ky 1
  have y2 : w100.cell? ⟨w.heap.size + 1, 2, none⟩ = some (.int .i64 J) := blk_cell ky 2
  have y3 : w100.cell? ⟨w.heap.size + 1, 3, none⟩ = some (.int .i64 G) := blk_cell ky 3
  have y4 : w100.cell? ⟨w.heap.size + 1, 4, none⟩ = some (.int .i64 R) := blk_cell ky 4
  have y5 : w100.cell? ⟨w.heap.size + 1, 5, none⟩ = some (.int .i64 D) := blk_cell ky 5
  have y6 : w100.cell? ⟨w.heap.size + 1, 6, none⟩ = some (.int .i64 I) := blk_cell ky 6
  replace hv := hv.trans (hB.mono hv.size)
  clear hB hw100
  have hx := World.block_lt_of_cell? _ _ x0
  have hy := World.block_lt_of_cell? _ _ y0
  refine (c1 _).mono ?_
  rintro en w101 ⟨rfl, hB⟩
  replace x0 := cell_on hB x0
  replace x1 := cell_on hB x1
  replace x2 := cell_on hB x2
  replace x3 := cell_on hB x3
  replace x4 := cell_on hB x4
  replace x5 := cell_on hB x5
  replace x6 := cell_on hB x6
  replace y0 := cell_on hB y0
  replace y1 := cell_on hB y1
  replace y2 := cell_on hB y2
  replace y3 := cell_on hB y3
  replace y4 := cell_on hB y4
  replace y5 := cell_on hB y5
  replace y6 := cell_on hB y6
  replace hv := hv.trans (hB.mono hv.size)
  clear hB c1
  go_wp2_with fail
  clear hx hy
  refine (caw _).mono ?_
  rintro en w102 ⟨rfl, hB⟩
  replace x0 := cell_on hB x0
  replace x1 := cell_on hB x1
  replace x2 := cell_on hB x2
  replace x3 := cell_on hB x3
  replace x4 := cell_on hB x4
  replace x5 := cell_on hB x5
  replace x6 := cell_on hB x6
  replace y0 := cell_on hB y0
  replace y1 := cell_on hB y1
  replace y2 := cell_on hB y2
  replace y3 := cell_on hB y3
  replace y4 := cell_on hB y4
  replace y5 := cell_on hB y5
  replace y6 := cell_on hB y6
  replace hv := hv.trans (hB.mono hv.size)
  clear hB caw
  go_wp2_with fail
  go_ret
  exact ⟨rfl, hv⟩
set_option maxHeartbeats 8000000 in
set_option maxRecDepth 100000 in
theorem turns_jump (F O J G R D I seed bg : Int) (A : Option Addr) (c : Nat) (ch : List Int) (w : World) (hlm : ch.length ≤ 9223372036854775807) (hk : okC F O J G R D I = true) (hl : ch.length ≤ 40) (hX : R / 2 - 2 * (J + G / 2) - 1 < 0) :
    Calls Try.prog 5 #[.agg #[.int .i64 F, .int .i64 O, .int .i64 J, .int .i64 G, .int .i64 R, .int .i64 D, .int .i64 I], .int .u64 seed, .int .i64 bg, .slice A ch.length c] w fun e w' => e = .returned (.bool true) ∧ Below w.heap.size w w' := by
  have hv := Below.refl w.heap.size w
  have caw := fun w => awake_calls w
  have c1 := fun w => Check_calls F O J G R D I w
  rw [hk, if_pos rfl] at c1
  have HK := CtrOk.of hk
  have hfr := HK.f; have hor := HK.o; have hjr := HK.j; have hgr := HK.g; have hrr := HK.r; have hdr := HK.d
  have hF1 : decide (F < 1) = false := decide_eq_false (by omega)
  have hD1 : decide (D < 1) = false := decide_eq_false (by omega)
  have h40 : ¬ (40 : Int) < (ch.length : Int) := by omega
  have hE : unwE F O J G R D I [] 0 = 31 := by
    unfold unwE
    rw [if_pos hk, if_neg (by simp), if_neg (by simp), if_pos (by omega)]
  have hR0 : unwR F O J G R D I [] 0 = [] := by unfold unwR; rw [hE]; rfl
  have cU : ∀ w, Calls Try.prog 22 #[.agg #[.int .i64 F, .int .i64 O, .int .i64 J, .int .i64 G, .int .i64 R, .int .i64 D, .int .i64 I], .slice none 0 0, .int .i64 0] w fun e w' => ∃ A' c', e = .returned (.tuple #[.slice A' 0 c', .int .i64 31]) ∧ Below w.heap.size w w' := fun w => by
    refine Calls.mono (Unwrap_calls F O J G R D I none 0 [] 0 w (Kd.C_nil _ _)) ?_
    rintro e w' ⟨A', c', rfl, _, hB⟩
    rw [hE, hR0]
    exact ⟨A', c', rfl, hB⟩
  have hFz : F ≠ 0 := by omega
  have hFz2 : (F == 0) = false := beq_eq_false_iff_ne.2 hFz
  have tG := Int.tdiv_eq_ediv_of_nonneg (a := G) (by omega) (b := 2)
  have tR := Int.tdiv_eq_ediv_of_nonneg (a := R) (by omega) (b := 2)
  have wG2 := wr (G / 2) (by omega) (by omega)
  have wR2 := wr (R / 2) (by omega) (by omega)
  have wf1 := wr (J + G / 2) (by omega) (by omega)
  obtain ⟨f, hf⟩ : ∃ f, J + G / 2 = f := ⟨_, rfl⟩
  have hf0 : 0 ≤ f ∧ f ≤ 1500000000 := by omega
  rw [hf] at hX wf1
  have wf2 := wr (2 * f) (by omega) (by omega)
  have wf4 := wr (R / 2 - 2 * f) (by omega) (by omega)
  have wf5 := wr (R / 2 - 2 * f - 1) (by omega) (by omega)
  obtain ⟨X, hXX⟩ : ∃ X, R / 2 - 2 * f - 1 = X := ⟨_, rfl⟩
  rw [hXX] at hX wf5
  have hXb : -4000000000 ≤ X := by omega
  have q1 : -4000000000 ≤ X.tdiv F ∧ X.tdiv F ≤ 0 := by
    have e : X.tdiv F = -((-X).tdiv F) := by rw [Int.neg_tdiv]; omega
    have e2 := Int.tdiv_eq_ediv_of_nonneg (a := -X) (by omega) (b := F)
    have e3 : 0 ≤ -X / F := Int.ediv_nonneg (by omega) (by omega)
    have e4 : -X / F ≤ -X := Int.ediv_le_self _ (by omega)
    omega
  obtain ⟨Y, hY⟩ : ∃ Y, X.tdiv F = Y := ⟨_, rfl⟩
  rw [hY] at q1
  have wY := wr Y (by omega) (by omega)
  have hX0 : decide (X < 0) = true := decide_eq_true hX
  clear HK hk hl hE hR0 hjr hgr hor
  by_cases hY0 : Y < 0
  · have hYd : decide (Y < 0) = true := decide_eq_true hY0
    clear hY0
    go_enter Try.func5, Try.ntmps5
    go_wp2_with fail
    obtain ⟨w100, hw100⟩ : ∃ w100, (w.alloc (.cells #[.int .i64 F, .int .i64 O, .int .i64 J, .int .i64 G, .int .i64 R, .int .i64 D, .int .i64 I] 49)).alloc (.cells #[.int .i64 F, .int .i64 O, .int .i64 J, .int .i64 G, .int .i64 R, .int .i64 D, .int .i64 I] 51) = w100 := ⟨_, rfl⟩
    try rw [hw100]
    have hB : Below w.heap.size w w100 := by rw [← hw100]; exact ((Below.refl _ w).alloc (by first | exact Nat.le_refl _ | (simp; done) | (simp; omega)) _).alloc (by first | exact Nat.le_refl _ | (simp; done) | (simp; omega)) _
    have kx : w100.heap[w.heap.size]? = some (.cells #[.int .i64 F, .int .i64 O, .int .i64 J, .int .i64 G, .int .i64 R, .int .i64 D, .int .i64 I] 49 (0, 0)) := by rw [← hw100]; exact al_old (al_new _ _ _ (by first | rfl | (simp; done) | (simp; omega)))
    have x0 : w100.cell? ⟨w.heap.size, 0, none⟩ = some (.int .i64 F) := blk_cell kx 0
    have x1 : w100.cell? ⟨w.heap.size, 1, none⟩ = some (.int .i64 O) := blk_cell kx 1
    have x2 : w100.cell? ⟨w.heap.size, 2, none⟩ = some (.int .i64 J) := blk_cell kx 2
    have x3 : w100.cell? ⟨w.heap.size, 3, none⟩ = some (.int .i64 G) := blk_cell kx 3
    have x4 : w100.cell? ⟨w.heap.size, 4, none⟩ = some (.int .i64 R) := blk_cell kx 4
    have x5 : w100.cell? ⟨w.heap.size, 5, none⟩ = some (.int .i64 D) := blk_cell kx 5
    have x6 : w100.cell? ⟨w.heap.size, 6, none⟩ = some (.int .i64 I) := blk_cell kx 6
    have ky : w100.heap[w.heap.size + 1]? = some (.cells #[.int .i64 F, .int .i64 O, .int .i64 J, .int .i64 G, .int .i64 R, .int .i64 D, .int .i64 I] 51 (0, 0)) := by rw [← hw100]; exact al_new _ _ _ (by first | rfl | (simp; done) | (simp; omega))
    have y0 : w100.cell? ⟨w.heap.size + 1, 0, none⟩ = some (.int .i64 F) := blk_cell ky 0
    have y1 : w100.cell? ⟨w.heap.size + 1, 1, none⟩ = some (.int .i64 O) := blk_cell ky 1
    have y2 : w100.cell? ⟨w.heap.size + 1, 2, none⟩ = some (.int .i64 J) := blk_cell ky 2
    have y3 : w100.cell? ⟨w.heap.size + 1, 3, none⟩ = some (.int .i64 G) := blk_cell ky 3
    have y4 : w100.cell? ⟨w.heap.size + 1, 4, none⟩ = some (.int .i64 R) := blk_cell ky 4
    have y5 : w100.cell? ⟨w.heap.size + 1, 5, none⟩ = some (.int .i64 D) := blk_cell ky 5
    have y6 : w100.cell? ⟨w.heap.size + 1, 6, none⟩ = some (.int .i64 I) := blk_cell ky 6
    replace hv := hv.trans (hB.mono hv.size)
    clear hB hw100
    have hx := World.block_lt_of_cell? _ _ x0
    have hy := World.block_lt_of_cell? _ _ y0
    refine (c1 _).mono ?_
    rintro en w101 ⟨rfl, hB⟩
    replace x0 := cell_on hB x0
    replace x1 := cell_on hB x1
    replace x2 := cell_on hB x2
    replace x3 := cell_on hB x3
    replace x4 := cell_on hB x4
    replace x5 := cell_on hB x5
    replace x6 := cell_on hB x6
    replace y0 := cell_on hB y0
    replace y1 := cell_on hB y1
    replace y2 := cell_on hB y2
    replace y3 := cell_on hB y3
    replace y4 := cell_on hB y4
    replace y5 := cell_on hB y5
    replace y6 := cell_on hB y6
    replace hv := hv.trans (hB.mono hv.size)
    clear hB c1
    go_wp2_with fail
    clear hx hy
    refine (cU _).mono ?_
    rintro en w102 ⟨A', c', rfl, hB⟩
    replace x0 := cell_on hB x0
    replace x1 := cell_on hB x1
    replace x2 := cell_on hB x2
    replace x3 := cell_on hB x3
    replace x4 := cell_on hB x4
    replace x5 := cell_on hB x5
    replace x6 := cell_on hB x6
    replace y0 := cell_on hB y0
    replace y1 := cell_on hB y1
    replace y2 := cell_on hB y2
    replace y3 := cell_on hB y3
    replace y4 := cell_on hB y4
    replace y5 := cell_on hB y5
    replace y6 := cell_on hB y6
    replace hv := hv.trans (hB.mono hv.size)
    clear hB cU
    go_wp2_with fail
    refine (caw _).mono ?_
    rintro en w103 ⟨rfl, hB⟩
    replace x0 := cell_on hB x0
    replace x1 := cell_on hB x1
    replace x2 := cell_on hB x2
    replace x3 := cell_on hB x3
    replace x4 := cell_on hB x4
    replace x5 := cell_on hB x5
    replace x6 := cell_on hB x6
    replace y0 := cell_on hB y0
    replace y1 := cell_on hB y1
    replace y2 := cell_on hB y2
    replace y3 := cell_on hB y3
    replace y4 := cell_on hB y4
    replace y5 := cell_on hB y5
    replace y6 := cell_on hB y6
    replace hv := hv.trans (hB.mono hv.size)
    clear hB caw
    go_wp2_with fail
    go_ret
    exact ⟨rfl, hv⟩
  · have hYd : decide (Y < 0) = false := decide_eq_false hY0
    clear hY0
    go_enter Try.func5, Try.ntmps5
    go_wp2_with fail
    obtain ⟨w100, hw100⟩ : ∃ w100, (w.alloc (.cells #[.int .i64 F, .int .i64 O, .int .i64 J, .int .i64 G, .int .i64 R, .int .i64 D, .int .i64 I] 49)).alloc (.cells #[.int .i64 F, .int .i64 O, .int .i64 J, .int .i64 G, .int .i64 R, .int .i64 D, .int .i64 I] 51) = w100 := ⟨_, rfl⟩
    try rw [hw100]
    have hB : Below w.heap.size w w100 := by rw [← hw100]; exact ((Below.refl _ w).alloc (by first | exact Nat.le_refl _ | (simp; done) | (simp; omega)) _).alloc (by first | exact Nat.le_refl _ | (simp; done) | (simp; omega)) _
    have kx : w100.heap[w.heap.size]? = some (.cells #[.int .i64 F, .int .i64 O, .int .i64 J, .int .i64 G, .int .i64 R, .int .i64 D, .int .i64 I] 49 (0, 0)) := by rw [← hw100]; exact al_old (al_new _ _ _ (by first | rfl | (simp; done) | (simp; omega)))
    have x0 : w100.cell? ⟨w.heap.size, 0, none⟩ = some (.int .i64 F) := blk_cell kx 0
    have x1 : w100.cell? ⟨w.heap.size, 1, none⟩ = some (.int .i64 O) := blk_cell kx 1
    have x2 : w100.cell? ⟨w.heap.size, 2, none⟩ = some (.int .i64 J) := blk_cell kx 2
    have x3 : w100.cell? ⟨w.heap.size, 3, none⟩ = some (.int .i64 G) := blk_cell kx 3
    have x4 : w100.cell? ⟨w.heap.size, 4, none⟩ = some (.int .i64 R) := blk_cell kx 4
    have x5 : w100.cell? ⟨w.heap.size, 5, none⟩ = some (.int .i64 D) := blk_cell kx 5
    have x6 : w100.cell? ⟨w.heap.size, 6, none⟩ = some (.int .i64 I) := blk_cell kx 6
    have ky : w100.heap[w.heap.size + 1]? = some (.cells #[.int .i64 F, .int .i64 O, .int .i64 J, .int .i64 G, .int .i64 R, .int .i64 D, .int .i64 I] 51 (0, 0)) := by rw [← hw100]; exact al_new _ _ _ (by first | rfl | (simp; done) | (simp; omega))
    have y0 : w100.cell? ⟨w.heap.size + 1, 0, none⟩ = some (.int .i64 F) := blk_cell ky 0
    have y1 : w100.cell? ⟨w.heap.size + 1, 1, none⟩ = some (.int .i64 O) := blk_cell ky 1
    have y2 : w100.cell? ⟨w.heap.size + 1, 2, none⟩ = some (.int .i64 J) := blk_cell ky 2
    have y3 : w100.cell? ⟨w.heap.size + 1, 3, none⟩ = some (.int .i64 G) := blk_cell ky 3
    have y4 : w100.cell? ⟨w.heap.size + 1, 4, none⟩ = some (.int .i64 R) := blk_cell ky 4
    have y5 : w100.cell? ⟨w.heap.size + 1, 5, none⟩ = some (.int .i64 D) := blk_cell ky 5
    have y6 : w100.cell? ⟨w.heap.size + 1, 6, none⟩ = some (.int .i64 I) := blk_cell ky 6
    replace hv := hv.trans (hB.mono hv.size)
    clear hB hw100
    have hx := World.block_lt_of_cell? _ _ x0
    have hy := World.block_lt_of_cell? _ _ y0
    refine (c1 _).mono ?_
    rintro en w101 ⟨rfl, hB⟩
    replace x0 := cell_on hB x0
    replace x1 := cell_on hB x1
    replace x2 := cell_on hB x2
    replace x3 := cell_on hB x3
    replace x4 := cell_on hB x4
    replace x5 := cell_on hB x5
    replace x6 := cell_on hB x6
    replace y0 := cell_on hB y0
    replace y1 := cell_on hB y1
    replace y2 := cell_on hB y2
    replace y3 := cell_on hB y3
    replace y4 := cell_on hB y4
    replace y5 := cell_on hB y5
    replace y6 := cell_on hB y6
    replace hv := hv.trans (hB.mono hv.size)
    clear hB c1
    go_wp2_with fail
    clear hx hy
    refine (cU _).mono ?_
    rintro en w102 ⟨A', c', rfl, hB⟩
    replace x0 := cell_on hB x0
    replace x1 := cell_on hB x1
    replace x2 := cell_on hB x2
    replace x3 := cell_on hB x3
    replace x4 := cell_on hB x4
    replace x5 := cell_on hB x5
    replace x6 := cell_on hB x6
    replace y0 := cell_on hB y0
    replace y1 := cell_on hB y1
    replace y2 := cell_on hB y2
    replace y3 := cell_on hB y3
    replace y4 := cell_on hB y4
    replace y5 := cell_on hB y5
    replace y6 := cell_on hB y6
    replace hv := hv.trans (hB.mono hv.size)
    clear hB cU
    go_wp2_with fail
    refine (caw _).mono ?_
    rintro en w103 ⟨rfl, hB⟩
    replace x0 := cell_on hB x0
    replace x1 := cell_on hB x1
    replace x2 := cell_on hB x2
    replace x3 := cell_on hB x3
    replace x4 := cell_on hB x4
    replace x5 := cell_on hB x5
    replace x6 := cell_on hB x6
    replace y0 := cell_on hB y0
    replace y1 := cell_on hB y1
    replace y2 := cell_on hB y2
    replace y3 := cell_on hB y3
    replace y4 := cell_on hB y4
    replace y5 := cell_on hB y5
    replace y6 := cell_on hB y6
    replace hv := hv.trans (hB.mono hv.size)
    clear hB caw
    go_wp2_with fail
    go_ret
    exact ⟨rfl, hv⟩
theorem counterTurns_w.calls (F O J G R D I seed bg : Int) (A : Option Addr) (c : Nat) (ch : List Int) (w : World) (h0 : 0 ≤ seed) (h1 : seed ≤ 18446744073709551615) (hr : Kd.C (Kd.int .i64) w A ch.length ch) :
    Calls Try.prog 5 #[.agg #[.int .i64 F, .int .i64 O, .int .i64 J, .int .i64 G, .int .i64 R, .int .i64 D, .int .i64 I], .int .u64 seed, .int .i64 bg, .slice A ch.length c] w fun e w' => e = .returned (.bool true) ∧ Below w.heap.size w w' := by
  cases hk : okC F O J G R D I
  · exact turns_wrong F O J G R D I seed bg A c ch w hr.2.1 hk
  · by_cases hl : ch.length ≤ 40
    · by_cases hX : R / 2 - 2 * (J + G / 2) - 1 < 0
      · exact turns_jump F O J G R D I seed bg A c ch w hr.2.1 hk hl hX
      · exact turns_main F O J G R D I seed bg A c ch w hr hk hl (by omega)
    · exact turns_long F O J G R D I seed bg A c ch w hr.2.1 hk (by omega)
end Go.Proofs.Ytjgnadighdbjlaa.C
