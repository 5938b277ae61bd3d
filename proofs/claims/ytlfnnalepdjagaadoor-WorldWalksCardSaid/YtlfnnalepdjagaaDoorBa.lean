/- WorldWalks: the law's walk. -/
import Derived.OwnWalk
import Derived.BigRegion
import Derived.Deep.RegionHeld3
import Derived.Test.YtlfnnalepdjagaaDoorAy
import Derived.Test.YtlfnnalepdjagaaDoorAz
namespace Go.Proofs.YtlfnnalepdjagaaDoor.C
open Go.RowKit Go.Shelf Go.Maps Go.Proofs.YtlfnnalepdjagaaDoorW.PrintWords Go.Proofs.YtlfnnalepdjagaaDoorW.PrintLast Go.Proofs.YtlfnnalepdjagaaDoorW.PrintMore
set_option linter.unusedVariables false
set_option linter.unusedSimpArgs false
set_option maxHeartbeats 4000000 in
set_option maxRecDepth 100000 in
theorem worldWalks_main (seed walk white s : Int) (w : World) (hL : Lim w) : Calls Tryd.prog 5 #[.int .u64 seed, .int .i64 walk, .int .i64 white, .int .i64 s] w fun e w' => e = .returned (.bool true) ∧ Below w.heap.size w w' := by
  have hv := Below.refl w.heap.size w
  have aw := fun W (hB : Below w.heap.size w W) => awake_calls W (hL.below hB)
  have b1 := posF_b walk
  have c1 := fun W => pos_calls walk W
  generalize posF walk = PW at b1 c1
  have b2 := posF_b white
  have c2 := fun W => pos_calls white W
  generalize posF white = N at b2 c2
  have b3 := posF_b s
  have c3 := fun W => pos_calls s W
  generalize posF s = PS at b3 c3
  obtain ⟨K, hK⟩ : ∃ K, PW.tmod 100001 = K := ⟨_, rfl⟩
  obtain ⟨S, hS⟩ : ∃ S, PS.tmod 999901 = S := ⟨_, rfl⟩
  have bK : 0 ≤ K ∧ K ≤ 100000 := by rw [Int.tmod_eq_emod_of_nonneg b1.1] at hK; omega
  have bS : 0 ≤ S ∧ S ≤ 999900 := by rw [Int.tmod_eq_emod_of_nonneg b3.1] at hS; omega
  have hK' : IntKind.i64.wrap (PW.tmod 100001) = K := by rw [hK]; exact wr K (by omega) (by omega)
  have hS' : IntKind.i64.wrap (PS.tmod 999901) = S := by rw [hS]; exact wr S (by omega) (by omega)
  have q1 : IntKind.i64.wrap (S.tdiv 100) = S / 100 := by rw [Int.tdiv_eq_ediv_of_nonneg bS.1]; exact wr _ (by omega) (by omega)
  have q2 : IntKind.i64.wrap (S / 100 + 1) = S / 100 + 1 := wr _ (by omega) (by omega)
  have q3 : IntKind.i64.wrap (S + 100) = S + 100 := wr _ (by omega) (by omega)
  have a18 : ∀ Ah Ak W, Below w.heap.size w W → WAt 51 W Ah Ak CH0 [ckI, ckW N K] → Calls Tryd.prog 18 #[woV seed Ah 1 1 Ak 2 2, .int .i64 1, .int .i64 S] W fun e w' => e = .returned (.tuple #[.int .i64 (walkedF seed 1 K 0 S), .int .i64 0]) ∧ Below W.heap.size W w' := fun Ah Ak W hB hA => by
    have := Phase_calls seed Ah 1 Ak 2 CH0 [ckI, ckW N K] 1 S W (hL.below hB) hA (fun y hy ev he => by simp at hy; rcases hy with rfl | rfl <;> simp at he)
    rw [walks_phase b2 bK ⟨bS.1, by omega⟩] at this
    exact this
  have b18 : ∀ Ah Ak W, Below w.heap.size w W → WAt 51 W Ah Ak CH0 [ckI, ckW N K] → Calls Tryd.prog 18 #[woV seed Ah 1 1 Ak 2 2, .int .i64 1, .int .i64 (S + 100)] W fun e w' => e = .returned (.tuple #[.int .i64 (walkedF seed 1 K 0 S + drawF seed 1 1 (S / 100 + 1) K), .int .i64 0]) ∧ Below W.heap.size W w' := fun Ah Ak W hB hA => by
    have := Phase_calls seed Ah 1 Ak 2 CH0 [ckI, ckW N K] 1 (S + 100) W (hL.below hB) hA (fun y hy ev he => by simp at hy; rcases hy with rfl | rfl <;> simp at he)
    rw [walks_phase b2 bK ⟨by omega, by omega⟩, walked_next bS.1] at this
    exact this
  have a21 : ∀ Ah Ak W, Below w.heap.size w W → WAt 51 W Ah Ak CH0 [ckI, ckW N K] → Calls Tryd.prog 21 #[woV seed Ah 1 1 Ak 2 2, .int .i64 1, .int .i64 S] W fun e w' => e = .returned (.tuple #[.int .i64 (walkedF seed 1 K 0 S + drawF seed 2 1 S N), .int .i64 0]) ∧ Below W.heap.size W w' := fun Ah Ak W hB hA => by
    have := Shown_calls seed Ah 1 Ak 2 CH0 [ckI, ckW N K] 1 S W (hL.below hB) hA (fun y hy ev he => by simp at hy; rcases hy with rfl | rfl <;> simp at he)
    rw [walks_shown b2 bK ⟨bS.1, by omega⟩] at this
    exact this
  have d1 := fun W => wdraw_calls seed 1 1 (S / 100 + 1) K W (by omega) (by omega) (by omega) (by omega)
  have d2 := fun W => wdraw_calls seed 2 1 S N W (by omega) (by omega) (by omega) (by omega)
  have r1 := drawF_range seed 1 1 (S / 100 + 1) K bK.1
  have r2 := drawF_range seed 2 1 S N b2.1
  have r3 := walkedF_b (seed := seed) (k := 1) (fr := 0) (to_ := S) bK.1
  have r4 := stepsN_b (fr := 0) (to_ := S) (Int.le_refl 0) (by omega)
  have r5 : K * (stepsN 0 S : Int) ≤ 100000 * 10000 := Int.mul_le_mul bK.2 (by omega) (by omega) (by omega)
  generalize K * (stepsN 0 S : Int) = KN at *
  generalize walkedF seed 1 K 0 S = A at *
  generalize drawF seed 1 1 (S / 100 + 1) K = D at *
  generalize drawF seed 2 1 S N = E at *
  generalize S / 100 = Q at *
  have e1 : IntKind.i64.wrap (A + D - A) = D := by rw [show A + D - A = D by omega]; exact wr _ (by omega) (by omega)
  have e2 : IntKind.i64.wrap (-K) = -K := wr _ (by omega) (by omega)
  have e3 : IntKind.i64.wrap (-N) = -N := wr _ (by omega) (by omega)
  have e4 : IntKind.i64.wrap (A + E) = A + E := wr _ (by omega) (by omega)
  have f1 : decide (D < -K) = false := decide_eq_false (by omega)
  have f2 : decide (D > K) = false := decide_eq_false (by omega)
  have f2' : decide (K < D) = false := decide_eq_false (by omega)
  have f3 : decide (E ≥ -N) = true := decide_eq_true (by omega)
  have f3' : decide (-N ≤ E) = true := decide_eq_true (by omega)
  have f4 : decide (E ≤ N) = true := decide_eq_true (by omega)
  have HK := Aside0.mk bK
  have HN := Aside0.mk b2
  clear r1 r2 r3 r4 r5 bS bK b1 b2 b3 hK' hS' hL
  go_enter Tryd.func5, Tryd.ntmps5
  go_wp2_with fail
  refine (c1 _).mono ?_
  rintro en w1 ⟨rfl, hB⟩
  replace hv := hv.trans (hB.mono hv.size)
  clear hB c1
  go_wp2_with fail
  refine (c2 _).mono ?_
  rintro en w2 ⟨rfl, hB⟩
  replace hv := hv.trans (hB.mono hv.size)
  clear hB c2
  go_wp2_with fail
  refine (c3 _).mono ?_
  rintro en w3 ⟨rfl, hB⟩
  replace hv := hv.trans (hB.mono hv.size)
  clear hB c3
  go_wp2_with fail
  obtain ⟨w4, hw4⟩ : ∃ w4, ((w3.alloc (.cells #[.int .i64 0, .int .i64 0, .int .i64 2] 53)).alloc (.cells #[.int .i64 4, .int .i64 0, .int .i64 0, .int .i64 0, .int .i64 0, .int .i64 0, .int .i64 0, .int .i64 0, .slice none 0 0, .int .i64 1, .int .i64 0, .int .i64 0, .int .i64 0, .int .i64 N, .int .i64 K, .int .i64 0, .int .i64 0, .slice none 0 0] 48)).alloc (.cells #[.int .u64 seed, .slice (some ⟨w3.heap.size, 0, none⟩) 1 1, .slice (some ⟨w3.heap.size + 1, 0, none⟩) 2 2] 32) = w4 := ⟨_, rfl⟩
  try rw [hw4]
  have hB : Below w3.heap.size w3 w4 := by rw [← hw4]; exact (((Below.refl _ w3).alloc (by first | exact Nat.le_refl _ | (simp; done) | (simp; omega)) _).alloc (by first | exact Nat.le_refl _ | (simp; done) | (simp; omega)) _).alloc (by first | exact Nat.le_refl _ | (simp; done) | (simp; omega)) _
  have kg : w4.heap[w3.heap.size]? = some (.cells #[.int .i64 0, .int .i64 0, .int .i64 2] 53 (0, 0)) := by rw [← hw4]; exact al_old (al_old (al_new _ _ _ (by first | rfl | (simp; done) | (simp; omega))))
  have g0 : w4.cell? ⟨w3.heap.size, 0, none⟩ = some (.int .i64 0) := blk_cell kg 0
  have g1 : w4.cell? ⟨w3.heap.size, 1, none⟩ = some (.int .i64 0) := blk_cell kg 1
  have g2 : w4.cell? ⟨w3.heap.size, 2, none⟩ = some (.int .i64 2) := blk_cell kg 2
  have kh : w4.heap[w3.heap.size + 1]? = some (.cells #[.int .i64 4, .int .i64 0, .int .i64 0, .int .i64 0, .int .i64 0, .int .i64 0, .int .i64 0, .int .i64 0, .slice none 0 0, .int .i64 1, .int .i64 0, .int .i64 0, .int .i64 0, .int .i64 N, .int .i64 K, .int .i64 0, .int .i64 0, .slice none 0 0] 48 (0, 0)) := by rw [← hw4]; exact al_old (al_new _ _ _ (by first | rfl | (simp; done) | (simp; omega)))
  have h0 : w4.cell? ⟨w3.heap.size + 1, 0, none⟩ = some (.int .i64 4) := blk_cell kh 0
  have h1 : w4.cell? ⟨w3.heap.size + 1, 1, none⟩ = some (.int .i64 0) := blk_cell kh 1
  have h2 : w4.cell? ⟨w3.heap.size + 1, 2, none⟩ = some (.int .i64 0) := blk_cell kh 2
  have h3 : w4.cell? ⟨w3.heap.size + 1, 3, none⟩ = some (.int .i64 0) := blk_cell kh 3
  have h4 : w4.cell? ⟨w3.heap.size + 1, 4, none⟩ = some (.int .i64 0) := blk_cell kh 4
  have h5 : w4.cell? ⟨w3.heap.size + 1, 5, none⟩ = some (.int .i64 0) := blk_cell kh 5
  have h6 : w4.cell? ⟨w3.heap.size + 1, 6, none⟩ = some (.int .i64 0) := blk_cell kh 6
  have h7 : w4.cell? ⟨w3.heap.size + 1, 7, none⟩ = some (.int .i64 0) := blk_cell kh 7
  have h8 : w4.cell? ⟨w3.heap.size + 1, 8, none⟩ = some (.slice none 0 0) := blk_cell kh 8
  have h9 : w4.cell? ⟨w3.heap.size + 1, 9, none⟩ = some (.int .i64 1) := blk_cell kh 9
  have h10 : w4.cell? ⟨w3.heap.size + 1, 10, none⟩ = some (.int .i64 0) := blk_cell kh 10
  have h11 : w4.cell? ⟨w3.heap.size + 1, 11, none⟩ = some (.int .i64 0) := blk_cell kh 11
  have h12 : w4.cell? ⟨w3.heap.size + 1, 12, none⟩ = some (.int .i64 0) := blk_cell kh 12
  have h13 : w4.cell? ⟨w3.heap.size + 1, 13, none⟩ = some (.int .i64 N) := blk_cell kh 13
  have h14 : w4.cell? ⟨w3.heap.size + 1, 14, none⟩ = some (.int .i64 K) := blk_cell kh 14
  have h15 : w4.cell? ⟨w3.heap.size + 1, 15, none⟩ = some (.int .i64 0) := blk_cell kh 15
  have h16 : w4.cell? ⟨w3.heap.size + 1, 16, none⟩ = some (.int .i64 0) := blk_cell kh 16
  have h17 : w4.cell? ⟨w3.heap.size + 1, 17, none⟩ = some (.slice none 0 0) := blk_cell kh 17
  have kx : w4.heap[w3.heap.size + 1 + 1]? = some (.cells #[.int .u64 seed, .slice (some ⟨w3.heap.size, 0, none⟩) 1 1, .slice (some ⟨w3.heap.size + 1, 0, none⟩) 2 2] 32 (0, 0)) := by rw [← hw4]; exact al_new _ _ _ (by first | rfl | (simp; done) | (simp; omega))
  have x0 : w4.cell? ⟨w3.heap.size + 1 + 1, 0, none⟩ = some (.int .u64 seed) := blk_cell kx 0
  have x1 : w4.cell? ⟨w3.heap.size + 1 + 1, 1, none⟩ = some (.slice (some ⟨w3.heap.size, 0, none⟩) 1 1) := blk_cell kx 1
  have x2 : w4.cell? ⟨w3.heap.size + 1 + 1, 2, none⟩ = some (.slice (some ⟨w3.heap.size + 1, 0, none⟩) 2 2) := blk_cell kx 2
  replace hv := hv.trans (hB.mono hv.size)
  clear hB hw4
  clear kx g0 g1 g2 h0 h1 h2 h3 h4 h5 h6 h7 h8 h9 h10 h11 h12 h13 h14 h15 h16 h17
  have hA : WAt 51 w4 (some ⟨w3.heap.size, 0, none⟩) (some ⟨w3.heap.size + 1, 0, none⟩) CH0 [ckI, ckW N K] := ⟨blk_C k3 [((0, 0, 2), [.int .i64 0, .int .i64 0, .int .i64 2])] kg (by simp; rfl) (fun y hy => by simp at hy; subst hy; exact k3_mk _ (0, 0, 2)) (by simp), blk_C (kck 51) [(ckI, [.int .i64 4, .int .i64 0, .int .i64 0, .int .i64 0, .int .i64 0, .int .i64 0, .int .i64 0, .int .i64 0, .slice none 0 0]), (ckW N K, [.int .i64 1, .int .i64 0, .int .i64 0, .int .i64 0, .int .i64 N, .int .i64 K, .int .i64 0, .int .i64 0, .slice none 0 0])] kh (by simp; rfl) (fun y hy => by simp at hy; rcases hy with rfl | rfl <;> exact ck_K _ none 0 (by simp) (C_nil _ _)) (by simp)⟩
  clear kg kh
  refine (a18 _ _ _ hv hA).mono ?_
  rintro en w5 ⟨rfl, hB⟩
  replace x0 := cell_on hB x0
  replace x1 := cell_on hB x1
  replace x2 := cell_on hB x2
  replace hv := hv.trans (hB.mono hv.size)
  replace hA := hA.below hB
  clear hB
  go_wp2_with fail
  refine (b18 _ _ _ hv hA).mono ?_
  rintro en w6 ⟨rfl, hB⟩
  replace x0 := cell_on hB x0
  replace x1 := cell_on hB x1
  replace x2 := cell_on hB x2
  replace hv := hv.trans (hB.mono hv.size)
  replace hA := hA.below hB
  clear hB
  go_wp2_with fail
  refine (d1 _).mono ?_
  rintro en w7 ⟨rfl, hB⟩
  replace x0 := cell_on hB x0
  replace x1 := cell_on hB x1
  replace x2 := cell_on hB x2
  replace hv := hv.trans (hB.mono hv.size)
  replace hA := hA.below hB
  clear hB
  go_wp2_with fail
  refine (a21 _ _ _ hv hA).mono ?_
  rintro en w8 ⟨rfl, hB⟩
  replace x0 := cell_on hB x0
  replace x1 := cell_on hB x1
  replace x2 := cell_on hB x2
  replace hv := hv.trans (hB.mono hv.size)
  replace hA := hA.below hB
  clear hB
  go_wp2_with fail
  refine (a21 _ _ _ hv hA).mono ?_
  rintro en w9 ⟨rfl, hB⟩
  replace x0 := cell_on hB x0
  replace x1 := cell_on hB x1
  replace x2 := cell_on hB x2
  replace hv := hv.trans (hB.mono hv.size)
  replace hA := hA.below hB
  clear hB
  go_wp2_with fail
  refine (d2 _).mono ?_
  rintro en w10 ⟨rfl, hB⟩
  replace x0 := cell_on hB x0
  replace x1 := cell_on hB x1
  replace x2 := cell_on hB x2
  replace hv := hv.trans (hB.mono hv.size)
  replace hA := hA.below hB
  clear hB
  go_wp2_with fail
  refine (aw _ hv).mono ?_
  rintro en w11 ⟨rfl, hB⟩
  replace x0 := cell_on hB x0
  replace x1 := cell_on hB x1
  replace x2 := cell_on hB x2
  replace hv := hv.trans (hB.mono hv.size)
  replace hA := hA.below hB
  clear hB
  go_wp2
  go_ret
  exact ⟨rfl, hv⟩
end Go.Proofs.YtlfnnalepdjagaaDoor.C
