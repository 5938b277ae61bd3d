/- awake. -/
import Derived.OwnWalk
import Derived.BigRegion
import Derived.Deep.RegionHeld3
import Derived.Test.YtlfnnalepdjagaaDoorWX
import Derived.Test.YtlfnnalepdjagaaDoorAw
namespace Go.Proofs.YtlfnnalepdjagaaDoor.C
open Go.RowKit Go.Shelf Go.Maps Go.Proofs.YtlfnnalepdjagaaDoorW.PrintWords Go.Proofs.YtlfnnalepdjagaaDoorW.PrintLast Go.Proofs.YtlfnnalepdjagaaDoorW.PrintMore
set_option linter.unusedVariables false
set_option linter.unusedSimpArgs false
theorem eqA35 (d : Nat) (w : World) (x0 y0 x1 y1 : Int) :
    (Op.equalIn (d + 2) 35 (.agg #[.int .i64 x0, .int .i64 x1]) (.agg #[.int .i64 y0, .int .i64 y1])).run Tryd.prog w = .ok (x0 == y0 && (x1 == y1)) w := by
  refine eqA_of Tryd.underlying35 (by kernel_rfl) ?_
  refine eqf_cons (by rfl) (by go_simp; rfl) (by go_simp; rfl) (by go_simp) ?_
  exact eqf_last (by rfl) (by go_simp; rfl) (by go_simp; rfl) (by go_simp)
attribute [local go_sem high] eqA35
set_option maxHeartbeats 4000000 in
set_option maxRecDepth 100000 in
theorem awake_calls (w : World) (hL : Lim w) : Calls Tryd.prog 11 #[] w fun e w' => e = .returned (.bool true) ∧ Below w.heap.size w w' := by
  have hv := Below.refl w.heap.size w
  have a1 := fun W (hB : Below w.heap.size w W) => phaseIs_calls ⟨0, 5000, 1500, 0, 0, 0, 0, 0, []⟩ none 0 (by simp) 10 5015 W (hL.below hB) (C_nil _ _) (by simp) p1
  have a2 := fun W (hB : Below w.heap.size w W) => phaseIs_calls ⟨0, 5000, 1500, 0, 0, 0, 0, 0, []⟩ none 0 (by simp) 1 5001 W (hL.below hB) (C_nil _ _) (by simp) p2
  have a3 := fun W (hB : Below w.heap.size w W) => phaseIs_calls ⟨0, 5000, -1500, 0, 0, 0, 0, 0, []⟩ none 0 (by simp) 1 4998 W (hL.below hB) (C_nil _ _) (by simp) p3
  have a4 := fun W (hB : Below w.heap.size w W) => phaseIs_calls ⟨0, 0, 0, 8640, 0, 0, 0, 0, []⟩ none 0 (by simp) 10001 5000 W (hL.below hB) (C_nil _ _) (by simp) p4
  have a5 := fun (b : Nat) W (hB : Below w.heap.size w W) (hC : Kd.C k3 W (some ⟨b, 0, none⟩) 1 [(2, 4, 2000)]) => phaseIs_calls ⟨0, 0, 0, 0, 0, 0, 0, 0, [(2, 4, 2000)]⟩ (some ⟨b, 0, none⟩) 1 (by simp) 4 0 W (hL.below hB) hC (by simp) p5
  have a6 := fun (b : Nat) W (hB : Below w.heap.size w W) (hC : Kd.C k3 W (some ⟨b, 0, none⟩) 1 [(2, 4, 2000)]) => phaseIs_calls ⟨0, 0, 0, 0, 0, 0, 0, 0, [(2, 4, 2000)]⟩ (some ⟨b, 0, none⟩) 1 (by simp) 5 2 W (hL.below hB) hC (by simp) p6
  have a7 := fun (b : Nat) W (hB : Below w.heap.size w W) (hC : Kd.C k3 W (some ⟨b, 0, none⟩) 1 [(2, 4, 2000)]) => phaseIs_calls ⟨0, 0, 0, 0, 0, 0, 0, 0, [(2, 4, 2000)]⟩ (some ⟨b, 0, none⟩) 1 (by simp) 10 12 W (hL.below hB) hC (by simp) p7
  have a8 := fun (b : Nat) W (hB : Below w.heap.size w W) (hC : Kd.C k3 W (some ⟨b, 0, none⟩) 1 [(1, 4, 700)]) => phaseIs_calls ⟨0, 0, 0, 0, 0, 0, 0, 0, [(1, 4, 700)]⟩ (some ⟨b, 0, none⟩) 1 (by simp) 3 0 W (hL.below hB) hC (by simp) p8
  have a9 := fun (b : Nat) W (hB : Below w.heap.size w W) (hC : Kd.C k3 W (some ⟨b, 0, none⟩) 1 [(1, 4, 700)]) => phaseIs_calls ⟨0, 0, 0, 0, 0, 0, 0, 0, [(1, 4, 700)]⟩ (some ⟨b, 0, none⟩) 1 (by simp) 4 700 W (hL.below hB) hC (by simp) p9
  have a45 := fun W => plain_calls ⟨0, 0, 0, 0, 0, 0, 0, 0, []⟩ none 0 (by simp) W (C_nil _ _)
  have b45 := fun W => plain_calls ⟨0, -3, 0, 0, 0, 0, 0, 0, []⟩ none 0 (by simp) W (C_nil _ _)
  have a22 : ∀ Ah Ak W, Below w.heap.size w W → WAt 51 W Ah Ak CH1 [⟨1, 0, 0, 0, 0, 0, 0, 0, []⟩] → Calls Tryd.prog 22 #[woV 0 Ah 1 1 Ak 1 1, .int .i64 0, .int .i64 6] W fun e w' => e = .returned (.tuple #[.int .i64 20800, .int .i64 0]) ∧ Below W.heap.size W w' := fun Ah Ak W hB hA => by
    have := Temperature_calls 0 Ah 1 Ak 1 CH1 [⟨1, 0, 0, 0, 0, 0, 0, 0, []⟩] 0 6 W (hL.below hB) hA (fun y hy ev he => by simp at hy; subst hy; simp at he)
    rw [pT] at this
    exact this
  have a13 : ∀ Ah Ak W, Below w.heap.size w W → WAt 51 W Ah Ak CH1 [ckM] → Calls Tryd.prog 13 #[woV 0 Ah 1 1 Ak 1 1, .int .i64 0, .int .i64 7] W fun e w' => e = .returned (.tuple #[.agg #[.int .i64 6, .int .i64 999999999999997], .int .i64 0]) ∧ Below W.heap.size W w' := fun Ah Ak W hB hA => by
    have := Read_calls 0 Ah 1 Ak 1 CH1 [ckM] 0 7 W (hL.below hB) hA (fun y hy ev he => by simp at hy; subst hy; simp at he)
    rw [pR] at this
    exact this
  have a15 : ∀ Ah Ak W, Below w.heap.size w W → WAt 51 W Ah Ak CH1 [ckM] → Calls Tryd.prog 15 #[woV 0 Ah 1 1 Ak 1 1, .int .i64 0, .agg #[.int .i64 6, .int .i64 999999999999997]] W fun e w' => e = .returned (.tuple #[.int .i64 7, .int .i64 0]) ∧ Below W.heap.size W w' := fun Ah Ak W hB hA => by
    have := Back_ok 0 Ah 1 Ak 1 CH1 [ckM] 0 6 999999999999997 W (hL.below hB) hA (fun y hy ev he => by simp at hy; subst hy; simp at he) (by kernel_rfl) (by kernel_rfl)
    refine this.mono ?_
    rintro e w' ⟨r, hr, h1, h2, rfl, hB2⟩
    rw [pB hr h1 h2]
    exact ⟨rfl, hB2⟩
  clear hL
  go_enter Tryd.func11, Tryd.ntmps11
  go_wp2_with fail
  refine (a1 _ hv).mono ?_
  rintro en w1 ⟨rfl, hB⟩
  replace hv := hv.trans (hB.mono hv.size)
  clear hB a1
  go_wp2_with fail
  refine (a2 _ hv).mono ?_
  rintro en w2 ⟨rfl, hB⟩
  replace hv := hv.trans (hB.mono hv.size)
  clear hB a2
  go_wp2_with fail
  refine (a3 _ hv).mono ?_
  rintro en w3 ⟨rfl, hB⟩
  replace hv := hv.trans (hB.mono hv.size)
  clear hB a3
  go_wp2_with fail
  refine (a4 _ hv).mono ?_
  rintro en w4 ⟨rfl, hB⟩
  replace hv := hv.trans (hB.mono hv.size)
  clear hB a4
  go_wp2_with fail
  obtain ⟨w5, hw5⟩ : ∃ w5, (((w4.alloc (.cells #[.int .i64 2, .int .i64 4, .int .i64 2000] 51)).alloc (.cells #[.int .i64 0, .int .i64 0, .int .i64 0, .int .i64 0, .int .i64 0, .int .i64 0, .int .i64 0, .int .i64 0, .slice (some ⟨w4.heap.size, 0, none⟩) 1 1] 48)).alloc (.cells #[.int .i64 1, .int .i64 4, .int .i64 700] 51)).alloc (.cells #[.int .i64 0, .int .i64 0, .int .i64 0, .int .i64 0, .int .i64 0, .int .i64 0, .int .i64 0, .int .i64 0, .slice (some ⟨w4.heap.size + 1 + 1, 0, none⟩) 1 1] 48) = w5 := ⟨_, rfl⟩
  try rw [hw5]
  have hB : Below w4.heap.size w4 w5 := by rw [← hw5]; exact ((((Below.refl _ w4).alloc (by first | exact Nat.le_refl _ | (simp; done) | (simp; omega)) _).alloc (by first | exact Nat.le_refl _ | (simp; done) | (simp; omega)) _).alloc (by first | exact Nat.le_refl _ | (simp; done) | (simp; omega)) _).alloc (by first | exact Nat.le_refl _ | (simp; done) | (simp; omega)) _
  have ke : w5.heap[w4.heap.size]? = some (.cells #[.int .i64 2, .int .i64 4, .int .i64 2000] 51 (0, 0)) := by rw [← hw5]; exact al_old (al_old (al_old (al_new _ _ _ (by first | rfl | (simp; done) | (simp; omega)))))
  have e0 : w5.cell? ⟨w4.heap.size, 0, none⟩ = some (.int .i64 2) := blk_cell ke 0
  have e1 : w5.cell? ⟨w4.heap.size, 1, none⟩ = some (.int .i64 4) := blk_cell ke 1
  have e2 : w5.cell? ⟨w4.heap.size, 2, none⟩ = some (.int .i64 2000) := blk_cell ke 2
  have kc : w5.heap[w4.heap.size + 1]? = some (.cells #[.int .i64 0, .int .i64 0, .int .i64 0, .int .i64 0, .int .i64 0, .int .i64 0, .int .i64 0, .int .i64 0, .slice (some ⟨w4.heap.size, 0, none⟩) 1 1] 48 (0, 0)) := by rw [← hw5]; exact al_old (al_old (al_new _ _ _ (by first | rfl | (simp; done) | (simp; omega))))
  have c0 : w5.cell? ⟨w4.heap.size + 1, 0, none⟩ = some (.int .i64 0) := blk_cell kc 0
  have c1 : w5.cell? ⟨w4.heap.size + 1, 1, none⟩ = some (.int .i64 0) := blk_cell kc 1
  have c2 : w5.cell? ⟨w4.heap.size + 1, 2, none⟩ = some (.int .i64 0) := blk_cell kc 2
  have c3 : w5.cell? ⟨w4.heap.size + 1, 3, none⟩ = some (.int .i64 0) := blk_cell kc 3
  have c4 : w5.cell? ⟨w4.heap.size + 1, 4, none⟩ = some (.int .i64 0) := blk_cell kc 4
  have c5 : w5.cell? ⟨w4.heap.size + 1, 5, none⟩ = some (.int .i64 0) := blk_cell kc 5
  have c6 : w5.cell? ⟨w4.heap.size + 1, 6, none⟩ = some (.int .i64 0) := blk_cell kc 6
  have c7 : w5.cell? ⟨w4.heap.size + 1, 7, none⟩ = some (.int .i64 0) := blk_cell kc 7
  have c8 : w5.cell? ⟨w4.heap.size + 1, 8, none⟩ = some (.slice (some ⟨w4.heap.size, 0, none⟩) 1 1) := blk_cell kc 8
  have kf : w5.heap[w4.heap.size + 1 + 1]? = some (.cells #[.int .i64 1, .int .i64 4, .int .i64 700] 51 (0, 0)) := by rw [← hw5]; exact al_old (al_new _ _ _ (by first | rfl | (simp; done) | (simp; omega)))
  have f0 : w5.cell? ⟨w4.heap.size + 1 + 1, 0, none⟩ = some (.int .i64 1) := blk_cell kf 0
  have f1 : w5.cell? ⟨w4.heap.size + 1 + 1, 1, none⟩ = some (.int .i64 4) := blk_cell kf 1
  have f2 : w5.cell? ⟨w4.heap.size + 1 + 1, 2, none⟩ = some (.int .i64 700) := blk_cell kf 2
  have kd : w5.heap[w4.heap.size + 1 + 1 + 1]? = some (.cells #[.int .i64 0, .int .i64 0, .int .i64 0, .int .i64 0, .int .i64 0, .int .i64 0, .int .i64 0, .int .i64 0, .slice (some ⟨w4.heap.size + 1 + 1, 0, none⟩) 1 1] 48 (0, 0)) := by rw [← hw5]; exact al_new _ _ _ (by first | rfl | (simp; done) | (simp; omega))
  have d0 : w5.cell? ⟨w4.heap.size + 1 + 1 + 1, 0, none⟩ = some (.int .i64 0) := blk_cell kd 0
  have d1 : w5.cell? ⟨w4.heap.size + 1 + 1 + 1, 1, none⟩ = some (.int .i64 0) := blk_cell kd 1
  have d2 : w5.cell? ⟨w4.heap.size + 1 + 1 + 1, 2, none⟩ = some (.int .i64 0) := blk_cell kd 2
  have d3 : w5.cell? ⟨w4.heap.size + 1 + 1 + 1, 3, none⟩ = some (.int .i64 0) := blk_cell kd 3
  have d4 : w5.cell? ⟨w4.heap.size + 1 + 1 + 1, 4, none⟩ = some (.int .i64 0) := blk_cell kd 4
  have d5 : w5.cell? ⟨w4.heap.size + 1 + 1 + 1, 5, none⟩ = some (.int .i64 0) := blk_cell kd 5
  have d6 : w5.cell? ⟨w4.heap.size + 1 + 1 + 1, 6, none⟩ = some (.int .i64 0) := blk_cell kd 6
  have d7 : w5.cell? ⟨w4.heap.size + 1 + 1 + 1, 7, none⟩ = some (.int .i64 0) := blk_cell kd 7
  have d8 : w5.cell? ⟨w4.heap.size + 1 + 1 + 1, 8, none⟩ = some (.slice (some ⟨w4.heap.size + 1 + 1, 0, none⟩) 1 1) := blk_cell kd 8
  replace hv := hv.trans (hB.mono hv.size)
  clear hB hw5
  clear kc kd e0 e1 e2 f0 f1 f2
  refine (a5 w4.heap.size _ hv (blk_C k3 [((2, 4, 2000), [.int .i64 2, .int .i64 4, .int .i64 2000])] ke (by simp; rfl) (fun y hy => by simp at hy; subst hy; exact k3_mk _ (2, 4, 2000)) (by simp))).mono ?_
  rintro en w6 ⟨rfl, hB⟩
  replace ke := blk_on hB ke
  replace kf := blk_on hB kf
  replace c0 := cell_on hB c0
  replace c1 := cell_on hB c1
  replace c2 := cell_on hB c2
  replace c3 := cell_on hB c3
  replace c4 := cell_on hB c4
  replace c5 := cell_on hB c5
  replace c6 := cell_on hB c6
  replace c7 := cell_on hB c7
  replace c8 := cell_on hB c8
  replace d0 := cell_on hB d0
  replace d1 := cell_on hB d1
  replace d2 := cell_on hB d2
  replace d3 := cell_on hB d3
  replace d4 := cell_on hB d4
  replace d5 := cell_on hB d5
  replace d6 := cell_on hB d6
  replace d7 := cell_on hB d7
  replace d8 := cell_on hB d8
  replace hv := hv.trans (hB.mono hv.size)
  clear hB a5
  go_wp2_with fail
  refine (a6 w4.heap.size _ hv (blk_C k3 [((2, 4, 2000), [.int .i64 2, .int .i64 4, .int .i64 2000])] ke (by simp; rfl) (fun y hy => by simp at hy; subst hy; exact k3_mk _ (2, 4, 2000)) (by simp))).mono ?_
  rintro en w7 ⟨rfl, hB⟩
  replace ke := blk_on hB ke
  replace kf := blk_on hB kf
  replace c0 := cell_on hB c0
  replace c1 := cell_on hB c1
  replace c2 := cell_on hB c2
  replace c3 := cell_on hB c3
  replace c4 := cell_on hB c4
  replace c5 := cell_on hB c5
  replace c6 := cell_on hB c6
  replace c7 := cell_on hB c7
  replace c8 := cell_on hB c8
  replace d0 := cell_on hB d0
  replace d1 := cell_on hB d1
  replace d2 := cell_on hB d2
  replace d3 := cell_on hB d3
  replace d4 := cell_on hB d4
  replace d5 := cell_on hB d5
  replace d6 := cell_on hB d6
  replace d7 := cell_on hB d7
  replace d8 := cell_on hB d8
  replace hv := hv.trans (hB.mono hv.size)
  clear hB a6
  go_wp2_with fail
  refine (a7 w4.heap.size _ hv (blk_C k3 [((2, 4, 2000), [.int .i64 2, .int .i64 4, .int .i64 2000])] ke (by simp; rfl) (fun y hy => by simp at hy; subst hy; exact k3_mk _ (2, 4, 2000)) (by simp))).mono ?_
  rintro en w8 ⟨rfl, hB⟩
  replace ke := blk_on hB ke
  replace kf := blk_on hB kf
  replace c0 := cell_on hB c0
  replace c1 := cell_on hB c1
  replace c2 := cell_on hB c2
  replace c3 := cell_on hB c3
  replace c4 := cell_on hB c4
  replace c5 := cell_on hB c5
  replace c6 := cell_on hB c6
  replace c7 := cell_on hB c7
  replace c8 := cell_on hB c8
  replace d0 := cell_on hB d0
  replace d1 := cell_on hB d1
  replace d2 := cell_on hB d2
  replace d3 := cell_on hB d3
  replace d4 := cell_on hB d4
  replace d5 := cell_on hB d5
  replace d6 := cell_on hB d6
  replace d7 := cell_on hB d7
  replace d8 := cell_on hB d8
  replace hv := hv.trans (hB.mono hv.size)
  clear hB a7
  go_wp2_with fail
  refine (a8 (w4.heap.size + 1 + 1) _ hv (blk_C k3 [((1, 4, 700), [.int .i64 1, .int .i64 4, .int .i64 700])] kf (by simp; rfl) (fun y hy => by simp at hy; subst hy; exact k3_mk _ (1, 4, 700)) (by simp))).mono ?_
  rintro en w9 ⟨rfl, hB⟩
  replace ke := blk_on hB ke
  replace kf := blk_on hB kf
  replace c0 := cell_on hB c0
  replace c1 := cell_on hB c1
  replace c2 := cell_on hB c2
  replace c3 := cell_on hB c3
  replace c4 := cell_on hB c4
  replace c5 := cell_on hB c5
  replace c6 := cell_on hB c6
  replace c7 := cell_on hB c7
  replace c8 := cell_on hB c8
  replace d0 := cell_on hB d0
  replace d1 := cell_on hB d1
  replace d2 := cell_on hB d2
  replace d3 := cell_on hB d3
  replace d4 := cell_on hB d4
  replace d5 := cell_on hB d5
  replace d6 := cell_on hB d6
  replace d7 := cell_on hB d7
  replace d8 := cell_on hB d8
  replace hv := hv.trans (hB.mono hv.size)
  clear hB a8
  go_wp2_with fail
  refine (a9 (w4.heap.size + 1 + 1) _ hv (blk_C k3 [((1, 4, 700), [.int .i64 1, .int .i64 4, .int .i64 700])] kf (by simp; rfl) (fun y hy => by simp at hy; subst hy; exact k3_mk _ (1, 4, 700)) (by simp))).mono ?_
  rintro en w10 ⟨rfl, hB⟩
  replace ke := blk_on hB ke
  replace kf := blk_on hB kf
  replace c0 := cell_on hB c0
  replace c1 := cell_on hB c1
  replace c2 := cell_on hB c2
  replace c3 := cell_on hB c3
  replace c4 := cell_on hB c4
  replace c5 := cell_on hB c5
  replace c6 := cell_on hB c6
  replace c7 := cell_on hB c7
  replace c8 := cell_on hB c8
  replace d0 := cell_on hB d0
  replace d1 := cell_on hB d1
  replace d2 := cell_on hB d2
  replace d3 := cell_on hB d3
  replace d4 := cell_on hB d4
  replace d5 := cell_on hB d5
  replace d6 := cell_on hB d6
  replace d7 := cell_on hB d7
  replace d8 := cell_on hB d8
  replace hv := hv.trans (hB.mono hv.size)
  clear hB a9
  clear ke kf c0 c1 c2 c3 c4 c5 c6 c7 c8 d0 d1 d2 d3 d4 d5 d6 d7 d8
  go_wp2_with fail
  refine (a45 _).mono ?_
  rintro en w11 ⟨Ah, Ak, rfl, hA, hB⟩
  replace hv := hv.trans (hB.mono hv.size)
  clear hB a45
  go_wp2_with fail
  refine (a22 _ _ _ hv hA).mono ?_
  rintro en w12 ⟨rfl, hB⟩
  replace hv := hv.trans (hB.mono hv.size)
  clear hB hA a22
  go_wp2_with fail
  refine (b45 _).mono ?_
  rintro en w13 ⟨Ah, Ak, rfl, hA, hB⟩
  replace hv := hv.trans (hB.mono hv.size)
  clear hB
  go_wp2_with fail
  refine (a13 _ _ _ hv hA).mono ?_
  rintro en w14 ⟨rfl, hB⟩
  replace hv := hv.trans (hB.mono hv.size)
  clear hB hA a13
  go_upto_region 9 with fail
  obtain ⟨w15, hw15⟩ : ∃ w15, w14.alloc (.cells #[.int .i64 6, .int .i64 999999999999997] 35) = w15 := ⟨_, rfl⟩
  try rw [hw15]
  have hB : Below w14.heap.size w14 w15 := by rw [← hw15]; exact (Below.refl _ w14).alloc (by first | exact Nat.le_refl _ | (simp; done) | (simp; omega)) _
  have km : w15.heap[w14.heap.size]? = some (.cells #[.int .i64 6, .int .i64 999999999999997] 35 (0, 0)) := by rw [← hw15]; exact al_new _ _ _ (by first | rfl | (simp; done) | (simp; omega))
  have m0 : w15.cell? ⟨w14.heap.size, 0, none⟩ = some (.int .i64 6) := blk_cell km 0
  have m1 : w15.cell? ⟨w14.heap.size, 1, none⟩ = some (.int .i64 999999999999997) := blk_cell km 1
  clear km
  replace hv := hv.trans (hB.mono hv.size)
  clear hB hw15
  go_wp2_with fail
  refine (b45 _).mono ?_
  rintro en w16 ⟨Ah, Ak, rfl, hA, hB⟩
  replace m0 := cell_on hB m0
  replace m1 := cell_on hB m1
  replace hv := hv.trans (hB.mono hv.size)
  clear hB b45
  go_wp2_with fail
  refine (a15 _ _ _ hv hA).mono ?_
  rintro en w17 ⟨rfl, hB⟩
  replace m0 := cell_on hB m0
  replace m1 := cell_on hB m1
  replace hv := hv.trans (hB.mono hv.size)
  clear hB hA a15
  go_wp2_with fail
  go_ret
  exact ⟨rfl, hv⟩
end Go.Proofs.YtlfnnalepdjagaaDoor.C
