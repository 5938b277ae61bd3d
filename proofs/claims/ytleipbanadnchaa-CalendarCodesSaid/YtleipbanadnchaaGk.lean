/- Contracts of both FromGps in general, by hand. -/
import Derived.OwnWalk
import Derived.Test.YtleipbanadnchaaGj
namespace Go.Proofs.Ytleipbanadnchaa.C
open Go.RowKit Go.Shelf Go.Maps Go.Proofs.YtleipbanadnchaaW.PrintWords Go.Proofs.YtleipbanadnchaaW.PrintLast Go.Proofs.YtleipbanadnchaaW.PrintMore
set_option linter.unusedVariables false
set_option linter.unusedSimpArgs false
def fromGV (b : Int) (l : List (Int × Int)) (u p q near : Int) : Int := if fromGE b l u p q near = 0 then fromGB l u p q near else 0
set_option maxHeartbeats 2000000 in
set_option maxRecDepth 100000 in
theorem FromGps_calls (b u : Int) (A : Option Addr) (c : Nat) (l : List (Int × Int)) (p q near : Int) (w : World) (hr : Kd.C kl w A l.length l) :
    Calls Try.prog 38 #[tabV b A l.length c u, .agg #[.int .i64 p, .int .i64 q], .int .i64 near] w fun e w' => e = .returned (.tuple #[.int .i64 (fromGV b l u p q near), .int .i64 (fromGE b l u p q near)]) ∧ Below w.heap.size w w' := by
  by_cases hk : checkF b l u = 0
  · by_cases hok : (0 ≤ p ∧ p ≤ 1023) ∧ (0 ≤ q ∧ q ≤ 604799) ∧ (-1000000000000 ≤ near ∧ near ≤ 1000000000000)
    · have h := FromGps_main b u A c l p q near w hr hk hok.1 hok.2.1 hok.2.2
      have hE : fromGE b l u p q near = if fromGB l u p q near < 0 then 4 else 0 := by unfold fromGE; rw [if_pos hk, if_pos (by unfold gpsOk; simp; omega)]
      have hV : fromGV b l u p q near = if fromGB l u p q near < 0 then 0 else fromGB l u p q near := by
        unfold fromGV; rw [hE]
        by_cases hg : fromGB l u p q near < 0
        · rw [if_pos hg, if_neg (by omega), if_pos hg]
        · rw [if_neg hg, if_pos rfl, if_neg hg]
      rw [hV, hE]
      exact h
    · have hE : fromGE b l u p q near = 6 := by unfold fromGE; rw [if_pos hk, if_neg (by unfold gpsOk; simp; omega)]
      have hV : fromGV b l u p q near = 0 := by unfold fromGV; rw [hE, if_neg (by omega)]
      rw [hV, hE]
      have HR := Aside0.mk hr
      have a81 := fun w => within_calls p 0 1023 w
      have b81 := fun w => within_calls q 0 604799 w
      have c81 := fun w => within_calls near (-1000000000000) 1000000000000 w
      have a62 := fun w h => open_calls b u A c l w h
      rw [hk] at a62
      clear hr hk hE hV
      by_cases hp0 : 0 ≤ p ∧ p ≤ 1023
      rotate_left
      · rw [show (decide (0 ≤ p) && decide (p ≤ 1023)) = false by simp; omega] at a81
        clear hok hp0
        go_enter Try.func38, Try.ntmps38
        go_wp2_with fail
        refine (a62 _ (Kd.C_below HR.out (((Below.refl _ w).alloc (Nat.le_refl _) _).alloc (by simp) _))).mono ?_
        rintro en w1 ⟨_, h2', hB⟩
        obtain ⟨kb, rfl, hkb, hct⟩ := (by first | exact h2' rfl | exact h2' trivial | exact h2')
        have hv : Below w.heap.size w w1 := (((Below.refl _ w).alloc (Nat.le_refl _) _).alloc (by simp) _).trans (hB.mono (by simp; omega))
        have kd : w1.heap[w.heap.size + 1]? = some (.cells #[.int .i64 p, .int .i64 q] 54 (0, 0)) := (hB.block _ (by simp)).trans (al_new _ _ _ (by simp))
        have x0 : w1.cell? ⟨w.heap.size + 1, 0, none⟩ = some (.int .i64 p) := blk_cell kd 0
        have x1 : w1.cell? ⟨w.heap.size + 1, 1, none⟩ = some (.int .i64 q) := blk_cell kd 1
        clear hB kd
        go_wp2_with fail
        refine (a81 _).mono ?_
        rintro en w2 ⟨rfl, hB⟩
        replace x0 := cell_on hB x0
        replace x1 := cell_on hB x1
        replace hv := hv.trans (hB.mono hv.size)
        clear hB
        go_wp2
        go_ret2
        exact ⟨rfl, hv⟩
      rw [show (decide (0 ≤ p) && decide (p ≤ 1023)) = true by simp; omega] at a81
      by_cases hp1 : 0 ≤ q ∧ q ≤ 604799
      rotate_left
      · rw [show (decide (0 ≤ q) && decide (q ≤ 604799)) = false by simp; omega] at b81
        clear hok hp1
        go_enter Try.func38, Try.ntmps38
        go_wp2_with fail
        refine (a62 _ (Kd.C_below HR.out (((Below.refl _ w).alloc (Nat.le_refl _) _).alloc (by simp) _))).mono ?_
        rintro en w1 ⟨_, h2', hB⟩
        obtain ⟨kb, rfl, hkb, hct⟩ := (by first | exact h2' rfl | exact h2' trivial | exact h2')
        have hv : Below w.heap.size w w1 := (((Below.refl _ w).alloc (Nat.le_refl _) _).alloc (by simp) _).trans (hB.mono (by simp; omega))
        have kd : w1.heap[w.heap.size + 1]? = some (.cells #[.int .i64 p, .int .i64 q] 54 (0, 0)) := (hB.block _ (by simp)).trans (al_new _ _ _ (by simp))
        have x0 : w1.cell? ⟨w.heap.size + 1, 0, none⟩ = some (.int .i64 p) := blk_cell kd 0
        have x1 : w1.cell? ⟨w.heap.size + 1, 1, none⟩ = some (.int .i64 q) := blk_cell kd 1
        clear hB kd
        go_wp2_with fail
        refine (a81 _).mono ?_
        rintro en w2 ⟨rfl, hB⟩
        replace x0 := cell_on hB x0
        replace x1 := cell_on hB x1
        replace hv := hv.trans (hB.mono hv.size)
        clear hB
        go_wp2_with fail
        refine (b81 _).mono ?_
        rintro en w3 ⟨rfl, hB⟩
        replace x0 := cell_on hB x0
        replace x1 := cell_on hB x1
        replace hv := hv.trans (hB.mono hv.size)
        clear hB
        go_wp2
        go_ret2
        exact ⟨rfl, hv⟩
      rw [show (decide (0 ≤ q) && decide (q ≤ 604799)) = true by simp; omega] at b81
      by_cases hp2 : -1000000000000 ≤ near ∧ near ≤ 1000000000000
      rotate_left
      · rw [show (decide (-1000000000000 ≤ near) && decide (near ≤ 1000000000000)) = false by simp; omega] at c81
        clear hok hp2
        go_enter Try.func38, Try.ntmps38
        go_wp2_with fail
        refine (a62 _ (Kd.C_below HR.out (((Below.refl _ w).alloc (Nat.le_refl _) _).alloc (by simp) _))).mono ?_
        rintro en w1 ⟨_, h2', hB⟩
        obtain ⟨kb, rfl, hkb, hct⟩ := (by first | exact h2' rfl | exact h2' trivial | exact h2')
        have hv : Below w.heap.size w w1 := (((Below.refl _ w).alloc (Nat.le_refl _) _).alloc (by simp) _).trans (hB.mono (by simp; omega))
        have kd : w1.heap[w.heap.size + 1]? = some (.cells #[.int .i64 p, .int .i64 q] 54 (0, 0)) := (hB.block _ (by simp)).trans (al_new _ _ _ (by simp))
        have x0 : w1.cell? ⟨w.heap.size + 1, 0, none⟩ = some (.int .i64 p) := blk_cell kd 0
        have x1 : w1.cell? ⟨w.heap.size + 1, 1, none⟩ = some (.int .i64 q) := blk_cell kd 1
        clear hB kd
        go_wp2_with fail
        refine (a81 _).mono ?_
        rintro en w2 ⟨rfl, hB⟩
        replace x0 := cell_on hB x0
        replace x1 := cell_on hB x1
        replace hv := hv.trans (hB.mono hv.size)
        clear hB
        go_wp2_with fail
        refine (b81 _).mono ?_
        rintro en w3 ⟨rfl, hB⟩
        replace x0 := cell_on hB x0
        replace x1 := cell_on hB x1
        replace hv := hv.trans (hB.mono hv.size)
        clear hB
        go_wp2_with fail
        refine (c81 _).mono ?_
        rintro en w4 ⟨rfl, hB⟩
        replace x0 := cell_on hB x0
        replace x1 := cell_on hB x1
        replace hv := hv.trans (hB.mono hv.size)
        clear hB
        go_wp2
        go_ret2
        exact ⟨rfl, hv⟩
      rw [show (decide (-1000000000000 ≤ near) && decide (near ≤ 1000000000000)) = true by simp; omega] at c81
      exact absurd ⟨hp0, hp1, hp2⟩ hok
  · have hE : fromGE b l u p q near = checkF b l u := by unfold fromGE; rw [if_neg hk]
    have hV : fromGV b l u p q near = 0 := by unfold fromGV; rw [hE, if_neg hk]
    rw [hV, hE]
    have HR := Aside0.mk hr
    have q1 : (checkF b l u == 0) = false := beq_eq_false_iff_ne.2 hk
    have q2 : (checkF b l u != 0) = true := bne_iff_ne.2 hk
    have HK := Aside0.mk hk
    have a62 := fun w h => open_calls b u A c l w h
    clear hr hk hE hV
    generalize checkF b l u = er at *
    go_enter Try.func38, Try.ntmps38
    go_wp2_with fail
    refine (a62 _ (Kd.C_below HR.out (((Below.refl _ w).alloc (Nat.le_refl _) _).alloc (by simp) _))).mono ?_
    rintro en w1 ⟨h1', _, hB⟩
    obtain rfl := h1' HK.out
    have hv : Below w.heap.size w w1 := (((Below.refl _ w).alloc (Nat.le_refl _) _).alloc (by simp) _).trans (hB.mono (by simp; omega))
    clear hB
    go_wp2
    go_ret2
    exact ⟨rfl, hv⟩
set_option maxHeartbeats 2000000 in
set_option maxRecDepth 100000 in
theorem rFromGps_calls (b u : Int) (A : Option Addr) (c : Nat) (l : List (Int × Int)) (p q near : Int) (w : World) (hr : Kd.C kl w A l.length l) :
    Calls Try.prog 78 #[tabV b A l.length c u, .agg #[.int .i64 p, .int .i64 q], .int .i64 near] w fun e w' => e = .returned (.tuple #[.int .i64 (fromGV b l u p q near), .int .i64 (fromGE b l u p q near)]) ∧ Below w.heap.size w w' := by
  by_cases hk : checkF b l u = 0
  · by_cases hok : (0 ≤ p ∧ p ≤ 1023) ∧ (0 ≤ q ∧ q ≤ 604799) ∧ (-1000000000000 ≤ near ∧ near ≤ 1000000000000)
    · have h := rFromGps_main b u A c l p q near w hr hk hok.1 hok.2.1 hok.2.2
      have hE : fromGE b l u p q near = if fromGB l u p q near < 0 then 4 else 0 := by unfold fromGE; rw [if_pos hk, if_pos (by unfold gpsOk; simp; omega)]
      have hV : fromGV b l u p q near = if fromGB l u p q near < 0 then 0 else fromGB l u p q near := by
        unfold fromGV; rw [hE]
        by_cases hg : fromGB l u p q near < 0
        · rw [if_pos hg, if_neg (by omega), if_pos hg]
        · rw [if_neg hg, if_pos rfl, if_neg hg]
      rw [hV, hE]
      exact h
    · have hE : fromGE b l u p q near = 6 := by unfold fromGE; rw [if_pos hk, if_neg (by unfold gpsOk; simp; omega)]
      have hV : fromGV b l u p q near = 0 := by unfold fromGV; rw [hE, if_neg (by omega)]
      rw [hV, hE]
      have HR := Aside0.mk hr
      have a81 := fun w => rin_calls p 0 1023 w
      have b81 := fun w => rin_calls q 0 604799 w
      have c81 := fun w => rin_calls near (-1000000000000) 1000000000000 w
      have a56 := fun w h => rTotal_calls b u A c l w h
      unfold totalR at a56
      rw [if_pos hk] at a56
      simp only at a56
      clear hr hk hE hV
      by_cases hp0 : 0 ≤ p ∧ p ≤ 1023
      rotate_left
      · rw [show (decide (0 ≤ p) && decide (p ≤ 1023)) = false by simp; omega] at a81
        clear hok hp0
        go_enter Try.func78, Try.ntmps78
        go_wp2_with fail
        refine (a56 _ (Kd.C_below HR.out (((Below.refl _ w).alloc (Nat.le_refl _) _).alloc (by simp) _))).mono ?_
        rintro en w1 ⟨rfl, hB⟩
        have hv : Below w.heap.size w w1 := (((Below.refl _ w).alloc (Nat.le_refl _) _).alloc (by simp) _).trans (hB.mono (by simp; omega))
        have kd : w1.heap[w.heap.size + 1]? = some (.cells #[.int .i64 p, .int .i64 q] 125 (0, 0)) := (hB.block _ (by simp)).trans (al_new _ _ _ (by simp))
        have x0 : w1.cell? ⟨w.heap.size + 1, 0, none⟩ = some (.int .i64 p) := blk_cell kd 0
        have x1 : w1.cell? ⟨w.heap.size + 1, 1, none⟩ = some (.int .i64 q) := blk_cell kd 1
        clear hB kd
        go_wp2_with fail
        refine (a81 _).mono ?_
        rintro en w2 ⟨rfl, hB⟩
        replace x0 := cell_on hB x0
        replace x1 := cell_on hB x1
        replace hv := hv.trans (hB.mono hv.size)
        clear hB
        go_wp2
        go_ret2
        exact ⟨rfl, hv⟩
      rw [show (decide (0 ≤ p) && decide (p ≤ 1023)) = true by simp; omega] at a81
      by_cases hp1 : 0 ≤ q ∧ q ≤ 604799
      rotate_left
      · rw [show (decide (0 ≤ q) && decide (q ≤ 604799)) = false by simp; omega] at b81
        clear hok hp1
        go_enter Try.func78, Try.ntmps78
        go_wp2_with fail
        refine (a56 _ (Kd.C_below HR.out (((Below.refl _ w).alloc (Nat.le_refl _) _).alloc (by simp) _))).mono ?_
        rintro en w1 ⟨rfl, hB⟩
        have hv : Below w.heap.size w w1 := (((Below.refl _ w).alloc (Nat.le_refl _) _).alloc (by simp) _).trans (hB.mono (by simp; omega))
        have kd : w1.heap[w.heap.size + 1]? = some (.cells #[.int .i64 p, .int .i64 q] 125 (0, 0)) := (hB.block _ (by simp)).trans (al_new _ _ _ (by simp))
        have x0 : w1.cell? ⟨w.heap.size + 1, 0, none⟩ = some (.int .i64 p) := blk_cell kd 0
        have x1 : w1.cell? ⟨w.heap.size + 1, 1, none⟩ = some (.int .i64 q) := blk_cell kd 1
        clear hB kd
        go_wp2_with fail
        refine (a81 _).mono ?_
        rintro en w2 ⟨rfl, hB⟩
        replace x0 := cell_on hB x0
        replace x1 := cell_on hB x1
        replace hv := hv.trans (hB.mono hv.size)
        clear hB
        go_wp2_with fail
        refine (b81 _).mono ?_
        rintro en w3 ⟨rfl, hB⟩
        replace x0 := cell_on hB x0
        replace x1 := cell_on hB x1
        replace hv := hv.trans (hB.mono hv.size)
        clear hB
        go_wp2
        go_ret2
        exact ⟨rfl, hv⟩
      rw [show (decide (0 ≤ q) && decide (q ≤ 604799)) = true by simp; omega] at b81
      by_cases hp2 : -1000000000000 ≤ near ∧ near ≤ 1000000000000
      rotate_left
      · rw [show (decide (-1000000000000 ≤ near) && decide (near ≤ 1000000000000)) = false by simp; omega] at c81
        clear hok hp2
        go_enter Try.func78, Try.ntmps78
        go_wp2_with fail
        refine (a56 _ (Kd.C_below HR.out (((Below.refl _ w).alloc (Nat.le_refl _) _).alloc (by simp) _))).mono ?_
        rintro en w1 ⟨rfl, hB⟩
        have hv : Below w.heap.size w w1 := (((Below.refl _ w).alloc (Nat.le_refl _) _).alloc (by simp) _).trans (hB.mono (by simp; omega))
        have kd : w1.heap[w.heap.size + 1]? = some (.cells #[.int .i64 p, .int .i64 q] 125 (0, 0)) := (hB.block _ (by simp)).trans (al_new _ _ _ (by simp))
        have x0 : w1.cell? ⟨w.heap.size + 1, 0, none⟩ = some (.int .i64 p) := blk_cell kd 0
        have x1 : w1.cell? ⟨w.heap.size + 1, 1, none⟩ = some (.int .i64 q) := blk_cell kd 1
        clear hB kd
        go_wp2_with fail
        refine (a81 _).mono ?_
        rintro en w2 ⟨rfl, hB⟩
        replace x0 := cell_on hB x0
        replace x1 := cell_on hB x1
        replace hv := hv.trans (hB.mono hv.size)
        clear hB
        go_wp2_with fail
        refine (b81 _).mono ?_
        rintro en w3 ⟨rfl, hB⟩
        replace x0 := cell_on hB x0
        replace x1 := cell_on hB x1
        replace hv := hv.trans (hB.mono hv.size)
        clear hB
        go_wp2_with fail
        refine (c81 _).mono ?_
        rintro en w4 ⟨rfl, hB⟩
        replace x0 := cell_on hB x0
        replace x1 := cell_on hB x1
        replace hv := hv.trans (hB.mono hv.size)
        clear hB
        go_wp2
        go_ret2
        exact ⟨rfl, hv⟩
      rw [show (decide (-1000000000000 ≤ near) && decide (near ≤ 1000000000000)) = true by simp; omega] at c81
      exact absurd ⟨hp0, hp1, hp2⟩ hok
  · have hE : fromGE b l u p q near = checkF b l u := by unfold fromGE; rw [if_neg hk]
    have hV : fromGV b l u p q near = 0 := by unfold fromGV; rw [hE, if_neg hk]
    rw [hV, hE]
    have HR := Aside0.mk hr
    have q1 : (checkF b l u == 0) = false := beq_eq_false_iff_ne.2 hk
    have q2 : (checkF b l u != 0) = true := bne_iff_ne.2 hk
    have HK := Aside0.mk hk
    have a56 := fun w h => rTotal_calls b u A c l w h
    unfold totalR at a56
    rw [if_neg hk] at a56
    simp only at a56
    clear hr hk hE hV
    generalize checkF b l u = er at *
    go_enter Try.func78, Try.ntmps78
    go_wp2_with fail
    refine (a56 _ (Kd.C_below HR.out (((Below.refl _ w).alloc (Nat.le_refl _) _).alloc (by simp) _))).mono ?_
    rintro en w1 ⟨rfl, hB⟩
    have hv : Below w.heap.size w w1 := (((Below.refl _ w).alloc (Nat.le_refl _) _).alloc (by simp) _).trans (hB.mono (by simp; omega))
    clear hB
    go_wp2
    go_ret2
    exact ⟨rfl, hv⟩
end Go.Proofs.Ytleipbanadnchaa.C
