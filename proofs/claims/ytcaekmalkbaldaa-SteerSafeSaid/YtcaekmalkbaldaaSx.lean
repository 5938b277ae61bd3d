/- The walk through SteerSafe's function, by hand. -/
import Derived.Test.YtcaekmalkbaldaaSa
namespace Go.Proofs.Ytcaekmalkbaldaa.M
open Go.RowKit Go.Shelf Go.Proofs.YtcaekmalkbaldaaW.PrintWords Go.Proofs.YtcaekmalkbaldaaW.PrintLast Go.Proofs.YtcaekmalkbaldaaW.PrintMore
set_option linter.unusedVariables false
set_option linter.unusedSimpArgs false
abbrev pl (L R S N : Int) : Value := .agg #[.int .i64 L, .int .i64 R, .int .i64 S, .int .i64 N]
set_option maxRecDepth 100000 in
set_option maxHeartbeats 4000000 in
theorem steerSafe_big (L R S N e y : Int) (A : Option Addr) (c : Nat) (l : List Int) (w : World)
    (hb : (decide (rightB L R S N = true) && decide (600 < (2 * L + 1) * (2 * R + 1))) = true) :
    Calls Try.prog 7 #[pl L R S N, .int .i64 e, .int .i64 y, .slice A l.length c] w fun en w' => en = .returned (.bool true) ∧ Below w.heap.size w w' := by
  have hu23 := Try.underlying23
  have hu24 := Try.underlying24
  have a10 := fun W => meridianlaw06_big.calls L R S N _ W (big_f L R S N)
  have a12 := fun W => meridianlaw06_awake.calls true W rfl
  rw [hb] at a10
  go_enter Try.func7, Try.ntmps7
  go_wp2_with fail
  refine (a10 _).mono ?_
  rintro en w1 ⟨rfl, hB1⟩
  go_wp2_with fail
  refine (a12 _).mono ?_
  rintro en w2 ⟨rfl, hB2⟩
  go_wp2
  go_ret
  exact ⟨rfl, ((((Below.refl _ w).alloc (Nat.le_refl _) _).alloc (by simp) _).trans (hB1.mono (by simp; omega))).trans (hB2.mono (by have := hB1.size; simp at this; omega))⟩
set_option maxRecDepth 100000 in
set_option maxHeartbeats 4000000 in
theorem steerSafe_wrong (L R S N e y : Int) (A : Option Addr) (c : Nat) (l : List Int) (w : World) (hl : l.length ≤ 140737488351232)
    (hb : (decide (rightB L R S N = true) && decide (600 < (2 * L + 1) * (2 * R + 1))) = false) (hr : ¬ rightB L R S N = true ∨ l.length > 200) :
    Calls Try.prog 7 #[pl L R S N, .int .i64 e, .int .i64 y, .slice A l.length c] w fun en w' => en = .returned (.bool true) ∧ Below w.heap.size w w' := by
  have hu23 := Try.underlying23
  have hu24 := Try.underlying24
  have a10 := fun W => meridianlaw06_big.calls L R S N _ W (big_f L R S N)
  have a11 := fun W => steer_Check.calls L R S N _ W (check_f L R S N)
  have a12 := fun W => meridianlaw06_awake.calls true W rfl
  rw [hb] at a10
  by_cases hp : rightB L R S N = true
  · have hlen : l.length > 200 := hr.resolve_left (by simp [hp])
    have h' := rightB_iff.1 hp
    rw [if_pos hp] at a11
    have d1 : decide (200 < (l.length : Int)) = true := decide_eq_true (by omega)
    have d2 : decide (200 < l.length) = true := decide_eq_true hlen
    have d3 : decide (L < 0) = false := decide_eq_false (by omega)
    have d4 : decide (R < 0) = false := decide_eq_false (by omega)
    have d5 : decide (N < 0) = false := decide_eq_false (by omega)
    clear hb hr hp
    go_enter Try.func7, Try.ntmps7
    go_wp2_with fail
    refine (a10 _).mono ?_
    rintro en w1 ⟨rfl, hB1⟩
    have b4 := (hB1.block w.heap.size (by simp; omega)).trans (al_old (al_new w _ _ rfl))
    have b9 := (hB1.block (w.heap.size + 1) (by simp)).trans (al_new _ _ _ (by simp))
    have c4_0 : w1.cell? ⟨w.heap.size, 0, none⟩ = some (.int .i64 L) := blk_cell b4 0
    have c4_1 : w1.cell? ⟨w.heap.size, 1, none⟩ = some (.int .i64 R) := blk_cell b4 1
    have c4_2 : w1.cell? ⟨w.heap.size, 2, none⟩ = some (.int .i64 S) := blk_cell b4 2
    have c4_3 : w1.cell? ⟨w.heap.size, 3, none⟩ = some (.int .i64 N) := blk_cell b4 3
    have c9_0 : w1.cell? ⟨w.heap.size + 1, 0, none⟩ = some (.int .i64 L) := blk_cell b9 0
    have c9_1 : w1.cell? ⟨w.heap.size + 1, 1, none⟩ = some (.int .i64 R) := blk_cell b9 1
    have c9_2 : w1.cell? ⟨w.heap.size + 1, 2, none⟩ = some (.int .i64 S) := blk_cell b9 2
    have c9_3 : w1.cell? ⟨w.heap.size + 1, 3, none⟩ = some (.int .i64 N) := blk_cell b9 3
    have hT : Below w.heap.size w w1 := (((Below.refl _ w).alloc (Nat.le_refl _) _).alloc (by simp) _).trans (hB1.mono (by simp; omega))
    clear hB1 b4 b9
    go_wp2_with fail
    refine (a11 _).mono ?_
    rintro en w2 ⟨rfl, hB⟩
    replace c4_0 := cell_on hB c4_0
    replace c4_1 := cell_on hB c4_1
    replace c4_3 := cell_on hB c4_3
    replace hT := hT.trans (hB.mono hT.size)
    go_wp2_with fail
    refine (a12 _).mono ?_
    rintro en w3 ⟨rfl, hB3⟩
    go_wp2
    go_ret
    exact ⟨rfl, hT.trans (hB3.mono hT.size)⟩
  · rw [if_neg hp] at a11
    clear hb hr hp
    go_enter Try.func7, Try.ntmps7
    go_wp2_with fail
    refine (a10 _).mono ?_
    rintro en w1 ⟨rfl, hB1⟩
    have b9 := (hB1.block (w.heap.size + 1) (by simp)).trans (al_new _ _ _ (by simp))
    have c9_0 : w1.cell? ⟨w.heap.size + 1, 0, none⟩ = some (.int .i64 L) := blk_cell b9 0
    have c9_1 : w1.cell? ⟨w.heap.size + 1, 1, none⟩ = some (.int .i64 R) := blk_cell b9 1
    have c9_2 : w1.cell? ⟨w.heap.size + 1, 2, none⟩ = some (.int .i64 S) := blk_cell b9 2
    have c9_3 : w1.cell? ⟨w.heap.size + 1, 3, none⟩ = some (.int .i64 N) := blk_cell b9 3
    have hT : Below w.heap.size w w1 := (((Below.refl _ w).alloc (Nat.le_refl _) _).alloc (by simp) _).trans (hB1.mono (by simp; omega))
    clear hB1 b9
    go_wp2_with fail
    refine (a11 _).mono ?_
    rintro en w2 ⟨rfl, hB⟩
    replace hT := hT.trans (hB.mono hT.size)
    go_wp2_with fail
    refine (a12 _).mono ?_
    rintro en w3 ⟨rfl, hB3⟩
    go_wp2
    go_ret
    exact ⟨rfl, hT.trans (hB3.mono hT.size)⟩
theorem cw_chart {L R S N : Int} {c : List Int} {x : Int} (h : steer_Chart.f L R S N = some (c, x)) (W : World) : Calls Try.prog 14 #[pl L R S N] W fun e w' => ∃ (A : Option Addr) (cap : Nat), e = .returned (.tuple #[.slice A c.length cap, .int .i64 x]) ∧ (c.length ≤ cap ∧ Kd.C (Kd.int .i64) w' A c.length c) ∧ Below W.heap.size W w' := by
  refine (steer_Chart.calls L R S N c x W h).mono ?_
  rintro e w' ⟨v0, rfl, hR, hB⟩
  obtain ⟨A, cap, rfl, h1, h2⟩ := Kd.R_reads hR
  exact ⟨A, cap, rfl, ⟨h1, h2⟩, hB⟩
theorem chart_f0 {L R S N : Int} {ch : List Int} (hp : rightB L R S N = true) (hch : steer_Plan_chart.f L R S N = some ch) : steer_Chart.f L R S N = some (ch, 0) := by
  unfold steer_Chart.f
  rw [check_f, if_pos hp, hch]
  rfl
/-- The pick. -/
def pickF (n m : Int) : Int := (meridiankit_Pick.f n m).getD 0
theorem pickF_b (n m : Int) (h1 : 1 ≤ m) (h2 : m ≤ 100000) : 0 ≤ pickF n m ∧ pickF n m < m := by
  obtain ⟨t, ht, h3, h4⟩ := pick_g n m h1 h2
  unfold pickF
  rw [ht]
  exact ⟨h3, h4⟩
theorem pick_calls (n m : Int) (W : World) (h1 : 1 ≤ m) (h2 : m ≤ 100000) : Calls Try.prog 13 #[.int .i64 n, .int .i64 m] W fun e w' => e = .returned (.int .i64 (pickF n m)) ∧ Below W.heap.size W w' := by
  obtain ⟨t, ht, _, _⟩ := pick_g n m h1 h2
  refine (meridiankit_Pick.calls n m (pickF n m) W (by unfold pickF; rw [ht]; rfl)).mono ?_
  rintro e w' ⟨rfl, hD⟩
  exact ⟨rfl, hD.below⟩
theorem iw (n : Int) (h0 : -1000000000000 ≤ n) (h1 : n ≤ 1000000000000) : IntKind.i64.wrap n = n := by rw [IntKind.wrap_i64]; omega
end Go.Proofs.Ytcaekmalkbaldaa.M
