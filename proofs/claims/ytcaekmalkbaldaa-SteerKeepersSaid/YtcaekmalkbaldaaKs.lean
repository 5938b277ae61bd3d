/- The reference's Drive, by hand. -/
import Derived.Test.YtcaekmalkbaldaaKr
import Derived.Test.YtcaekmalkbaldaaKd
import Derived.BigRegion
import Derived.Maps.AppendAt
import Derived.Laws.AppendOwnNone
namespace Go.Proofs.Ytcaekmalkbaldaa.M
open Go.RowKit Go.Shelf Go.Proofs.YtcaekmalkbaldaaW.PrintWords Go.Proofs.YtcaekmalkbaldaaW.PrintLast Go.Proofs.YtcaekmalkbaldaaW.PrintMore
set_option linter.unusedVariables false
set_option linter.unusedSimpArgs false
/-- What a keeper does with a span: its rate, its log, what it answers, the error. -/
def driveR (L R : Int) (ch : List Int) (u now : Int) (lg : List S59) (lo hi : Int) : Int × List S59 × Int × Int :=
  if hi < lo ∨ lo < -1000000000000000 ∨ 1000000000000000 < hi then (now, lg, 0, 12)
  else if 5000 ≤ lg.length then (now, lg, 0, 2)
  else if isB L R (unitsF u (Int.tdiv (lo + hi) 2)) now = true then
    (if 1000 ≤ rd ch (ix L R (unitsF u (Int.tdiv (lo + hi) 2)) now) then (now, lg, 0, 9)
    else (rd ch (ix L R (unitsF u (Int.tdiv (lo + hi) 2)) now), lg ++ [⟨unitsF u (Int.tdiv (lo + hi) 2), rd ch (ix L R (unitsF u (Int.tdiv (lo + hi) 2)) now)⟩], rd ch (ix L R (unitsF u (Int.tdiv (lo + hi) 2)) now), 0))
  else (now, lg, 0, 9)
theorem drive_calls {L R S N : Int} (V W : World) (kb pb : Nat) (u now : Int) (ad : Addr) (cc : Nat) (ch : List Int) (lg : List S59) (lo hi : Int) (hK : KeepAt V W kb pb L R S N u now ad cc ch lg) (hu0 : 1 ≤ u) (hu1 : u ≤ 1000000000000) (hr : rightB L R S N = true) (hcl : ch.length = siz L R) :
    Calls Try.prog 32 #[.pointer (some ⟨kb, 0, none⟩), .agg #[.int .i64 lo, .int .i64 hi]] W fun e W' => e = .returned (.tuple #[.int .i64 (driveR L R ch u now lg lo hi).2.2.1, .int .i64 (driveR L R ch u now lg lo hi).2.2.2]) ∧ KeepAt V W' kb pb L R S N u (driveR L R ch u now lg lo hi).1 ad cc ch (driveR L R ch u now lg lo hi).2.1 ∧ FrameK kb W W' := by
  unfold driveR
  by_cases h1 : hi < lo ∨ lo < -1000000000000000 ∨ 1000000000000000 < hi
  · rw [if_pos h1]
    refine (drive_empty V W kb pb L R S N u now ad cc ch lg lo hi hK h1).mono ?_
    rintro e W' ⟨rfl, hB⟩
    exact ⟨rfl, hK.below hB, FrameK.of_below hB⟩
  · rw [if_neg h1]
    by_cases h2 : 5000 ≤ lg.length
    · rw [if_pos h2]
      refine (drive_full V W kb pb L R S N u now ad cc ch lg lo hi hK (by omega) (by omega) (by omega) h2).mono ?_
      rintro e W' ⟨rfl, hB⟩
      exact ⟨rfl, hK.below hB, FrameK.of_below hB⟩
    · rw [if_neg h2]
      by_cases h3 : isB L R (unitsF u (Int.tdiv (lo + hi) 2)) now = true
      · rw [if_pos h3]
        by_cases h4 : 1000 ≤ rd ch (ix L R (unitsF u (Int.tdiv (lo + hi) 2)) now)
        · rw [if_pos h4]
          refine (drive_lost V W kb pb L R S N u now ad cc ch lg lo hi hK (by omega) (by omega) (by omega) (by omega) hu0 hu1 hr hcl ⟨h3, h4⟩).mono ?_
          rintro e W' ⟨rfl, hB⟩
          exact ⟨rfl, hK.below hB, FrameK.of_below hB⟩
        · rw [if_neg h4]
          exact drive_good V W kb pb L R S N u now ad cc ch lg lo hi hK (by omega) (by omega) (by omega) (by omega) hu0 hu1 hr hcl ⟨h3, by omega⟩ _ _ ⟨rfl, rfl⟩
      · rw [if_neg h3]
        refine (drive_out V W kb pb L R S N u now ad cc ch lg lo hi hK (by omega) (by omega) (by omega) (by omega) hu0 hu1 hr hcl (by simpa using h3)).mono ?_
        rintro e W' ⟨rfl, hB⟩
        exact ⟨rfl, hK.below hB, FrameK.of_below hB⟩
theorem mid_b (lo hi : Int) (h0 : lo ≤ hi) (h1 : -1000000000000000 ≤ lo) (h2 : hi ≤ 1000000000000000) : -1000000000000000 ≤ Int.tdiv (lo + hi) 2 ∧ Int.tdiv (lo + hi) 2 ≤ 1000000000000000 := by
  rcases Int.le_total 0 (lo + hi) with h | h
  · rw [Int.tdiv_eq_ediv_of_nonneg h]; omega
  · have h2 : Int.tdiv (lo + hi) 2 = -(Int.tdiv (-(lo + hi)) 2) := by rw [Int.neg_tdiv]; omega
    rw [h2, Int.tdiv_eq_ediv_of_nonneg (by omega)]; omega
theorem info84n : (Try.prog.info? 84).map (fun i => (i.zero, i.size, i.bytes)) = some (some (.agg #[.int .i64 0, .int .i64 0]), 2, 16) := by kernel_rfl
set_option maxRecDepth 100000 in
set_option maxHeartbeats 8000000 in
theorem rDrive_empty (L R S N u now : Int) (A : Option Addr) (c : Nat) (lg : List S59) (lo hi : Int) (base : Nat) (W : World) (ho : W.ownsRow base 84 2 (.slice A lg.length c) lg.length (entc lg)) (hb : base ≤ W.heap.size) (hbad : hi < lo ∨ lo < -1000000000000000 ∨ 1000000000000000 < hi) :
    Calls Try.prog 33 #[.agg #[.int .i64 L, .int .i64 R, .int .i64 S, .int .i64 N, .int .i64 u, .int .i64 now, .slice A lg.length c], .agg #[.int .i64 lo, .int .i64 hi]] W fun e W' => e = .returned (.tuple #[.agg #[.int .i64 L, .int .i64 R, .int .i64 S, .int .i64 N, .int .i64 u, .int .i64 now, .slice A lg.length c], .int .i64 0, .int .i64 12]) ∧ Below W.heap.size W W' := by
  by_cases b1 : hi < lo
  · have f1' : decide (hi < lo) = true := decide_eq_true b1
    have hu66 := Try.underlying66
    have hu71 := Try.underlying71
    have hu23 := Try.underlying23
    go_enter Try.func33, Try.ntmps33
    go_upto_region 1 with fail
    have hB0 : Below W.heap.size W (((W.alloc (.cells #[.int .i64 L, .int .i64 R, .int .i64 S, .int .i64 N, .int .i64 u, .int .i64 now, .slice A lg.length c] 66)).alloc (.cells #[.int .i64 lo, .int .i64 hi] 71)).alloc (.cells #[.int .i64 0, .int .i64 0, .int .i64 0, .int .i64 0, .int .i64 0, .int .i64 0, .slice none 0 0] 66)) := (((Below.refl _ W).alloc (Nat.le_refl _) _).alloc (by simp) _).alloc (by simp; omega) _
    have k2 : (((W.alloc (.cells #[.int .i64 L, .int .i64 R, .int .i64 S, .int .i64 N, .int .i64 u, .int .i64 now, .slice A lg.length c] 66)).alloc (.cells #[.int .i64 lo, .int .i64 hi] 71)).alloc (.cells #[.int .i64 0, .int .i64 0, .int .i64 0, .int .i64 0, .int .i64 0, .int .i64 0, .slice none 0 0] 66)).heap[W.heap.size]? = some (.cells #[.int .i64 L, .int .i64 R, .int .i64 S, .int .i64 N, .int .i64 u, .int .i64 now, .slice A lg.length c] 66 (0, 0)) := al_old (al_old (al_new _ _ _ rfl))
    have k3 : (((W.alloc (.cells #[.int .i64 L, .int .i64 R, .int .i64 S, .int .i64 N, .int .i64 u, .int .i64 now, .slice A lg.length c] 66)).alloc (.cells #[.int .i64 lo, .int .i64 hi] 71)).alloc (.cells #[.int .i64 0, .int .i64 0, .int .i64 0, .int .i64 0, .int .i64 0, .int .i64 0, .slice none 0 0] 66)).heap[W.heap.size + 1]? = some (.cells #[.int .i64 lo, .int .i64 hi] 71 (0, 0)) := al_old (al_new _ _ _ (by simp))
    have k4 : (((W.alloc (.cells #[.int .i64 L, .int .i64 R, .int .i64 S, .int .i64 N, .int .i64 u, .int .i64 now, .slice A lg.length c] 66)).alloc (.cells #[.int .i64 lo, .int .i64 hi] 71)).alloc (.cells #[.int .i64 0, .int .i64 0, .int .i64 0, .int .i64 0, .int .i64 0, .int .i64 0, .slice none 0 0] 66)).heap[W.heap.size + 1 + 1]? = some (.cells #[.int .i64 0, .int .i64 0, .int .i64 0, .int .i64 0, .int .i64 0, .int .i64 0, .slice none 0 0] 66 (0, 0)) := al_new _ _ _ (by simp)
    generalize (((W.alloc (.cells #[.int .i64 L, .int .i64 R, .int .i64 S, .int .i64 N, .int .i64 u, .int .i64 now, .slice A lg.length c] 66)).alloc (.cells #[.int .i64 lo, .int .i64 hi] 71)).alloc (.cells #[.int .i64 0, .int .i64 0, .int .i64 0, .int .i64 0, .int .i64 0, .int .i64 0, .slice none 0 0] 66)) = X0 at hB0 k2 k3 k4 ⊢
    have p0 : X0.cell? ⟨W.heap.size, 0, none⟩ = some (.int .i64 L) := blk_cell k2 0
    have p1 : X0.cell? ⟨W.heap.size, 1, none⟩ = some (.int .i64 R) := blk_cell k2 1
    have p2 : X0.cell? ⟨W.heap.size, 2, none⟩ = some (.int .i64 S) := blk_cell k2 2
    have p3 : X0.cell? ⟨W.heap.size, 3, none⟩ = some (.int .i64 N) := blk_cell k2 3
    have p4 : X0.cell? ⟨W.heap.size, 4, none⟩ = some (.int .i64 u) := blk_cell k2 4
    have p5 : X0.cell? ⟨W.heap.size, 5, none⟩ = some (.int .i64 now) := blk_cell k2 5
    have p6 : X0.cell? ⟨W.heap.size, 6, none⟩ = some (.slice A lg.length c) := blk_cell k2 6
    have s0 : X0.cell? ⟨W.heap.size + 1, 0, none⟩ = some (.int .i64 lo) := blk_cell k3 0
    have s1 : X0.cell? ⟨W.heap.size + 1, 1, none⟩ = some (.int .i64 hi) := blk_cell k3 1
    have q0 : X0.cell? ⟨W.heap.size + 1 + 1, 0, none⟩ = some (.int .i64 0) := blk_cell k4 0
    have q1 : X0.cell? ⟨W.heap.size + 1 + 1, 1, none⟩ = some (.int .i64 0) := blk_cell k4 1
    have q2 : X0.cell? ⟨W.heap.size + 1 + 1, 2, none⟩ = some (.int .i64 0) := blk_cell k4 2
    have q3 : X0.cell? ⟨W.heap.size + 1 + 1, 3, none⟩ = some (.int .i64 0) := blk_cell k4 3
    have q4 : X0.cell? ⟨W.heap.size + 1 + 1, 4, none⟩ = some (.int .i64 0) := blk_cell k4 4
    have q5 : X0.cell? ⟨W.heap.size + 1 + 1, 5, none⟩ = some (.int .i64 0) := blk_cell k4 5
    have q6 : X0.cell? ⟨W.heap.size + 1 + 1, 6, none⟩ = some (.slice none 0 0) := blk_cell k4 6
    have f0 := blk_fr k4 0
    have f1 := blk_fr k4 1
    have f2 := blk_fr k4 2
    have f3 := blk_fr k4 3
    have f4 := blk_fr k4 4
    have f5 := blk_fr k4 5
    have f6 := blk_fr k4 6
    go_wp2
    have k9 := set7_heap k4 (.int .i64 L) (.int .i64 R) (.int .i64 S) (.int .i64 N) (.int .i64 u) (.int .i64 now) (.slice A lg.length c)
    refine ⟨rfl, _, res_rd rfl _ _ (W.heap.size + 1 + 1) L R S N u now (.slice A lg.length c) (.int .i64 0) (.int .i64 12) (by simp) (by simp) (by simp) (blk_cell k9 0) (blk_cell k9 1) (blk_cell k9 2) (blk_cell k9 3) (blk_cell k9 4) (blk_cell k9 5) (blk_cell k9 6), rfl, ?_⟩
    exact ((((((hB0.setCell (by simp; omega) _).setCell (by simp; omega) _).setCell (by simp; omega) _).setCell (by simp; omega) _).setCell (by simp; omega) _).setCell (by simp; omega) _).setCell (by simp; omega) _
  · have f1' : decide (hi < lo) = false := decide_eq_false b1
    by_cases b2 : lo < -1000000000000000
    · have f2' : decide (lo < -1000000000000000) = true := decide_eq_true b2
      have hu66 := Try.underlying66
      have hu71 := Try.underlying71
      have hu23 := Try.underlying23
      go_enter Try.func33, Try.ntmps33
      go_upto_region 1 with fail
      have hB0 : Below W.heap.size W (((W.alloc (.cells #[.int .i64 L, .int .i64 R, .int .i64 S, .int .i64 N, .int .i64 u, .int .i64 now, .slice A lg.length c] 66)).alloc (.cells #[.int .i64 lo, .int .i64 hi] 71)).alloc (.cells #[.int .i64 0, .int .i64 0, .int .i64 0, .int .i64 0, .int .i64 0, .int .i64 0, .slice none 0 0] 66)) := (((Below.refl _ W).alloc (Nat.le_refl _) _).alloc (by simp) _).alloc (by simp; omega) _
      have k2 : (((W.alloc (.cells #[.int .i64 L, .int .i64 R, .int .i64 S, .int .i64 N, .int .i64 u, .int .i64 now, .slice A lg.length c] 66)).alloc (.cells #[.int .i64 lo, .int .i64 hi] 71)).alloc (.cells #[.int .i64 0, .int .i64 0, .int .i64 0, .int .i64 0, .int .i64 0, .int .i64 0, .slice none 0 0] 66)).heap[W.heap.size]? = some (.cells #[.int .i64 L, .int .i64 R, .int .i64 S, .int .i64 N, .int .i64 u, .int .i64 now, .slice A lg.length c] 66 (0, 0)) := al_old (al_old (al_new _ _ _ rfl))
      have k3 : (((W.alloc (.cells #[.int .i64 L, .int .i64 R, .int .i64 S, .int .i64 N, .int .i64 u, .int .i64 now, .slice A lg.length c] 66)).alloc (.cells #[.int .i64 lo, .int .i64 hi] 71)).alloc (.cells #[.int .i64 0, .int .i64 0, .int .i64 0, .int .i64 0, .int .i64 0, .int .i64 0, .slice none 0 0] 66)).heap[W.heap.size + 1]? = some (.cells #[.int .i64 lo, .int .i64 hi] 71 (0, 0)) := al_old (al_new _ _ _ (by simp))
      have k4 : (((W.alloc (.cells #[.int .i64 L, .int .i64 R, .int .i64 S, .int .i64 N, .int .i64 u, .int .i64 now, .slice A lg.length c] 66)).alloc (.cells #[.int .i64 lo, .int .i64 hi] 71)).alloc (.cells #[.int .i64 0, .int .i64 0, .int .i64 0, .int .i64 0, .int .i64 0, .int .i64 0, .slice none 0 0] 66)).heap[W.heap.size + 1 + 1]? = some (.cells #[.int .i64 0, .int .i64 0, .int .i64 0, .int .i64 0, .int .i64 0, .int .i64 0, .slice none 0 0] 66 (0, 0)) := al_new _ _ _ (by simp)
      generalize (((W.alloc (.cells #[.int .i64 L, .int .i64 R, .int .i64 S, .int .i64 N, .int .i64 u, .int .i64 now, .slice A lg.length c] 66)).alloc (.cells #[.int .i64 lo, .int .i64 hi] 71)).alloc (.cells #[.int .i64 0, .int .i64 0, .int .i64 0, .int .i64 0, .int .i64 0, .int .i64 0, .slice none 0 0] 66)) = X0 at hB0 k2 k3 k4 ⊢
      have p0 : X0.cell? ⟨W.heap.size, 0, none⟩ = some (.int .i64 L) := blk_cell k2 0
      have p1 : X0.cell? ⟨W.heap.size, 1, none⟩ = some (.int .i64 R) := blk_cell k2 1
      have p2 : X0.cell? ⟨W.heap.size, 2, none⟩ = some (.int .i64 S) := blk_cell k2 2
      have p3 : X0.cell? ⟨W.heap.size, 3, none⟩ = some (.int .i64 N) := blk_cell k2 3
      have p4 : X0.cell? ⟨W.heap.size, 4, none⟩ = some (.int .i64 u) := blk_cell k2 4
      have p5 : X0.cell? ⟨W.heap.size, 5, none⟩ = some (.int .i64 now) := blk_cell k2 5
      have p6 : X0.cell? ⟨W.heap.size, 6, none⟩ = some (.slice A lg.length c) := blk_cell k2 6
      have s0 : X0.cell? ⟨W.heap.size + 1, 0, none⟩ = some (.int .i64 lo) := blk_cell k3 0
      have s1 : X0.cell? ⟨W.heap.size + 1, 1, none⟩ = some (.int .i64 hi) := blk_cell k3 1
      have q0 : X0.cell? ⟨W.heap.size + 1 + 1, 0, none⟩ = some (.int .i64 0) := blk_cell k4 0
      have q1 : X0.cell? ⟨W.heap.size + 1 + 1, 1, none⟩ = some (.int .i64 0) := blk_cell k4 1
      have q2 : X0.cell? ⟨W.heap.size + 1 + 1, 2, none⟩ = some (.int .i64 0) := blk_cell k4 2
      have q3 : X0.cell? ⟨W.heap.size + 1 + 1, 3, none⟩ = some (.int .i64 0) := blk_cell k4 3
      have q4 : X0.cell? ⟨W.heap.size + 1 + 1, 4, none⟩ = some (.int .i64 0) := blk_cell k4 4
      have q5 : X0.cell? ⟨W.heap.size + 1 + 1, 5, none⟩ = some (.int .i64 0) := blk_cell k4 5
      have q6 : X0.cell? ⟨W.heap.size + 1 + 1, 6, none⟩ = some (.slice none 0 0) := blk_cell k4 6
      have f0 := blk_fr k4 0
      have f1 := blk_fr k4 1
      have f2 := blk_fr k4 2
      have f3 := blk_fr k4 3
      have f4 := blk_fr k4 4
      have f5 := blk_fr k4 5
      have f6 := blk_fr k4 6
      go_wp2
      have k9 := set7_heap k4 (.int .i64 L) (.int .i64 R) (.int .i64 S) (.int .i64 N) (.int .i64 u) (.int .i64 now) (.slice A lg.length c)
      refine ⟨rfl, _, res_rd rfl _ _ (W.heap.size + 1 + 1) L R S N u now (.slice A lg.length c) (.int .i64 0) (.int .i64 12) (by simp) (by simp) (by simp) (blk_cell k9 0) (blk_cell k9 1) (blk_cell k9 2) (blk_cell k9 3) (blk_cell k9 4) (blk_cell k9 5) (blk_cell k9 6), rfl, ?_⟩
      exact ((((((hB0.setCell (by simp; omega) _).setCell (by simp; omega) _).setCell (by simp; omega) _).setCell (by simp; omega) _).setCell (by simp; omega) _).setCell (by simp; omega) _).setCell (by simp; omega) _
    · have f2' : decide (lo < -1000000000000000) = false := decide_eq_false b2
      have f3' : decide (1000000000000000 < hi) = true := decide_eq_true (by omega)
      have hu66 := Try.underlying66
      have hu71 := Try.underlying71
      have hu23 := Try.underlying23
      go_enter Try.func33, Try.ntmps33
      go_upto_region 1 with fail
      have hB0 : Below W.heap.size W (((W.alloc (.cells #[.int .i64 L, .int .i64 R, .int .i64 S, .int .i64 N, .int .i64 u, .int .i64 now, .slice A lg.length c] 66)).alloc (.cells #[.int .i64 lo, .int .i64 hi] 71)).alloc (.cells #[.int .i64 0, .int .i64 0, .int .i64 0, .int .i64 0, .int .i64 0, .int .i64 0, .slice none 0 0] 66)) := (((Below.refl _ W).alloc (Nat.le_refl _) _).alloc (by simp) _).alloc (by simp; omega) _
      have k2 : (((W.alloc (.cells #[.int .i64 L, .int .i64 R, .int .i64 S, .int .i64 N, .int .i64 u, .int .i64 now, .slice A lg.length c] 66)).alloc (.cells #[.int .i64 lo, .int .i64 hi] 71)).alloc (.cells #[.int .i64 0, .int .i64 0, .int .i64 0, .int .i64 0, .int .i64 0, .int .i64 0, .slice none 0 0] 66)).heap[W.heap.size]? = some (.cells #[.int .i64 L, .int .i64 R, .int .i64 S, .int .i64 N, .int .i64 u, .int .i64 now, .slice A lg.length c] 66 (0, 0)) := al_old (al_old (al_new _ _ _ rfl))
      have k3 : (((W.alloc (.cells #[.int .i64 L, .int .i64 R, .int .i64 S, .int .i64 N, .int .i64 u, .int .i64 now, .slice A lg.length c] 66)).alloc (.cells #[.int .i64 lo, .int .i64 hi] 71)).alloc (.cells #[.int .i64 0, .int .i64 0, .int .i64 0, .int .i64 0, .int .i64 0, .int .i64 0, .slice none 0 0] 66)).heap[W.heap.size + 1]? = some (.cells #[.int .i64 lo, .int .i64 hi] 71 (0, 0)) := al_old (al_new _ _ _ (by simp))
      have k4 : (((W.alloc (.cells #[.int .i64 L, .int .i64 R, .int .i64 S, .int .i64 N, .int .i64 u, .int .i64 now, .slice A lg.length c] 66)).alloc (.cells #[.int .i64 lo, .int .i64 hi] 71)).alloc (.cells #[.int .i64 0, .int .i64 0, .int .i64 0, .int .i64 0, .int .i64 0, .int .i64 0, .slice none 0 0] 66)).heap[W.heap.size + 1 + 1]? = some (.cells #[.int .i64 0, .int .i64 0, .int .i64 0, .int .i64 0, .int .i64 0, .int .i64 0, .slice none 0 0] 66 (0, 0)) := al_new _ _ _ (by simp)
      generalize (((W.alloc (.cells #[.int .i64 L, .int .i64 R, .int .i64 S, .int .i64 N, .int .i64 u, .int .i64 now, .slice A lg.length c] 66)).alloc (.cells #[.int .i64 lo, .int .i64 hi] 71)).alloc (.cells #[.int .i64 0, .int .i64 0, .int .i64 0, .int .i64 0, .int .i64 0, .int .i64 0, .slice none 0 0] 66)) = X0 at hB0 k2 k3 k4 ⊢
      have p0 : X0.cell? ⟨W.heap.size, 0, none⟩ = some (.int .i64 L) := blk_cell k2 0
      have p1 : X0.cell? ⟨W.heap.size, 1, none⟩ = some (.int .i64 R) := blk_cell k2 1
      have p2 : X0.cell? ⟨W.heap.size, 2, none⟩ = some (.int .i64 S) := blk_cell k2 2
      have p3 : X0.cell? ⟨W.heap.size, 3, none⟩ = some (.int .i64 N) := blk_cell k2 3
      have p4 : X0.cell? ⟨W.heap.size, 4, none⟩ = some (.int .i64 u) := blk_cell k2 4
      have p5 : X0.cell? ⟨W.heap.size, 5, none⟩ = some (.int .i64 now) := blk_cell k2 5
      have p6 : X0.cell? ⟨W.heap.size, 6, none⟩ = some (.slice A lg.length c) := blk_cell k2 6
      have s0 : X0.cell? ⟨W.heap.size + 1, 0, none⟩ = some (.int .i64 lo) := blk_cell k3 0
      have s1 : X0.cell? ⟨W.heap.size + 1, 1, none⟩ = some (.int .i64 hi) := blk_cell k3 1
      have q0 : X0.cell? ⟨W.heap.size + 1 + 1, 0, none⟩ = some (.int .i64 0) := blk_cell k4 0
      have q1 : X0.cell? ⟨W.heap.size + 1 + 1, 1, none⟩ = some (.int .i64 0) := blk_cell k4 1
      have q2 : X0.cell? ⟨W.heap.size + 1 + 1, 2, none⟩ = some (.int .i64 0) := blk_cell k4 2
      have q3 : X0.cell? ⟨W.heap.size + 1 + 1, 3, none⟩ = some (.int .i64 0) := blk_cell k4 3
      have q4 : X0.cell? ⟨W.heap.size + 1 + 1, 4, none⟩ = some (.int .i64 0) := blk_cell k4 4
      have q5 : X0.cell? ⟨W.heap.size + 1 + 1, 5, none⟩ = some (.int .i64 0) := blk_cell k4 5
      have q6 : X0.cell? ⟨W.heap.size + 1 + 1, 6, none⟩ = some (.slice none 0 0) := blk_cell k4 6
      have f0 := blk_fr k4 0
      have f1 := blk_fr k4 1
      have f2 := blk_fr k4 2
      have f3 := blk_fr k4 3
      have f4 := blk_fr k4 4
      have f5 := blk_fr k4 5
      have f6 := blk_fr k4 6
      go_wp2
      have k9 := set7_heap k4 (.int .i64 L) (.int .i64 R) (.int .i64 S) (.int .i64 N) (.int .i64 u) (.int .i64 now) (.slice A lg.length c)
      refine ⟨rfl, _, res_rd rfl _ _ (W.heap.size + 1 + 1) L R S N u now (.slice A lg.length c) (.int .i64 0) (.int .i64 12) (by simp) (by simp) (by simp) (blk_cell k9 0) (blk_cell k9 1) (blk_cell k9 2) (blk_cell k9 3) (blk_cell k9 4) (blk_cell k9 5) (blk_cell k9 6), rfl, ?_⟩
      exact ((((((hB0.setCell (by simp; omega) _).setCell (by simp; omega) _).setCell (by simp; omega) _).setCell (by simp; omega) _).setCell (by simp; omega) _).setCell (by simp; omega) _).setCell (by simp; omega) _
set_option maxRecDepth 100000 in
set_option maxHeartbeats 8000000 in
theorem rDrive_full (L R S N u now : Int) (A : Option Addr) (c : Nat) (lg : List S59) (lo hi : Int) (base : Nat) (W : World) (ho : W.ownsRow base 84 2 (.slice A lg.length c) lg.length (entc lg)) (hb : base ≤ W.heap.size) (h0 : lo ≤ hi) (h1 : -1000000000000000 ≤ lo) (h2 : hi ≤ 1000000000000000) (hfull : 5000 ≤ lg.length) :
    Calls Try.prog 33 #[.agg #[.int .i64 L, .int .i64 R, .int .i64 S, .int .i64 N, .int .i64 u, .int .i64 now, .slice A lg.length c], .agg #[.int .i64 lo, .int .i64 hi]] W fun e W' => e = .returned (.tuple #[.agg #[.int .i64 L, .int .i64 R, .int .i64 S, .int .i64 N, .int .i64 u, .int .i64 now, .slice A lg.length c], .int .i64 0, .int .i64 2]) ∧ Below W.heap.size W W' := by
  have f1' : decide (hi < lo) = false := decide_eq_false (by omega)
  have f2' : decide (lo < -1000000000000000) = false := decide_eq_false (by omega)
  have f3' : decide (1000000000000000 < hi) = false := decide_eq_false (by omega)
  have f4' : decide ((lg.length : Int) ≥ 5000) = true := decide_eq_true (by omega)
  have f5' : decide (5000 ≤ (lg.length : Int)) = true := decide_eq_true (by omega)
  have f6' : decide (5000 ≤ lg.length) = true := decide_eq_true (by omega)
  have hu66 := Try.underlying66
  have hu71 := Try.underlying71
  have hu23 := Try.underlying23
  go_enter Try.func33, Try.ntmps33
  go_upto_region 1 with fail
  have hB0 : Below W.heap.size W (((W.alloc (.cells #[.int .i64 L, .int .i64 R, .int .i64 S, .int .i64 N, .int .i64 u, .int .i64 now, .slice A lg.length c] 66)).alloc (.cells #[.int .i64 lo, .int .i64 hi] 71)).alloc (.cells #[.int .i64 0, .int .i64 0, .int .i64 0, .int .i64 0, .int .i64 0, .int .i64 0, .slice none 0 0] 66)) := (((Below.refl _ W).alloc (Nat.le_refl _) _).alloc (by simp) _).alloc (by simp; omega) _
  have k2 : (((W.alloc (.cells #[.int .i64 L, .int .i64 R, .int .i64 S, .int .i64 N, .int .i64 u, .int .i64 now, .slice A lg.length c] 66)).alloc (.cells #[.int .i64 lo, .int .i64 hi] 71)).alloc (.cells #[.int .i64 0, .int .i64 0, .int .i64 0, .int .i64 0, .int .i64 0, .int .i64 0, .slice none 0 0] 66)).heap[W.heap.size]? = some (.cells #[.int .i64 L, .int .i64 R, .int .i64 S, .int .i64 N, .int .i64 u, .int .i64 now, .slice A lg.length c] 66 (0, 0)) := al_old (al_old (al_new _ _ _ rfl))
  have k3 : (((W.alloc (.cells #[.int .i64 L, .int .i64 R, .int .i64 S, .int .i64 N, .int .i64 u, .int .i64 now, .slice A lg.length c] 66)).alloc (.cells #[.int .i64 lo, .int .i64 hi] 71)).alloc (.cells #[.int .i64 0, .int .i64 0, .int .i64 0, .int .i64 0, .int .i64 0, .int .i64 0, .slice none 0 0] 66)).heap[W.heap.size + 1]? = some (.cells #[.int .i64 lo, .int .i64 hi] 71 (0, 0)) := al_old (al_new _ _ _ (by simp))
  have k4 : (((W.alloc (.cells #[.int .i64 L, .int .i64 R, .int .i64 S, .int .i64 N, .int .i64 u, .int .i64 now, .slice A lg.length c] 66)).alloc (.cells #[.int .i64 lo, .int .i64 hi] 71)).alloc (.cells #[.int .i64 0, .int .i64 0, .int .i64 0, .int .i64 0, .int .i64 0, .int .i64 0, .slice none 0 0] 66)).heap[W.heap.size + 1 + 1]? = some (.cells #[.int .i64 0, .int .i64 0, .int .i64 0, .int .i64 0, .int .i64 0, .int .i64 0, .slice none 0 0] 66 (0, 0)) := al_new _ _ _ (by simp)
  generalize (((W.alloc (.cells #[.int .i64 L, .int .i64 R, .int .i64 S, .int .i64 N, .int .i64 u, .int .i64 now, .slice A lg.length c] 66)).alloc (.cells #[.int .i64 lo, .int .i64 hi] 71)).alloc (.cells #[.int .i64 0, .int .i64 0, .int .i64 0, .int .i64 0, .int .i64 0, .int .i64 0, .slice none 0 0] 66)) = X0 at hB0 k2 k3 k4 ⊢
  have p0 : X0.cell? ⟨W.heap.size, 0, none⟩ = some (.int .i64 L) := blk_cell k2 0
  have p1 : X0.cell? ⟨W.heap.size, 1, none⟩ = some (.int .i64 R) := blk_cell k2 1
  have p2 : X0.cell? ⟨W.heap.size, 2, none⟩ = some (.int .i64 S) := blk_cell k2 2
  have p3 : X0.cell? ⟨W.heap.size, 3, none⟩ = some (.int .i64 N) := blk_cell k2 3
  have p4 : X0.cell? ⟨W.heap.size, 4, none⟩ = some (.int .i64 u) := blk_cell k2 4
  have p5 : X0.cell? ⟨W.heap.size, 5, none⟩ = some (.int .i64 now) := blk_cell k2 5
  have p6 : X0.cell? ⟨W.heap.size, 6, none⟩ = some (.slice A lg.length c) := blk_cell k2 6
  have s0 : X0.cell? ⟨W.heap.size + 1, 0, none⟩ = some (.int .i64 lo) := blk_cell k3 0
  have s1 : X0.cell? ⟨W.heap.size + 1, 1, none⟩ = some (.int .i64 hi) := blk_cell k3 1
  have q0 : X0.cell? ⟨W.heap.size + 1 + 1, 0, none⟩ = some (.int .i64 0) := blk_cell k4 0
  have q1 : X0.cell? ⟨W.heap.size + 1 + 1, 1, none⟩ = some (.int .i64 0) := blk_cell k4 1
  have q2 : X0.cell? ⟨W.heap.size + 1 + 1, 2, none⟩ = some (.int .i64 0) := blk_cell k4 2
  have q3 : X0.cell? ⟨W.heap.size + 1 + 1, 3, none⟩ = some (.int .i64 0) := blk_cell k4 3
  have q4 : X0.cell? ⟨W.heap.size + 1 + 1, 4, none⟩ = some (.int .i64 0) := blk_cell k4 4
  have q5 : X0.cell? ⟨W.heap.size + 1 + 1, 5, none⟩ = some (.int .i64 0) := blk_cell k4 5
  have q6 : X0.cell? ⟨W.heap.size + 1 + 1, 6, none⟩ = some (.slice none 0 0) := blk_cell k4 6
  have f0 := blk_fr k4 0
  have f1 := blk_fr k4 1
  have f2 := blk_fr k4 2
  have f3 := blk_fr k4 3
  have f4 := blk_fr k4 4
  have f5 := blk_fr k4 5
  have f6 := blk_fr k4 6
  go_wp2
  have k9 := set7_heap k4 (.int .i64 L) (.int .i64 R) (.int .i64 S) (.int .i64 N) (.int .i64 u) (.int .i64 now) (.slice A lg.length c)
  refine ⟨rfl, _, res_rd rfl _ _ (W.heap.size + 1 + 1) L R S N u now (.slice A lg.length c) (.int .i64 0) (.int .i64 2) (by simp) (by simp) (by simp) (blk_cell k9 0) (blk_cell k9 1) (blk_cell k9 2) (blk_cell k9 3) (blk_cell k9 4) (blk_cell k9 5) (blk_cell k9 6), rfl, ?_⟩
  exact ((((((hB0.setCell (by simp; omega) _).setCell (by simp; omega) _).setCell (by simp; omega) _).setCell (by simp; omega) _).setCell (by simp; omega) _).setCell (by simp; omega) _).setCell (by simp; omega) _
theorem own_form1 {W : World} {base e size n : Nat} {v : Value} {xs : List Value} (h : W.ownsRow base e size v n xs) : ∃ A c, v = .slice A n c := by
  rcases h.2 with ⟨rfl, rfl⟩ | ⟨g, cap, cur, rfl, _⟩
  · exact ⟨none, 0, rfl⟩
  · exact ⟨_, _, rfl⟩
theorem wpList_append_row {P : Program} {w : World} {ops : Array Oper} {rest : List Oper} {o : Oper} {a : Act} {Q : Exit → Act → World → Prop} (hgd : o.guard = none) (s x : Operand) (t : TypeId)
    (ho : o.op = .call { callee := .builtin .append, args := #[s, x], argTypes := #[t, t] })
    (base : Nat) (e : TypeId) (i : TypeInfo) (z : Value) (size bytes : Nat) (ht : P.underlying t = some (.slice e)) (hi : P.info? e = some i) (hz : i.zero = some z)
    (hsize : i.size = size) (hby : i.bytes = bytes) (hzs : z.cells.size = size) (hsz : 0 < size)
    (v : Value) (n : Nat) (xs : List Value) (hs : a.eval s = v) (hown : w.ownsRow base e size v n xs)
    (base2 : Nat) (vx : Value) (m : Nat) (news : List Value) (hx : a.eval x = vx) (hownx : w.ownsRow base2 e size vx m news) (h1 : ∀ u ∈ news, u.oneCell' = true)
    (h63 : n + m ≤ maxLen) (hbytes : (n + m) * bytes ≤ 140737488355328) (hbase : base ≤ w.heap.size)
    (h : ∀ v' w', w'.ownsRow base e size v' (n + m) (xs ++ news) → w.grownBy w' v.ownBlock → (v'.ownBlock = v.ownBlock ∨ v'.ownBlock = some w.heap.size) → wpList P ops Q rest (a.put o.dst v') w') :
    wpList P ops Q (o :: rest) a w := by
  rcases hownx.2 with ⟨e1, e2⟩ | ⟨g, cap, cur, e1, _⟩
  · subst e1
    subst e2
    have e3 : news = [] := by have := hownx.1; rw [Nat.zero_mul] at this; exact List.length_eq_zero_iff.1 this
    subst e3
    refine wpList_append_own_none hgd s x t ho base e i size ht hi v n xs hs hown hx ?_
    have := h v w (by simpa using hown) (World.grownBy.refl _ _) (.inl rfl)
    exact this
  · subst e1
    exact wpList_append_own_at (P := P) w hgd s x t ho base e i z size bytes ht hi hz hsize hby hzs hsz v n xs hs hown ⟨g, 0, none⟩ m cap news hx hownx.1 (hownx.cells (g := g) rfl) h1 h63 hbytes hbase (fun v' w' a1 a2 _ a4 => h v' w' a1 a2 a4)
set_option maxRecDepth 100000 in
set_option maxHeartbeats 8000000 in
theorem rDrive_out (L R S N u now : Int) (A : Option Addr) (c : Nat) (lg : List S59) (lo hi : Int) (base : Nat) (W : World) (ho : W.ownsRow base 84 2 (.slice A lg.length c) lg.length (entc lg)) (hb : base ≤ W.heap.size) (h0 : lo ≤ hi) (h1 : -1000000000000000 ≤ lo) (h2 : hi ≤ 1000000000000000) (hfull : lg.length < 5000) (hu0 : 1 ≤ u) (hu1 : u ≤ 1000000000000) (hp : rightB L R S N = true) (ch : List Int) (hch : steer_Plan_chart.f L R S N = some ch) (hcl : ch.length = siz L R) (E : Int) (hE : unitsF u (Int.tdiv (lo + hi) 2) = E) (hout : isB L R E now = false) :
    Calls Try.prog 33 #[.agg #[.int .i64 L, .int .i64 R, .int .i64 S, .int .i64 N, .int .i64 u, .int .i64 now, .slice A lg.length c], .agg #[.int .i64 lo, .int .i64 hi]] W fun e W' => e = .returned (.tuple #[.agg #[.int .i64 L, .int .i64 R, .int .i64 S, .int .i64 N, .int .i64 u, .int .i64 now, .slice A lg.length c], .int .i64 0, .int .i64 9]) ∧ Below W.heap.size W W' := by
  have f1' : decide (hi < lo) = false := decide_eq_false (by omega)
  have f2' : decide (lo < -1000000000000000) = false := decide_eq_false (by omega)
  have f3' : decide (1000000000000000 < hi) = false := decide_eq_false (by omega)
  have f4' : decide ((lg.length : Int) ≥ 5000) = false := decide_eq_false (by omega)
  have f5' : decide (5000 ≤ (lg.length : Int)) = false := decide_eq_false (by omega)
  have f6' : decide (5000 ≤ lg.length) = false := decide_eq_false (by omega)
  have hq := rightB_iff.1 hp
  obtain ⟨K, hK⟩ := ref_chart_f hp hch
  have c17 := fun W => meridianref06_Chart.calls K L R S N ch 0 W (hK K (Nat.le_refl _))
  have hlen : 3 ≤ ch.length := by rw [hcl]; exact siz_pos L R (by omega) (by omega)
  obtain ⟨m1, m2⟩ := mid_b lo hi (by omega) (by omega) (by omega)
  have c58 := fun W => rUnits_calls (Int.tdiv (lo + hi) 2) u W hu0 hu1 m1 m2
  rw [hE] at c58
  have c40 := fun W => meridianref06_is.calls L R S N E now _ W (ref_is_f (by omega) (by omega) (by omega) (by omega) E now)
  rw [hout] at c40
  have m3 : -2000000000000000 ≤ lo + hi ∧ lo + hi ≤ 2000000000000000 := by omega
  clear hq hK hch hcl hE hout
  have HOW := Aside0.mk ho
  have HBS := Aside0.mk hb
  clear ho hb
  have hu66 := Try.underlying66
  have hu71 := Try.underlying71
  have hu23 := Try.underlying23
  go_enter Try.func33, Try.ntmps33
  go_upto_region 1 with fail
  have hB0 : Below W.heap.size W (((W.alloc (.cells #[.int .i64 L, .int .i64 R, .int .i64 S, .int .i64 N, .int .i64 u, .int .i64 now, .slice A lg.length c] 66)).alloc (.cells #[.int .i64 lo, .int .i64 hi] 71)).alloc (.cells #[.int .i64 0, .int .i64 0, .int .i64 0, .int .i64 0, .int .i64 0, .int .i64 0, .slice none 0 0] 66)) := (((Below.refl _ W).alloc (Nat.le_refl _) _).alloc (by simp) _).alloc (by simp; omega) _
  have k2 : (((W.alloc (.cells #[.int .i64 L, .int .i64 R, .int .i64 S, .int .i64 N, .int .i64 u, .int .i64 now, .slice A lg.length c] 66)).alloc (.cells #[.int .i64 lo, .int .i64 hi] 71)).alloc (.cells #[.int .i64 0, .int .i64 0, .int .i64 0, .int .i64 0, .int .i64 0, .int .i64 0, .slice none 0 0] 66)).heap[W.heap.size]? = some (.cells #[.int .i64 L, .int .i64 R, .int .i64 S, .int .i64 N, .int .i64 u, .int .i64 now, .slice A lg.length c] 66 (0, 0)) := al_old (al_old (al_new _ _ _ rfl))
  have k3 : (((W.alloc (.cells #[.int .i64 L, .int .i64 R, .int .i64 S, .int .i64 N, .int .i64 u, .int .i64 now, .slice A lg.length c] 66)).alloc (.cells #[.int .i64 lo, .int .i64 hi] 71)).alloc (.cells #[.int .i64 0, .int .i64 0, .int .i64 0, .int .i64 0, .int .i64 0, .int .i64 0, .slice none 0 0] 66)).heap[W.heap.size + 1]? = some (.cells #[.int .i64 lo, .int .i64 hi] 71 (0, 0)) := al_old (al_new _ _ _ (by simp))
  have k4 : (((W.alloc (.cells #[.int .i64 L, .int .i64 R, .int .i64 S, .int .i64 N, .int .i64 u, .int .i64 now, .slice A lg.length c] 66)).alloc (.cells #[.int .i64 lo, .int .i64 hi] 71)).alloc (.cells #[.int .i64 0, .int .i64 0, .int .i64 0, .int .i64 0, .int .i64 0, .int .i64 0, .slice none 0 0] 66)).heap[W.heap.size + 1 + 1]? = some (.cells #[.int .i64 0, .int .i64 0, .int .i64 0, .int .i64 0, .int .i64 0, .int .i64 0, .slice none 0 0] 66 (0, 0)) := al_new _ _ _ (by simp)
  generalize (((W.alloc (.cells #[.int .i64 L, .int .i64 R, .int .i64 S, .int .i64 N, .int .i64 u, .int .i64 now, .slice A lg.length c] 66)).alloc (.cells #[.int .i64 lo, .int .i64 hi] 71)).alloc (.cells #[.int .i64 0, .int .i64 0, .int .i64 0, .int .i64 0, .int .i64 0, .int .i64 0, .slice none 0 0] 66)) = X0 at hB0 k2 k3 k4 ⊢
  have p0 : X0.cell? ⟨W.heap.size, 0, none⟩ = some (.int .i64 L) := blk_cell k2 0
  have p1 : X0.cell? ⟨W.heap.size, 1, none⟩ = some (.int .i64 R) := blk_cell k2 1
  have p2 : X0.cell? ⟨W.heap.size, 2, none⟩ = some (.int .i64 S) := blk_cell k2 2
  have p3 : X0.cell? ⟨W.heap.size, 3, none⟩ = some (.int .i64 N) := blk_cell k2 3
  have p4 : X0.cell? ⟨W.heap.size, 4, none⟩ = some (.int .i64 u) := blk_cell k2 4
  have p5 : X0.cell? ⟨W.heap.size, 5, none⟩ = some (.int .i64 now) := blk_cell k2 5
  have p6 : X0.cell? ⟨W.heap.size, 6, none⟩ = some (.slice A lg.length c) := blk_cell k2 6
  have s0 : X0.cell? ⟨W.heap.size + 1, 0, none⟩ = some (.int .i64 lo) := blk_cell k3 0
  have s1 : X0.cell? ⟨W.heap.size + 1, 1, none⟩ = some (.int .i64 hi) := blk_cell k3 1
  have q0 : X0.cell? ⟨W.heap.size + 1 + 1, 0, none⟩ = some (.int .i64 0) := blk_cell k4 0
  have q1 : X0.cell? ⟨W.heap.size + 1 + 1, 1, none⟩ = some (.int .i64 0) := blk_cell k4 1
  have q2 : X0.cell? ⟨W.heap.size + 1 + 1, 2, none⟩ = some (.int .i64 0) := blk_cell k4 2
  have q3 : X0.cell? ⟨W.heap.size + 1 + 1, 3, none⟩ = some (.int .i64 0) := blk_cell k4 3
  have q4 : X0.cell? ⟨W.heap.size + 1 + 1, 4, none⟩ = some (.int .i64 0) := blk_cell k4 4
  have q5 : X0.cell? ⟨W.heap.size + 1 + 1, 5, none⟩ = some (.int .i64 0) := blk_cell k4 5
  have q6 : X0.cell? ⟨W.heap.size + 1 + 1, 6, none⟩ = some (.slice none 0 0) := blk_cell k4 6
  have f0 := blk_fr k4 0
  have f1 := blk_fr k4 1
  have f2 := blk_fr k4 2
  have f3 := blk_fr k4 3
  have f4 := blk_fr k4 4
  have f5 := blk_fr k4 5
  have f6 := blk_fr k4 6
  go_wp2_with fail
  refine (c17 _).mono ?_
  rintro en X1 ⟨v0, rfl, hR, hB⟩
  obtain ⟨ad, cc, rfl, hrow⟩ := chart_form hR hlen
  replace k2 := blk_on hB k2
  replace k3 := blk_on hB k3
  replace k4 := blk_on hB k4
  replace hB0 := hB0.trans (hB.mono hB0.size)
  replace p0 := cell_on hB p0
  replace p1 := cell_on hB p1
  replace p2 := cell_on hB p2
  replace p3 := cell_on hB p3
  replace p4 := cell_on hB p4
  replace p5 := cell_on hB p5
  replace p6 := cell_on hB p6
  replace s0 := cell_on hB s0
  replace s1 := cell_on hB s1
  clear q0 f0 q1 f1 q2 f2 q3 f3 q4 f4 q5 f5 q6 f6
  have hd1 : Below X1.heap.size X1 X1 := Below.refl _ _
  clear hB hR c17
  go_wp2_with fail
  refine (c58 _).mono ?_
  rintro en X2 ⟨rfl, hB⟩
  replace hd1 := hd1.trans (hB.mono hd1.size)
  replace k2 := blk_on hB k2
  replace k3 := blk_on hB k3
  replace k4 := blk_on hB k4
  replace hB0 := hB0.trans (hB.mono hB0.size)
  replace p0 := cell_on hB p0
  replace p1 := cell_on hB p1
  replace p2 := cell_on hB p2
  replace p3 := cell_on hB p3
  replace p4 := cell_on hB p4
  replace p5 := cell_on hB p5
  replace p6 := cell_on hB p6
  replace s0 := cell_on hB s0
  replace s1 := cell_on hB s1
  clear hB c58
  go_wp2_with fail
  refine (c40 _).mono ?_
  rintro en X3 ⟨rfl, hB⟩
  replace hd1 := hd1.trans (hB.mono hd1.size)
  replace k2 := blk_on hB k2
  replace k3 := blk_on hB k3
  replace k4 := blk_on hB k4
  replace hB0 := hB0.trans (hB.mono hB0.size)
  replace p0 := cell_on hB p0
  replace p1 := cell_on hB p1
  replace p2 := cell_on hB p2
  replace p3 := cell_on hB p3
  replace p4 := cell_on hB p4
  replace p5 := cell_on hB p5
  replace p6 := cell_on hB p6
  replace s0 := cell_on hB s0
  replace s1 := cell_on hB s1
  clear hB c40
  have q0 : X3.cell? ⟨W.heap.size + 1 + 1, 0, none⟩ = some (.int .i64 0) := blk_cell k4 0
  have q1 : X3.cell? ⟨W.heap.size + 1 + 1, 1, none⟩ = some (.int .i64 0) := blk_cell k4 1
  have q2 : X3.cell? ⟨W.heap.size + 1 + 1, 2, none⟩ = some (.int .i64 0) := blk_cell k4 2
  have q3 : X3.cell? ⟨W.heap.size + 1 + 1, 3, none⟩ = some (.int .i64 0) := blk_cell k4 3
  have q4 : X3.cell? ⟨W.heap.size + 1 + 1, 4, none⟩ = some (.int .i64 0) := blk_cell k4 4
  have q5 : X3.cell? ⟨W.heap.size + 1 + 1, 5, none⟩ = some (.int .i64 0) := blk_cell k4 5
  have q6 : X3.cell? ⟨W.heap.size + 1 + 1, 6, none⟩ = some (.slice none 0 0) := blk_cell k4 6
  have f0 := blk_fr k4 0
  have f1 := blk_fr k4 1
  have f2 := blk_fr k4 2
  have f3 := blk_fr k4 3
  have f4 := blk_fr k4 4
  have f5 := blk_fr k4 5
  have f6 := blk_fr k4 6
  clear k2 k3
  go_wp2
  have k9 := set7_heap k4 (.int .i64 L) (.int .i64 R) (.int .i64 S) (.int .i64 N) (.int .i64 u) (.int .i64 now) (.slice A lg.length c)
  refine ⟨rfl, _, res_rd rfl _ _ (W.heap.size + 1 + 1) L R S N u now (.slice A lg.length c) (.int .i64 0) (.int .i64 9) (by simp) (by simp) (by simp) (blk_cell k9 0) (blk_cell k9 1) (blk_cell k9 2) (blk_cell k9 3) (blk_cell k9 4) (blk_cell k9 5) (blk_cell k9 6), rfl, ?_⟩
  exact ((((((hB0.setCell (by simp; omega) _).setCell (by simp; omega) _).setCell (by simp; omega) _).setCell (by simp; omega) _).setCell (by simp; omega) _).setCell (by simp; omega) _).setCell (by simp; omega) _
set_option maxRecDepth 100000 in
set_option maxHeartbeats 8000000 in
theorem rDrive_lost (L R S N u now : Int) (A : Option Addr) (c : Nat) (lg : List S59) (lo hi : Int) (base : Nat) (W : World) (ho : W.ownsRow base 84 2 (.slice A lg.length c) lg.length (entc lg)) (hb : base ≤ W.heap.size) (h0 : lo ≤ hi) (h1 : -1000000000000000 ≤ lo) (h2 : hi ≤ 1000000000000000) (hfull : lg.length < 5000) (hu0 : 1 ≤ u) (hu1 : u ≤ 1000000000000) (hp : rightB L R S N = true) (ch : List Int) (hch : steer_Plan_chart.f L R S N = some ch) (hcl : ch.length = siz L R) (E : Int) (hE : unitsF u (Int.tdiv (lo + hi) 2) = E) (hin : isB L R E now = true) (hv : 1000 ≤ rd ch (ix L R E now)) :
    Calls Try.prog 33 #[.agg #[.int .i64 L, .int .i64 R, .int .i64 S, .int .i64 N, .int .i64 u, .int .i64 now, .slice A lg.length c], .agg #[.int .i64 lo, .int .i64 hi]] W fun e W' => e = .returned (.tuple #[.agg #[.int .i64 L, .int .i64 R, .int .i64 S, .int .i64 N, .int .i64 u, .int .i64 now, .slice A lg.length c], .int .i64 0, .int .i64 9]) ∧ Below W.heap.size W W' := by
  have f1' : decide (hi < lo) = false := decide_eq_false (by omega)
  have f2' : decide (lo < -1000000000000000) = false := decide_eq_false (by omega)
  have f3' : decide (1000000000000000 < hi) = false := decide_eq_false (by omega)
  have f4' : decide ((lg.length : Int) ≥ 5000) = false := decide_eq_false (by omega)
  have f5' : decide (5000 ≤ (lg.length : Int)) = false := decide_eq_false (by omega)
  have f6' : decide (5000 ≤ lg.length) = false := decide_eq_false (by omega)
  have hq := rightB_iff.1 hp
  obtain ⟨K, hK⟩ := ref_chart_f hp hch
  have c17 := fun W => meridianref06_Chart.calls K L R S N ch 0 W (hK K (Nat.le_refl _))
  have hlen : 3 ≤ ch.length := by rw [hcl]; exact siz_pos L R (by omega) (by omega)
  obtain ⟨m1, m2⟩ := mid_b lo hi (by omega) (by omega) (by omega)
  have c58 := fun W => rUnits_calls (Int.tdiv (lo + hi) 2) u W hu0 hu1 m1 m2
  rw [hE] at c58
  have c40 := fun W => meridianref06_is.calls L R S N E now _ W (ref_is_f (by omega) (by omega) (by omega) (by omega) E now)
  obtain ⟨jj, hj1, hj2⟩ := idx_lt (by omega) (by omega) hin
  have hix : ix L R E now = (jj : Int) := hj2
  have c41 := fun W => meridianref06_index.calls L R S N E now _ W (ref_index_f (by omega) (by omega) (by omega) (by omega) hin)
  rw [hj2] at c41
  have hjl : jj < ch.length := by rw [hcl]; exact hj1
  have hjs : (0 : Int) ≤ (jj : Int) ∧ (jj : Int) < ch.length := ⟨by omega, by omega⟩
  rw [hin] at c40
  rw [hix] at hv
  have m3 : -2000000000000000 ≤ lo + hi ∧ lo + hi ≤ 2000000000000000 := by omega
  clear hq hK hch hcl hE hin hj1 hj2 hix
  have g1 : decide (1000 ≤ rd ch (jj : Int)) = true := decide_eq_true hv
  have HOW := Aside0.mk ho
  have HBS := Aside0.mk hb
  clear ho hb
  have hu66 := Try.underlying66
  have hu71 := Try.underlying71
  have hu23 := Try.underlying23
  go_enter Try.func33, Try.ntmps33
  go_upto_region 1 with fail
  have hB0 : Below W.heap.size W (((W.alloc (.cells #[.int .i64 L, .int .i64 R, .int .i64 S, .int .i64 N, .int .i64 u, .int .i64 now, .slice A lg.length c] 66)).alloc (.cells #[.int .i64 lo, .int .i64 hi] 71)).alloc (.cells #[.int .i64 0, .int .i64 0, .int .i64 0, .int .i64 0, .int .i64 0, .int .i64 0, .slice none 0 0] 66)) := (((Below.refl _ W).alloc (Nat.le_refl _) _).alloc (by simp) _).alloc (by simp; omega) _
  have k2 : (((W.alloc (.cells #[.int .i64 L, .int .i64 R, .int .i64 S, .int .i64 N, .int .i64 u, .int .i64 now, .slice A lg.length c] 66)).alloc (.cells #[.int .i64 lo, .int .i64 hi] 71)).alloc (.cells #[.int .i64 0, .int .i64 0, .int .i64 0, .int .i64 0, .int .i64 0, .int .i64 0, .slice none 0 0] 66)).heap[W.heap.size]? = some (.cells #[.int .i64 L, .int .i64 R, .int .i64 S, .int .i64 N, .int .i64 u, .int .i64 now, .slice A lg.length c] 66 (0, 0)) := al_old (al_old (al_new _ _ _ rfl))
  have k3 : (((W.alloc (.cells #[.int .i64 L, .int .i64 R, .int .i64 S, .int .i64 N, .int .i64 u, .int .i64 now, .slice A lg.length c] 66)).alloc (.cells #[.int .i64 lo, .int .i64 hi] 71)).alloc (.cells #[.int .i64 0, .int .i64 0, .int .i64 0, .int .i64 0, .int .i64 0, .int .i64 0, .slice none 0 0] 66)).heap[W.heap.size + 1]? = some (.cells #[.int .i64 lo, .int .i64 hi] 71 (0, 0)) := al_old (al_new _ _ _ (by simp))
  have k4 : (((W.alloc (.cells #[.int .i64 L, .int .i64 R, .int .i64 S, .int .i64 N, .int .i64 u, .int .i64 now, .slice A lg.length c] 66)).alloc (.cells #[.int .i64 lo, .int .i64 hi] 71)).alloc (.cells #[.int .i64 0, .int .i64 0, .int .i64 0, .int .i64 0, .int .i64 0, .int .i64 0, .slice none 0 0] 66)).heap[W.heap.size + 1 + 1]? = some (.cells #[.int .i64 0, .int .i64 0, .int .i64 0, .int .i64 0, .int .i64 0, .int .i64 0, .slice none 0 0] 66 (0, 0)) := al_new _ _ _ (by simp)
  generalize (((W.alloc (.cells #[.int .i64 L, .int .i64 R, .int .i64 S, .int .i64 N, .int .i64 u, .int .i64 now, .slice A lg.length c] 66)).alloc (.cells #[.int .i64 lo, .int .i64 hi] 71)).alloc (.cells #[.int .i64 0, .int .i64 0, .int .i64 0, .int .i64 0, .int .i64 0, .int .i64 0, .slice none 0 0] 66)) = X0 at hB0 k2 k3 k4 ⊢
  have p0 : X0.cell? ⟨W.heap.size, 0, none⟩ = some (.int .i64 L) := blk_cell k2 0
  have p1 : X0.cell? ⟨W.heap.size, 1, none⟩ = some (.int .i64 R) := blk_cell k2 1
  have p2 : X0.cell? ⟨W.heap.size, 2, none⟩ = some (.int .i64 S) := blk_cell k2 2
  have p3 : X0.cell? ⟨W.heap.size, 3, none⟩ = some (.int .i64 N) := blk_cell k2 3
  have p4 : X0.cell? ⟨W.heap.size, 4, none⟩ = some (.int .i64 u) := blk_cell k2 4
  have p5 : X0.cell? ⟨W.heap.size, 5, none⟩ = some (.int .i64 now) := blk_cell k2 5
  have p6 : X0.cell? ⟨W.heap.size, 6, none⟩ = some (.slice A lg.length c) := blk_cell k2 6
  have s0 : X0.cell? ⟨W.heap.size + 1, 0, none⟩ = some (.int .i64 lo) := blk_cell k3 0
  have s1 : X0.cell? ⟨W.heap.size + 1, 1, none⟩ = some (.int .i64 hi) := blk_cell k3 1
  have q0 : X0.cell? ⟨W.heap.size + 1 + 1, 0, none⟩ = some (.int .i64 0) := blk_cell k4 0
  have q1 : X0.cell? ⟨W.heap.size + 1 + 1, 1, none⟩ = some (.int .i64 0) := blk_cell k4 1
  have q2 : X0.cell? ⟨W.heap.size + 1 + 1, 2, none⟩ = some (.int .i64 0) := blk_cell k4 2
  have q3 : X0.cell? ⟨W.heap.size + 1 + 1, 3, none⟩ = some (.int .i64 0) := blk_cell k4 3
  have q4 : X0.cell? ⟨W.heap.size + 1 + 1, 4, none⟩ = some (.int .i64 0) := blk_cell k4 4
  have q5 : X0.cell? ⟨W.heap.size + 1 + 1, 5, none⟩ = some (.int .i64 0) := blk_cell k4 5
  have q6 : X0.cell? ⟨W.heap.size + 1 + 1, 6, none⟩ = some (.slice none 0 0) := blk_cell k4 6
  have f0 := blk_fr k4 0
  have f1 := blk_fr k4 1
  have f2 := blk_fr k4 2
  have f3 := blk_fr k4 3
  have f4 := blk_fr k4 4
  have f5 := blk_fr k4 5
  have f6 := blk_fr k4 6
  go_wp2_with fail
  refine (c17 _).mono ?_
  rintro en X1 ⟨v0, rfl, hR, hB⟩
  obtain ⟨ad, cc, rfl, hrow⟩ := chart_form hR hlen
  replace k2 := blk_on hB k2
  replace k3 := blk_on hB k3
  replace k4 := blk_on hB k4
  replace hB0 := hB0.trans (hB.mono hB0.size)
  replace p0 := cell_on hB p0
  replace p1 := cell_on hB p1
  replace p2 := cell_on hB p2
  replace p3 := cell_on hB p3
  replace p4 := cell_on hB p4
  replace p5 := cell_on hB p5
  replace p6 := cell_on hB p6
  replace s0 := cell_on hB s0
  replace s1 := cell_on hB s1
  clear q0 f0 q1 f1 q2 f2 q3 f3 q4 f4 q5 f5 q6 f6
  have hd1 : Below X1.heap.size X1 X1 := Below.refl _ _
  clear hB hR c17
  go_wp2_with fail
  refine (c58 _).mono ?_
  rintro en X2 ⟨rfl, hB⟩
  replace hd1 := hd1.trans (hB.mono hd1.size)
  replace k2 := blk_on hB k2
  replace k3 := blk_on hB k3
  replace k4 := blk_on hB k4
  replace hB0 := hB0.trans (hB.mono hB0.size)
  replace p0 := cell_on hB p0
  replace p1 := cell_on hB p1
  replace p2 := cell_on hB p2
  replace p3 := cell_on hB p3
  replace p4 := cell_on hB p4
  replace p5 := cell_on hB p5
  replace p6 := cell_on hB p6
  replace s0 := cell_on hB s0
  replace s1 := cell_on hB s1
  clear hB c58
  go_wp2_with fail
  refine (c40 _).mono ?_
  rintro en X3 ⟨rfl, hB⟩
  replace hd1 := hd1.trans (hB.mono hd1.size)
  replace k2 := blk_on hB k2
  replace k3 := blk_on hB k3
  replace k4 := blk_on hB k4
  replace hB0 := hB0.trans (hB.mono hB0.size)
  replace p0 := cell_on hB p0
  replace p1 := cell_on hB p1
  replace p2 := cell_on hB p2
  replace p3 := cell_on hB p3
  replace p4 := cell_on hB p4
  replace p5 := cell_on hB p5
  replace p6 := cell_on hB p6
  replace s0 := cell_on hB s0
  replace s1 := cell_on hB s1
  clear hB c40
  go_wp2_with fail
  refine (c41 _).mono ?_
  rintro en X4 ⟨rfl, hB⟩
  replace hd1 := hd1.trans (hB.mono hd1.size)
  replace k2 := blk_on hB k2
  replace k3 := blk_on hB k3
  replace k4 := blk_on hB k4
  replace hB0 := hB0.trans (hB.mono hB0.size)
  replace p0 := cell_on hB p0
  replace p1 := cell_on hB p1
  replace p2 := cell_on hB p2
  replace p3 := cell_on hB p3
  replace p4 := cell_on hB p4
  replace p5 := cell_on hB p5
  replace p6 := cell_on hB p6
  replace s0 := cell_on hB s0
  replace s1 := cell_on hB s1
  clear hB
  have hrd := row_cell hrow hd1 jj hjl
  have q0 : X4.cell? ⟨W.heap.size + 1 + 1, 0, none⟩ = some (.int .i64 0) := blk_cell k4 0
  have q1 : X4.cell? ⟨W.heap.size + 1 + 1, 1, none⟩ = some (.int .i64 0) := blk_cell k4 1
  have q2 : X4.cell? ⟨W.heap.size + 1 + 1, 2, none⟩ = some (.int .i64 0) := blk_cell k4 2
  have q3 : X4.cell? ⟨W.heap.size + 1 + 1, 3, none⟩ = some (.int .i64 0) := blk_cell k4 3
  have q4 : X4.cell? ⟨W.heap.size + 1 + 1, 4, none⟩ = some (.int .i64 0) := blk_cell k4 4
  have q5 : X4.cell? ⟨W.heap.size + 1 + 1, 5, none⟩ = some (.int .i64 0) := blk_cell k4 5
  have q6 : X4.cell? ⟨W.heap.size + 1 + 1, 6, none⟩ = some (.slice none 0 0) := blk_cell k4 6
  have f0 := blk_fr k4 0
  have f1 := blk_fr k4 1
  have f2 := blk_fr k4 2
  have f3 := blk_fr k4 3
  have f4 := blk_fr k4 4
  have f5 := blk_fr k4 5
  have f6 := blk_fr k4 6
  clear k2 k3 c41
  go_wp2
  have k9 := set7_heap k4 (.int .i64 L) (.int .i64 R) (.int .i64 S) (.int .i64 N) (.int .i64 u) (.int .i64 now) (.slice A lg.length c)
  refine ⟨rfl, _, res_rd rfl _ _ (W.heap.size + 1 + 1) L R S N u now (.slice A lg.length c) (.int .i64 0) (.int .i64 9) (by simp) (by simp) (by simp) (blk_cell k9 0) (blk_cell k9 1) (blk_cell k9 2) (blk_cell k9 3) (blk_cell k9 4) (blk_cell k9 5) (blk_cell k9 6), rfl, ?_⟩
  exact ((((((hB0.setCell (by simp; omega) _).setCell (by simp; omega) _).setCell (by simp; omega) _).setCell (by simp; omega) _).setCell (by simp; omega) _).setCell (by simp; omega) _).setCell (by simp; omega) _
set_option maxRecDepth 100000 in
set_option maxHeartbeats 8000000 in
theorem rDrive_good (L R S N u now : Int) (A : Option Addr) (c : Nat) (lg : List S59) (lo hi : Int) (base : Nat) (W : World) (ho : W.ownsRow base 84 2 (.slice A lg.length c) lg.length (entc lg)) (hb : base ≤ W.heap.size) (h0 : lo ≤ hi) (h1 : -1000000000000000 ≤ lo) (h2 : hi ≤ 1000000000000000) (hfull : lg.length < 5000) (hu0 : 1 ≤ u) (hu1 : u ≤ 1000000000000) (hp : rightB L R S N = true) (ch : List Int) (hch : steer_Plan_chart.f L R S N = some ch) (hcl : ch.length = siz L R) (E : Int) (hE : unitsF u (Int.tdiv (lo + hi) 2) = E) (hin : isB L R E now = true) (hv : rd ch (ix L R E now) < 1000) (Q : Int) (hQ : rd ch (ix L R E now) = Q) :
    Calls Try.prog 33 #[.agg #[.int .i64 L, .int .i64 R, .int .i64 S, .int .i64 N, .int .i64 u, .int .i64 now, .slice A lg.length c], .agg #[.int .i64 lo, .int .i64 hi]] W fun e W' => ∃ v', e = .returned (.tuple #[.agg #[.int .i64 L, .int .i64 R, .int .i64 S, .int .i64 N, .int .i64 u, .int .i64 Q, v'], .int .i64 Q, .int .i64 0]) ∧ W'.ownsRow base 84 2 v' (lg.length + 1) (entc (lg ++ [⟨E, Q⟩])) ∧ Below W.heap.size W W' := by
  have f1' : decide (hi < lo) = false := decide_eq_false (by omega)
  have f2' : decide (lo < -1000000000000000) = false := decide_eq_false (by omega)
  have f3' : decide (1000000000000000 < hi) = false := decide_eq_false (by omega)
  have f4' : decide ((lg.length : Int) ≥ 5000) = false := decide_eq_false (by omega)
  have f5' : decide (5000 ≤ (lg.length : Int)) = false := decide_eq_false (by omega)
  have f6' : decide (5000 ≤ lg.length) = false := decide_eq_false (by omega)
  have hq := rightB_iff.1 hp
  obtain ⟨K, hK⟩ := ref_chart_f hp hch
  have c17 := fun W => meridianref06_Chart.calls K L R S N ch 0 W (hK K (Nat.le_refl _))
  have hlen : 3 ≤ ch.length := by rw [hcl]; exact siz_pos L R (by omega) (by omega)
  obtain ⟨m1, m2⟩ := mid_b lo hi (by omega) (by omega) (by omega)
  have c58 := fun W => rUnits_calls (Int.tdiv (lo + hi) 2) u W hu0 hu1 m1 m2
  rw [hE] at c58
  have c40 := fun W => meridianref06_is.calls L R S N E now _ W (ref_is_f (by omega) (by omega) (by omega) (by omega) E now)
  obtain ⟨i84, hj0, hj90, hj91, hj92⟩ := info_parts info84n
  obtain ⟨jj, hj1, hj2⟩ := idx_lt (by omega) (by omega) hin
  have hix : ix L R E now = (jj : Int) := hj2
  have c41 := fun W => meridianref06_index.calls L R S N E now _ W (ref_index_f (by omega) (by omega) (by omega) (by omega) hin)
  rw [hj2] at c41
  have hjl : jj < ch.length := by rw [hcl]; exact hj1
  have hjs : (0 : Int) ≤ (jj : Int) ∧ (jj : Int) < ch.length := ⟨by omega, by omega⟩
  rw [hin] at c40
  rw [hix] at hv hQ
  have m3 : -2000000000000000 ≤ lo + hi ∧ lo + hi ≤ 2000000000000000 := by omega
  clear hq hK hch hcl hE hin hj1 hj2 hix
  have g1 : decide (1000 ≤ rd ch (jj : Int)) = false := decide_eq_false (by omega)
  have HOW := Aside0.mk ho
  have HBS := Aside0.mk hb
  clear ho hb
  have hu66 := Try.underlying66
  have hu71 := Try.underlying71
  have hu23 := Try.underlying23
  go_enter Try.func33, Try.ntmps33
  go_upto_region 1 with fail
  have hB0 : Below W.heap.size W (((W.alloc (.cells #[.int .i64 L, .int .i64 R, .int .i64 S, .int .i64 N, .int .i64 u, .int .i64 now, .slice A lg.length c] 66)).alloc (.cells #[.int .i64 lo, .int .i64 hi] 71)).alloc (.cells #[.int .i64 0, .int .i64 0, .int .i64 0, .int .i64 0, .int .i64 0, .int .i64 0, .slice none 0 0] 66)) := (((Below.refl _ W).alloc (Nat.le_refl _) _).alloc (by simp) _).alloc (by simp; omega) _
  have k2 : (((W.alloc (.cells #[.int .i64 L, .int .i64 R, .int .i64 S, .int .i64 N, .int .i64 u, .int .i64 now, .slice A lg.length c] 66)).alloc (.cells #[.int .i64 lo, .int .i64 hi] 71)).alloc (.cells #[.int .i64 0, .int .i64 0, .int .i64 0, .int .i64 0, .int .i64 0, .int .i64 0, .slice none 0 0] 66)).heap[W.heap.size]? = some (.cells #[.int .i64 L, .int .i64 R, .int .i64 S, .int .i64 N, .int .i64 u, .int .i64 now, .slice A lg.length c] 66 (0, 0)) := al_old (al_old (al_new _ _ _ rfl))
  have k3 : (((W.alloc (.cells #[.int .i64 L, .int .i64 R, .int .i64 S, .int .i64 N, .int .i64 u, .int .i64 now, .slice A lg.length c] 66)).alloc (.cells #[.int .i64 lo, .int .i64 hi] 71)).alloc (.cells #[.int .i64 0, .int .i64 0, .int .i64 0, .int .i64 0, .int .i64 0, .int .i64 0, .slice none 0 0] 66)).heap[W.heap.size + 1]? = some (.cells #[.int .i64 lo, .int .i64 hi] 71 (0, 0)) := al_old (al_new _ _ _ (by simp))
  have k4 : (((W.alloc (.cells #[.int .i64 L, .int .i64 R, .int .i64 S, .int .i64 N, .int .i64 u, .int .i64 now, .slice A lg.length c] 66)).alloc (.cells #[.int .i64 lo, .int .i64 hi] 71)).alloc (.cells #[.int .i64 0, .int .i64 0, .int .i64 0, .int .i64 0, .int .i64 0, .int .i64 0, .slice none 0 0] 66)).heap[W.heap.size + 1 + 1]? = some (.cells #[.int .i64 0, .int .i64 0, .int .i64 0, .int .i64 0, .int .i64 0, .int .i64 0, .slice none 0 0] 66 (0, 0)) := al_new _ _ _ (by simp)
  generalize (((W.alloc (.cells #[.int .i64 L, .int .i64 R, .int .i64 S, .int .i64 N, .int .i64 u, .int .i64 now, .slice A lg.length c] 66)).alloc (.cells #[.int .i64 lo, .int .i64 hi] 71)).alloc (.cells #[.int .i64 0, .int .i64 0, .int .i64 0, .int .i64 0, .int .i64 0, .int .i64 0, .slice none 0 0] 66)) = X0 at hB0 k2 k3 k4 ⊢
  have p0 : X0.cell? ⟨W.heap.size, 0, none⟩ = some (.int .i64 L) := blk_cell k2 0
  have p1 : X0.cell? ⟨W.heap.size, 1, none⟩ = some (.int .i64 R) := blk_cell k2 1
  have p2 : X0.cell? ⟨W.heap.size, 2, none⟩ = some (.int .i64 S) := blk_cell k2 2
  have p3 : X0.cell? ⟨W.heap.size, 3, none⟩ = some (.int .i64 N) := blk_cell k2 3
  have p4 : X0.cell? ⟨W.heap.size, 4, none⟩ = some (.int .i64 u) := blk_cell k2 4
  have p5 : X0.cell? ⟨W.heap.size, 5, none⟩ = some (.int .i64 now) := blk_cell k2 5
  have p6 : X0.cell? ⟨W.heap.size, 6, none⟩ = some (.slice A lg.length c) := blk_cell k2 6
  have s0 : X0.cell? ⟨W.heap.size + 1, 0, none⟩ = some (.int .i64 lo) := blk_cell k3 0
  have s1 : X0.cell? ⟨W.heap.size + 1, 1, none⟩ = some (.int .i64 hi) := blk_cell k3 1
  have q0 : X0.cell? ⟨W.heap.size + 1 + 1, 0, none⟩ = some (.int .i64 0) := blk_cell k4 0
  have q1 : X0.cell? ⟨W.heap.size + 1 + 1, 1, none⟩ = some (.int .i64 0) := blk_cell k4 1
  have q2 : X0.cell? ⟨W.heap.size + 1 + 1, 2, none⟩ = some (.int .i64 0) := blk_cell k4 2
  have q3 : X0.cell? ⟨W.heap.size + 1 + 1, 3, none⟩ = some (.int .i64 0) := blk_cell k4 3
  have q4 : X0.cell? ⟨W.heap.size + 1 + 1, 4, none⟩ = some (.int .i64 0) := blk_cell k4 4
  have q5 : X0.cell? ⟨W.heap.size + 1 + 1, 5, none⟩ = some (.int .i64 0) := blk_cell k4 5
  have q6 : X0.cell? ⟨W.heap.size + 1 + 1, 6, none⟩ = some (.slice none 0 0) := blk_cell k4 6
  have f0 := blk_fr k4 0
  have f1 := blk_fr k4 1
  have f2 := blk_fr k4 2
  have f3 := blk_fr k4 3
  have f4 := blk_fr k4 4
  have f5 := blk_fr k4 5
  have f6 := blk_fr k4 6
  go_wp2_with fail
  refine (c17 _).mono ?_
  rintro en X1 ⟨v0, rfl, hR, hB⟩
  obtain ⟨ad, cc, rfl, hrow⟩ := chart_form hR hlen
  replace k2 := blk_on hB k2
  replace k3 := blk_on hB k3
  replace k4 := blk_on hB k4
  replace hB0 := hB0.trans (hB.mono hB0.size)
  replace p0 := cell_on hB p0
  replace p1 := cell_on hB p1
  replace p2 := cell_on hB p2
  replace p3 := cell_on hB p3
  replace p4 := cell_on hB p4
  replace p5 := cell_on hB p5
  replace p6 := cell_on hB p6
  replace s0 := cell_on hB s0
  replace s1 := cell_on hB s1
  clear q0 f0 q1 f1 q2 f2 q3 f3 q4 f4 q5 f5 q6 f6
  have hd1 : Below X1.heap.size X1 X1 := Below.refl _ _
  clear hB hR c17
  go_wp2_with fail
  refine (c58 _).mono ?_
  rintro en X2 ⟨rfl, hB⟩
  replace hd1 := hd1.trans (hB.mono hd1.size)
  replace k2 := blk_on hB k2
  replace k3 := blk_on hB k3
  replace k4 := blk_on hB k4
  replace hB0 := hB0.trans (hB.mono hB0.size)
  replace p0 := cell_on hB p0
  replace p1 := cell_on hB p1
  replace p2 := cell_on hB p2
  replace p3 := cell_on hB p3
  replace p4 := cell_on hB p4
  replace p5 := cell_on hB p5
  replace p6 := cell_on hB p6
  replace s0 := cell_on hB s0
  replace s1 := cell_on hB s1
  clear hB c58
  go_wp2_with fail
  refine (c40 _).mono ?_
  rintro en X3 ⟨rfl, hB⟩
  replace hd1 := hd1.trans (hB.mono hd1.size)
  replace k2 := blk_on hB k2
  replace k3 := blk_on hB k3
  replace k4 := blk_on hB k4
  replace hB0 := hB0.trans (hB.mono hB0.size)
  replace p0 := cell_on hB p0
  replace p1 := cell_on hB p1
  replace p2 := cell_on hB p2
  replace p3 := cell_on hB p3
  replace p4 := cell_on hB p4
  replace p5 := cell_on hB p5
  replace p6 := cell_on hB p6
  replace s0 := cell_on hB s0
  replace s1 := cell_on hB s1
  clear hB c40
  go_wp2_with fail
  refine (c41 _).mono ?_
  rintro en X4 ⟨rfl, hB⟩
  replace hd1 := hd1.trans (hB.mono hd1.size)
  replace k2 := blk_on hB k2
  replace k3 := blk_on hB k3
  replace k4 := blk_on hB k4
  replace hB0 := hB0.trans (hB.mono hB0.size)
  replace p0 := cell_on hB p0
  replace p1 := cell_on hB p1
  replace p2 := cell_on hB p2
  replace p3 := cell_on hB p3
  replace p4 := cell_on hB p4
  replace p5 := cell_on hB p5
  replace p6 := cell_on hB p6
  replace s0 := cell_on hB s0
  replace s1 := cell_on hB s1
  clear hB
  have hrd := row_cell hrow hd1 jj hjl
  have f22 := blk_fr k2 5
  go_wp2_with fail
  refine (c41 _).mono ?_
  rintro en X5 ⟨rfl, hB⟩
  replace hd1 := hd1.trans (hB.mono hd1.size)
  replace k2 := blk_on hB k2
  replace k3 := blk_on hB k3
  replace k4 := blk_on hB k4
  replace hB0 := hB0.trans (hB.mono hB0.size)
  replace p0 := cell_on hB p0
  replace p1 := cell_on hB p1
  replace p2 := cell_on hB p2
  replace p3 := cell_on hB p3
  replace p4 := cell_on hB p4
  replace p5 := cell_on hB p5
  replace p6 := cell_on hB p6
  replace s0 := cell_on hB s0
  replace s1 := cell_on hB s1
  clear hB c41
  have hrd := row_cell hrow hd1 jj hjl
  have f25 := blk_fr k2 5
  rw [hQ] at hrd
  have hlt2 := (Array.getElem?_eq_some_iff.1 k2).1
  have hlt4 := (Array.getElem?_eq_some_iff.1 k4).1
  have hs0 := hB0.size
  have own0 : ∀ o : World, ((X5.setCell ⟨W.heap.size, 5, none⟩ (.int .i64 Q)).alloc (.cells #[] 84)).ownsRow base 84 2 (.slice (some ⟨X5.heap.size, 0, none⟩) 0 0) 0 [] := fun _ => ⟨rfl, .inr ⟨X5.heap.size, 0, #[], rfl, by have := HBS.out; omega, al_new _ _ _ (by simp [World.setCell]), Nat.le_refl _, by unfold maxLen; omega, rfl, rfl⟩⟩
  have ownx : ((X5.setCell ⟨W.heap.size, 5, none⟩ (.int .i64 Q)).alloc (.cells #[] 84)).ownsRow base 84 2 (.slice A lg.length c) lg.length (entc lg) := own_move HOW.out (fun q hq => by
    have hlt := own_lt HOW.out q hq
    refine (Below.heap_alloc _ _ q (by simp [World.setCell]; omega)).trans ((Below.heap_setCell _ _ _ q (by simp; omega)).trans (hB0.block q hlt)))
  go_wp2_with (at_builtin; refine wpList_append_row rfl _ _ 51 rfl base 84 i84 (.agg #[.int .i64 0, .int .i64 0]) 2 16 Try.underlying51 hj0 hj90 hj91 hj92 rfl (by decide) _ 0 [] rfl (own0 X5) base _ lg.length (entc lg) rfl ownx (entc_one lg) ?a1 ?a2 ?a3 ?_)
  case a1 => unfold maxLen; omega
  case a2 => omega
  case a3 => have := HBS.out; simp [World.setCell]; omega
  intro v1 w6 hown1 hg1 hat1
  have e00 : (Value.slice (some ⟨X5.heap.size, 0, none⟩) 0 0).ownBlock = some X5.heap.size := rfl
  have hX6 : ((X5.setCell ⟨W.heap.size, 5, none⟩ (.int .i64 Q)).alloc (.cells #[] 84)).heap.size = X5.heap.size + 1 := by simp [World.setCell]
  rw [e00] at hg1 hat1
  have hB6 : Below W.heap.size W w6 := ((hB0.setCell (by simp) _).alloc (by simp [World.setCell]; omega) _).grown hg1 (by rw [hX6]; omega) (fun k hk => by cases hk; omega)
  have kk2 := blk_put k2 5 (.int .i64 Q)
  simp only [List.setIfInBounds_toArray, List.set_cons_zero, List.set_cons_succ] at kk2
  have k2' := (hg1.block W.heap.size (by rw [hX6]; omega) (by simp; omega)).trans (al_old kk2)
  have kk4 := (Below.heap_setCell X5 ⟨W.heap.size, 5, none⟩ (.int .i64 Q) (W.heap.size + 1 + 1) (by first | (simp; done) | (simp; omega))).trans k4
  have k4' := (hg1.block (W.heap.size + 1 + 1) (by rw [hX6]; omega) (by simp; omega)).trans (al_old kk4)
  have hs6 := hg1.size
  rw [hX6] at hs6
  have hvb : v1.ownBlock = some X5.heap.size ∨ v1.ownBlock = some (X5.heap.size + 1) := by simpa using hat1
  try simp only [Nat.zero_add, List.nil_append] at hown1
  obtain ⟨A1, c1, rfl⟩ := own_form1 hown1
  clear hg1 hat1 own0 ownx kk2 kk4 k2 k4 f25 f22 hrd hd1 hrow hX6 p0 p1 p2 p3 p4 p5 p6 s0 s1 k3
  have p5 : w6.cell? ⟨W.heap.size, 5, none⟩ = some (.int .i64 Q) := blk_cell k2' 5
  have f26 := blk_fr k2' 6
  have hl2 := (Array.getElem?_eq_some_iff.1 k2').1
  have own1 : (w6.alloc (.cells #[.int .i64 E, .int .i64 Q] 84)).ownsRow base 84 2 (.slice A1 lg.length c1) lg.length (entc lg) := own_move hown1 (fun q hq => Below.heap_alloc _ _ q (own_lt hown1 q hq))
  have ownn : (w6.alloc (.cells #[.int .i64 E, .int .i64 Q] 84)).ownsRow base 84 2 (.slice (some ⟨w6.heap.size, 0, none⟩) 1 1) 1 [.int .i64 E, .int .i64 Q] := ⟨rfl, .inr ⟨w6.heap.size, 1, _, rfl, by have := HBS.out; omega, al_new _ _ _ rfl, Nat.le_refl _, by unfold maxLen; omega, rfl, rfl⟩⟩
  have HB6 := Aside0.mk hB6
  have K2 := Aside0.mk k2'
  have K4 := Aside0.mk k4'
  have HVB := Aside0.mk hvb
  have H65 := Aside0.mk hs6
  have HS0 := Aside0.mk hs0
  have HL2 := Aside0.mk hlt2
  have HL4 := Aside0.mk hlt4
  clear hB6 k2' k4' hvb hs6 hB0 hs0 hlt2 hlt4
  go_wp2_with (at_builtin; refine wpList_append_row rfl _ _ 51 rfl base 84 i84 (.agg #[.int .i64 0, .int .i64 0]) 2 16 Try.underlying51 hj0 hj90 hj91 hj92 rfl (by decide) _ lg.length (entc lg) rfl own1 base _ 1 [.int .i64 E, .int .i64 Q] rfl ownn (by simp [Value.oneCell']) ?a4 ?a5 ?a6 ?_)
  case a4 => unfold maxLen; omega
  case a5 => omega
  case a6 => have := HBS.out; have := H65.out; have := HS0.out; simp; omega
  intro v2 w7 hown2 hg2 hat2
  have hvo : ∀ q, (Value.slice A1 lg.length c1).ownBlock = some q → X5.heap.size ≤ q := fun q hq => by rcases HVB.out with h | h <;> (rw [h] at hq; cases hq; omega)
  have hB7 : Below W.heap.size W w7 := (HB6.out.alloc HB6.out.size _).grown hg2 (by have := HB6.out.size; simp; omega) (fun k hk => by have := hvo k hk; have := HS0.out; omega)
  have k2' := (hg2.block W.heap.size (by simp; omega) (fun e => by have := hvo _ e.symm; have := HS0.out; have := HL2.out; omega)).trans (al_old K2.out)
  have k4' := (hg2.block (W.heap.size + 1 + 1) (by have := (Array.getElem?_eq_some_iff.1 K4.out).1; simp; omega) (fun e => by have := hvo _ e.symm; have := HL4.out; omega)).trans (al_old K4.out)
  obtain ⟨A2, c2, rfl⟩ := own_form1 hown2
  have p6 : w7.cell? ⟨W.heap.size, 6, none⟩ = some (.slice A lg.length c) := blk_cell k2' 6
  have f26 := blk_fr k2' 6
  have hvb2 : ∀ q, (Value.slice A2 (lg.length + 1) c2).ownBlock = some q → X5.heap.size ≤ q := fun q hq => by
    rcases hat2 with h | h
    · rw [h] at hq; exact hvo q hq
    · rw [h] at hq; cases hq; have := H65.out; simp; omega
  have kk2 := blk_put k2' 6 (.slice A2 (lg.length + 1) c2)
  simp only [List.setIfInBounds_toArray, List.set_cons_zero, List.set_cons_succ] at kk2
  have kk4 := (Below.heap_setCell w7 ⟨W.heap.size, 6, none⟩ (.slice A2 (lg.length + 1) c2) (W.heap.size + 1 + 1) (by first | (simp; done) | (simp; omega))).trans k4'
  have hown3 : (w7.setCell ⟨W.heap.size, 6, none⟩ (.slice A2 (lg.length + 1) c2)).ownsRow base 84 2 (.slice A2 (lg.length + 1) c2) (lg.length + 1) (entc lg ++ [.int .i64 E, .int .i64 Q]) := own_move hown2 (fun q hq => Below.heap_setCell _ _ _ q (by have := hvb2 q hq; have := HL2.out; simp; omega))
  have hB8 : Below W.heap.size W (w7.setCell ⟨W.heap.size, 6, none⟩ (.slice A2 (lg.length + 1) c2)) := hB7.setCell (by simp) _
  have HX := Aside0.mk (And.intro kk2 (And.intro kk4 (And.intro hown3 (And.intro hB8 hvb2))))
  clear hown2 hg2 hat2 hB7 k2' k4' hvb2 kk2 kk4 hown3 hB8 own1 ownn hvo
  go_wp2_with fail
  generalize w7.setCell ⟨W.heap.size, 6, none⟩ (.slice A2 (lg.length + 1) c2) = w8 at HX ⊢
  obtain ⟨kk2, kk4, hown3, hB8, hvb2⟩ := HX.out
  have p0 : w8.cell? ⟨W.heap.size, 0, none⟩ = some (.int .i64 L) := blk_cell kk2 0
  have p1 : w8.cell? ⟨W.heap.size, 1, none⟩ = some (.int .i64 R) := blk_cell kk2 1
  have p2 : w8.cell? ⟨W.heap.size, 2, none⟩ = some (.int .i64 S) := blk_cell kk2 2
  have p3 : w8.cell? ⟨W.heap.size, 3, none⟩ = some (.int .i64 N) := blk_cell kk2 3
  have p4 : w8.cell? ⟨W.heap.size, 4, none⟩ = some (.int .i64 u) := blk_cell kk2 4
  have p5 : w8.cell? ⟨W.heap.size, 5, none⟩ = some (.int .i64 Q) := blk_cell kk2 5
  have p6 : w8.cell? ⟨W.heap.size, 6, none⟩ = some (.slice A2 (lg.length + 1) c2) := blk_cell kk2 6
  have q0 : w8.cell? ⟨W.heap.size + 1 + 1, 0, none⟩ = some (.int .i64 0) := blk_cell kk4 0
  have q1 : w8.cell? ⟨W.heap.size + 1 + 1, 1, none⟩ = some (.int .i64 0) := blk_cell kk4 1
  have q2 : w8.cell? ⟨W.heap.size + 1 + 1, 2, none⟩ = some (.int .i64 0) := blk_cell kk4 2
  have q3 : w8.cell? ⟨W.heap.size + 1 + 1, 3, none⟩ = some (.int .i64 0) := blk_cell kk4 3
  have q4 : w8.cell? ⟨W.heap.size + 1 + 1, 4, none⟩ = some (.int .i64 0) := blk_cell kk4 4
  have q5 : w8.cell? ⟨W.heap.size + 1 + 1, 5, none⟩ = some (.int .i64 0) := blk_cell kk4 5
  have q6 : w8.cell? ⟨W.heap.size + 1 + 1, 6, none⟩ = some (.slice none 0 0) := blk_cell kk4 6
  have f0 := blk_fr kk4 0
  have f1 := blk_fr kk4 1
  have f2 := blk_fr kk4 2
  have f3 := blk_fr kk4 3
  have f4 := blk_fr kk4 4
  have f5 := blk_fr kk4 5
  have f6 := blk_fr kk4 6
  have HOWN := Aside0.mk hown3
  have HB8 := Aside0.mk hB8
  have HV2 := Aside0.mk hvb2
  have KK4 := Aside0.mk kk4
  clear hown3 hB8 hvb2 kk2 kk4
  go_region
  obtain ⟨w9, hw9⟩ : ∃ x, (((((((w8.setCell ⟨W.heap.size + 1 + 1, 0, none⟩ (.int .i64 L)).setCell ⟨W.heap.size + 1 + 1, 1, none⟩ (.int .i64 R)).setCell ⟨W.heap.size + 1 + 1, 2, none⟩ (.int .i64 S)).setCell ⟨W.heap.size + 1 + 1, 3, none⟩ (.int .i64 N)).setCell ⟨W.heap.size + 1 + 1, 4, none⟩ (.int .i64 u)).setCell ⟨W.heap.size + 1 + 1, 5, none⟩ (.int .i64 Q)).setCell ⟨W.heap.size + 1 + 1, 6, none⟩ (.slice A2 (lg.length + 1) c2)) = x := ⟨_, rfl⟩
  have k9 : w9.heap[W.heap.size + 1 + 1]? = some (.cells #[.int .i64 L, .int .i64 R, .int .i64 S, .int .i64 N, .int .i64 u, .int .i64 Q, .slice A2 (lg.length + 1) c2] 66 (0, 0)) := by
    rw [← hw9]
    exact set7_heap KK4.out (.int .i64 L) (.int .i64 R) (.int .i64 S) (.int .i64 N) (.int .i64 u) (.int .i64 Q) (.slice A2 (lg.length + 1) c2)
  have own9 : w9.ownsRow base 84 2 (.slice A2 (lg.length + 1) c2) (lg.length + 1) (entc (lg ++ [⟨E, Q⟩])) := by
    have e9 : entc (lg ++ [⟨E, Q⟩]) = entc lg ++ [.int .i64 E, .int .i64 Q] := entc_append _ _
    rw [e9, ← hw9]
    have hne : ∀ q, (Value.slice A2 (lg.length + 1) c2).ownBlock = some q → q ≠ W.heap.size + 1 + 1 := fun q hq => by have := HV2.out q hq; have := HL4.out; omega
    refine own_move HOWN.out (fun q hq => ?_)
    have hn := hne q hq
    rw [Below.heap_setCell _ _ _ q hn, Below.heap_setCell _ _ _ q hn, Below.heap_setCell _ _ _ q hn, Below.heap_setCell _ _ _ q hn, Below.heap_setCell _ _ _ q hn, Below.heap_setCell _ _ _ q hn, Below.heap_setCell _ _ _ q hn]
  have hB9 : Below W.heap.size W w9 := by
    rw [← hw9]
    exact ((((((HB8.out.setCell (by simp; omega) _).setCell (by simp; omega) _).setCell (by simp; omega) _).setCell (by simp; omega) _).setCell (by simp; omega) _).setCell (by simp; omega) _).setCell (by simp; omega) _
  rw [hw9]
  clear hw9
  have k10 : w9.drew.heap[W.heap.size + 1 + 1]? = some (.cells #[.int .i64 L, .int .i64 R, .int .i64 S, .int .i64 N, .int .i64 u, .int .i64 Q, .slice A2 (lg.length + 1) c2] 66 (0, 0)) := k9
  have own10 : w9.drew.ownsRow base 84 2 (.slice A2 (lg.length + 1) c2) (lg.length + 1) (entc (lg ++ [⟨E, Q⟩])) := own_move own9 (fun q _ => rfl)
  have hB10 := hB9.drew
  generalize w9.drew = w10 at k10 own10 hB10 ⊢
  go_wp2
  refine ⟨rfl, _, res_rd rfl _ _ (W.heap.size + 1 + 1) L R S N u Q (.slice A2 (lg.length + 1) c2) (.int .i64 Q) (.int .i64 0) (by simp) (by simp) (by simp) (blk_cell k10 0) (blk_cell k10 1) (blk_cell k10 2) (blk_cell k10 3) (blk_cell k10 4) (blk_cell k10 5) (blk_cell k10 6), _, rfl, own10, hB10⟩
end Go.Proofs.Ytcaekmalkbaldaa.M
