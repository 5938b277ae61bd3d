/- Contracts of the reference's rules, by hand. -/
import Derived.OwnWalk
import Derived.Deep.RegionHeld3
import Derived.Test.YtjgnadighdbjlaaCd
namespace Go.Proofs.Ytjgnadighdbjlaa.C
open Go.RowKit Go.Shelf Go.Maps Go.Proofs.YtjgnadighdbjlaaW.PrintWords Go.Proofs.YtjgnadighdbjlaaW.PrintLast Go.Proofs.YtjgnadighdbjlaaW.PrintMore
set_option linter.unusedVariables false
set_option linter.unusedSimpArgs false
theorem okC_iff (F O J G R D I : Int) : okC F O J G R D I = true ↔ (¬ F < 1 ∧ ¬ 1000 < F ∧ ¬ O < -1000000000000 ∧ ¬ 1000000000000 < O ∧ ¬ J < 0 ∧ ¬ 1000000000 < J ∧ ¬ G < 1 ∧ ¬ 1000000000 < G ∧ ¬ D < 1 ∧ ¬ 100000 < D ∧ ¬ I < 0 ∧ ¬ 1000000 < I ∧ ¬ R < 2 * G ∧ ¬ 1000000000000000 < R ∧ R % (2 * G) = 0) := by
  unfold okC ruleL
  simp only [List.all_cons, List.all_nil, id, Bool.and_eq_true, decide_eq_true_eq, Bool.and_true]
  refine ⟨fun h => ?_, fun h => ?_⟩
  · obtain ⟨h0, h1, h2, h3, h4, h5, h6, h7⟩ := h
    have := Int.emod_nonneg R (b := 2 * G) (by omega)
    have h8 : ¬ R < 2 * G := fun hl => by rw [Int.emod_eq_of_lt (by omega) hl] at h7; omega
    exact ⟨by omega, by omega, by omega, by omega, by omega, by omega, by omega, by omega, by omega, by omega, by omega, by omega, h8, by omega, h7⟩
  · obtain ⟨h0, h1, h2, h3, h4, h5, h6, h7, h8, h9, h10, h11, h12, h13, h14⟩ := h
    exact ⟨by omega, by omega, by omega, by omega, by omega, by omega, by omega, h14⟩
set_option maxHeartbeats 4000000 in
theorem rCheck_calls (F O J G R D I : Int) (w : World) :
    Calls Try.prog 25 #[.agg #[.int .i64 F, .int .i64 O, .int .i64 J, .int .i64 G, .int .i64 R, .int .i64 D, .int .i64 I]] w fun e w' => e = .returned (.int .i64 (if okC F O J G R D I then 0 else 30)) ∧ Below w.heap.size w w' := by
  have hv := Below.refl w.heap.size w
  have hiff := okC_iff F O J G R D I
  generalize hq : (if okC F O J G R D I then (0 : Int) else 30) = q at *
  have HQ := Aside0.mk hq
  clear hq
  by_cases n0 : F < 1
  · have HK : Aside0 (okC F O J G R D I = false) := ⟨by rw [Bool.eq_false_iff]; intro h; have := hiff.1 h; omega⟩
    clear hiff
    have dd : decide (F < 1) = true := decide_eq_true n0
    skip
    go_enter Try.func25, Try.ntmps25
    go_wp2
    go_ret
    exact ⟨by rw [← HQ.out, HK.out]; rfl, hv.alloc (Nat.le_refl _) _⟩
  by_cases n1 : 1000 < F
  · have HK : Aside0 (okC F O J G R D I = false) := ⟨by rw [Bool.eq_false_iff]; intro h; have := hiff.1 h; omega⟩
    clear hiff
    have dd : decide (1000 < F) = true := decide_eq_true n1
    skip
    go_enter Try.func25, Try.ntmps25
    go_wp2
    go_ret
    exact ⟨by rw [← HQ.out, HK.out]; rfl, hv.alloc (Nat.le_refl _) _⟩
  by_cases n2 : O < -1000000000000
  · have HK : Aside0 (okC F O J G R D I = false) := ⟨by rw [Bool.eq_false_iff]; intro h; have := hiff.1 h; omega⟩
    clear hiff
    have dd : decide (O < -1000000000000) = true := decide_eq_true n2
    skip
    go_enter Try.func25, Try.ntmps25
    go_wp2
    go_ret
    exact ⟨by rw [← HQ.out, HK.out]; rfl, hv.alloc (Nat.le_refl _) _⟩
  by_cases n3 : 1000000000000 < O
  · have HK : Aside0 (okC F O J G R D I = false) := ⟨by rw [Bool.eq_false_iff]; intro h; have := hiff.1 h; omega⟩
    clear hiff
    have dd : decide (1000000000000 < O) = true := decide_eq_true n3
    skip
    go_enter Try.func25, Try.ntmps25
    go_wp2
    go_ret
    exact ⟨by rw [← HQ.out, HK.out]; rfl, hv.alloc (Nat.le_refl _) _⟩
  by_cases n4 : J < 0
  · have HK : Aside0 (okC F O J G R D I = false) := ⟨by rw [Bool.eq_false_iff]; intro h; have := hiff.1 h; omega⟩
    clear hiff
    have dd : decide (J < 0) = true := decide_eq_true n4
    skip
    go_enter Try.func25, Try.ntmps25
    go_wp2
    go_ret
    exact ⟨by rw [← HQ.out, HK.out]; rfl, hv.alloc (Nat.le_refl _) _⟩
  by_cases n5 : 1000000000 < J
  · have HK : Aside0 (okC F O J G R D I = false) := ⟨by rw [Bool.eq_false_iff]; intro h; have := hiff.1 h; omega⟩
    clear hiff
    have dd : decide (1000000000 < J) = true := decide_eq_true n5
    skip
    go_enter Try.func25, Try.ntmps25
    go_wp2
    go_ret
    exact ⟨by rw [← HQ.out, HK.out]; rfl, hv.alloc (Nat.le_refl _) _⟩
  by_cases n6 : G < 1
  · have HK : Aside0 (okC F O J G R D I = false) := ⟨by rw [Bool.eq_false_iff]; intro h; have := hiff.1 h; omega⟩
    clear hiff
    have dd : decide (G < 1) = true := decide_eq_true n6
    skip
    go_enter Try.func25, Try.ntmps25
    go_wp2
    go_ret
    exact ⟨by rw [← HQ.out, HK.out]; rfl, hv.alloc (Nat.le_refl _) _⟩
  by_cases n7 : 1000000000 < G
  · have HK : Aside0 (okC F O J G R D I = false) := ⟨by rw [Bool.eq_false_iff]; intro h; have := hiff.1 h; omega⟩
    clear hiff
    have dd : decide (1000000000 < G) = true := decide_eq_true n7
    skip
    go_enter Try.func25, Try.ntmps25
    go_wp2
    go_ret
    exact ⟨by rw [← HQ.out, HK.out]; rfl, hv.alloc (Nat.le_refl _) _⟩
  by_cases n8 : D < 1
  · have HK : Aside0 (okC F O J G R D I = false) := ⟨by rw [Bool.eq_false_iff]; intro h; have := hiff.1 h; omega⟩
    clear hiff
    have dd : decide (D < 1) = true := decide_eq_true n8
    skip
    go_enter Try.func25, Try.ntmps25
    go_wp2
    go_ret
    exact ⟨by rw [← HQ.out, HK.out]; rfl, hv.alloc (Nat.le_refl _) _⟩
  by_cases n9 : 100000 < D
  · have HK : Aside0 (okC F O J G R D I = false) := ⟨by rw [Bool.eq_false_iff]; intro h; have := hiff.1 h; omega⟩
    clear hiff
    have dd : decide (100000 < D) = true := decide_eq_true n9
    skip
    go_enter Try.func25, Try.ntmps25
    go_wp2
    go_ret
    exact ⟨by rw [← HQ.out, HK.out]; rfl, hv.alloc (Nat.le_refl _) _⟩
  by_cases n10 : I < 0
  · have HK : Aside0 (okC F O J G R D I = false) := ⟨by rw [Bool.eq_false_iff]; intro h; have := hiff.1 h; omega⟩
    clear hiff
    have dd : decide (I < 0) = true := decide_eq_true n10
    skip
    go_enter Try.func25, Try.ntmps25
    go_wp2
    go_ret
    exact ⟨by rw [← HQ.out, HK.out]; rfl, hv.alloc (Nat.le_refl _) _⟩
  by_cases n11 : 1000000 < I
  · have HK : Aside0 (okC F O J G R D I = false) := ⟨by rw [Bool.eq_false_iff]; intro h; have := hiff.1 h; omega⟩
    clear hiff
    have dd : decide (1000000 < I) = true := decide_eq_true n11
    skip
    go_enter Try.func25, Try.ntmps25
    go_wp2
    go_ret
    exact ⟨by rw [← HQ.out, HK.out]; rfl, hv.alloc (Nat.le_refl _) _⟩
  by_cases n12 : R < 2 * G
  · have HK : Aside0 (okC F O J G R D I = false) := ⟨by rw [Bool.eq_false_iff]; intro h; have := hiff.1 h; omega⟩
    clear hiff
    have dd : decide (R < 2 * G) = true := decide_eq_true n12
    skip
    go_enter Try.func25, Try.ntmps25
    go_wp2
    go_ret
    exact ⟨by rw [← HQ.out, HK.out]; rfl, hv.alloc (Nat.le_refl _) _⟩
  by_cases n13 : 1000000000000000 < R
  · have HK : Aside0 (okC F O J G R D I = false) := ⟨by rw [Bool.eq_false_iff]; intro h; have := hiff.1 h; omega⟩
    clear hiff
    have dd : decide (1000000000000000 < R) = true := decide_eq_true n13
    skip
    go_enter Try.func25, Try.ntmps25
    go_wp2
    go_ret
    exact ⟨by rw [← HQ.out, HK.out]; rfl, hv.alloc (Nat.le_refl _) _⟩
  have t0 := Int.tmod_eq_emod_of_nonneg (a := R) (by omega) (b := 2 * G)
  by_cases n14 : R % (2 * G) = 0
  · have HK : Aside0 (okC F O J G R D I = true) := ⟨by rw [hiff]; exact ⟨n0, n1, n2, n3, n4, n5, n6, n7, n8, n9, n10, n11, n12, n13, n14⟩⟩
    clear hiff
    have dd : (R % (2 * G) != 0) = false := by simp [n14]
    skip
    go_enter Try.func25, Try.ntmps25
    go_wp2
    go_ret
    exact ⟨by rw [← HQ.out, HK.out]; rfl, hv.alloc (Nat.le_refl _) _⟩
  · have HK : Aside0 (okC F O J G R D I = false) := ⟨by rw [Bool.eq_false_iff]; intro h; exact n14 (hiff.1 h).2.2.2.2.2.2.2.2.2.2.2.2.2.2⟩
    clear hiff
    have dd : (R % (2 * G) != 0) = true := by simp [n14]
    skip
    go_enter Try.func25, Try.ntmps25
    go_wp2
    go_ret
    exact ⟨by rw [← HQ.out, HK.out]; rfl, hv.alloc (Nat.le_refl _) _⟩
end Go.Proofs.Ytjgnadighdbjlaa.C
