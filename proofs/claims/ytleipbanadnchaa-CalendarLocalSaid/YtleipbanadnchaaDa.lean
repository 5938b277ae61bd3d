/- Contracts of calendar.Length and Offset, by hand. -/
import Derived.OwnWalk
import Derived.Test.YtleipbanadnchaaDp
import Derived.Test.YtleipbanadnchaaCm
namespace Go.Proofs.Ytleipbanadnchaa.C
open Go.RowKit Go.Shelf Go.Maps Go.Proofs.YtleipbanadnchaaW.PrintWords Go.Proofs.YtleipbanadnchaaW.PrintLast Go.Proofs.YtleipbanadnchaaW.PrintMore
set_option linter.unusedVariables false
set_option linter.unusedSimpArgs false
theorem iw (x : Int) (h0 : -1000000000000000000 ≤ x) (h1 : x ≤ 1000000000000000000) : IntKind.i64.wrap x = x := by
  unfold IntKind.wrap
  simp [IntKind.bits, IntKind.signed]
  omega
set_option maxHeartbeats 1000000 in
set_option maxRecDepth 100000 in
theorem Length_calls (b u : Int) (A : Option Addr) (c : Nat) (l : List (Int × Int)) (d : Int) (w : World) (hr : Kd.C kl w A l.length l) :
    Calls Try.prog 31 #[tabV b A l.length c u, .int .i64 d] w fun e w' => e = .returned (.tuple #[.int .i64 (lengthR b l u d).1, .int .i64 (lengthR b l u d).2]) ∧ Below w.heap.size w w' := by
  have HR := Aside0.mk hr
  have a62 := fun w h => open_calls b u A c l w h
  have c81 := fun w => within_calls d 41317 (u - 1) w
  clear hr
  unfold lengthR
  by_cases hk : checkF b l u = 0
  · rw [if_pos hk]
    have HK := Aside0.mk (checkF_right hk)
    have hu := HK.out.2.2.1
    have hu2 := HK.out.2.2.2.1
    by_cases hd : 41317 ≤ d ∧ d ≤ u - 1
    · rw [if_pos hd]
      rw [show (decide (41317 ≤ d) && decide (d ≤ u - 1)) = true by simp; omega] at c81
      have hsb := step_bound d l (fun x hx => (HK.out.2.2.2.2.2.steps x hx).1)
      have a88 := fun kb w hc => length_calls kb b u A c l d (wf_64 (by omega) (by omega)) w hc HK.out.2.2.2.2.2
      generalize stepF l d = q at *
      have hK2 := Aside0.mk hk
      clear hk
      go_enter Try.func31, Try.ntmps31
      go_wp2_with fail
      refine (a62 _ (Kd.C_below HR.out ((Below.refl _ w).alloc (Nat.le_refl _) _))).mono ?_
      rintro en w1 ⟨_, h2, hB⟩
      obtain ⟨kb, rfl, hkb, hct⟩ := h2 hK2.out
      have hv : Below w.heap.size w w1 := ((Below.refl _ w).alloc (Nat.le_refl _) _).trans (hB.mono (by simp))
      have kx : w1.heap[w.heap.size]? = some (.cells #[.int .i64 b, .slice A l.length c, .int .i64 u] 28 (0, 0)) := (hB.block _ (by simp)).trans (al_new _ _ _ rfl)
      have t2 : w1.cell? ⟨w.heap.size, 2, none⟩ = some (.int .i64 u) := blk_cell kx 2
      clear hB h2 a62 kx
      have HC := Aside0.mk hct
      clear hct
      go_wp2_with fail
      refine (c81 _).mono ?_
      rintro en w2 ⟨rfl, hB⟩
      go_wp2_with fail
      refine (a88 kb _ (HC.out.below hB)).mono ?_
      rintro en w3 ⟨rfl, rfl⟩
      go_wp2
      go_ret2
      exact ⟨rfl, hv.trans (hB.mono hv.size)⟩
    · rw [if_neg hd]
      rw [show (decide (41317 ≤ d) && decide (d ≤ u - 1)) = false by simp; omega] at c81
      have hK2 := Aside0.mk hk
      clear hk hd
      go_enter Try.func31, Try.ntmps31
      go_wp2_with fail
      refine (a62 _ (Kd.C_below HR.out ((Below.refl _ w).alloc (Nat.le_refl _) _))).mono ?_
      rintro en w1 ⟨_, h2, hB⟩
      obtain ⟨kb, rfl, hkb, hct⟩ := h2 hK2.out
      have hv : Below w.heap.size w w1 := ((Below.refl _ w).alloc (Nat.le_refl _) _).trans (hB.mono (by simp))
      have kx : w1.heap[w.heap.size]? = some (.cells #[.int .i64 b, .slice A l.length c, .int .i64 u] 28 (0, 0)) := (hB.block _ (by simp)).trans (al_new _ _ _ rfl)
      have t2 : w1.cell? ⟨w.heap.size, 2, none⟩ = some (.int .i64 u) := blk_cell kx 2
      clear hB h2 a62 kx hct
      go_wp2_with fail
      refine (c81 _).mono ?_
      rintro en w2 ⟨rfl, hB⟩
      go_wp2
      go_ret2
      exact ⟨rfl, hv.trans (hB.mono hv.size)⟩
  · rw [if_neg hk]
    have q1 : (checkF b l u == 0) = false := beq_eq_false_iff_ne.2 hk
    have q2 : (checkF b l u != 0) = true := bne_iff_ne.2 hk
    generalize checkF b l u = q at *
    go_enter Try.func31, Try.ntmps31
    go_wp2_with fail
    refine (a62 _ (Kd.C_below HR.out ((Below.refl _ w).alloc (Nat.le_refl _) _))).mono ?_
    rintro en w1 ⟨h1, _, hB⟩
    obtain rfl := h1 hk
    have hv : Below w.heap.size w w1 := ((Below.refl _ w).alloc (Nat.le_refl _) _).trans (hB.mono (by simp))
    clear hB h1 a62
    go_wp2
    go_ret2
    exact ⟨rfl, hv⟩
set_option maxHeartbeats 1000000 in
set_option maxRecDepth 100000 in
theorem Offset_calls (b u : Int) (A : Option Addr) (c : Nat) (l : List (Int × Int)) (d : Int) (w : World) (hr : Kd.C kl w A l.length l) :
    Calls Try.prog 27 #[tabV b A l.length c u, .int .i64 d] w fun e w' => e = .returned (.tuple #[.int .i64 (offsetR b l u d).1, .int .i64 (offsetR b l u d).2]) ∧ Below w.heap.size w w' := by
  have HR := Aside0.mk hr
  have a62 := fun w h => open_calls b u A c l w h
  have c81 := fun w => within_calls d 41317 (u - 1) w
  clear hr
  unfold offsetR
  by_cases hk : checkF b l u = 0
  · rw [if_pos hk]
    have HK := Aside0.mk (checkF_right hk)
    have hu := HK.out.2.2.1
    have hu2 := HK.out.2.2.2.1
    by_cases hd : 41317 ≤ d ∧ d ≤ u - 1
    · rw [if_pos hd]
      rw [show (decide (41317 ≤ d) && decide (d ≤ u - 1)) = true by simp; omega] at c81
      have hgb := HK.out.2.2.2.2.2.take l.length d
      rw [List.take_length] at hgb
      have hl := HK.out.2.2.2.2.1
      have hb := HK.out.2.1
      have hb0 := HK.out.1
      have a82 := fun kb w hc => grown_calls kb b u A c l d w hc HK.out.2.2.2.2.2 HK.out.2.2.2.2.1
      generalize grownF l d = q at *
      have hK2 := Aside0.mk hk
      clear hk
      go_enter Try.func27, Try.ntmps27
      go_wp2_with fail
      refine (a62 _ (Kd.C_below HR.out ((Below.refl _ w).alloc (Nat.le_refl _) _))).mono ?_
      rintro en w1 ⟨_, h2, hB⟩
      obtain ⟨kb, rfl, hkb, hct⟩ := h2 hK2.out
      have hv : Below w.heap.size w w1 := ((Below.refl _ w).alloc (Nat.le_refl _) _).trans (hB.mono (by simp))
      have kx : w1.heap[w.heap.size]? = some (.cells #[.int .i64 b, .slice A l.length c, .int .i64 u] 28 (0, 0)) := (hB.block _ (by simp)).trans (al_new _ _ _ rfl)
      have t2 : w1.cell? ⟨w.heap.size, 2, none⟩ = some (.int .i64 u) := blk_cell kx 2
      clear hB h2 a62 kx
      have HC := Aside0.mk hct
      clear hct
      go_wp2_with fail
      refine (c81 _).mono ?_
      rintro en w2 ⟨rfl, hB⟩
      go_wp2_with fail
      have hv2 := hv.trans (hB.mono hv.size)
      have HC2 := Aside0.mk (HC.out.below hB)
      clear hB hv HC
      obtain ⟨_, _, hkx, _⟩ := HC2.out
      have k0 : w2.cell? ⟨kb, 0, none⟩ = some (.int .i64 b) := blk_cell hkx 0
      have hw := iw (b + q) (by omega) (by omega)
      have hS : ∀ w', Below w2.heap.size w2 w' → ((w'.cell? ⟨kb, 0, none⟩ = some (.int .i64 b) ∧ True) ∧ Below w2.heap.size w2 w') := fun w' hB => ⟨⟨cell_on hB k0, trivial⟩, hB⟩
      go_region_held3 (fun w' => (w'.cell? ⟨kb, 0, none⟩ = some (.int .i64 b) ∧ True) ∧ Below w2.heap.size w2 w') (first | exact hS _ (Below.refl _ _).drew | (have hh := ‹(_ ∧ _) ∧ Below w2.heap.size w2 _›; exact hS _ (hh.2.trans (hB.mono hh.2.size))))
        (first | (go_at_call 82; refine (a82 kb _ (by have hh := ‹(_ ∧ _) ∧ Below w2.heap.size w2 _›; exact HC2.out.below hh.2)).mono ?_; rintro e w' ⟨rfl, hB⟩))
      rename_i hHeld
      have hV := hHeld.2
      clear hHeld hS hw
      try go_wp2
      go_ret2
      exact ⟨rfl, hv2.trans (hV.mono hv2.size)⟩
    · rw [if_neg hd]
      rw [show (decide (41317 ≤ d) && decide (d ≤ u - 1)) = false by simp; omega] at c81
      have hK2 := Aside0.mk hk
      clear hk hd
      go_enter Try.func27, Try.ntmps27
      go_wp2_with fail
      refine (a62 _ (Kd.C_below HR.out ((Below.refl _ w).alloc (Nat.le_refl _) _))).mono ?_
      rintro en w1 ⟨_, h2, hB⟩
      obtain ⟨kb, rfl, hkb, hct⟩ := h2 hK2.out
      have hv : Below w.heap.size w w1 := ((Below.refl _ w).alloc (Nat.le_refl _) _).trans (hB.mono (by simp))
      have kx : w1.heap[w.heap.size]? = some (.cells #[.int .i64 b, .slice A l.length c, .int .i64 u] 28 (0, 0)) := (hB.block _ (by simp)).trans (al_new _ _ _ rfl)
      have t2 : w1.cell? ⟨w.heap.size, 2, none⟩ = some (.int .i64 u) := blk_cell kx 2
      clear hB h2 a62 kx hct
      go_wp2_with fail
      refine (c81 _).mono ?_
      rintro en w2 ⟨rfl, hB⟩
      go_wp2
      go_ret2
      exact ⟨rfl, hv.trans (hB.mono hv.size)⟩
  · rw [if_neg hk]
    have q1 : (checkF b l u == 0) = false := beq_eq_false_iff_ne.2 hk
    have q2 : (checkF b l u != 0) = true := bne_iff_ne.2 hk
    generalize checkF b l u = q at *
    go_enter Try.func27, Try.ntmps27
    go_wp2_with fail
    refine (a62 _ (Kd.C_below HR.out ((Below.refl _ w).alloc (Nat.le_refl _) _))).mono ?_
    rintro en w1 ⟨h1, _, hB⟩
    obtain rfl := h1 hk
    have hv : Below w.heap.size w w1 := ((Below.refl _ w).alloc (Nat.le_refl _) _).trans (hB.mono (by simp))
    clear hB h1 a62
    go_wp2
    go_ret2
    exact ⟨rfl, hv⟩
end Go.Proofs.Ytleipbanadnchaa.C
