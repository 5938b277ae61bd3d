/- Contracts of calendar.Total, ask and Atomic, by hand. -/
import Derived.OwnWalk
import Derived.Test.YtleipbanadnchaaDa
namespace Go.Proofs.Ytleipbanadnchaa.C
open Go.RowKit Go.Shelf Go.Maps Go.Proofs.YtleipbanadnchaaW.PrintWords Go.Proofs.YtleipbanadnchaaW.PrintLast Go.Proofs.YtleipbanadnchaaW.PrintMore
set_option linter.unusedVariables false
set_option linter.unusedSimpArgs false
theorem beginU {b u : Int} {l : List (Int × Int)} (hk : checkF b l u = 0) : 0 ≤ beginF l u ∧ beginF l u ≤ 1000000000000 := by
  obtain ⟨h1, h2, h3, h4, h5, h6⟩ := checkF_right hk
  have hgb := h6.take l.length u
  rw [List.take_length] at hgb
  unfold beginF; omega
theorem total_calls (kb : Nat) (b u : Int) (A : Option Addr) (c : Nat) (l : List (Int × Int)) (w : World) (hc : CtAt w kb b A c u l) (hk : checkF b l u = 0) :
    Calls Try.prog 63 #[.pointer (some ⟨kb, 0, none⟩)] w fun e w' => e = .returned (.int .i64 (beginF l u)) ∧ Below w.heap.size w w' := by
  obtain ⟨h1, h2, h3, h4, h5, h6⟩ := checkF_right hk
  have a115 := begin_calls kb b u A c l u (by omega) (by omega) w hc h6 h5
  obtain ⟨_, _, hkx, _⟩ := hc
  have u2 : w.cell? ⟨kb, 2, none⟩ = some (.int .i64 u) := blk_cell hkx 2
  clear hkx h6 hk
  go_enter Try.func63, Try.ntmps63
  go_wp2_with fail
  refine a115.mono ?_
  rintro en w1 ⟨rfl, hB⟩
  go_wp2
  go_ret
  exact ⟨rfl, hB⟩
set_option maxRecDepth 100000 in
theorem Total_calls (b u : Int) (A : Option Addr) (c : Nat) (l : List (Int × Int)) (w : World) (hr : Kd.C kl w A l.length l) :
    Calls Try.prog 17 #[tabV b A l.length c u] w fun e w' => e = .returned (.tuple #[.int .i64 (totalR b l u).1, .int .i64 (totalR b l u).2]) ∧ Below w.heap.size w w' := by
  have HR := Aside0.mk hr
  have a62 := fun w h => open_calls b u A c l w h
  clear hr
  unfold totalR
  by_cases hk : checkF b l u = 0
  · rw [if_pos hk]
    have hK2 := Aside0.mk hk
    have a63 := fun kb w hc => total_calls kb b u A c l w hc hk
    clear hk
    go_enter Try.func17, Try.ntmps17
    go_wp2_with fail
    refine (a62 _ (Kd.C_below HR.out ((Below.refl _ w).alloc (Nat.le_refl _) _))).mono ?_
    rintro en w1 ⟨_, h2, hB⟩
    obtain ⟨kb, rfl, hkb, hct⟩ := h2 hK2.out
    have hv : Below w.heap.size w w1 := ((Below.refl _ w).alloc (Nat.le_refl _) _).trans (hB.mono (by simp))
    clear hB h2 a62
    have HC := Aside0.mk hct
    clear hct
    go_wp2_with fail
    refine (a63 kb _ HC.out).mono ?_
    rintro en w2 ⟨rfl, hB⟩
    go_wp2
    go_ret2
    exact ⟨rfl, hv.trans (hB.mono hv.size)⟩
  · rw [if_neg hk]
    have q1 : (checkF b l u == 0) = false := beq_eq_false_iff_ne.2 hk
    have q2 : (checkF b l u != 0) = true := bne_iff_ne.2 hk
    generalize checkF b l u = q at *
    go_enter Try.func17, Try.ntmps17
    go_wp2_with fail
    refine (a62 _ (Kd.C_below HR.out ((Below.refl _ w).alloc (Nat.le_refl _) _))).mono ?_
    rintro en w1 ⟨h1, _, hB⟩
    obtain rfl := h1 hk
    have hv : Below w.heap.size w w1 := ((Below.refl _ w).alloc (Nat.le_refl _) _).trans (hB.mono (by simp))
    clear hB h1 a62
    go_wp2
    go_ret2
    exact ⟨rfl, hv⟩
theorem knows_calls (kb : Nat) (b u : Int) (A : Option Addr) (c : Nat) (l : List (Int × Int)) (s : Int) (w : World) (hc : CtAt w kb b A c u l) (hk : checkF b l u = 0) :
    Calls Try.prog 92 #[.pointer (some ⟨kb, 0, none⟩), .int .i64 s] w fun e w' => e = .returned (.bool (knowsB l u s)) ∧ Below w.heap.size w w' := by
  have a63 := total_calls kb b u A c l w hc hk
  clear hc hk
  unfold knowsB
  cases h0 : decide (0 ≤ s)
  · go_enter Try.func92, Try.ntmps92
    go_wp2
    go_ret
    exact ⟨rfl, Below.refl _ _⟩
  · go_enter Try.func92, Try.ntmps92
    go_wp2_with fail
    refine a63.mono ?_
    rintro en w1 ⟨rfl, hB⟩
    go_wp2
    go_ret
    exact ⟨rfl, hB⟩
set_option maxRecDepth 100000 in
theorem ask_calls (b u : Int) (A : Option Addr) (c : Nat) (l : List (Int × Int)) (s : Int) (w : World) (hr : Kd.C kl w A l.length l) :
    Calls Try.prog 65 #[tabV b A l.length c u, .int .i64 s] w fun e w' => (∃ p, e = .returned (.tuple #[p, .int .i64 (askE b l u s)]) ∧ (askE b l u s = 0 → ∃ kb, p = .pointer (some ⟨kb, 0, none⟩) ∧ CtAt w' kb b A c u l)) ∧ Below w.heap.size w w' := by
  have HR := Aside0.mk hr
  have a62 := fun w h => open_calls b u A c l w h
  clear hr
  unfold askE
  by_cases hk : checkF b l u = 0
  · rw [if_pos hk]
    have hK2 := Aside0.mk hk
    have a92 := fun kb w hc => knows_calls kb b u A c l s w hc hk
    clear hk
    cases hkn : knowsB l u s
    all_goals
      rw [hkn] at a92
      go_enter Try.func65, Try.ntmps65
      go_wp2_with fail
      refine (a62 _ (Kd.C_below HR.out ((Below.refl _ w).alloc (Nat.le_refl _) _))).mono ?_
      rintro en w1 ⟨_, h2, hB⟩
      obtain ⟨kb, rfl, hkb, hct⟩ := h2 hK2.out
      have hv : Below w.heap.size w w1 := ((Below.refl _ w).alloc (Nat.le_refl _) _).trans (hB.mono (by simp))
      clear hB h2 a62
      have HC := Aside0.mk hct
      clear hct
      go_wp2_with fail
      refine (a92 kb _ HC.out).mono ?_
      rintro en w2 ⟨rfl, hB⟩
      have HC2 := Aside0.mk (HC.out.below hB)
      go_wp2
      go_ret2
      first
        | exact ⟨⟨_, rfl, fun _ => ⟨kb, rfl, HC2.out⟩⟩, hv.trans (hB.mono hv.size)⟩
        | exact ⟨⟨_, rfl, kb, rfl, HC2.out⟩, hv.trans (hB.mono hv.size)⟩
        | exact ⟨⟨_, rfl⟩, hv.trans (hB.mono hv.size)⟩
        | exact ⟨⟨_, rfl, trivial⟩, hv.trans (hB.mono hv.size)⟩
        | exact ⟨⟨_, rfl, fun h => absurd h (by decide)⟩, hv.trans (hB.mono hv.size)⟩
  · rw [if_neg hk]
    have q1 : (checkF b l u == 0) = false := beq_eq_false_iff_ne.2 hk
    have q2 : (checkF b l u != 0) = true := bne_iff_ne.2 hk
    generalize checkF b l u = q at *
    go_enter Try.func65, Try.ntmps65
    go_wp2_with fail
    refine (a62 _ (Kd.C_below HR.out ((Below.refl _ w).alloc (Nat.le_refl _) _))).mono ?_
    rintro en w1 ⟨h1, _, hB⟩
    obtain rfl := h1 hk
    have hv : Below w.heap.size w w1 := ((Below.refl _ w).alloc (Nat.le_refl _) _).trans (hB.mono (by simp))
    clear hB h1 a62
    go_wp2
    go_ret2
    exact ⟨⟨_, rfl, fun h => absurd h hk⟩, hv⟩
set_option maxRecDepth 100000 in
theorem Atomic_calls (b u : Int) (A : Option Addr) (c : Nat) (l : List (Int × Int)) (s : Int) (w : World) (hr : Kd.C kl w A l.length l) :
    Calls Try.prog 24 #[tabV b A l.length c u, .int .i64 s] w fun e w' => e = .returned (.tuple #[.int .i64 (atomicR b l u s).1, .int .i64 (atomicR b l u s).2]) ∧ Below w.heap.size w w' := by
  have HR := Aside0.mk hr
  have a65 := fun w h => ask_calls b u A c l s w h
  clear hr
  unfold atomicR
  by_cases hk : askE b l u s = 0
  · rw [if_pos hk]
    have hz := askE_zero hk
    obtain ⟨h1, h2, h3, h4, h5, h6⟩ := checkF_right hz.1
    have hs := knowsB_iff.1 hz.2
    have hb := beginU hz.1
    have hK2 := Aside0.mk hk
    clear h6
    generalize askE b l u s = q at *
    obtain rfl := hk
    clear hz
    go_enter Try.func24, Try.ntmps24
    go_wp2_with fail
    refine (a65 _ (Kd.C_below HR.out ((Below.refl _ w).alloc (Nat.le_refl _) _))).mono ?_
    rintro en w1 ⟨⟨p, rfl, h2⟩, hB⟩
    obtain ⟨kb, rfl, hct⟩ := (by first | exact h2 rfl | exact h2 trivial | exact h2)
    have hv : Below w.heap.size w w1 := ((Below.refl _ w).alloc (Nat.le_refl _) _).trans (hB.mono (by simp))
    obtain ⟨_, _, hkx, _⟩ := hct
    have k0 : w1.cell? ⟨kb, 0, none⟩ = some (.int .i64 b) := blk_cell hkx 0
    clear hkx h2 a65 hB
    go_wp2
    go_ret2
    exact ⟨rfl, hv⟩
  · rw [if_neg hk]
    have q1 : (askE b l u s == 0) = false := beq_eq_false_iff_ne.2 hk
    have q2 : (askE b l u s != 0) = true := bne_iff_ne.2 hk
    generalize askE b l u s = q at *
    go_enter Try.func24, Try.ntmps24
    go_wp2_with fail
    refine (a65 _ (Kd.C_below HR.out ((Below.refl _ w).alloc (Nat.le_refl _) _))).mono ?_
    rintro en w1 ⟨⟨p, rfl, _⟩, hB⟩
    have hv : Below w.heap.size w w1 := ((Below.refl _ w).alloc (Nat.le_refl _) _).trans (hB.mono (by simp))
    clear hB a65
    go_wp2
    go_ret2
    exact ⟨rfl, hv⟩
end Go.Proofs.Ytleipbanadnchaa.C
