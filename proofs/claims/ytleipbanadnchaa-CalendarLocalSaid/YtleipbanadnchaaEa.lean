/- Contracts of the reference's grown, begin, step and Check, by hand. -/
import Derived.OwnWalk
import Derived.Test.YtleipbanadnchaaDb
import Derived.Test.YtleipbanadnchaaCh
namespace Go.Proofs.Ytleipbanadnchaa.C
open Go.RowKit Go.Shelf Go.Maps Go.Proofs.YtleipbanadnchaaW.PrintWords Go.Proofs.YtleipbanadnchaaW.PrintLast Go.Proofs.YtleipbanadnchaaW.PrintMore
set_option linter.unusedVariables false
set_option linter.unusedSimpArgs false
theorem C_row {w w' : World} {A : Option Addr} {l : List (Int × Int)} {b u : Int} {c : Nat} {g : Nat} (h : w.heap[g]? = some (.cells #[.int .i64 b, .slice A l.length c, .int .i64 u] 90 (0, 0))) : w.cell? ⟨g, 1, none⟩ = some (.slice A l.length c) := blk_cell h 1
set_option maxHeartbeats 1000000 in
set_option maxRecDepth 100000 in
theorem rgrown_calls (b u u' : Int) (A : Option Addr) (c : Nat) (l : List (Int × Int)) (d : Int) (w : World) (hr : Kd.C kl w A l.length l) (hR : Right u' l) (hlen : l.length ≤ 100) :
    Calls Try.prog 110 #[tabV b A l.length c u, .int .i64 d] w fun e w' => e = .returned (.int .i64 (grownF l d)) ∧ Below w.heap.size w w' := by
  have HR := Aside0.mk hr
  have HRT := Aside0.mk hR
  clear hr hR
  go_enter Try.func110, Try.ntmps110
  go_wp2_with fail
  obtain ⟨W0, hW0⟩ : ∃ W0, w.alloc (.cells #[.int .i64 b, .slice A l.length c, .int .i64 u] 90) = W0 := ⟨_, rfl⟩
  rw [hW0]
  have HW0 : Aside0 (Below w.heap.size w W0 ∧ W0.heap[w.heap.size]? = some (.cells #[.int .i64 b, .slice A l.length c, .int .i64 u] 90 (0, 0))) := ⟨by rw [← hW0]; exact (Below.refl _ w).alloc (Nat.le_refl _) _, by rw [← hW0]; exact al_new _ _ _ rfl⟩
  clear hW0
  go_loopw [6, 5] (fun v6 v5 wr => ∃ i : Nat, i ≤ l.length ∧ v6 = .int .i64 i ∧ v5 = .int .i64 (grownF (l.take i) d) ∧ wr = W0) (fun v _ _ => l.length - (intOf v).toNat)
  case atStart => exact ⟨0, by omega, rfl, rfl, rfl⟩
  case round =>
    obtain ⟨i, hi, rfl, rfl, rfl⟩ := hrel
    have hgb := HRT.out.take i d
    have t1 : wr.cell? ⟨w.heap.size, 1, none⟩ = some (.slice A l.length c) := blk_cell HW0.out.2 1
    by_cases hlt : i < l.length
    · obtain ⟨ad, rfl, hc0, hc1⟩ := C_leap (Kd.C_below HR.out HW0.out.1) i hlt hlt
      have hst := (HRT.out.steps l[i] (List.getElem_mem _)).1
      have HS := Aside0.mk (grown_take d hlt)
      generalize l[i] = x at *
      obtain ⟨xd, xs⟩ := x
      simp only at hst hc0 hc1 HS
      have d1 : decide ((i : Int) < (l.length : Int)) = true := decide_eq_true (by omega)
      by_cases hx : xd < d
      · have d2 : decide (xd < d) = true := decide_eq_true hx
        rw [if_pos hx] at HS
        generalize grownF (l.take i) d = g at *
        clear hx
        go_wp2
        go_roundw
        case rel => exact ⟨i + 1, by omega, by go_num, by rw [HS.out], trivial⟩
        case measure => simp [intOf]; omega
      · have d2 : decide (xd < d) = false := decide_eq_false hx
        rw [if_neg hx, Int.add_zero] at HS
        generalize grownF (l.take i) d = g at *
        clear hx
        go_wp2
        go_roundw
        case rel => exact ⟨i + 1, by omega, by go_num, by rw [HS.out], trivial⟩
        case measure => simp [intOf]; omega
    · obtain rfl : i = l.length := by omega
      have HZ : Aside0 (grownF (l.take l.length) d = grownF l d) := ⟨by rw [List.take_length]⟩
      go_wp2
      go_ret
      exact ⟨by first | rfl | (rw [← HZ.out]; rfl), HW0.out.1⟩
set_option maxRecDepth 100000 in
theorem rbegin_calls (b u u' : Int) (A : Option Addr) (c : Nat) (l : List (Int × Int)) (d : Int) (hd0 : 0 ≤ d) (hd1 : d ≤ 200000) (w : World) (hr : Kd.C kl w A l.length l) (hR : Right u' l) (hlen : l.length ≤ 100) :
    Calls Try.prog 109 #[tabV b A l.length c u, .int .i64 d] w fun e w' => e = .returned (.int .i64 (beginF l d)) ∧ Below w.heap.size w w' := by
  have hg := hR.take l.length d
  rw [List.take_length] at hg
  have a110 := fun w h => rgrown_calls b u u' A c l d w h hR hlen
  have HR := Aside0.mk hr
  unfold beginF
  generalize grownF l d = g at *
  clear hr hR
  go_enter Try.func109, Try.ntmps109
  go_wp2_with fail
  refine (a110 _ (Kd.C_below HR.out ((Below.refl _ w).alloc (Nat.le_refl _) _))).mono ?_
  rintro en w1 ⟨rfl, hB⟩
  go_wp2
  go_ret
  exact ⟨rfl, ((Below.refl _ w).alloc (Nat.le_refl _) _).trans (hB.mono (by simp))⟩
theorem stepF_drop (d : Int) : ∀ (l : List (Int × Int)) (i : Nat), i < l.length → (∀ j, j < i → ∀ h : j < l.length, l[j].1 ≠ d) → ∀ h : i < l.length, l[i].1 = d → stepF l d = l[i].2
  | [], i, hi, _, _, _ => by simp at hi
  | x :: l, 0, _, _, _, h => by unfold stepF; simp at h ⊢; exact fun hn => absurd h hn
  | x :: l, i + 1, hi, hn, h', h => by
    have h0 := hn 0 (by omega) (by simp)
    simp at h0
    show (if x.1 = d then x.2 else stepF l d) = _
    rw [if_neg h0]
    have hi2 : i < l.length := by simp at hi; omega
    simpa using stepF_drop d l i hi2 (fun j hj hjl => by have := hn (j + 1) (by omega) (by simp; omega); simpa using this) hi2 (by simpa using h)
set_option maxHeartbeats 1000000 in
set_option maxRecDepth 100000 in
theorem rstep_calls (b u : Int) (A : Option Addr) (c : Nat) (l : List (Int × Int)) (d : Int) (w : World) (hr : Kd.C kl w A l.length l) (hlen : l.length ≤ 100) :
    Calls Try.prog 111 #[tabV b A l.length c u, .int .i64 d] w fun e w' => e = .returned (.int .i64 (stepF l d)) ∧ Below w.heap.size w w' := by
  have HR := Aside0.mk hr
  clear hr
  go_enter Try.func111, Try.ntmps111
  go_wp2_with fail
  obtain ⟨W0, hW0⟩ : ∃ W0, w.alloc (.cells #[.int .i64 b, .slice A l.length c, .int .i64 u] 90) = W0 := ⟨_, rfl⟩
  rw [hW0]
  have HW0 : Aside0 (Below w.heap.size w W0 ∧ W0.heap[w.heap.size]? = some (.cells #[.int .i64 b, .slice A l.length c, .int .i64 u] 90 (0, 0))) := ⟨by rw [← hW0]; exact (Below.refl _ w).alloc (Nat.le_refl _) _, by rw [← hW0]; exact al_new _ _ _ rfl⟩
  clear hW0
  go_loopw [5] (fun v5 wr => ∃ i : Nat, i ≤ l.length ∧ v5 = .int .i64 i ∧ Aside0 (∀ j, j < i → ∀ h : j < l.length, l[j].1 ≠ d) ∧ wr = W0) (fun v _ => l.length - (intOf v).toNat)
  case atStart => exact ⟨0, by omega, rfl, ⟨fun j hj => by omega⟩, rfl⟩
  case round =>
    obtain ⟨i, hi, rfl, HN, rfl⟩ := hrel
    have t1 : wr.cell? ⟨w.heap.size, 1, none⟩ = some (.slice A l.length c) := blk_cell HW0.out.2 1
    by_cases hlt : i < l.length
    · obtain ⟨ad, rfl, hc0, hc1⟩ := C_leap (Kd.C_below HR.out HW0.out.1) i hlt hlt
      have d1 : decide ((i : Int) < (l.length : Int)) = true := decide_eq_true (by omega)
      by_cases hx : l[i].1 = d
      · have HS := Aside0.mk (stepF_drop d l i hlt HN.out hlt hx)
        have q1 : (l[i].1 == d) = true := beq_iff_eq.2 hx
        generalize l[i] = x at *
        obtain ⟨xd, xs⟩ := x
        simp only at hc0 hc1 HS q1
        clear hx
        go_wp2
        go_ret
        exact ⟨by rw [HS.out]; rfl, HW0.out.1⟩
      · have HN2 : Aside0 (∀ j, j < i + 1 → ∀ h : j < l.length, l[j].1 ≠ d) := ⟨fun j hj h => by
          rcases Nat.lt_or_ge j i with c | c
          · exact HN.out j c h
          · obtain rfl : j = i := by omega
            exact hx⟩
        have q1 : (l[i].1 == d) = false := beq_eq_false_iff_ne.2 hx
        generalize l[i] = x at hc0 hc1 q1
        obtain ⟨xd, xs⟩ := x
        simp only at hc0 hc1 q1
        clear hx
        go_wp2
        go_roundw
        case rel => exact ⟨i + 1, by omega, by go_num, HN2, trivial⟩
        case measure => simp [intOf]; omega
    · obtain rfl : i = l.length := by omega
      have HZ : Aside0 (stepF l d = 0) := ⟨stepF_none (fun x hx => by obtain ⟨j, hj, rfl⟩ := List.getElem_of_mem hx; exact HN.out j hj hj)⟩
      go_wp2
      go_ret
      exact ⟨by rw [HZ.out]; rfl, HW0.out.1⟩
end Go.Proofs.Ytleipbanadnchaa.C
