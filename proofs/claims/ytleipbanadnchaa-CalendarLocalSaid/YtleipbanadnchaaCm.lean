/- Contracts of a counted table's grown, begin, length and second, by hand. -/
import Derived.OwnWalk
import Derived.Test.YtleipbanadnchaaCl
namespace Go.Proofs.Ytleipbanadnchaa.C
open Go.RowKit Go.Shelf Go.Maps Go.Proofs.YtleipbanadnchaaW.PrintWords Go.Proofs.YtleipbanadnchaaW.PrintLast Go.Proofs.YtleipbanadnchaaW.PrintMore
set_option linter.unusedVariables false
set_option linter.unusedSimpArgs false
theorem grown_take {l : List (Int × Int)} (d : Int) {i : Nat} (h : i < l.length) : grownF (l.take (i + 1)) d = grownF (l.take i) d + (if l[i].1 < d then l[i].2 else 0) := by
  rw [List.take_add_one, List.getElem?_eq_getElem h, grown_append]
  simp [grownF]
theorem Right.take {u : Int} {l : List (Int × Int)} (h : Right u l) (i : Nat) (d : Int) : -(i : Int) ≤ grownF (l.take i) d ∧ grownF (l.take i) d ≤ i := by
  have := grown_bound (u := u) d (l.take i) (fun x hx => (h.steps x (List.mem_of_mem_take hx)).1)
  have hl : (l.take i).length ≤ i := by simp; omega
  omega
set_option maxHeartbeats 1000000 in
set_option maxRecDepth 100000 in
theorem grown_calls (kb : Nat) (b u : Int) (A : Option Addr) (c : Nat) (l : List (Int × Int)) (d : Int) (w : World) (hc : CtAt w kb b A c u l) (hR : Right u l) (hlen : l.length ≤ 100) :
    Calls Try.prog 82 #[.pointer (some ⟨kb, 0, none⟩), .int .i64 d] w fun e w' => e = .returned (.int .i64 (grownF l d)) ∧ Below w.heap.size w w' := by
  obtain ⟨hC, mb, hk, hm⟩ := hc
  have HR := Aside0.mk hC
  have HRT := Aside0.mk hR
  have k1 : w.cell? ⟨kb, 1, none⟩ = some (.slice A l.length c) := blk_cell hk 1
  clear hC hk hm hR
  go_enter Try.func82, Try.ntmps82
  go_wp2_with fail
  clear k1
  go_loopw [14, 5] (fun v14 v5 wr => ∃ i : Nat, i ≤ l.length ∧ v14 = .int .i64 i ∧ v5 = .int .i64 (grownF (l.take i) d) ∧ Aside0 (Below w.heap.size w wr)) (fun v _ _ => l.length - (intOf v).toNat)
  case atStart => exact ⟨0, by omega, rfl, rfl, ⟨Below.refl _ _⟩⟩
  case round =>
    obtain ⟨i, hi, rfl, rfl, HW⟩ := hrel
    have hgb := HRT.out.take i d
    by_cases hlt : i < l.length
    · obtain ⟨ad, rfl, hc0, hc1⟩ := C_leap (Kd.C_below HR.out HW.out) i hlt hlt
      have hst := (HRT.out.steps l[i] (List.getElem_mem _)).1
      have HS := Aside0.mk (grown_take d hlt)
      generalize l[i] = x at *
      obtain ⟨xd, xs⟩ := x
      simp only at hst hc0 hc1 HS
      have d1 : decide ((i : Int) < (l.length : Int)) = true := decide_eq_true (by omega)
      by_cases hx : xd < d
      · have d2 : decide (xd < d) = true := decide_eq_true hx
        rw [if_pos hx] at HS
        generalize grownF (l.take i) d = g at *
        clear hx
        go_wp2
        go_roundw
        case rel => exact ⟨i + 1, by omega, by go_num, by rw [HS.out], ⟨HW.out.alloc HW.out.size _⟩⟩
        case measure => simp [intOf]; omega
      · have d2 : decide (xd < d) = false := decide_eq_false hx
        rw [if_neg hx, Int.add_zero] at HS
        generalize grownF (l.take i) d = g at *
        clear hx
        go_wp2
        go_roundw
        case rel => exact ⟨i + 1, by omega, by go_num, by rw [HS.out], ⟨HW.out.alloc HW.out.size _⟩⟩
        case measure => simp [intOf]; omega
    · obtain rfl : i = l.length := by omega
      have HZ : Aside0 (grownF (l.take l.length) d = grownF l d) := ⟨by rw [List.take_length]⟩
      go_wp2
      go_ret
      exact ⟨by first | rfl | (rw [← HZ.out]; rfl), HW.out⟩
theorem begin_calls (kb : Nat) (b u : Int) (A : Option Addr) (c : Nat) (l : List (Int × Int)) (d : Int) (hd0 : 0 ≤ d) (hd1 : d ≤ 200000) (w : World) (hc : CtAt w kb b A c u l) (hR : Right u l) (hlen : l.length ≤ 100) :
    Calls Try.prog 115 #[.pointer (some ⟨kb, 0, none⟩), .int .i64 d] w fun e w' => e = .returned (.int .i64 (beginF l d)) ∧ Below w.heap.size w w' := by
  have hg := hR.take l.length d
  rw [List.take_length] at hg
  have a82 := grown_calls kb b u A c l d w hc hR hlen
  unfold beginF
  generalize grownF l d = g at *
  clear hc hR
  go_enter Try.func115, Try.ntmps115
  go_wp2_with fail
  refine a82.mono ?_
  rintro en w1 ⟨rfl, hB⟩
  go_wp2
  go_ret
  exact ⟨rfl, hB⟩
theorem lit_inj {a b : Int} (h : (DataW.lit (Lit.int .i64 a) : DataW Unit) = .lit (.int .i64 b)) : a = b := by
  injection h with h
  injection h
set_option maxRecDepth 100000 in
theorem length_calls (kb : Nat) (b u : Int) (A : Option Addr) (c : Nat) (l : List (Int × Int)) (d : Int) (hd : (Lit.int .i64 d).wf = true) (w : World) (hc : CtAt w kb b A c u l) (hR : Right u l) :
    Calls Try.prog 88 #[.pointer (some ⟨kb, 0, none⟩), .int .i64 d] w fun e w' => e = .returned (.int .i64 (86400 + stepF l d)) ∧ w' = w := by
  obtain ⟨hC, mb, hk, hm⟩ := hc
  have k3 : w.cell? ⟨kb, 3, none⟩ = some (.map (some mb)) := blk_cell hk 3
  have hat0 := dmOf_at hR d
  have hsb := step_bound d l (fun x hx => (hR.steps x hx).1)
  have hkey : keyOf Try.prog 3 (.int .i64 d) = some (.int .i64 d) := keyOf_int_mk Try.underlying3 hd
  have HAT := Aside0.mk hat0
  clear hC hk hR hat0
  go_enter Try.func88, Try.ntmps88
  go_wp2_with (at_lookup; refine wpList_lookup_own_int _ rfl _ _ 117 rfl 3 3 .i64 law3 Try.underlying117 Try.underlying3 (zero3 _) mb l.length _ rfl hm _ _ rfl hkey ?_; intro cc hat hwc; have hcc := lit_inj (hat.symm.trans HAT.out); subst hcc)
  go_ret
  exact ⟨rfl, rfl⟩
end Go.Proofs.Ytleipbanadnchaa.C
