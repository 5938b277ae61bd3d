/- Contracts of slices.Clone and slices.Equal over changes, by hand. -/
import Derived.OwnWalk
import Derived.Test.YtleipbanadnchaaY1
import Derived.Test.YtleipbanadnchaaCk
import Derived.Test.YtleipbanadnchaaDa
import Derived.Laws.AppendOwn
import Derived.Test.YtleipbanadnchaaWEqStruct
import Derived.Test.YtleipbanadnchaaEg
namespace Go.Proofs.Ytleipbanadnchaa.C
open Go.RowKit Go.Shelf Go.Maps Go.Proofs.YtleipbanadnchaaW.PrintWords Go.Proofs.YtleipbanadnchaaW.PrintLast Go.Proofs.YtleipbanadnchaaW.PrintMore
set_option linter.unusedVariables false
set_option linter.unusedSimpArgs false
theorem eqA140 (d : Nat) (w : World) (x0 y0 : Int) (x1 y1 : Int) :
    (Op.equalIn (d + 2) 140 (.agg #[.int .i64 x0, .int .i64 x1]) (.agg #[.int .i64 y0, .int .i64 y1])).run Try.prog w = .ok (x0 == y0 && (x1 == y1)) w := by
  refine eqA_of Try.underlying140 (by kernel_rfl) ?_
  refine eqf_cons (by rfl) (by go_simp; rfl) (by go_simp; rfl) (by go_simp) ?_
  exact eqf_last (by rfl) (by go_simp; rfl) (by go_simp; rfl) (by go_simp)
theorem info140n : (Try.prog.info? 140).map (fun i => (i.zero, i.size, i.bytes)) = some (some (.agg #[.int .i64 0, .int .i64 0]), 2, 16) := by kernel_rfl
set_option maxHeartbeats 1000000 in
set_option maxRecDepth 100000 in
theorem zclone_calls (A : Option Addr) (c : Nat) (l : List (Int × Int)) (w : World) (hr : Kd.C kl w A l.length l) (hl : l.length ≤ 1000000) (hnil : A = none → l = [] ∧ c = 0) :
    Calls Try.prog 93 #[.slice A l.length c] w fun e w' => ∃ v', e = .returned v' ∧ w'.ownsRow w.heap.size 140 2 v' l.length (lcells l) ∧ Below w.heap.size w w' := by
  have q74 : ∀ (w : World) (a : Option Addr) (n c n' c' : Nat), (binOp .eql 74 (.slice a n c) (.slice none n' c')).run Try.prog w = .ok (.bool a.isNone) w := fun w a n c n' c' => Lib.run_eql_slice_nil w _ _ a n c n' c' Try.underlying74
  obtain ⟨ii, hii, hz0, hz1, hz2⟩ := info_parts info140n
  cases A with
  | none =>
    obtain ⟨rfl, rfl⟩ := hnil rfl
    clear hr
    go_enter Try.func93, Try.ntmps93
    go_wp2
    go_ret
    exact ⟨_, rfl, own_nil _ _ _ _, Below.refl _ _⟩
  | some ad =>
    have HC := Aside0.mk (C_cells hr)
    have hel := lcells_len l
    have hon := lcells_one l
    clear hr hnil
    generalize hxs : lcells l = xs at *
    clear hxs
    go_enter Try.func93, Try.ntmps93
    go_wp2_with (at_builtin; refine wpList_append_own _ rfl _ _ 74 rfl w.heap.size 140 ii (.agg #[.int .i64 0, .int .i64 0]) 2 16 Try.underlying74 hii hz0 hz1 hz2 rfl (by decide) _ _ _ rfl (World.ownsRow_made w #[] 0 (Nat.le_refl _) (Nat.zero_le _) rfl) ad l.length c xs rfl ?qc1 ?qc2 ?qc3 ?qc4 ?qc5 ?qc6 ?_)
    case qc1 => exact hel
    case qc2 =>
      intro j u hj
      exact cell_on ((Below.refl _ w).alloc (Nat.le_refl _) _) (HC.out j u hj)
    case qc3 => exact hon
    case qc4 => unfold maxLen; omega
    case qc5 => omega
    case qc6 => simp
    intro v' w1 hown hgrow hnil
    go_wp2
    go_ret
    exact ⟨v', rfl, by simpa using hown, ((Below.refl _ w).alloc (Nat.le_refl _) _).grown hgrow (by simp) (by intro k hk; simp [Value.ownBlock] at hk; omega)⟩
theorem zclone_calls2 (A : Option Addr) (c : Nat) (l : List (Int × Int)) (w : World) (hr : Kd.C kl w A l.length l) (hl : l.length ≤ 1000000) :
    Calls Try.prog 93 #[.slice A l.length c] w fun e w' => ∃ v', e = .returned v' ∧ w'.ownsRow w.heap.size 140 2 v' l.length (lcells l) ∧ Below w.heap.size w w' := by
  have q74 : ∀ (w : World) (a : Option Addr) (n c n' c' : Nat), (binOp .eql 74 (.slice a n c) (.slice none n' c')).run Try.prog w = .ok (.bool a.isNone) w := fun w a n c n' c' => Lib.run_eql_slice_nil w _ _ a n c n' c' Try.underlying74
  cases A with
  | none =>
    have hl0 : l = [] := by
      cases l with
      | nil => rfl
      | cons x l =>
        obtain ⟨ad, e, _⟩ := C_leap hr 0 (by simp) (by simp)
        cases e
    subst hl0
    clear hr
    go_enter Try.func93, Try.ntmps93
    go_wp2
    go_ret
    exact ⟨_, rfl, own_nil _ _ _ _, Below.refl _ _⟩
  | some ad => exact zclone_calls (some ad) c l w hr hl (fun h => by cases h)
attribute [local go_sem high] eqA140
set_option maxHeartbeats 4000000 in
set_option maxRecDepth 100000 in
theorem zequal_calls (A B : Option Addr) (c c' : Nat) (l m : List (Int × Int)) (w : World) (hl : Kd.C kl w A l.length l) (hm : Kd.C kl w B m.length m) (hlen : l.length ≤ 1000000000) (hlen' : m.length ≤ 1000000000) :
    Calls Try.prog 98 #[.slice A l.length c, .slice B m.length c'] w fun e w' => e = .returned (.bool (decide (l = m))) ∧ Below w.heap.size w w' := by
  have HL := Aside0.mk hl
  have HM := Aside0.mk hm
  clear hl hm
  by_cases he : l.length = m.length
  · have q1 : ((l.length : Int) == (m.length : Int)) = true := beq_iff_eq.2 (by omega)
    have q2 : ((l.length : Int) != (m.length : Int)) = false := by rw [bne, q1]; rfl
    have q3 : (l.length == m.length) = true := beq_iff_eq.2 he
    have q4 : (l.length != m.length) = false := by rw [bne, q3]; rfl
    have HE := Aside0.mk he
    clear he
    go_enter Try.func98, Try.ntmps98
    go_wp2
    go_loopw [13] (fun v13 wr => ∃ i : Nat, i ≤ l.length ∧ v13 = .int .i64 i ∧ Aside0 (l.take i = m.take i) ∧ Aside0 (Below w.heap.size w wr)) (fun v _ => l.length - (intOf v).toNat)
    case atStart => exact ⟨0, by omega, rfl, ⟨rfl⟩, ⟨Below.refl _ _⟩⟩
    case round =>
      obtain ⟨i, hi, rfl, HT, HW⟩ := hrel
      by_cases hlt : i < l.length
      · have hlt' : i < m.length := by have := HE.out; omega
        obtain ⟨ad, rfl, hc0, hc1⟩ := C_leap (Kd.C_below HL.out HW.out) i hlt hlt
        obtain ⟨ad', rfl, hc2, hc3⟩ := C_leap (Kd.C_below HM.out HW.out) i hlt' hlt'
        have d1 : decide ((i : Int) < (l.length : Int)) = true := decide_eq_true (by omega)
        have d2 : (i : Int) < (l.length : Int) := by omega
        have d3 : (i : Int) < (m.length : Int) := by omega
        by_cases hx : l[i] = m[i]
        · have HN : Aside0 (l.take (i + 1) = m.take (i + 1)) := ⟨by rw [List.take_add_one, List.take_add_one, HT.out, List.getElem?_eq_getElem hlt, List.getElem?_eq_getElem hlt', hx]⟩
          rw [← hx] at hc2 hc3
          generalize l[i] = x at *
          obtain ⟨xd, xs⟩ := x
          simp only at hc0 hc1 hc2 hc3
          have q5 : (xd == xd) = true := by simp
          have q6 : (xs == xs) = true := by simp
          clear hx
          go_wp2
          go_quiet (fail)
          try go_wp2
          go_roundw
          case rel => exact ⟨i + 1, by omega, by go_num, HN, ⟨by first | exact HW.out | exact pw_below_drewN HW.out _ | exact below_drew1 HW.out⟩⟩
          case measure => simp [intOf]; omega
        · have HN : Aside0 (decide (l = m) = false) := ⟨decide_eq_false (fun e => by subst e; exact hx rfl)⟩
          generalize l[i] = x at *
          generalize m[i] = y at *
          obtain ⟨xd, xs⟩ := x
          obtain ⟨yd, ys⟩ := y
          simp only at hc0 hc1 hc2 hc3
          have q5 : (xd == yd && (xs == ys)) = false := by
            cases h : (xd == yd && (xs == ys))
            · rfl
            · simp at h; exact absurd (by rw [h.1, h.2]) hx
          obtain ⟨bx, hbx⟩ : ∃ bx, (xd == yd) = bx := ⟨_, rfl⟩
          obtain ⟨bs, hbs⟩ : ∃ bs, (xs == ys) = bs := ⟨_, rfl⟩
          rw [hbx, hbs] at q5
          clear hx
          go_wp2
          go_quiet (fail)
          try go_wp2
          go_ret
          exact ⟨by rw [HN.out]; rfl, by first | exact HW.out | exact pw_below_drewN HW.out _ | exact below_drew1 HW.out⟩
      · obtain rfl : i = l.length := by omega
        have HN : Aside0 (decide (l = m) = true) := ⟨decide_eq_true (by have := HT.out; rw [List.take_length, HE.out, List.take_length] at this; exact this)⟩
        go_wp2
        go_ret
        exact ⟨by rw [HN.out]; rfl, HW.out⟩
  · have q1 : ((l.length : Int) == (m.length : Int)) = false := beq_eq_false_iff_ne.2 (by omega)
    have q2 : ((l.length : Int) != (m.length : Int)) = true := by rw [bne, q1]; rfl
    have q3 : (l.length == m.length) = false := beq_eq_false_iff_ne.2 he
    have q4 : (l.length != m.length) = true := by rw [bne, q3]; rfl
    have HN : Aside0 (decide (l = m) = false) := ⟨decide_eq_false (fun e => he (by rw [e]))⟩
    clear he
    go_enter Try.func98, Try.ntmps98
    go_wp2
    go_ret
    exact ⟨by rw [HN.out]; rfl, Below.refl _ _⟩
end Go.Proofs.Ytleipbanadnchaa.C
