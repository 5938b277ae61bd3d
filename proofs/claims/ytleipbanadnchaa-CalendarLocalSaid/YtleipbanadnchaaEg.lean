/- Contracts of slices.Clone and slices.Equal over leaps, and of kept, by hand. -/
import Derived.OwnWalk
import Derived.Laws.AppendOwn
import Derived.Test.YtleipbanadnchaaWEqStruct
import Derived.Test.YtleipbanadnchaaDe
import Derived.Test.YtleipbanadnchaaCj
namespace Go.Proofs.Ytleipbanadnchaa.C
open Go.RowKit Go.Shelf Go.Maps Go.Proofs.YtleipbanadnchaaW.PrintWords Go.Proofs.YtleipbanadnchaaW.PrintLast Go.Proofs.YtleipbanadnchaaW.PrintMore
set_option linter.unusedVariables false
set_option linter.unusedSimpArgs false
theorem eqA45 (d : Nat) (w : World) (x0 y0 : Int) (x1 y1 : Int) :
    (Op.equalIn (d + 2) 45 (.agg #[.int .i64 x0, .int .i64 x1]) (.agg #[.int .i64 y0, .int .i64 y1])).run Try.prog w = .ok (x0 == y0 && (x1 == y1)) w := by
  refine eqA_of Try.underlying45 (by kernel_rfl) ?_
  refine eqf_cons (by rfl) (by go_simp; rfl) (by go_simp; rfl) (by go_simp) ?_
  exact eqf_last (by rfl) (by go_simp; rfl) (by go_simp; rfl) (by go_simp)
/-- The cells of a row of leaps. -/
def lcells : List (Int × Int) → List Value
  | [] => []
  | x :: l => .int .i64 x.1 :: .int .i64 x.2 :: lcells l
theorem lcells_append : ∀ (l m : List (Int × Int)), lcells (l ++ m) = lcells l ++ lcells m
  | [], m => rfl
  | x :: l, m => by simp [lcells, lcells_append l m]
theorem lcells_len : ∀ (l : List (Int × Int)), (lcells l).length = l.length * 2
  | [] => rfl
  | x :: l => by simp [lcells, lcells_len l]; omega
theorem lcells_at : ∀ (l : List (Int × Int)) (j : Nat) (x : Int × Int), l[j]? = some x → ((lcells l).drop (j * 2)).take 2 = [.int .i64 x.1, .int .i64 x.2]
  | [], j, x, h => by simp at h
  | y :: l, 0, x, h => by simp at h; subst h; simp [lcells]
  | y :: l, j + 1, x, h => by
    have := lcells_at l j x (by simpa using h)
    rw [show (j + 1) * 2 = j * 2 + 2 by omega, lcells]
    simpa using this
theorem lcells_one : ∀ (l : List (Int × Int)), ∀ u ∈ lcells l, u.oneCell' = true
  | [], u, h => by cases h
  | x :: l, u, h => by
    simp only [lcells, List.mem_cons] at h
    rcases h with rfl | rfl | h
    · rfl
    · rfl
    · exact lcells_one l u h
theorem lcells_get : ∀ (l : List (Int × Int)) (j : Nat) (h : j < l.length), (lcells l)[j * 2]? = some (.int .i64 l[j].1) ∧ (lcells l)[j * 2 + 1]? = some (.int .i64 l[j].2)
  | [], j, h => by simp at h
  | y :: l, 0, h => by simp [lcells]
  | y :: l, j + 1, h => by
    have := lcells_get l j (by simpa using h)
    rw [show (j + 1) * 2 = j * 2 + 1 + 1 by omega, show j * 2 + 1 + 1 + 1 = (j * 2 + 1) + 1 + 1 by omega, lcells]
    simpa using this
theorem addr_succ (ad : Addr) (k : Nat) : ad.add (k + 1) = ⟨(ad.add k).block, (ad.add k).off + 1, none⟩ := by
  unfold Addr.add
  rw [if_neg (show ¬ k + 1 = 0 by omega)]
  split
  · rename_i h0; simp [h0]
  · simp [Nat.add_assoc]
theorem C_cells {w : World} {ad : Addr} {l : List (Int × Int)} (h : Kd.C kl w (some ad) l.length l) : ∀ j u, (lcells l)[j]? = some u → w.cell? (ad.add j) = some u := by
  intro j u hu
  have hj := (List.getElem?_eq_some_iff.1 hu).1
  rw [lcells_len] at hj
  obtain ⟨_, e, c0, c1⟩ := C_leap h (j / 2) (by omega) (by omega)
  cases e
  obtain ⟨g0, g1⟩ := lcells_get l (j / 2) (by omega)
  rcases Nat.mod_two_eq_zero_or_one j with hm | hm
  · have ej : j / 2 * 2 = j := by omega
    rw [ej] at g0 c0
    rw [hu] at g0
    rw [c0, ← g0]
  · have ej : j / 2 * 2 + 1 = j := by omega
    rw [ej, hu] at g1
    have ea := addr_succ ad (j / 2 * 2)
    rw [ej] at ea
    rw [ea, c1, ← g1]
theorem own_leaps {e : TypeId} {w : World} {base : Nat} {v : Value} {l : List (Int × Int)} (h : w.ownsRow base e 2 v l.length (lcells l)) : ∃ A c, v = .slice A l.length c ∧ Kd.C kl w A l.length l := by
  have hR : Kd.R kl e w base (fun _ => True) v l := ⟨fun _ _ => trivial, _, h, lcells_len l, fun j x hx => by
    rw [show kl.sz = 2 from rfl, lcells_at l j x hx]
    exact ⟨[.int .i64 x.1], [.int .i64 x.2], rfl, rfl, rfl⟩⟩
  obtain ⟨A, c, e, _, hC⟩ := Kd.R_reads hR
  exact ⟨A, c, e, hC⟩
theorem info45n : (Try.prog.info? 45).map (fun i => (i.zero, i.size, i.bytes)) = some (some (.agg #[.int .i64 0, .int .i64 0]), 2, 16) := by kernel_rfl
set_option maxHeartbeats 1000000 in
set_option maxRecDepth 100000 in
theorem clone_calls (A : Option Addr) (c : Nat) (l : List (Int × Int)) (w : World) (hr : Kd.C kl w A l.length l) (hl : l.length ≤ 1000000) (hnil : A = none → l = [] ∧ c = 0) :
    Calls Try.prog 72 #[.slice A l.length c] w fun e w' => ∃ v', e = .returned v' ∧ w'.ownsRow w.heap.size 45 2 v' l.length (lcells l) ∧ Below w.heap.size w w' := by
  have q26 : ∀ (w : World) (a : Option Addr) (n c n' c' : Nat), (binOp .eql 26 (.slice a n c) (.slice none n' c')).run Try.prog w = .ok (.bool a.isNone) w := fun w a n c n' c' => Lib.run_eql_slice_nil w _ _ a n c n' c' Try.underlying26
  obtain ⟨ii, hii, hz0, hz1, hz2⟩ := info_parts info45n
  cases A with
  | none =>
    obtain ⟨rfl, rfl⟩ := hnil rfl
    clear hr
    go_enter Try.func72, Try.ntmps72
    go_wp2
    go_ret
    exact ⟨_, rfl, own_nil _ _ _ _, Below.refl _ _⟩
  | some ad =>
    have HC := Aside0.mk (C_cells hr)
    have hel := lcells_len l
    have hon := lcells_one l
    clear hr hnil
    generalize hxs : lcells l = xs at *
    clear hxs
    go_enter Try.func72, Try.ntmps72
    go_wp2_with (at_builtin; refine wpList_append_own _ rfl _ _ 26 rfl w.heap.size 45 ii (.agg #[.int .i64 0, .int .i64 0]) 2 16 Try.underlying26 hii hz0 hz1 hz2 rfl (by decide) _ _ _ rfl (World.ownsRow_made w #[] 0 (Nat.le_refl _) (Nat.zero_le _) rfl) ad l.length c xs rfl ?qc1 ?qc2 ?qc3 ?qc4 ?qc5 ?qc6 ?_)
    case qc1 => exact hel
    case qc2 =>
      intro j u hj
      exact cell_on ((Below.refl _ w).alloc (Nat.le_refl _) _) (HC.out j u hj)
    case qc3 => exact hon
    case qc4 => unfold maxLen; omega
    case qc5 => omega
    case qc6 => simp
    intro v' w1 hown hgrow hnil
    go_wp2
    go_ret
    exact ⟨v', rfl, by simpa using hown, ((Below.refl _ w).alloc (Nat.le_refl _) _).grown hgrow (by simp) (by intro k hk; simp [Value.ownBlock] at hk; omega)⟩
attribute [local go_sem high] eqA45
set_option maxHeartbeats 4000000 in
set_option maxRecDepth 100000 in
theorem equalL_calls (A B : Option Addr) (c c' : Nat) (l m : List (Int × Int)) (w : World) (hl : Kd.C kl w A l.length l) (hm : Kd.C kl w B m.length m) (hlen : l.length ≤ 1000000000) (hlen' : m.length ≤ 1000000000) :
    Calls Try.prog 71 #[.slice A l.length c, .slice B m.length c'] w fun e w' => e = .returned (.bool (decide (l = m))) ∧ Below w.heap.size w w' := by
  have HL := Aside0.mk hl
  have HM := Aside0.mk hm
  clear hl hm
  by_cases he : l.length = m.length
  · have q1 : ((l.length : Int) == (m.length : Int)) = true := beq_iff_eq.2 (by omega)
    have q2 : ((l.length : Int) != (m.length : Int)) = false := by rw [bne, q1]; rfl
    have q3 : (l.length == m.length) = true := beq_iff_eq.2 he
    have q4 : (l.length != m.length) = false := by rw [bne, q3]; rfl
    have HE := Aside0.mk he
    clear he
    go_enter Try.func71, Try.ntmps71
    go_wp2
    go_loopw [13] (fun v13 wr => ∃ i : Nat, i ≤ l.length ∧ v13 = .int .i64 i ∧ Aside0 (l.take i = m.take i) ∧ Aside0 (Below w.heap.size w wr)) (fun v _ => l.length - (intOf v).toNat)
    case atStart => exact ⟨0, by omega, rfl, ⟨rfl⟩, ⟨Below.refl _ _⟩⟩
    case round =>
      obtain ⟨i, hi, rfl, HT, HW⟩ := hrel
      by_cases hlt : i < l.length
      · have hlt' : i < m.length := by have := HE.out; omega
        obtain ⟨ad, rfl, hc0, hc1⟩ := C_leap (Kd.C_below HL.out HW.out) i hlt hlt
        obtain ⟨ad', rfl, hc2, hc3⟩ := C_leap (Kd.C_below HM.out HW.out) i hlt' hlt'
        have d1 : decide ((i : Int) < (l.length : Int)) = true := decide_eq_true (by omega)
        have d2 : (i : Int) < (l.length : Int) := by omega
        have d3 : (i : Int) < (m.length : Int) := by omega
        by_cases hx : l[i] = m[i]
        · have HN : Aside0 (l.take (i + 1) = m.take (i + 1)) := ⟨by rw [List.take_add_one, List.take_add_one, HT.out, List.getElem?_eq_getElem hlt, List.getElem?_eq_getElem hlt', hx]⟩
          rw [← hx] at hc2 hc3
          generalize l[i] = x at *
          obtain ⟨xd, xs⟩ := x
          simp only at hc0 hc1 hc2 hc3
          have q5 : (xd == xd) = true := by simp
          have q6 : (xs == xs) = true := by simp
          clear hx
          go_wp2
          go_quiet (fail)
          try go_wp2
          go_roundw
          case rel => exact ⟨i + 1, by omega, by go_num, HN, ⟨by first | exact HW.out | exact pw_below_drewN HW.out _ | exact below_drew1 HW.out⟩⟩
          case measure => simp [intOf]; omega
        · have HN : Aside0 (decide (l = m) = false) := ⟨decide_eq_false (fun e => by subst e; exact hx rfl)⟩
          generalize l[i] = x at *
          generalize m[i] = y at *
          obtain ⟨xd, xs⟩ := x
          obtain ⟨yd, ys⟩ := y
          simp only at hc0 hc1 hc2 hc3
          have q5 : (xd == yd && (xs == ys)) = false := by
            cases h : (xd == yd && (xs == ys))
            · rfl
            · simp at h; exact absurd (by rw [h.1, h.2]) hx
          obtain ⟨bx, hbx⟩ : ∃ bx, (xd == yd) = bx := ⟨_, rfl⟩
          obtain ⟨bs, hbs⟩ : ∃ bs, (xs == ys) = bs := ⟨_, rfl⟩
          rw [hbx, hbs] at q5
          clear hx
          go_wp2
          go_quiet (fail)
          try go_wp2
          go_ret
          exact ⟨by rw [HN.out]; rfl, by first | exact HW.out | exact pw_below_drewN HW.out _ | exact below_drew1 HW.out⟩
      · obtain rfl : i = l.length := by omega
        have HN : Aside0 (decide (l = m) = true) := ⟨decide_eq_true (by have := HT.out; rw [List.take_length, HE.out, List.take_length] at this; exact this)⟩
        go_wp2
        go_ret
        exact ⟨by rw [HN.out]; rfl, HW.out⟩
  · have q1 : ((l.length : Int) == (m.length : Int)) = false := beq_eq_false_iff_ne.2 (by omega)
    have q2 : ((l.length : Int) != (m.length : Int)) = true := by rw [bne, q1]; rfl
    have q3 : (l.length == m.length) = false := beq_eq_false_iff_ne.2 he
    have q4 : (l.length != m.length) = true := by rw [bne, q3]; rfl
    have HN : Aside0 (decide (l = m) = false) := ⟨decide_eq_false (fun e => he (by rw [e]))⟩
    clear he
    go_enter Try.func71, Try.ntmps71
    go_wp2
    go_ret
    exact ⟨by rw [HN.out]; rfl, Below.refl _ _⟩
set_option maxRecDepth 100000 in
/-- 'kept' of a table and a copy of it. -/
theorem kept_calls (b u : Int) (A B : Option Addr) (c c' : Nat) (l : List (Int × Int)) (w : World) (hl : Kd.C kl w A l.length l) (hm : Kd.C kl w B l.length l) (hlen : l.length ≤ 1000000000) :
    Calls Try.prog 23 #[tabV b A l.length c u, tabV b B l.length c' u] w fun e w' => e = .returned (.bool true) ∧ Below w.heap.size w w' := by
  have HL := Aside0.mk hl
  have HM := Aside0.mk hm
  clear hl hm
  have q1 : (b == b) = true := by simp
  have q2 : (u == u) = true := by simp
  have hv : Below w.heap.size w ((w.alloc (.cells #[.int .i64 b, .slice A l.length c, .int .i64 u] 28)).alloc (.cells #[.int .i64 b, .slice B l.length c', .int .i64 u] 28)) := ((Below.refl _ w).alloc (Nat.le_refl _) _).alloc (by simp) _
  have a71 := fun w h1 h2 => equalL_calls A B c c' l l w h1 h2 hlen hlen
  rw [decide_eq_true (rfl : l = l)] at a71
  have HV := Aside0.mk hv
  clear hv
  go_enter Try.func23, Try.ntmps23
  go_wp2_with fail
  refine (a71 _ (Kd.C_below HL.out HV.out) (Kd.C_below HM.out HV.out)).mono ?_
  rintro en w1 ⟨rfl, hB⟩
  go_wp2
  go_ret
  exact ⟨rfl, HV.out.trans (hB.mono (by simp; omega))⟩
end Go.Proofs.Ytleipbanadnchaa.C
