/- Contracts of a keeper's small functions, by hand. -/
import Derived.Test.YtcaekmalkbaldaaCb
import Derived.Test.YtcaekmalkbaldaaBe
import Derived.Lib.SliceRun
namespace Go.Proofs.Ytcaekmalkbaldaa.M
open Go.RowKit Go.Proofs.YtcaekmalkbaldaaW.PrintWords Go.Proofs.YtcaekmalkbaldaaW.PrintLast Go.Proofs.YtcaekmalkbaldaaW.PrintMore
set_option linter.unusedVariables false
set_option linter.unusedSimpArgs false
section
open Go.Shelf
/-- A number of femtoseconds in units. -/
def unitsF (u n : Int) : Int := if n < 0 then -((2 * (-n) + u) / (2 * u)) else (2 * n + u) / (2 * u)
set_option maxRecDepth 100000 in
set_option maxHeartbeats 4000000 in
theorem none_calls (kb : Nat) (pb : Addr) (cs : Array Value) (w : World) (hk : w.heap[kb]? = some (.cells cs 80 (0, 0))) (h0 : cs[0]? = some (.pointer (some pb))) :
    Calls Try.prog 56 #[.pointer (some ⟨kb, 0, none⟩)] w fun e w' => e = .returned (.bool false) ∧ Below w.heap.size w w' := by
  have c0 : w.cell? ⟨kb, 0, none⟩ = some (.pointer (some pb)) := (blk_cell hk 0).trans h0
  clear hk h0
  go_enter Try.func56, Try.ntmps56
  go_wp2
  repeat (go_quiet (fail); try go_wp2)
  go_ret
  exact ⟨rfl, Below.refl _ _⟩
set_option maxRecDepth 100000 in
set_option maxHeartbeats 4000000 in
theorem units_pos (kb : Nat) (u n : Int) (w : World) (hu : w.cell? ⟨kb, 1, none⟩ = some (.int .i64 u)) (hu0 : 1 ≤ u) (hu1 : u ≤ 1000000000000) (hn0 : 0 ≤ n) (hn : n ≤ 1000000000000000) :
    Calls Try.prog 57 #[.pointer (some ⟨kb, 0, none⟩), .int .i64 n] w fun e w' => e = .returned (.int .i64 ((2 * n + u) / (2 * u))) ∧ Drawn0 w w' := by
  have d0 : decide (n < 0) = false := decide_eq_false (by omega)
  have hz : ((2 * u) == 0) = false := beq_eq_false_iff_ne.2 (by omega)
  go_enter Try.func57, Try.ntmps57
  go_wp2
  repeat (go_quiet (fail); try go_wp2)
  go_ret
  exact ⟨rfl, ⟨nq, rfl⟩⟩
theorem units_bound (u n : Int) (hu0 : 1 ≤ u) (hn0 : 0 ≤ n) (hn : n ≤ 1000000000000000) : 0 ≤ (2 * n + u) / (2 * u) ∧ (2 * n + u) / (2 * u) ≤ 1000000000000001 := by
  refine ⟨Int.ediv_nonneg (by omega) (by omega), ?_⟩
  have h1 : (2 * n + u) / (2 * u) ≤ (2 * u * (n + 1)) / (2 * u) := Int.ediv_le_ediv (by omega) (by
    have h2 : 2 * 1 * (n + 1) ≤ 2 * u * (n + 1) := Int.mul_le_mul_of_nonneg_right (by omega) (by omega)
    have h3 : u * 1 ≤ u * (n + 1) := Int.mul_le_mul_of_nonneg_left (by omega) (by omega)
    have h4 : 2 * u * (n + 1) = u * (n + 1) + u * (n + 1) := by rw [Int.mul_assoc]; omega
    have h5 : 1 * (n + 1) ≤ u * (n + 1) := Int.mul_le_mul_of_nonneg_right (by omega) (by omega)
    have h6 : u * (n + 1) = u * n + u := by rw [Int.mul_add, Int.mul_one]
    have h7 : 1 * n ≤ u * n := Int.mul_le_mul_of_nonneg_right (by omega) (by omega)
    omega)
  rw [Int.mul_ediv_cancel_left _ (by omega)] at h1
  omega
set_option maxRecDepth 100000 in
set_option maxHeartbeats 4000000 in
theorem units_calls (kb : Nat) (u n : Int) (w : World) (hu : w.cell? ⟨kb, 1, none⟩ = some (.int .i64 u)) (hu0 : 1 ≤ u) (hu1 : u ≤ 1000000000000) (hn0 : -1000000000000000 ≤ n) (hn : n ≤ 1000000000000000) :
    Calls Try.prog 57 #[.pointer (some ⟨kb, 0, none⟩), .int .i64 n] w fun e w' => e = .returned (.int .i64 (unitsF u n)) ∧ Drawn0 w w' := by
  by_cases h : n < 0
  · have hc := units_pos kb u (-n) w hu hu0 hu1 (by omega) (by omega)
    have hb := units_bound u (-n) hu0 (by omega) (by omega)
    have hf : unitsF u n = -((2 * (-n) + u) / (2 * u)) := by unfold unitsF; rw [if_pos h]
    rw [hf]
    generalize (2 * (-n) + u) / (2 * u) = q at *
    have d0 : decide (n < 0) = true := decide_eq_true h
    clear hf h
    go_enter Try.func57, Try.ntmps57
    go_wp2_with (first | (go_at_call 57; refine hc.mono ?_; rintro en w' ⟨rfl, hB⟩))
    go_ret
    exact ⟨rfl, hB⟩
  · have hf : unitsF u n = (2 * n + u) / (2 * u) := by unfold unitsF; rw [if_neg h]
    rw [hf]
    exact units_pos kb u n w hu hu0 hu1 (by omega) hn
theorem info59n : (Try.prog.info? 59).map (fun i => (i.zero, i.size, i.bytes)) = some (some (.agg #[.int .i64 0, .int .i64 0]), 2, 16) := by kernel_rfl
/-- The cells of a row of states. -/
def entc : List S59 → List Value
  | [] => []
  | x :: l => .int .i64 x.f0 :: .int .i64 x.f1 :: entc l
theorem entc_append : ∀ (l m : List S59), entc (l ++ m) = entc l ++ entc m
  | [], m => rfl
  | x :: l, m => by simp [entc, entc_append l m]
theorem entc_len : ∀ (l : List S59), (entc l).length = l.length * 2
  | [] => rfl
  | x :: l => by simp [entc, entc_len l]; omega
theorem entc_at : ∀ (l : List S59) (j : Nat) (x : S59), l[j]? = some x → ((entc l).drop (j * 2)).take 2 = [.int .i64 x.f0, .int .i64 x.f1]
  | [], j, x, h => by simp at h
  | y :: l, 0, x, h => by simp at h; subst h; simp [entc]
  | y :: l, j + 1, x, h => by
    have := entc_at l j x (by simpa using h)
    rw [show (j + 1) * 2 = j * 2 + 2 by omega, entc]
    simpa using this
theorem entc_one : ∀ (l : List S59), ∀ u ∈ entc l, u.oneCell' = true
  | [], u, h => by cases h
  | x :: l, u, h => by
    simp only [entc, List.mem_cons] at h
    rcases h with rfl | rfl | h
    · rfl
    · rfl
    · exact entc_one l u h
theorem R_entc {X : World} {base : Nat} {v : Value} {l : List S59} (h : X.ownsRow base 59 2 v l.length (entc l)) : Kd.R k59 59 X base (fun _ => True) v l :=
  ⟨fun _ _ => trivial, entc l, h, entc_len l, fun j x hx => by rw [show j * k59.sz = j * 2 from rfl, show k59.sz = 2 from rfl, entc_at l j x hx]; exact k59_mkM _ _ _ x⟩
set_option maxRecDepth 100000 in
set_option maxHeartbeats 4000000 in
/-- 'slices.Clone': a row of its own. -/
theorem clone_calls (v : Value) (base : Nat) (l : List S59) (hl : l.length ≤ 10000) (w : World) (ho : w.ownsRow base 59 2 v l.length (entc l)) :
    Calls Try.prog 59 #[v] w fun e w' => ∃ v', e = .returned v' ∧ w'.ownsRow w.heap.size 59 2 v' l.length (entc l) ∧ Below w.heap.size w w' := by
  have q48 : ∀ (w : World) (a : Option Addr) (n c n' c' : Nat), (binOp .eql 48 (.slice a n c) (.slice none n' c')).run Try.prog w = .ok (.bool a.isNone) w := fun w a n c n' c' => Lib.run_eql_slice_nil w _ _ a n c n' c' Try.underlying48
  obtain ⟨ii, hii, hz0, hz1, hz2⟩ := info_parts info59n
  have hlen := ho.1
  rcases ho.2 with ⟨rfl, h0⟩ | ⟨g, cap, cur, rfl, hb0, hh, h1, h2, h3, h4⟩
  · have hl0 : l = [] := List.length_eq_zero_iff.1 h0
    subst hl0
    clear ho hlen h0
    go_enter Try.func59, Try.ntmps59
    go_wp2
    go_ret
    exact ⟨_, rfl, own_nil _ _ _ _, Below.refl _ _⟩
  · have HH := Aside0.mk hh
    have H4 := Aside0.mk h4
    clear ho hh h3 h4
    have u48 := Try.underlying48
    have hel := entc_len l
    have hon := entc_one l
    generalize hxs : entc l = xs at *
    clear hxs
    go_enter Try.func59, Try.ntmps59
    go_wp2_with (at_builtin; refine wpList_append_own _ rfl _ _ 48 rfl w.heap.size 59 ii (.agg #[.int .i64 0, .int .i64 0]) 2 16 Try.underlying48 hii hz0 hz1 hz2 rfl (by decide) _ _ _ rfl (World.ownsRow_made w #[] 0 (Nat.le_refl _) (Nat.zero_le _) rfl) ⟨g, 0, none⟩ l.length cap xs rfl ?qc1 ?qc2 ?qc3 ?qc4 ?qc5 ?qc6 ?_)
    case qc1 => exact hel
    case qc2 =>
      intro j u hj
      refine World.news_of_block (cs := cur) (t := 59) (fr := (0, 0)) (al_old HH.out) j u ?_
      rw [← H4.out, List.getElem?_take] at hj
      split at hj
      · exact hj
      · cases hj
    case qc3 => exact hon
    case qc4 => unfold maxLen; omega
    case qc5 => omega
    case qc6 => simp
    intro v' w1 hown hgrow hnil
    go_wp2
    go_ret
    exact ⟨v', rfl, by simpa using hown, ((Below.refl _ w).alloc (Nat.le_refl _) _).grown hgrow (by simp) (by intro k hk; simp [Value.ownBlock] at hk; omega)⟩
end
end Go.Proofs.Ytcaekmalkbaldaa.M
