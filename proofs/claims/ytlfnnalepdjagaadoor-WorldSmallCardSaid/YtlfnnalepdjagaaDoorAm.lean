/- The map of effects, and what a clock shows of itself. -/
import Derived.OwnWalk
import Derived.BigRegion
import Derived.Maps.Own
import Derived.Maps.Views
import Derived.Maps.OwnSet
import Derived.Maps.OwnOps
import Derived.Deep.RegionHeld3
import Derived.Test.YtlfnnalepdjagaaDoorAl
namespace Go.Proofs.YtlfnnalepdjagaaDoor.C
open Go.RowKit Go.Shelf Go.Maps Go.Proofs.YtlfnnalepdjagaaDoorW.PrintWords Go.Proofs.YtlfnnalepdjagaaDoorW.PrintLast Go.Proofs.YtlfnnalepdjagaaDoorW.PrintMore
set_option linter.unusedVariables false
set_option linter.unusedSimpArgs false
/-- A function in a map. -/
def effElem : Value → Option (DataW Unit × List MemPlace)
  | .func (.func n) fs bs => if fs.size = 0 ∧ bs.size = 0 then some (.lit (.int .i64 n), []) else none
  | .nilFunc => some (.lit (.int .i64 0), [])
  | _ => none
theorem effElem_mk (n : Nat) : effElem (.func (.func n) #[] #[]) = some (.lit (.int .i64 n), []) := rfl
theorem effElem_inv {v : Value} {n : Nat} {ps : List MemPlace} (hn : n ≠ 0) (h : effElem v = some (.lit (.int .i64 n), ps)) : v = .func (.func n) #[] #[] := by
  unfold effElem at h
  split at h
  · rename_i m fs bs
    split at h
    · rename_i hz
      injection h with h
      injection h with h h'
      injection h with h
      injection h with h1 h2
      obtain rfl : m = n := Int.ofNat.inj h2
      obtain rfl : fs = #[] := Array.eq_empty_of_size_eq_zero hz.1
      obtain rfl : bs = #[] := Array.eq_empty_of_size_eq_zero hz.2
      rfl
    · cases h
  · simp only [Option.some.injEq, Prod.mk.injEq, DataW.lit.injEq, Lit.int.injEq, true_and] at h; omega
  · cases h
def effN (n : Int) : Nat := if n = 2 then 83 else if n = 1 then 84 else 85
theorem zero126 (w : World) : (zeroValue 126).run Tryd.prog w = .ok .nilFunc w := by kernel_rfl
def effD : DataW Unit := ((((DataW.map []).put (.int .i64 2) (.lit (.int .i64 83))).put (.int .i64 1) (.lit (.int .i64 84))).put (.int .i64 3) (.lit (.int .i64 85))).put (.int .i64 4) (.lit (.int .i64 85))
theorem keylit (n : Int) : WideAt.IsKeyLit (.int .i64 n) := by simp [WideAt.IsKeyLit]
theorem effD_at (n : Int) (h1 : 1 ≤ n) (h4 : n ≤ 4) : effD.atKey (.int .i64 n) (.lit (.int .i64 0)) = .lit (.int .i64 (effN n)) := by
  unfold effD effN
  have m1 : IsMap ((DataW.map [] : DataW Unit).put (.int .i64 2) (.lit (.int .i64 83))) := isMap_empty.put _ _
  have m2 := m1.put (.int .i64 1) (.lit (.int .i64 84))
  have m3 := m2.put (.int .i64 3) (.lit (.int .i64 85))
  by_cases e4 : n = 4
  · subst e4; rw [atKey_put_same m3 (keylit _)]; rfl
  rw [atKey_put_other (fun e => e4 (by injection e with _ e))]
  by_cases e3 : n = 3
  · subst e3; rw [atKey_put_same m2 (keylit _)]; rfl
  rw [atKey_put_other (fun e => e3 (by injection e with _ e))]
  by_cases e1 : n = 1
  · subst e1; rw [atKey_put_same m1 (keylit _)]; rfl
  rw [atKey_put_other (fun e => e1 (by injection e with _ e))]
  obtain rfl : n = 2 := by omega
  rw [atKey_put_same isMap_empty (keylit _)]; rfl
set_option maxHeartbeats 4000000 in
set_option maxRecDepth 100000 in
theorem effects_map (W : World) : ∃ W1 W2 W3 W4, (Instr.mapUpdate 127 (.map (some W.heap.size)) (.int .i64 2) (.func (.func 83) #[] #[])).run Tryd.prog (W.alloc (.map #[] 0)) = .ok () W1 ∧ (Instr.mapUpdate 127 (.map (some W.heap.size)) (.int .i64 1) (.func (.func 84) #[] #[])).run Tryd.prog W1 = .ok () W2 ∧ (Instr.mapUpdate 127 (.map (some W.heap.size)) (.int .i64 3) (.func (.func 85) #[] #[])).run Tryd.prog W2 = .ok () W3 ∧ (Instr.mapUpdate 127 (.map (some W.heap.size)) (.int .i64 4) (.func (.func 85) #[] #[])).run Tryd.prog W3 = .ok () W4 ∧
    (∀ n : Int, 1 ≤ n → n ≤ 4 → (Instr.lookup 127 (.map (some W.heap.size)) (.int .i64 n) false).run Tryd.prog W4 = .ok (.func (.func (effN n)) #[] #[]) W4) ∧ Below W.heap.size W W4 := by
  have hown0 : (W.alloc (.map #[] 0)).ownsMap Tryd.prog 49 effElem W.heap.size 0 (.map []) := World.ownsMap_made (H := Unit) W Tryd.prog 49 effElem
  obtain ⟨W1, r1, o1, g1⟩ := hown0.update kd49 Tryd.underlying127 (by unfold maxLen; omega) (keyOf_int_mk Tryd.underlying49 (wf_64 (n := 2) (by omega) (by omega))) (effElem_mk 83)
  obtain ⟨W2, r2, o2, g2⟩ := o1.update kd49 Tryd.underlying127 (by unfold maxLen; omega) (keyOf_int_mk Tryd.underlying49 (wf_64 (n := 1) (by omega) (by omega))) (effElem_mk 84)
  obtain ⟨W3, r3, o3, g3⟩ := o2.update kd49 Tryd.underlying127 (by unfold maxLen; omega) (keyOf_int_mk Tryd.underlying49 (wf_64 (n := 3) (by omega) (by omega))) (effElem_mk 85)
  obtain ⟨W4, r4, o4, g4⟩ := o3.update kd49 Tryd.underlying127 (by unfold maxLen; omega) (keyOf_int_mk Tryd.underlying49 (wf_64 (n := 4) (by omega) (by omega))) (effElem_mk 85)
  refine ⟨W1, W2, W3, W4, r1, r2, r3, r4, fun n h0 h1 => ?_, ?_⟩
  · obtain ⟨v, ps, hrun, hv⟩ := o4.lookup kd49 Tryd.underlying127 (zero126 W4) (show effElem .nilFunc = some (.lit (.int .i64 0), []) from rfl) (keyOf_int_mk Tryd.underlying49 (wf_64 (n := n) (by omega) (by omega)))
    have e : effElem v = some (effD.atKey (.int .i64 n) (.lit (.int .i64 0)), ps) := hv
    rw [effD_at n h0 h1] at e
    rw [hrun, effElem_inv (by unfold effN; split <;> (try split) <;> omega) e]
  · have b1 := g1.size; have b2 := g2.size; have b3 := g3.size; simp at b1
    exact (((((Below.refl _ W).alloc (Nat.le_refl _) _).grown g1 (by simp) (fun k e => by cases e; exact Nat.le_refl _)).grown g2 (by omega) (fun k e => by cases e; exact Nat.le_refl _)).grown g3 (by omega) (fun k e => by cases e; exact Nat.le_refl _)).grown g4 (by omega) (fun k e => by cases e; exact Nat.le_refl _)
set_option maxHeartbeats 4000000 in
set_option maxRecDepth 100000 in
theorem effects_calls (w : World) : Calls Tryd.prog 77 #[] w fun e w' => ∃ B, e = .returned (.map (some B)) ∧ (∀ n : Int, 1 ≤ n → n ≤ 4 → (Instr.lookup 127 (.map (some B)) (.int .i64 n) false).run Tryd.prog w' = .ok (.func (.func (effN n)) #[] #[]) w') ∧ Below w.heap.size w w' := by
  obtain ⟨W1, W2, W3, W4, r1, r2, r3, r4, hl, hB⟩ := effects_map w
  have HL := Aside0.mk hl
  have hmm := @run_makeMap Tryd.prog
  clear hl
  go_enter Tryd.func77, Tryd.ntmps77
  go_wp2
  go_ret
  exact ⟨_, rfl, HL.out, hB⟩
/-- What kicks have added to the rate behind the first events; and steps to the phase. -/
def kickN (es : List T3) (s : Int) : Nat → Int
  | 0 => 0
  | i + 1 => kickN es s i + if (es.getD i (0, 0, 0)).2.1 ≤ s ∧ (es.getD i (0, 0, 0)).1 = 2 then (es.getD i (0, 0, 0)).2.2 * (s - (es.getD i (0, 0, 0)).2.1) else 0
def jumpN (es : List T3) (s : Int) : Nat → Int
  | 0 => 0
  | i + 1 => jumpN es s i + if (es.getD i (0, 0, 0)).2.1 ≤ s ∧ (es.getD i (0, 0, 0)).1 = 1 then (es.getD i (0, 0, 0)).2.2 else 0
/-- The rate of a clock, gone through to a second. -/
def rateF (x : Ck) (s : Int) : Int := x.rt * s + kickN x.es s x.es.length + x.dr * (s * (s - 1) / 2) / 86400
/-- What a clock shows without its noise. -/
def stillF (x : Ck) (c : T3) (s : Int) : Int := x.ph + jumpN x.es s x.es.length + rateF x s / 1000 + x.ht * (warmF c.1 c.2.1 c.2.2 s - warmF c.1 c.2.1 c.2.2 0)
/-- Events that are right. -/
structure EvOk (es : List T3) : Prop where
  what : ∀ e ∈ es, 1 ≤ e.1 ∧ e.1 ≤ 4
  when : ∀ e ∈ es, 1 ≤ e.2.1 ∧ e.2.1 ≤ 1000000
  size : ∀ e ∈ es, -sizeF e.1 ≤ e.2.2 ∧ e.2.2 ≤ sizeF e.1
  few : es.length ≤ 8
structure ChOk (c : T3) : Prop where
  b : 0 ≤ c.1 ∧ c.1 ≤ 1000000
  s : 0 ≤ c.2.1 ∧ c.2.1 ≤ 100000
  p : 2 ≤ c.2.2 ∧ c.2.2 ≤ 1000000
structure CkOk (nch : Nat) (x : Ck) : Prop where
  kd : 1 ≤ x.kd ∧ x.kd ≤ 5
  ph : -100000000000000 ≤ x.ph ∧ x.ph ≤ 100000000000000
  rt : -limV x.kd.toNat 0 ≤ x.rt ∧ x.rt ≤ limV x.kd.toNat 0
  dr : -limV x.kd.toNat 1 ≤ x.dr ∧ x.dr ≤ limV x.kd.toNat 1
  wh : 0 ≤ x.wh ∧ x.wh ≤ limV x.kd.toNat 2
  wk : 0 ≤ x.wk ∧ x.wk ≤ limV x.kd.toNat 3
  ht : -1000000000 ≤ x.ht ∧ x.ht ≤ 1000000000
  ch : 0 ≤ x.ch ∧ x.ch ≤ (nch : Int) - 1
theorem chOk_of {c : T3} (h : badCh c = false) : ChOk c := by
  unfold badCh at h
  simp only [Bool.or_eq_false_iff, Bool.not_eq_false', inW_iff] at h
  exact ⟨h.1.1, h.1.2, h.2⟩
theorem ckOk_of {nch : Nat} {x : Ck} (h : badCk nch x = false) : CkOk nch x := by
  unfold badCk at h
  by_cases hk : inW x.kd 1 5 = true
  · rw [if_pos hk] at h
    simp only [Bool.or_eq_false_iff, Bool.not_eq_false', inW_iff] at h
    obtain ⟨⟨⟨⟨⟨⟨h1, h2⟩, h3⟩, h4⟩, h5⟩, h6⟩, h7⟩ := h
    exact ⟨(inW_iff _ _ _).1 hk, h1, h2, h3, h4, h5, h6, h7⟩
  · rw [if_neg hk] at h; cases h
theorem badEv_all {es : List T3} (h : badEv es = false) : ∀ j, j < es.length → badAt es j = false := by
  intro j hj
  cases hb : badAt es j
  · rfl
  · rw [badEv_hit hj hb] at h; cases h
theorem evOk_of {es : List T3} (h : badEv es = false) : EvOk es := by
  have ha := badEv_all h
  have hx : ∀ e ∈ es, ∃ j, j < es.length ∧ es.getD j (0, 0, 0) = e := fun e he => by
    obtain ⟨j, hj, rfl⟩ := List.getElem_of_mem he
    exact ⟨j, hj, getD_at hj⟩
  have h0 : ∀ j, j ≤ es.length → 0 ≤ lastOf es j := by
    intro j
    induction j with
    | zero => intro _; simp [lastOf]
    | succ j ih =>
      intro hj
      have h1 := ha j (by omega)
      unfold badAt at h1
      simp only [Bool.or_eq_false_iff, Bool.not_eq_false', inW_iff] at h1
      have := ih (by omega)
      simp only [lastOf]; omega
  refine ⟨fun e he => ?_, fun e he => ?_, fun e he => ?_, ?_⟩
  · obtain ⟨j, hj, rfl⟩ := hx e he
    have h1 := ha j hj
    unfold badAt at h1
    simp only [Bool.or_eq_false_iff, Bool.not_eq_false', inW_iff] at h1
    exact h1.1.1
  · obtain ⟨j, hj, rfl⟩ := hx e he
    have h1 := ha j hj
    have h2 := h0 j (by omega)
    unfold badAt at h1
    simp only [Bool.or_eq_false_iff, Bool.not_eq_false', inW_iff] at h1
    omega
  · obtain ⟨j, hj, rfl⟩ := hx e he
    have h1 := ha j hj
    unfold badAt at h1
    simp only [Bool.or_eq_false_iff, Bool.not_eq_false', inW_iff] at h1
    exact h1.2
  · rw [badEv_miss ha] at h
    simpa using h
theorem rt_b {n : Nat} {x : Ck} (h : CkOk n x) : (-10000000000 ≤ x.rt ∧ x.rt ≤ 10000000000) ∧ (-10000000 ≤ x.dr ∧ x.dr ≤ 10000000) ∧ x.wh ≤ 1000000000000 ∧ x.wk ≤ 1000000000 := by
  have hr := h.rt; have hd := h.dr; have hw := h.wh; have hk := h.wk; have hkd := h.kd
  have hb : x.kd.toNat = 1 ∨ x.kd.toNat = 2 ∨ x.kd.toNat = 3 ∨ x.kd.toNat = 4 ∨ x.kd.toNat = 5 := by omega
  rcases hb with e | e | e | e | e <;> rw [e] at hr hd hw hk <;> simp [limV] at hr hd hw hk <;> omega
theorem kick_b {es : List T3} (h : EvOk es) {s : Int} (hs : 0 ≤ s ∧ s ≤ 1000000) : ∀ i, i ≤ es.length → -((i : Int) * 10000000000000000) ≤ kickN es s i ∧ kickN es s i ≤ (i : Int) * 10000000000000000
  | 0, _ => by simp [kickN]
  | i + 1, hi => by
    have h1 := kick_b h hs i (by omega)
    rw [kickN, getD_at (by omega)]
    have hm := List.getElem_mem (l := es) (n := i) (by omega)
    have h2 := h.size _ hm
    have h3 := h.when _ hm
    generalize es[i] = z at *
    by_cases hc : z.2.1 ≤ s ∧ z.1 = 2
    · rw [if_pos hc]
      rw [hc.2] at h2
      simp [sizeF] at h2
      have e1 : z.2.2 * (s - z.2.1) ≤ 10000000000 * (s - z.2.1) := Int.mul_le_mul_of_nonneg_right (by omega) (by omega)
      have e2 : (-10000000000) * (s - z.2.1) ≤ z.2.2 * (s - z.2.1) := Int.mul_le_mul_of_nonneg_right (by omega) (by omega)
      push_cast
      omega
    · rw [if_neg hc]; push_cast; omega
theorem jump_b {es : List T3} (h : EvOk es) {s : Int} : ∀ i, i ≤ es.length → -((i : Int) * 10000000000000) ≤ jumpN es s i ∧ jumpN es s i ≤ (i : Int) * 10000000000000
  | 0, _ => by simp [jumpN]
  | i + 1, hi => by
    have h1 := jump_b h (s := s) i (by omega)
    rw [jumpN, getD_at (by omega)]
    have hm := List.getElem_mem (l := es) (n := i) (by omega)
    have h2 := h.size _ hm
    generalize es[i] = z at *
    by_cases hc : z.2.1 ≤ s ∧ z.1 = 1
    · rw [if_pos hc]
      rw [hc.2] at h2
      simp [sizeF] at h2
      push_cast
      omega
    · rw [if_neg hc]; push_cast; omega
theorem drift_b {d s : Int} (hd : -10000000 ≤ d ∧ d ≤ 10000000) (hs : 0 ≤ s ∧ s ≤ 1000000) : (0 ≤ s * (s - 1) ∧ s * (s - 1) ≤ 1000000 * 1000000) ∧ -5000000000000000000 ≤ d * (s * (s - 1) / 2) ∧ d * (s * (s - 1) / 2) ≤ 5000000000000000000 := by
  have h1 : 0 ≤ s * (s - 1) := by
    rcases Int.lt_or_le 0 s with h | h
    · exact Int.mul_nonneg (by omega) (by omega)
    · obtain rfl : s = 0 := by omega
      simp
  have h2 : s * (s - 1) ≤ 1000000 * (s - 1 + 1) := by
    have : s * (s - 1) ≤ s * s := Int.mul_le_mul_of_nonneg_left (by omega) hs.1
    have h3 : s * s ≤ 1000000 * s := Int.mul_le_mul_of_nonneg_right hs.2 hs.1
    omega
  refine ⟨⟨h1, by omega⟩, ?_⟩
  have h3 : d * (s * (s - 1) / 2) ≤ 10000000 * (s * (s - 1) / 2) := Int.mul_le_mul_of_nonneg_right (by omega) (by omega)
  have h4 : (-10000000) * (s * (s - 1) / 2) ≤ d * (s * (s - 1) / 2) := Int.mul_le_mul_of_nonneg_right (by omega) (by omega)
  omega
theorem ht_b {h t : Int} (hh : -1000000000 ≤ h ∧ h ≤ 1000000000) (ht : -1100000 ≤ t ∧ t ≤ 1100000) : -1100000000000000 ≤ h * t ∧ h * t ≤ 1100000000000000 := by
  have h1 : (h * t).natAbs = h.natAbs * t.natAbs := Int.natAbs_mul h t
  have h2 : h.natAbs * t.natAbs ≤ 1000000000 * 1100000 := Nat.mul_le_mul (by omega) (by omega)
  omega
theorem rt_s {r s : Int} (hr : -10000000000 ≤ r ∧ r ≤ 10000000000) (hs : 0 ≤ s ∧ s ≤ 1000000) : -10000000000000000 ≤ r * s ∧ r * s ≤ 10000000000000000 := by
  have h1 : (r * s).natAbs = r.natAbs * s.natAbs := Int.natAbs_mul r s
  have h2 : r.natAbs * s.natAbs ≤ 10000000000 * 1000000 := Nat.mul_le_mul (by omega) (by omega)
  omega
end Go.Proofs.YtlfnnalepdjagaaDoor.C
