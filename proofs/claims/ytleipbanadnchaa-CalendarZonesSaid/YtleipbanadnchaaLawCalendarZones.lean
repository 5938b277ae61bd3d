/- PROVED HERE: for every input, the law CalendarZones returns true, and what was passed in reads behind the call as it read before. No condition is set. -/
import Derived.Test.YtleipbanadnchaaRows
import Derived.Test.YtleipbanadnchaaZn
import Derived.WalkKit
import Derived.ProofKit
import Derived.OpenShut
import Derived.ShutString
import Derived.ChangeOld
import Derived.Below
import Derived.SizedLaws
import Derived.ChangeSame
import Derived.ChangeArms
import Derived.ChangeSlices
import Derived.WideShapes
namespace Go.Proofs.Ytleipbanadnchaa.calendarZones
open Go.ChangeShapes Go.WideShapes Go.ChangeAt Go.RowKit
open Go.ChangeMaps (open_string shut_string)
set_option linter.unusedVariables false
set_option linter.unusedSimpArgs false
theorem own : ownKnob Try.prog.godebug = none := by kernel_rfl
theorem laidOut : laidOutB Try.prog = true := by kernel_rfl
theorem cells140 : Try.prog.cellsOf 140 = 2 := by kernel_rfl
theorem cells26 : Try.prog.cellsOf 26 = 1 := by kernel_rfl
theorem cells28 : Try.prog.cellsOf 28 = 3 := by kernel_rfl
theorem cells3 : Try.prog.cellsOf 3 = 1 := by kernel_rfl
theorem cells30 : Try.prog.cellsOf 30 = 6 := by kernel_rfl
theorem cells45 : Try.prog.cellsOf 45 = 2 := by kernel_rfl
theorem cells74 : Try.prog.cellsOf 74 = 1 := by kernel_rfl
theorem cells76 : Try.prog.cellsOf 76 = 2 := by kernel_rfl
set_option maxRecDepth 100000 in
theorem open_st30 {H : Type} {enc : TypeId × Value → H} {W : World} {base b0 : Nat} {r : Reach} {sp : Nat → Bool} {held : Bool} {v : Value} {d : DataW H} {ps : List MemPlace} (hval : Value.okWide Try.prog W r b0 30 v) (hd : DataW.Trod enc Try.prog W base sp held 30 v d ps) :
    ∃ x0 x1 x2 x3 x4 x5 : Int, v = .agg #[.int .i64 x0, .int .i64 x1, .int .i64 x2, .int .i64 x3, .int .i64 x4, .int .i64 x5] ∧ d = .agg [.lit (.int .i64 x0), .lit (.int .i64 x1), .lit (.int .i64 x2), .lit (.int .i64 x3), .lit (.int .i64 x4), .lit (.int .i64 x5)] ∧ ps = [] ∧ (Lit.int .i64 x0).wf = true ∧ (Lit.int .i64 x1).wf = true ∧ (Lit.int .i64 x2).wf = true ∧ (Lit.int .i64 x3).wf = true ∧ (Lit.int .i64 x4).wf = true ∧ (Lit.int .i64 x5).wf = true := by
  obtain ⟨cs, rfl, hsz⟩ := okWide_struct Try.underlying30 hval
  rw [cells30] at hsz
  obtain ⟨l⟩ := cs
  match l, hsz with
  | [c0, c1, c2, c3, c4, c5], _ =>
  obtain ⟨fuel, hf⟩ := hd
  obtain ⟨xs, n, _, hx, _, hlen, hfs⟩ := DataW.trod_struct Try.underlying30 hf
  match xs, hlen with
  | [y0, y1, y2, y3, y4, y5], _ =>
  obtain ⟨x0, e0, z0, wa0⟩ := DataW.trod_int Try.underlying3 (hfs 0 _ rfl)
  have z0 := z0
  obtain ⟨x1, e1, z1, wa1⟩ := DataW.trod_int Try.underlying3 (hfs 1 _ rfl)
  have z1 := z1
  obtain ⟨x2, e2, z2, wa2⟩ := DataW.trod_int Try.underlying3 (hfs 2 _ rfl)
  have z2 := z2
  obtain ⟨x3, e3, z3, wa3⟩ := DataW.trod_int Try.underlying3 (hfs 3 _ rfl)
  have z3 := z3
  obtain ⟨x4, e4, z4, wa4⟩ := DataW.trod_int Try.underlying3 (hfs 4 _ rfl)
  have z4 := z4
  obtain ⟨x5, e5, z5, wa5⟩ := DataW.trod_int Try.underlying3 (hfs 5 _ rfl)
  have z5 := z5
  simp [Value.cells, cells3] at e0 e1 e2 e3 e4 e5
  subst e0 e1 e2 e3 e4 e5
  subst z0 z1 z2 z3 z4 z5
  simp only [Prod.mk.injEq] at hx
  obtain ⟨rfl, rfl⟩ := hx
  exact ⟨x0, x1, x2, x3, x4, x5, rfl, rfl, rfl, wa0, wa1, wa2, wa3, wa4, wa5⟩
set_option maxRecDepth 100000 in
theorem shut_st30 {H : Type} {enc : TypeId × Value → H} {W : World} {base : Nat} {sp : Nat → Bool} {held : Bool} {x0 x1 x2 x3 x4 x5 : Int} (w0 : (Lit.int .i64 x0).wf = true) (w1 : (Lit.int .i64 x1).wf = true) (w2 : (Lit.int .i64 x2).wf = true) (w3 : (Lit.int .i64 x3).wf = true) (w4 : (Lit.int .i64 x4).wf = true) (w5 : (Lit.int .i64 x5).wf = true) :
    DataW.Trod enc Try.prog W base sp held 30 (.agg #[.int .i64 x0, .int .i64 x1, .int .i64 x2, .int .i64 x3, .int .i64 x4, .int .i64 x5]) (.agg [.lit (.int .i64 x0), .lit (.int .i64 x1), .lit (.int .i64 x2), .lit (.int .i64 x3), .lit (.int .i64 x4), .lit (.int .i64 x5)]) [] := ⟨2, by
  have f0 : DataW.trod enc Try.prog W base sp held 1 3 [.int .i64 x0] = some (.lit (.int .i64 x0), []) := by simp [DataW.trod, Try.underlying3, w0]
  have f1 : DataW.trod enc Try.prog W base sp held 1 3 [.int .i64 x1] = some (.lit (.int .i64 x1), []) := by simp [DataW.trod, Try.underlying3, w1]
  have f2 : DataW.trod enc Try.prog W base sp held 1 3 [.int .i64 x2] = some (.lit (.int .i64 x2), []) := by simp [DataW.trod, Try.underlying3, w2]
  have f3 : DataW.trod enc Try.prog W base sp held 1 3 [.int .i64 x3] = some (.lit (.int .i64 x3), []) := by simp [DataW.trod, Try.underlying3, w3]
  have f4 : DataW.trod enc Try.prog W base sp held 1 3 [.int .i64 x4] = some (.lit (.int .i64 x4), []) := by simp [DataW.trod, Try.underlying3, w4]
  have f5 : DataW.trod enc Try.prog W base sp held 1 3 [.int .i64 x5] = some (.lit (.int .i64 x5), []) := by simp [DataW.trod, Try.underlying3, w5]
  have := trod_struct_mk (enc := enc) (w := W) (base := base) (spare := sp) (held := held) (n := 1) (cs := [.int .i64 x0, .int .i64 x1, .int .i64 x2, .int .i64 x3, .int .i64 x4, .int .i64 x5]) (xs := [(.lit (.int .i64 x0), []), (.lit (.int .i64 x1), []), (.lit (.int .i64 x2), []), (.lit (.int .i64 x3), []), (.lit (.int .i64 x4), []), (.lit (.int .i64 x5), [])]) Try.underlying30 (by simp [cells30]) (by simp [cells3, f0, f1, f2, f3, f4, f5])
  simpa [Value.cells] using this⟩
section
variable {H : Type} {enc : TypeId × Value → H} {P : Program} {w : World} {base : Nat} {spare : Nat → Bool} {held : Bool}
theorem cells?_two {a : Addr} {v u : Value} (h : w.cells? base a 2 = some [v, u]) : w.cell? a = some v ∧ w.cell? (a.add 1) = some u := by
  unfold World.cells? at h
  split at h
  · rw [show List.range 2 = [0, 1] from rfl] at h
    simp only [List.mapM_cons, List.mapM_nil] at h
    have e0 : a.add 0 = a := rfl
    rw [e0] at h
    cases h0 : w.cell? a with
    | none => rw [h0] at h; simp at h
    | some x =>
      cases h1 : w.cell? (a.add 1) with
      | none => rw [h0, h1] at h; simp at h
      | some y =>
        rw [h0, h1] at h
        simp at h
        exact ⟨by rw [h.1], by rw [h.2]⟩
  · cases h
/-- A slice of structs of two integers. -/
theorem open_pairs {t e i : TypeId} {f0 f1 : Field} {fuel : Nat} {cs : List Value} {x : DataW H × List MemPlace} (ht : P.underlying t = some (.slice e)) (he : P.underlying e = some (.struct #[f0, f1])) (hi : P.underlying i = some (.int .i64)) (hc : P.cellsOf e = 2) (hci : P.cellsOf i = 1)
    (h0 : f0.type = i ∧ f0.offset = 0) (h1 : f1.type = i ∧ f1.offset = 1)
    (h : DataW.trod enc P w base spare held fuel t cs = some x) :
    cs = [.slice none 0 0] ∨
    ∃ (a : Addr) (len cap : Nat) (l : List (Int × Int)), cs = [.slice (some a) len cap] ∧ len ≤ cap ∧ cap ≤ maxLen ∧ l.length = len ∧
      ∀ (j : Nat) (p : Int × Int), l[j]? = some p → w.cell? (a.add (j * 2)) = some (.int .i64 p.1) ∧ w.cell? ((a.add (j * 2)).add 1) = some (.int .i64 p.2) ∧ (Lit.int .i64 p.1).wf = true ∧ (Lit.int .i64 p.2).wf = true := by
  rcases DataW.trod_slice ht h with h0 | ⟨a, len, cap, elems, rest, n, _, rfl, rfl, hb, hl, hm, hlen, hel, hsp, hns⟩
  · exact Or.inl h0.1
  right
  have each : ∀ j : Nat, j < len → ∃ p : Int × Int, w.cell? (a.add (j * 2)) = some (.int .i64 p.1) ∧ w.cell? ((a.add (j * 2)).add 1) = some (.int .i64 p.2) ∧ (Lit.int .i64 p.1).wf = true ∧ (Lit.int .i64 p.2).wf = true := by
    intro j hj
    have hy := hel j hj
    rw [List.getElem?_eq_getElem (by omega), Option.bind_eq_some_iff] at hy
    obtain ⟨cs', hcs, hy⟩ := hy
    obtain ⟨y0, y1, m, _, hl2, hy0, hy1⟩ := trod_struct2 he hy
    rw [hc] at hcs hl2
    match cs', hl2 with
    | [c0, c1], _ =>
    rw [h0.1, h0.2, hci] at hy0
    rw [h1.1, h1.2, hci] at hy1
    obtain ⟨n0, e0, _, w0⟩ := DataW.trod_int hi hy0
    obtain ⟨n1, e1, _, w1⟩ := DataW.trod_int hi hy1
    simp at e0 e1
    subst e0 e1
    obtain ⟨q0, q1⟩ := cells?_two hcs
    exact ⟨(n0, n1), q0, q1, w0, w1⟩
  have build : ∀ k, k ≤ len → ∃ l : List (Int × Int), l.length = k ∧ ∀ (j : Nat) (p : Int × Int), l[j]? = some p → w.cell? (a.add (j * 2)) = some (.int .i64 p.1) ∧ w.cell? ((a.add (j * 2)).add 1) = some (.int .i64 p.2) ∧ (Lit.int .i64 p.1).wf = true ∧ (Lit.int .i64 p.2).wf = true := by
    intro k
    induction k with
    | zero => exact fun _ => ⟨[], rfl, by simp⟩
    | succ k ih =>
      intro hk
      obtain ⟨l, hl1, hl2⟩ := ih (by omega)
      obtain ⟨p, hp⟩ := each k (by omega)
      refine ⟨l ++ [p], by simp [hl1], fun j q hq => ?_⟩
      rcases Nat.lt_or_ge j l.length with hj | hj
      · rw [List.getElem?_append_left hj] at hq; exact hl2 j q hq
      · have : j = k := by have := (List.getElem?_eq_some_iff.1 hq).1; simp at this; omega
        subst this
        have : p = q := by rw [← hl1] at hq; simpa using hq
        subst this; exact hp
  obtain ⟨l, hl1, hl2⟩ := build len (Nat.le_refl _)
  exact ⟨a, len, cap, l, rfl, hl, hm, hl1, hl2⟩
end
set_option maxRecDepth 100000 in
/-- A table that came in: its leaps. -/
theorem open_tab {H : Type} {enc : TypeId × Value → H} {W : World} {base b0 : Nat} {r : Reach} {sp : Nat → Bool} {held : Bool} {v : Value} {d : DataW H} {ps : List MemPlace} (hval : Value.okWide Try.prog W r b0 28 v) (hd : DataW.Trod enc Try.prog W base sp held 28 v d ps) :
    ∃ (x0 x2 : Int) (a : Option Addr) (c : Nat) (l : List (Int × Int)), v = .agg #[.int .i64 x0, .slice a l.length c, .int .i64 x2] ∧ (a = none → l = [] ∧ c = 0) ∧ l.length ≤ maxLen ∧
      (∀ ad, a = some ad → ∀ (j : Nat) (p : Int × Int), l[j]? = some p → W.cell? (ad.add (j * 2)) = some (.int .i64 p.1) ∧ W.cell? ((ad.add (j * 2)).add 1) = some (.int .i64 p.2)) := by
  obtain ⟨cs, rfl, hsz⟩ := okWide_struct Try.underlying28 hval
  rw [cells28] at hsz
  obtain ⟨l⟩ := cs
  match l, hsz with
  | [c0, c1, c2], _ =>
  obtain ⟨fuel, hf⟩ := hd
  obtain ⟨xs, n, _, hx, _, hlen, hfs⟩ := DataW.trod_struct Try.underlying28 hf
  match xs, hlen with
  | [y0, y1, y2], _ =>
  obtain ⟨x0, e0, _, _⟩ := DataW.trod_int Try.underlying3 (hfs 0 _ rfl)
  obtain ⟨x2, e2, _, _⟩ := DataW.trod_int Try.underlying3 (hfs 2 _ rfl)
  have h1 := hfs 1 _ rfl
  simp [Value.cells, cells3, cells26] at e0 e2 h1
  subst e0 e2
  rcases open_pairs (i := 3) Try.underlying26 Try.underlying45 Try.underlying3 cells45 cells3 ⟨rfl, rfl⟩ ⟨rfl, rfl⟩ h1 with h | ⟨ad, len, cap, l, h, h2, h3, h4, h5⟩
  · simp at h
    subst h
    exact ⟨x0, x2, none, 0, [], rfl, (fun _ => ⟨rfl, rfl⟩), by simp, (fun ad h => by cases h)⟩
  · simp at h
    subst h h4
    exact ⟨x0, x2, some ad, cap, l, rfl, (fun h => by cases h), by omega, fun ad' e j p hp => by cases e; exact ⟨(h5 j p hp).1, (h5 j p hp).2.1⟩⟩
theorem C_tab {W : World} {a : Option Addr} {l : List (Int × Int)} {c : Nat} (hn : a = none → l = [] ∧ c = 0) (hm : l.length ≤ maxLen)
    (h : ∀ ad, a = some ad → ∀ (j : Nat) (p : Int × Int), l[j]? = some p → W.cell? (ad.add (j * 2)) = some (.int .i64 p.1) ∧ W.cell? ((ad.add (j * 2)).add 1) = some (.int .i64 p.2)) : C.kl.C W a l.length l := by
  refine ⟨rfl, by unfold maxLen at hm; omega, fun h0 => ?_⟩
  cases a with
  | none => obtain ⟨rfl, _⟩ := hn rfl; simp at h0
  | some ad =>
    refine ⟨ad, rfl, fun j p hj => ⟨[.int .i64 p.1, .int .i64 p.2], rfl, ⟨[.int .i64 p.1], [.int .i64 p.2], rfl, rfl, rfl⟩, fun i u hu => ?_⟩⟩
    have hc := h ad rfl j p hj
    have hi := (List.getElem?_eq_some_iff.1 hu).1
    have h2 : i = 0 ∨ i = 1 := by simp at hi; omega
    rcases h2 with rfl | rfl
    · obtain rfl := Option.some.inj hu
      exact hc.1
    · obtain rfl := Option.some.inj hu
      have e : (ad.add (j * 2)).add 1 = ad.add (j * 2 + 1) := by
        unfold Addr.add
        by_cases h0 : j * 2 = 0
        · simp [h0]
        · simp [h0, Nat.add_assoc]
      show W.cell? (ad.add (j * 2 + 1)) = _
      rw [← e]
      exact hc.2
set_option maxRecDepth 100000 in
/-- A zone that came in: its changes. -/
theorem open_zone {H : Type} {enc : TypeId × Value → H} {W : World} {base b0 : Nat} {r : Reach} {sp : Nat → Bool} {held : Bool} {v : Value} {d : DataW H} {ps : List MemPlace} (hval : Value.okWide Try.prog W r b0 76 v) (hd : DataW.Trod enc Try.prog W base sp held 76 v d ps) :
    ∃ (x0 : Int) (a : Option Addr) (c : Nat) (l : List (Int × Int)), v = .agg #[.int .i64 x0, .slice a l.length c] ∧ (a = none → l = [] ∧ c = 0) ∧ l.length ≤ maxLen ∧
      (∀ ad, a = some ad → ∀ (j : Nat) (p : Int × Int), l[j]? = some p → W.cell? (ad.add (j * 2)) = some (.int .i64 p.1) ∧ W.cell? ((ad.add (j * 2)).add 1) = some (.int .i64 p.2)) := by
  obtain ⟨cs, rfl, hsz⟩ := okWide_struct Try.underlying76 hval
  rw [cells76] at hsz
  obtain ⟨l⟩ := cs
  match l, hsz with
  | [c0, c1], _ =>
  obtain ⟨fuel, hf⟩ := hd
  obtain ⟨xs, n, _, hx, _, hlen, hfs⟩ := DataW.trod_struct Try.underlying76 hf
  match xs, hlen with
  | [y0, y1], _ =>
  obtain ⟨x0, e0, _, _⟩ := DataW.trod_int Try.underlying3 (hfs 0 _ rfl)
  have h1 := hfs 1 _ rfl
  simp [Value.cells, cells3, cells74] at e0 h1
  subst e0
  rcases open_pairs (i := 3) Try.underlying74 Try.underlying140 Try.underlying3 cells140 cells3 ⟨rfl, rfl⟩ ⟨rfl, rfl⟩ h1 with h | ⟨ad, len, cap, l, h, h2, h3, h4, h5⟩
  · simp at h
    subst h
    exact ⟨x0, none, 0, [], rfl, (fun _ => ⟨rfl, rfl⟩), by simp, (fun ad h => by cases h)⟩
  · simp at h
    subst h h4
    exact ⟨x0, some ad, cap, l, rfl, (fun h => by cases h), by omega, fun ad' e j p hp => by cases e; exact ⟨(h5 j p hp).1, (h5 j p hp).2.1⟩⟩
set_option maxRecDepth 100000 in
theorem lifted (os : Os) (started : os.Started) (H : Type) (enc : TypeId × Value → H) :
    ReturnsInHanded {} Try.checked os 10 .any (Rows.calendarZonesSpec.pre6 enc Try.prog Try.f10 Rows.calendarZonesRow.domain false) (Rows.calendarZonesSpec.post enc Try.prog Try.f10 false true false false) := by
  refine returnsInHanded_of_change_sized (C := Try.checked) own started (by kernel_rfl) Try.func10
    (ChangeSpec.witness6 (enc := enc) (C := Try.checked) false ⟨#[], #[.agg #[.int .i64 0, .slice none 0 0, .int .i64 0], .agg #[.int .i64 0, .slice none 0 0], .int .i64 0, .agg #[.int .i64 0, .int .i64 0, .int .i64 0, .int .i64 0, .int .i64 0, .int .i64 0]], []⟩ 8 (by kernel_rfl) (by kernel_rfl) (by kernel_rfl) (by kernel_rfl)) ?_
  intro W base args ds gs before hval0 hW hcnd hsz0 _
  have hval : ∀ (j : Nat) t v, Try.f10.params[j]? = some t → args[j]? = some v → Value.okWide Try.prog W .any base t v := hval0
  have hW' := hW
  obtain ⟨p, q, hA0, hV, rfl, hfz, hnd⟩ := hW
  have hA : DataW.TrodAll enc Try.prog W 0 (fun _ => true) true Try.f10.params.toList args.toList ds p := hA0
  rw [Try.params10] at hA hval
  obtain ⟨v0, vs0, d0, ds0, p0, q0, hargs, rfl, rfl, h0, r0⟩ := trodAll_cons hA
  obtain ⟨v1, vs1, d1, ds1, p1, q1, rfl, rfl, rfl, h1, r1⟩ := trodAll_cons r0
  obtain ⟨v2, vs2, d2, ds2, p2, q2, rfl, rfl, rfl, h2, r2⟩ := trodAll_cons r1
  obtain ⟨v3, vs3, d3, ds3, p3, q3, rfl, rfl, rfl, h3, r3⟩ := trodAll_cons r2
  obtain ⟨rfl, rfl, rfl⟩ := trodAll_nil r3
  obtain rfl : args = #[v0, v1, v2, v3] := by cases args; simp_all
  obtain ⟨rfl, rfl⟩ := trodVars_none hV
  have k0 := h0
  have lt0 : ∀ x ∈ p0, x.block < W.heap.size := by obtain ⟨m, hm⟩ := k0; exact DataW.trod_lt m _ _ _ hm
  obtain ⟨b0, u0, a0, c0, l0, rfl, hn0, hm0, hc0⟩ := open_tab (hval 0 28 v0 rfl rfl) h0
  have hC0 := C_tab hn0 hm0 hc0
  have k1 := h1
  have lt1 : ∀ x ∈ p1, x.block < W.heap.size := by obtain ⟨m, hm⟩ := k1; exact DataW.trod_lt m _ _ _ hm
  obtain ⟨b1, a1, c1, l1, rfl, hn1, hm1, hc1⟩ := open_zone (hval 1 76 v1 rfl rfl) h1
  have hC1 := C_tab hn1 hm1 hc1
  obtain ⟨a2, rfl, rfl, rfl, w2⟩ := open_int Try.underlying3 (hval 2 3 v2 rfl rfl) h2
  obtain ⟨a3_0, a3_1, a3_2, a3_3, a3_4, a3_5, rfl, rfl, rfl, w3_0, w3_1, w3_2, w3_3, w3_4, w3_5⟩ := open_st30 (hval 3 30 v3 rfl rfl) h3
  clear hA0 hval0 hsz0
  refine (C.calendarZones_w.calls b0 u0 a0 c0 l0 b1 a1 c1 l1 a2 a3_0 a3_1 a3_2 a3_3 a3_4 a3_5 W hC0 hn0 hC1).mono fun e W' ⟨he, bel⟩ => ?_
  subst he
  exact ⟨_, rfl, _, _, _, [], _, [], hW', trodAll_mk1 (shut_bool Try.underlying4 _), (trodAll_cons_mk (Below.trod laidOut (by kernel_rfl) (of_decide_eq_true (by kernel_rfl)) k0 bel lt0) (trodAll_cons_mk (Below.trod laidOut (by kernel_rfl) (of_decide_eq_true (by kernel_rfl)) k1 bel lt1) (trodAll_cons_mk (shut_int Try.underlying3 w2) (trodAll_cons_mk (shut_st30 w3_0 w3_1 w3_2 w3_3 w3_4 w3_5) trodAll_mk0)))), rfl, bel.frame _, fun h => by cases h⟩
theorem over : Rows.calendarZonesRow.holds Try.pinned (OpenSpec.ofChange Rows.calendarZonesSpec) :=
  OpenClaim.holds_of_wide 10 Try.f10 rfl rfl rfl rfl rfl rfl rfl ⟨rfl, rfl, rfl, rfl, rfl⟩ rfl rfl rfl rfl rfl (by kernel_rfl) Try.func10 (by kernel_rfl)
    (of_decide_eq_true (by kernel_rfl)) (by unfold Func.isWrapper; first | (rw [if_pos (by decide +kernel)]; kernel_rfl) | (rw [if_neg (by decide +kernel)]; exact ⟨rfl, rfl⟩))
    (fun os started H enc _ => lifted os started H enc)
theorem proved : Rows.CalendarZonesSaid := over
#print axioms proved
end Go.Proofs.Ytleipbanadnchaa.calendarZones
namespace Go.Proofs.Ytleipbanadnchaa
/-- The row, under a short name, for the claim. -/
theorem calendarZones_holds : Rows.CalendarZonesSaid := calendarZones.proved
end Go.Proofs.Ytleipbanadnchaa
