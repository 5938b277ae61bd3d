/- Worlds that come in. -/
import Derived.WalkKit
import Derived.ProofKit
import Derived.ChangeSame
import Derived.ChangeArms
import Derived.ChangeSlices
import Derived.WideShapes
import Derived.OpenShut
import Derived.Test.YtlfnnalepdjagaaDoorAh
namespace Go.Proofs.YtlfnnalepdjagaaDoor.C
open Go.ChangeShapes Go.WideShapes Go.ChangeAt Go.RowKit Go.Proofs.YtlfnnalepdjagaaDoorW.PrintWords
set_option linter.unusedVariables false
set_option linter.unusedSimpArgs false
/-- A row that came in, by what each of its elements is. -/
theorem open_rows {H : Type} {enc : TypeId × Value → H} {P : Program} {w : World} {base : Nat} {spare : Nat → Bool} {held : Bool} {α : Type} {t e : TypeId} {fuel : Nat} {cs : List Value} {x : DataW H × List MemPlace} (ht : P.underlying t = some (.slice e)) (R : α → List Value → Prop) {sz : Nat} (hc : P.cellsOf e = sz)
    (each : ∀ (n : Nat) (cs' : List Value) (y : DataW H × List MemPlace), cs'.length = sz → DataW.trod enc P w base spare held n e cs' = some y → ∃ p : α, R p cs')
    (h : DataW.trod enc P w base spare held fuel t cs = some x) :
    ∃ (A : Option Addr) (c : Nat) (l : List α), cs = [.slice A l.length c] ∧ l.length ≤ c ∧ ReadsRow R sz w A l.length l := by
  rcases DataW.trod_slice ht h with h0 | ⟨a, len, cap, elems, rest, n, _, rfl, rfl, hb, hl, hm, hlen, hel, hsp, hns⟩
  · exact ⟨none, 0, [], h0.1, by simp, rfl, by simp, fun h => by simp at h⟩
  have one : ∀ j : Nat, j < len → ∃ p : α, ∃ c : List Value, c.length = sz ∧ R p c ∧ ∀ i u, c[i]? = some u → w.cell? (a.add (j * sz + i)) = some u := by
    intro j hj
    have hy := hel j hj
    rw [List.getElem?_eq_getElem (by omega), Option.bind_eq_some_iff] at hy
    obtain ⟨cs', hcs, hy⟩ := hy
    rw [hc] at hcs
    obtain ⟨_, hl2, hcell⟩ := World.cells?_some hcs
    obtain ⟨p, hp⟩ := each _ _ _ hl2 hy
    refine ⟨p, cs', hl2, hp, fun i u hu => ?_⟩
    have hi := (List.getElem?_eq_some_iff.1 hu).1
    rw [← Addr.add_add, hcell i (by omega), hu]
  have build : ∀ k, k ≤ len → ∃ l : List α, l.length = k ∧ ∀ (j : Nat) (p : α), l[j]? = some p → ∃ c : List Value, c.length = sz ∧ R p c ∧ ∀ i u, c[i]? = some u → w.cell? (a.add (j * sz + i)) = some u := by
    intro k
    induction k with
    | zero => exact fun _ => ⟨[], rfl, by simp⟩
    | succ k ih =>
      intro hk
      obtain ⟨l, hl1, hl2⟩ := ih (by omega)
      obtain ⟨p, hp⟩ := one k (by omega)
      refine ⟨l ++ [p], by simp [hl1], fun j q hq => ?_⟩
      rcases Nat.lt_or_ge j l.length with hj | hj
      · rw [List.getElem?_append_left hj] at hq; exact hl2 j q hq
      · have : j = k := by have := (List.getElem?_eq_some_iff.1 hq).1; simp at this; omega
        subst this
        have : p = q := by rw [← hl1] at hq; simpa using hq
        subst this; exact hp
  obtain ⟨l, hl1, hl2⟩ := build len (Nat.le_refl _)
  refine ⟨some a, cap, l, by rw [hl1], by omega, rfl, by unfold maxLen at hm; omega, fun _ => ⟨a, rfl, hl2⟩⟩
theorem cells3r : Tryd.prog.cellsOf 3 = 1 := by kernel_rfl
theorem cells22r : Tryd.prog.cellsOf 22 = 1 := by kernel_rfl
theorem cells23r : Tryd.prog.cellsOf 23 = 1 := by kernel_rfl
theorem cells24r : Tryd.prog.cellsOf 24 = 1 := by kernel_rfl
theorem cells86r : Tryd.prog.cellsOf 86 = 1 := by kernel_rfl
theorem cells85r : Tryd.prog.cellsOf 85 = 3 := by kernel_rfl
theorem cells88r : Tryd.prog.cellsOf 88 = 9 := by kernel_rfl
theorem cells90r : Tryd.prog.cellsOf 90 = 3 := by kernel_rfl
theorem cells26r : Tryd.prog.cellsOf 26 = 3 := by kernel_rfl
theorem wfi {x : Int} (h : (Lit.int .i64 x).wf = true) : -9223372036854775808 ≤ x ∧ x ≤ 9223372036854775807 := by simp [Lit.wf, IntKind.min, IntKind.max, IntKind.bits, IntKind.signed] at h; omega
set_option maxRecDepth 100000 in
theorem each_85 {H : Type} {enc : TypeId × Value → H} {w : World} {base : Nat} {spare : Nat → Bool} {held : Bool} (n : Nat) (cs' : List Value) (y : DataW H × List MemPlace) (hl : cs'.length = 3) (h : DataW.trod enc Tryd.prog w base spare held n 85 cs' = some y) : ∃ p : T3, k3.K w p cs' ∧ (-9223372036854775808 ≤ p.1 ∧ p.1 ≤ 9223372036854775807) := by
  obtain ⟨xs, m, _, _, _, hlen, hfs⟩ := DataW.trod_struct Tryd.underlying85 h
  match cs', hl with
  | [c0, c1, c2], _ =>
  match xs, hlen with
  | [y0, y1, y2], _ =>
  obtain ⟨x0, e0, _, w0⟩ := DataW.trod_int Tryd.underlying3 (hfs 0 _ rfl)
  obtain ⟨x1, e1, _, _⟩ := DataW.trod_int Tryd.underlying3 (hfs 1 _ rfl)
  obtain ⟨x2, e2, _, _⟩ := DataW.trod_int Tryd.underlying3 (hfs 2 _ rfl)
  simp [cells3r] at e0 e1 e2
  subst e0 e1 e2
  exact ⟨(x0, x1, x2), k3_mk w (x0, x1, x2), wfi w0⟩
set_option maxRecDepth 100000 in
theorem each_90 {H : Type} {enc : TypeId × Value → H} {w : World} {base : Nat} {spare : Nat → Bool} {held : Bool} (n : Nat) (cs' : List Value) (y : DataW H × List MemPlace) (hl : cs'.length = 3) (h : DataW.trod enc Tryd.prog w base spare held n 90 cs' = some y) : ∃ p : T3, k3.K w p cs' ∧ (-9223372036854775808 ≤ p.1 ∧ p.1 ≤ 9223372036854775807) := by
  obtain ⟨xs, m, _, _, _, hlen, hfs⟩ := DataW.trod_struct Tryd.underlying90 h
  match cs', hl with
  | [c0, c1, c2], _ =>
  match xs, hlen with
  | [y0, y1, y2], _ =>
  obtain ⟨x0, e0, _, w0⟩ := DataW.trod_int Tryd.underlying3 (hfs 0 _ rfl)
  obtain ⟨x1, e1, _, _⟩ := DataW.trod_int Tryd.underlying3 (hfs 1 _ rfl)
  obtain ⟨x2, e2, _, _⟩ := DataW.trod_int Tryd.underlying3 (hfs 2 _ rfl)
  simp [cells3r] at e0 e1 e2
  subst e0 e1 e2
  exact ⟨(x0, x1, x2), k3_mk w (x0, x1, x2), wfi w0⟩
theorem reads_and {α : Type} {R : α → List Value → Prop} {P : α → Prop} {sz : Nat} {w : World} {A : Option Addr} {n : Nat} {l : List α} (h : ReadsRow (fun p cs => R p cs ∧ P p) sz w A n l) : ReadsRow R sz w A n l ∧ ∀ p ∈ l, P p := by
  obtain ⟨h1, h2, h3⟩ := h
  refine ⟨⟨h1, h2, fun h0 => ?_⟩, fun p hp => ?_⟩
  · obtain ⟨a, e, h4⟩ := h3 h0
    exact ⟨a, e, fun j p hj => by obtain ⟨c, hc, hr, hi⟩ := h4 j p hj; exact ⟨c, hc, hr.1, hi⟩⟩
  · obtain ⟨j, hj, rfl⟩ := List.getElem_of_mem hp
    have h0 : n ≠ 0 := by omega
    obtain ⟨a, e, h4⟩ := h3 (by omega)
    obtain ⟨c, hc, hr, hi⟩ := h4 j _ (List.getElem?_eq_getElem hj)
    exact hr.2
set_option maxRecDepth 100000 in
theorem each_88 {H : Type} {enc : TypeId × Value → H} {w : World} {base : Nat} {spare : Nat → Bool} {held : Bool} (n : Nat) (cs' : List Value) (y : DataW H × List MemPlace) (hl : cs'.length = 9) (h : DataW.trod enc Tryd.prog w base spare held n 88 cs' = some y) : ∃ p : Ck, (kck 90).K w p cs' ∧ ∀ ev ∈ p.es, -9223372036854775808 ≤ ev.1 ∧ ev.1 ≤ 9223372036854775807 := by
  obtain ⟨xs, m, _, _, _, hlen, hfs⟩ := DataW.trod_struct Tryd.underlying88 h
  match cs', hl with
  | [c0, c1, c2, c3, c4, c5, c6, c7, c8], _ =>
  match xs, hlen with
  | [y0, y1, y2, y3, y4, y5, y6, y7, y8], _ =>
  obtain ⟨x0, e0, _, _⟩ := DataW.trod_int Tryd.underlying3 (hfs 0 _ rfl)
  obtain ⟨x1, e1, _, _⟩ := DataW.trod_int Tryd.underlying3 (hfs 1 _ rfl)
  obtain ⟨x2, e2, _, _⟩ := DataW.trod_int Tryd.underlying3 (hfs 2 _ rfl)
  obtain ⟨x3, e3, _, _⟩ := DataW.trod_int Tryd.underlying3 (hfs 3 _ rfl)
  obtain ⟨x4, e4, _, _⟩ := DataW.trod_int Tryd.underlying3 (hfs 4 _ rfl)
  obtain ⟨x5, e5, _, _⟩ := DataW.trod_int Tryd.underlying3 (hfs 5 _ rfl)
  obtain ⟨x6, e6, _, _⟩ := DataW.trod_int Tryd.underlying3 (hfs 6 _ rfl)
  obtain ⟨x7, e7, _, _⟩ := DataW.trod_int Tryd.underlying3 (hfs 7 _ rfl)
  obtain ⟨A, c, l, hcs, hle, hR⟩ := open_rows Tryd.underlying86 (fun (p : T3) cs => k3.K w p cs ∧ (-9223372036854775808 ≤ p.1 ∧ p.1 ≤ 9223372036854775807)) cells90r each_90 (hfs 8 _ rfl)
  obtain ⟨hR, hP⟩ := reads_and hR
  simp [cells3r, cells86r] at e0 e1 e2 e3 e4 e5 e6 e7 hcs
  subst e0 e1 e2 e3 e4 e5 e6 e7 hcs
  exact ⟨⟨x0, x1, x2, x3, x4, x5, x6, x7, l⟩, ⟨[.int .i64 x0], _, rfl, rfl, [.int .i64 x1], _, rfl, rfl, [.int .i64 x2], _, rfl, rfl, [.int .i64 x3], _, rfl, rfl, [.int .i64 x4], _, rfl, rfl, [.int .i64 x5], _, rfl, rfl, [.int .i64 x6], _, rfl, rfl, [.int .i64 x7], [.slice A l.length c], rfl, rfl, A, c, rfl, hle, hR⟩, hP⟩
set_option maxRecDepth 100000 in
/-- A world that came in. -/
theorem open_world {H : Type} {enc : TypeId × Value → H} {W : World} {base b0 : Nat} {r : Reach} {sp : Nat → Bool} {held : Bool} {v : Value} {d : DataW H} {ps : List MemPlace} (hval : Value.okWide Tryd.prog W r b0 26 v) (hd : DataW.Trod enc Tryd.prog W base sp held 26 v d ps) :
    ∃ (sd : Int) (Ah : Option Addr) (hc : Nat) (Ak : Option Addr) (kc : Nat) (chs : List T3) (cks : List Ck), v = woV sd Ah chs.length hc Ak cks.length kc ∧ WAt 90 W Ah Ak chs cks ∧ WfK cks := by
  obtain ⟨cs, rfl, hsz⟩ := okWide_struct Tryd.underlying26 hval
  rw [cells26r] at hsz
  obtain ⟨l⟩ := cs
  match l, hsz with
  | [c0, c1, c2], _ =>
  obtain ⟨fuel, hf⟩ := hd
  obtain ⟨xs, m, _, _, _, hlen, hfs⟩ := DataW.trod_struct Tryd.underlying26 hf
  match xs, hlen with
  | [y0, y1, y2], _ =>
  obtain ⟨x0, e0, _, _⟩ := DataW.trod_int Tryd.underlying22 (hfs 0 _ rfl)
  obtain ⟨A1, k1, l1, h1, _, hR1⟩ := open_rows Tryd.underlying23 (fun (p : T3) cs => k3.K W p cs ∧ (-9223372036854775808 ≤ p.1 ∧ p.1 ≤ 9223372036854775807)) cells85r each_85 (hfs 1 _ rfl)
  obtain ⟨A2, k2, l2, h2, _, hR2⟩ := open_rows Tryd.underlying24 (fun (p : Ck) cs => (kck 90).K W p cs ∧ ∀ ev ∈ p.es, -9223372036854775808 ≤ ev.1 ∧ ev.1 ≤ 9223372036854775807) cells88r each_88 (hfs 2 _ rfl)
  simp [Value.cells, cells3r, cells22r, cells23r, cells24r] at e0 h1 h2
  subst e0 h1 h2
  exact ⟨x0, A1, k1, A2, k2, l1, l2, rfl, ⟨(reads_and hR1).1, (reads_and hR2).1⟩, (reads_and hR2).2⟩
theorem each_int {H : Type} {enc : TypeId × Value → H} {w : World} {base : Nat} {spare : Nat → Bool} {held : Bool} (n : Nat) (cs' : List Value) (y : DataW H × List MemPlace) (hl : cs'.length = 1) (h : DataW.trod enc Tryd.prog w base spare held n 3 cs' = some y) : ∃ p : Int, (Kd.int .i64).K w p cs' := by
  obtain ⟨x0, e0, _, _⟩ := DataW.trod_int Tryd.underlying3 h
  exact ⟨x0, e0⟩
end Go.Proofs.YtlfnnalepdjagaaDoor.C
