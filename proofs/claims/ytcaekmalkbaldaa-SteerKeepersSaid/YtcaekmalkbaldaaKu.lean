/- Rows of spans that come in. -/
import Derived.WalkKit
import Derived.ProofKit
import Derived.ChangeSame
import Derived.ChangeArms
import Derived.ChangeSlices
import Derived.WideShapes
import Derived.Test.YtcaekmalkbaldaaKt
namespace Go.Proofs.Ytcaekmalkbaldaa.M
open Go.ChangeShapes Go.WideShapes Go.ChangeAt Go.RowKit Go.Proofs.YtcaekmalkbaldaaW.PrintWords
set_option linter.unusedVariables false
set_option linter.unusedSimpArgs false
/-- A row that came in, by what each of its elements is. -/
theorem open_rows {H : Type} {enc : TypeId × Value → H} {P : Program} {w : World} {base : Nat} {spare : Nat → Bool} {held : Bool} {α : Type} {t e : TypeId} {fuel : Nat} {cs : List Value} {x : DataW H × List MemPlace} (ht : P.underlying t = some (.slice e)) (R : α → List Value → Prop) {sz : Nat} (hc : P.cellsOf e = sz)
    (each : ∀ (n : Nat) (cs' : List Value) (y : DataW H × List MemPlace), cs'.length = sz → DataW.trod enc P w base spare held n e cs' = some y → ∃ p : α, R p cs')
    (h : DataW.trod enc P w base spare held fuel t cs = some x) :
    ∃ (A : Option Addr) (c : Nat) (l : List α), cs = [.slice A l.length c] ∧ ReadsRow R sz w A l.length l := by
  rcases DataW.trod_slice ht h with h0 | ⟨a, len, cap, elems, rest, n, _, rfl, rfl, hb, hl, hm, hlen, hel, hsp, hns⟩
  · exact ⟨none, 0, [], h0.1, rfl, by simp, fun h => by simp at h⟩
  have one : ∀ j : Nat, j < len → ∃ p : α, ∃ c : List Value, c.length = sz ∧ R p c ∧ ∀ i u, c[i]? = some u → w.cell? (a.add (j * sz + i)) = some u := by
    intro j hj
    have hy := hel j hj
    rw [List.getElem?_eq_getElem (by omega), Option.bind_eq_some_iff] at hy
    obtain ⟨cs', hcs, hy⟩ := hy
    rw [hc] at hcs
    obtain ⟨_, hl2, hcell⟩ := World.cells?_some hcs
    obtain ⟨p, hp⟩ := each _ _ _ hl2 hy
    refine ⟨p, cs', hl2, hp, fun i u hu => ?_⟩
    have hi := (List.getElem?_eq_some_iff.1 hu).1
    rw [← Addr.add_add, hcell i (by omega), hu]
  have build : ∀ k, k ≤ len → ∃ l : List α, l.length = k ∧ ∀ (j : Nat) (p : α), l[j]? = some p → ∃ c : List Value, c.length = sz ∧ R p c ∧ ∀ i u, c[i]? = some u → w.cell? (a.add (j * sz + i)) = some u := by
    intro k
    induction k with
    | zero => exact fun _ => ⟨[], rfl, by simp⟩
    | succ k ih =>
      intro hk
      obtain ⟨l, hl1, hl2⟩ := ih (by omega)
      obtain ⟨p, hp⟩ := one k (by omega)
      refine ⟨l ++ [p], by simp [hl1], fun j q hq => ?_⟩
      rcases Nat.lt_or_ge j l.length with hj | hj
      · rw [List.getElem?_append_left hj] at hq; exact hl2 j q hq
      · have : j = k := by have := (List.getElem?_eq_some_iff.1 hq).1; simp at this; omega
        subst this
        have : p = q := by rw [← hl1] at hq; simpa using hq
        subst this; exact hp
  obtain ⟨l, hl1, hl2⟩ := build len (Nat.le_refl _)
  refine ⟨some a, cap, l, by rw [hl1], rfl, by unfold maxLen at hm; omega, fun _ => ⟨a, rfl, hl2⟩⟩
theorem cells3r : Try.prog.cellsOf 3 = 1 := by kernel_rfl
theorem cells71r : Try.prog.cellsOf 71 = 2 := by kernel_rfl
set_option maxRecDepth 100000 in
theorem each_span {H : Type} {enc : TypeId × Value → H} {w : World} {base : Nat} {spare : Nat → Bool} {held : Bool} (n : Nat) (cs' : List Value) (y : DataW H × List MemPlace) (hl : cs'.length = 2) (h : DataW.trod enc Try.prog w base spare held n 71 cs' = some y) : ∃ p : Int × Int, kl.K w p cs' := by
  obtain ⟨xs, m, _, _, _, hlen, hfs⟩ := DataW.trod_struct Try.underlying71 h
  match cs', hl with
  | [c0, c1], _ =>
  match xs, hlen with
  | [y0, y1], _ =>
  obtain ⟨x0, e0, _, _⟩ := DataW.trod_int Try.underlying3 (hfs 0 _ rfl)
  obtain ⟨x1, e1, _, _⟩ := DataW.trod_int Try.underlying3 (hfs 1 _ rfl)
  simp [cells3r] at e0 e1
  subst e0 e1
  exact ⟨(x0, x1), [.int .i64 x0], [.int .i64 x1], rfl, rfl, rfl⟩
set_option maxRecDepth 100000 in
theorem open_spans {H : Type} {enc : TypeId × Value → H} {W : World} {base b0 : Nat} {r : Reach} {sp : Nat → Bool} {held : Bool} {v : Value} {d : DataW H} {ps : List MemPlace} (hval : Value.okWide Try.prog W r b0 61 v) (hd : DataW.Trod enc Try.prog W base sp held 61 v d ps) :
    ∃ (A : Option Addr) (c : Nat) (l : List (Int × Int)), v = .slice A l.length c ∧ Kd.C kl W A l.length l := by
  obtain ⟨a, len, cap, rfl⟩ := okWide_slice Try.underlying61 hval
  obtain ⟨fuel, hf⟩ := hd
  obtain ⟨A, c, l, hcs, hR⟩ := open_rows Try.underlying61 (fun p cs => Kd.K kl W p cs) cells71r each_span hf
  simp [Value.cells] at hcs
  obtain ⟨rfl, rfl, rfl⟩ := hcs
  exact ⟨_, _, l, rfl, hR⟩
end Go.Proofs.Ytcaekmalkbaldaa.M
