/- Rows of bounds and of uses that come in. -/
import Derived.WalkKit
import Derived.ProofKit
import Derived.ChangeSame
import Derived.ChangeArms
import Derived.ChangeSlices
import Derived.WideShapes
import Derived.Test.YtjgnadighdbjlaaCp
namespace Go.Proofs.Ytjgnadighdbjlaa.C
open Go.ChangeShapes Go.WideShapes Go.ChangeAt Go.RowKit Go.Proofs.YtjgnadighdbjlaaW.PrintWords
set_option linter.unusedVariables false
set_option linter.unusedSimpArgs false
/-- A row that came in, by what each of its elements is. -/
theorem open_rows {H : Type} {enc : TypeId × Value → H} {P : Program} {w : World} {base : Nat} {spare : Nat → Bool} {held : Bool} {α : Type} {t e : TypeId} {fuel : Nat} {cs : List Value} {x : DataW H × List MemPlace} (ht : P.underlying t = some (.slice e)) (R : α → List Value → Prop) {sz : Nat} (hc : P.cellsOf e = sz)
    (each : ∀ (n : Nat) (cs' : List Value) (y : DataW H × List MemPlace), cs'.length = sz → DataW.trod enc P w base spare held n e cs' = some y → ∃ p : α, R p cs')
    (h : DataW.trod enc P w base spare held fuel t cs = some x) :
    ∃ (A : Option Addr) (c : Nat) (l : List α), cs = [.slice A l.length c] ∧ ReadsRow R sz w A l.length l := by
  rcases DataW.trod_slice ht h with h0 | ⟨a, len, cap, elems, rest, n, _, rfl, rfl, hb, hl, hm, hlen, hel, hsp, hns⟩
  · exact ⟨none, 0, [], h0.1, rfl, by simp, fun h => by simp at h⟩
  have one : ∀ j : Nat, j < len → ∃ p : α, ∃ c : List Value, c.length = sz ∧ R p c ∧ ∀ i u, c[i]? = some u → w.cell? (a.add (j * sz + i)) = some u := by
    intro j hj
    have hy := hel j hj
    rw [List.getElem?_eq_getElem (by omega), Option.bind_eq_some_iff] at hy
    obtain ⟨cs', hcs, hy⟩ := hy
    rw [hc] at hcs
    obtain ⟨_, hl2, hcell⟩ := World.cells?_some hcs
    obtain ⟨p, hp⟩ := each _ _ _ hl2 hy
    refine ⟨p, cs', hl2, hp, fun i u hu => ?_⟩
    have hi := (List.getElem?_eq_some_iff.1 hu).1
    rw [← Addr.add_add, hcell i (by omega), hu]
  have build : ∀ k, k ≤ len → ∃ l : List α, l.length = k ∧ ∀ (j : Nat) (p : α), l[j]? = some p → ∃ c : List Value, c.length = sz ∧ R p c ∧ ∀ i u, c[i]? = some u → w.cell? (a.add (j * sz + i)) = some u := by
    intro k
    induction k with
    | zero => exact fun _ => ⟨[], rfl, by simp⟩
    | succ k ih =>
      intro hk
      obtain ⟨l, hl1, hl2⟩ := ih (by omega)
      obtain ⟨p, hp⟩ := one k (by omega)
      refine ⟨l ++ [p], by simp [hl1], fun j q hq => ?_⟩
      rcases Nat.lt_or_ge j l.length with hj | hj
      · rw [List.getElem?_append_left hj] at hq; exact hl2 j q hq
      · have : j = k := by have := (List.getElem?_eq_some_iff.1 hq).1; simp at this; omega
        subst this
        have : p = q := by rw [← hl1] at hq; simpa using hq
        subst this; exact hp
  obtain ⟨l, hl1, hl2⟩ := build len (Nat.le_refl _)
  refine ⟨some a, cap, l, by rw [hl1], rfl, by unfold maxLen at hm; omega, fun _ => ⟨a, rfl, hl2⟩⟩
theorem cells3r : Try.prog.cellsOf 3 = 1 := by kernel_rfl
theorem cells4r : Try.prog.cellsOf 4 = 1 := by kernel_rfl
theorem cells43r : Try.prog.cellsOf 43 = 2 := by kernel_rfl
theorem cells45r : Try.prog.cellsOf 45 = 4 := by kernel_rfl
theorem cells40r : Try.prog.cellsOf 40 = 2 := by kernel_rfl
set_option maxRecDepth 100000 in
theorem each_bd {H : Type} {enc : TypeId × Value → H} {w : World} {base : Nat} {spare : Nat → Bool} {held : Bool} (n : Nat) (cs' : List Value) (y : DataW H × List MemPlace) (hl : cs'.length = 4) (h : DataW.trod enc Try.prog w base spare held n 45 cs' = some y) : ∃ p : Bd, kb.K w p cs' := by
  obtain ⟨xs, m, _, _, _, hlen, hfs⟩ := DataW.trod_struct Try.underlying45 h
  match cs', hl with
  | [c0, c1, c2, c3], _ =>
  match xs, hlen with
  | [y0, y1, y2], _ =>
  obtain ⟨x0, e0, _, _⟩ := DataW.trod_int Try.underlying3 (hfs 0 _ rfl)
  obtain ⟨x1, e1, _, _⟩ := DataW.trod_int Try.underlying3 (hfs 1 _ rfl)
  obtain ⟨zs, m2, _, _, _, hlen2, hfs2⟩ := DataW.trod_struct Try.underlying43 (hfs 2 _ rfl)
  match zs, hlen2 with
  | [z0, z1], _ =>
  obtain ⟨x2, e2, _, _⟩ := DataW.trod_int Try.underlying3 (hfs2 0 _ rfl)
  obtain ⟨x3, e3, _, _⟩ := DataW.trod_int Try.underlying3 (hfs2 1 _ rfl)
  simp [cells3r, cells43r] at e0 e1 e2 e3
  subst e0 e1 e2 e3
  exact ⟨(x0, x1, x2, x3), [.int .i64 x0], [.int .i64 x1, .int .i64 x2, .int .i64 x3], rfl, rfl, [.int .i64 x1], [.int .i64 x2, .int .i64 x3], rfl, rfl, [.int .i64 x2], [.int .i64 x3], rfl, rfl, rfl⟩
set_option maxRecDepth 100000 in
theorem each_us {H : Type} {enc : TypeId × Value → H} {w : World} {base : Nat} {spare : Nat → Bool} {held : Bool} (n : Nat) (cs' : List Value) (y : DataW H × List MemPlace) (hl : cs'.length = 2) (h : DataW.trod enc Try.prog w base spare held n 40 cs' = some y) : ∃ p : Us, ku.K w p cs' := by
  obtain ⟨y0, y1, m, _, _, h0, h1⟩ := trod_struct2 Try.underlying40 h
  match cs', hl with
  | [c0, c1], _ =>
  obtain ⟨x0, e0, _, _⟩ := DataW.trod_int Try.underlying3 h0
  obtain ⟨x1, e1, _⟩ := DataW.trod_bool Try.underlying4 h1
  simp [cells3r, cells4r] at e0 e1
  subst e0 e1
  exact ⟨(x0, x1), [.int .i64 x0], [.bool x1], rfl, rfl, rfl⟩
set_option maxRecDepth 100000 in
/-- Bounds that came in. -/
theorem open_bds {H : Type} {enc : TypeId × Value → H} {W : World} {base b0 : Nat} {r : Reach} {sp : Nat → Bool} {held : Bool} {v : Value} {d : DataW H} {ps : List MemPlace} (hval : Value.okWide Try.prog W r b0 22 v) (hd : DataW.Trod enc Try.prog W base sp held 22 v d ps) :
    ∃ (A : Option Addr) (c : Nat) (l : List Bd), v = .slice A l.length c ∧ Kd.C kb W A l.length l := by
  obtain ⟨a, len, cap, rfl⟩ := okWide_slice Try.underlying22 hval
  obtain ⟨fuel, hf⟩ := hd
  obtain ⟨A, c, l, hcs, hR⟩ := open_rows Try.underlying22 (fun p cs => Kd.K kb W p cs) cells45r each_bd hf
  simp [Value.cells] at hcs
  obtain ⟨rfl, rfl, rfl⟩ := hcs
  exact ⟨_, _, l, rfl, hR⟩
set_option maxRecDepth 100000 in
/-- Uses that came in. -/
theorem open_uss {H : Type} {enc : TypeId × Value → H} {W : World} {base b0 : Nat} {r : Reach} {sp : Nat → Bool} {held : Bool} {v : Value} {d : DataW H} {ps : List MemPlace} (hval : Value.okWide Try.prog W r b0 23 v) (hd : DataW.Trod enc Try.prog W base sp held 23 v d ps) :
    ∃ (A : Option Addr) (c : Nat) (l : List Us), v = .slice A l.length c ∧ Kd.C ku W A l.length l := by
  obtain ⟨a, len, cap, rfl⟩ := okWide_slice Try.underlying23 hval
  obtain ⟨fuel, hf⟩ := hd
  obtain ⟨A, c, l, hcs, hR⟩ := open_rows Try.underlying23 (fun p cs => Kd.K ku W p cs) cells40r each_us hf
  simp [Value.cells] at hcs
  obtain ⟨rfl, rfl, rfl⟩ := hcs
  exact ⟨_, _, l, rfl, hR⟩
theorem each_int {H : Type} {enc : TypeId × Value → H} {w : World} {base : Nat} {spare : Nat → Bool} {held : Bool} (n : Nat) (cs' : List Value) (y : DataW H × List MemPlace) (hl : cs'.length = 1) (h : DataW.trod enc Try.prog w base spare held n 3 cs' = some y) : ∃ p : Int, (Kd.int .i64).K w p cs' := by
  obtain ⟨x0, e0, _, _⟩ := DataW.trod_int Try.underlying3 h
  exact ⟨x0, e0⟩
set_option maxRecDepth 100000 in
/-- Numbers that came in. -/
theorem open_ints {H : Type} {enc : TypeId × Value → H} {W : World} {base b0 : Nat} {r : Reach} {sp : Nat → Bool} {held : Bool} {v : Value} {d : DataW H} {ps : List MemPlace} (hval : Value.okWide Try.prog W r b0 59 v) (hd : DataW.Trod enc Try.prog W base sp held 59 v d ps) :
    ∃ (A : Option Addr) (c : Nat) (l : List Int), v = .slice A l.length c ∧ Kd.C (Kd.int .i64) W A l.length l := by
  obtain ⟨a, len, cap, rfl⟩ := okWide_slice Try.underlying59 hval
  obtain ⟨fuel, hf⟩ := hd
  obtain ⟨A, c, l, hcs, hR⟩ := open_rows Try.underlying59 (fun p cs => Kd.K (Kd.int .i64) W p cs) cells3r each_int hf
  simp [Value.cells] at hcs
  obtain ⟨rfl, rfl, rfl⟩ := hcs
  exact ⟨_, _, l, rfl, hR⟩
end Go.Proofs.Ytjgnadighdbjlaa.C
