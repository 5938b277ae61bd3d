/- What the row's listed variable gives: the table of limits lies in memory; the witness starts behind the door. -/
import Derived.Test.YtlfnnalepdjagaaDoorRows
import Derived.Test.YtlfnnalepdjagaaDoorAf
import Derived.ProofKit
import Derived.LaidMore
import Derived.OpenShut
import Derived.Stop.Joined
namespace Go.Proofs.YtlfnnalepdjagaaDoor.C
open Go.ChangeShapes Go.WideShapes Go.ChangeAt Go.WideMaps Go.WideElems Go.RowKit
set_option linter.unusedVariables false
set_option linter.unusedSimpArgs false
abbrev laidL {H : Type} : List (String × DataW H) := [("meridian/world.limits", Rows.laid_meridian_world_limits)]
theorem gLim : Tryd.prog.globalNamed "meridian/world.limits" = some 0 := by kernel_rfl
theorem tLim : (Tryd.prog.globals[0]?).map (·.type) = some 110 := by kernel_rfl
theorem c3L : Tryd.prog.cellsOf 3 = 1 := by kernel_rfl
theorem c109L : Tryd.prog.cellsOf 109 = 4 := by kernel_rfl
set_option maxRecDepth 100000 in
theorem four_of {H : Type} {enc : TypeId × Value → H} {w : World} {base : Nat} {sp : Nat → Bool} {held : Bool} {fuel : Nat} {cs : List Value} {x : DataW H × List MemPlace} {a b c d : Int}
    (h : DataW.trod enc Tryd.prog w base sp held fuel 109 cs = some x) (hx : x.1 = .agg [.lit (.int .i64 a), .lit (.int .i64 b), .lit (.int .i64 c), .lit (.int .i64 d)]) : cs = [.int .i64 a, .int .i64 b, .int .i64 c, .int .i64 d] := by
  obtain ⟨xs, m, rfl, rfl, hlen, hn, hel⟩ := DataW.trod_array Tryd.underlying109 h
  rw [c109L] at hlen
  rw [c3L] at hel
  match xs, hn, cs, hlen with
  | [x0, x1, x2, x3], _, [c0, c1, c2, c3], _ =>
    simp at hx
    obtain ⟨h0, h1, h2, h3⟩ := hx
    obtain ⟨k0, e0, d0, _⟩ := DataW.trod_int Tryd.underlying3 (show DataW.trod enc Tryd.prog w base sp held m 3 [c0] = some x0 from hel 0 (by decide))
    obtain ⟨k1, e1, d1, _⟩ := DataW.trod_int Tryd.underlying3 (show DataW.trod enc Tryd.prog w base sp held m 3 [c1] = some x1 from hel 1 (by decide))
    obtain ⟨k2, e2, d2, _⟩ := DataW.trod_int Tryd.underlying3 (show DataW.trod enc Tryd.prog w base sp held m 3 [c2] = some x2 from hel 2 (by decide))
    obtain ⟨k3, e3, d3, _⟩ := DataW.trod_int Tryd.underlying3 (show DataW.trod enc Tryd.prog w base sp held m 3 [c3] = some x3 from hel 3 (by decide))
    simp at e0 e1 e2 e3
    rw [d0] at h0; rw [d1] at h1; rw [d2] at h2; rw [d3] at h3
    simp at h0 h1 h2 h3
    rw [e0, e1, e2, e3, h0, h1, h2, h3]
set_option maxRecDepth 100000 in
/-- The table of limits. -/
theorem lim_of {W : World} (h : laidMetH Tryd.prog laidL W) : Lim W := by
  rw [MakeChecks.laidMetH_plain _ _ _ (by kernel_rfl)] at h
  obtain ⟨ps, ⟨g0, t0, cs0, f0, p0, q0, hg0, ht0, hv0, hd0, _, _⟩, _, _⟩ := h
  obtain rfl := Option.some.inj (gLim.symm.trans hg0)
  obtain rfl := Option.some.inj (tLim.symm.trans ht0)
  obtain ⟨xs, m, rfl, hx, hlen, hn, hel⟩ := DataW.trod_array Tryd.underlying110 hd0
  rw [c109L] at hel
  simp only [Prod.mk.injEq] at hx
  have hx1 := hx.1
  unfold Rows.laid_meridian_world_limits at hx1
  simp only [DataW.agg.injEq] at hx1
  match xs, hn with
  | [x0, x1, x2, x3, x4, x5], _ =>
    simp only [List.map_cons, List.map_nil, List.cons.injEq, and_true] at hx1
    obtain ⟨y0, y1, y2, y3, y4, y5⟩ := hx1
    have z0 := four_of (hel 0 (by decide)) y0.symm
    have z1 := four_of (hel 1 (by decide)) y1.symm
    have z2 := four_of (hel 2 (by decide)) y2.symm
    have z3 := four_of (hel 3 (by decide)) y3.symm
    have z4 := four_of (hel 4 (by decide)) y4.symm
    have z5 := four_of (hel 5 (by decide)) y5.symm
    refine ⟨fun j hj => ?_⟩
    rw [World.var?_cell hg0 hv0 j]
    have go : ∀ (i : Nat) (l : List Value), (cs0.toList.drop (i * 4)).take 4 = l → ∀ k, k < 4 → cs0[i * 4 + k]? = l[k]? := by
      intro i l hl k hk
      rw [← hl, List.getElem?_take, if_pos hk, List.getElem?_drop, Array.getElem?_toList]
    obtain ⟨i, k, hi, hk, rfl⟩ : ∃ i k, i < 6 ∧ k < 4 ∧ j = i * 4 + k := ⟨j / 4, j % 4, by omega, by omega, by omega⟩
    have hi6 : i = 0 ∨ i = 1 ∨ i = 2 ∨ i = 3 ∨ i = 4 ∨ i = 5 := by omega
    have hk4 : k = 0 ∨ k = 1 ∨ k = 2 ∨ k = 3 := by omega
    rcases hi6 with rfl | rfl | rfl | rfl | rfl | rfl
    · rw [go 0 _ z0 k hk]; rcases hk4 with rfl | rfl | rfl | rfl <;> rfl
    · rw [go 1 _ z1 k hk]; rcases hk4 with rfl | rfl | rfl | rfl <;> rfl
    · rw [go 2 _ z2 k hk]; rcases hk4 with rfl | rfl | rfl | rfl <;> rfl
    · rw [go 3 _ z3 k hk]; rcases hk4 with rfl | rfl | rfl | rfl <;> rfl
    · rw [go 4 _ z4 k hk]; rcases hk4 with rfl | rfl | rfl | rfl <;> rfl
    · rw [go 5 _ z5 k hk]; rcases hk4 with rfl | rfl | rfl | rfl <;> rfl
/-- The door's own heap meets the condition. -/
theorem door_met (os : Os) (args : Array Value) : laidMetH Tryd.prog laidL ((World.doorLaid Tryd.prog 400 os).forCall (fun _ _ => 0) ⟨#[], args, []⟩).memory :=
  laidMetH_of_parts3 (fuel := 8) (laidMet_of_run' 8 (by kernel_rfl) (by kernel_rfl)) (by kernel_rfl) (by kernel_rfl)
end Go.Proofs.YtlfnnalepdjagaaDoor.C
