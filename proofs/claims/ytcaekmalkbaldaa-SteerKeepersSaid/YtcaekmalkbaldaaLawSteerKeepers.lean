/- PROVED HERE: for every input, the law SteerKeepers returns true, and what was passed in reads behind the call as it read before. No condition is set. -/
import Derived.Test.YtcaekmalkbaldaaRows
import Derived.Test.YtcaekmalkbaldaaKt
import Derived.Test.YtcaekmalkbaldaaKu
import Derived.WalkKit
import Derived.ProofKit
import Derived.OpenShut
import Derived.ShutString
import Derived.ChangeOld
import Derived.Below
import Derived.SizedLaws
import Derived.ChangeSame
import Derived.ChangeArms
import Derived.ChangeSlices
import Derived.WideShapes
namespace Go.Proofs.Ytcaekmalkbaldaa.steerKeepers
open Go.ChangeShapes Go.WideShapes Go.ChangeAt Go.RowKit
open Go.ChangeMaps (open_string shut_string)
set_option linter.unusedVariables false
set_option linter.unusedSimpArgs false
theorem own : ownKnob Try.prog.godebug = none := by kernel_rfl
theorem laidOut : laidOutB Try.prog = true := by kernel_rfl
theorem cells23 : Try.prog.cellsOf 23 = 4 := by kernel_rfl
theorem cells3 : Try.prog.cellsOf 3 = 1 := by kernel_rfl
set_option maxRecDepth 100000 in
theorem open_st23 {H : Type} {enc : TypeId × Value → H} {W : World} {base b0 : Nat} {r : Reach} {sp : Nat → Bool} {held : Bool} {v : Value} {d : DataW H} {ps : List MemPlace} (hval : Value.okWide Try.prog W r b0 23 v) (hd : DataW.Trod enc Try.prog W base sp held 23 v d ps) :
    ∃ x0 x1 x2 x3 : Int, v = .agg #[.int .i64 x0, .int .i64 x1, .int .i64 x2, .int .i64 x3] ∧ d = .agg [.lit (.int .i64 x0), .lit (.int .i64 x1), .lit (.int .i64 x2), .lit (.int .i64 x3)] ∧ ps = [] ∧ (Lit.int .i64 x0).wf = true ∧ (Lit.int .i64 x1).wf = true ∧ (Lit.int .i64 x2).wf = true ∧ (Lit.int .i64 x3).wf = true := by
  obtain ⟨cs, rfl, hsz⟩ := okWide_struct Try.underlying23 hval
  rw [cells23] at hsz
  obtain ⟨l⟩ := cs
  match l, hsz with
  | [c0, c1, c2, c3], _ =>
  obtain ⟨fuel, hf⟩ := hd
  obtain ⟨xs, n, _, hx, _, hlen, hfs⟩ := DataW.trod_struct Try.underlying23 hf
  match xs, hlen with
  | [y0, y1, y2, y3], _ =>
  obtain ⟨x0, e0, z0, wa0⟩ := DataW.trod_int Try.underlying3 (hfs 0 _ rfl)
  have z0 := z0
  obtain ⟨x1, e1, z1, wa1⟩ := DataW.trod_int Try.underlying3 (hfs 1 _ rfl)
  have z1 := z1
  obtain ⟨x2, e2, z2, wa2⟩ := DataW.trod_int Try.underlying3 (hfs 2 _ rfl)
  have z2 := z2
  obtain ⟨x3, e3, z3, wa3⟩ := DataW.trod_int Try.underlying3 (hfs 3 _ rfl)
  have z3 := z3
  simp [Value.cells, cells3] at e0 e1 e2 e3
  subst e0 e1 e2 e3
  subst z0 z1 z2 z3
  simp only [Prod.mk.injEq] at hx
  obtain ⟨rfl, rfl⟩ := hx
  exact ⟨x0, x1, x2, x3, rfl, rfl, rfl, wa0, wa1, wa2, wa3⟩
set_option maxRecDepth 100000 in
theorem shut_st23 {H : Type} {enc : TypeId × Value → H} {W : World} {base : Nat} {sp : Nat → Bool} {held : Bool} {x0 x1 x2 x3 : Int} (w0 : (Lit.int .i64 x0).wf = true) (w1 : (Lit.int .i64 x1).wf = true) (w2 : (Lit.int .i64 x2).wf = true) (w3 : (Lit.int .i64 x3).wf = true) :
    DataW.Trod enc Try.prog W base sp held 23 (.agg #[.int .i64 x0, .int .i64 x1, .int .i64 x2, .int .i64 x3]) (.agg [.lit (.int .i64 x0), .lit (.int .i64 x1), .lit (.int .i64 x2), .lit (.int .i64 x3)]) [] := ⟨2, by
  have f0 : DataW.trod enc Try.prog W base sp held 1 3 [.int .i64 x0] = some (.lit (.int .i64 x0), []) := by simp [DataW.trod, Try.underlying3, w0]
  have f1 : DataW.trod enc Try.prog W base sp held 1 3 [.int .i64 x1] = some (.lit (.int .i64 x1), []) := by simp [DataW.trod, Try.underlying3, w1]
  have f2 : DataW.trod enc Try.prog W base sp held 1 3 [.int .i64 x2] = some (.lit (.int .i64 x2), []) := by simp [DataW.trod, Try.underlying3, w2]
  have f3 : DataW.trod enc Try.prog W base sp held 1 3 [.int .i64 x3] = some (.lit (.int .i64 x3), []) := by simp [DataW.trod, Try.underlying3, w3]
  have := trod_struct_mk (enc := enc) (w := W) (base := base) (spare := sp) (held := held) (n := 1) (cs := [.int .i64 x0, .int .i64 x1, .int .i64 x2, .int .i64 x3]) (xs := [(.lit (.int .i64 x0), []), (.lit (.int .i64 x1), []), (.lit (.int .i64 x2), []), (.lit (.int .i64 x3), [])]) Try.underlying23 (by simp [cells23]) (by simp [cells3, f0, f1, f2, f3])
  simpa [Value.cells] using this⟩
set_option maxRecDepth 100000 in
theorem lifted (os : Os) (started : os.Started) (H : Type) (enc : TypeId × Value → H) :
    ReturnsInHanded {} Try.checked os 8 .any (Rows.steerKeepersSpec.pre6 enc Try.prog Try.f8 Rows.steerKeepersRow.domain false) (Rows.steerKeepersSpec.post enc Try.prog Try.f8 false true false false) := by
  refine returnsInHanded_of_change_sized (C := Try.checked) own started (by kernel_rfl) Try.func8
    (ChangeSpec.witness6 (enc := enc) (C := Try.checked) false ⟨#[], #[.agg #[.int .i64 0, .int .i64 0, .int .i64 0, .int .i64 0], .int .i64 0, .int .i64 0, .slice none 0 0], []⟩ 8 (by kernel_rfl) (by kernel_rfl) (by kernel_rfl) (by kernel_rfl)) ?_
  intro W base args ds gs before hval0 hW hcnd hsz0 _
  have hval : ∀ (j : Nat) t v, Try.f8.params[j]? = some t → args[j]? = some v → Value.okWide Try.prog W .any base t v := hval0
  have hW' := hW
  obtain ⟨p, q, hA0, hV, rfl, hfz, hnd⟩ := hW
  have hA : DataW.TrodAll enc Try.prog W 0 (fun _ => true) true Try.f8.params.toList args.toList ds p := hA0
  rw [Try.params8] at hA hval
  obtain ⟨v0, vs0, d0, ds0, p0, q0, hargs, rfl, rfl, h0, r0⟩ := trodAll_cons hA
  obtain ⟨v1, vs1, d1, ds1, p1, q1, rfl, rfl, rfl, h1, r1⟩ := trodAll_cons r0
  obtain ⟨v2, vs2, d2, ds2, p2, q2, rfl, rfl, rfl, h2, r2⟩ := trodAll_cons r1
  obtain ⟨v3, vs3, d3, ds3, p3, q3, rfl, rfl, rfl, h3, r3⟩ := trodAll_cons r2
  obtain ⟨rfl, rfl, rfl⟩ := trodAll_nil r3
  obtain rfl : args = #[v0, v1, v2, v3] := by cases args; simp_all
  obtain ⟨rfl, rfl⟩ := trodVars_none hV
  obtain ⟨a0_0, a0_1, a0_2, a0_3, rfl, rfl, rfl, w0_0, w0_1, w0_2, w0_3⟩ := open_st23 (hval 0 23 v0 rfl rfl) h0
  obtain ⟨a1, rfl, rfl, rfl, w1⟩ := open_int Try.underlying3 (hval 1 3 v1 rfl rfl) h1
  obtain ⟨a2, rfl, rfl, rfl, w2⟩ := open_int Try.underlying3 (hval 2 3 v2 rfl rfl) h2
  have k3 := h3
  have lt3 : ∀ x ∈ p3, x.block < W.heap.size := by obtain ⟨m, hm⟩ := k3; exact DataW.trod_lt m _ _ _ hm
  obtain ⟨A3, c3, l3, rfl, hC3⟩ := M.open_spans (hval 3 61 v3 rfl rfl) h3
  clear hA0 hval0 hsz0
  refine (M.steerKeepers_w.calls a0_0 a0_1 a0_2 a0_3 a1 a2 A3 c3 l3 W hC3).mono fun e W' ⟨he, bel⟩ => ?_
  subst he
  exact ⟨_, rfl, _, _, _, [], _, [], hW', trodAll_mk1 (shut_bool Try.underlying4 _), (trodAll_cons_mk (shut_st23 w0_0 w0_1 w0_2 w0_3) (trodAll_cons_mk (shut_int Try.underlying3 w1) (trodAll_cons_mk (shut_int Try.underlying3 w2) (trodAll_cons_mk (Below.trod laidOut (by kernel_rfl) (of_decide_eq_true (by kernel_rfl)) k3 bel lt3) trodAll_mk0)))), rfl, bel.frame _, fun h => by cases h⟩
theorem over : Rows.steerKeepersRow.holds Try.pinned (OpenSpec.ofChange Rows.steerKeepersSpec) :=
  OpenClaim.holds_of_wide 8 Try.f8 rfl rfl rfl rfl rfl rfl rfl ⟨rfl, rfl, rfl, rfl, rfl⟩ rfl rfl rfl rfl rfl (by kernel_rfl) Try.func8 (by kernel_rfl)
    (of_decide_eq_true (by kernel_rfl)) (by unfold Func.isWrapper; first | (rw [if_pos (by decide +kernel)]; kernel_rfl) | (rw [if_neg (by decide +kernel)]; exact ⟨rfl, rfl⟩))
    (fun os started H enc _ => lifted os started H enc)
theorem proved : Rows.SteerKeepersSaid := over
#print axioms proved
end Go.Proofs.Ytcaekmalkbaldaa.steerKeepers
namespace Go.Proofs.Ytcaekmalkbaldaa
/-- The row, under a short name, for the claim. -/
theorem steerKeepers_holds : Rows.SteerKeepersSaid := steerKeepers.proved
end Go.Proofs.Ytcaekmalkbaldaa
