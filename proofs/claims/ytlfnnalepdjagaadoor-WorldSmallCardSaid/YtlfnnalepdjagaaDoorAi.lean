/- Contracts of find and found. -/
import Derived.OwnWalk
import Derived.BigRegion
import Derived.Deep.Cut
import Derived.Laws.ResultCell
import Derived.Laws.Rows
import Derived.Deep.RegionHeld3
import Derived.Test.YtlfnnalepdjagaaDoorAh
namespace Go.Proofs.YtlfnnalepdjagaaDoor.C
open Go.RowKit Go.Shelf Go.Maps Go.Proofs.YtlfnnalepdjagaaDoorW.PrintWords Go.Proofs.YtlfnnalepdjagaaDoorW.PrintLast Go.Proofs.YtlfnnalepdjagaaDoorW.PrintMore
set_option linter.unusedVariables false
set_option linter.unusedSimpArgs false
theorem results_row_tmp {P : Program} {fn : Func} {p u : Tmp} {ty : TypeId} (h : fn.results = #[.cell p ty, .tmp u]) (tmps : Array Value) (w : World) (g : Nat) (t : TypeId) (cs : Array Value) (fr : Nat × Nat) (d : TypeDesc)
    (hp : tmps.getD p undef = .pointer (some ⟨g, 0, none⟩)) (hg : w.heap[g]? = some (.cells cs t fr))
    (hu : P.underlying ty = some d) (hd : (match d with | .struct _ | .array _ _ => true | _ => false) = true) (hi : (P.info? ty).map (·.size) = some cs.size) :
    (results fn tmps).run P w = .ok (.tuple #[.agg cs, tmps.getD u undef]) w := by
  rw [results_cell_tmp h, hp]
  simp [asAddr, run_loadVar_row w g t ty cs fr d hg hu hd hi, Result.andThen]
theorem info97 : (Tryd.prog.info? 97).map (·.size) = some 13 := by kernel_rfl
theorem dr_heap {w : World} {k : Nat} {o : Option Obj} (h : w.heap[k]? = o) : w.drew.heap[k]? = o := h
abbrev wkZ : Value := .agg #[.int .i64 0, .int .i64 0, .int .i64 0, .int .i64 0, .int .i64 0, .int .i64 0, .int .i64 0, .int .i64 0, .slice none 0 0, .int .u64 0, .slice none 0 0, .slice none 0 0, .int .i64 0]
/-- The error of a clock; of a clock and a second. -/
def errK (chs : List T3) (cks : List Ck) (k : Int) : Int := if checkW chs cks = 0 then if inW k 0 ((cks.length : Int) - 1) then 0 else 20 else checkW chs cks
def errS (chs : List T3) (cks : List Ck) (k s : Int) : Int := if errK chs cks k = 0 then timedF s else errK chs cks k
set_option maxHeartbeats 4000000 in
set_option maxRecDepth 100000 in
theorem find_err (seed : Int) (Ah : Option Addr) (chc : Nat) (Ak : Option Addr) (ckc : Nat) (chs : List T3) (cks : List Ck) (k : Int) (w : World) (hL : Lim w) (hW : WAt 51 w Ah Ak chs cks) (hwf : WfK cks) (hE : errK chs cks k ≠ 0) :
    Calls Tryd.prog 47 #[woV seed Ah chs.length chc Ak cks.length ckc, .int .i64 k] w fun e w' => e = .returned (.tuple #[wkZ, .int .i64 (errK chs cks k)]) ∧ Below w.heap.size w w' := by
  have hlk : cks.length ≤ 9223372036854775807 := hW.k.2.1
  have u1 := wr ((cks.length : Int) - 1) (by omega) (by omega)
  have c1 := fun (W : World) (hB2 : Below w.heap.size w W) => Check_calls seed Ah chc Ak ckc chs cks W (hL.below hB2) (hW.below hB2) hwf
  have c2 := fun w => inW_calls k 0 ((cks.length : Int) - 1) w
  obtain ⟨w1, hw1⟩ : ∃ w1, (w.alloc (.cells #[.int .u64 seed, .slice Ah chs.length chc, .slice Ak cks.length ckc] 32)).alloc (.cells #[.int .i64 0, .int .i64 0, .int .i64 0, .int .i64 0, .int .i64 0, .int .i64 0, .int .i64 0, .int .i64 0, .slice none 0 0, .int .u64 0, .slice none 0 0, .slice none 0 0, .int .i64 0] 97) = w1 := ⟨_, rfl⟩
  have hB : Below w.heap.size w w1 := by rw [← hw1]; exact ((Below.refl _ _).alloc (Nat.le_refl _) _).alloc (by simp) _
  have kb : w1.heap[w.heap.size]? = some (.cells #[.int .u64 seed, .slice Ah chs.length chc, .slice Ak cks.length ckc] 32 (0, 0)) := by rw [← hw1]; exact al_old (al_new _ _ _ rfl)
  have kr : w1.heap[w.heap.size + 1]? = some (.cells #[.int .i64 0, .int .i64 0, .int .i64 0, .int .i64 0, .int .i64 0, .int .i64 0, .int .i64 0, .int .i64 0, .slice none 0 0, .int .u64 0, .slice none 0 0, .slice none 0 0, .int .i64 0] 97 (0, 0)) := by rw [← hw1]; exact al_new _ _ _ (by simp)
  have HKB := Aside0.mk kb
  have HKR := Aside0.mk kr
  have HV := Aside0.mk hB
  have x0 : w1.cell? ⟨w.heap.size, 0, none⟩ = some (.int .u64 seed) := blk_cell kb 0
  have x1 : w1.cell? ⟨w.heap.size, 1, none⟩ = some (.slice Ah chs.length chc) := blk_cell kb 1
  have x2 : w1.cell? ⟨w.heap.size, 2, none⟩ = some (.slice Ak cks.length ckc) := blk_cell kb 2
  clear kb kr hB
  unfold errK woV at *
  by_cases hc : checkW chs cks = 0
  · rw [if_pos hc] at hE ⊢
    have hk : inW k 0 ((cks.length : Int) - 1) = false := by
      cases h : inW k 0 ((cks.length : Int) - 1)
      · rfl
      · rw [h] at hE; exact absurd rfl hE
    rw [hk] at c2
    rw [hk, if_neg (by simp)]
    rw [hc] at c1
    clear hc hE hk hL hW hwf
    go_enter Tryd.func47, Tryd.ntmps47
    go_wp2_with fail
    try rw [hw1]
    refine (c1 _ HV.out).mono ?_
    rintro en w2 ⟨rfl, hB⟩
    replace HKB := Aside0.mk (blk_on hB HKB.out)
    replace HKR := Aside0.mk (blk_on hB HKR.out)
    replace HV := Aside0.mk (HV.out.trans (hB.mono HV.out.size))
    clear hB c1 x0 x1 x2
    have x2 : w2.cell? ⟨w.heap.size, 2, none⟩ = some (.slice Ak cks.length ckc) := blk_cell HKB.out 2
    go_wp2_with fail
    refine (c2 _).mono ?_
    rintro en w3 ⟨rfl, hB⟩
    replace HKB := Aside0.mk (blk_on hB HKB.out)
    replace HKR := Aside0.mk (blk_on hB HKR.out)
    replace HV := Aside0.mk (HV.out.trans (hB.mono HV.out.size))
    clear hB c2 x2
    have z0 : w3.cell? ⟨w.heap.size + 1, 0, none⟩ = some (.int .i64 0) := blk_cell HKR.out 0
    have z1 : w3.cell? ⟨w.heap.size + 1, 1, none⟩ = some (.int .i64 0) := blk_cell HKR.out 1
    have z2 : w3.cell? ⟨w.heap.size + 1, 2, none⟩ = some (.int .i64 0) := blk_cell HKR.out 2
    have z3 : w3.cell? ⟨w.heap.size + 1, 3, none⟩ = some (.int .i64 0) := blk_cell HKR.out 3
    have z4 : w3.cell? ⟨w.heap.size + 1, 4, none⟩ = some (.int .i64 0) := blk_cell HKR.out 4
    have z5 : w3.cell? ⟨w.heap.size + 1, 5, none⟩ = some (.int .i64 0) := blk_cell HKR.out 5
    have z6 : w3.cell? ⟨w.heap.size + 1, 6, none⟩ = some (.int .i64 0) := blk_cell HKR.out 6
    have z7 : w3.cell? ⟨w.heap.size + 1, 7, none⟩ = some (.int .i64 0) := blk_cell HKR.out 7
    have z8 : w3.cell? ⟨w.heap.size + 1, 8, none⟩ = some (.slice none 0 0) := blk_cell HKR.out 8
    have z9 : w3.cell? ⟨w.heap.size + 1, 9, none⟩ = some (.int .u64 0) := blk_cell HKR.out 9
    have z10 : w3.cell? ⟨w.heap.size + 1, 10, none⟩ = some (.slice none 0 0) := blk_cell HKR.out 10
    have z11 : w3.cell? ⟨w.heap.size + 1, 11, none⟩ = some (.slice none 0 0) := blk_cell HKR.out 11
    have z12 : w3.cell? ⟨w.heap.size + 1, 12, none⟩ = some (.int .i64 0) := blk_cell HKR.out 12
    have q0 := blk_frozen HKR.out 0
    have q1 := blk_frozen HKR.out 1
    have q2 := blk_frozen HKR.out 2
    have q3 := blk_frozen HKR.out 3
    have q4 := blk_frozen HKR.out 4
    have q5 := blk_frozen HKR.out 5
    have q6 := blk_frozen HKR.out 6
    have q7 := blk_frozen HKR.out 7
    have q8 := blk_frozen HKR.out 8
    have q9 := blk_frozen HKR.out 9
    have q10 := blk_frozen HKR.out 10
    have q11 := blk_frozen HKR.out 11
    have q12 := blk_frozen HKR.out 12
    go_wp2_with fail
    exact bodyPost_ret (results_row_tmp rfl _ _ (w.heap.size + 1) 97 _ (0, 0) _ rfl (blk_put (blk_put (blk_put (blk_put (blk_put (blk_put (blk_put (blk_put (blk_put (blk_put (blk_put (blk_put (blk_put (HKR.out) 0 _ rfl) 1 _ rfl) 2 _ rfl) 3 _ rfl) 4 _ rfl) 5 _ rfl) 6 _ rfl) 7 _ rfl) 8 _ rfl) 9 _ rfl) 10 _ rfl) 11 _ rfl) 12 _ rfl) Tryd.underlying97 rfl info97) rfl ⟨rfl, (((((((((((((HV.out).setCell (by simp) _).setCell (by simp) _).setCell (by simp) _).setCell (by simp) _).setCell (by simp) _).setCell (by simp) _).setCell (by simp) _).setCell (by simp) _).setCell (by simp) _).setCell (by simp) _).setCell (by simp) _).setCell (by simp) _).setCell (by simp) _⟩
  · rw [if_neg hc]
    rw [if_neg hc] at hE
    obtain ⟨E, hEE⟩ : ∃ E, checkW chs cks = E := ⟨_, rfl⟩
    rw [hEE] at c1 hc ⊢
    have q := beq_eq_false_iff_ne.2 hc
    clear hE hL hW hwf hEE
    go_enter Tryd.func47, Tryd.ntmps47
    go_wp2_with fail
    try rw [hw1]
    refine (c1 _ HV.out).mono ?_
    rintro en w2 ⟨rfl, hB⟩
    replace HKB := Aside0.mk (blk_on hB HKB.out)
    replace HKR := Aside0.mk (blk_on hB HKR.out)
    replace HV := Aside0.mk (HV.out.trans (hB.mono HV.out.size))
    clear hB c1 x0 x1 x2
    have z0 : w2.cell? ⟨w.heap.size + 1, 0, none⟩ = some (.int .i64 0) := blk_cell HKR.out 0
    have z1 : w2.cell? ⟨w.heap.size + 1, 1, none⟩ = some (.int .i64 0) := blk_cell HKR.out 1
    have z2 : w2.cell? ⟨w.heap.size + 1, 2, none⟩ = some (.int .i64 0) := blk_cell HKR.out 2
    have z3 : w2.cell? ⟨w.heap.size + 1, 3, none⟩ = some (.int .i64 0) := blk_cell HKR.out 3
    have z4 : w2.cell? ⟨w.heap.size + 1, 4, none⟩ = some (.int .i64 0) := blk_cell HKR.out 4
    have z5 : w2.cell? ⟨w.heap.size + 1, 5, none⟩ = some (.int .i64 0) := blk_cell HKR.out 5
    have z6 : w2.cell? ⟨w.heap.size + 1, 6, none⟩ = some (.int .i64 0) := blk_cell HKR.out 6
    have z7 : w2.cell? ⟨w.heap.size + 1, 7, none⟩ = some (.int .i64 0) := blk_cell HKR.out 7
    have z8 : w2.cell? ⟨w.heap.size + 1, 8, none⟩ = some (.slice none 0 0) := blk_cell HKR.out 8
    have z9 : w2.cell? ⟨w.heap.size + 1, 9, none⟩ = some (.int .u64 0) := blk_cell HKR.out 9
    have z10 : w2.cell? ⟨w.heap.size + 1, 10, none⟩ = some (.slice none 0 0) := blk_cell HKR.out 10
    have z11 : w2.cell? ⟨w.heap.size + 1, 11, none⟩ = some (.slice none 0 0) := blk_cell HKR.out 11
    have z12 : w2.cell? ⟨w.heap.size + 1, 12, none⟩ = some (.int .i64 0) := blk_cell HKR.out 12
    have q0 := blk_frozen HKR.out 0
    have q1 := blk_frozen HKR.out 1
    have q2 := blk_frozen HKR.out 2
    have q3 := blk_frozen HKR.out 3
    have q4 := blk_frozen HKR.out 4
    have q5 := blk_frozen HKR.out 5
    have q6 := blk_frozen HKR.out 6
    have q7 := blk_frozen HKR.out 7
    have q8 := blk_frozen HKR.out 8
    have q9 := blk_frozen HKR.out 9
    have q10 := blk_frozen HKR.out 10
    have q11 := blk_frozen HKR.out 11
    have q12 := blk_frozen HKR.out 12
    go_wp2_with fail
    exact bodyPost_ret (results_row_tmp rfl _ _ (w.heap.size + 1) 97 _ (0, 0) _ rfl (blk_put (blk_put (blk_put (blk_put (blk_put (blk_put (blk_put (blk_put (blk_put (blk_put (blk_put (blk_put (blk_put (HKR.out) 0 _ rfl) 1 _ rfl) 2 _ rfl) 3 _ rfl) 4 _ rfl) 5 _ rfl) 6 _ rfl) 7 _ rfl) 8 _ rfl) 9 _ rfl) 10 _ rfl) 11 _ rfl) 12 _ rfl) Tryd.underlying97 rfl info97) rfl ⟨rfl, (((((((((((((HV.out).setCell (by simp) _).setCell (by simp) _).setCell (by simp) _).setCell (by simp) _).setCell (by simp) _).setCell (by simp) _).setCell (by simp) _).setCell (by simp) _).setCell (by simp) _).setCell (by simp) _).setCell (by simp) _).setCell (by simp) _).setCell (by simp) _⟩
set_option maxHeartbeats 4000000 in
set_option maxRecDepth 100000 in
theorem find_ok (seed : Int) (Ah : Option Addr) (chc : Nat) (Ak : Option Addr) (ckc : Nat) (chs : List T3) (cks : List Ck) (k : Int) (w : World) (hL : Lim w) (hwf : WfK cks) (w0 : World) (hB0 : Below w0.heap.size w0 w) (hW : WAt 51 w0 Ah Ak chs cks) (hE : errK chs cks k = 0) :
    Calls Tryd.prog 47 #[woV seed Ah chs.length chc Ak cks.length ckc, .int .i64 k] w fun e w' => ∃ (i : Nat) (hi : i < cks.length) (Ae : Option Addr) (ce : Nat), k = i ∧ e = .returned (.tuple #[wkV cks[i] Ae ce seed (.slice Ah chs.length chc) (.slice Ak cks.length ckc) k, .int .i64 0]) ∧ Kd.C k3 w0 Ae cks[i].es.length cks[i].es ∧ Below w.heap.size w w' := by
  have hlk : cks.length ≤ 9223372036854775807 := hW.k.2.1
  have u1 := wr ((cks.length : Int) - 1) (by omega) (by omega)
  have c1 := fun (W : World) (hB2 : Below w.heap.size w W) => Check_calls seed Ah chc Ak ckc chs cks W (hL.below hB2) (hW.below (hB0.trans (hB2.mono hB0.size))) hwf
  have c2 := fun w => inW_calls k 0 ((cks.length : Int) - 1) w
  obtain ⟨w1, hw1⟩ : ∃ w1, (w.alloc (.cells #[.int .u64 seed, .slice Ah chs.length chc, .slice Ak cks.length ckc] 32)).alloc (.cells #[.int .i64 0, .int .i64 0, .int .i64 0, .int .i64 0, .int .i64 0, .int .i64 0, .int .i64 0, .int .i64 0, .slice none 0 0, .int .u64 0, .slice none 0 0, .slice none 0 0, .int .i64 0] 97) = w1 := ⟨_, rfl⟩
  have hB : Below w.heap.size w w1 := by rw [← hw1]; exact ((Below.refl _ _).alloc (Nat.le_refl _) _).alloc (by simp) _
  have kb : w1.heap[w.heap.size]? = some (.cells #[.int .u64 seed, .slice Ah chs.length chc, .slice Ak cks.length ckc] 32 (0, 0)) := by rw [← hw1]; exact al_old (al_new _ _ _ rfl)
  have kr : w1.heap[w.heap.size + 1]? = some (.cells #[.int .i64 0, .int .i64 0, .int .i64 0, .int .i64 0, .int .i64 0, .int .i64 0, .int .i64 0, .int .i64 0, .slice none 0 0, .int .u64 0, .slice none 0 0, .slice none 0 0, .int .i64 0] 97 (0, 0)) := by rw [← hw1]; exact al_new _ _ _ (by simp)
  have HKB := Aside0.mk kb
  have HKR := Aside0.mk kr
  have HV := Aside0.mk hB
  have x0 : w1.cell? ⟨w.heap.size, 0, none⟩ = some (.int .u64 seed) := blk_cell kb 0
  have x1 : w1.cell? ⟨w.heap.size, 1, none⟩ = some (.slice Ah chs.length chc) := blk_cell kb 1
  have x2 : w1.cell? ⟨w.heap.size, 2, none⟩ = some (.slice Ak cks.length ckc) := blk_cell kb 2
  clear kb kr hB
  unfold errK woV at *
  have hc : checkW chs cks = 0 := by
    by_cases h : checkW chs cks = 0
    · exact h
    · rw [if_neg h] at hE; exact absurd hE h
  rw [if_pos hc] at hE
  have hk : inW k 0 ((cks.length : Int) - 1) = true := by
    cases h : inW k 0 ((cks.length : Int) - 1)
    · rw [h] at hE; simp at hE
    · rfl
  rw [hk] at c2
  rw [hc] at c1
  have hk2 := (inW_iff _ _ _).1 hk
  obtain ⟨i, rfl⟩ := Int.eq_ofNat_of_zero_le hk2.1
  have hi : i < cks.length := by omega
  have hi0 : (0 : Int) ≤ (i : Int) := by omega
  have hd : (i : Int) < (cks.length : Int) := by omega
  have HW := Aside0.mk hW
  have HB0 := Aside0.mk hB0
  clear hc hE hk hL hW hwf hk2 hB0
  go_enter Tryd.func47, Tryd.ntmps47
  go_wp2_with fail
  try rw [hw1]
  refine (c1 _ HV.out).mono ?_
  rintro en w2 ⟨rfl, hB⟩
  replace HKB := Aside0.mk (blk_on hB HKB.out)
  replace HKR := Aside0.mk (blk_on hB HKR.out)
  replace HV := Aside0.mk (HV.out.trans (hB.mono HV.out.size))
  clear hB c1 x0 x1 x2
  have x2 : w2.cell? ⟨w.heap.size, 2, none⟩ = some (.slice Ak cks.length ckc) := blk_cell HKB.out 2
  go_wp2_with fail
  refine (c2 _).mono ?_
  rintro en w3 ⟨rfl, hB⟩
  replace HKB := Aside0.mk (blk_on hB HKB.out)
  replace HKR := Aside0.mk (blk_on hB HKR.out)
  replace HV := Aside0.mk (HV.out.trans (hB.mono HV.out.size))
  clear hB c2 x2
  have x0 : w3.cell? ⟨w.heap.size, 0, none⟩ = some (.int .u64 seed) := blk_cell HKB.out 0
  have x1 : w3.cell? ⟨w.heap.size, 1, none⟩ = some (.slice Ah chs.length chc) := blk_cell HKB.out 1
  have x2 : w3.cell? ⟨w.heap.size, 2, none⟩ = some (.slice Ak cks.length ckc) := blk_cell HKB.out 2
  have z0 : w3.cell? ⟨w.heap.size + 1, 0, none⟩ = some (.int .i64 0) := blk_cell HKR.out 0
  have z1 : w3.cell? ⟨w.heap.size + 1, 1, none⟩ = some (.int .i64 0) := blk_cell HKR.out 1
  have z2 : w3.cell? ⟨w.heap.size + 1, 2, none⟩ = some (.int .i64 0) := blk_cell HKR.out 2
  have z3 : w3.cell? ⟨w.heap.size + 1, 3, none⟩ = some (.int .i64 0) := blk_cell HKR.out 3
  have z4 : w3.cell? ⟨w.heap.size + 1, 4, none⟩ = some (.int .i64 0) := blk_cell HKR.out 4
  have z5 : w3.cell? ⟨w.heap.size + 1, 5, none⟩ = some (.int .i64 0) := blk_cell HKR.out 5
  have z6 : w3.cell? ⟨w.heap.size + 1, 6, none⟩ = some (.int .i64 0) := blk_cell HKR.out 6
  have z7 : w3.cell? ⟨w.heap.size + 1, 7, none⟩ = some (.int .i64 0) := blk_cell HKR.out 7
  have z8 : w3.cell? ⟨w.heap.size + 1, 8, none⟩ = some (.slice none 0 0) := blk_cell HKR.out 8
  have z9 : w3.cell? ⟨w.heap.size + 1, 9, none⟩ = some (.int .u64 0) := blk_cell HKR.out 9
  have z10 : w3.cell? ⟨w.heap.size + 1, 10, none⟩ = some (.slice none 0 0) := blk_cell HKR.out 10
  have z11 : w3.cell? ⟨w.heap.size + 1, 11, none⟩ = some (.slice none 0 0) := blk_cell HKR.out 11
  have z12 : w3.cell? ⟨w.heap.size + 1, 12, none⟩ = some (.int .i64 0) := blk_cell HKR.out 12
  have q0 := blk_frozen HKR.out 0
  have q1 := blk_frozen HKR.out 1
  have q2 := blk_frozen HKR.out 2
  have q3 := blk_frozen HKR.out 3
  have q4 := blk_frozen HKR.out 4
  have q5 := blk_frozen HKR.out 5
  have q6 := blk_frozen HKR.out 6
  have q7 := blk_frozen HKR.out 7
  have q8 := blk_frozen HKR.out 8
  have q9 := blk_frozen HKR.out 9
  have q10 := blk_frozen HKR.out 10
  have q11 := blk_frozen HKR.out 11
  have q12 := blk_frozen HKR.out 12
  obtain ⟨ad, Ae, ce, rfl, k0, k1, k2, k3', k4, k5, k6, k7, k8, hle, hCe⟩ := C_ck HW.out.k i hi hi
  replace k0 := cell_on (HB0.out.trans (HV.out.mono HB0.out.size)) k0
  replace k1 := cell_on (HB0.out.trans (HV.out.mono HB0.out.size)) k1
  replace k2 := cell_on (HB0.out.trans (HV.out.mono HB0.out.size)) k2
  replace k3' := cell_on (HB0.out.trans (HV.out.mono HB0.out.size)) k3'
  replace k4 := cell_on (HB0.out.trans (HV.out.mono HB0.out.size)) k4
  replace k5 := cell_on (HB0.out.trans (HV.out.mono HB0.out.size)) k5
  replace k6 := cell_on (HB0.out.trans (HV.out.mono HB0.out.size)) k6
  replace k7 := cell_on (HB0.out.trans (HV.out.mono HB0.out.size)) k7
  replace k8 := cell_on (HB0.out.trans (HV.out.mono HB0.out.size)) k8
  have HFIN : Aside0 (∀ e w', e = Ending.returned (.tuple #[wkV cks[i] Ae ce seed (.slice Ah chs.length chc) (.slice (some ad) cks.length ckc) i, .int .i64 0]) → Kd.C k3 w0 Ae cks[i].es.length cks[i].es → Below w.heap.size w w' → ∃ (j : Nat) (hj : j < cks.length) (Ae : Option Addr) (ce : Nat), (i : Int) = j ∧ e = .returned (.tuple #[wkV cks[j] Ae ce seed (.slice Ah chs.length chc) (.slice (some ad) cks.length ckc) i, .int .i64 0]) ∧ Kd.C k3 w0 Ae cks[j].es.length cks[j].es ∧ Below w.heap.size w w') := ⟨fun e w' h1 h2 h3 => ⟨i, hi, Ae, ce, rfl, h1, h2, h3⟩⟩
  unfold wkV at HFIN
  generalize cks[i] = z at *
  obtain ⟨kd, ph, rt, dr, wh, wk, ht, ch, es⟩ := z
  simp only at k0 k1 k2 k3' k4 k5 k6 k7 k8 hCe HFIN
  have HCE := Aside0.mk hCe
  clear hCe hle
  go_wp2_with fail
  go_region
  all_goals
    go_wp2_with fail
    have fk0 : (w3.setCell ⟨w.heap.size + 1, 0, none⟩ (.int .i64 kd)).heap[w.heap.size + 1]? = some (.cells #[.int .i64 kd, .int .i64 0, .int .i64 0, .int .i64 0, .int .i64 0, .int .i64 0, .int .i64 0, .int .i64 0, .slice none 0 0, .int .u64 0, .slice none 0 0, .slice none 0 0, .int .i64 0] 97 (0, 0)) := blk_put HKR.out 0 _ rfl
    have fb0 := (HV.out).setCell (show w.heap.size ≤ w.heap.size + 1 from by omega) (p := ⟨w.heap.size + 1, 0, none⟩) (.int .i64 kd)
    have fk1 : ((w3.setCell ⟨w.heap.size + 1, 0, none⟩ (.int .i64 kd)).setCell ⟨w.heap.size + 1, 1, none⟩ (.int .i64 ph)).heap[w.heap.size + 1]? = some (.cells #[.int .i64 kd, .int .i64 ph, .int .i64 0, .int .i64 0, .int .i64 0, .int .i64 0, .int .i64 0, .int .i64 0, .slice none 0 0, .int .u64 0, .slice none 0 0, .slice none 0 0, .int .i64 0] 97 (0, 0)) := blk_put fk0 1 _ rfl
    have fb1 := (fb0).setCell (show w.heap.size ≤ w.heap.size + 1 from by omega) (p := ⟨w.heap.size + 1, 1, none⟩) (.int .i64 ph)
    clear fk0 fb0
    have fk2 : (((w3.setCell ⟨w.heap.size + 1, 0, none⟩ (.int .i64 kd)).setCell ⟨w.heap.size + 1, 1, none⟩ (.int .i64 ph)).setCell ⟨w.heap.size + 1, 2, none⟩ (.int .i64 rt)).heap[w.heap.size + 1]? = some (.cells #[.int .i64 kd, .int .i64 ph, .int .i64 rt, .int .i64 0, .int .i64 0, .int .i64 0, .int .i64 0, .int .i64 0, .slice none 0 0, .int .u64 0, .slice none 0 0, .slice none 0 0, .int .i64 0] 97 (0, 0)) := blk_put fk1 2 _ rfl
    have fb2 := (fb1).setCell (show w.heap.size ≤ w.heap.size + 1 from by omega) (p := ⟨w.heap.size + 1, 2, none⟩) (.int .i64 rt)
    clear fk1 fb1
    have fk3 : ((((w3.setCell ⟨w.heap.size + 1, 0, none⟩ (.int .i64 kd)).setCell ⟨w.heap.size + 1, 1, none⟩ (.int .i64 ph)).setCell ⟨w.heap.size + 1, 2, none⟩ (.int .i64 rt)).setCell ⟨w.heap.size + 1, 3, none⟩ (.int .i64 dr)).heap[w.heap.size + 1]? = some (.cells #[.int .i64 kd, .int .i64 ph, .int .i64 rt, .int .i64 dr, .int .i64 0, .int .i64 0, .int .i64 0, .int .i64 0, .slice none 0 0, .int .u64 0, .slice none 0 0, .slice none 0 0, .int .i64 0] 97 (0, 0)) := blk_put fk2 3 _ rfl
    have fb3 := (fb2).setCell (show w.heap.size ≤ w.heap.size + 1 from by omega) (p := ⟨w.heap.size + 1, 3, none⟩) (.int .i64 dr)
    clear fk2 fb2
    have fk4 : (((((w3.setCell ⟨w.heap.size + 1, 0, none⟩ (.int .i64 kd)).setCell ⟨w.heap.size + 1, 1, none⟩ (.int .i64 ph)).setCell ⟨w.heap.size + 1, 2, none⟩ (.int .i64 rt)).setCell ⟨w.heap.size + 1, 3, none⟩ (.int .i64 dr)).setCell ⟨w.heap.size + 1, 4, none⟩ (.int .i64 wh)).heap[w.heap.size + 1]? = some (.cells #[.int .i64 kd, .int .i64 ph, .int .i64 rt, .int .i64 dr, .int .i64 wh, .int .i64 0, .int .i64 0, .int .i64 0, .slice none 0 0, .int .u64 0, .slice none 0 0, .slice none 0 0, .int .i64 0] 97 (0, 0)) := blk_put fk3 4 _ rfl
    have fb4 := (fb3).setCell (show w.heap.size ≤ w.heap.size + 1 from by omega) (p := ⟨w.heap.size + 1, 4, none⟩) (.int .i64 wh)
    clear fk3 fb3
    have fk5 : ((((((w3.setCell ⟨w.heap.size + 1, 0, none⟩ (.int .i64 kd)).setCell ⟨w.heap.size + 1, 1, none⟩ (.int .i64 ph)).setCell ⟨w.heap.size + 1, 2, none⟩ (.int .i64 rt)).setCell ⟨w.heap.size + 1, 3, none⟩ (.int .i64 dr)).setCell ⟨w.heap.size + 1, 4, none⟩ (.int .i64 wh)).setCell ⟨w.heap.size + 1, 5, none⟩ (.int .i64 wk)).heap[w.heap.size + 1]? = some (.cells #[.int .i64 kd, .int .i64 ph, .int .i64 rt, .int .i64 dr, .int .i64 wh, .int .i64 wk, .int .i64 0, .int .i64 0, .slice none 0 0, .int .u64 0, .slice none 0 0, .slice none 0 0, .int .i64 0] 97 (0, 0)) := blk_put fk4 5 _ rfl
    have fb5 := (fb4).setCell (show w.heap.size ≤ w.heap.size + 1 from by omega) (p := ⟨w.heap.size + 1, 5, none⟩) (.int .i64 wk)
    clear fk4 fb4
    have fk6 : (((((((w3.setCell ⟨w.heap.size + 1, 0, none⟩ (.int .i64 kd)).setCell ⟨w.heap.size + 1, 1, none⟩ (.int .i64 ph)).setCell ⟨w.heap.size + 1, 2, none⟩ (.int .i64 rt)).setCell ⟨w.heap.size + 1, 3, none⟩ (.int .i64 dr)).setCell ⟨w.heap.size + 1, 4, none⟩ (.int .i64 wh)).setCell ⟨w.heap.size + 1, 5, none⟩ (.int .i64 wk)).setCell ⟨w.heap.size + 1, 6, none⟩ (.int .i64 ht)).heap[w.heap.size + 1]? = some (.cells #[.int .i64 kd, .int .i64 ph, .int .i64 rt, .int .i64 dr, .int .i64 wh, .int .i64 wk, .int .i64 ht, .int .i64 0, .slice none 0 0, .int .u64 0, .slice none 0 0, .slice none 0 0, .int .i64 0] 97 (0, 0)) := blk_put fk5 6 _ rfl
    have fb6 := (fb5).setCell (show w.heap.size ≤ w.heap.size + 1 from by omega) (p := ⟨w.heap.size + 1, 6, none⟩) (.int .i64 ht)
    clear fk5 fb5
    have fk7 : ((((((((w3.setCell ⟨w.heap.size + 1, 0, none⟩ (.int .i64 kd)).setCell ⟨w.heap.size + 1, 1, none⟩ (.int .i64 ph)).setCell ⟨w.heap.size + 1, 2, none⟩ (.int .i64 rt)).setCell ⟨w.heap.size + 1, 3, none⟩ (.int .i64 dr)).setCell ⟨w.heap.size + 1, 4, none⟩ (.int .i64 wh)).setCell ⟨w.heap.size + 1, 5, none⟩ (.int .i64 wk)).setCell ⟨w.heap.size + 1, 6, none⟩ (.int .i64 ht)).setCell ⟨w.heap.size + 1, 7, none⟩ (.int .i64 ch)).heap[w.heap.size + 1]? = some (.cells #[.int .i64 kd, .int .i64 ph, .int .i64 rt, .int .i64 dr, .int .i64 wh, .int .i64 wk, .int .i64 ht, .int .i64 ch, .slice none 0 0, .int .u64 0, .slice none 0 0, .slice none 0 0, .int .i64 0] 97 (0, 0)) := blk_put fk6 7 _ rfl
    have fb7 := (fb6).setCell (show w.heap.size ≤ w.heap.size + 1 from by omega) (p := ⟨w.heap.size + 1, 7, none⟩) (.int .i64 ch)
    clear fk6 fb6
    have fk8 : (((((((((w3.setCell ⟨w.heap.size + 1, 0, none⟩ (.int .i64 kd)).setCell ⟨w.heap.size + 1, 1, none⟩ (.int .i64 ph)).setCell ⟨w.heap.size + 1, 2, none⟩ (.int .i64 rt)).setCell ⟨w.heap.size + 1, 3, none⟩ (.int .i64 dr)).setCell ⟨w.heap.size + 1, 4, none⟩ (.int .i64 wh)).setCell ⟨w.heap.size + 1, 5, none⟩ (.int .i64 wk)).setCell ⟨w.heap.size + 1, 6, none⟩ (.int .i64 ht)).setCell ⟨w.heap.size + 1, 7, none⟩ (.int .i64 ch)).setCell ⟨w.heap.size + 1, 8, none⟩ (.slice Ae es.length ce)).heap[w.heap.size + 1]? = some (.cells #[.int .i64 kd, .int .i64 ph, .int .i64 rt, .int .i64 dr, .int .i64 wh, .int .i64 wk, .int .i64 ht, .int .i64 ch, .slice Ae es.length ce, .int .u64 0, .slice none 0 0, .slice none 0 0, .int .i64 0] 97 (0, 0)) := blk_put fk7 8 _ rfl
    have fb8 := (fb7).setCell (show w.heap.size ≤ w.heap.size + 1 from by omega) (p := ⟨w.heap.size + 1, 8, none⟩) (.slice Ae es.length ce)
    clear fk7 fb7
    have fk9 : ((((((((((w3.setCell ⟨w.heap.size + 1, 0, none⟩ (.int .i64 kd)).setCell ⟨w.heap.size + 1, 1, none⟩ (.int .i64 ph)).setCell ⟨w.heap.size + 1, 2, none⟩ (.int .i64 rt)).setCell ⟨w.heap.size + 1, 3, none⟩ (.int .i64 dr)).setCell ⟨w.heap.size + 1, 4, none⟩ (.int .i64 wh)).setCell ⟨w.heap.size + 1, 5, none⟩ (.int .i64 wk)).setCell ⟨w.heap.size + 1, 6, none⟩ (.int .i64 ht)).setCell ⟨w.heap.size + 1, 7, none⟩ (.int .i64 ch)).setCell ⟨w.heap.size + 1, 8, none⟩ (.slice Ae es.length ce)).setCell ⟨w.heap.size + 1, 9, none⟩ (.int .u64 seed)).heap[w.heap.size + 1]? = some (.cells #[.int .i64 kd, .int .i64 ph, .int .i64 rt, .int .i64 dr, .int .i64 wh, .int .i64 wk, .int .i64 ht, .int .i64 ch, .slice Ae es.length ce, .int .u64 seed, .slice none 0 0, .slice none 0 0, .int .i64 0] 97 (0, 0)) := blk_put fk8 9 _ rfl
    have fb9 := (fb8).setCell (show w.heap.size ≤ w.heap.size + 1 from by omega) (p := ⟨w.heap.size + 1, 9, none⟩) (.int .u64 seed)
    clear fk8 fb8
    have fk10 : (((((((((((w3.setCell ⟨w.heap.size + 1, 0, none⟩ (.int .i64 kd)).setCell ⟨w.heap.size + 1, 1, none⟩ (.int .i64 ph)).setCell ⟨w.heap.size + 1, 2, none⟩ (.int .i64 rt)).setCell ⟨w.heap.size + 1, 3, none⟩ (.int .i64 dr)).setCell ⟨w.heap.size + 1, 4, none⟩ (.int .i64 wh)).setCell ⟨w.heap.size + 1, 5, none⟩ (.int .i64 wk)).setCell ⟨w.heap.size + 1, 6, none⟩ (.int .i64 ht)).setCell ⟨w.heap.size + 1, 7, none⟩ (.int .i64 ch)).setCell ⟨w.heap.size + 1, 8, none⟩ (.slice Ae es.length ce)).setCell ⟨w.heap.size + 1, 9, none⟩ (.int .u64 seed)).setCell ⟨w.heap.size + 1, 10, none⟩ (.slice Ah chs.length chc)).heap[w.heap.size + 1]? = some (.cells #[.int .i64 kd, .int .i64 ph, .int .i64 rt, .int .i64 dr, .int .i64 wh, .int .i64 wk, .int .i64 ht, .int .i64 ch, .slice Ae es.length ce, .int .u64 seed, .slice Ah chs.length chc, .slice none 0 0, .int .i64 0] 97 (0, 0)) := blk_put fk9 10 _ rfl
    have fb10 := (fb9).setCell (show w.heap.size ≤ w.heap.size + 1 from by omega) (p := ⟨w.heap.size + 1, 10, none⟩) (.slice Ah chs.length chc)
    clear fk9 fb9
    have fk11 : ((((((((((((w3.setCell ⟨w.heap.size + 1, 0, none⟩ (.int .i64 kd)).setCell ⟨w.heap.size + 1, 1, none⟩ (.int .i64 ph)).setCell ⟨w.heap.size + 1, 2, none⟩ (.int .i64 rt)).setCell ⟨w.heap.size + 1, 3, none⟩ (.int .i64 dr)).setCell ⟨w.heap.size + 1, 4, none⟩ (.int .i64 wh)).setCell ⟨w.heap.size + 1, 5, none⟩ (.int .i64 wk)).setCell ⟨w.heap.size + 1, 6, none⟩ (.int .i64 ht)).setCell ⟨w.heap.size + 1, 7, none⟩ (.int .i64 ch)).setCell ⟨w.heap.size + 1, 8, none⟩ (.slice Ae es.length ce)).setCell ⟨w.heap.size + 1, 9, none⟩ (.int .u64 seed)).setCell ⟨w.heap.size + 1, 10, none⟩ (.slice Ah chs.length chc)).setCell ⟨w.heap.size + 1, 11, none⟩ (.slice (some ad) cks.length ckc)).heap[w.heap.size + 1]? = some (.cells #[.int .i64 kd, .int .i64 ph, .int .i64 rt, .int .i64 dr, .int .i64 wh, .int .i64 wk, .int .i64 ht, .int .i64 ch, .slice Ae es.length ce, .int .u64 seed, .slice Ah chs.length chc, .slice (some ad) cks.length ckc, .int .i64 0] 97 (0, 0)) := blk_put fk10 11 _ rfl
    have fb11 := (fb10).setCell (show w.heap.size ≤ w.heap.size + 1 from by omega) (p := ⟨w.heap.size + 1, 11, none⟩) (.slice (some ad) cks.length ckc)
    clear fk10 fb10
    have fk12 : (((((((((((((w3.setCell ⟨w.heap.size + 1, 0, none⟩ (.int .i64 kd)).setCell ⟨w.heap.size + 1, 1, none⟩ (.int .i64 ph)).setCell ⟨w.heap.size + 1, 2, none⟩ (.int .i64 rt)).setCell ⟨w.heap.size + 1, 3, none⟩ (.int .i64 dr)).setCell ⟨w.heap.size + 1, 4, none⟩ (.int .i64 wh)).setCell ⟨w.heap.size + 1, 5, none⟩ (.int .i64 wk)).setCell ⟨w.heap.size + 1, 6, none⟩ (.int .i64 ht)).setCell ⟨w.heap.size + 1, 7, none⟩ (.int .i64 ch)).setCell ⟨w.heap.size + 1, 8, none⟩ (.slice Ae es.length ce)).setCell ⟨w.heap.size + 1, 9, none⟩ (.int .u64 seed)).setCell ⟨w.heap.size + 1, 10, none⟩ (.slice Ah chs.length chc)).setCell ⟨w.heap.size + 1, 11, none⟩ (.slice (some ad) cks.length ckc)).setCell ⟨w.heap.size + 1, 12, none⟩ (.int .i64 (i : Int))).heap[w.heap.size + 1]? = some (.cells #[.int .i64 kd, .int .i64 ph, .int .i64 rt, .int .i64 dr, .int .i64 wh, .int .i64 wk, .int .i64 ht, .int .i64 ch, .slice Ae es.length ce, .int .u64 seed, .slice Ah chs.length chc, .slice (some ad) cks.length ckc, .int .i64 (i : Int)] 97 (0, 0)) := blk_put fk11 12 _ rfl
    have fb12 := (fb11).setCell (show w.heap.size ≤ w.heap.size + 1 from by omega) (p := ⟨w.heap.size + 1, 12, none⟩) (.int .i64 (i : Int))
    clear fk11 fb11
    refine bodyPost_ret (results_row_tmp rfl _ _ (w.heap.size + 1) 97 _ (0, 0) _ rfl (dr_heap fk12) Tryd.underlying97 rfl info97) rfl ?_
    exact HFIN.out _ _ rfl HCE.out fb12.drew
end Go.Proofs.YtlfnnalepdjagaaDoor.C
