/- The contract of walked, by hand. -/
import Derived.OwnWalk
import Derived.RangeFuncBox
import Derived.RangeFuncLeaves
import Derived.RangeFuncNested
import Derived.RangeFuncBound
import Derived.RangeFuncCalls
import Derived.Shelf.Abstract
import Derived.Shelf.AbstractIn
import Derived.WalkKit
import Derived.OwnWalkIn
import Derived.TacticsInMore
import Derived.LoopNIn
import Derived.LoopIn
import Derived.Maps.AppendAt
import Derived.Sort.CutIn
import Derived.Deep.RegionHeld3
import Derived.Test.YtlfnnalepdjagaaDoorAk
namespace Go.Proofs.YtlfnnalepdjagaaDoor.C
open Go.RowKit Go.Shelf Go.Maps Go.Proofs.YtlfnnalepdjagaaDoorW.PrintWords Go.Proofs.YtlfnnalepdjagaaDoorW.PrintLast Go.Proofs.YtlfnnalepdjagaaDoorW.PrintMore
set_option linter.unusedVariables false
set_option linter.unusedSimpArgs false
attribute [local go_sem] Oper.semAt_some
/-- What stands in blocks of cells abides what a range's book-keeping does. -/
theorem blk_own {β : Type} (B : Nat) (g : β → Nat) (c : β → Array Value) (t : TypeId) (fr : Nat × Nat) : OwnFrom B (fun s W => W.heap[g s]? = some (.cells (c s) t fr)) :=
  fun _ _ _ _ h hg hr => (grownBy_keeps_cells hg (fun r e => (hr r e).2) h rfl).trans h
/-- The sum, as it is reckoned. -/
def wsumW (l : List Int) : Int := l.foldl (fun n d => IntKind.i64.wrap (n + d)) 0
theorem wsumW_snoc (l : List Int) (x : Int) : wsumW (l ++ [x]) = IntKind.i64.wrap (wsumW l + x) := by unfold wsumW; rw [List.foldl_append]; rfl
def walkedF (seed k wk fr to_ : Int) : Int := (stepsT seed k wk (fr / 100 + 1) (stepsN fr to_)).foldl (· + ·) 0
theorem stepsT_b (seed k wk : Int) (h : 0 ≤ wk) : ∀ (n : Nat) (a : Int), ∀ x ∈ stepsT seed k wk a n, -wk ≤ x ∧ x ≤ wk
  | 0, a, x, hx => by cases hx
  | n + 1, a, x, hx => by
    rcases List.mem_cons.1 hx with rfl | hx
    · exact drawF_range _ _ _ _ _ h
    · exact stepsT_b seed k wk h n _ x hx
theorem stepsT_len (seed k wk : Int) : ∀ (n : Nat) (a : Int), (stepsT seed k wk a n).length = n
  | 0, a => rfl
  | n + 1, a => by rw [stepsT, List.length_cons, stepsT_len]
theorem fold_b (M : Int) (hM : 0 ≤ M) : ∀ (l : List Int) (n : Int), (∀ x ∈ l, -M ≤ x ∧ x ≤ M) → -(M * l.length) ≤ l.foldl (· + ·) n - n ∧ l.foldl (· + ·) n - n ≤ M * l.length
  | [], n, _ => by simp
  | x :: l, n, h => by
    have h1 := fold_b M hM l (n + x) (fun y hy => h y (List.mem_cons_of_mem _ hy))
    have h2 := h x List.mem_cons_self
    rw [List.foldl_cons, List.length_cons]
    have e : M * ((l.length + 1 : Nat) : Int) = M * (l.length : Int) + M := by push_cast; rw [Int.mul_add]; omega
    rw [e]
    omega
theorem foldW (M : Int) (hM : 0 ≤ M) : ∀ (l : List Int) (n : Int) (B : Int), (∀ x ∈ l, -M ≤ x ∧ x ≤ M) → -B ≤ n → n ≤ B → B + M * l.length ≤ 9000000000000000000 → l.foldl (fun n d => IntKind.i64.wrap (n + d)) n = l.foldl (· + ·) n
  | [], n, B, _, _, _, _ => rfl
  | x :: l, n, B, h, h1, h2, h3 => by
    have hx := h x List.mem_cons_self
    have e : M * ((l.length + 1 : Nat) : Int) = M * (l.length : Int) + M := by push_cast; rw [Int.mul_add]; omega
    rw [List.length_cons, e] at h3
    have h4 : 0 ≤ M * (l.length : Int) := Int.mul_nonneg hM (by omega)
    rw [List.foldl_cons, List.foldl_cons, C.wr (n + x) (by omega) (by omega)]
    exact foldW M hM l (n + x) (B + M) (fun y hy => h y (List.mem_cons_of_mem _ hy)) (by omega) (by omega) (by omega)
theorem stepsN_b {fr to_ : Int} (hf : 0 ≤ fr) (ht : to_ ≤ 1000000) : stepsN fr to_ ≤ 10000 := by unfold stepsN; omega
theorem walked_eq {seed k wk fr to_ : Int} (hwk : 0 ≤ wk ∧ wk ≤ 100000000000000) (hf : 0 ≤ fr) (ht : to_ ≤ 1000000) : wsumW (stepsT seed k wk (fr / 100 + 1) (stepsN fr to_)) = walkedF seed k wk fr to_ := by
  unfold wsumW walkedF
  have hN := stepsN_b hf ht
  refine foldW wk hwk.1 _ 0 0 (stepsT_b seed k wk hwk.1 _ _) (by omega) (by omega) ?_
  rw [stepsT_len]
  have : wk * (stepsN fr to_ : Int) ≤ 100000000000000 * 10000 := Int.mul_le_mul hwk.2 (by omega) (by omega) (by omega)
  omega
theorem walkedF_b {seed k wk fr to_ : Int} (hwk : 0 ≤ wk) : -(wk * (stepsN fr to_ : Int)) ≤ walkedF seed k wk fr to_ ∧ walkedF seed k wk fr to_ ≤ wk * (stepsN fr to_ : Int) := by
  have := fold_b wk hwk (stepsT seed k wk (fr / 100 + 1) (stepsN fr to_)) 0 (stepsT_b seed k wk hwk _ _)
  rw [stepsT_len] at this
  unfold walkedF
  omega
set_option maxHeartbeats 4000000 in
set_option maxRecDepth 100000 in
theorem walked_calls (kd ph rt dr wh wk ht ch : Int) (ve : Value) (seed : Int) (vh vk : Value) (k fr to_ : Int) (w : World) (hfr : 0 ≤ fr ∧ fr ≤ 1000000) (hto : 0 ≤ to_ ∧ to_ ≤ 1000000) (hk : 0 ≤ k ∧ k ≤ 1000000000000000) (hwk : 0 ≤ wk ∧ wk ≤ 100000000000000) :
    Calls Tryd.prog 52 #[.agg #[.int .i64 kd, .int .i64 ph, .int .i64 rt, .int .i64 dr, .int .i64 wh, .int .i64 wk, .int .i64 ht, .int .i64 ch, ve, .int .u64 seed, vh, vk, .int .i64 k], .int .i64 fr, .int .i64 to_] w fun e w' => e = .returned (.int .i64 (walkedF seed k wk fr to_)) ∧ Below w.heap.size w w' := by
  refine (callsIn_wide (n := 9)).1 ?_
  have hWE := walked_eq (seed := seed) (k := k) hwk hfr.1 hto.2
  obtain ⟨L, hL⟩ : ∃ L, stepsT seed k wk (fr / 100 + 1) (stepsN fr to_) = L := ⟨_, rfl⟩
  rw [hL] at hWE
  rw [← hWE]
  have HL := Aside0.mk hL
  clear hL hWE
  refine callsIn_of_wp_marks Tryd.func52 rfl trivial ?_ rfl
  simp only [Tryd.ntmps52, List.size_toArray, List.length_cons, List.length_nil, Nat.reduceAdd, Nat.reduceSub, Array.replicate_succ, Array.replicate_zero, List.push_toArray, List.append_toArray, List.nil_append, List.cons_append]
  gi_upto_region 2 with fail
  obtain ⟨w1, hw1⟩ : ∃ w1, (w.alloc (.cells #[.int .i64 kd, .int .i64 ph, .int .i64 rt, .int .i64 dr, .int .i64 wh, .int .i64 wk, .int .i64 ht, .int .i64 ch, ve, .int .u64 seed, vh, vk, .int .i64 k] 97)).alloc (.cells #[.int .i64 0] 3) = w1 := ⟨_, rfl⟩
  rw [hw1]
  have k3' : w1.heap[w.heap.size]? = some (.cells #[.int .i64 kd, .int .i64 ph, .int .i64 rt, .int .i64 dr, .int .i64 wh, .int .i64 wk, .int .i64 ht, .int .i64 ch, ve, .int .u64 seed, vh, vk, .int .i64 k] 97 (0, 0)) := by rw [← hw1]; exact al_old (al_new _ _ _ rfl)
  have x0 : w1.cell? ⟨w.heap.size, 0, none⟩ = some (.int .i64 kd) := blk_cell k3' 0
  have x1 : w1.cell? ⟨w.heap.size, 1, none⟩ = some (.int .i64 ph) := blk_cell k3' 1
  have x2 : w1.cell? ⟨w.heap.size, 2, none⟩ = some (.int .i64 rt) := blk_cell k3' 2
  have x3 : w1.cell? ⟨w.heap.size, 3, none⟩ = some (.int .i64 dr) := blk_cell k3' 3
  have x4 : w1.cell? ⟨w.heap.size, 4, none⟩ = some (.int .i64 wh) := blk_cell k3' 4
  have x5 : w1.cell? ⟨w.heap.size, 5, none⟩ = some (.int .i64 wk) := blk_cell k3' 5
  have x6 : w1.cell? ⟨w.heap.size, 6, none⟩ = some (.int .i64 ht) := blk_cell k3' 6
  have x7 : w1.cell? ⟨w.heap.size, 7, none⟩ = some (.int .i64 ch) := blk_cell k3' 7
  have x8 : w1.cell? ⟨w.heap.size, 8, none⟩ = some (ve) := blk_cell k3' 8
  have x9 : w1.cell? ⟨w.heap.size, 9, none⟩ = some (.int .u64 seed) := blk_cell k3' 9
  have x10 : w1.cell? ⟨w.heap.size, 10, none⟩ = some (vh) := blk_cell k3' 10
  have x11 : w1.cell? ⟨w.heap.size, 11, none⟩ = some (vk) := blk_cell k3' 11
  have x12 : w1.cell? ⟨w.heap.size, 12, none⟩ = some (.int .i64 k) := blk_cell k3' 12
  have hs1 : w1.heap.size = w.heap.size + 2 := by rw [← hw1]; simp
  have k7 : w1.heap[w.heap.size + 1]? = some (.cells #[.int .i64 0] 3 (0, 0)) := by rw [← hw1]; exact al_new _ _ _ (by simp)
  have hB1 : Below w.heap.size w w1 := by rw [← hw1]; exact ((Below.refl _ _).alloc (Nat.le_refl _) _).alloc (by simp) _
  clear hw1
  have a78 : ∀ W, CallsIn Fence.wide (9 - 1) Tryd.prog 78 #[.agg #[.int .i64 kd, .int .i64 ph, .int .i64 rt, .int .i64 dr, .int .i64 wh, .int .i64 wk, .int .i64 ht, .int .i64 ch, ve, .int .u64 seed, vh, vk, .int .i64 k], .int .i64 fr, .int .i64 to_] W _ := fun W => callsIn_wide.2 (steps_calls kd ph rt dr wh wk ht ch ve seed vh vk k fr to_ W)
  have f78 : Fence.wide.fn 78 := trivial
  gi_wp2_with (gi_at_call 78; refine (a78 _).mono ?_; rintro e w' ⟨rfl, rfl⟩)
  clear a78 f78
  obtain ⟨W0, hW0⟩ : ∃ W0, ((w1.alloc (.cells #[.int .i64 kd, .int .i64 ph, .int .i64 rt, .int .i64 dr, .int .i64 wh, .int .i64 wk, .int .i64 ht, .int .i64 ch, ve, .int .u64 seed, vh, vk, .int .i64 k] 97)).alloc (.cells #[.int .i64 fr] 3)).alloc (.cells #[.int .i64 to_] 3) = W0 := ⟨_, rfl⟩
  rw [hW0]
  have hsz : W0.heap.size = w.heap.size + 5 := by rw [← hW0]; simp [hs1]
  have q7 : W0.heap[w.heap.size + 1]? = some (.cells #[.int .i64 0] 3 (0, 0)) := by rw [← hW0]; exact al_old (al_old (al_old k7))
  have q0 : W0.heap[w.heap.size + 2]? = some (.cells #[.int .i64 kd, .int .i64 ph, .int .i64 rt, .int .i64 dr, .int .i64 wh, .int .i64 wk, .int .i64 ht, .int .i64 ch, ve, .int .u64 seed, vh, vk, .int .i64 k] 97 (0, 0)) := by rw [← hW0]; exact al_old (al_old (al_new _ _ _ hs1.symm))
  have q1 : W0.heap[w.heap.size + 3]? = some (.cells #[.int .i64 fr] 3 (0, 0)) := by rw [← hW0]; exact al_old (al_new _ _ _ (by simp [hs1]))
  have q2 : W0.heap[w.heap.size + 4]? = some (.cells #[.int .i64 to_] 3 (0, 0)) := by rw [← hW0]; exact al_new _ _ _ (by simp [hs1])
  have hB0 : Below w.heap.size w W0 := by
    rw [← hW0]
    repeat (refine Below.alloc ?_ (by simp [hs1]; try omega) _)
    exact hB1
  clear hW0 x0 x1 x2 x3 x4 x5 x6 x7 x8 x9 x10 x11 x12 k3' k7 hB1
  simp only [hs1, Nat.add_assoc, Nat.reduceAdd]
  refine wpIn_rangeFunc_ownH rfl (by decide) (gf := 86) (lb := #[.pointer (some ⟨w.heap.size + 3, 0, none⟩), .pointer (some ⟨w.heap.size + 4, 0, none⟩), .pointer (some ⟨w.heap.size + 2, 0, none⟩)]) rfl trivial (enters_of Tryd.func86 (by kernel_rfl) rfl)
    (steps_stops (9 - 1) (by decide) kd ph rt dr wh wk ht ch ve seed vh vk k fr to_ _ _ _ W0 q0 q1 q2 hfr hto hk hwk) SameAt.t (SameAt.b (by simp; omega)) (Below.refl _ _) (fun _ => rfl)
    (fun pre W => W.heap[w.heap.size + 1]? = some (.cells #[.int .i64 (wsumW pre)] 3 (0, 0)) ∧ Below w.heap.size w W)
    (fun c pre W => False)
    (OwnFrom.and (blk_own _ (fun _ => _) (fun _ => _) _ _) (ownFrom_below (Nat.le_refl _) (by omega)))
    (fun c => ownFrom_pure _ _)
    ⟨q7, hB0⟩
    (fun x a' W => a' = { tmps := #[.agg #[.int .i64 kd, .int .i64 ph, .int .i64 rt, .int .i64 dr, .int .i64 wh, .int .i64 wk, .int .i64 ht, .int .i64 ch, ve, .int .u64 seed, vh, vk, .int .i64 k], .int .i64 fr, .int .i64 to_, .pointer (some ⟨w.heap.size, 0, none⟩), undef, undef, .int .i64 0, .pointer (some ⟨w.heap.size + 1, 0, none⟩), .int .i64 x, .agg #[.int .i64 kd, .int .i64 ph, .int .i64 rt, .int .i64 dr, .int .i64 wh, .int .i64 wk, .int .i64 ht, .int .i64 ch, ve, .int .u64 seed, vh, vk, .int .i64 k], .int .i64 fr, .int .i64 to_, .func (.func 86) #[] #[.pointer (some ⟨w.heap.size + 3, 0, none⟩), .pointer (some ⟨w.heap.size + 4, 0, none⟩), .pointer (some ⟨w.heap.size + 2, 0, none⟩)], .int .i64 x, undef, undef, undef, undef], defers := [] })
    (fun x a' => ownFrom_pure _ _)
    ?assign ?body ?done ?stop
  case assign =>
    rintro l pre x W K hI hK
    gi_wp2
    exact hK _ _ ((KeepsOthers.refl _).from _) (fun b hb => rfl) hI rfl
  case body =>
    rintro l pre x a' W hl ⟨r', hr'⟩ ⟨hI, hB⟩ rfl hlt
    have c7 : W.cell? ⟨w.heap.size + 1, 0, none⟩ = some (.int .i64 (wsumW pre)) := blk_cell hI 0
    have c7f : W.frozen? ⟨w.heap.size + 1, 0, none⟩ = false := blk_frozen hI 0
    clear hr' hlt q7 q0 q1 q2 hB0
    gi_wp2
    exact ⟨(KeepsOthers.setCell _ _ _).from _, fun b hb => Below.heap_setCell _ _ _ _ (by simp at hb; simp; omega), by rw [wsumW_snoc]; exact blk_put hI 0 _ (by simp [IntKind.wrap_i64, wrap64]), hB.setCell (by simp) _⟩
  case done =>
    clear q7 q0 q1 q2
    rintro D ys W hD hS ⟨hI, hB⟩ hK
    rw [hS.trans HL.out] at hI
    clear hS HL
    have c7 : W.cell? ⟨w.heap.size + 1, 0, none⟩ = some (.int .i64 (wsumW L)) := blk_cell hI 0
    gi_wp2
    refine ⟨by simp, .inl ⟨_, _, rfl, run_takeDeferred hK, ?_⟩⟩
    refine ⟨_, results_tmp rfl _ _ _, rfl, ?_⟩
    exact hB.trans (belowK_b (Nat.le_refl _) _ D _ _ (by omega) hK rfl rfl)
  case stop =>
    rintro D c pre W hD _ hF
    exact hF.elim
end Go.Proofs.YtlfnnalepdjagaaDoor.C
