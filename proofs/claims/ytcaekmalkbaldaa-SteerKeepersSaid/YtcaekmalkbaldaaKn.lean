/- NewKeeper, by hand. -/
import Derived.Test.YtcaekmalkbaldaaPm
import Derived.Deep.Cut
import Derived.Deep.RegionLaw
namespace Go.Proofs.Ytcaekmalkbaldaa.M
open Go.RowKit Go.Shelf Go.Proofs.YtcaekmalkbaldaaW.PrintWords Go.Proofs.YtcaekmalkbaldaaW.PrintLast Go.Proofs.YtcaekmalkbaldaaW.PrintMore
set_option linter.unusedVariables false
set_option linter.unusedSimpArgs false
attribute [local go_sem] Oper.semAt_some
theorem below_set2 {n : Nat} {A B : World} (h : Below n A B) (p : Addr) (v : Value) : Below n (A.setCell p v) (B.setCell p v) :=
  ⟨h.os, h.tape, h.output, by simp only [World.setCell, Array.size_modify]; exact h.size, fun k hk => by simp only [World.setCell, Array.getElem?_modify, h.block k hk]⟩
/-- A function's two results, variables of a pointer's type and of the type of errors. -/
theorem res_keeper {fn : Func} {p q : Tmp} (h : fn.results = #[.cell p 62, .cell q 26]) (tmps : Array Value) (w : World) (g g' : Nat) (v : Option Addr) (b : Int)
    (hp : tmps.getD p undef = .pointer (some ⟨g, 0, none⟩)) (hq : tmps.getD q undef = .pointer (some ⟨g', 0, none⟩)) (hc : w.cell? ⟨g, 0, none⟩ = some (.pointer v)) (hd : w.cell? ⟨g', 0, none⟩ = some (.int .i64 b)) : (results fn tmps).run Try.prog w = .ok (.tuple #[.pointer v, .int .i64 b]) w := by
  have hp' : tmps[p]?.getD undef = .pointer (some ⟨g, 0, none⟩) := by simpa using hp
  have hq' : tmps[q]?.getD undef = .pointer (some ⟨g', 0, none⟩) := by simpa using hq
  have hu := Try.underlying26
  have hu2 := Try.underlying62
  have hl : (loadVar 26 ⟨g', 0, none⟩).run Try.prog w = .ok (.int .i64 b) w := by go_simp
  have hl2 : (loadVar 62 ⟨g, 0, none⟩).run Try.prog w = .ok (.pointer v) w := by go_simp
  simp [results, h, hp', hq', asAddr, hl, hl2]
theorem blk_on {W W' : World} {k : Nat} {o : Obj} (hB : Below W.heap.size W W') (h : W.heap[k]? = some o) : W'.heap[k]? = some o := (hB.block k (Array.getElem?_eq_some_iff.1 h).1).trans h
theorem blk_fr {w : World} {b : Nat} {vs : Array Value} {t : TypeId} (h : w.heap[b]? = some (.cells vs t (0, 0))) (j : Nat) : w.frozen? ⟨b, j, none⟩ = false := by simp [World.frozen?, h]
theorem nk_blocks (L R S N r : Int) (w : World) :
    ((((w.alloc (.cells #[.int .i64 L, .int .i64 R, .int .i64 S, .int .i64 N] 24)).alloc (.cells #[.int .i64 r] 3)).alloc (.cells #[.pointer none] 62)).alloc (.cells #[.int .i64 0] 26)).heap[w.heap.size]? = some (.cells #[.int .i64 L, .int .i64 R, .int .i64 S, .int .i64 N] 24 (0, 0)) ∧
    ((((w.alloc (.cells #[.int .i64 L, .int .i64 R, .int .i64 S, .int .i64 N] 24)).alloc (.cells #[.int .i64 r] 3)).alloc (.cells #[.pointer none] 62)).alloc (.cells #[.int .i64 0] 26)).heap[w.heap.size + 1]? = some (.cells #[.int .i64 r] 3 (0, 0)) ∧
    ((((w.alloc (.cells #[.int .i64 L, .int .i64 R, .int .i64 S, .int .i64 N] 24)).alloc (.cells #[.int .i64 r] 3)).alloc (.cells #[.pointer none] 62)).alloc (.cells #[.int .i64 0] 26)).heap[w.heap.size + 1 + 1]? = some (.cells #[.pointer none] 62 (0, 0)) ∧
    ((((w.alloc (.cells #[.int .i64 L, .int .i64 R, .int .i64 S, .int .i64 N] 24)).alloc (.cells #[.int .i64 r] 3)).alloc (.cells #[.pointer none] 62)).alloc (.cells #[.int .i64 0] 26)).heap[w.heap.size + 1 + 1 + 1]? = some (.cells #[.int .i64 0] 26 (0, 0)) :=
  ⟨al_old (al_old (al_old (al_new _ _ _ rfl))), al_old (al_old (al_new _ _ _ (by simp))), al_old (al_new _ _ _ (by simp)), al_new _ _ _ (by simp)⟩
theorem nk_out2 {w W : World} (v : Value) (e : Int) (k2 : W.heap[w.heap.size + 1 + 1]? = some (.cells #[.pointer none] 62 (0, 0))) (k3 : W.heap[w.heap.size + 1 + 1 + 1]? = some (.cells #[.int .i64 0] 26 (0, 0))) :
    ((W.setCell ⟨w.heap.size + 1 + 1, 0, none⟩ v).setCell ⟨w.heap.size + 1 + 1 + 1, 0, none⟩ (.int .i64 e)).heap[w.heap.size + 1 + 1]? = some (.cells #[v] 62 (0, 0)) ∧
    ((W.setCell ⟨w.heap.size + 1 + 1, 0, none⟩ v).setCell ⟨w.heap.size + 1 + 1 + 1, 0, none⟩ (.int .i64 e)).heap[w.heap.size + 1 + 1 + 1]? = some (.cells #[.int .i64 e] 26 (0, 0)) := by
  have h2 : (W.setCell ⟨w.heap.size + 1 + 1, 0, none⟩ v).heap[w.heap.size + 1 + 1]? = some (.cells #[v] 62 (0, 0)) := Boxed.set _ k2
  have h3 : (W.setCell ⟨w.heap.size + 1 + 1, 0, none⟩ v).heap[w.heap.size + 1 + 1 + 1]? = some (.cells #[.int .i64 0] 26 (0, 0)) := (Below.heap_setCell _ _ _ _ (by simp)).trans k3
  exact ⟨(Below.heap_setCell _ _ _ _ (by simp)).trans h2, Boxed.set _ h3⟩
/-- The way out with no keeper. -/
theorem nk_out {w W : World} (e : Int) (hB : Below w.heap.size w W) (k2 : W.heap[w.heap.size + 1 + 1]? = some (.cells #[.pointer none] 62 (0, 0))) (k3 : W.heap[w.heap.size + 1 + 1 + 1]? = some (.cells #[.int .i64 0] 26 (0, 0))) :
    ((W.setCell ⟨w.heap.size + 1 + 1, 0, none⟩ (.pointer none)).setCell ⟨w.heap.size + 1 + 1 + 1, 0, none⟩ (.int .i64 e)).cell? ⟨w.heap.size + 1 + 1, 0, none⟩ = some (.pointer none) ∧
    ((W.setCell ⟨w.heap.size + 1 + 1, 0, none⟩ (.pointer none)).setCell ⟨w.heap.size + 1 + 1 + 1, 0, none⟩ (.int .i64 e)).cell? ⟨w.heap.size + 1 + 1 + 1, 0, none⟩ = some (.int .i64 e) ∧
    Below w.heap.size w ((W.setCell ⟨w.heap.size + 1 + 1, 0, none⟩ (.pointer none)).setCell ⟨w.heap.size + 1 + 1 + 1, 0, none⟩ (.int .i64 e)) := by
  have h2 : (W.setCell ⟨w.heap.size + 1 + 1, 0, none⟩ (.pointer none)).heap[w.heap.size + 1 + 1]? = some (.cells #[.pointer none] 62 (0, 0)) := Boxed.set _ k2
  have h3 : (W.setCell ⟨w.heap.size + 1 + 1, 0, none⟩ (.pointer none)).heap[w.heap.size + 1 + 1 + 1]? = some (.cells #[.int .i64 0] 26 (0, 0)) := (Below.heap_setCell _ _ _ _ (by simp)).trans k3
  refine ⟨?_, ?_, (hB.setCell (by simp; omega) _).setCell (by simp; omega) _⟩
  · exact blk_cell ((Below.heap_setCell _ _ _ _ (by simp)).trans h2) 0
  · exact Boxed.cell (t := 26) (Boxed.set _ h3)
set_option maxRecDepth 100000 in
set_option maxHeartbeats 8000000 in
theorem newKeeper_bad (L R S N u r : Int) (w : World) (hp : rightB L R S N = false) :
    Calls Try.prog 30 #[.agg #[.int .i64 L, .int .i64 R, .int .i64 S, .int .i64 N], .int .i64 u, .int .i64 r] w fun e w' => e = .returned (.tuple #[.pointer none, .int .i64 60]) ∧ Below w.heap.size w w' := by
  have hu24 := Try.underlying24
  have hu62 := Try.underlying62
  have hu26 := Try.underlying26
  have hu80 := Try.underlying80
  have hu59 := Try.underlying59
  have ck : ∀ W', CallsIn Fence.wide (9 - 1) Try.prog 11 #[.agg #[.int .i64 L, .int .i64 R, .int .i64 S, .int .i64 N]] W' _ := fun W' => callsIn_wide.2 (steer_Check.calls L R S N _ W' (check_f L R S N))
  have f11 : Fence.wide.fn 11 := trivial
  simp only [hp, Bool.false_eq_true, if_false] at ck
  refine (callsIn_wide (n := 9)).1 ?_
  refine callsIn_of_wp_marks Try.func30 rfl trivial ?_ rfl
  simp only [Try.ntmps30, List.size_toArray, List.length_cons, List.length_nil, Nat.reduceAdd, Nat.reduceSub, Array.replicate_succ, Array.replicate_zero, List.push_toArray, List.append_toArray, List.nil_append, List.cons_append]
  gi_wp2_with fail
  have hB0 : Below w.heap.size w ((((w.alloc (.cells #[.int .i64 L, .int .i64 R, .int .i64 S, .int .i64 N] 24)).alloc (.cells #[.int .i64 r] 3)).alloc (.cells #[.pointer none] 62)).alloc (.cells #[.int .i64 0] 26)) := (((((Below.refl _ w).alloc (Nat.le_refl _) _).alloc (by simp) _).alloc (by simp; omega) _).alloc (by simp; omega) _)
  obtain ⟨k0, k1, k2, k3⟩ := nk_blocks L R S N r w
  obtain ⟨W0, hW0⟩ : ∃ X, ((((w.alloc (.cells #[.int .i64 L, .int .i64 R, .int .i64 S, .int .i64 N] 24)).alloc (.cells #[.int .i64 r] 3)).alloc (.cells #[.pointer none] 62)).alloc (.cells #[.int .i64 0] 26)) = X := ⟨_, rfl⟩
  rw [hW0] at hB0 k0 k1 k2 k3 ⊢
  clear hW0
  refine (ck _).mono ?_
  rintro en W1 ⟨rfl, hB1⟩
  replace k0 := blk_on hB1 k0
  replace k1 := blk_on hB1 k1
  replace k2 := blk_on hB1 k2
  replace k3 := blk_on hB1 k3
  replace hB0 := hB0.trans (hB1.mono hB0.size)
  clear hB1 ck
  have q2 : W1.cell? ⟨w.heap.size + 1 + 1, 0, none⟩ = some (.pointer none) := blk_cell k2 0
  have q3 : W1.cell? ⟨w.heap.size + 1 + 1 + 1, 0, none⟩ = some (.int .i64 0) := blk_cell k3 0
  have q2f := blk_fr k2 0
  have q3f := blk_fr k3 0
  gi_wp2
  obtain ⟨r1, r2, r3⟩ := nk_out 60 hB0 k2 k3
  exact ⟨_, res_keeper rfl _ _ (w.heap.size + 1 + 1) (w.heap.size + 1 + 1 + 1) _ _ (by simp) (by simp) r1 r2, rfl, r3⟩
theorem nk_in_f (a b c : Int) : steer_in.f a b c = some (decide (b ≤ a) && decide (a ≤ c)) := by
  unfold steer_in.f
  by_cases h : a ≥ b
  · rw [if_pos h]; simp [show b ≤ a from h]
  · rw [if_neg h]; simp [show ¬ b ≤ a from h]
set_option maxRecDepth 100000 in
set_option maxHeartbeats 8000000 in
theorem newKeeper_unit (L R S N u r : Int) (w : World) (hp : rightB L R S N = true) (hu : ¬ (1 ≤ u ∧ u ≤ 1000000000000)) :
    Calls Try.prog 30 #[.agg #[.int .i64 L, .int .i64 R, .int .i64 S, .int .i64 N], .int .i64 u, .int .i64 r] w fun e w' => e = .returned (.tuple #[.pointer none, .int .i64 6]) ∧ Below w.heap.size w w' := by
  have hu24 := Try.underlying24
  have hu62 := Try.underlying62
  have hu26 := Try.underlying26
  have hu80 := Try.underlying80
  have hu59 := Try.underlying59
  have ck : ∀ W', CallsIn Fence.wide (9 - 1) Try.prog 11 #[.agg #[.int .i64 L, .int .i64 R, .int .i64 S, .int .i64 N]] W' _ := fun W' => callsIn_wide.2 (steer_Check.calls L R S N _ W' (check_f L R S N))
  have f11 : Fence.wide.fn 11 := trivial
  have f35 : Fence.wide.fn 35 := trivial
  have i35 : ∀ (a b c : Int) W', CallsIn Fence.wide (9 - 1) Try.prog 35 #[.int .i64 a, .int .i64 b, .int .i64 c] W' (fun e w' => e = .returned (.bool (decide (b ≤ a) && decide (a ≤ c))) ∧ Below W'.heap.size W' w') := fun a b c W' => callsIn_wide.2 ((steer_in.calls a b c _ W' (nk_in_f a b c)).mono fun e w' ⟨h1, h2⟩ => ⟨h1, h2.below⟩)
  have d1 : (decide ((1 : Int) ≤ u) && decide (u ≤ 1000000000000)) = false := by
    cases h : (decide ((1 : Int) ≤ u) && decide (u ≤ 1000000000000)) with
    | false => rfl
    | true => simp at h; exact absurd h hu
  have i1 := i35 u 1 1000000000000
  rw [d1] at i1
  clear d1 hu i35
  simp only [hp, if_true] at ck
  refine (callsIn_wide (n := 9)).1 ?_
  refine callsIn_of_wp_marks Try.func30 rfl trivial ?_ rfl
  simp only [Try.ntmps30, List.size_toArray, List.length_cons, List.length_nil, Nat.reduceAdd, Nat.reduceSub, Array.replicate_succ, Array.replicate_zero, List.push_toArray, List.append_toArray, List.nil_append, List.cons_append]
  gi_wp2_with fail
  have hB0 : Below w.heap.size w ((((w.alloc (.cells #[.int .i64 L, .int .i64 R, .int .i64 S, .int .i64 N] 24)).alloc (.cells #[.int .i64 r] 3)).alloc (.cells #[.pointer none] 62)).alloc (.cells #[.int .i64 0] 26)) := (((((Below.refl _ w).alloc (Nat.le_refl _) _).alloc (by simp) _).alloc (by simp; omega) _).alloc (by simp; omega) _)
  obtain ⟨k0, k1, k2, k3⟩ := nk_blocks L R S N r w
  obtain ⟨W0, hW0⟩ : ∃ X, ((((w.alloc (.cells #[.int .i64 L, .int .i64 R, .int .i64 S, .int .i64 N] 24)).alloc (.cells #[.int .i64 r] 3)).alloc (.cells #[.pointer none] 62)).alloc (.cells #[.int .i64 0] 26)) = X := ⟨_, rfl⟩
  rw [hW0] at hB0 k0 k1 k2 k3 ⊢
  clear hW0
  refine (ck _).mono ?_
  rintro en W1 ⟨rfl, hB1⟩
  replace k0 := blk_on hB1 k0
  replace k1 := blk_on hB1 k1
  replace k2 := blk_on hB1 k2
  replace k3 := blk_on hB1 k3
  replace hB0 := hB0.trans (hB1.mono hB0.size)
  clear hB1 ck
  gi_wp2_with fail
  refine (i1 _).mono ?_
  rintro en W2 ⟨rfl, hB⟩
  replace k0 := blk_on hB k0
  replace k1 := blk_on hB k1
  replace k2 := blk_on hB k2
  replace k3 := blk_on hB k3
  replace hB0 := hB0.trans (hB.mono hB0.size)
  have q2 : W2.cell? ⟨w.heap.size + 1 + 1, 0, none⟩ = some (.pointer none) := blk_cell k2 0
  have q3 : W2.cell? ⟨w.heap.size + 1 + 1 + 1, 0, none⟩ = some (.int .i64 0) := blk_cell k3 0
  have q2f := blk_fr k2 0
  have q3f := blk_fr k3 0
  clear hB i1
  gi_wp2
  obtain ⟨r1, r2, r3⟩ := nk_out 6 hB0 k2 k3
  exact ⟨_, res_keeper rfl _ _ (w.heap.size + 1 + 1) (w.heap.size + 1 + 1 + 1) _ _ (by simp) (by simp) r1 r2, rfl, r3⟩
set_option maxRecDepth 100000 in
set_option maxHeartbeats 8000000 in
theorem newKeeper_rate (L R S N u r : Int) (w : World) (hp : rightB L R S N = true) (hu : 1 ≤ u ∧ u ≤ 1000000000000) (hr : ¬ (-R ≤ r ∧ r ≤ R)) :
    Calls Try.prog 30 #[.agg #[.int .i64 L, .int .i64 R, .int .i64 S, .int .i64 N], .int .i64 u, .int .i64 r] w fun e w' => e = .returned (.tuple #[.pointer none, .int .i64 6]) ∧ Below w.heap.size w w' := by
  have hu24 := Try.underlying24
  have hu62 := Try.underlying62
  have hu26 := Try.underlying26
  have hu80 := Try.underlying80
  have hu59 := Try.underlying59
  have ck : ∀ W', CallsIn Fence.wide (9 - 1) Try.prog 11 #[.agg #[.int .i64 L, .int .i64 R, .int .i64 S, .int .i64 N]] W' _ := fun W' => callsIn_wide.2 (steer_Check.calls L R S N _ W' (check_f L R S N))
  have f11 : Fence.wide.fn 11 := trivial
  have f35 : Fence.wide.fn 35 := trivial
  have i35 : ∀ (a b c : Int) W', CallsIn Fence.wide (9 - 1) Try.prog 35 #[.int .i64 a, .int .i64 b, .int .i64 c] W' (fun e w' => e = .returned (.bool (decide (b ≤ a) && decide (a ≤ c))) ∧ Below W'.heap.size W' w') := fun a b c W' => callsIn_wide.2 ((steer_in.calls a b c _ W' (nk_in_f a b c)).mono fun e w' ⟨h1, h2⟩ => ⟨h1, h2.below⟩)
  have d1 : (decide ((1 : Int) ≤ u) && decide (u ≤ 1000000000000)) = true := by simp; omega
  have i1 := i35 u 1 1000000000000
  rw [d1] at i1
  have hq := rightB_iff.1 hp
  simp only [hp, if_true] at ck
  have d2 : (decide (-R ≤ r) && decide (r ≤ R)) = false := by
    cases h : (decide (-R ≤ r) && decide (r ≤ R)) with
    | false => rfl
    | true => simp at h; exact absurd h hr
  have i2 := i35 r (-R) R
  rw [d2] at i2
  clear d1 d2 hu hr i35
  refine (callsIn_wide (n := 9)).1 ?_
  refine callsIn_of_wp_marks Try.func30 rfl trivial ?_ rfl
  simp only [Try.ntmps30, List.size_toArray, List.length_cons, List.length_nil, Nat.reduceAdd, Nat.reduceSub, Array.replicate_succ, Array.replicate_zero, List.push_toArray, List.append_toArray, List.nil_append, List.cons_append]
  gi_wp2_with fail
  have hB0 : Below w.heap.size w ((((w.alloc (.cells #[.int .i64 L, .int .i64 R, .int .i64 S, .int .i64 N] 24)).alloc (.cells #[.int .i64 r] 3)).alloc (.cells #[.pointer none] 62)).alloc (.cells #[.int .i64 0] 26)) := (((((Below.refl _ w).alloc (Nat.le_refl _) _).alloc (by simp) _).alloc (by simp; omega) _).alloc (by simp; omega) _)
  obtain ⟨k0, k1, k2, k3⟩ := nk_blocks L R S N r w
  obtain ⟨W0, hW0⟩ : ∃ X, ((((w.alloc (.cells #[.int .i64 L, .int .i64 R, .int .i64 S, .int .i64 N] 24)).alloc (.cells #[.int .i64 r] 3)).alloc (.cells #[.pointer none] 62)).alloc (.cells #[.int .i64 0] 26)) = X := ⟨_, rfl⟩
  rw [hW0] at hB0 k0 k1 k2 k3 ⊢
  clear hW0
  refine (ck _).mono ?_
  rintro en W1 ⟨rfl, hB1⟩
  replace k0 := blk_on hB1 k0
  replace k1 := blk_on hB1 k1
  replace k2 := blk_on hB1 k2
  replace k3 := blk_on hB1 k3
  replace hB0 := hB0.trans (hB1.mono hB0.size)
  clear hB1 ck
  gi_wp2_with fail
  refine (i1 _).mono ?_
  rintro en W2 ⟨rfl, hB⟩
  replace k0 := blk_on hB k0
  replace k1 := blk_on hB k1
  replace k2 := blk_on hB k2
  replace k3 := blk_on hB k3
  replace hB0 := hB0.trans (hB.mono hB0.size)
  have p0 : W2.cell? ⟨w.heap.size, 0, none⟩ = some (.int .i64 L) := blk_cell k0 0
  have p1 : W2.cell? ⟨w.heap.size, 1, none⟩ = some (.int .i64 R) := blk_cell k0 1
  have p2 : W2.cell? ⟨w.heap.size, 2, none⟩ = some (.int .i64 S) := blk_cell k0 2
  have p3 : W2.cell? ⟨w.heap.size, 3, none⟩ = some (.int .i64 N) := blk_cell k0 3
  have pr : W2.cell? ⟨w.heap.size + 1, 0, none⟩ = some (.int .i64 r) := blk_cell k1 0
  clear hB i1
  have wR : wrap64 (-R) = -R := by unfold wrap64; omega
  have HWR := Aside0.mk wR
  clear wR
  have n0 : -9223372036854775808 ≤ -R ∧ -R ≤ 9223372036854775807 := by omega
  gi_wp2_with fail
  refine (i2 _).mono ?_
  rintro en W3 ⟨rfl, hB⟩
  replace k0 := blk_on hB k0
  replace k1 := blk_on hB k1
  replace k2 := blk_on hB k2
  replace k3 := blk_on hB k3
  replace hB0 := hB0.trans (hB.mono hB0.size)
  have q2 : W3.cell? ⟨w.heap.size + 1 + 1, 0, none⟩ = some (.pointer none) := blk_cell k2 0
  have q3 : W3.cell? ⟨w.heap.size + 1 + 1 + 1, 0, none⟩ = some (.int .i64 0) := blk_cell k3 0
  have q2f := blk_fr k2 0
  have q3f := blk_fr k3 0
  clear hB i2 p0 p1 p2 p3 pr
  gi_wp2
  obtain ⟨r1, r2, r3⟩ := nk_out 6 hB0 k2 k3
  exact ⟨_, res_keeper rfl _ _ (w.heap.size + 1 + 1) (w.heap.size + 1 + 1 + 1) _ _ (by simp) (by simp) r1 r2, rfl, r3⟩
def safeAt (L R r : Int) (ch : List Int) (k : Nat) : Bool := decide (stR R k = r) && decide (rd ch k < 1000)
def safeAny (L R r : Int) (ch : List Int) (l : List Nat) : Bool := l.any (safeAt L R r ch)
theorem row_cell {V Y : World} {base : Nat} {ad : Addr} {cc : Nat} {ch : List Int} (h : V.ownsRow base 3 1 (.slice (some ad) ch.length cc) ch.length (nums .i64 ch)) (hB : Below V.heap.size V Y) (k : Nat) (hk : k < ch.length) : Y.cell? (ad.add k) = some (.int .i64 (rd ch k)) := by
  rcases h.2 with ⟨h1, h2⟩ | ⟨g, cap, cur, e, e1, e2, e3, e4, e5, e6⟩
  · cases h1
  · injection e with e _ _
    injection e with e
    subst e
    have hl := (Array.getElem?_eq_some_iff.1 e2).1
    have h3 : cur.toList[k]? = some (.int .i64 (rd ch k)) := by
      have h4 : (cur.toList.take (ch.length * 1))[k]? = (nums .i64 ch)[k]? := by rw [e6]
      rw [List.getElem?_take, if_pos (by omega)] at h4
      rw [h4]
      simp [nums, rd, List.getD_eq_getElem?_getD, hk]
    have hh := (hB.block g hl).trans e2
    rw [Array.getElem?_toList] at h3
    rw [add_plain]
    simp [World.cell?, hh, h3]
theorem row_C {W : World} {base : Nat} {ad : Addr} {cap : Nat} {xs : List Int} (h : W.ownsRow base 3 1 (.slice (some ad) xs.length cap) xs.length (nums .i64 xs)) (hl : xs.length ≤ 1000000) : Kd.C (Kd.int .i64) W (some ad) xs.length xs := by
  refine ⟨rfl, by omega, fun _ => ⟨_, rfl, fun j p hj => ⟨[.int .i64 p], rfl, rfl, fun i u hi => ?_⟩⟩⟩
  match i, hi with
  | 0, hi =>
    obtain rfl : Value.int .i64 p = u := Option.some.inj hi
    have hjl : j < xs.length := (List.getElem?_eq_some_iff.1 hj).1
    have := row_cell h (Below.refl _ W) j hjl
    have hr : rd xs (j : Int) = p := by rw [rd_nat, List.getD_eq_getElem?_getD, hj]; rfl
    rw [hr] at this
    show W.cell? (ad.add (j * 1 + 0)) = _
    rw [Nat.mul_one, Nat.add_zero]
    exact this
theorem own_weaken {w : World} {base base2 : Nat} {e : TypeId} {size n : Nat} {v : Value} {xs : List Value} (hb : base2 ≤ base) (h : w.ownsRow base e size v n xs) : w.ownsRow base2 e size v n xs := by
  refine ⟨h.1, ?_⟩
  rcases h.2 with h2 | ⟨g, cap, cur, e1, e2, e3⟩
  · exact .inl h2
  · exact .inr ⟨g, cap, cur, e1, Nat.le_trans hb e2, e3⟩
theorem chart_form {W : World} {base : Nat} {ok : Nat → Prop} {v : Value} {ch : List Int} (h : Kd.R (Kd.int .i64) 3 W base ok v ch) (hl : 3 ≤ ch.length) : ∃ (ad : Addr) (cc : Nat), v = .slice (some ad) ch.length cc ∧ W.ownsRow base 3 1 v ch.length (nums .i64 ch) := by
  have ho := R_ints h
  rcases ho.2 with ⟨h1, h2⟩ | ⟨g, cap, cur, h1, _⟩
  · have h3 := ho.1
    rw [h2] at h3
    simp at h3
    omega
  · exact ⟨_, _, h1, ho⟩
/-- The memory behind NewKeeper's store of its keeper. -/
structure NkAt (L R S N u r : Int) (ch : List Int) (w W3 X : World) (kb b9 : Nat) (ad : Addr) (cc : Nat) (V : World) : Prop where
  k : X.heap[kb]? = some (.cells #[.pointer (some ⟨w.heap.size, 0, none⟩), .int .i64 u, .int .i64 r, .slice (some ad) ch.length cc, .slice none 0 0] 80 (0, 0))
  p : X.heap[b9]? = some (.cells #[.pointer (some ⟨kb, 0, none⟩)] 62 (0, 0))
  below : Below W3.heap.size W3 V
  top : Below V.heap.size V X
  le : V.heap.size ≤ kb
  row : V.ownsRow W3.heap.size 3 1 (.slice (some ad) ch.length cc) ch.length (nums .i64 ch)
  b9 : W3.heap.size ≤ b9
/-- What NewKeeper leaves. -/
def KeeperOut (L R S N u r : Int) (ch : List Int) (w : World) (e : Ending) (w' : World) : Prop :=
  Below w.heap.size w w' ∧ ((safeAny L R r ch (List.range (siz L R)) = false ∧ e = .returned (.tuple #[.pointer none, .int .i64 4])) ∨
    (safeAny L R r ch (List.range (siz L R)) = true ∧ ∃ (kb pb : Nat) (ad : Addr) (cc : Nat) (V : World), e = .returned (.tuple #[.pointer (some ⟨kb, 0, none⟩), .int .i64 0]) ∧
      ((w.heap.size ≤ V.heap.size ∧ V.heap.size ≤ kb) ∧ V.heap[pb]? = some (.cells #[.int .i64 L, .int .i64 R, .int .i64 S, .int .i64 N] 24 (0, 0)) ∧ Kd.C (Kd.int .i64) V (some ad) ch.length ch ∧ Below V.heap.size V w') ∧ w'.heap[kb]? = some (.cells #[.pointer (some ⟨pb, 0, none⟩), .int .i64 u, .int .i64 r, .slice (some ad) ch.length cc, .slice none 0 0] 80 (0, 0)))) 
set_option maxRecDepth 100000 in
set_option maxHeartbeats 8000000 in
theorem newKeeper_main (L R S N u r : Int) (ch : List Int) (w : World) (hp : rightB L R S N = true) (hu : 1 ≤ u ∧ u ≤ 1000000000000) (hr : -R ≤ r ∧ r ≤ R) (hch : steer_Plan_chart.f L R S N = some ch) (hcl : ch.length = siz L R) :
    Calls Try.prog 30 #[.agg #[.int .i64 L, .int .i64 R, .int .i64 S, .int .i64 N], .int .i64 u, .int .i64 r] w fun e w' => KeeperOut L R S N u r ch w e w' := by
  have hu24 := Try.underlying24
  have hu62 := Try.underlying62
  have hu26 := Try.underlying26
  have hu80 := Try.underlying80
  have hu59 := Try.underlying59
  have ck : ∀ W', CallsIn Fence.wide (9 - 1) Try.prog 11 #[.agg #[.int .i64 L, .int .i64 R, .int .i64 S, .int .i64 N]] W' _ := fun W' => callsIn_wide.2 (steer_Check.calls L R S N _ W' (check_f L R S N))
  have f11 : Fence.wide.fn 11 := trivial
  have f35 : Fence.wide.fn 35 := trivial
  have i35 : ∀ (a b c : Int) W', CallsIn Fence.wide (9 - 1) Try.prog 35 #[.int .i64 a, .int .i64 b, .int .i64 c] W' (fun e w' => e = .returned (.bool (decide (b ≤ a) && decide (a ≤ c))) ∧ Below W'.heap.size W' w') := fun a b c W' => callsIn_wide.2 ((steer_in.calls a b c _ W' (nk_in_f a b c)).mono fun e w' ⟨h1, h2⟩ => ⟨h1, h2.below⟩)
  have d1 : (decide ((1 : Int) ≤ u) && decide (u ≤ 1000000000000)) = true := by simp; omega
  have i1 := i35 u 1 1000000000000
  rw [d1] at i1
  have hq := rightB_iff.1 hp
  simp only [hp, if_true] at ck
  have d2 : (decide (-R ≤ r) && decide (r ≤ R)) = true := by simp; omega
  have i2 := i35 r (-R) R
  rw [d2] at i2
  have c37 := fun W => steer_Plan_chart.calls L R S N ch W hch
  clear d1 d2 hr i35
  refine (callsIn_wide (n := 9)).1 ?_
  refine callsIn_of_wp_marks Try.func30 rfl trivial ?_ rfl
  simp only [Try.ntmps30, List.size_toArray, List.length_cons, List.length_nil, Nat.reduceAdd, Nat.reduceSub, Array.replicate_succ, Array.replicate_zero, List.push_toArray, List.append_toArray, List.nil_append, List.cons_append]
  gi_wp2_with fail
  have hB0 : Below w.heap.size w ((((w.alloc (.cells #[.int .i64 L, .int .i64 R, .int .i64 S, .int .i64 N] 24)).alloc (.cells #[.int .i64 r] 3)).alloc (.cells #[.pointer none] 62)).alloc (.cells #[.int .i64 0] 26)) := (((((Below.refl _ w).alloc (Nat.le_refl _) _).alloc (by simp) _).alloc (by simp; omega) _).alloc (by simp; omega) _)
  obtain ⟨k0, k1, k2, k3⟩ := nk_blocks L R S N r w
  obtain ⟨W0, hW0⟩ : ∃ X, ((((w.alloc (.cells #[.int .i64 L, .int .i64 R, .int .i64 S, .int .i64 N] 24)).alloc (.cells #[.int .i64 r] 3)).alloc (.cells #[.pointer none] 62)).alloc (.cells #[.int .i64 0] 26)) = X := ⟨_, rfl⟩
  rw [hW0] at hB0 k0 k1 k2 k3 ⊢
  clear hW0
  refine (ck _).mono ?_
  rintro en W1 ⟨rfl, hB1⟩
  replace k0 := blk_on hB1 k0
  replace k1 := blk_on hB1 k1
  replace k2 := blk_on hB1 k2
  replace k3 := blk_on hB1 k3
  replace hB0 := hB0.trans (hB1.mono hB0.size)
  clear hB1 ck
  gi_wp2_with fail
  refine (i1 _).mono ?_
  rintro en W2 ⟨rfl, hB⟩
  replace k0 := blk_on hB k0
  replace k1 := blk_on hB k1
  replace k2 := blk_on hB k2
  replace k3 := blk_on hB k3
  replace hB0 := hB0.trans (hB.mono hB0.size)
  have p0 : W2.cell? ⟨w.heap.size, 0, none⟩ = some (.int .i64 L) := blk_cell k0 0
  have p1 : W2.cell? ⟨w.heap.size, 1, none⟩ = some (.int .i64 R) := blk_cell k0 1
  have p2 : W2.cell? ⟨w.heap.size, 2, none⟩ = some (.int .i64 S) := blk_cell k0 2
  have p3 : W2.cell? ⟨w.heap.size, 3, none⟩ = some (.int .i64 N) := blk_cell k0 3
  have pr : W2.cell? ⟨w.heap.size + 1, 0, none⟩ = some (.int .i64 r) := blk_cell k1 0
  clear hB i1
  have wR : wrap64 (-R) = -R := by unfold wrap64; omega
  have HWR := Aside0.mk wR
  clear wR
  have n0 : -9223372036854775808 ≤ -R ∧ -R ≤ 9223372036854775807 := by omega
  gi_wp2_with fail
  refine (i2 _).mono ?_
  rintro en W3 ⟨rfl, hB⟩
  replace k0 := blk_on hB k0
  replace k1 := blk_on hB k1
  replace k2 := blk_on hB k2
  replace k3 := blk_on hB k3
  replace hB0 := hB0.trans (hB.mono hB0.size)
  clear p0 p1 p2 p3 pr
  have p0 : W3.cell? ⟨w.heap.size, 0, none⟩ = some (.int .i64 L) := blk_cell k0 0
  have p1 : W3.cell? ⟨w.heap.size, 1, none⟩ = some (.int .i64 R) := blk_cell k0 1
  have p2 : W3.cell? ⟨w.heap.size, 2, none⟩ = some (.int .i64 S) := blk_cell k0 2
  have p3 : W3.cell? ⟨w.heap.size, 3, none⟩ = some (.int .i64 N) := blk_cell k0 3
  have pr : W3.cell? ⟨w.heap.size + 1, 0, none⟩ = some (.int .i64 r) := blk_cell k1 0
  clear hB i2
  gi_wp2_with fail
  have hs3 : w.heap.size + 4 ≤ W3.heap.size := (Array.getElem?_eq_some_iff.1 k3).1
  have hS : ∀ w', Below W3.heap.size W3 w' → ((w'.cell? ⟨w.heap.size + 1, 0, none⟩ = some (.int .i64 r) ∧ w'.cell? ⟨w.heap.size, 0, none⟩ = some (.int .i64 L) ∧ w'.cell? ⟨w.heap.size, 1, none⟩ = some (.int .i64 R) ∧ w'.cell? ⟨w.heap.size, 2, none⟩ = some (.int .i64 S) ∧ w'.cell? ⟨w.heap.size, 3, none⟩ = some (.int .i64 N)) ∧ Below W3.heap.size W3 w') := fun w' hB => ⟨⟨cell_on hB pr, cell_on hB p0, cell_on hB p1, cell_on hB p2, cell_on hB p3⟩, hB⟩
  have hlen : 3 ≤ ch.length := by rw [hcl]; exact siz_pos L R (by omega) (by omega)
  have HCL := Aside0.mk hcl
  clear hcl
  refine wpIn_wide.2 ?_
  refine Code.wp_mono (Q := fun e a X => e = .normal ∧ ∃ (kb b9 : Nat) (ad : Addr) (cc : Nat) (V : World), a = { tmps := #[.agg #[.int .i64 L, .int .i64 R, .int .i64 S, .int .i64 N], .int .i64 u, .int .i64 r, .pointer (some ⟨w.heap.size, 0, none⟩), undef, .pointer (some ⟨w.heap.size + 1, 0, none⟩), .pointer (some ⟨w.heap.size + 1 + 1, 0, none⟩), .pointer (some ⟨w.heap.size + 1 + 1 + 1, 0, none⟩), .int .i64 0, .pointer (some ⟨b9, 0, none⟩), undef, undef, .agg #[.int .i64 L, .int .i64 R, .int .i64 S, .int .i64 N], .int .i64 0, .int .i64 0, .bool false, undef, .int .i64 u, .bool true, .bool false, .bool false, .int .i64 r, .pointer (some ⟨w.heap.size, 1, none⟩), .int .i64 R, .int .i64 (-R), .pointer (some ⟨w.heap.size, 1, none⟩), .int .i64 R, .bool true, .bool false, .bool false, .int .i64 u, .int .i64 r, .agg #[.int .i64 L, .int .i64 R, .int .i64 S, .int .i64 N], .slice (some ad) ch.length cc, .agg #[.pointer (some ⟨w.heap.size, 0, none⟩), .int .i64 u, .int .i64 r, .slice (some ad) ch.length cc, .slice none 0 0], .pointer (some ⟨kb, 0, none⟩), undef, undef, undef, undef, undef, undef, undef, undef, undef, undef, undef, undef, undef, undef, undef, undef, undef, undef, undef], defers := [] } ∧ NkAt L R S N u r ch w W3 X kb b9 ad cc V) ?_ ?_
  rotate_left 1
  · go_region_held3 (fun w' => (w'.cell? ⟨w.heap.size + 1, 0, none⟩ = some (.int .i64 r) ∧ w'.cell? ⟨w.heap.size, 0, none⟩ = some (.int .i64 L) ∧ w'.cell? ⟨w.heap.size, 1, none⟩ = some (.int .i64 R) ∧ w'.cell? ⟨w.heap.size, 2, none⟩ = some (.int .i64 S) ∧ w'.cell? ⟨w.heap.size, 3, none⟩ = some (.int .i64 N)) ∧ Below W3.heap.size W3 w')
      (first | exact hS _ (Below.refl _ _).drew | assumption | exact hS _ ((Below.refl _ _).drew.alloc (by simp) _) | (refine hS _ ?_; repeat (first | assumption | refine Below.alloc ?_ (by have := hBc.size; first | (simp; done) | (simp; omega)) _ | refine Below.setCell ?_ (by have := hBc.size; first | (simp; done) | (simp; omega)) _)))
      (first | (go_at_call 37; refine (c37 _).mono ?_; rintro e w' ⟨v0, rfl, hR, hB⟩; have hh := ‹(_ ∧ _ ∧ _ ∧ _ ∧ _) ∧ Below W3.heap.size W3 _›; have hBc := hh.2.trans (hB.mono hh.2.size); clear hh; obtain ⟨ad, cc, rfl, hrow⟩ := chart_form hR hlen; clear hR; (try have k9b : w'.heap[W3.heap.size]? = some (.cells #[.pointer none] 62 (0, 0)) := (hB.block _ (by simp)).trans (al_new _ _ _ (by simp))); (try have k9 := blk_cell k9b 0); (try have k9f := blk_fr k9b 0); (try have k9l := (Array.getElem?_eq_some_iff.1 k9b).1)))
    · exact ⟨rfl, w'.heap.size, w'.heap.size + 1, ad, cc, w', rfl, al_old (al_new _ _ _ rfl), al_new _ _ _ (by simp), hBc, ((Below.refl _ w').alloc (Nat.le_refl _) _).alloc (by simp) _, Nat.le_refl _, hrow, by have := hBc.size; omega⟩
    · exact ⟨rfl, w'.heap.size + 1, w'.heap.size, ad, cc, w'.alloc (.cells #[.pointer (some ⟨w'.heap.size + 1, 0, none⟩)] 62), rfl, al_new _ _ _ (by simp), al_old (al_new _ _ _ rfl), hBc.alloc hBc.size _, (Below.refl _ _).alloc (Nat.le_refl _) _, by simp, own_move hrow (fun k hk => Below.heap_alloc _ _ _ (own_lt hrow k hk)), hBc.size⟩
    · refine ⟨rfl, w'.heap.size, W3.heap.size, ad, cc, w'.setCell ⟨W3.heap.size, 0, none⟩ (.pointer (some ⟨w'.heap.size, 0, none⟩)), rfl, al_new _ _ _ (by simp), al_old (Boxed.set _ k9b), hBc.setCell (by simp) _, (Below.refl _ _).alloc (Nat.le_refl _) _, by simp, ?_, Nat.le_refl _⟩
      refine own_weaken ?_ (own_move hrow (fun k hk => Below.heap_setCell _ _ _ _ (by have := own_base hrow k hk; simp at this ⊢; omega)))
      simp
  · rintro e a X ⟨rfl, kb, b9, ad, cc, V, rfl, HN⟩
    have hBX : Below W3.heap.size W3 X := HN.below.trans (HN.top.mono HN.below.size)
    have K0W := k0
    replace k0 := blk_on hBX k0
    replace k1 := blk_on hBX k1
    replace k2 := blk_on hBX k2
    replace k3 := blk_on hBX k3
    have hw3 : w.heap.size + 4 ≤ W3.heap.size := hs3
    clear p0 p1 p2 p3 pr hS
    have p0 : X.cell? ⟨w.heap.size, 0, none⟩ = some (.int .i64 L) := blk_cell k0 0
    have p1 : X.cell? ⟨w.heap.size, 1, none⟩ = some (.int .i64 R) := blk_cell k0 1
    have p2 : X.cell? ⟨w.heap.size, 2, none⟩ = some (.int .i64 S) := blk_cell k0 2
    have p3 : X.cell? ⟨w.heap.size, 3, none⟩ = some (.int .i64 N) := blk_cell k0 3
    have f44 : Fence.wide.fn 44 := trivial
    have a44 : ∀ W', CallsIn Fence.wide (9 - 1) Try.prog 44 #[.agg #[.int .i64 L, .int .i64 R, .int .i64 S, .int .i64 N]] W' _ := fun W' => callsIn_wide.2 (states_calls L R S N W')
    gi_wp2_with (gi_at_call 44; refine (a44 _).mono ?_; rintro e w' ⟨rfl, rfl⟩)
    clear a44 f44 p0 p1 p2 p3
    have hx1 : Below X.heap.size X (X.alloc (.cells #[.int .i64 L, .int .i64 R, .int .i64 S, .int .i64 N] 24)) := (Below.refl _ X).alloc (Nat.le_refl _) _
    have ks : (X.alloc (.cells #[.int .i64 L, .int .i64 R, .int .i64 S, .int .i64 N] 24)).heap[X.heap.size]? = some (.cells #[.int .i64 L, .int .i64 R, .int .i64 S, .int .i64 N] 24 (0, 0)) := al_new _ _ _ rfl
    have hsz1 : X.heap.size < (X.alloc (.cells #[.int .i64 L, .int .i64 R, .int .i64 S, .int .i64 N] 24)).heap.size := by simp
    generalize X.alloc (.cells #[.int .i64 L, .int .i64 R, .int .i64 S, .int .i64 N] 24) = X1 at hx1 ks hsz1 ⊢
    have hxs := hBX.size
    have hvs := HN.top.size
    have hkl : kb < X.heap.size := (Array.getElem?_eq_some_iff.1 HN.k).1
    have hbl : b9 < X.heap.size := (Array.getElem?_eq_some_iff.1 HN.p).1
    have hBw : Below w.heap.size w X1 := (hB0.trans (hBX.mono (by omega))).trans (hx1.mono (by omega))
    have K1 := blk_on hx1 k1
    have K2 := blk_on hx1 k2
    have K3 := blk_on hx1 k3
    have KK := blk_on hx1 HN.k
    have KB := blk_on hx1 HN.p
    have hBV : Below V.heap.size V X1 := HN.top.trans (hx1.mono hvs)
    have hq := rightB_iff.1 hp
    refine wpIn_rangeFunc_ownH rfl (by decide) (gf := 65) (lb := #[.pointer (some ⟨X.heap.size, 0, none⟩)]) rfl trivial (enters_of Try.func65 (by kernel_rfl) rfl)
      (states_stops (9 - 1) (by decide) L R S N _ X1 ks (by omega) (by omega) (by omega) (by omega)) SameAt.t (SameAt.b (by simp; omega)) (Below.refl _ _) (fun _ => rfl)
      (fun pre Y => (safeAny L R r ch pre.unattach = false) ∧ Below X1.heap.size X1 Y)
      (fun c pre Y => (c = .ret ∧ safeAny L R r ch pre.unattach = true) ∧ Below X1.heap.size ((X1.setCell ⟨w.heap.size + 1 + 1, 0, none⟩ (.pointer (some ⟨kb, 0, none⟩))).setCell ⟨w.heap.size + 1 + 1 + 1, 0, none⟩ (.int .i64 0)) Y)
      (OwnFrom.and (ownFrom_pure _ _) (ownFrom_below (Nat.le_refl _) (Nat.le_refl _)))
      (fun c => OwnFrom.and (ownFrom_pure _ _) (ownFrom_below (by simp [World.setCell]) (Nat.le_refl _)))
      ⟨rfl, Below.refl _ _⟩
      (fun x a' Y => ∃ Bx, X1.heap.size ≤ Bx ∧ Y.heap[Bx]? = some (.cells #[.int .i64 (stE L R x.1), .int .i64 (stR R x.1)] 59 (0, 0)) ∧ a' = { tmps := #[.agg #[.int .i64 L, .int .i64 R, .int .i64 S, .int .i64 N], .int .i64 u, .int .i64 r, .pointer (some ⟨w.heap.size, 0, none⟩), undef, .pointer (some ⟨w.heap.size + 1, 0, none⟩), .pointer (some ⟨w.heap.size + 1 + 1, 0, none⟩), .pointer (some ⟨w.heap.size + 1 + 1 + 1, 0, none⟩), .int .i64 0, .pointer (some ⟨b9, 0, none⟩), .int .i64 x.1, .pointer (some ⟨Bx, 0, none⟩), .agg #[.int .i64 L, .int .i64 R, .int .i64 S, .int .i64 N], .int .i64 0, .int .i64 0, .bool false, undef, .int .i64 u, .bool true, .bool false, .bool false, .int .i64 r, .pointer (some ⟨w.heap.size, 1, none⟩), .int .i64 R, .int .i64 (-R), .pointer (some ⟨w.heap.size, 1, none⟩), .int .i64 R, .bool true, .bool false, .bool false, .int .i64 u, .int .i64 r, .agg #[.int .i64 L, .int .i64 R, .int .i64 S, .int .i64 N], .slice (some ad) ch.length cc, .agg #[.pointer (some ⟨w.heap.size, 0, none⟩), .int .i64 u, .int .i64 r, .slice (some ad) ch.length cc, .slice none 0 0], .pointer (some ⟨kb, 0, none⟩), .agg #[.int .i64 L, .int .i64 R, .int .i64 S, .int .i64 N], .func (.func 65) #[] #[.pointer (some ⟨X.heap.size, 0, none⟩)], .int .i64 x.1, .agg #[.int .i64 (stE L R x.1), .int .i64 (stR R x.1)], undef, undef, undef, undef, undef, undef, undef, undef, undef, undef, undef, undef, undef, undef, undef], defers := [] })
      ?hAx ?assign ?body ?done ?stop
    case hAx =>
      rintro x a' s A B row ⟨Bx, h1, h2, h3⟩ hg hr
      exact ⟨Bx, h1, (grownBy_keeps_cells hg (fun r e => (hr r e).2) h2 rfl).trans h2, h3⟩
    case assign =>
      rintro l pre x Y K ⟨hall, hB⟩ hK
      gi_wp2
      exact hK _ _ ((KeepsOthers.alloc _ _).from _) (fun b hb => Below.heap_alloc _ _ _ (by have := hB.size; simp at hb; omega)) ⟨hall, hB.alloc hB.size _⟩ ⟨Y.heap.size, hB.size, al_new _ _ _ rfl, rfl⟩
    case body =>
      rintro l pre x a' Y hl ⟨r', hr'⟩ ⟨hall, hB⟩ ⟨Bx, hBx, hX, rfl⟩ hlt
      have hun : ∀ y, safeAny L R r ch (pre ++ [y]).unattach = safeAt L R r ch y.1 := fun y => by unfold safeAny at hall ⊢; rw [List.unattach_append, List.any_append, hall]; simp
      have HUN := Aside0.mk hun
      clear hun hall
      obtain ⟨k, hk⟩ := x
      have hXs := hB.size
      have c1 := blk_cell (blk_on hB K1) 0
      have c9 := blk_cell (blk_on hB KB) 0
      have cx : Y.cell? ⟨Bx, 1, none⟩ = some (.int .i64 (stR R k)) := blk_cell hX 1
      have cf2 := blk_fr (blk_on hB K2) 0
      have cf3 := blk_fr (blk_on hB K3) 0
      have c2 := blk_cell (blk_on hB K2) 0
      have c3 := blk_cell (blk_on hB K3) 0
      have cs := blk_cell (blk_on hB KK) 3
      have hbV : Below V.heap.size V Y := hBV.trans (hB.mono (by have := hBV.size; omega))
      have hkl : k < ch.length := by rw [HCL.out]; exact hk
      have hrd := row_cell HN.row hbV k hkl
      have hks : (0 : Int) ≤ (k : Int) ∧ (k : Int) < ch.length := ⟨by omega, by omega⟩
      by_cases he : stR R k = r
      · have d1 : (stR R k == r) = true := by simpa using he
        by_cases hs : rd ch k < 1000
        · have d2 : decide (rd ch k < 1000) = true := decide_eq_true hs
          gi_wp2
          exact ⟨((KeepsOthers.setCell _ _ _).trans (KeepsOthers.setCell _ _ _)).from _, ⟨rfl, by rw [HUN.out]; simp [safeAt, he, hs]⟩, below_set2 (below_set2 hB _ _) _ _⟩
        · have d2 : decide (rd ch k < 1000) = false := decide_eq_false hs
          gi_wp2
          exact ⟨(keeps_of_below (Below.refl _ _)).from _, fun b hb => rfl, by rw [HUN.out]; simp [safeAt, hs], hB⟩
      · have d1 : (stR R k == r) = false := by simpa using he
        gi_wp2
        exact ⟨(keeps_of_below (Below.refl _ _)).from _, fun b hb => rfl, by rw [HUN.out]; simp [safeAt, he], hB⟩
    case done =>
      rintro D ys Y hD hys ⟨hall, hB⟩ hK
      have hXs := hB.size
      have k2' := blk_on hB K2
      have k3' := blk_on hB K3
      have c2 := blk_cell k2' 0
      have c3 := blk_cell k3' 0
      have cf2 := blk_fr k2' 0
      have cf3 := blk_fr k3' 0
      gi_wp2
      obtain ⟨r1, r2, r3⟩ := nk_out 4 (hBw.trans (hB.mono (by omega))) k2' k3'
      obtain ⟨s2, s3⟩ := nk_out2 (w := w) (.pointer none) 4 k2' k3'
      have hK' := ((KeepsOthers.setCell _ _ _).trans (KeepsOthers.setCell _ _ _) : KeepsOthers Y ((Y.setCell ⟨w.heap.size + 1 + 1, 0, none⟩ (.pointer none)).setCell ⟨w.heap.size + 1 + 1 + 1, 0, none⟩ (.int .i64 4))).same D _ hK rfl
      refine ⟨by simp, .inl ⟨_, _, rfl, run_takeDeferred hK', ?_⟩⟩
      refine ⟨_, res_keeper rfl _ _ (w.heap.size + 1 + 1) (w.heap.size + 1 + 1 + 1) none 4 (by simp) (by simp) (blk_cell ((World.putObj_heap_other (by omega)).trans s2) 0) (blk_cell ((World.putObj_heap_other (by omega)).trans s3) 0), r3.trans (belowK_b (w := X1) (by omega) _ D _ _ hD hK' rfl rfl), .inl ⟨by rw [← hys]; exact hall, rfl⟩⟩
    case stop =>
      rintro D c pre Y hD hp' ⟨⟨rfl, hall⟩, hB⟩ hK
      have hV2 := below_set2 (below_set2 hBV ⟨w.heap.size + 1 + 1, 0, none⟩ (.pointer (some ⟨kb, 0, none⟩))) ⟨w.heap.size + 1 + 1 + 1, 0, none⟩ (.int .i64 0)
      have hbs := HN.below.size
      have hvx := hBV.size
      have hVs : ((V.setCell ⟨w.heap.size + 1 + 1, 0, none⟩ (.pointer (some ⟨kb, 0, none⟩))).setCell ⟨w.heap.size + 1 + 1 + 1, 0, none⟩ (.int .i64 0)).heap.size = V.heap.size := by simp [World.setCell]
      have hXs2 : ((X1.setCell ⟨w.heap.size + 1 + 1, 0, none⟩ (.pointer (some ⟨kb, 0, none⟩))).setCell ⟨w.heap.size + 1 + 1 + 1, 0, none⟩ (.int .i64 0)).heap.size = X1.heap.size := by simp [World.setCell]
      obtain ⟨s2, s3⟩ := nk_out2 (w := w) (.pointer (some ⟨kb, 0, none⟩)) 0 K2 K3
      have hYZ := belowK_b (n₀ := X1.heap.size) (w := X1) (Nat.le_refl _) Y D _ (.deferred none) hD hK rfl rfl
      have hwV : Below w.heap.size w ((X1.setCell ⟨w.heap.size + 1 + 1, 0, none⟩ (.pointer (some ⟨kb, 0, none⟩))).setCell ⟨w.heap.size + 1 + 1 + 1, 0, none⟩ (.int .i64 0)) := (hBw.setCell (by simp; omega) _).setCell (by simp; omega) _
      have e2 : ∀ q, q ≠ w.heap.size + 1 + 1 → q ≠ w.heap.size + 1 + 1 + 1 → ((X1.setCell ⟨w.heap.size + 1 + 1, 0, none⟩ (.pointer (some ⟨kb, 0, none⟩))).setCell ⟨w.heap.size + 1 + 1 + 1, 0, none⟩ (.int .i64 0)).heap[q]? = X1.heap[q]? := fun q h1 h2 => (Below.heap_setCell _ _ _ q h2).trans (Below.heap_setCell _ _ _ q h1)
      have e3 : ∀ q, q ≠ w.heap.size + 1 + 1 → q ≠ w.heap.size + 1 + 1 + 1 → ((V.setCell ⟨w.heap.size + 1 + 1, 0, none⟩ (.pointer (some ⟨kb, 0, none⟩))).setCell ⟨w.heap.size + 1 + 1 + 1, 0, none⟩ (.int .i64 0)).heap[q]? = V.heap[q]? := fun q h1 h2 => (Below.heap_setCell _ _ _ q h2).trans (Below.heap_setCell _ _ _ q h1)
      have t2 := (hB.block _ (by omega)).trans s2
      have t3 := (hB.block _ (by omega)).trans s3
      have hx1s := hx1.size
      have hvl := HN.le
      have tk := (hB.block kb (by omega)).trans ((e2 kb (by omega) (by omega)).trans KK)
      have kp : V.heap[w.heap.size]? = some (.cells #[.int .i64 L, .int .i64 R, .int .i64 S, .int .i64 N] 24 (0, 0)) := blk_on HN.below K0W
      gi_wp2
      refine ⟨by simp, .inl ⟨_, _, rfl, run_takeDeferred hK, ?_⟩⟩
      refine ⟨_, res_keeper rfl _ _ (w.heap.size + 1 + 1) (w.heap.size + 1 + 1 + 1) _ 0 (by simp) (by simp) (blk_cell ((World.putObj_heap_other (by omega)).trans t2) 0) (blk_cell ((World.putObj_heap_other (by omega)).trans t3) 0), ?_, .inr ⟨?_, kb, w.heap.size, ad, cc, ((V.setCell ⟨w.heap.size + 1 + 1, 0, none⟩ (.pointer (some ⟨kb, 0, none⟩))).setCell ⟨w.heap.size + 1 + 1 + 1, 0, none⟩ (.int .i64 0)), rfl, ⟨⟨by rw [hVs]; omega, by rw [hVs]; exact HN.le⟩, (e3 _ (by omega) (by omega)).trans kp, ?_, ?_⟩, (World.putObj_heap_other (by omega)).trans tk⟩⟩
      · exact (hwV.trans (hB.mono (by omega))).trans (belowK_b (w := X1) (by omega) Y D _ _ hD hK rfl rfl)
      · obtain ⟨n, hn, e⟩ := hp'
        rw [e] at hall
        unfold safeAny at hall ⊢
        rw [List.any_eq_true] at hall ⊢
        obtain ⟨q, hq1, hq2⟩ := hall
        exact ⟨q, by simp at hq1 ⊢; omega, hq2⟩
      · exact row_C (own_move HN.row (fun q hq => e3 q (by have := own_base HN.row q hq; omega) (by have := own_base HN.row q hq; omega))) (by rw [HCL.out]; have := siz_le L R (by omega) (by omega); omega)
      · rw [hVs]
        exact (hV2.trans (hB.mono (by omega))).trans (belowK_b (w := X1) (by omega) Y D _ _ hD hK rfl rfl)
end Go.Proofs.Ytcaekmalkbaldaa.M
