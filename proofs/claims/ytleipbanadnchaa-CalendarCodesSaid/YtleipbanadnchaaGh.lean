/- Contracts of the reference's Unix and FromUnix, by hand. -/
import Derived.OwnWalk
import Derived.Laws.AppendOwn
import Derived.Test.YtleipbanadnchaaEd
import Derived.Test.YtleipbanadnchaaGf
namespace Go.Proofs.Ytleipbanadnchaa.C
open Go.RowKit Go.Shelf Go.Maps Go.Proofs.YtleipbanadnchaaW.PrintWords Go.Proofs.YtleipbanadnchaaW.PrintLast Go.Proofs.YtleipbanadnchaaW.PrintMore
set_option linter.unusedVariables false
set_option linter.unusedSimpArgs false
set_option maxHeartbeats 1000000 in
set_option maxRecDepth 100000 in
theorem rUnix_err (b u : Int) (A : Option Addr) (c : Nat) (l : List (Int × Int)) (s : Int) (w : World) (hr : Kd.C kl w A l.length l) (hk : askE b l u s ≠ 0) :
    Calls Try.prog 73 #[tabV b A l.length c u, .int .i64 s] w fun e w' => e = .returned (.tuple #[.int .i64 0, .int .i64 (askE b l u s)]) ∧ Below w.heap.size w w' := by
  have HR := Aside0.mk hr
  have a58 := fun w h => rDates_err b u A c l s w h hk
  clear hr
  have q1 : (askE b l u s == 0) = false := beq_eq_false_iff_ne.2 hk
  have q2 : (askE b l u s != 0) = true := bne_iff_ne.2 hk
  clear hk
  generalize askE b l u s = q at *
  go_enter Try.func73, Try.ntmps73
  go_wp2_with fail
  refine (a58 _ (Kd.C_below HR.out ((Below.refl _ w).alloc (Nat.le_refl _) _))).mono ?_
  rintro en w1 ⟨rfl, hB⟩
  have hv : Below w.heap.size w w1 := ((Below.refl _ w).alloc (Nat.le_refl _) _).trans (hB.mono (by simp))
  clear hB a58
  go_wp2
  go_ret2
  exact ⟨rfl, hv.alloc hv.size _⟩
set_option maxHeartbeats 2000000 in
set_option maxRecDepth 100000 in
theorem rUnix_ok (b u : Int) (A : Option Addr) (c : Nat) (l : List (Int × Int)) (s D : Int) (w : World) (hr : Kd.C kl w A l.length l) (hk : askE b l u s = 0) (hD : IsDay l u s D) :
    Calls Try.prog 73 #[tabV b A l.length c u, .int .i64 s] w fun e w' => e = .returned (.tuple #[.int .i64 (unixF l s D), .int .i64 0]) ∧ Below w.heap.size w w' := by
  have HR := Aside0.mk hr
  have a58 := fun w h => rDates_ok b u A c l s D w h hk hD
  have hu := (checkF_right (askE_zero hk).1).2.2.2.1
  have hRr := (checkF_right (askE_zero hk).1).2.2.2.2.2
  have hok := hD.ok hu
  have hcl := hD.clock hRr
  have hsum := clock_sum hcl.1 hcl.2.2
  have hd0 := hD.d0
  have hd1 := hD.d1
  have a44 := fun w => refDay_calls (cY D) (cM D) (cD D) w
  unfold dayV dayE at a44
  rw [hok.1, if_pos rfl, if_pos rfl, hok.2] at a44
  have hgoal : unixF l s D = 86400 * (D - 40587) + 3600 * ckH (s - beginF l D) + 60 * ckM (s - beginF l D) + ckS (s - beginF l D) := by unfold unixF; omega
  rw [hgoal]
  clear hr hk hD hcl hok hgoal hRr
  generalize ckH (s - beginF l D) = H at *
  generalize ckM (s - beginF l D) = I at *
  generalize ckS (s - beginF l D) = S at *
  generalize s - beginF l D = n at *
  generalize cY D = Y at *
  generalize cM D = M at *
  generalize cD D = K at *
  have hb := hsum.2
  clear hsum
  go_enter Try.func73, Try.ntmps73
  go_wp2_with fail
  refine (a58 _ (Kd.C_below HR.out ((Below.refl _ w).alloc (Nat.le_refl _) _))).mono ?_
  rintro en w1 ⟨rfl, hB⟩
  have hv : Below w.heap.size w w1 := ((Below.refl _ w).alloc (Nat.le_refl _) _).trans (hB.mono (by simp))
  clear hB a58
  go_wp2_with fail
  obtain ⟨w2, hw2⟩ : ∃ w2, w1.alloc (.cells #[.int .i64 Y, .int .i64 M, .int .i64 K, .int .i64 H, .int .i64 I, .int .i64 S] 98) = w2 := ⟨_, rfl⟩
  try rw [hw2]
  have hB : Below w1.heap.size w1 w2 := by rw [← hw2]; exact (Below.refl _ w1).alloc (Nat.le_refl _) _
  have kx : w2.heap[w1.heap.size]? = some (.cells #[.int .i64 Y, .int .i64 M, .int .i64 K, .int .i64 H, .int .i64 I, .int .i64 S] 98 (0, 0)) := by rw [← hw2]; exact al_new _ _ _ rfl
  replace hv := hv.trans (hB.mono hv.size)
  clear hB hw2
  refine (a44 _).mono ?_
  rintro en w3 ⟨rfl, hB⟩
  replace kx := (hB.block _ (Array.getElem?_eq_some_iff.1 kx).1).trans kx
  have x3 : w3.cell? ⟨w1.heap.size, 3, none⟩ = some (.int .i64 H) := blk_cell kx 3
  have x4 : w3.cell? ⟨w1.heap.size, 4, none⟩ = some (.int .i64 I) := blk_cell kx 4
  have x5 : w3.cell? ⟨w1.heap.size, 5, none⟩ = some (.int .i64 S) := blk_cell kx 5
  replace hv := hv.trans (hB.mono hv.size)
  clear hB kx a44
  go_wp2
  go_ret2
  exact ⟨rfl, hv⟩
theorem ifc {α : Type} {p q : Prop} [Decidable p] [Decidable q] {a b b' : α} (h : p ↔ q) (hb : b = b') : (if p then a else b) = if q then a else b' := by
  by_cases hp : p
  · rw [if_pos hp, if_pos (h.1 hp)]
  · rw [if_neg hp, if_neg (fun hq => hp (h.2 hq)), hb]
/-- The members of a list from a number on. -/
def filtR (Q : List Int) (base : Int) : Nat → List Int
  | 0 => []
  | i + 1 => filtR Q base i ++ (if Q.contains (base + i) = true then [base + i] else [])
theorem filtR_nil (base : Int) : ∀ i, filtR [] base i = []
  | 0 => rfl
  | i + 1 => by simp [filtR, filtR_nil base i]
theorem filtR_one {a base : Int} (h : base ≤ a) : ∀ i : Nat, filtR [a] base i = if a < base + i then [a] else []
  | 0 => by rw [if_neg (by omega)]; rfl
  | i + 1 => by
    unfold filtR
    rw [filtR_one h i]
    by_cases h1 : base + (i : Int) = a
    · rw [if_neg (by omega), if_pos (by simp [h1]), if_pos (by push_cast; omega), h1]; rfl
    · have hc : ¬ [a].contains (base + (i : Int)) = true := by simp [h1]
      rw [if_neg hc, List.append_nil]
      exact ifc (by push_cast; omega) rfl
theorem filtR_two {a base : Int} (h : base ≤ a) : ∀ i : Nat, filtR [a, a + 1] base i = if a + 1 < base + i then [a, a + 1] else if a < base + i then [a] else []
  | 0 => by rw [if_neg (by omega), if_neg (by omega)]; rfl
  | i + 1 => by
    unfold filtR
    rw [filtR_two h i]
    by_cases h1 : base + (i : Int) = a
    · rw [if_neg (by omega), if_neg (by omega), if_pos (by simp [h1]), if_neg (by push_cast; omega), if_pos (by push_cast; omega), h1]; rfl
    · by_cases h2 : base + (i : Int) = a + 1
      · rw [if_neg (by omega), if_pos (by omega), if_pos (by simp [h2]), if_pos (by push_cast; omega), h2]; rfl
      · have hc : ¬ [a, a + 1].contains (base + (i : Int)) = true := by simp [h1, h2]
        rw [if_neg hc, List.append_nil]
        exact ifc (by push_cast; omega) (ifc (by push_cast; omega) rfl)
theorem filtR_len (Q : List Int) (base : Int) : ∀ i : Nat, (filtR Q base i).length ≤ i
  | 0 => by simp [filtR]
  | i + 1 => by
    have := filtR_len Q base i
    unfold filtR
    split <;> simp <;> omega
/-- Going through the numbers around a second finds the seconds. -/
theorem filt_secs {b u x : Int} {l : List (Int × Int)} (hk : checkF b l u = 0) : filtR (secsF l u x) (x - 63072000 - 102) 205 = secsF l u x := by
  obtain ⟨h1, h2, h3, h4, h5, h6⟩ := checkF_right hk
  have hgb := h6.take l.length (40587 + x / 86400)
  rw [List.take_length] at hgb
  unfold secsF
  split
  · exact filtR_nil _ _
  · have hb : beginF l (40587 + x / 86400) = 86400 * (40587 + x / 86400 - 41317) + grownF l (40587 + x / 86400) := rfl
    unfold secA secB
    generalize beginF l (40587 + x / 86400) = g at *
    split
    · rename_i hA
      split
      · rw [hA.2.2.1, show [g - 1] ++ [g + 0] = [g - 1, g - 1 + 1] by simp, filtR_two (by omega), if_pos (by have : ((205 : Nat) : Int) = 205 := rfl; omega)]
      · rw [List.append_nil, filtR_one (by omega), if_pos (by have : ((205 : Nat) : Int) = 205 := rfl; omega)]
    · split
      · rw [List.nil_append, filtR_one (by omega), if_pos (by have : ((205 : Nat) : Int) = 205 := rfl; omega)]
      · exact filtR_nil _ _
theorem secs_early {l : List (Int × Int)} {u x : Int} (h : ¬ (0 ≤ x ∧ x ≤ 10000000000)) : secsF l u x = [] := by
  unfold secsF
  rw [if_pos (by omega)]
end Go.Proofs.Ytleipbanadnchaa.C
