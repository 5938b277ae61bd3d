/- Contracts of Check, by hand. -/
import Derived.OwnWalk
import Derived.Deep.RegionHeld3
import Derived.Test.YtjgnadighdbjlaaCc
namespace Go.Proofs.Ytjgnadighdbjlaa.C
open Go.RowKit Go.Shelf Go.Maps Go.Proofs.YtjgnadighdbjlaaW.PrintWords Go.Proofs.YtjgnadighdbjlaaW.PrintLast Go.Proofs.YtjgnadighdbjlaaW.PrintMore
set_option linter.unusedVariables false
set_option linter.unusedSimpArgs false
attribute [local go_sem] run_store_func
/-- The rules of counters, in memory. -/
def RulesAt (w : World) (g : Nat) : Prop :=
  ∃ v0 v1 v2 v3 v4 v5 v6, w.cell? ⟨g, 0, none⟩ = some v0 ∧ w.cell? ⟨g, 1, none⟩ = some v1 ∧ w.cell? ⟨g, 2, none⟩ = some v2 ∧ w.cell? ⟨g, 3, none⟩ = some v3 ∧ w.cell? ⟨g, 4, none⟩ = some v4 ∧ w.cell? ⟨g, 5, none⟩ = some v5 ∧ w.cell? ⟨g, 6, none⟩ = some v6 ∧ w.cell? ⟨g, 7, none⟩ = some (.func (.func 70) #[] #[]) ∧
   RuleAt w v0 63 1 1000 ∧ RuleAt w v1 64 (-1000000000000) 1000000000000 ∧ RuleAt w v2 65 0 1000000000 ∧ RuleAt w v3 66 1 1000000000 ∧ RuleAt w v4 67 1 1000000000000000 ∧ RuleAt w v5 68 1 100000 ∧ RuleAt w v6 69 0 1000000
set_option maxHeartbeats 4000000 in
theorem rules_calls (w : World) :
    Calls Try.prog 41 #[] w fun e w' => (∃ g, e = .returned (.slice (some ⟨g, 0, none⟩) 8 8) ∧ RulesAt w' g) ∧ Below w.heap.size w w' := by
  have hv := Below.refl w.heap.size w
  go_enter Try.func41, Try.ntmps41
  go_wp2_with fail
  refine (between_calls 63 1 1000 _).mono ?_
  rintro en w1 ⟨⟨v0, rfl, r0⟩, hB⟩
  replace hv := hv.trans (hB.mono hv.size)
  clear hB
  go_wp2_with fail
  refine (between_calls 64 (-1000000000000) 1000000000000 _).mono ?_
  rintro en w2 ⟨⟨v1, rfl, r1⟩, hB⟩
  replace r0 := r0.below hB
  replace hv := hv.trans (hB.mono hv.size)
  clear hB
  go_wp2_with fail
  refine (between_calls 65 0 1000000000 _).mono ?_
  rintro en w3 ⟨⟨v2, rfl, r2⟩, hB⟩
  replace r0 := r0.below hB
  replace r1 := r1.below hB
  replace hv := hv.trans (hB.mono hv.size)
  clear hB
  go_wp2_with fail
  refine (between_calls 66 1 1000000000 _).mono ?_
  rintro en w4 ⟨⟨v3, rfl, r3⟩, hB⟩
  replace r0 := r0.below hB
  replace r1 := r1.below hB
  replace r2 := r2.below hB
  replace hv := hv.trans (hB.mono hv.size)
  clear hB
  go_wp2_with fail
  refine (between_calls 67 1 1000000000000000 _).mono ?_
  rintro en w5 ⟨⟨v4, rfl, r4⟩, hB⟩
  replace r0 := r0.below hB
  replace r1 := r1.below hB
  replace r2 := r2.below hB
  replace r3 := r3.below hB
  replace hv := hv.trans (hB.mono hv.size)
  clear hB
  go_wp2_with fail
  refine (between_calls 68 1 100000 _).mono ?_
  rintro en w6 ⟨⟨v5, rfl, r5⟩, hB⟩
  replace r0 := r0.below hB
  replace r1 := r1.below hB
  replace r2 := r2.below hB
  replace r3 := r3.below hB
  replace r4 := r4.below hB
  replace hv := hv.trans (hB.mono hv.size)
  clear hB
  go_wp2_with fail
  refine (between_calls 69 0 1000000 _).mono ?_
  rintro en w7 ⟨⟨v6, rfl, r6⟩, hB⟩
  replace r0 := r0.below hB
  replace r1 := r1.below hB
  replace r2 := r2.below hB
  replace r3 := r3.below hB
  replace r4 := r4.below hB
  replace r5 := r5.below hB
  replace hv := hv.trans (hB.mono hv.size)
  clear hB
  go_wp2_with fail
  go_ret
  have hB := (Below.refl w7.heap.size w7).alloc (Nat.le_refl _) (.cells #[v0, v1, v2, v3, v4, v5, v6, .func (.func 70) #[] #[]] 92)
  have k := al_new w7 (.cells #[v0, v1, v2, v3, v4, v5, v6, .func (.func 70) #[] #[]] 92) w7.heap.size rfl
  exact ⟨⟨_, rfl, v0, v1, v2, v3, v4, v5, v6, blk_cell k 0, blk_cell k 1, blk_cell k 2, blk_cell k 3, blk_cell k 4, blk_cell k 5, blk_cell k 6, blk_cell k 7, r0.below hB, r1.below hB, r2.below hB, r3.below hB, r4.below hB, r5.below hB, r6.below hB⟩, hv.trans (hB.mono hv.size)⟩
theorem RulesAt.below {w w' : World} {g : Nat} (h : RulesAt w g) (hB : Below w.heap.size w w') : RulesAt w' g := by
  obtain ⟨v0, v1, v2, v3, v4, v5, v6, c0, c1, c2, c3, c4, c5, c6, c7, r0, r1, r2, r3, r4, r5, r6⟩ := h
  exact ⟨v0, v1, v2, v3, v4, v5, v6, cell_on hB c0, cell_on hB c1, cell_on hB c2, cell_on hB c3, cell_on hB c4, cell_on hB c5, cell_on hB c6, cell_on hB c7, r0.below hB, r1.below hB, r2.below hB, r3.below hB, r4.below hB, r5.below hB, r6.below hB⟩
/-- The rules of a counter, one after the other. -/
def ruleL (F O J G R D I : Int) : List Bool := [decide (1 ≤ F) && decide (F ≤ 1000), decide ((-1000000000000) ≤ O) && decide (O ≤ 1000000000000), decide (0 ≤ J) && decide (J ≤ 1000000000), decide (1 ≤ G) && decide (G ≤ 1000000000), decide (1 ≤ R) && decide (R ≤ 1000000000000000), decide (1 ≤ D) && decide (D ≤ 100000), decide (0 ≤ I) && decide (I ≤ 1000000), decide (R % (2 * G) = 0)]
/-- A right counter. -/
def okC (F O J G R D I : Int) : Bool := (ruleL F O J G R D I).all id
theorem okC_of {L : List Bool} (i : Nat) (h : ∀ j, j < i → L[j]? = some true) (hi : L.length ≤ i) : L.all id = true := by
  rw [List.all_eq_true]
  intro x hx
  obtain ⟨j, hj, rfl⟩ := List.getElem_of_mem hx
  have := h j (by omega)
  rw [List.getElem?_eq_getElem hj] at this
  simpa using this
theorem okC_not {L : List Bool} (i : Nat) (h : L[i]? = some false) : L.all id = false := by
  obtain ⟨hi, he⟩ := List.getElem?_eq_some_iff.1 h
  rw [List.all_eq_false]
  exact ⟨L[i], List.getElem_mem hi, by simp [he]⟩
theorem okC_succ {L : List Bool} {i : Nat} (h : ∀ j, j < i → L[j]? = some true) (hi : L[i]? = some true) : ∀ j, j < i + 1 → L[j]? = some true := by
  intro j hj
  rcases Nat.lt_or_ge j i with c | c
  · exact h j c
  · obtain rfl : j = i := by omega
    exact hi
set_option maxHeartbeats 4000000 in
theorem Check_calls (F O J G R D I : Int) (w : World) :
    Calls Try.prog 18 #[.agg #[.int .i64 F, .int .i64 O, .int .i64 J, .int .i64 G, .int .i64 R, .int .i64 D, .int .i64 I]] w fun e w' => e = .returned (.int .i64 (if okC F O J G R D I then 0 else 30)) ∧ Below w.heap.size w w' := by
  have cr := fun w => rules_calls w
  have hv := Below.refl w.heap.size w
  generalize hq : (if okC F O J G R D I then (0 : Int) else 30) = q at *
  have HQ := Aside0.mk hq
  clear hq
  go_enter Try.func18, Try.ntmps18
  go_wp2_with fail
  obtain ⟨w1, hw1⟩ : ∃ w1, w.alloc (.cells #[.int .i64 F, .int .i64 O, .int .i64 J, .int .i64 G, .int .i64 R, .int .i64 D, .int .i64 I] 51) = w1 := ⟨_, rfl⟩
  try rw [hw1]
  have hB : Below w.heap.size w w1 := by rw [← hw1]; exact (Below.refl _ w).alloc (by first | exact Nat.le_refl _ | (simp; done) | (simp; omega)) _
  have kx : w1.heap[w.heap.size]? = some (.cells #[.int .i64 F, .int .i64 O, .int .i64 J, .int .i64 G, .int .i64 R, .int .i64 D, .int .i64 I] 51 (0, 0)) := by rw [← hw1]; exact al_new _ _ _ (by first | rfl | (simp; done) | (simp; omega))
  have x0 : w1.cell? ⟨w.heap.size, 0, none⟩ = some (.int .i64 F) := blk_cell kx 0
  have x1 : w1.cell? ⟨w.heap.size, 1, none⟩ = some (.int .i64 O) := blk_cell kx 1
  have x2 : w1.cell? ⟨w.heap.size, 2, none⟩ = some (.int .i64 J) := blk_cell kx 2
  have x3 : w1.cell? ⟨w.heap.size, 3, none⟩ = some (.int .i64 G) := blk_cell kx 3
  have x4 : w1.cell? ⟨w.heap.size, 4, none⟩ = some (.int .i64 R) := blk_cell kx 4
  have x5 : w1.cell? ⟨w.heap.size, 5, none⟩ = some (.int .i64 D) := blk_cell kx 5
  have x6 : w1.cell? ⟨w.heap.size, 6, none⟩ = some (.int .i64 I) := blk_cell kx 6
  clear kx
  replace hv := hv.trans (hB.mono hv.size)
  clear hB hw1
  refine (cr _).mono ?_
  rintro en w2 ⟨⟨g, rfl, hR⟩, hB⟩
  replace x0 := cell_on hB x0
  replace x1 := cell_on hB x1
  replace x2 := cell_on hB x2
  replace x3 := cell_on hB x3
  replace x4 := cell_on hB x4
  replace x5 := cell_on hB x5
  replace x6 := cell_on hB x6
  replace hv := hv.trans (hB.mono hv.size)
  clear hB cr
  go_wp2_with fail
  have HX : Aside0 (w2.cell? ⟨w.heap.size, 0, none⟩ = some (.int .i64 F) ∧ w2.cell? ⟨w.heap.size, 1, none⟩ = some (.int .i64 O) ∧ w2.cell? ⟨w.heap.size, 2, none⟩ = some (.int .i64 J) ∧ w2.cell? ⟨w.heap.size, 3, none⟩ = some (.int .i64 G) ∧ w2.cell? ⟨w.heap.size, 4, none⟩ = some (.int .i64 R) ∧ w2.cell? ⟨w.heap.size, 5, none⟩ = some (.int .i64 D) ∧ w2.cell? ⟨w.heap.size, 6, none⟩ = some (.int .i64 I)) := ⟨x0, x1, x2, x3, x4, x5, x6⟩
  have HR := Aside0.mk hR
  have HV := Aside0.mk hv
  clear hv hR x0 x1 x2 x3 x4 x5 x6
  go_loopw [7] (fun v7 wr => ∃ i : Nat, i ≤ 8 ∧ v7 = .int .i64 i ∧ Aside0 (∀ j, j < i → (ruleL F O J G R D I)[j]? = some true) ∧ Aside0 (Below w2.heap.size w2 wr)) (fun v _ => 8 - (intOf v).toNat)
  case atStart => exact ⟨0, by omega, rfl, ⟨fun j h => absurd h (Nat.not_lt_zero _)⟩, ⟨Below.refl _ _⟩⟩
  case round =>
    obtain ⟨i, hi, rfl, HL, HW⟩ := hrel
    obtain ⟨v0, v1, v2, v3, v4, v5, v6, c0, c1, c2, c3, c4, c5, c6, c7, r0, r1, r2, r3, r4, r5, r6⟩ := HR.out.below HW.out
    obtain ⟨x0, x1, x2, x3, x4, x5, x6⟩ := HX.out
    replace x0 := cell_on HW.out x0
    replace x1 := cell_on HW.out x1
    replace x2 := cell_on HW.out x2
    replace x3 := cell_on HW.out x3
    replace x4 := cell_on HW.out x4
    replace x5 := cell_on HW.out x5
    replace x6 := cell_on HW.out x6
    have hv := HW.out
    have hi9 : i = 0 ∨ i = 1 ∨ i = 2 ∨ i = 3 ∨ i = 4 ∨ i = 5 ∨ i = 6 ∨ i = 7 ∨ i = 8 := by omega
    rcases hi9 with rfl | rfl | rfl | rfl | rfl | rfl | rfl | rfl | rfl
    · clear c1 r1 c2 r2 c3 r3 c4 r4 c5 r5 c6 r6 c7
      obtain ⟨p, q', r, rfl, e1, e2, e3⟩ := r0
      have cc := fun W h1 h2 h3 => rule0_calls F O J G R D I p q' r W h1 h2 h3
      have HB : Aside0 ((ruleL F O J G R D I)[0]? = some (decide (1 ≤ F) && decide (F ≤ 1000))) := ⟨rfl⟩
      generalize (decide (1 ≤ F) && decide (F ≤ 1000)) = bb at *
      have hs1 := World.block_lt_of_cell? _ _ c0
      have hs2 := World.block_lt_of_cell? _ _ x0
      have hs3 := World.block_lt_of_cell? _ _ e1
      have hs4 := World.block_lt_of_cell? _ _ e2
      have hs5 := World.block_lt_of_cell? _ _ e3
      go_wp2_with fail
      clear hs1 hs2 hs3 hs4 hs5
      obtain ⟨w1, hw1⟩ : ∃ w1, wr.alloc (.cells #[.func (.func 62) #[] #[.pointer (some ⟨p, 0, none⟩), .pointer (some ⟨q', 0, none⟩), .pointer (some ⟨r, 0, none⟩)]] 92) = w1 := ⟨_, rfl⟩
      try rw [hw1]
      have hB : Below wr.heap.size wr w1 := by rw [← hw1]; exact (Below.refl _ wr).alloc (by first | exact Nat.le_refl _ | (simp; done) | (simp; omega)) _
      replace e1 := cell_on hB e1
      replace e2 := cell_on hB e2
      replace e3 := cell_on hB e3
      replace hv := hv.trans (hB.mono hv.size)
      clear hB hw1
      refine (cc _ e1 e2 e3).mono ?_
      rintro en w2 ⟨rfl, hB⟩
      replace e1 := cell_on hB e1
      replace e2 := cell_on hB e2
      replace e3 := cell_on hB e3
      replace hv := hv.trans (hB.mono hv.size)
      clear hB cc
      cases bb
      · go_wp2_with fail
        go_ret
        exact ⟨by rw [← HQ.out, show okC F O J G R D I = false from okC_not 0 HB.out]; rfl, HV.out.trans (hv.mono HV.out.size)⟩
      · have HN : Aside0 (∀ j, j < 0 + 1 → (ruleL F O J G R D I)[j]? = some true) := ⟨okC_succ HL.out HB.out⟩
        have HW2 := Aside0.mk hv
        clear hv
        go_wp2_with fail
        go_roundw
        case rel => exact ⟨1, by omega, rfl, HN, HW2⟩
        case measure => simp [intOf]
    · clear c0 r0 c2 r2 c3 r3 c4 r4 c5 r5 c6 r6 c7
      obtain ⟨p, q', r, rfl, e1, e2, e3⟩ := r1
      have cc := fun W h1 h2 h3 => rule1_calls F O J G R D I p q' r W h1 h2 h3
      have HB : Aside0 ((ruleL F O J G R D I)[1]? = some (decide ((-1000000000000) ≤ O) && decide (O ≤ 1000000000000))) := ⟨rfl⟩
      generalize (decide ((-1000000000000) ≤ O) && decide (O ≤ 1000000000000)) = bb at *
      have hs1 := World.block_lt_of_cell? _ _ c1
      have hs2 := World.block_lt_of_cell? _ _ x0
      have hs3 := World.block_lt_of_cell? _ _ e1
      have hs4 := World.block_lt_of_cell? _ _ e2
      have hs5 := World.block_lt_of_cell? _ _ e3
      go_wp2_with fail
      clear hs1 hs2 hs3 hs4 hs5
      obtain ⟨w1, hw1⟩ : ∃ w1, wr.alloc (.cells #[.func (.func 62) #[] #[.pointer (some ⟨p, 0, none⟩), .pointer (some ⟨q', 0, none⟩), .pointer (some ⟨r, 0, none⟩)]] 92) = w1 := ⟨_, rfl⟩
      try rw [hw1]
      have hB : Below wr.heap.size wr w1 := by rw [← hw1]; exact (Below.refl _ wr).alloc (by first | exact Nat.le_refl _ | (simp; done) | (simp; omega)) _
      replace e1 := cell_on hB e1
      replace e2 := cell_on hB e2
      replace e3 := cell_on hB e3
      replace hv := hv.trans (hB.mono hv.size)
      clear hB hw1
      refine (cc _ e1 e2 e3).mono ?_
      rintro en w2 ⟨rfl, hB⟩
      replace e1 := cell_on hB e1
      replace e2 := cell_on hB e2
      replace e3 := cell_on hB e3
      replace hv := hv.trans (hB.mono hv.size)
      clear hB cc
      cases bb
      · go_wp2_with fail
        go_ret
        exact ⟨by rw [← HQ.out, show okC F O J G R D I = false from okC_not 1 HB.out]; rfl, HV.out.trans (hv.mono HV.out.size)⟩
      · have HN : Aside0 (∀ j, j < 1 + 1 → (ruleL F O J G R D I)[j]? = some true) := ⟨okC_succ HL.out HB.out⟩
        have HW2 := Aside0.mk hv
        clear hv
        go_wp2_with fail
        go_roundw
        case rel => exact ⟨2, by omega, rfl, HN, HW2⟩
        case measure => simp [intOf]
    · clear c0 r0 c1 r1 c3 r3 c4 r4 c5 r5 c6 r6 c7
      obtain ⟨p, q', r, rfl, e1, e2, e3⟩ := r2
      have cc := fun W h1 h2 h3 => rule2_calls F O J G R D I p q' r W h1 h2 h3
      have HB : Aside0 ((ruleL F O J G R D I)[2]? = some (decide (0 ≤ J) && decide (J ≤ 1000000000))) := ⟨rfl⟩
      generalize (decide (0 ≤ J) && decide (J ≤ 1000000000)) = bb at *
      have hs1 := World.block_lt_of_cell? _ _ c2
      have hs2 := World.block_lt_of_cell? _ _ x0
      have hs3 := World.block_lt_of_cell? _ _ e1
      have hs4 := World.block_lt_of_cell? _ _ e2
      have hs5 := World.block_lt_of_cell? _ _ e3
      go_wp2_with fail
      clear hs1 hs2 hs3 hs4 hs5
      obtain ⟨w1, hw1⟩ : ∃ w1, wr.alloc (.cells #[.func (.func 62) #[] #[.pointer (some ⟨p, 0, none⟩), .pointer (some ⟨q', 0, none⟩), .pointer (some ⟨r, 0, none⟩)]] 92) = w1 := ⟨_, rfl⟩
      try rw [hw1]
      have hB : Below wr.heap.size wr w1 := by rw [← hw1]; exact (Below.refl _ wr).alloc (by first | exact Nat.le_refl _ | (simp; done) | (simp; omega)) _
      replace e1 := cell_on hB e1
      replace e2 := cell_on hB e2
      replace e3 := cell_on hB e3
      replace hv := hv.trans (hB.mono hv.size)
      clear hB hw1
      refine (cc _ e1 e2 e3).mono ?_
      rintro en w2 ⟨rfl, hB⟩
      replace e1 := cell_on hB e1
      replace e2 := cell_on hB e2
      replace e3 := cell_on hB e3
      replace hv := hv.trans (hB.mono hv.size)
      clear hB cc
      cases bb
      · go_wp2_with fail
        go_ret
        exact ⟨by rw [← HQ.out, show okC F O J G R D I = false from okC_not 2 HB.out]; rfl, HV.out.trans (hv.mono HV.out.size)⟩
      · have HN : Aside0 (∀ j, j < 2 + 1 → (ruleL F O J G R D I)[j]? = some true) := ⟨okC_succ HL.out HB.out⟩
        have HW2 := Aside0.mk hv
        clear hv
        go_wp2_with fail
        go_roundw
        case rel => exact ⟨3, by omega, rfl, HN, HW2⟩
        case measure => simp [intOf]
    · clear c0 r0 c1 r1 c2 r2 c4 r4 c5 r5 c6 r6 c7
      obtain ⟨p, q', r, rfl, e1, e2, e3⟩ := r3
      have cc := fun W h1 h2 h3 => rule3_calls F O J G R D I p q' r W h1 h2 h3
      have HB : Aside0 ((ruleL F O J G R D I)[3]? = some (decide (1 ≤ G) && decide (G ≤ 1000000000))) := ⟨rfl⟩
      generalize (decide (1 ≤ G) && decide (G ≤ 1000000000)) = bb at *
      have hs1 := World.block_lt_of_cell? _ _ c3
      have hs2 := World.block_lt_of_cell? _ _ x0
      have hs3 := World.block_lt_of_cell? _ _ e1
      have hs4 := World.block_lt_of_cell? _ _ e2
      have hs5 := World.block_lt_of_cell? _ _ e3
      go_wp2_with fail
      clear hs1 hs2 hs3 hs4 hs5
      obtain ⟨w1, hw1⟩ : ∃ w1, wr.alloc (.cells #[.func (.func 62) #[] #[.pointer (some ⟨p, 0, none⟩), .pointer (some ⟨q', 0, none⟩), .pointer (some ⟨r, 0, none⟩)]] 92) = w1 := ⟨_, rfl⟩
      try rw [hw1]
      have hB : Below wr.heap.size wr w1 := by rw [← hw1]; exact (Below.refl _ wr).alloc (by first | exact Nat.le_refl _ | (simp; done) | (simp; omega)) _
      replace e1 := cell_on hB e1
      replace e2 := cell_on hB e2
      replace e3 := cell_on hB e3
      replace hv := hv.trans (hB.mono hv.size)
      clear hB hw1
      refine (cc _ e1 e2 e3).mono ?_
      rintro en w2 ⟨rfl, hB⟩
      replace e1 := cell_on hB e1
      replace e2 := cell_on hB e2
      replace e3 := cell_on hB e3
      replace hv := hv.trans (hB.mono hv.size)
      clear hB cc
      cases bb
      · go_wp2_with fail
        go_ret
        exact ⟨by rw [← HQ.out, show okC F O J G R D I = false from okC_not 3 HB.out]; rfl, HV.out.trans (hv.mono HV.out.size)⟩
      · have HN : Aside0 (∀ j, j < 3 + 1 → (ruleL F O J G R D I)[j]? = some true) := ⟨okC_succ HL.out HB.out⟩
        have HW2 := Aside0.mk hv
        clear hv
        go_wp2_with fail
        go_roundw
        case rel => exact ⟨4, by omega, rfl, HN, HW2⟩
        case measure => simp [intOf]
    · clear c0 r0 c1 r1 c2 r2 c3 r3 c5 r5 c6 r6 c7
      obtain ⟨p, q', r, rfl, e1, e2, e3⟩ := r4
      have cc := fun W h1 h2 h3 => rule4_calls F O J G R D I p q' r W h1 h2 h3
      have HB : Aside0 ((ruleL F O J G R D I)[4]? = some (decide (1 ≤ R) && decide (R ≤ 1000000000000000))) := ⟨rfl⟩
      generalize (decide (1 ≤ R) && decide (R ≤ 1000000000000000)) = bb at *
      have hs1 := World.block_lt_of_cell? _ _ c4
      have hs2 := World.block_lt_of_cell? _ _ x0
      have hs3 := World.block_lt_of_cell? _ _ e1
      have hs4 := World.block_lt_of_cell? _ _ e2
      have hs5 := World.block_lt_of_cell? _ _ e3
      go_wp2_with fail
      clear hs1 hs2 hs3 hs4 hs5
      obtain ⟨w1, hw1⟩ : ∃ w1, wr.alloc (.cells #[.func (.func 62) #[] #[.pointer (some ⟨p, 0, none⟩), .pointer (some ⟨q', 0, none⟩), .pointer (some ⟨r, 0, none⟩)]] 92) = w1 := ⟨_, rfl⟩
      try rw [hw1]
      have hB : Below wr.heap.size wr w1 := by rw [← hw1]; exact (Below.refl _ wr).alloc (by first | exact Nat.le_refl _ | (simp; done) | (simp; omega)) _
      replace e1 := cell_on hB e1
      replace e2 := cell_on hB e2
      replace e3 := cell_on hB e3
      replace hv := hv.trans (hB.mono hv.size)
      clear hB hw1
      refine (cc _ e1 e2 e3).mono ?_
      rintro en w2 ⟨rfl, hB⟩
      replace e1 := cell_on hB e1
      replace e2 := cell_on hB e2
      replace e3 := cell_on hB e3
      replace hv := hv.trans (hB.mono hv.size)
      clear hB cc
      cases bb
      · go_wp2_with fail
        go_ret
        exact ⟨by rw [← HQ.out, show okC F O J G R D I = false from okC_not 4 HB.out]; rfl, HV.out.trans (hv.mono HV.out.size)⟩
      · have HN : Aside0 (∀ j, j < 4 + 1 → (ruleL F O J G R D I)[j]? = some true) := ⟨okC_succ HL.out HB.out⟩
        have HW2 := Aside0.mk hv
        clear hv
        go_wp2_with fail
        go_roundw
        case rel => exact ⟨5, by omega, rfl, HN, HW2⟩
        case measure => simp [intOf]
    · clear c0 r0 c1 r1 c2 r2 c3 r3 c4 r4 c6 r6 c7
      obtain ⟨p, q', r, rfl, e1, e2, e3⟩ := r5
      have cc := fun W h1 h2 h3 => rule5_calls F O J G R D I p q' r W h1 h2 h3
      have HB : Aside0 ((ruleL F O J G R D I)[5]? = some (decide (1 ≤ D) && decide (D ≤ 100000))) := ⟨rfl⟩
      generalize (decide (1 ≤ D) && decide (D ≤ 100000)) = bb at *
      have hs1 := World.block_lt_of_cell? _ _ c5
      have hs2 := World.block_lt_of_cell? _ _ x0
      have hs3 := World.block_lt_of_cell? _ _ e1
      have hs4 := World.block_lt_of_cell? _ _ e2
      have hs5 := World.block_lt_of_cell? _ _ e3
      go_wp2_with fail
      clear hs1 hs2 hs3 hs4 hs5
      obtain ⟨w1, hw1⟩ : ∃ w1, wr.alloc (.cells #[.func (.func 62) #[] #[.pointer (some ⟨p, 0, none⟩), .pointer (some ⟨q', 0, none⟩), .pointer (some ⟨r, 0, none⟩)]] 92) = w1 := ⟨_, rfl⟩
      try rw [hw1]
      have hB : Below wr.heap.size wr w1 := by rw [← hw1]; exact (Below.refl _ wr).alloc (by first | exact Nat.le_refl _ | (simp; done) | (simp; omega)) _
      replace e1 := cell_on hB e1
      replace e2 := cell_on hB e2
      replace e3 := cell_on hB e3
      replace hv := hv.trans (hB.mono hv.size)
      clear hB hw1
      refine (cc _ e1 e2 e3).mono ?_
      rintro en w2 ⟨rfl, hB⟩
      replace e1 := cell_on hB e1
      replace e2 := cell_on hB e2
      replace e3 := cell_on hB e3
      replace hv := hv.trans (hB.mono hv.size)
      clear hB cc
      cases bb
      · go_wp2_with fail
        go_ret
        exact ⟨by rw [← HQ.out, show okC F O J G R D I = false from okC_not 5 HB.out]; rfl, HV.out.trans (hv.mono HV.out.size)⟩
      · have HN : Aside0 (∀ j, j < 5 + 1 → (ruleL F O J G R D I)[j]? = some true) := ⟨okC_succ HL.out HB.out⟩
        have HW2 := Aside0.mk hv
        clear hv
        go_wp2_with fail
        go_roundw
        case rel => exact ⟨6, by omega, rfl, HN, HW2⟩
        case measure => simp [intOf]
    · clear c0 r0 c1 r1 c2 r2 c3 r3 c4 r4 c5 r5 c7
      obtain ⟨p, q', r, rfl, e1, e2, e3⟩ := r6
      have cc := fun W h1 h2 h3 => rule6_calls F O J G R D I p q' r W h1 h2 h3
      have HB : Aside0 ((ruleL F O J G R D I)[6]? = some (decide (0 ≤ I) && decide (I ≤ 1000000))) := ⟨rfl⟩
      generalize (decide (0 ≤ I) && decide (I ≤ 1000000)) = bb at *
      have hs1 := World.block_lt_of_cell? _ _ c6
      have hs2 := World.block_lt_of_cell? _ _ x0
      have hs3 := World.block_lt_of_cell? _ _ e1
      have hs4 := World.block_lt_of_cell? _ _ e2
      have hs5 := World.block_lt_of_cell? _ _ e3
      go_wp2_with fail
      clear hs1 hs2 hs3 hs4 hs5
      obtain ⟨w1, hw1⟩ : ∃ w1, wr.alloc (.cells #[.func (.func 62) #[] #[.pointer (some ⟨p, 0, none⟩), .pointer (some ⟨q', 0, none⟩), .pointer (some ⟨r, 0, none⟩)]] 92) = w1 := ⟨_, rfl⟩
      try rw [hw1]
      have hB : Below wr.heap.size wr w1 := by rw [← hw1]; exact (Below.refl _ wr).alloc (by first | exact Nat.le_refl _ | (simp; done) | (simp; omega)) _
      replace e1 := cell_on hB e1
      replace e2 := cell_on hB e2
      replace e3 := cell_on hB e3
      replace hv := hv.trans (hB.mono hv.size)
      clear hB hw1
      refine (cc _ e1 e2 e3).mono ?_
      rintro en w2 ⟨rfl, hB⟩
      replace e1 := cell_on hB e1
      replace e2 := cell_on hB e2
      replace e3 := cell_on hB e3
      replace hv := hv.trans (hB.mono hv.size)
      clear hB cc
      cases bb
      · go_wp2_with fail
        go_ret
        exact ⟨by rw [← HQ.out, show okC F O J G R D I = false from okC_not 6 HB.out]; rfl, HV.out.trans (hv.mono HV.out.size)⟩
      · have HN : Aside0 (∀ j, j < 6 + 1 → (ruleL F O J G R D I)[j]? = some true) := ⟨okC_succ HL.out HB.out⟩
        have HW2 := Aside0.mk hv
        clear hv
        go_wp2_with fail
        go_roundw
        case rel => exact ⟨7, by omega, rfl, HN, HW2⟩
        case measure => simp [intOf]
    · clear c0 r0 c1 r1 c2 r2 c3 r3 c4 r4 c5 r5 c6 r6
      have g3 : (ruleL F O J G R D I)[3]? = some true := HL.out 3 (by omega)
      have g4 : (ruleL F O J G R D I)[4]? = some true := HL.out 4 (by omega)
      simp only [ruleL, List.getElem?_cons_succ, List.getElem?_cons_zero, Option.some.injEq, Bool.and_eq_true, decide_eq_true_eq] at g3 g4
      have cc := fun W => range_calls F O J G R D I W g3 g4
      clear g3 g4
      have HB : Aside0 ((ruleL F O J G R D I)[7]? = some (decide (R % (2 * G) = 0))) := ⟨rfl⟩
      generalize (decide (R % (2 * G) = 0)) = bb at *
      have hs1 := World.block_lt_of_cell? _ _ c7
      have hs2 := World.block_lt_of_cell? _ _ x0
      go_wp2_with fail
      clear hs1 hs2
      obtain ⟨w1, hw1⟩ : ∃ w1, wr.alloc (.cells #[.func (.func 70) #[] #[]] 92) = w1 := ⟨_, rfl⟩
      try rw [hw1]
      have hB : Below wr.heap.size wr w1 := by rw [← hw1]; exact (Below.refl _ wr).alloc (by first | exact Nat.le_refl _ | (simp; done) | (simp; omega)) _
      replace hv := hv.trans (hB.mono hv.size)
      clear hB hw1
      refine (cc _).mono ?_
      rintro en w2 ⟨rfl, hB⟩
      replace hv := hv.trans (hB.mono hv.size)
      clear hB cc
      cases bb
      · go_wp2_with fail
        go_ret
        exact ⟨by rw [← HQ.out, show okC F O J G R D I = false from okC_not 7 HB.out]; rfl, HV.out.trans (hv.mono HV.out.size)⟩
      · have HN : Aside0 (∀ j, j < 7 + 1 → (ruleL F O J G R D I)[j]? = some true) := ⟨okC_succ HL.out HB.out⟩
        have HW2 := Aside0.mk hv
        clear hv
        go_wp2_with fail
        go_roundw
        case rel => exact ⟨8, by omega, rfl, HN, HW2⟩
        case measure => simp [intOf]
    · have HN : Aside0 (q = 0) := ⟨by rw [← HQ.out, show okC F O J G R D I = true from okC_of 8 HL.out (by simp [ruleL])]; rfl⟩
      go_wp2_with fail
      go_ret
      exact ⟨by rw [HN.out]; rfl, HV.out.trans (hv.mono HV.out.size)⟩
end Go.Proofs.Ytjgnadighdbjlaa.C
