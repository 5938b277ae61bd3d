/- Contracts of the counter's rules, by hand. -/
import Derived.OwnWalk
import Derived.Deep.RegionHeld3
import Derived.Test.YtjgnadighdbjlaaCb
namespace Go.Proofs.Ytjgnadighdbjlaa.C
open Go.RowKit Go.Shelf Go.Maps Go.Proofs.YtjgnadighdbjlaaW.PrintWords Go.Proofs.YtjgnadighdbjlaaW.PrintLast Go.Proofs.YtjgnadighdbjlaaW.PrintMore
set_option linter.unusedVariables false
set_option linter.unusedSimpArgs false
theorem run_store_func {P : Program} {w : World} {a : Addr} {m : Mode} (f : Fn) (s : Array Value) (c : Array Value) : (store a (.func f s c) m).run P w = stored P w a (.func f s c) m := run_store P w a _ m rfl
attribute [local go_sem] run_store_func
theorem info92 : (Try.prog.info? 92).map (·.size) = some 1 := by kernel_rfl
theorem field0_calls (F O J G R D I : Int) (w : World) :
    Calls Try.prog 63 #[.agg #[.int .i64 F, .int .i64 O, .int .i64 J, .int .i64 G, .int .i64 R, .int .i64 D, .int .i64 I]] w fun e w' => e = .returned (.int .i64 F) ∧ Below w.heap.size w w' := by
  have hv := Below.refl w.heap.size w
  go_enter Try.func63, Try.ntmps63
  go_wp2
  go_ret
  exact ⟨rfl, hv.alloc (Nat.le_refl _) _⟩
theorem field1_calls (F O J G R D I : Int) (w : World) :
    Calls Try.prog 64 #[.agg #[.int .i64 F, .int .i64 O, .int .i64 J, .int .i64 G, .int .i64 R, .int .i64 D, .int .i64 I]] w fun e w' => e = .returned (.int .i64 O) ∧ Below w.heap.size w w' := by
  have hv := Below.refl w.heap.size w
  go_enter Try.func64, Try.ntmps64
  go_wp2
  go_ret
  exact ⟨rfl, hv.alloc (Nat.le_refl _) _⟩
theorem field2_calls (F O J G R D I : Int) (w : World) :
    Calls Try.prog 65 #[.agg #[.int .i64 F, .int .i64 O, .int .i64 J, .int .i64 G, .int .i64 R, .int .i64 D, .int .i64 I]] w fun e w' => e = .returned (.int .i64 J) ∧ Below w.heap.size w w' := by
  have hv := Below.refl w.heap.size w
  go_enter Try.func65, Try.ntmps65
  go_wp2
  go_ret
  exact ⟨rfl, hv.alloc (Nat.le_refl _) _⟩
theorem field3_calls (F O J G R D I : Int) (w : World) :
    Calls Try.prog 66 #[.agg #[.int .i64 F, .int .i64 O, .int .i64 J, .int .i64 G, .int .i64 R, .int .i64 D, .int .i64 I]] w fun e w' => e = .returned (.int .i64 G) ∧ Below w.heap.size w w' := by
  have hv := Below.refl w.heap.size w
  go_enter Try.func66, Try.ntmps66
  go_wp2
  go_ret
  exact ⟨rfl, hv.alloc (Nat.le_refl _) _⟩
theorem field4_calls (F O J G R D I : Int) (w : World) :
    Calls Try.prog 67 #[.agg #[.int .i64 F, .int .i64 O, .int .i64 J, .int .i64 G, .int .i64 R, .int .i64 D, .int .i64 I]] w fun e w' => e = .returned (.int .i64 R) ∧ Below w.heap.size w w' := by
  have hv := Below.refl w.heap.size w
  go_enter Try.func67, Try.ntmps67
  go_wp2
  go_ret
  exact ⟨rfl, hv.alloc (Nat.le_refl _) _⟩
theorem field5_calls (F O J G R D I : Int) (w : World) :
    Calls Try.prog 68 #[.agg #[.int .i64 F, .int .i64 O, .int .i64 J, .int .i64 G, .int .i64 R, .int .i64 D, .int .i64 I]] w fun e w' => e = .returned (.int .i64 D) ∧ Below w.heap.size w w' := by
  have hv := Below.refl w.heap.size w
  go_enter Try.func68, Try.ntmps68
  go_wp2
  go_ret
  exact ⟨rfl, hv.alloc (Nat.le_refl _) _⟩
theorem field6_calls (F O J G R D I : Int) (w : World) :
    Calls Try.prog 69 #[.agg #[.int .i64 F, .int .i64 O, .int .i64 J, .int .i64 G, .int .i64 R, .int .i64 D, .int .i64 I]] w fun e w' => e = .returned (.int .i64 I) ∧ Below w.heap.size w w' := by
  have hv := Below.refl w.heap.size w
  go_enter Try.func69, Try.ntmps69
  go_wp2
  go_ret
  exact ⟨rfl, hv.alloc (Nat.le_refl _) _⟩
theorem range_calls (F O J G R D I : Int) (w : World) (hG : 1 ≤ G ∧ G ≤ 1000000000) (hR : 1 ≤ R ∧ R ≤ 1000000000000000) :
    Calls Try.prog 70 #[.agg #[.int .i64 F, .int .i64 O, .int .i64 J, .int .i64 G, .int .i64 R, .int .i64 D, .int .i64 I]] w fun e w' => e = .returned (.bool (decide (R % (2 * G) = 0))) ∧ Below w.heap.size w w' := by
  have t0 := Int.tmod_eq_emod_of_nonneg (a := R) (by omega) (b := 2 * G)
  have HF : Aside0 (decide (R % (2 * G) = 0) = decide (R % (2 * G) = 0)) := ⟨rfl⟩
  have hv := Below.refl w.heap.size w
  go_enter Try.func70, Try.ntmps70
  go_wp2
  go_ret
  exact ⟨by first | rfl | (rw [← HF.out]; rfl), hv.alloc (Nat.le_refl _) _⟩
/-- A rule: a number of the counter is from a least to a greatest one. -/
def RuleAt (w : World) (v : Value) (f : Nat) (a b : Int) : Prop :=
  ∃ p q r, v = .func (.func 62) #[] #[.pointer (some ⟨p, 0, none⟩), .pointer (some ⟨q, 0, none⟩), .pointer (some ⟨r, 0, none⟩)] ∧
    w.cell? ⟨p, 0, none⟩ = some (.func (.func f) #[] #[]) ∧ w.cell? ⟨q, 0, none⟩ = some (.int .i64 a) ∧ w.cell? ⟨r, 0, none⟩ = some (.int .i64 b)
theorem RuleAt.below {w w' : World} {v : Value} {f : Nat} {a b : Int} (h : RuleAt w v f a b) (hB : Below w.heap.size w w') : RuleAt w' v f a b := by
  obtain ⟨p, q, r, e, h1, h2, h3⟩ := h
  exact ⟨p, q, r, e, cell_on hB h1, cell_on hB h2, cell_on hB h3⟩
theorem between_calls (f : Nat) (a b : Int) (w : World) :
    Calls Try.prog 61 #[.func (.func f) #[] #[], .int .i64 a, .int .i64 b] w fun e w' => (∃ v, e = .returned (.agg #[v]) ∧ RuleAt w' v f a b) ∧ Below w.heap.size w w' := by
  have hv := Below.refl w.heap.size w
  go_enter Try.func61, Try.ntmps61
  go_wp2_with fail
  have c1 := al_new w (.cells #[.func (.func f) #[] #[]] 106) w.heap.size rfl
  have c2 := al_new (w.alloc (.cells #[.func (.func f) #[] #[]] 106)) (.cells #[.int .i64 a] 3) (w.heap.size + 1) (by simp)
  have c3 := al_new ((w.alloc (.cells #[.func (.func f) #[] #[]] 106)).alloc (.cells #[.int .i64 a] 3)) (.cells #[.int .i64 b] 3) (w.heap.size + 1 + 1) (by simp)
  exact bodyPost_ret (results_cell_row rfl _ _ (w.heap.size + 1 + 1 + 1) 92 _ (0, 0) _ rfl (al_new _ _ _ (by simp)) Try.underlying92 rfl info92) rfl
    ⟨⟨_, rfl, _, _, _, rfl, blk_cell (al_old (al_old (al_old c1))) 0, blk_cell (al_old (al_old c2)) 0, blk_cell (al_old c3) 0⟩, (((hv.alloc (Nat.le_refl _) _).alloc (by simp) _).alloc (by simp; omega) _).alloc (by simp; omega) _⟩
set_option maxHeartbeats 1000000 in
theorem rule0_calls (F O J G R D I : Int) (p q r : Nat) (w : World) (hp : w.cell? ⟨p, 0, none⟩ = some (.func (.func 63) #[] #[])) (hq : w.cell? ⟨q, 0, none⟩ = some (.int .i64 1)) (hr : w.cell? ⟨r, 0, none⟩ = some (.int .i64 1000)) :
    Calls Try.prog 62 #[.agg #[.int .i64 F, .int .i64 O, .int .i64 J, .int .i64 G, .int .i64 R, .int .i64 D, .int .i64 I], .pointer (some ⟨p, 0, none⟩), .pointer (some ⟨q, 0, none⟩), .pointer (some ⟨r, 0, none⟩)] w fun e w' => e = .returned (.bool (decide (1 ≤ F) && decide (F ≤ 1000))) ∧ Below w.heap.size w w' := by
  have hv := Below.refl w.heap.size w
  have hs1 := World.block_lt_of_cell? _ _ hp
  have hs2 := World.block_lt_of_cell? _ _ hq
  have hs3 := World.block_lt_of_cell? _ _ hr
  have ca := fun w => field0_calls F O J G R D I w
  have cb := fun w => in_calls F 1 1000 w
  go_enter Try.func62, Try.ntmps62
  go_wp2_with fail
  obtain ⟨w1, hw1⟩ : ∃ w1, w.alloc (.cells #[.int .i64 F, .int .i64 O, .int .i64 J, .int .i64 G, .int .i64 R, .int .i64 D, .int .i64 I] 51) = w1 := ⟨_, rfl⟩
  try rw [hw1]
  have hB : Below w.heap.size w w1 := by rw [← hw1]; exact (Below.refl _ w).alloc (by first | exact Nat.le_refl _ | (simp; done) | (simp; omega)) _
  have kx : w1.heap[w.heap.size]? = some (.cells #[.int .i64 F, .int .i64 O, .int .i64 J, .int .i64 G, .int .i64 R, .int .i64 D, .int .i64 I] 51 (0, 0)) := by rw [← hw1]; exact al_new _ _ _ (by first | rfl | (simp; done) | (simp; omega))
  have x0 : w1.cell? ⟨w.heap.size, 0, none⟩ = some (.int .i64 F) := blk_cell kx 0
  have x1 : w1.cell? ⟨w.heap.size, 1, none⟩ = some (.int .i64 O) := blk_cell kx 1
  have x2 : w1.cell? ⟨w.heap.size, 2, none⟩ = some (.int .i64 J) := blk_cell kx 2
  have x3 : w1.cell? ⟨w.heap.size, 3, none⟩ = some (.int .i64 G) := blk_cell kx 3
  have x4 : w1.cell? ⟨w.heap.size, 4, none⟩ = some (.int .i64 R) := blk_cell kx 4
  have x5 : w1.cell? ⟨w.heap.size, 5, none⟩ = some (.int .i64 D) := blk_cell kx 5
  have x6 : w1.cell? ⟨w.heap.size, 6, none⟩ = some (.int .i64 I) := blk_cell kx 6
  clear kx
  replace hp := cell_on hB hp
  replace hq := cell_on hB hq
  replace hr := cell_on hB hr
  replace hv := hv.trans (hB.mono hv.size)
  clear hB hw1
  have hs4 := World.block_lt_of_cell? _ _ x0
  have hs5 := World.block_lt_of_cell? _ _ hp
  have hs6 := World.block_lt_of_cell? _ _ hq
  have hs7 := World.block_lt_of_cell? _ _ hr
  have hS : ∀ w', Below w1.heap.size w1 w' → ((w'.cell? ⟨p, 0, none⟩ = some (.func (.func 63) #[] #[]) ∧ w'.cell? ⟨q, 0, none⟩ = some (.int .i64 1) ∧ w'.cell? ⟨r, 0, none⟩ = some (.int .i64 1000) ∧ w'.cell? ⟨w.heap.size, 0, none⟩ = some (.int .i64 F) ∧ w'.cell? ⟨w.heap.size, 1, none⟩ = some (.int .i64 O) ∧ w'.cell? ⟨w.heap.size, 2, none⟩ = some (.int .i64 J) ∧ w'.cell? ⟨w.heap.size, 3, none⟩ = some (.int .i64 G) ∧ w'.cell? ⟨w.heap.size, 4, none⟩ = some (.int .i64 R) ∧ w'.cell? ⟨w.heap.size, 5, none⟩ = some (.int .i64 D) ∧ w'.cell? ⟨w.heap.size, 6, none⟩ = some (.int .i64 I)) ∧ Below w1.heap.size w1 w') := fun w' hB => ⟨⟨cell_on hB hp, cell_on hB hq, cell_on hB hr, cell_on hB x0, cell_on hB x1, cell_on hB x2, cell_on hB x3, cell_on hB x4, cell_on hB x5, cell_on hB x6⟩, hB⟩
  go_region_held3 (fun w' => (w'.cell? ⟨p, 0, none⟩ = some (.func (.func 63) #[] #[]) ∧ w'.cell? ⟨q, 0, none⟩ = some (.int .i64 1) ∧ w'.cell? ⟨r, 0, none⟩ = some (.int .i64 1000) ∧ w'.cell? ⟨w.heap.size, 0, none⟩ = some (.int .i64 F) ∧ w'.cell? ⟨w.heap.size, 1, none⟩ = some (.int .i64 O) ∧ w'.cell? ⟨w.heap.size, 2, none⟩ = some (.int .i64 J) ∧ w'.cell? ⟨w.heap.size, 3, none⟩ = some (.int .i64 G) ∧ w'.cell? ⟨w.heap.size, 4, none⟩ = some (.int .i64 R) ∧ w'.cell? ⟨w.heap.size, 5, none⟩ = some (.int .i64 D) ∧ w'.cell? ⟨w.heap.size, 6, none⟩ = some (.int .i64 I)) ∧ Below w1.heap.size w1 w') (first | exact hS _ (Below.refl _ _).drew | assumption | (have hh := ‹(_ ∧ _ ∧ _ ∧ _ ∧ _ ∧ _ ∧ _ ∧ _ ∧ _ ∧ _) ∧ Below w1.heap.size w1 _›; exact hS _ (hh.2.trans (hB.mono hh.2.size))))
    (first | (go_at_call 63; refine (ca _).mono ?_; rintro e w' ⟨rfl, hB⟩) | (go_at_call 37; refine (cb _).mono ?_; rintro e w' ⟨rfl, hB⟩))
  rename_i hHeld
  have hB := hHeld.2
  clear hHeld hS ca cb
  rename World => w99
  replace hp := cell_on hB hp
  replace hq := cell_on hB hq
  replace hr := cell_on hB hr
  replace x0 := cell_on hB x0
  replace x1 := cell_on hB x1
  replace x2 := cell_on hB x2
  replace x3 := cell_on hB x3
  replace x4 := cell_on hB x4
  replace x5 := cell_on hB x5
  replace x6 := cell_on hB x6
  replace hv := hv.trans (hB.mono hv.size)
  clear hB
  go_wp2
  go_ret
  exact ⟨rfl, hv⟩
set_option maxHeartbeats 1000000 in
theorem rule1_calls (F O J G R D I : Int) (p q r : Nat) (w : World) (hp : w.cell? ⟨p, 0, none⟩ = some (.func (.func 64) #[] #[])) (hq : w.cell? ⟨q, 0, none⟩ = some (.int .i64 (-1000000000000))) (hr : w.cell? ⟨r, 0, none⟩ = some (.int .i64 1000000000000)) :
    Calls Try.prog 62 #[.agg #[.int .i64 F, .int .i64 O, .int .i64 J, .int .i64 G, .int .i64 R, .int .i64 D, .int .i64 I], .pointer (some ⟨p, 0, none⟩), .pointer (some ⟨q, 0, none⟩), .pointer (some ⟨r, 0, none⟩)] w fun e w' => e = .returned (.bool (decide ((-1000000000000) ≤ O) && decide (O ≤ 1000000000000))) ∧ Below w.heap.size w w' := by
  have hv := Below.refl w.heap.size w
  have hs1 := World.block_lt_of_cell? _ _ hp
  have hs2 := World.block_lt_of_cell? _ _ hq
  have hs3 := World.block_lt_of_cell? _ _ hr
  have ca := fun w => field1_calls F O J G R D I w
  have cb := fun w => in_calls O (-1000000000000) 1000000000000 w
  go_enter Try.func62, Try.ntmps62
  go_wp2_with fail
  obtain ⟨w1, hw1⟩ : ∃ w1, w.alloc (.cells #[.int .i64 F, .int .i64 O, .int .i64 J, .int .i64 G, .int .i64 R, .int .i64 D, .int .i64 I] 51) = w1 := ⟨_, rfl⟩
  try rw [hw1]
  have hB : Below w.heap.size w w1 := by rw [← hw1]; exact (Below.refl _ w).alloc (by first | exact Nat.le_refl _ | (simp; done) | (simp; omega)) _
  have kx : w1.heap[w.heap.size]? = some (.cells #[.int .i64 F, .int .i64 O, .int .i64 J, .int .i64 G, .int .i64 R, .int .i64 D, .int .i64 I] 51 (0, 0)) := by rw [← hw1]; exact al_new _ _ _ (by first | rfl | (simp; done) | (simp; omega))
  have x0 : w1.cell? ⟨w.heap.size, 0, none⟩ = some (.int .i64 F) := blk_cell kx 0
  have x1 : w1.cell? ⟨w.heap.size, 1, none⟩ = some (.int .i64 O) := blk_cell kx 1
  have x2 : w1.cell? ⟨w.heap.size, 2, none⟩ = some (.int .i64 J) := blk_cell kx 2
  have x3 : w1.cell? ⟨w.heap.size, 3, none⟩ = some (.int .i64 G) := blk_cell kx 3
  have x4 : w1.cell? ⟨w.heap.size, 4, none⟩ = some (.int .i64 R) := blk_cell kx 4
  have x5 : w1.cell? ⟨w.heap.size, 5, none⟩ = some (.int .i64 D) := blk_cell kx 5
  have x6 : w1.cell? ⟨w.heap.size, 6, none⟩ = some (.int .i64 I) := blk_cell kx 6
  clear kx
  replace hp := cell_on hB hp
  replace hq := cell_on hB hq
  replace hr := cell_on hB hr
  replace hv := hv.trans (hB.mono hv.size)
  clear hB hw1
  have hs4 := World.block_lt_of_cell? _ _ x0
  have hs5 := World.block_lt_of_cell? _ _ hp
  have hs6 := World.block_lt_of_cell? _ _ hq
  have hs7 := World.block_lt_of_cell? _ _ hr
  have hS : ∀ w', Below w1.heap.size w1 w' → ((w'.cell? ⟨p, 0, none⟩ = some (.func (.func 64) #[] #[]) ∧ w'.cell? ⟨q, 0, none⟩ = some (.int .i64 (-1000000000000)) ∧ w'.cell? ⟨r, 0, none⟩ = some (.int .i64 1000000000000) ∧ w'.cell? ⟨w.heap.size, 0, none⟩ = some (.int .i64 F) ∧ w'.cell? ⟨w.heap.size, 1, none⟩ = some (.int .i64 O) ∧ w'.cell? ⟨w.heap.size, 2, none⟩ = some (.int .i64 J) ∧ w'.cell? ⟨w.heap.size, 3, none⟩ = some (.int .i64 G) ∧ w'.cell? ⟨w.heap.size, 4, none⟩ = some (.int .i64 R) ∧ w'.cell? ⟨w.heap.size, 5, none⟩ = some (.int .i64 D) ∧ w'.cell? ⟨w.heap.size, 6, none⟩ = some (.int .i64 I)) ∧ Below w1.heap.size w1 w') := fun w' hB => ⟨⟨cell_on hB hp, cell_on hB hq, cell_on hB hr, cell_on hB x0, cell_on hB x1, cell_on hB x2, cell_on hB x3, cell_on hB x4, cell_on hB x5, cell_on hB x6⟩, hB⟩
  go_region_held3 (fun w' => (w'.cell? ⟨p, 0, none⟩ = some (.func (.func 64) #[] #[]) ∧ w'.cell? ⟨q, 0, none⟩ = some (.int .i64 (-1000000000000)) ∧ w'.cell? ⟨r, 0, none⟩ = some (.int .i64 1000000000000) ∧ w'.cell? ⟨w.heap.size, 0, none⟩ = some (.int .i64 F) ∧ w'.cell? ⟨w.heap.size, 1, none⟩ = some (.int .i64 O) ∧ w'.cell? ⟨w.heap.size, 2, none⟩ = some (.int .i64 J) ∧ w'.cell? ⟨w.heap.size, 3, none⟩ = some (.int .i64 G) ∧ w'.cell? ⟨w.heap.size, 4, none⟩ = some (.int .i64 R) ∧ w'.cell? ⟨w.heap.size, 5, none⟩ = some (.int .i64 D) ∧ w'.cell? ⟨w.heap.size, 6, none⟩ = some (.int .i64 I)) ∧ Below w1.heap.size w1 w') (first | exact hS _ (Below.refl _ _).drew | assumption | (have hh := ‹(_ ∧ _ ∧ _ ∧ _ ∧ _ ∧ _ ∧ _ ∧ _ ∧ _ ∧ _) ∧ Below w1.heap.size w1 _›; exact hS _ (hh.2.trans (hB.mono hh.2.size))))
    (first | (go_at_call 64; refine (ca _).mono ?_; rintro e w' ⟨rfl, hB⟩) | (go_at_call 37; refine (cb _).mono ?_; rintro e w' ⟨rfl, hB⟩))
  rename_i hHeld
  have hB := hHeld.2
  clear hHeld hS ca cb
  rename World => w99
  replace hp := cell_on hB hp
  replace hq := cell_on hB hq
  replace hr := cell_on hB hr
  replace x0 := cell_on hB x0
  replace x1 := cell_on hB x1
  replace x2 := cell_on hB x2
  replace x3 := cell_on hB x3
  replace x4 := cell_on hB x4
  replace x5 := cell_on hB x5
  replace x6 := cell_on hB x6
  replace hv := hv.trans (hB.mono hv.size)
  clear hB
  go_wp2
  go_ret
  exact ⟨rfl, hv⟩
set_option maxHeartbeats 1000000 in
theorem rule2_calls (F O J G R D I : Int) (p q r : Nat) (w : World) (hp : w.cell? ⟨p, 0, none⟩ = some (.func (.func 65) #[] #[])) (hq : w.cell? ⟨q, 0, none⟩ = some (.int .i64 0)) (hr : w.cell? ⟨r, 0, none⟩ = some (.int .i64 1000000000)) :
    Calls Try.prog 62 #[.agg #[.int .i64 F, .int .i64 O, .int .i64 J, .int .i64 G, .int .i64 R, .int .i64 D, .int .i64 I], .pointer (some ⟨p, 0, none⟩), .pointer (some ⟨q, 0, none⟩), .pointer (some ⟨r, 0, none⟩)] w fun e w' => e = .returned (.bool (decide (0 ≤ J) && decide (J ≤ 1000000000))) ∧ Below w.heap.size w w' := by
  have hv := Below.refl w.heap.size w
  have hs1 := World.block_lt_of_cell? _ _ hp
  have hs2 := World.block_lt_of_cell? _ _ hq
  have hs3 := World.block_lt_of_cell? _ _ hr
  have ca := fun w => field2_calls F O J G R D I w
  have cb := fun w => in_calls J 0 1000000000 w
  go_enter Try.func62, Try.ntmps62
  go_wp2_with fail
  obtain ⟨w1, hw1⟩ : ∃ w1, w.alloc (.cells #[.int .i64 F, .int .i64 O, .int .i64 J, .int .i64 G, .int .i64 R, .int .i64 D, .int .i64 I] 51) = w1 := ⟨_, rfl⟩
  try rw [hw1]
  have hB : Below w.heap.size w w1 := by rw [← hw1]; exact (Below.refl _ w).alloc (by first | exact Nat.le_refl _ | (simp; done) | (simp; omega)) _
  have kx : w1.heap[w.heap.size]? = some (.cells #[.int .i64 F, .int .i64 O, .int .i64 J, .int .i64 G, .int .i64 R, .int .i64 D, .int .i64 I] 51 (0, 0)) := by rw [← hw1]; exact al_new _ _ _ (by first | rfl | (simp; done) | (simp; omega))
  have x0 : w1.cell? ⟨w.heap.size, 0, none⟩ = some (.int .i64 F) := blk_cell kx 0
  have x1 : w1.cell? ⟨w.heap.size, 1, none⟩ = some (.int .i64 O) := blk_cell kx 1
  have x2 : w1.cell? ⟨w.heap.size, 2, none⟩ = some (.int .i64 J) := blk_cell kx 2
  have x3 : w1.cell? ⟨w.heap.size, 3, none⟩ = some (.int .i64 G) := blk_cell kx 3
  have x4 : w1.cell? ⟨w.heap.size, 4, none⟩ = some (.int .i64 R) := blk_cell kx 4
  have x5 : w1.cell? ⟨w.heap.size, 5, none⟩ = some (.int .i64 D) := blk_cell kx 5
  have x6 : w1.cell? ⟨w.heap.size, 6, none⟩ = some (.int .i64 I) := blk_cell kx 6
  clear kx
  replace hp := cell_on hB hp
  replace hq := cell_on hB hq
  replace hr := cell_on hB hr
  replace hv := hv.trans (hB.mono hv.size)
  clear hB hw1
  have hs4 := World.block_lt_of_cell? _ _ x0
  have hs5 := World.block_lt_of_cell? _ _ hp
  have hs6 := World.block_lt_of_cell? _ _ hq
  have hs7 := World.block_lt_of_cell? _ _ hr
  have hS : ∀ w', Below w1.heap.size w1 w' → ((w'.cell? ⟨p, 0, none⟩ = some (.func (.func 65) #[] #[]) ∧ w'.cell? ⟨q, 0, none⟩ = some (.int .i64 0) ∧ w'.cell? ⟨r, 0, none⟩ = some (.int .i64 1000000000) ∧ w'.cell? ⟨w.heap.size, 0, none⟩ = some (.int .i64 F) ∧ w'.cell? ⟨w.heap.size, 1, none⟩ = some (.int .i64 O) ∧ w'.cell? ⟨w.heap.size, 2, none⟩ = some (.int .i64 J) ∧ w'.cell? ⟨w.heap.size, 3, none⟩ = some (.int .i64 G) ∧ w'.cell? ⟨w.heap.size, 4, none⟩ = some (.int .i64 R) ∧ w'.cell? ⟨w.heap.size, 5, none⟩ = some (.int .i64 D) ∧ w'.cell? ⟨w.heap.size, 6, none⟩ = some (.int .i64 I)) ∧ Below w1.heap.size w1 w') := fun w' hB => ⟨⟨cell_on hB hp, cell_on hB hq, cell_on hB hr, cell_on hB x0, cell_on hB x1, cell_on hB x2, cell_on hB x3, cell_on hB x4, cell_on hB x5, cell_on hB x6⟩, hB⟩
  go_region_held3 (fun w' => (w'.cell? ⟨p, 0, none⟩ = some (.func (.func 65) #[] #[]) ∧ w'.cell? ⟨q, 0, none⟩ = some (.int .i64 0) ∧ w'.cell? ⟨r, 0, none⟩ = some (.int .i64 1000000000) ∧ w'.cell? ⟨w.heap.size, 0, none⟩ = some (.int .i64 F) ∧ w'.cell? ⟨w.heap.size, 1, none⟩ = some (.int .i64 O) ∧ w'.cell? ⟨w.heap.size, 2, none⟩ = some (.int .i64 J) ∧ w'.cell? ⟨w.heap.size, 3, none⟩ = some (.int .i64 G) ∧ w'.cell? ⟨w.heap.size, 4, none⟩ = some (.int .i64 R) ∧ w'.cell? ⟨w.heap.size, 5, none⟩ = some (.int .i64 D) ∧ w'.cell? ⟨w.heap.size, 6, none⟩ = some (.int .i64 I)) ∧ Below w1.heap.size w1 w') (first | exact hS _ (Below.refl _ _).drew | assumption | (have hh := ‹(_ ∧ _ ∧ _ ∧ _ ∧ _ ∧ _ ∧ _ ∧ _ ∧ _ ∧ _) ∧ Below w1.heap.size w1 _›; exact hS _ (hh.2.trans (hB.mono hh.2.size))))
    (first | (go_at_call 65; refine (ca _).mono ?_; rintro e w' ⟨rfl, hB⟩) | (go_at_call 37; refine (cb _).mono ?_; rintro e w' ⟨rfl, hB⟩))
  rename_i hHeld
  have hB := hHeld.2
  clear hHeld hS ca cb
  rename World => w99
  replace hp := cell_on hB hp
  replace hq := cell_on hB hq
  replace hr := cell_on hB hr
  replace x0 := cell_on hB x0
  replace x1 := cell_on hB x1
  replace x2 := cell_on hB x2
  replace x3 := cell_on hB x3
  replace x4 := cell_on hB x4
  replace x5 := cell_on hB x5
  replace x6 := cell_on hB x6
  replace hv := hv.trans (hB.mono hv.size)
  clear hB
  go_wp2
  go_ret
  exact ⟨rfl, hv⟩
set_option maxHeartbeats 1000000 in
theorem rule3_calls (F O J G R D I : Int) (p q r : Nat) (w : World) (hp : w.cell? ⟨p, 0, none⟩ = some (.func (.func 66) #[] #[])) (hq : w.cell? ⟨q, 0, none⟩ = some (.int .i64 1)) (hr : w.cell? ⟨r, 0, none⟩ = some (.int .i64 1000000000)) :
    Calls Try.prog 62 #[.agg #[.int .i64 F, .int .i64 O, .int .i64 J, .int .i64 G, .int .i64 R, .int .i64 D, .int .i64 I], .pointer (some ⟨p, 0, none⟩), .pointer (some ⟨q, 0, none⟩), .pointer (some ⟨r, 0, none⟩)] w fun e w' => e = .returned (.bool (decide (1 ≤ G) && decide (G ≤ 1000000000))) ∧ Below w.heap.size w w' := by
  have hv := Below.refl w.heap.size w
  have hs1 := World.block_lt_of_cell? _ _ hp
  have hs2 := World.block_lt_of_cell? _ _ hq
  have hs3 := World.block_lt_of_cell? _ _ hr
  have ca := fun w => field3_calls F O J G R D I w
  have cb := fun w => in_calls G 1 1000000000 w
  go_enter Try.func62, Try.ntmps62
  go_wp2_with fail
  obtain ⟨w1, hw1⟩ : ∃ w1, w.alloc (.cells #[.int .i64 F, .int .i64 O, .int .i64 J, .int .i64 G, .int .i64 R, .int .i64 D, .int .i64 I] 51) = w1 := ⟨_, rfl⟩
  try rw [hw1]
  have hB : Below w.heap.size w w1 := by rw [← hw1]; exact (Below.refl _ w).alloc (by first | exact Nat.le_refl _ | (simp; done) | (simp; omega)) _
  have kx : w1.heap[w.heap.size]? = some (.cells #[.int .i64 F, .int .i64 O, .int .i64 J, .int .i64 G, .int .i64 R, .int .i64 D, .int .i64 I] 51 (0, 0)) := by rw [← hw1]; exact al_new _ _ _ (by first | rfl | (simp; done) | (simp; omega))
  have x0 : w1.cell? ⟨w.heap.size, 0, none⟩ = some (.int .i64 F) := blk_cell kx 0
  have x1 : w1.cell? ⟨w.heap.size, 1, none⟩ = some (.int .i64 O) := blk_cell kx 1
  have x2 : w1.cell? ⟨w.heap.size, 2, none⟩ = some (.int .i64 J) := blk_cell kx 2
  have x3 : w1.cell? ⟨w.heap.size, 3, none⟩ = some (.int .i64 G) := blk_cell kx 3
  have x4 : w1.cell? ⟨w.heap.size, 4, none⟩ = some (.int .i64 R) := blk_cell kx 4
  have x5 : w1.cell? ⟨w.heap.size, 5, none⟩ = some (.int .i64 D) := blk_cell kx 5
  have x6 : w1.cell? ⟨w.heap.size, 6, none⟩ = some (.int .i64 I) := blk_cell kx 6
  clear kx
  replace hp := cell_on hB hp
  replace hq := cell_on hB hq
  replace hr := cell_on hB hr
  replace hv := hv.trans (hB.mono hv.size)
  clear hB hw1
  have hs4 := World.block_lt_of_cell? _ _ x0
  have hs5 := World.block_lt_of_cell? _ _ hp
  have hs6 := World.block_lt_of_cell? _ _ hq
  have hs7 := World.block_lt_of_cell? _ _ hr
  have hS : ∀ w', Below w1.heap.size w1 w' → ((w'.cell? ⟨p, 0, none⟩ = some (.func (.func 66) #[] #[]) ∧ w'.cell? ⟨q, 0, none⟩ = some (.int .i64 1) ∧ w'.cell? ⟨r, 0, none⟩ = some (.int .i64 1000000000) ∧ w'.cell? ⟨w.heap.size, 0, none⟩ = some (.int .i64 F) ∧ w'.cell? ⟨w.heap.size, 1, none⟩ = some (.int .i64 O) ∧ w'.cell? ⟨w.heap.size, 2, none⟩ = some (.int .i64 J) ∧ w'.cell? ⟨w.heap.size, 3, none⟩ = some (.int .i64 G) ∧ w'.cell? ⟨w.heap.size, 4, none⟩ = some (.int .i64 R) ∧ w'.cell? ⟨w.heap.size, 5, none⟩ = some (.int .i64 D) ∧ w'.cell? ⟨w.heap.size, 6, none⟩ = some (.int .i64 I)) ∧ Below w1.heap.size w1 w') := fun w' hB => ⟨⟨cell_on hB hp, cell_on hB hq, cell_on hB hr, cell_on hB x0, cell_on hB x1, cell_on hB x2, cell_on hB x3, cell_on hB x4, cell_on hB x5, cell_on hB x6⟩, hB⟩
  go_region_held3 (fun w' => (w'.cell? ⟨p, 0, none⟩ = some (.func (.func 66) #[] #[]) ∧ w'.cell? ⟨q, 0, none⟩ = some (.int .i64 1) ∧ w'.cell? ⟨r, 0, none⟩ = some (.int .i64 1000000000) ∧ w'.cell? ⟨w.heap.size, 0, none⟩ = some (.int .i64 F) ∧ w'.cell? ⟨w.heap.size, 1, none⟩ = some (.int .i64 O) ∧ w'.cell? ⟨w.heap.size, 2, none⟩ = some (.int .i64 J) ∧ w'.cell? ⟨w.heap.size, 3, none⟩ = some (.int .i64 G) ∧ w'.cell? ⟨w.heap.size, 4, none⟩ = some (.int .i64 R) ∧ w'.cell? ⟨w.heap.size, 5, none⟩ = some (.int .i64 D) ∧ w'.cell? ⟨w.heap.size, 6, none⟩ = some (.int .i64 I)) ∧ Below w1.heap.size w1 w') (first | exact hS _ (Below.refl _ _).drew | assumption | (have hh := ‹(_ ∧ _ ∧ _ ∧ _ ∧ _ ∧ _ ∧ _ ∧ _ ∧ _ ∧ _) ∧ Below w1.heap.size w1 _›; exact hS _ (hh.2.trans (hB.mono hh.2.size))))
    (first | (go_at_call 66; refine (ca _).mono ?_; rintro e w' ⟨rfl, hB⟩) | (go_at_call 37; refine (cb _).mono ?_; rintro e w' ⟨rfl, hB⟩))
  rename_i hHeld
  have hB := hHeld.2
  clear hHeld hS ca cb
  rename World => w99
  replace hp := cell_on hB hp
  replace hq := cell_on hB hq
  replace hr := cell_on hB hr
  replace x0 := cell_on hB x0
  replace x1 := cell_on hB x1
  replace x2 := cell_on hB x2
  replace x3 := cell_on hB x3
  replace x4 := cell_on hB x4
  replace x5 := cell_on hB x5
  replace x6 := cell_on hB x6
  replace hv := hv.trans (hB.mono hv.size)
  clear hB
  go_wp2
  go_ret
  exact ⟨rfl, hv⟩
set_option maxHeartbeats 1000000 in
theorem rule4_calls (F O J G R D I : Int) (p q r : Nat) (w : World) (hp : w.cell? ⟨p, 0, none⟩ = some (.func (.func 67) #[] #[])) (hq : w.cell? ⟨q, 0, none⟩ = some (.int .i64 1)) (hr : w.cell? ⟨r, 0, none⟩ = some (.int .i64 1000000000000000)) :
    Calls Try.prog 62 #[.agg #[.int .i64 F, .int .i64 O, .int .i64 J, .int .i64 G, .int .i64 R, .int .i64 D, .int .i64 I], .pointer (some ⟨p, 0, none⟩), .pointer (some ⟨q, 0, none⟩), .pointer (some ⟨r, 0, none⟩)] w fun e w' => e = .returned (.bool (decide (1 ≤ R) && decide (R ≤ 1000000000000000))) ∧ Below w.heap.size w w' := by
  have hv := Below.refl w.heap.size w
  have hs1 := World.block_lt_of_cell? _ _ hp
  have hs2 := World.block_lt_of_cell? _ _ hq
  have hs3 := World.block_lt_of_cell? _ _ hr
  have ca := fun w => field4_calls F O J G R D I w
  have cb := fun w => in_calls R 1 1000000000000000 w
  go_enter Try.func62, Try.ntmps62
  go_wp2_with fail
  obtain ⟨w1, hw1⟩ : ∃ w1, w.alloc (.cells #[.int .i64 F, .int .i64 O, .int .i64 J, .int .i64 G, .int .i64 R, .int .i64 D, .int .i64 I] 51) = w1 := ⟨_, rfl⟩
  try rw [hw1]
  have hB : Below w.heap.size w w1 := by rw [← hw1]; exact (Below.refl _ w).alloc (by first | exact Nat.le_refl _ | (simp; done) | (simp; omega)) _
  have kx : w1.heap[w.heap.size]? = some (.cells #[.int .i64 F, .int .i64 O, .int .i64 J, .int .i64 G, .int .i64 R, .int .i64 D, .int .i64 I] 51 (0, 0)) := by rw [← hw1]; exact al_new _ _ _ (by first | rfl | (simp; done) | (simp; omega))
  have x0 : w1.cell? ⟨w.heap.size, 0, none⟩ = some (.int .i64 F) := blk_cell kx 0
  have x1 : w1.cell? ⟨w.heap.size, 1, none⟩ = some (.int .i64 O) := blk_cell kx 1
  have x2 : w1.cell? ⟨w.heap.size, 2, none⟩ = some (.int .i64 J) := blk_cell kx 2
  have x3 : w1.cell? ⟨w.heap.size, 3, none⟩ = some (.int .i64 G) := blk_cell kx 3
  have x4 : w1.cell? ⟨w.heap.size, 4, none⟩ = some (.int .i64 R) := blk_cell kx 4
  have x5 : w1.cell? ⟨w.heap.size, 5, none⟩ = some (.int .i64 D) := blk_cell kx 5
  have x6 : w1.cell? ⟨w.heap.size, 6, none⟩ = some (.int .i64 I) := blk_cell kx 6
  clear kx
  replace hp := cell_on hB hp
  replace hq := cell_on hB hq
  replace hr := cell_on hB hr
  replace hv := hv.trans (hB.mono hv.size)
  clear hB hw1
  have hs4 := World.block_lt_of_cell? _ _ x0
  have hs5 := World.block_lt_of_cell? _ _ hp
  have hs6 := World.block_lt_of_cell? _ _ hq
  have hs7 := World.block_lt_of_cell? _ _ hr
  have hS : ∀ w', Below w1.heap.size w1 w' → ((w'.cell? ⟨p, 0, none⟩ = some (.func (.func 67) #[] #[]) ∧ w'.cell? ⟨q, 0, none⟩ = some (.int .i64 1) ∧ w'.cell? ⟨r, 0, none⟩ = some (.int .i64 1000000000000000) ∧ w'.cell? ⟨w.heap.size, 0, none⟩ = some (.int .i64 F) ∧ w'.cell? ⟨w.heap.size, 1, none⟩ = some (.int .i64 O) ∧ w'.cell? ⟨w.heap.size, 2, none⟩ = some (.int .i64 J) ∧ w'.cell? ⟨w.heap.size, 3, none⟩ = some (.int .i64 G) ∧ w'.cell? ⟨w.heap.size, 4, none⟩ = some (.int .i64 R) ∧ w'.cell? ⟨w.heap.size, 5, none⟩ = some (.int .i64 D) ∧ w'.cell? ⟨w.heap.size, 6, none⟩ = some (.int .i64 I)) ∧ Below w1.heap.size w1 w') := fun w' hB => ⟨⟨cell_on hB hp, cell_on hB hq, cell_on hB hr, cell_on hB x0, cell_on hB x1, cell_on hB x2, cell_on hB x3, cell_on hB x4, cell_on hB x5, cell_on hB x6⟩, hB⟩
  go_region_held3 (fun w' => (w'.cell? ⟨p, 0, none⟩ = some (.func (.func 67) #[] #[]) ∧ w'.cell? ⟨q, 0, none⟩ = some (.int .i64 1) ∧ w'.cell? ⟨r, 0, none⟩ = some (.int .i64 1000000000000000) ∧ w'.cell? ⟨w.heap.size, 0, none⟩ = some (.int .i64 F) ∧ w'.cell? ⟨w.heap.size, 1, none⟩ = some (.int .i64 O) ∧ w'.cell? ⟨w.heap.size, 2, none⟩ = some (.int .i64 J) ∧ w'.cell? ⟨w.heap.size, 3, none⟩ = some (.int .i64 G) ∧ w'.cell? ⟨w.heap.size, 4, none⟩ = some (.int .i64 R) ∧ w'.cell? ⟨w.heap.size, 5, none⟩ = some (.int .i64 D) ∧ w'.cell? ⟨w.heap.size, 6, none⟩ = some (.int .i64 I)) ∧ Below w1.heap.size w1 w') (first | exact hS _ (Below.refl _ _).drew | assumption | (have hh := ‹(_ ∧ _ ∧ _ ∧ _ ∧ _ ∧ _ ∧ _ ∧ _ ∧ _ ∧ _) ∧ Below w1.heap.size w1 _›; exact hS _ (hh.2.trans (hB.mono hh.2.size))))
    (first | (go_at_call 67; refine (ca _).mono ?_; rintro e w' ⟨rfl, hB⟩) | (go_at_call 37; refine (cb _).mono ?_; rintro e w' ⟨rfl, hB⟩))
  rename_i hHeld
  have hB := hHeld.2
  clear hHeld hS ca cb
  rename World => w99
  replace hp := cell_on hB hp
  replace hq := cell_on hB hq
  replace hr := cell_on hB hr
  replace x0 := cell_on hB x0
  replace x1 := cell_on hB x1
  replace x2 := cell_on hB x2
  replace x3 := cell_on hB x3
  replace x4 := cell_on hB x4
  replace x5 := cell_on hB x5
  replace x6 := cell_on hB x6
  replace hv := hv.trans (hB.mono hv.size)
  clear hB
  go_wp2
  go_ret
  exact ⟨rfl, hv⟩
set_option maxHeartbeats 1000000 in
theorem rule5_calls (F O J G R D I : Int) (p q r : Nat) (w : World) (hp : w.cell? ⟨p, 0, none⟩ = some (.func (.func 68) #[] #[])) (hq : w.cell? ⟨q, 0, none⟩ = some (.int .i64 1)) (hr : w.cell? ⟨r, 0, none⟩ = some (.int .i64 100000)) :
    Calls Try.prog 62 #[.agg #[.int .i64 F, .int .i64 O, .int .i64 J, .int .i64 G, .int .i64 R, .int .i64 D, .int .i64 I], .pointer (some ⟨p, 0, none⟩), .pointer (some ⟨q, 0, none⟩), .pointer (some ⟨r, 0, none⟩)] w fun e w' => e = .returned (.bool (decide (1 ≤ D) && decide (D ≤ 100000))) ∧ Below w.heap.size w w' := by
  have hv := Below.refl w.heap.size w
  have hs1 := World.block_lt_of_cell? _ _ hp
  have hs2 := World.block_lt_of_cell? _ _ hq
  have hs3 := World.block_lt_of_cell? _ _ hr
  have ca := fun w => field5_calls F O J G R D I w
  have cb := fun w => in_calls D 1 100000 w
  go_enter Try.func62, Try.ntmps62
  go_wp2_with fail
  obtain ⟨w1, hw1⟩ : ∃ w1, w.alloc (.cells #[.int .i64 F, .int .i64 O, .int .i64 J, .int .i64 G, .int .i64 R, .int .i64 D, .int .i64 I] 51) = w1 := ⟨_, rfl⟩
  try rw [hw1]
  have hB : Below w.heap.size w w1 := by rw [← hw1]; exact (Below.refl _ w).alloc (by first | exact Nat.le_refl _ | (simp; done) | (simp; omega)) _
  have kx : w1.heap[w.heap.size]? = some (.cells #[.int .i64 F, .int .i64 O, .int .i64 J, .int .i64 G, .int .i64 R, .int .i64 D, .int .i64 I] 51 (0, 0)) := by rw [← hw1]; exact al_new _ _ _ (by first | rfl | (simp; done) | (simp; omega))
  have x0 : w1.cell? ⟨w.heap.size, 0, none⟩ = some (.int .i64 F) := blk_cell kx 0
  have x1 : w1.cell? ⟨w.heap.size, 1, none⟩ = some (.int .i64 O) := blk_cell kx 1
  have x2 : w1.cell? ⟨w.heap.size, 2, none⟩ = some (.int .i64 J) := blk_cell kx 2
  have x3 : w1.cell? ⟨w.heap.size, 3, none⟩ = some (.int .i64 G) := blk_cell kx 3
  have x4 : w1.cell? ⟨w.heap.size, 4, none⟩ = some (.int .i64 R) := blk_cell kx 4
  have x5 : w1.cell? ⟨w.heap.size, 5, none⟩ = some (.int .i64 D) := blk_cell kx 5
  have x6 : w1.cell? ⟨w.heap.size, 6, none⟩ = some (.int .i64 I) := blk_cell kx 6
  clear kx
  replace hp := cell_on hB hp
  replace hq := cell_on hB hq
  replace hr := cell_on hB hr
  replace hv := hv.trans (hB.mono hv.size)
  clear hB hw1
  have hs4 := World.block_lt_of_cell? _ _ x0
  have hs5 := World.block_lt_of_cell? _ _ hp
  have hs6 := World.block_lt_of_cell? _ _ hq
  have hs7 := World.block_lt_of_cell? _ _ hr
  have hS : ∀ w', Below w1.heap.size w1 w' → ((w'.cell? ⟨p, 0, none⟩ = some (.func (.func 68) #[] #[]) ∧ w'.cell? ⟨q, 0, none⟩ = some (.int .i64 1) ∧ w'.cell? ⟨r, 0, none⟩ = some (.int .i64 100000) ∧ w'.cell? ⟨w.heap.size, 0, none⟩ = some (.int .i64 F) ∧ w'.cell? ⟨w.heap.size, 1, none⟩ = some (.int .i64 O) ∧ w'.cell? ⟨w.heap.size, 2, none⟩ = some (.int .i64 J) ∧ w'.cell? ⟨w.heap.size, 3, none⟩ = some (.int .i64 G) ∧ w'.cell? ⟨w.heap.size, 4, none⟩ = some (.int .i64 R) ∧ w'.cell? ⟨w.heap.size, 5, none⟩ = some (.int .i64 D) ∧ w'.cell? ⟨w.heap.size, 6, none⟩ = some (.int .i64 I)) ∧ Below w1.heap.size w1 w') := fun w' hB => ⟨⟨cell_on hB hp, cell_on hB hq, cell_on hB hr, cell_on hB x0, cell_on hB x1, cell_on hB x2, cell_on hB x3, cell_on hB x4, cell_on hB x5, cell_on hB x6⟩, hB⟩
  go_region_held3 (fun w' => (w'.cell? ⟨p, 0, none⟩ = some (.func (.func 68) #[] #[]) ∧ w'.cell? ⟨q, 0, none⟩ = some (.int .i64 1) ∧ w'.cell? ⟨r, 0, none⟩ = some (.int .i64 100000) ∧ w'.cell? ⟨w.heap.size, 0, none⟩ = some (.int .i64 F) ∧ w'.cell? ⟨w.heap.size, 1, none⟩ = some (.int .i64 O) ∧ w'.cell? ⟨w.heap.size, 2, none⟩ = some (.int .i64 J) ∧ w'.cell? ⟨w.heap.size, 3, none⟩ = some (.int .i64 G) ∧ w'.cell? ⟨w.heap.size, 4, none⟩ = some (.int .i64 R) ∧ w'.cell? ⟨w.heap.size, 5, none⟩ = some (.int .i64 D) ∧ w'.cell? ⟨w.heap.size, 6, none⟩ = some (.int .i64 I)) ∧ Below w1.heap.size w1 w') (first | exact hS _ (Below.refl _ _).drew | assumption | (have hh := ‹(_ ∧ _ ∧ _ ∧ _ ∧ _ ∧ _ ∧ _ ∧ _ ∧ _ ∧ _) ∧ Below w1.heap.size w1 _›; exact hS _ (hh.2.trans (hB.mono hh.2.size))))
    (first | (go_at_call 68; refine (ca _).mono ?_; rintro e w' ⟨rfl, hB⟩) | (go_at_call 37; refine (cb _).mono ?_; rintro e w' ⟨rfl, hB⟩))
  rename_i hHeld
  have hB := hHeld.2
  clear hHeld hS ca cb
  rename World => w99
  replace hp := cell_on hB hp
  replace hq := cell_on hB hq
  replace hr := cell_on hB hr
  replace x0 := cell_on hB x0
  replace x1 := cell_on hB x1
  replace x2 := cell_on hB x2
  replace x3 := cell_on hB x3
  replace x4 := cell_on hB x4
  replace x5 := cell_on hB x5
  replace x6 := cell_on hB x6
  replace hv := hv.trans (hB.mono hv.size)
  clear hB
  go_wp2
  go_ret
  exact ⟨rfl, hv⟩
set_option maxHeartbeats 1000000 in
theorem rule6_calls (F O J G R D I : Int) (p q r : Nat) (w : World) (hp : w.cell? ⟨p, 0, none⟩ = some (.func (.func 69) #[] #[])) (hq : w.cell? ⟨q, 0, none⟩ = some (.int .i64 0)) (hr : w.cell? ⟨r, 0, none⟩ = some (.int .i64 1000000)) :
    Calls Try.prog 62 #[.agg #[.int .i64 F, .int .i64 O, .int .i64 J, .int .i64 G, .int .i64 R, .int .i64 D, .int .i64 I], .pointer (some ⟨p, 0, none⟩), .pointer (some ⟨q, 0, none⟩), .pointer (some ⟨r, 0, none⟩)] w fun e w' => e = .returned (.bool (decide (0 ≤ I) && decide (I ≤ 1000000))) ∧ Below w.heap.size w w' := by
  have hv := Below.refl w.heap.size w
  have hs1 := World.block_lt_of_cell? _ _ hp
  have hs2 := World.block_lt_of_cell? _ _ hq
  have hs3 := World.block_lt_of_cell? _ _ hr
  have ca := fun w => field6_calls F O J G R D I w
  have cb := fun w => in_calls I 0 1000000 w
  go_enter Try.func62, Try.ntmps62
  go_wp2_with fail
  obtain ⟨w1, hw1⟩ : ∃ w1, w.alloc (.cells #[.int .i64 F, .int .i64 O, .int .i64 J, .int .i64 G, .int .i64 R, .int .i64 D, .int .i64 I] 51) = w1 := ⟨_, rfl⟩
  try rw [hw1]
  have hB : Below w.heap.size w w1 := by rw [← hw1]; exact (Below.refl _ w).alloc (by first | exact Nat.le_refl _ | (simp; done) | (simp; omega)) _
  have kx : w1.heap[w.heap.size]? = some (.cells #[.int .i64 F, .int .i64 O, .int .i64 J, .int .i64 G, .int .i64 R, .int .i64 D, .int .i64 I] 51 (0, 0)) := by rw [← hw1]; exact al_new _ _ _ (by first | rfl | (simp; done) | (simp; omega))
  have x0 : w1.cell? ⟨w.heap.size, 0, none⟩ = some (.int .i64 F) := blk_cell kx 0
  have x1 : w1.cell? ⟨w.heap.size, 1, none⟩ = some (.int .i64 O) := blk_cell kx 1
  have x2 : w1.cell? ⟨w.heap.size, 2, none⟩ = some (.int .i64 J) := blk_cell kx 2
  have x3 : w1.cell? ⟨w.heap.size, 3, none⟩ = some (.int .i64 G) := blk_cell kx 3
  have x4 : w1.cell? ⟨w.heap.size, 4, none⟩ = some (.int .i64 R) := blk_cell kx 4
  have x5 : w1.cell? ⟨w.heap.size, 5, none⟩ = some (.int .i64 D) := blk_cell kx 5
  have x6 : w1.cell? ⟨w.heap.size, 6, none⟩ = some (.int .i64 I) := blk_cell kx 6
  clear kx
  replace hp := cell_on hB hp
  replace hq := cell_on hB hq
  replace hr := cell_on hB hr
  replace hv := hv.trans (hB.mono hv.size)
  clear hB hw1
  have hs4 := World.block_lt_of_cell? _ _ x0
  have hs5 := World.block_lt_of_cell? _ _ hp
  have hs6 := World.block_lt_of_cell? _ _ hq
  have hs7 := World.block_lt_of_cell? _ _ hr
  have hS : ∀ w', Below w1.heap.size w1 w' → ((w'.cell? ⟨p, 0, none⟩ = some (.func (.func 69) #[] #[]) ∧ w'.cell? ⟨q, 0, none⟩ = some (.int .i64 0) ∧ w'.cell? ⟨r, 0, none⟩ = some (.int .i64 1000000) ∧ w'.cell? ⟨w.heap.size, 0, none⟩ = some (.int .i64 F) ∧ w'.cell? ⟨w.heap.size, 1, none⟩ = some (.int .i64 O) ∧ w'.cell? ⟨w.heap.size, 2, none⟩ = some (.int .i64 J) ∧ w'.cell? ⟨w.heap.size, 3, none⟩ = some (.int .i64 G) ∧ w'.cell? ⟨w.heap.size, 4, none⟩ = some (.int .i64 R) ∧ w'.cell? ⟨w.heap.size, 5, none⟩ = some (.int .i64 D) ∧ w'.cell? ⟨w.heap.size, 6, none⟩ = some (.int .i64 I)) ∧ Below w1.heap.size w1 w') := fun w' hB => ⟨⟨cell_on hB hp, cell_on hB hq, cell_on hB hr, cell_on hB x0, cell_on hB x1, cell_on hB x2, cell_on hB x3, cell_on hB x4, cell_on hB x5, cell_on hB x6⟩, hB⟩
  go_region_held3 (fun w' => (w'.cell? ⟨p, 0, none⟩ = some (.func (.func 69) #[] #[]) ∧ w'.cell? ⟨q, 0, none⟩ = some (.int .i64 0) ∧ w'.cell? ⟨r, 0, none⟩ = some (.int .i64 1000000) ∧ w'.cell? ⟨w.heap.size, 0, none⟩ = some (.int .i64 F) ∧ w'.cell? ⟨w.heap.size, 1, none⟩ = some (.int .i64 O) ∧ w'.cell? ⟨w.heap.size, 2, none⟩ = some (.int .i64 J) ∧ w'.cell? ⟨w.heap.size, 3, none⟩ = some (.int .i64 G) ∧ w'.cell? ⟨w.heap.size, 4, none⟩ = some (.int .i64 R) ∧ w'.cell? ⟨w.heap.size, 5, none⟩ = some (.int .i64 D) ∧ w'.cell? ⟨w.heap.size, 6, none⟩ = some (.int .i64 I)) ∧ Below w1.heap.size w1 w') (first | exact hS _ (Below.refl _ _).drew | assumption | (have hh := ‹(_ ∧ _ ∧ _ ∧ _ ∧ _ ∧ _ ∧ _ ∧ _ ∧ _ ∧ _) ∧ Below w1.heap.size w1 _›; exact hS _ (hh.2.trans (hB.mono hh.2.size))))
    (first | (go_at_call 69; refine (ca _).mono ?_; rintro e w' ⟨rfl, hB⟩) | (go_at_call 37; refine (cb _).mono ?_; rintro e w' ⟨rfl, hB⟩))
  rename_i hHeld
  have hB := hHeld.2
  clear hHeld hS ca cb
  rename World => w99
  replace hp := cell_on hB hp
  replace hq := cell_on hB hq
  replace hr := cell_on hB hr
  replace x0 := cell_on hB x0
  replace x1 := cell_on hB x1
  replace x2 := cell_on hB x2
  replace x3 := cell_on hB x3
  replace x4 := cell_on hB x4
  replace x5 := cell_on hB x5
  replace x6 := cell_on hB x6
  replace hv := hv.trans (hB.mono hv.size)
  clear hB
  go_wp2
  go_ret
  exact ⟨rfl, hv⟩
end Go.Proofs.Ytjgnadighdbjlaa.C
