/- Contracts of bits.Mul (of 1), slices.Repeat (of one number) and filled, by hand. -/
import Derived.OwnWalk
import Derived.Laws.AppendOwn
import Derived.Laws.CopyOwn
import Derived.Laws.OwnMore
import Derived.Deep.RegionLaw
import Derived.Deep.RegionHeld3
import Derived.Test.YtjgnadighdbjlaaCt
namespace Go.Proofs.Ytjgnadighdbjlaa.C
open Go.RowKit Go.Shelf Go.Maps Go.Proofs.YtjgnadighdbjlaaW.PrintWords Go.Proofs.YtjgnadighdbjlaaW.PrintLast Go.Proofs.YtjgnadighdbjlaaW.PrintMore
set_option linter.unusedVariables false
set_option linter.unusedSimpArgs false
set_option maxHeartbeats 4000000 in
set_option maxRecDepth 100000 in
theorem mul64_calls (n : Int) (w : World) (h1 : 1 ≤ n) (h2 : n ≤ 16) :
    Calls Try.prog 82 #[.int .u64 1, .int .u64 n] w fun e w' => e = .returned (.tuple #[.int .u64 0, .int .u64 n]) ∧ w' = w := by
  have h : n = 1 ∨ n = 2 ∨ n = 3 ∨ n = 4 ∨ n = 5 ∨ n = 6 ∨ n = 7 ∨ n = 8 ∨ n = 9 ∨ n = 10 ∨ n = 11 ∨ n = 12 ∨ n = 13 ∨ n = 14 ∨ n = 15 ∨ n = 16 := by omega
  clear h1 h2
  rcases h with rfl | rfl | rfl | rfl | rfl | rfl | rfl | rfl | rfl | rfl | rfl | rfl | rfl | rfl | rfl | rfl <;> (go_enter Try.func82, Try.ntmps82; go_wp2; go_ret2; exact ⟨rfl, rfl⟩)
set_option maxHeartbeats 4000000 in
set_option maxRecDepth 100000 in
theorem mul_calls (n : Int) (w : World) (h1 : 1 ≤ n) (h2 : n ≤ 16) :
    Calls Try.prog 77 #[.int .u64 1, .int .u64 n] w fun e w' => e = .returned (.tuple #[.int .u64 0, .int .u64 n]) ∧ w' = w := by
  have c1 := fun w => mul64_calls n w h1 h2
  go_enter Try.func77, Try.ntmps77
  go_wp2_with fail
  refine (c1 _).mono ?_
  rintro en w1 ⟨rfl, rfl⟩
  go_wp2
  go_ret2
  exact ⟨rfl, rfl⟩
theorem info3u : (Try.prog.info? 3).map (·.size) = some 1 := by kernel_rfl
/-- A row of n numbers of which the first k are x. -/
def repL (x : Int) (n k : Nat) : List Value := List.replicate k (Value.int .i64 x) ++ List.replicate (n - k) (Value.int .i64 0)
theorem repL_len {x : Int} {n k : Nat} (h : k ≤ n) : (repL x n k).length = n := by simp [repL]; omega
theorem repL_put {x : Int} {n k j : Nat} (h : k + j ≤ n) : splice (repL x n k) k (List.replicate j (Value.int .i64 x)) = repL x n (k + j) := by
  unfold splice repL
  rw [List.take_append_of_le_length (by simp), List.take_of_length_le (by simp), List.length_replicate, List.drop_append, List.drop_of_length_le (by simp), List.nil_append, List.drop_replicate, ← List.append_assoc, List.replicate_append_replicate, List.length_replicate]
  congr 2
  omega
theorem copyP {W : World} {g : Nat} {x : Int} {n k j dLen dCap : Nat} {ad : Addr} {sLen sCap : Nat} (hg : W.heap[g]? = some (.cells (repL x n k).toArray 3 (0, 0))) (hj : j = Nat.min sLen dLen) (hkj : k + j ≤ n) (hsrc : ∀ i, i < j → W.cell? (ad.add i) = some (.int .i64 x)) :
    (Builtin.copy_ #[59, 59] 3 #[.slice (some ⟨g, k, none⟩) dLen dCap, .slice (some ad) sLen sCap]).run Try.prog W = .ok (goInt j) (W.setRow g (repL x n (k + j)).toArray) := by
  have h := run_copy_row (P := Try.prog) W 59 59 3 3 g k dLen dCap ad sLen sCap (repL x n k).toArray 3 (List.replicate j (Value.int .i64 x)) Try.underlying59 info3u hg (by rw [List.length_replicate, hj]) (fun i v hv => by
    rw [List.getElem?_replicate] at hv
    split at hv
    · rename_i h; cases hv; exact hsrc i h
    · cases hv) (by simp [repL]; omega) (fun v hv => by obtain ⟨_, rfl⟩ := List.mem_replicate.1 hv; rfl)
  rw [List.length_replicate] at h
  have e := repL_put (x := x) (n := n) (k := k) (j := j) hkj
  unfold splice at e
  rw [List.length_replicate] at e
  rw [h]
  simp only [List.toList_toArray, List.append_assoc]
  rw [e]
theorem repL_get {x : Int} {n k j : Nat} (h : j < k) : (repL x n k)[j]? = some (Value.int .i64 x) := by
  unfold repL
  rw [List.getElem?_append_left (by simpa using h), List.getElem?_replicate, if_pos h]
set_option maxHeartbeats 4000000 in
set_option maxRecDepth 100000 in
theorem repeat_calls (n : Nat) (x : Int) (b : Nat) (w : World) (h1 : 1 ≤ n) (h2 : n ≤ 16) (hb : w.cell? ⟨b, 0, none⟩ = some (.int .i64 x)) :
    Calls Try.prog 59 #[.slice (some ⟨b, 0, none⟩) 1 1, .int .i64 n] w fun e w' => ∃ g, e = .returned (.slice (some ⟨g, 0, none⟩) n n) ∧ w.heap.size ≤ g ∧ w'.heap[g]? = some (.cells (List.replicate n (Value.int .i64 x)).toArray 3 (0, 0)) ∧ Below w.heap.size w w' := by
  have c1 := fun w => mul_calls (n : Int) w (by omega) (by omega)
  have hu : IntKind.u64.wrap (n : Int) = (n : Int) := by rw [IntKind.wrap_u64]; omega
  have hi := wrp (n : Int) (by omega) (by omega)
  have hn0 : (0 : Int) < (n : Int) := by omega
  have hs1 := World.block_lt_of_cell? _ _ hb
  have hmk : ∀ W : World, (Instr.makeSlice 59 (.int .i64 n) (.int .i64 n)).run Try.prog W = .ok (.slice (some ⟨W.heap.size, 0, none⟩) n n) (W.alloc (.cells (repL x n 0).toArray 3)) := by
    intro W
    have := print_make (P := Try.prog) 59 3 .i64 8 Try.underlying59 info3n (by decide) n (by omega) W
    rw [this, show madeCells #[Value.int .i64 0] n = (repL x n 0).toArray by simp only [repL, List.replicate_zero, List.nil_append, Nat.sub_zero]; rw [← toList_madeCells_one]]
  go_enter Try.func59, Try.ntmps59
  go_wp2_with fail
  refine (c1 _).mono ?_
  rintro en w1 ⟨rfl, rfl⟩
  have hcp : (Builtin.copy_ #[59, 59] 3 #[.slice (some ⟨w1.heap.size, 0, none⟩) n n, .slice (some ⟨b, 0, none⟩) 1 1]).run Try.prog (w1.alloc (.cells (repL x n 0).toArray 3)) = .ok (goInt (1 : Nat)) ((w1.alloc (.cells (repL x n 0).toArray 3)).setRow w1.heap.size (repL x n (0 + 1)).toArray) :=
    copyP (al_new _ _ _ rfl) (by simp only [Nat.min_def]; split <;> omega) (by omega) (fun i hi => (by
      have h0 : i = 0 := by omega
      subst h0
      exact (cell_on ((Below.refl _ _).alloc (Nat.le_refl _) _) hb)))
  go_wp2_with fail
  obtain ⟨w2, hw2⟩ : ∃ w2, (w1.alloc (.cells (repL x n 0).toArray 3)).setRow w1.heap.size (repL x n (0 + 1)).toArray = w2 := ⟨_, rfl⟩
  have HL0 : Aside0 (w2.heap[w1.heap.size]? = some (.cells (repL x n 1).toArray 3 (0, 0)) ∧ Below w1.heap.size w1 w2) := ⟨by rw [← hw2]; exact setRow_heap _ _ _ _ 3 _ (al_new _ _ _ rfl), by rw [← hw2]; exact below_setRow ((Below.refl _ _).alloc (Nat.le_refl _) _) (Nat.le_refl _) _⟩
  try rw [hw2]
  clear hw2 hcp hmk c1 hb hs1
  go_loopw [8] (fun v8 wr => ∃ k : Nat, 1 ≤ k ∧ k ≤ n ∧ v8 = .int .i64 k ∧ Aside0 (wr.heap[w1.heap.size]? = some (.cells (repL x n k).toArray 3 (0, 0)) ∧ Below w1.heap.size w1 wr)) (fun v8 _ => n - (intOf v8).toNat)
  case atStart => exact ⟨1, by omega, h1, rfl, HL0⟩
  case round =>
    clear HL0
    obtain ⟨k, hk1, hk2, rfl, HI⟩ := hrel
    by_cases hlt : k < n
    · have hd1 : (k : Int) < (n : Int) := by omega
      obtain ⟨j, hj1, hj2, hj⟩ : ∃ j : Nat, 1 ≤ j ∧ k + j ≤ n ∧ j = Nat.min k (n - k) := ⟨Nat.min k (n - k), by simp only [Nat.min_def]; split <;> omega, by simp only [Nat.min_def]; split <;> omega, rfl⟩
      have hcp : ∀ (c1 c2 : Nat), (Builtin.copy_ #[59, 59] 3 #[.slice (some ⟨w1.heap.size, k, none⟩) (n - k) c1, .slice (some ⟨w1.heap.size, 0, none⟩) k c2]).run Try.prog wr.drew = .ok (goInt j) (wr.drew.setRow w1.heap.size (repL x n (k + j)).toArray) := fun c1 c2 =>
        copyP (by exact HI.out.1) hj (by omega) (fun i hi => (by
          have : i < k := by simp only [Nat.min_def] at hj; split at hj <;> omega
          rw [show (⟨w1.heap.size, 0, none⟩ : Addr).add i = ⟨w1.heap.size, i, none⟩ by unfold Addr.add; split <;> simp_all]
          have hc := blk_cell HI.out.1 i
          have := repL_get (x := x) (n := n) this
          show wr.cell? _ = _
          rw [hc]; simpa using this))
      have hwk : IntKind.i64.wrap ((k : Int) + (j : Int)) = ((k + j : Nat) : Int) := by rw [show (k : Int) + (j : Int) = ((k + j : Nat) : Int) by omega]; exact wrp _ (by omega) (by omega)
      clear hj
      have hk0 : (0 : Int) ≤ (k : Int) := by omega
      have hkn : (k : Int) ≤ (n : Int) := by omega
      go_wp2_with fail
      go_region_held3 (fun w' => Below w1.heap.size w1 w') (first | exact HI.out.2.drew | exact below_setRow HI.out.2.drew (Nat.le_refl _) _ | assumption) (fail)
      have HN : Aside0 ((wr.drew.setRow w1.heap.size (repL x n (k + j)).toArray).heap[w1.heap.size]? = some (.cells (repL x n (k + j)).toArray 3 (0, 0)) ∧ Below w1.heap.size w1 (wr.drew.setRow w1.heap.size (repL x n (k + j)).toArray)) := ⟨setRow_heap _ _ _ _ 3 _ (by exact HI.out.1), below_setRow HI.out.2.drew (Nat.le_refl _) _⟩
      go_wp2
      go_roundw
      case rel => exact ⟨k + j, by omega, by omega, by rfl, HN⟩
      case measure => simp [intOf]; omega
    · obtain rfl : k = n := by omega
      have hd1 : ¬ (k : Int) < (k : Int) := by omega
      go_wp2
      go_ret
      exact ⟨_, rfl, Nat.le_refl _, by have := HI.out.1; simpa [repL] using this, HI.out.2⟩
end Go.Proofs.Ytjgnadighdbjlaa.C
