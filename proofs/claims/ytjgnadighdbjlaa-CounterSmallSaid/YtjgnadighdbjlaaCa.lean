/- Contracts of the counter's small functions, by hand. -/
import Derived.Lib.ConvBytes
import Derived.Laws.Slices
import Derived.WalkKit
import Derived.KernelRfl
import Derived.RowKit3
import Derived.Deep.LoopGhost
import Derived.Deep.QuietTactic
import Derived.BigQuiet
import Derived.WideLaws
import Derived.Deep.DeepCutAuto
import Derived.Deep.CutBlock
import Derived.Deep.RegionHeld3
import Derived.Laws.Rows
import Derived.ArgAppend
import Derived.Laws.IdiomCopy
import Derived.OrdersHeld
import Derived.Laws.BitsLemmas
import Derived.Laws.Bits64
import Derived.RowKit
import Derived.Shelf.Abstract
import Derived.Maps.AppendAt
import Derived.Lib.SliceRun
import Derived.Deep.Draws
import Derived.Deep.Cut
import Derived.Laws.ResultCell
import Derived.Maps.Own
import Derived.Maps.OwnOps
import Derived.Test.YtjgnadighdbjlaaProg
import Derived.Test.YtjgnadighdbjlaaWWords
import Derived.Test.YtjgnadighdbjlaaWLast
import Derived.Test.YtjgnadighdbjlaaWMore
namespace Go.Proofs.Ytjgnadighdbjlaa.C
open Go.RowKit Go.Shelf Go.Proofs.YtjgnadighdbjlaaW.PrintWords Go.Proofs.YtjgnadighdbjlaaW.PrintLast Go.Proofs.YtjgnadighdbjlaaW.PrintMore
set_option linter.unusedVariables false
set_option linter.unusedSimpArgs false
theorem al_new (w : World) (o : Obj) (k : Nat) (h : k = w.heap.size) : (w.alloc o).heap[k]? = some o := by rw [h]; exact heap_alloc_new w o
theorem al_old {w : World} {o o' : Obj} {k : Nat} (h : w.heap[k]? = some o) : (w.alloc o').heap[k]? = some o := (Below.heap_alloc w o' k (Array.getElem?_eq_some_iff.1 h).1).trans h
theorem cell_on {W1 w' : World} {p : Addr} {v : Value} (hB : Below W1.heap.size W1 w') (h : W1.cell? p = some v) : w'.cell? p = some v := (hB.cell (World.block_lt_of_cell? _ _ h)).trans h
theorem in_calls (n a b : Int) (w : World) :
    Calls Try.prog 37 #[.int .i64 n, .int .i64 a, .int .i64 b] w fun e w' => e = .returned (.bool (decide (a ≤ n) && decide (n ≤ b))) ∧ Below w.heap.size w w' := by
  cases h1 : decide (a ≤ n)
  · go_enter Try.func37, Try.ntmps37
    go_wp2
    repeat (go_quiet (fail); try go_wp2)
    go_ret
    exact ⟨rfl, Below.refl _ _⟩
  · cases h2 : decide (n ≤ b)
    all_goals
      go_enter Try.func37, Try.ntmps37
      go_wp2
      repeat (go_quiet (fail); try go_wp2)
      go_ret
      exact ⟨rfl, Below.refl _ _⟩
theorem win_calls (n a b : Int) (w : World) :
    Calls Try.prog 78 #[.int .i64 n, .int .i64 a, .int .i64 b] w fun e w' => e = .returned (.bool (decide (a ≤ n) && decide (n ≤ b))) ∧ Below w.heap.size w w' := by
  cases h1 : decide (a ≤ n)
  · go_enter Try.func78, Try.ntmps78
    go_wp2
    repeat (go_quiet (fail); try go_wp2)
    go_ret
    exact ⟨rfl, Below.refl _ _⟩
  · cases h2 : decide (n ≤ b)
    all_goals
      go_enter Try.func78, Try.ntmps78
      go_wp2
      repeat (go_quiet (fail); try go_wp2)
      go_ret
      exact ⟨rfl, Below.refl _ _⟩
theorem tdiv_floor {a b : Int} (hb : 0 < b) : (a.tmod b < 0 → a.tdiv b - 1 = a / b) ∧ (0 ≤ a.tmod b → a.tdiv b = a / b) := by
  have h1 := Int.mul_tdiv_add_tmod a b
  have h2 : -b < a.tmod b ∧ a.tmod b < b := by
    refine ⟨?_, Int.tmod_lt_of_pos a hb⟩
    have := Int.tmod_lt_of_pos (-a) hb
    rw [Int.neg_tmod] at this
    omega
  refine ⟨fun h => ?_, fun h => ?_⟩
  · have h3 : a / b = a.tdiv b - 1 ∧ a % b = a.tmod b + b := (Int.ediv_emod_unique hb).2 ⟨by rw [Int.mul_sub]; omega, by omega, by omega⟩
    exact h3.1.symm
  · have h3 : a / b = a.tdiv b ∧ a % b = a.tmod b := (Int.ediv_emod_unique hb).2 ⟨by omega, h, h2.2⟩
    exact h3.1.symm
theorem tmod_floor {a b : Int} (hb : 0 < b) : (a.tmod b < 0 → a.tmod b + b = a % b) ∧ (0 ≤ a.tmod b → a.tmod b = a % b) := by
  have h1 := Int.mul_tdiv_add_tmod a b
  have h2 := @tdiv_floor a b hb
  have h3 := Int.mul_ediv_add_emod a b
  refine ⟨fun h => ?_, fun h => ?_⟩
  · have := h2.1 h; rw [← this, Int.mul_sub] at h3; omega
  · have := h2.2 h; rw [← this] at h3; omega
theorem tdiv_bound {a b : Int} (hb : 0 < b) : -(a.natAbs : Int) ≤ a.tdiv b ∧ a.tdiv b ≤ a.natAbs := by
  have := Int.natAbs_tdiv_le_natAbs a b
  omega
theorem floor_calls (a b : Int) (w : World) (hb : 0 < b) (ha : -9000000000000000000 ≤ a ∧ a ≤ 9000000000000000000) :
    Calls Try.prog 72 #[.int .i64 a, .int .i64 b] w fun e w' => e = .returned (.int .i64 (a / b)) ∧ Below w.heap.size w w' := by
  have h1 := @tdiv_floor a b hb
  have h2 := @tdiv_bound a b hb
  cases hd : decide (a.tmod b < 0)
  · have hd' := of_decide_eq_false hd
    have := h1.2 (by omega)
    go_enter Try.func72, Try.ntmps72
    go_wp2
    go_ret
    exact ⟨by first | rfl | rw [this], Below.refl _ _⟩
  · have hd' := of_decide_eq_true hd
    have := h1.1 hd'
    go_enter Try.func72, Try.ntmps72
    go_wp2
    go_ret
    exact ⟨by first | rfl | (rw [← this]; first | rfl | (congr 2; done) | (congr 2; unfold wrap64; omega)), Below.refl _ _⟩
theorem modulo_calls (a b : Int) (w : World) (hb : 0 < b) (hb2 : b ≤ 9000000000000000000) :
    Calls Try.prog 53 #[.int .i64 a, .int .i64 b] w fun e w' => e = .returned (.int .i64 (a % b)) ∧ Below w.heap.size w w' := by
  have h1 := @tmod_floor a b hb
  have h2 := Int.tmod_lt_of_pos a hb
  have h3 := Int.emod_nonneg a (b := b) (by omega)
  have h4 := Int.emod_lt_of_pos a hb
  cases hd : decide (a.tmod b < 0)
  · have hd' := of_decide_eq_false hd
    have := h1.2 (by omega)
    go_enter Try.func53, Try.ntmps53
    go_wp2
    go_ret
    exact ⟨by first | rfl | rw [this], Below.refl _ _⟩
  · have hd' := of_decide_eq_true hd
    have := h1.1 hd'
    go_enter Try.func53, Try.ntmps53
    go_wp2
    go_ret
    exact ⟨by first | rfl | (rw [← this]; first | rfl | (congr 2; done) | (congr 2; unfold wrap64; omega)), Below.refl _ _⟩
/-- Two numbers mixed. -/
def mixF (x y : Int) : Int :=
  let z := IntKind.u64.wrap (x + IntKind.u64.wrap (y * 11400714819323198485))
  let t := IntKind.u64.wrap (bits .xor .u64 z (z / 2147483648) * 10723151780598845931)
  bits .xor .u64 t (t / 1073741824)
theorem mixF_range (x y : Int) : 0 ≤ mixF x y ∧ mixF x y < 18446744073709551616 := by
  unfold mixF bits
  simp only [IntKind.wrap_u64]
  omega
theorem mix_calls (x y : Int) (w : World) :
    Calls Try.prog 83 #[.int .u64 x, .int .u64 y] w fun e w' => e = .returned (.int .u64 (mixF x y)) ∧ Below w.heap.size w w' := by
  go_enter Try.func83, Try.ntmps83
  go_wp2
  go_ret
  exact ⟨rfl, Below.refl _ _⟩
theorem rmix_calls (x y : Int) (w : World) :
    Calls Try.prog 75 #[.int .u64 x, .int .u64 y] w fun e w' => e = .returned (.int .u64 (mixF x y)) ∧ Below w.heap.size w w' := by
  have h : mixF x y = (let z := IntKind.u64.wrap (IntKind.u64.wrap (y * 11400714819323198485) + x)
    let t := IntKind.u64.wrap (bits .xor .u64 z (z / 2147483648) * 10723151780598845931)
    bits .xor .u64 t (t / 1073741824)) := by unfold mixF; rw [Int.add_comm]
  go_enter Try.func75, Try.ntmps75
  go_wp2
  go_ret
  exact ⟨by first | rfl | rw [h], Below.refl _ _⟩
end Go.Proofs.Ytjgnadighdbjlaa.C
