/- Contracts of the counter's small functions, by hand. -/
import Derived.Lib.ConvBytes
import Derived.Laws.Slices
import Derived.WalkKit
import Derived.KernelRfl
import Derived.RowKit3
import Derived.Deep.LoopGhost
import Derived.Deep.QuietTactic
import Derived.BigQuiet
import Derived.WideLaws
import Derived.Deep.DeepCutAuto
import Derived.Deep.CutBlock
import Derived.Deep.RegionHeld3
import Derived.Laws.Rows
import Derived.ArgAppend
import Derived.Laws.IdiomCopy
import Derived.OrdersHeld
import Derived.Laws.BitsLemmas
import Derived.Laws.Bits64
import Derived.RowKit
import Derived.Shelf.Abstract
import Derived.Maps.AppendAt
import Derived.Lib.SliceRun
import Derived.Deep.Draws
import Derived.Deep.Cut
import Derived.Laws.ResultCell
import Derived.Maps.Own
import Derived.Maps.OwnOps
import Derived.Test.YtlfnnalepdjagaaDoorProg
import Derived.Test.YtlfnnalepdjagaaDoorWX
namespace Go.Proofs.YtlfnnalepdjagaaDoor.C
open Go.RowKit Go.Shelf Go.Proofs.YtlfnnalepdjagaaDoorW.PrintWords Go.Proofs.YtlfnnalepdjagaaDoorW.PrintLast Go.Proofs.YtlfnnalepdjagaaDoorW.PrintMore
set_option linter.unusedVariables false
set_option linter.unusedSimpArgs false
theorem al_new (w : World) (o : Obj) (k : Nat) (h : k = w.heap.size) : (w.alloc o).heap[k]? = some o := by rw [h]; exact heap_alloc_new w o
theorem al_old {w : World} {o o' : Obj} {k : Nat} (h : w.heap[k]? = some o) : (w.alloc o').heap[k]? = some o := (Below.heap_alloc w o' k (Array.getElem?_eq_some_iff.1 h).1).trans h
theorem cell_on {W1 w' : World} {p : Addr} {v : Value} (hB : Below W1.heap.size W1 w') (h : W1.cell? p = some v) : w'.cell? p = some v := (hB.cell (World.block_lt_of_cell? _ _ h)).trans h
theorem win_calls (n a b : Int) (w : World) :
    Calls Tryd.prog 48 #[.int .i64 n, .int .i64 a, .int .i64 b] w fun e w' => e = .returned (.bool (decide (a ≤ n) && decide (n ≤ b))) ∧ Below w.heap.size w w' := by
  cases h1 : decide (a ≤ n)
  · go_enter Tryd.func48, Tryd.ntmps48
    go_wp2
    repeat (go_quiet (fail); try go_wp2)
    go_ret
    exact ⟨rfl, Below.refl _ _⟩
  · cases h2 : decide (n ≤ b)
    all_goals
      go_enter Tryd.func48, Tryd.ntmps48
      go_wp2
      repeat (go_quiet (fail); try go_wp2)
      go_ret
      exact ⟨rfl, Below.refl _ _⟩
theorem tdiv_floor {a b : Int} (hb : 0 < b) : (a.tmod b < 0 → a.tdiv b - 1 = a / b) ∧ (0 ≤ a.tmod b → a.tdiv b = a / b) := by
  have h1 := Int.mul_tdiv_add_tmod a b
  have h2 : -b < a.tmod b ∧ a.tmod b < b := by
    refine ⟨?_, Int.tmod_lt_of_pos a hb⟩
    have := Int.tmod_lt_of_pos (-a) hb
    rw [Int.neg_tmod] at this
    omega
  refine ⟨fun h => ?_, fun h => ?_⟩
  · have h3 : a / b = a.tdiv b - 1 ∧ a % b = a.tmod b + b := (Int.ediv_emod_unique hb).2 ⟨by rw [Int.mul_sub]; omega, by omega, by omega⟩
    exact h3.1.symm
  · have h3 : a / b = a.tdiv b ∧ a % b = a.tmod b := (Int.ediv_emod_unique hb).2 ⟨by omega, h, h2.2⟩
    exact h3.1.symm
theorem tdiv_bound {a b : Int} (hb : 0 < b) : -(a.natAbs : Int) ≤ a.tdiv b ∧ a.tdiv b ≤ a.natAbs := by
  have := Int.natAbs_tdiv_le_natAbs a b
  omega
theorem floor_calls (a b : Int) (w : World) (hb : 0 < b) (ha : -9000000000000000000 ≤ a ∧ a ≤ 9000000000000000000) :
    Calls Tryd.prog 76 #[.int .i64 a, .int .i64 b] w fun e w' => e = .returned (.int .i64 (a / b)) ∧ Below w.heap.size w w' := by
  have h1 := @tdiv_floor a b hb
  have h2 := @tdiv_bound a b hb
  cases hd : decide (a.tmod b < 0)
  · have hd' := of_decide_eq_false hd
    have := h1.2 (by omega)
    go_enter Tryd.func76, Tryd.ntmps76
    go_wp2
    go_ret
    exact ⟨by first | rfl | rw [this], Below.refl _ _⟩
  · have hd' := of_decide_eq_true hd
    have := h1.1 hd'
    go_enter Tryd.func76, Tryd.ntmps76
    go_wp2
    go_ret
    exact ⟨by first | rfl | (rw [← this]; first | rfl | (congr 2; done) | (congr 2; unfold wrap64; omega)), Below.refl _ _⟩
/-- Two numbers mixed. -/
def mixF (x y : Int) : Int :=
  let z := IntKind.u64.wrap (x + IntKind.u64.wrap (y * 11400714819323198485))
  let t := IntKind.u64.wrap (bits .xor .u64 z (z / 2147483648) * 10723151780598845931)
  bits .xor .u64 t (t / 1073741824)
theorem mixF_range (x y : Int) : 0 ≤ mixF x y ∧ mixF x y < 18446744073709551616 := by
  unfold mixF bits
  simp only [IntKind.wrap_u64]
  omega
theorem mix_calls (x y : Int) (w : World) :
    Calls Tryd.prog 41 #[.int .u64 x, .int .u64 y] w fun e w' => e = .returned (.int .u64 (mixF x y)) ∧ Below w.heap.size w w' := by
  go_enter Tryd.func41, Tryd.ntmps41
  go_wp2
  go_ret
  exact ⟨rfl, Below.refl _ _⟩
theorem rmix_calls (x y : Int) (w : World) :
    Calls Tryd.prog 42 #[.int .u64 x, .int .u64 y] w fun e w' => e = .returned (.int .u64 (mixF x y)) ∧ Below w.heap.size w w' := by
  have h : mixF x y = (let z := IntKind.u64.wrap (IntKind.u64.wrap (y * 11400714819323198485) + x)
    let t := IntKind.u64.wrap (bits .xor .u64 z (z / 2147483648) * 10723151780598845931)
    bits .xor .u64 t (t / 1073741824)) := by unfold mixF; rw [Int.add_comm]
  go_enter Tryd.func42, Tryd.ntmps42
  go_wp2
  go_ret
  exact ⟨by first | rfl | rw [h], Below.refl _ _⟩
theorem wr (n : Int) (h0 : -9223372036854775808 ≤ n) (h1 : n ≤ 9223372036854775807) : IntKind.i64.wrap n = n := by rw [IntKind.wrap_i64]; omega
theorem mixU (k : Int) (h0 : 0 ≤ k) (h1 : k ≤ 1000000000000000) : IntKind.u64.wrap k = k := by rw [IntKind.wrap_u64]; omega
/-- A draw. -/
def drawF (seed k c i m : Int) : Int := mixF (mixF (mixF seed k) c) i % (2 * m + 1) - m
theorem drawF_range (seed k c i m : Int) (h : 0 ≤ m) : -m ≤ drawF seed k c i m ∧ drawF seed k c i m ≤ m := by
  unfold drawF
  have := Int.emod_nonneg (mixF (mixF (mixF seed k) c) i) (b := 2 * m + 1) (by omega)
  have := Int.emod_lt_of_pos (mixF (mixF (mixF seed k) c) i) (b := 2 * m + 1) (by omega)
  omega
theorem draw_calls (seed k c i m : Int) (w : World) (hk : 0 ≤ k ∧ k ≤ 1000000000000000) (hc : 0 ≤ c ∧ c ≤ 1000000000000000) (hi : 0 ≤ i ∧ i ≤ 1000000000000000) (hm : 0 ≤ m ∧ m ≤ 100000000000000) :
    Calls Tryd.prog 56 #[.int .u64 seed, .int .i64 k, .int .i64 c, .int .i64 i, .int .i64 m] w fun e w' => e = .returned (.int .i64 (drawF seed k c i m)) ∧ Below w.heap.size w w' := by
  have e1 := mixU k hk.1 hk.2
  have e2 := mixU c hc.1 hc.2
  have e3 := mixU i hi.1 hi.2
  have hr := mixF_range (mixF (mixF seed k) c) i
  have c1 := fun w => mix_calls seed k w
  have c2 := fun w => mix_calls (mixF seed k) c w
  have c3 := fun w => mix_calls (mixF (mixF seed k) c) i w
  unfold drawF
  generalize mixF (mixF (mixF seed k) c) i = z at *
  have t0 := Int.emod_nonneg z (b := 2 * m + 1) (by omega)
  have t1 := Int.emod_lt_of_pos z (b := 2 * m + 1) (by omega)
  have t2 := Int.tmod_eq_emod_of_nonneg (a := z) hr.1 (b := 2 * m + 1)
  have t3 := mixU (2 * m + 1) (by omega)
  have hv := Below.refl w.heap.size w
  go_enter Tryd.func56, Tryd.ntmps56
  go_wp2_with fail
  refine (c1 _).mono ?_
  rintro en w1 ⟨rfl, hB⟩
  replace hv := hv.trans hB
  clear hB c1
  go_wp2_with fail
  refine (c2 _).mono ?_
  rintro en w2 ⟨rfl, hB⟩
  replace hv := hv.trans (hB.mono hv.size)
  clear hB c2
  go_wp2_with fail
  refine (c3 _).mono ?_
  rintro en w3 ⟨rfl, hB⟩
  replace hv := hv.trans (hB.mono hv.size)
  clear hB c3
  go_wp2_with fail
  go_ret
  exact ⟨rfl, hv⟩
set_option maxHeartbeats 1000000 in
theorem rdraw_calls (seed k c i m : Int) (w : World) (hk : 0 ≤ k ∧ k ≤ 1000000000000000) (hc : 0 ≤ c ∧ c ≤ 1000000000000000) (hi : 0 ≤ i ∧ i ≤ 1000000000000000) (hm : 0 ≤ m ∧ m ≤ 100000000000000) :
    Calls Tryd.prog 40 #[.int .u64 seed, .int .i64 k, .int .i64 c, .int .i64 i, .int .i64 m] w fun e w' => e = .returned (.tuple #[.int .i64 (drawF seed k c i m), .int .i64 0]) ∧ Below w.heap.size w w' := by
  have e1 := mixU k hk.1 hk.2
  have e2 := mixU c hc.1 hc.2
  have e3 := mixU i hi.1 hi.2
  have hr := mixF_range (mixF (mixF seed k) c) i
  have c1 := fun w => rmix_calls seed k w
  have c2 := fun w => rmix_calls (mixF seed k) c w
  have c3 := fun w => rmix_calls (mixF (mixF seed k) c) i w
  unfold drawF
  generalize mixF (mixF (mixF seed k) c) i = z at *
  have t0 := Int.emod_nonneg z (b := 2 * m + 1) (by omega)
  have t1 := Int.emod_lt_of_pos z (b := 2 * m + 1) (by omega)
  have t2 := Int.tmod_eq_emod_of_nonneg (a := z) hr.1 (b := 2 * m + 1)
  have t3 := mixU (1 + 2 * m) (by omega)
  have t4 : 1 + 2 * m = 2 * m + 1 := by omega
  have hv := Below.refl w.heap.size w
  go_enter Tryd.func40, Tryd.ntmps40
  go_wp2_with fail
  refine (c1 _).mono ?_
  rintro en w1 ⟨rfl, hB⟩
  replace hv := hv.trans (hB.mono hv.size)
  clear hB c1
  go_wp2_with fail
  refine (c2 _).mono ?_
  rintro en w2 ⟨rfl, hB⟩
  replace hv := hv.trans (hB.mono hv.size)
  clear hB c2
  go_wp2_with fail
  refine (c3 _).mono ?_
  rintro en w3 ⟨rfl, hB⟩
  replace hv := hv.trans (hB.mono hv.size)
  clear hB c3
  go_wp2_with fail
  go_ret2
  exact ⟨rfl, hv⟩
end Go.Proofs.YtlfnnalepdjagaaDoor.C
