/- The steps of a clock's walk, as an iterator, by hand. -/
import Derived.OwnWalk
import Derived.RangeFuncBox
import Derived.RangeFuncLeaves
import Derived.RangeFuncNested
import Derived.RangeFuncBound
import Derived.RangeFuncCalls
import Derived.Shelf.Abstract
import Derived.Shelf.AbstractIn
import Derived.WalkKit
import Derived.OwnWalkIn
import Derived.TacticsInMore
import Derived.LoopNIn
import Derived.LoopIn
import Derived.Maps.AppendAt
import Derived.Sort.CutIn
import Derived.Deep.RegionHeld3
import Derived.Test.YtlfnnalepdjagaaDoorAj
namespace Go.Proofs.YtlfnnalepdjagaaDoor.C
open Go.RowKit Go.Shelf Go.Maps Go.Proofs.YtlfnnalepdjagaaDoorW.PrintWords Go.Proofs.YtlfnnalepdjagaaDoorW.PrintLast Go.Proofs.YtlfnnalepdjagaaDoorW.PrintMore
set_option linter.unusedVariables false
set_option linter.unusedSimpArgs false
attribute [local go_sem] Oper.semAt_some
/-- Some blocks stay as they are. -/
def SameAt (bs : List Nat) (W W' : World) : Prop := ∀ b, b ∈ bs → W'.heap[b]? = W.heap[b]?
theorem SameAt.t {bs : List Nat} {A B C : World} (h : SameAt bs A B) (k : SameAt bs B C) : SameAt bs A C := fun b hb => (k b hb).trans (h b hb)
theorem SameAt.b {bs : List Nat} {n : Nat} (hb : ∀ b, b ∈ bs → b < n) : ∀ (W : World) (l : Nat) (o o' : Obj), n ≤ l → W.heap[l]? = some o → o.isCells = false → o.isWalk = false → SameAt bs W (W.putObj l o') :=
  fun W l o o' hl _ _ _ b hm => World.putObj_heap_other (by have := hb b hm; omega)
/-- The draws from a on. -/
def stepsT (seed k wk : Int) : Int → Nat → List Int
  | _, 0 => []
  | a, n + 1 => drawF seed 1 k a wk :: stepsT seed k wk (a + 1) n
def stepsN (fr to_ : Int) : Nat := (to_ / 100 - fr / 100).toNat
set_option maxHeartbeats 4000000 in
set_option maxRecDepth 100000 in
theorem steps_calls (kd ph rt dr wh wk ht ch : Int) (ve : Value) (seed : Int) (vh vk : Value) (k fr to_ : Int) (w : World) :
    Calls Tryd.prog 78 #[.agg #[.int .i64 kd, .int .i64 ph, .int .i64 rt, .int .i64 dr, .int .i64 wh, .int .i64 wk, .int .i64 ht, .int .i64 ch, ve, .int .u64 seed, vh, vk, .int .i64 k], .int .i64 fr, .int .i64 to_] w fun e w' => e = .returned (.func (.func 86) #[] #[.pointer (some ⟨w.heap.size + 1, 0, none⟩), .pointer (some ⟨w.heap.size + 1 + 1, 0, none⟩), .pointer (some ⟨w.heap.size, 0, none⟩)]) ∧
      w' = ((w.alloc (.cells #[.int .i64 kd, .int .i64 ph, .int .i64 rt, .int .i64 dr, .int .i64 wh, .int .i64 wk, .int .i64 ht, .int .i64 ch, ve, .int .u64 seed, vh, vk, .int .i64 k] 97)).alloc (.cells #[.int .i64 fr] 3)).alloc (.cells #[.int .i64 to_] 3) := by
  go_enter Tryd.func78, Tryd.ntmps78
  go_wp2
  go_ret
  exact ⟨rfl, rfl⟩
set_option maxHeartbeats 4000000 in
set_option maxRecDepth 100000 in
theorem steps_stops (n : Nat) (hn : 1 ≤ n) (kd ph rt dr wh wk ht ch : Int) (ve : Value) (seed : Int) (vh vk : Value) (k fr to_ : Int) (B0 B1 B2 : Nat) (w : World) (h0 : w.heap[B0]? = some (.cells #[.int .i64 kd, .int .i64 ph, .int .i64 rt, .int .i64 dr, .int .i64 wh, .int .i64 wk, .int .i64 ht, .int .i64 ch, ve, .int .u64 seed, vh, vk, .int .i64 k] 97 (0, 0)))
    (h1 : w.heap[B1]? = some (.cells #[.int .i64 fr] 3 (0, 0))) (h2 : w.heap[B2]? = some (.cells #[.int .i64 to_] 3 (0, 0)))
    (hfr : 0 ≤ fr ∧ fr ≤ 1000000) (hto : 0 ≤ to_ ∧ to_ ≤ 1000000) (hk : 0 ≤ k ∧ k ≤ 1000000000000000) (hwk : 0 ≤ wk ∧ wk ≤ 100000000000000) :
    SeqStopsK Fence.wide n Tryd.prog 86 #[.pointer (some ⟨B1, 0, none⟩), .pointer (some ⟨B2, 0, none⟩), .pointer (some ⟨B0, 0, none⟩)] (fun x : Int => #[.int .i64 x]) (SameAt [B0, B1, B2])
      (fun xs => xs = stepsT seed k wk (fr / 100 + 1) (stepsN fr to_)) (fun pre => ∃ s, pre ++ s = stepsT seed k wk (fr / 100 + 1) (stepsN fr to_)) 20000 w := fun l J' Jx W hW hJJ hJX hY hJ0 => by
  have lt0 : B0 < w.heap.size := (Array.getElem?_eq_some_iff.1 h0).1
  have lt1 : B1 < w.heap.size := (Array.getElem?_eq_some_iff.1 h1).1
  have lt2 : B2 < w.heap.size := (Array.getElem?_eq_some_iff.1 h2).1
  have G0 := (hW.block B0 lt0).trans h0
  have G1 := (hW.block B1 lt1).trans h1
  have G2 := (hW.block B2 lt2).trans h2
  clear h0 h1 h2 hW
  refine callsIn_of_wp Tryd.func86 rfl trivial ?_ rfl
  simp only [Tryd.ntmps86, List.size_toArray, List.length_cons, List.length_nil, Nat.reduceAdd, Nat.reduceSub, Array.replicate_succ, Array.replicate_zero, List.push_toArray, List.append_toArray, List.nil_append, List.cons_append]
  have p0 : W.cell? ⟨B1, 0, none⟩ = some (.int .i64 fr) := blk_cell G1 0
  have t1 := Int.tdiv_eq_ediv_of_nonneg (a := fr) hfr.1 (b := 100)
  have t2 := Int.tdiv_eq_ediv_of_nonneg (a := to_) hto.1 (b := 100)
  obtain ⟨NN, hNN⟩ : ∃ NN, stepsN fr to_ = NN := ⟨_, rfl⟩
  have hNN2 : NN = (to_ / 100 - fr / 100).toNat := hNN.symm
  rw [hNN]
  obtain ⟨a, ha⟩ : ∃ a, fr / 100 = a := ⟨_, rfl⟩
  obtain ⟨b, hb⟩ : ∃ b, to_ / 100 = b := ⟨_, rfl⟩
  have hab : 0 ≤ a ∧ a ≤ 10000 ∧ 0 ≤ b ∧ b ≤ 10000 := by omega
  rw [ha] at t1 hNN2 ⊢
  rw [hb] at t2 hNN2
  have u1 := wr a (by omega) (by omega)
  have u2 := wr (a + 1) (by omega) (by omega)
  have u3 := wr b (by omega) (by omega)
  clear hNN ha hb
  obtain ⟨TL, hTL⟩ : ∃ TL, stepsT seed k wk (a + 1) NN = TL := ⟨_, rfl⟩
  rw [hTL]
  have HTL := Aside0.mk hTL
  clear hTL
  gi_wp2_with fail
  clear p0
  gi_loopw [5] (fun v wx => ∃ (i : Nat) (pre : List Int), i ≤ NN ∧ v = .int .i64 (a + 1 + i) ∧ pre.length ≤ i ∧ J' pre wx ∧ Aside0 (TL = pre ++ stepsT seed k wk (a + 1 + i) (NN - i)) ∧ Aside0 (SameAt [B0, B1, B2] W wx))
    (fun v _ => (a + 20001 - intOf v).toNat)
  case atStart => exact ⟨0, [], Nat.zero_le _, by simp, Nat.le_refl _, hJ0, ⟨by rw [← HTL.out]; simp⟩, ⟨fun b hb => rfl⟩⟩
  case round =>
    obtain ⟨i, pre, hi', rfl, hpl, hJs, HT, HS⟩ := hrel
    have hv := Below.refl wr.heap.size wr
    have G0' := (HS.out B0 (by simp)).trans G0
    have G1' := (HS.out B1 (by simp)).trans G1
    have G2' := (HS.out B2 (by simp)).trans G2
    have x5 : wr.cell? ⟨B0, 5, none⟩ = some (.int .i64 wk) := blk_cell G0' 5
    have x9 : wr.cell? ⟨B0, 9, none⟩ = some (.int .u64 seed) := blk_cell G0' 9
    have x12 : wr.cell? ⟨B0, 12, none⟩ = some (.int .i64 k) := blk_cell G0' 12
    have q0 : wr.cell? ⟨B2, 0, none⟩ = some (.int .i64 to_) := blk_cell G2' 0
    by_cases hlt : i < NN
    · have hl1 : a + 1 + (i : Int) ≤ b := by omega
      have c1 := fun w => draw_calls seed 1 k (a + 1 + (i : Int)) wk w (by omega) hk (by omega) hwk
      have u4 := C.wr (a + 1 + (i : Int) + 1) (by omega) (by omega)
      obtain ⟨d, hd⟩ : ∃ d, drawF seed 1 k (a + 1 + (i : Int)) wk = d := ⟨_, rfl⟩
      rw [hd] at c1
      have HN : Aside0 (TL = (pre ++ [d]) ++ stepsT seed k wk (a + 1 + ((i + 1 : Nat) : Int)) (NN - (i + 1))) := ⟨by
        rw [HT.out, show NN - i = (NN - (i + 1)) + 1 by omega, stepsT, hd]; simp [Int.add_assoc]⟩
      clear hd
      gi_wp2_with fail
      refine ⟨trivial, ?_⟩
      refine (callsIn_wide.2 (c1 _)).mono ?_
      rintro en W2 ⟨rfl, hB⟩
      have hJ2 : J' pre W2 := hJJ _ _ _ none hJs ⟨hB.os, hB.tape, hB.output, hB.size, fun k hk _ => hB.block k hk⟩ (fun r e => by cases e)
      have HS2 : Aside0 (SameAt [B0, B1, B2] W W2) := ⟨SameAt.t HS.out (fun b hb => hB.block b (by have h1 := (Array.getElem?_eq_some_iff.1 G0').1; have h2 := (Array.getElem?_eq_some_iff.1 G1').1; have h3 := (Array.getElem?_eq_some_iff.1 G2').1; simp at hb; omega))⟩
      obtain ⟨fn, tmps, assign, body, hy, hR⟩ := hY _ d _ hJ2 (by omega)
      clear HT hJs hB c1 x5 x9 x12 q0
      gi_wp2
      refine hR.mono ?_
      rintro en W3 (⟨rfl, hJ3, hk3⟩ | ⟨rfl, hJx3⟩)
      · have HS3 : Aside0 (SameAt [B0, B1, B2] W W3) := ⟨SameAt.t HS2.out hk3⟩
        clear hk3
        gi_wp2
        go_roundw
        case rel => exact ⟨i + 1, _, by omega, by go_num, by simp; omega, hJ3, HN, HS3⟩
        case measure => simp [intOf]; omega
      · gi_wp2
        refine bodyPost_ret (results_none rfl _ _ _) rfl ?_
        exact ⟨⟨_, rfl⟩, .inr ⟨_, ⟨_, HN.out.symm⟩, hJx3⟩⟩
    · obtain rfl : i = NN := by omega
      have hl1 : ¬ a + 1 + (i : Int) ≤ b := by omega
      gi_wp2
      go_end0
      have hpt : pre = TL := by rw [HT.out]; simp [stepsT]
      rw [hpt] at hJs
      exact ⟨⟨_, rfl⟩, .inl hJs⟩
end Go.Proofs.YtlfnnalepdjagaaDoor.C
