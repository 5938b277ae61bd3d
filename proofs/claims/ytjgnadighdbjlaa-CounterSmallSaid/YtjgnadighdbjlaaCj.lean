/- What turns of a value have in common with a span, as an iterator, by hand. -/
import Derived.OwnWalk
import Derived.RangeFuncBox
import Derived.RangeFuncLeaves
import Derived.RangeFuncNested
import Derived.RangeFuncBound
import Derived.RangeFuncCalls
import Derived.Shelf.Abstract
import Derived.Shelf.AbstractIn
import Derived.WalkKit
import Derived.OwnWalkIn
import Derived.TacticsInMore
import Derived.LoopNIn
import Derived.LoopIn
import Derived.Maps.AppendAt
import Derived.Sort.CutIn
import Derived.Deep.RegionHeld3
import Derived.Test.YtjgnadighdbjlaaCi
namespace Go.Proofs.Ytjgnadighdbjlaa.C
open Go.RowKit Go.Shelf Go.Maps Go.Proofs.YtjgnadighdbjlaaW.PrintWords Go.Proofs.YtjgnadighdbjlaaW.PrintLast Go.Proofs.YtjgnadighdbjlaaW.PrintMore
set_option linter.unusedVariables false
set_option linter.unusedSimpArgs false
theorem max2_m (k k' : IntKind) (x y : Int) : Builtin.max2 (.int k x) (.int k' y) = pure (.int k (max x y)) := by rw [max2_int, show (if x < y then y else x) = max x y by split <;> omega]
theorem min2_m (k k' : IntKind) (x y : Int) : Builtin.min2 (.int k x) (.int k' y) = pure (.int k (min x y)) := by rw [min2_int, show (if y < x then y else x) = min x y by split <;> omega]
attribute [local go_sem] Oper.semAt_some max2_m min2_m
/-- The turn k of a value, and what it has in common with a span. -/
def tAt (O R m k : Int) : Int := m + k * R - O
def tLo (F O R e m k : Int) : Int := -((e - tAt O R m k) / F)
def tHi (F O R e m k : Int) : Int := (tAt O R m k + e) / F
def turnsL (F O R e m lo hi : Int) : Int → Nat → List (Int × Int)
  | _, 0 => []
  | k, n + 1 => if hi < tLo F O R e m k then [] else
      if max (tLo F O R e m k) lo ≤ min (tHi F O R e m k) hi then (max (tLo F O R e m k) lo, min (tHi F O R e m k) hi) :: turnsL F O R e m lo hi (k + 1) n else turnsL F O R e m lo hi (k + 1) n
def firstF (F O R e m lo : Int) : Int := (F * lo + O - e - m) / R
/-- Some blocks stay as they are. -/
def SameAt (bs : List Nat) (W W' : World) : Prop := ∀ b, b ∈ bs → W'.heap[b]? = W.heap[b]?
theorem SameAt.t {bs : List Nat} {A B C : World} (h : SameAt bs A B) (k : SameAt bs B C) : SameAt bs A C := fun b hb => (k b hb).trans (h b hb)
theorem SameAt.b {bs : List Nat} {n : Nat} (hb : ∀ b, b ∈ bs → b < n) : ∀ (W : World) (l : Nat) (o o' : Obj), n ≤ l → W.heap[l]? = some o → o.isCells = false → o.isWalk = false → SameAt bs W (W.putObj l o') :=
  fun W l o o' hl _ _ _ b hm => World.putObj_heap_other (by have := hb b hm; omega)
theorem wrp (n : Int) (h0 : -9223372036854775808 ≤ n) (h1 : n ≤ 9223372036854775807) : IntKind.i64.wrap n = n := wr n h0 h1
theorem abs_of_mul {x R M : Int} (hR : 1 ≤ R) (h1 : -M ≤ x * R) (h2 : x * R ≤ M) (hM : 0 ≤ M) : -M ≤ x ∧ x ≤ M := by
  constructor
  · refine Classical.byContradiction fun h => ?_
    have := Int.mul_le_mul_of_nonneg_right (show x ≤ -M - 1 by omega) (show 0 ≤ R by omega)
    have h3 := Int.mul_le_mul_of_nonneg_left hR (show 0 ≤ M + 1 by omega)
    rw [show -M - 1 = -(M + 1) by omega, Int.neg_mul] at this
    omega
  · refine Classical.byContradiction fun h => ?_
    have := Int.mul_le_mul_of_nonneg_right (show M + 1 ≤ x by omega) (show 0 ≤ R by omega)
    have h3 := Int.mul_le_mul_of_nonneg_left hR (show 0 ≤ M + 1 by omega)
    omega
theorem div_small {a b : Int} (hb : 1 ≤ b) : -(a.natAbs : Int) - 1 ≤ a / b ∧ a / b ≤ a.natAbs + 1 := by
  have h1 := Int.mul_ediv_add_emod a b
  have h2 := Int.emod_nonneg a (b := b) (by omega)
  have h3 := Int.emod_lt_of_pos a (b := b) (by omega)
  have h4 := Int.natAbs_ediv_le_natAbs a b
  omega
theorem al_on {w w' : World} {o : Obj} (h : Below (w.alloc o).heap.size (w.alloc o) w') : w'.heap[w.heap.size]? = some o := (h.block _ (by simp)).trans (al_new _ _ _ rfl)
theorem al_onD {w w' : World} {o : Obj} (h : Below (w.alloc o).drew.heap.size (w.alloc o).drew w') : w'.heap[w.heap.size]? = some o := (h.block _ (by simp)).trans (al_new _ _ _ rfl)
theorem blk_on {w w' : World} {o : Obj} {k : Nat} (h : Below w.heap.size w w') (hk : w.heap[k]? = some o) : w'.heap[k]? = some o := (h.block _ (Array.getElem?_eq_some_iff.1 hk).1).trans hk
theorem turns_calls (F O J G R D I m lo hi : Int) (w : World) :
    Calls Try.prog 73 #[.agg #[.int .i64 F, .int .i64 O, .int .i64 J, .int .i64 G, .int .i64 R, .int .i64 D, .int .i64 I], .int .i64 m, .agg #[.int .i64 lo, .int .i64 hi]] w fun e w' => e = .returned (.func (.func 80) #[] #[.pointer (some ⟨w.heap.size, 0, none⟩), .pointer (some ⟨w.heap.size + 1 + 1, 0, none⟩), .pointer (some ⟨w.heap.size + 1, 0, none⟩)]) ∧
      w' = ((w.alloc (.cells #[.int .i64 F, .int .i64 O, .int .i64 J, .int .i64 G, .int .i64 R, .int .i64 D, .int .i64 I] 51)).alloc (.cells #[.int .i64 m] 3)).alloc (.cells #[.int .i64 lo, .int .i64 hi] 43) := by
  go_enter Try.func73, Try.ntmps73
  go_wp2
  go_ret
  exact ⟨rfl, rfl⟩
set_option maxRecDepth 100000 in
set_option maxHeartbeats 4000000 in
theorem turns_stops (n : Nat) (hn : 1 ≤ n) (F O J G R D I m lo hi : Int) (B0 B1 B2 : Nat) (w : World) (h0 : w.heap[B0]? = some (.cells #[.int .i64 F, .int .i64 O, .int .i64 J, .int .i64 G, .int .i64 R, .int .i64 D, .int .i64 I] 51 (0, 0)))
    (h1 : w.heap[B1]? = some (.cells #[.int .i64 lo, .int .i64 hi] 43 (0, 0))) (h2 : w.heap[B2]? = some (.cells #[.int .i64 m] 3 (0, 0))) (HK : CtrOk F O J G R D I)
    (hm : -1000000000000000 ≤ m ∧ m ≤ 1000000000000000) (hlo : -1000000000000000 ≤ lo ∧ lo ≤ 1000000000000000) (hhi : -1000000000000000 ≤ hi ∧ hi ≤ 1000000000000000) :
    SeqStopsK Fence.wide n Try.prog 80 #[.pointer (some ⟨B0, 0, none⟩), .pointer (some ⟨B1, 0, none⟩), .pointer (some ⟨B2, 0, none⟩)] (fun x : Int × Int => #[.agg #[.int .i64 x.1, .int .i64 x.2]]) (SameAt [B0, B1, B2])
      (fun xs => xs = turnsL F O R (J + G / 2) m lo hi (firstF F O R (J + G / 2) m lo) (2 * F + 5).toNat) (fun pre => ∃ s, pre ++ s = turnsL F O R (J + G / 2) m lo hi (firstF F O R (J + G / 2) m lo) (2 * F + 5).toNat) 3000 w := fun l J' Jx W hW hJJ hJX hY hJ0 => by
  have lt0 : B0 < w.heap.size := (Array.getElem?_eq_some_iff.1 h0).1
  have lt1 : B1 < w.heap.size := (Array.getElem?_eq_some_iff.1 h1).1
  have lt2 : B2 < w.heap.size := (Array.getElem?_eq_some_iff.1 h2).1
  have G0 := (hW.block B0 lt0).trans h0
  have G1 := (hW.block B1 lt1).trans h1
  have G2 := (hW.block B2 lt2).trans h2
  clear h0 h1 h2 hW
  refine callsIn_of_wp Try.func80 rfl trivial ?_ rfl
  simp only [Try.ntmps80, List.size_toArray, List.length_cons, List.length_nil, Nat.reduceAdd, Nat.reduceSub, Array.replicate_succ, Array.replicate_zero, List.push_toArray, List.append_toArray, List.nil_append, List.cons_append]
  have x0 : W.cell? ⟨B0, 0, none⟩ = some (.int .i64 F) := blk_cell G0 0
  have x1 : W.cell? ⟨B0, 1, none⟩ = some (.int .i64 O) := blk_cell G0 1
  have x2 : W.cell? ⟨B0, 2, none⟩ = some (.int .i64 J) := blk_cell G0 2
  have x3 : W.cell? ⟨B0, 3, none⟩ = some (.int .i64 G) := blk_cell G0 3
  have x4 : W.cell? ⟨B0, 4, none⟩ = some (.int .i64 R) := blk_cell G0 4
  have x5 : W.cell? ⟨B0, 5, none⟩ = some (.int .i64 D) := blk_cell G0 5
  have x6 : W.cell? ⟨B0, 6, none⟩ = some (.int .i64 I) := blk_cell G0 6
  have p0 : W.cell? ⟨B1, 0, none⟩ = some (.int .i64 lo) := blk_cell G1 0
  have p1 : W.cell? ⟨B1, 1, none⟩ = some (.int .i64 hi) := blk_cell G1 1
  have m0 : W.cell? ⟨B2, 0, none⟩ = some (.int .i64 m) := blk_cell G2 0
  have hf := HK.f; have ho := HK.o; have hj := HK.j; have hg := HK.g; have hr := HK.r; have hI0 := HK.i
  have hb1 := mul_bound (F := F) (d := lo) (M := 1000000000000000) (by omega) hlo.1 hlo.2
  have c48 := fun w => fault_calls F O J G R D I w (by omega) (by omega)
  have c48b := c48
  have he1 : 0 ≤ J + G / 2 ∧ J + G / 2 ≤ 1500000000 := by omega
  generalize J + G / 2 = e at *
  have hw1 := wr (F * lo) (by omega) (by omega)
  have hw2 := wr (F * lo + O) (by omega) (by omega)
  have hw3 := wr (F * lo + O - e) (by omega) (by omega)
  have hw4 := wr (F * lo + O - e - m) (by omega) (by omega)
  have c72 := fun w => floor_calls (F * lo + O - e - m) R w (by omega) (by omega)
  have hdf := Int.mul_ediv_add_emod (F * lo + O - e - m) R
  have hdf2 := Int.emod_nonneg (F * lo + O - e - m) (b := R) (by omega)
  have hdf3 := Int.emod_lt_of_pos (F * lo + O - e - m) (b := R) (by omega)
  have hv := Below.refl W.heap.size W
  have hs1 := (Array.getElem?_eq_some_iff.1 G0).1
  have hs2 := (Array.getElem?_eq_some_iff.1 G1).1
  have hs3 := (Array.getElem?_eq_some_iff.1 G2).1
  unfold firstF
  obtain ⟨NN, hNN⟩ : ∃ NN : Nat, (2 * F + 5).toNat = NN := ⟨_, rfl⟩
  have hNN2 : (NN : Int) = 2 * F + 5 := by omega
  rw [hNN]
  clear hNN
  have hNN3 : NN ≤ 2005 := by omega
  have HNN := Aside0.mk hNN2
  clear hNN2
  obtain ⟨TL, hTL⟩ : ∃ TL, turnsL F O R e m lo hi ((F * lo + O - e - m) / R) NN = TL := ⟨_, rfl⟩
  rw [hTL]
  have HTL := Aside0.mk hTL
  clear hTL
  gi_wp2_with fail
  refine wpIn_wide.2 ?_
  have hS : ∀ w', Below W.heap.size W w' → ((w'.cell? ⟨B0, 0, none⟩ = some (.int .i64 F) ∧ w'.cell? ⟨B0, 1, none⟩ = some (.int .i64 O) ∧ w'.cell? ⟨B0, 2, none⟩ = some (.int .i64 J) ∧ w'.cell? ⟨B0, 3, none⟩ = some (.int .i64 G) ∧ w'.cell? ⟨B0, 4, none⟩ = some (.int .i64 R) ∧ w'.cell? ⟨B0, 5, none⟩ = some (.int .i64 D) ∧ w'.cell? ⟨B0, 6, none⟩ = some (.int .i64 I) ∧ w'.cell? ⟨B1, 0, none⟩ = some (.int .i64 lo) ∧ w'.cell? ⟨B1, 1, none⟩ = some (.int .i64 hi) ∧ w'.cell? ⟨B2, 0, none⟩ = some (.int .i64 m)) ∧ Below W.heap.size W w') := fun w' hB => ⟨⟨cell_on hB x0, cell_on hB x1, cell_on hB x2, cell_on hB x3, cell_on hB x4, cell_on hB x5, cell_on hB x6, cell_on hB p0, cell_on hB p1, cell_on hB m0⟩, hB⟩
  go_region_held3 (fun w' => (w'.cell? ⟨B0, 0, none⟩ = some (.int .i64 F) ∧ w'.cell? ⟨B0, 1, none⟩ = some (.int .i64 O) ∧ w'.cell? ⟨B0, 2, none⟩ = some (.int .i64 J) ∧ w'.cell? ⟨B0, 3, none⟩ = some (.int .i64 G) ∧ w'.cell? ⟨B0, 4, none⟩ = some (.int .i64 R) ∧ w'.cell? ⟨B0, 5, none⟩ = some (.int .i64 D) ∧ w'.cell? ⟨B0, 6, none⟩ = some (.int .i64 I) ∧ w'.cell? ⟨B1, 0, none⟩ = some (.int .i64 lo) ∧ w'.cell? ⟨B1, 1, none⟩ = some (.int .i64 hi) ∧ w'.cell? ⟨B2, 0, none⟩ = some (.int .i64 m)) ∧ Below W.heap.size W w') (first | exact hS _ (Below.refl _ _).drew | assumption | (have hh := ‹(_ ∧ _ ∧ _ ∧ _ ∧ _ ∧ _ ∧ _ ∧ _ ∧ _ ∧ _) ∧ Below W.heap.size W _›; exact hS _ (hh.2.trans (hB.mono hh.2.size))))
    (first | (go_at_call 48; refine (c48 _).mono ?_; rintro e w' ⟨rfl, hB⟩) | (go_at_call 72; refine (c72 _).mono ?_; rintro e w' ⟨rfl, hB⟩))
  rename_i hHeld
  have hB := hHeld.2
  clear hHeld hS c48 c72
  rename World => w1
  replace x0 := cell_on hB x0
  replace x1 := cell_on hB x1
  replace x2 := cell_on hB x2
  replace x3 := cell_on hB x3
  replace x4 := cell_on hB x4
  replace x5 := cell_on hB x5
  replace x6 := cell_on hB x6
  replace p0 := cell_on hB p0
  replace p1 := cell_on hB p1
  replace m0 := cell_on hB m0
  replace hv := hv.trans (hB.mono hv.size)
  clear hB
  have SA1 : Aside0 (SameAt [B0, B1, B2] W w1) := ⟨fun b hb => hv.block b (by simp at hb; omega)⟩
  have hJ1 : J' [] w1 := hJJ _ _ _ none hJ0 ⟨hv.os, hv.tape, hv.output, hv.size, fun k hk _ => hv.block k hk⟩ (fun r e => by cases e)
  have HW := Aside0.mk hv
  clear hw1 hw2 hw3 hw4 hb1 hv x0 x1 x2 x3 x4 x5 x6 p0 p1 m0
  generalize (F * lo + O - e - m) / R = fi at *
  rw [Int.mul_comm] at hdf
  have hfR : -1003000000000000000 ≤ fi * R ∧ fi * R ≤ 1003000000000000000 := by have h1 := mul_bound (F := F) (d := lo) (M := 1000000000000000) (by omega) hlo.1 hlo.2; omega
  clear hdf hdf2 hdf3
  have hfi : -1003000000000000000 ≤ fi ∧ fi ≤ 1003000000000000000 := abs_of_mul (by omega) hfR.1 hfR.2 (by omega)
  have HFR := Aside0.mk hfR
  clear hfR
  have hNN2 := HNN.out
  have HSN := Aside0.mk (And.intro hs1 (And.intro hs2 hs3))
  have hc1 : w1.cell? ⟨B0, 0, none⟩ = some (.int .i64 F) := by simp [World.cell?, SA1.out B0 (by simp), G0]
  have ha1 := wr (2 * F) (by omega) (by omega)
  have ha2 := wr (fi + 2 * F) (by omega) (by omega)
  have ha3 := wr (fi + 2 * F + 4) (by omega) (by omega)
  gi_wp2_with fail
  clear hc1
  gi_loopw [6] (fun v wx => ∃ (i : Nat) (pre : List (Int × Int)), i ≤ NN ∧ v = .int .i64 (fi + i) ∧ pre.length ≤ i ∧ J' pre wx ∧ Aside0 (TL = pre ++ turnsL F O R e m lo hi (fi + i) (NN - i)) ∧ Aside0 (SameAt [B0, B1, B2] W wx))
    (fun v _ => (fi + 2 * F + 5 - intOf v).toNat)
  case atStart => exact ⟨0, [], Nat.zero_le _, by simp, Nat.le_refl _, hJ1, ⟨by rw [← HTL.out]; simp⟩, SA1⟩
  case round =>
    clear hJ1 SA1 HW
    obtain ⟨i, pre, hi', rfl, hpl, hJs, HT, HS⟩ := hrel
    have hv := Below.refl wr.heap.size wr
    have G0 := (HS.out B0 (by simp)).trans G0
    have G1 := (HS.out B1 (by simp)).trans G1
    have G2 := (HS.out B2 (by simp)).trans G2
    have x0 : wr.cell? ⟨B0, 0, none⟩ = some (.int .i64 F) := blk_cell G0 0
    have x1 : wr.cell? ⟨B0, 1, none⟩ = some (.int .i64 O) := blk_cell G0 1
    have x2 : wr.cell? ⟨B0, 2, none⟩ = some (.int .i64 J) := blk_cell G0 2
    have x3 : wr.cell? ⟨B0, 3, none⟩ = some (.int .i64 G) := blk_cell G0 3
    have x4 : wr.cell? ⟨B0, 4, none⟩ = some (.int .i64 R) := blk_cell G0 4
    have x5 : wr.cell? ⟨B0, 5, none⟩ = some (.int .i64 D) := blk_cell G0 5
    have x6 : wr.cell? ⟨B0, 6, none⟩ = some (.int .i64 I) := blk_cell G0 6
    have p0 : wr.cell? ⟨B1, 0, none⟩ = some (.int .i64 lo) := blk_cell G1 0
    have p1 : wr.cell? ⟨B1, 1, none⟩ = some (.int .i64 hi) := blk_cell G1 1
    have m0 : wr.cell? ⟨B2, 0, none⟩ = some (.int .i64 m) := blk_cell G2 0
    have hs1 := (Array.getElem?_eq_some_iff.1 G0).1
    have hs2 := (Array.getElem?_eq_some_iff.1 G1).1
    have hs3 := (Array.getElem?_eq_some_iff.1 G2).1
    by_cases hlt : i < NN
    · have hl1 : fi + (i : Int) ≤ fi + 2 * F + 4 := by omega
      have hiR := mul_bound (F := R) (d := (i : Int)) (M := 2004) (by omega) (by omega) (by omega)
      have hkR : -4000000000000000000 ≤ (fi + (i : Int)) * R ∧ (fi + (i : Int)) * R ≤ 4000000000000000000 := by rw [Int.add_mul, Int.mul_comm (i : Int)]; have := HFR.out; omega
      obtain ⟨q, hq⟩ : ∃ q, (fi + (i : Int)) * R = q := ⟨_, rfl⟩
      rw [hq] at hkR
      have hb1 : IntKind.i64.wrap ((fi + (i : Int)) * R) = q := by rw [hq]; exact wrp q (by omega) (by omega)
      have hb2 := wrp (m + q) (by omega) (by omega)
      obtain ⟨t, ht⟩ : ∃ t, m + q - O = t := ⟨_, rfl⟩
      have hb3 : IntKind.i64.wrap (m + q - O) = t := by rw [ht]; exact wrp t (by omega) (by omega)
      have HAT : Aside0 (t = tAt O R m (fi + i)) := ⟨by unfold tAt; rw [hq, ht]⟩
      have ht1 : -4002000000000000000 ≤ t ∧ t ≤ 4002000000000000000 := by omega
      clear hq ht hkR hiR
      obtain ⟨r, hr1⟩ : ∃ r, e - t = r := ⟨_, rfl⟩
      obtain ⟨s, hs0⟩ : ∃ s, t + e = s := ⟨_, rfl⟩
      have hb4 : IntKind.i64.wrap (e - t) = r := by rw [hr1]; exact wrp r (by omega) (by omega)
      have hb5 : IntKind.i64.wrap (t + e) = s := by rw [hs0]; exact wrp s (by omega) (by omega)
      have c72 := fun w => floor_calls r F w (by omega) (by omega)
      have d72 := fun w => floor_calls s F w (by omega) (by omega)
      have hd1 := div_small (a := r) (b := F) (by omega)
      have hd2 := div_small (a := s) (b := F) (by omega)
      obtain ⟨a, ha⟩ : ∃ a, r / F = a := ⟨_, rfl⟩
      obtain ⟨b, hb⟩ : ∃ b, s / F = b := ⟨_, rfl⟩
      rw [ha] at c72 hd1
      rw [hb] at d72 hd2
      obtain ⟨x, hx⟩ : ∃ x, -a = x := ⟨_, rfl⟩
      have hb6 : IntKind.i64.wrap (-a) = x := by rw [hx]; exact wrp x (by omega) (by omega)
      have HLO : Aside0 (tLo F O R e m (fi + i) = x) := ⟨by unfold tLo; rw [← HAT.out, hr1, ha, hx]⟩
      have HHI : Aside0 (tHi F O R e m (fi + i) = b) := ⟨by unfold tHi; rw [← HAT.out, hs0, hb]⟩
      clear ha hb hx HAT hr1 hs0
      have c48 := c48b
      gi_upto_region 5 with fail
      gi_cut [8] from 27 (fun s8 wx => ∃ g, s8 = .pointer (some ⟨g, 0, none⟩) ∧ wx.heap[g]? = some (.cells #[.int .i64 x, .int .i64 b] 43 (0, 0)) ∧ wr.heap.size ≤ g ∧ Below wr.heap.size wr wx)
      case first =>
        refine wpIn_wide.2 ?_
        have hw := Below.refl wr.heap.size wr
        have hS : ∀ w', Below wr.heap.size wr w' → ((w'.cell? ⟨B0, 0, none⟩ = some (.int .i64 F) ∧ w'.cell? ⟨B0, 1, none⟩ = some (.int .i64 O) ∧ w'.cell? ⟨B0, 2, none⟩ = some (.int .i64 J) ∧ w'.cell? ⟨B0, 3, none⟩ = some (.int .i64 G) ∧ w'.cell? ⟨B0, 4, none⟩ = some (.int .i64 R) ∧ w'.cell? ⟨B0, 5, none⟩ = some (.int .i64 D) ∧ w'.cell? ⟨B0, 6, none⟩ = some (.int .i64 I) ∧ w'.cell? ⟨B1, 0, none⟩ = some (.int .i64 lo) ∧ w'.cell? ⟨B1, 1, none⟩ = some (.int .i64 hi) ∧ w'.cell? ⟨B2, 0, none⟩ = some (.int .i64 m)) ∧ Below wr.heap.size wr w') := fun w' hB => ⟨⟨cell_on hB x0, cell_on hB x1, cell_on hB x2, cell_on hB x3, cell_on hB x4, cell_on hB x5, cell_on hB x6, cell_on hB p0, cell_on hB p1, cell_on hB m0⟩, hB⟩
        go_region_held3 (fun w' => (w'.cell? ⟨B0, 0, none⟩ = some (.int .i64 F) ∧ w'.cell? ⟨B0, 1, none⟩ = some (.int .i64 O) ∧ w'.cell? ⟨B0, 2, none⟩ = some (.int .i64 J) ∧ w'.cell? ⟨B0, 3, none⟩ = some (.int .i64 G) ∧ w'.cell? ⟨B0, 4, none⟩ = some (.int .i64 R) ∧ w'.cell? ⟨B0, 5, none⟩ = some (.int .i64 D) ∧ w'.cell? ⟨B0, 6, none⟩ = some (.int .i64 I) ∧ w'.cell? ⟨B1, 0, none⟩ = some (.int .i64 lo) ∧ w'.cell? ⟨B1, 1, none⟩ = some (.int .i64 hi) ∧ w'.cell? ⟨B2, 0, none⟩ = some (.int .i64 m)) ∧ Below wr.heap.size wr w') (first | with_reducible exact hS _ (Below.refl _ _).drew | assumption | with_reducible exact hS _ hw | with_reducible exact hS _ (hw.alloc hw.size _) | with_reducible exact hS _ (hw.alloc hw.size _).drew | with_reducible exact hS _ ((hw.setCell (by first | (simp; done) | (simp; omega)) _).setCell (by first | (simp; done) | (simp; omega)) _))
          (first | (go_at_call 48; with_reducible refine (c48 _).mono ?_; rintro e w' ⟨rfl, hB⟩; (have hh := ‹(_ ∧ _ ∧ _ ∧ _ ∧ _ ∧ _ ∧ _ ∧ _ ∧ _ ∧ _) ∧ Below wr.heap.size wr _›; replace hw := hh.2.trans (hB.mono hh.2.size)); have hz := hB.size; (try simp at hz); (first | (with_reducible have kg := al_on hB; have g0 := blk_cell kg 0; have g1 := blk_cell kg 1; have gf0 := blk_frozen kg 0; have gf1 := blk_frozen kg 1) | (with_reducible have kg := al_onD hB; have g0 := blk_cell kg 0; have g1 := blk_cell kg 1; have gf0 := blk_frozen kg 0; have gf1 := blk_frozen kg 1) | (have kg := blk_on hB kg; have g0 := blk_cell kg 0; have g1 := blk_cell kg 1; have gf0 := blk_frozen kg 0; have gf1 := blk_frozen kg 1) | skip)) | (go_at_call 72; with_reducible refine (c72 _).mono ?_; rintro e w' ⟨rfl, hB⟩; (have hh := ‹(_ ∧ _ ∧ _ ∧ _ ∧ _ ∧ _ ∧ _ ∧ _ ∧ _ ∧ _) ∧ Below wr.heap.size wr _›; replace hw := hh.2.trans (hB.mono hh.2.size)); have hz := hB.size; (try simp at hz); (first | (with_reducible have kg := al_on hB; have g0 := blk_cell kg 0; have g1 := blk_cell kg 1; have gf0 := blk_frozen kg 0; have gf1 := blk_frozen kg 1) | (with_reducible have kg := al_onD hB; have g0 := blk_cell kg 0; have g1 := blk_cell kg 1; have gf0 := blk_frozen kg 0; have gf1 := blk_frozen kg 1) | (have kg := blk_on hB kg; have g0 := blk_cell kg 0; have g1 := blk_cell kg 1; have gf0 := blk_frozen kg 0; have gf1 := blk_frozen kg 1) | skip)) | (go_at_call 72; with_reducible refine (d72 _).mono ?_; rintro e w' ⟨rfl, hB⟩; (have hh := ‹(_ ∧ _ ∧ _ ∧ _ ∧ _ ∧ _ ∧ _ ∧ _ ∧ _ ∧ _) ∧ Below wr.heap.size wr _›; replace hw := hh.2.trans (hB.mono hh.2.size)); have hz := hB.size; (try simp at hz); (first | (with_reducible have kg := al_on hB; have g0 := blk_cell kg 0; have g1 := blk_cell kg 1; have gf0 := blk_frozen kg 0; have gf1 := blk_frozen kg 1) | (with_reducible have kg := al_onD hB; have g0 := blk_cell kg 0; have g1 := blk_cell kg 1; have gf0 := blk_frozen kg 0; have gf1 := blk_frozen kg 1) | (have kg := blk_on hB kg; have g0 := blk_cell kg 0; have g1 := blk_cell kg 1; have gf0 := blk_frozen kg 0; have gf1 := blk_frozen kg 1) | skip)))
        all_goals
          apply_assumption
          gi_meet
          exact ⟨_, rfl, by first | exact al_new _ _ _ rfl | exact blk_put (blk_put kg 0 _ rfl) 1 _ rfl, by first | omega | (simp; done) | (simp; omega), by first | exact hw.alloc hw.size _ | exact (hw.alloc hw.size _).drew | exact (hw.setCell (by first | (simp; done) | (simp; omega)) _).setCell (by first | (simp; done) | (simp; omega)) _⟩
      case rest =>
      obtain ⟨g, rfl, hg2, hgs, hB⟩ := hcut
      rename World => wd
      replace x0 := cell_on hB x0
      replace x1 := cell_on hB x1
      replace x2 := cell_on hB x2
      replace x3 := cell_on hB x3
      replace x4 := cell_on hB x4
      replace x5 := cell_on hB x5
      replace x6 := cell_on hB x6
      replace p0 := cell_on hB p0
      replace p1 := cell_on hB p1
      replace m0 := cell_on hB m0
      replace hv := hv.trans (hB.mono hv.size)
      have hgl := (Array.getElem?_eq_some_iff.1 hg2).1
      have q0 : wd.cell? ⟨g, 0, none⟩ = some (.int .i64 x) := blk_cell hg2 0
      have q1 : wd.cell? ⟨g, 1, none⟩ = some (.int .i64 b) := blk_cell hg2 1
      have hB0 := hB
      clear hg2 c48 c48b c72 d72 hb1 hb2 hb3 hb4 hb5 hb6 hd1 hd2
      have hSC := SameAt.t HS.out (fun b hb => hB0.block b (by have := HSN.out; simp at hb; omega) : SameAt [B0, B1, B2] wr wd)
      obtain ⟨nn, hnn⟩ : ∃ nn, NN - i = nn + 1 := ⟨NN - i - 1, by omega⟩
      have hTU : turnsL F O R e m lo hi (fi + i) (nn + 1) = if hi < x then [] else if max x lo ≤ min b hi then (max x lo, min b hi) :: turnsL F O R e m lo hi (fi + i + 1) nn else turnsL F O R e m lo hi (fi + i + 1) nn := by rw [turnsL, HLO.out, HHI.out]
      rw [hnn, hTU] at HT
      clear hTU HLO HHI
      have hJc : J' pre wd := hJJ _ _ _ none hJs ⟨hB0.os, hB0.tape, hB0.output, hB0.size, fun k hk _ => hB0.block k hk⟩ (fun r e => by cases e)
      by_cases hgt : hi < x
      · rw [if_pos hgt, List.append_nil] at HT
        gi_wp2_with fail
        refine bodyPost_ret (results_none rfl _ _ _) rfl ?_
        exact ⟨⟨_, rfl⟩, .inl ⟨_, HT.out.symm, hJc⟩⟩
      · rw [if_neg hgt] at HT
        obtain ⟨u, hu⟩ : ∃ u, max x lo = u := ⟨_, rfl⟩
        obtain ⟨v, hv'⟩ : ∃ v, min b hi = v := ⟨_, rfl⟩
        rw [hu, hv'] at HT
        have hJA : J' pre (wd.alloc (.cells #[.int .i64 u, .int .i64 v] 43)) := hJJ _ _ _ none hJc (World.grownBy_alloc wd _ none) (fun r e => by cases e)
        have HSA : Aside0 (SameAt [B0, B1, B2] W (wd.alloc (.cells #[.int .i64 u, .int .i64 v] 43))) := ⟨SameAt.t hSC (fun b hb => Below.heap_alloc _ _ _ (by have := HSN.out; have := hB0.size; simp at hb; omega))⟩
        gi_upto_region 7 with fail
        gi_cut [9] from 27 (fun s9 wx => s9 = .pointer (some ⟨wd.heap.size, 0, none⟩) ∧ wx = wd.alloc (.cells #[.int .i64 u, .int .i64 v] 43))
        case first =>
          by_cases hA : x < lo <;> by_cases hB : hi < b
          · obtain rfl : lo = u := by omega
            obtain rfl : hi = v := by omega
            gi_wp2
            gi_meet
            exact ⟨rfl, rfl⟩
          · obtain rfl : lo = u := by omega
            obtain rfl : b = v := by omega
            gi_wp2
            gi_meet
            exact ⟨rfl, rfl⟩
          · obtain rfl : x = u := by omega
            obtain rfl : hi = v := by omega
            gi_wp2
            gi_meet
            exact ⟨rfl, rfl⟩
          · obtain rfl : x = u := by omega
            obtain rfl : b = v := by omega
            gi_wp2
            gi_meet
            exact ⟨rfl, rfl⟩
        case rest =>
        obtain ⟨rfl, rfl⟩ := hcut
        clear hu hv'
        by_cases huv : u ≤ v
        · rw [if_pos huv] at HT
          have HN : Aside0 (TL = (pre ++ [(u, v)]) ++ turnsL F O R e m lo hi (fi + ((i + 1 : Nat) : Int)) (NN - (i + 1))) := ⟨by rw [HT.out, show NN - (i + 1) = nn by omega]; simp [Int.add_assoc]⟩
          obtain ⟨fn, tmps, assign, body, hy, hR⟩ := hY _ (u, v) _ hJA (by omega)
          simp only at hy
          clear HT hJs hSC hJc
          gi_wp2
          refine hR.mono ?_
          rintro en W3 (⟨rfl, hJ3, hk3⟩ | ⟨rfl, hJx3⟩)
          · have HS3 : Aside0 (SameAt [B0, B1, B2] W W3) := ⟨SameAt.t HSA.out hk3⟩
            clear hk3
            gi_wp2
            go_roundw
            case rel => exact ⟨i + 1, _, by omega, by go_num, by simp; omega, hJ3, HN, HS3⟩
            case measure => simp [intOf]; omega
          · gi_wp2
            refine bodyPost_ret (results_none rfl _ _ _) rfl ?_
            exact ⟨⟨_, rfl⟩, .inr ⟨_, ⟨_, HN.out.symm⟩, hJx3⟩⟩
        · rw [if_neg huv] at HT
          have HN : Aside0 (TL = pre ++ turnsL F O R e m lo hi (fi + ((i + 1 : Nat) : Int)) (NN - (i + 1))) := ⟨by rw [HT.out, show NN - (i + 1) = nn by omega]; simp [Int.add_assoc]⟩
          clear HT hJs hSC hJc
          gi_wp2
          refine ⟨fun _ h => (by cases h), ?_⟩
          gi_wp2
          go_roundw
          case rel => exact ⟨i + 1, _, by omega, by go_num, by omega, hJA, HN, HSA⟩
          case measure => simp [intOf]; omega
    · obtain rfl : i = NN := by omega
      gi_wp2
      go_end0
      exact ⟨⟨_, rfl⟩, .inl ⟨_, by rw [HT.out]; simp [turnsL], hJs⟩⟩
end Go.Proofs.Ytjgnadighdbjlaa.C
