-- Written by a program of this session (over the kit's print) out of the translation; the parts that it does not tell are this session's own.
import Derived.Test.YtcaekmalkbaldaaM0
import Derived.Test.YtcaekmalkbaldaaM2
import Derived.Test.YtcaekmalkbaldaaM3
import Derived.Test.YtcaekmalkbaldaaM4
namespace Go.Proofs.Ytcaekmalkbaldaa.M
open Go.RowKit Go.Proofs.YtcaekmalkbaldaaW.PrintWords Go.Proofs.YtcaekmalkbaldaaW.PrintLast Go.Proofs.YtcaekmalkbaldaaW.PrintMore
attribute [local go_sem] max2_int min2_int max_two min_two max_three min_three max_four min_four   -- for this text's walks alone
set_option linter.unusedVariables false
set_option linter.unusedSimpArgs false

/-! ### steer_Plan_chart: function 37 -/
section
open Go.Shelf
attribute [local go_sem] Oper.semAt_some
/-- Is a state not lost, as a chart in the making says? -/
def goodO (L R : Int) (o : List Int) (x y : Int) : Bool := decide (rd o ((x + L) * (2 * R + 1) + y + R) < 1000)
/-- The new rates that hold. -/
def keepO (L R S N : Int) (o : List Int) (k : Nat) : List Int := (ratesL R S (stR R k)).filter fun q => holdsB L R N (stE L R k) q (goodO L R o)
/-- One state in a round: the chart, and what was lost. -/
def stepC (L R S N : Int) (st : List Int × List Nat) (k : Nat) : List Int × List Nat :=
 if rd st.1 k < 1000 then
  match bestOf nearF (keepO L R S N st.1 k) with
  | none => (st.1, st.2 ++ [k])
  | some q => (st.1.set k q, st.2)
 else st
def markC (n : Int) (o : List Int) (lost : List Nat) : List Int := lost.foldl (fun o i => o.set i (1000 + n)) o
def chartF (L R S N : Int) : Nat → Int → List Int → Option (List Int)
 | 0, _, _ => none
 | f + 1, n, o =>
  if ((List.range (siz L R)).foldl (stepC L R S N) (o, [])).2 = [] then some ((List.range (siz L R)).foldl (stepC L R S N) (o, [])).1
  else chartF L R S N f (n + 1) (markC n ((List.range (siz L R)).foldl (stepC L R S N) (o, [])).1 ((List.range (siz L R)).foldl (stepC L R S N) (o, [])).2)
def rightB (L R S N : Int) : Bool := decide (1 ≤ L) && decide (L ≤ 40) && decide (0 ≤ R) && decide (R ≤ 12) && decide (1 ≤ S) && decide (S ≤ 24) && decide (0 ≤ N) && decide (N ≤ 12)
def steer_Plan_chart.f (L R S N : Int) : Option (List Int) := if rightB L R S N = true then chartF L R S N (siz L R + 2) 1 (List.replicate (siz L R) 0) else none

theorem stepC_len (L R S N : Int) (st : List Int × List Nat) (k : Nat) : (stepC L R S N st k).1.length = st.1.length := by
 unfold stepC
 split
 ·split <;> simp
 ·rfl
theorem foldC_len (L R S N : Int) : ∀ (l : List Nat) (st : List Int × List Nat), (l.foldl (stepC L R S N) st).1.length = st.1.length
 | [], _ => rfl
 | k :: l, st => by rw [List.foldl_cons, foldC_len L R S N l, stepC_len]
theorem stepC_lost (L R S N : Int) (st : List Int × List Nat) (k : Nat) : (stepC L R S N st k).2.length ≤ st.2.length + 1 := by
 unfold stepC
 split
 ·split <;> simp
 ·omega
theorem foldC_lost (L R S N : Int) : ∀ (l : List Nat) (st : List Int × List Nat), (l.foldl (stepC L R S N) st).2.length ≤ st.2.length + l.length
 | [], _ => by simp
 | k :: l, st => by
  rw [List.foldl_cons]
  have h1 := foldC_lost L R S N l (stepC L R S N st k)
  have h2 := stepC_lost L R S N st k
  simp only [List.length_cons]
  omega
theorem markC_snoc (n : Int) (o : List Int) (l : List Nat) (i : Nat) : markC n o (l ++ [i]) = (markC n o l).set i (1000 + n) := by simp [markC]
theorem foldC_mem (L R S N : Int) : ∀ (l : List Nat) (st : List Int × List Nat) (i : Nat), i ∈ (l.foldl (stepC L R S N) st).2 → i ∈ st.2 ∨ i ∈ l
 | [], _, _, h => .inl h
 | k :: l, st, i, h => by
  rw [List.foldl_cons] at h
  rcases foldC_mem L R S N l _ i h with h | h
  ·unfold stepC at h
   split at h
   ·split at h
    ·simp only [List.mem_append, List.mem_singleton] at h
     rcases h with h | h
     ·exact .inl h
     ·exact .inr (by simp [h])
    ·exact .inl h
   ·exact .inl h
  ·exact .inr (List.mem_cons_of_mem _ h)
theorem markC_len (n : Int) : ∀ (lost : List Nat) (o : List Int), (markC n o lost).length = o.length
 | [], _ => rfl
 | i :: l, o => by
  have := markC_len n l (o.set i (1000 + n))
  unfold markC at this ⊢
  rw [List.foldl_cons, this, List.length_set]
theorem siz_le (L R : Int) (hL : L ≤ 40) (hR : R ≤ 12) : siz L R ≤ 2025 := by
 unfold siz wid
 exact Nat.mul_le_mul (show (2 * L + 1).toNat ≤ 81 by omega) (show (2 * R + 1).toNat ≤ 25 by omega)
theorem siz_pos (L R : Int) (hL : 1 ≤ L) (hR : 0 ≤ R) : 3 ≤ siz L R := by
 unfold siz wid
 exact Nat.mul_le_mul (show 3 ≤ (2 * L + 1).toNat by omega) (show 1 ≤ (2 * R + 1).toNat by omega)

theorem own_kept {w w1 : World} {base : Nat} {e : TypeId} {size n : Nat} {v : Value} {xs : List Value} {row : Option Nat} (h : w.ownsRow base e size v n xs) (hg : w.grownBy w1 row)
  (hr : ∀ r, row = some r → ∃ o : Obj, w.heap[r]? = some o ∧ o.isCells = false) : w1.ownsRow base e size v n xs :=
 own_move h (fun k hk => by obtain ⟨cells, hc⟩ := own_typed h k hk; exact grownBy_keeps_cells hg hr hc rfl)

/-- What holds between two states of a round. bp: the plan's block; b: the chart's; bl: that of the lost states. -/
def IC (L R S N : Int) (w : World) (b bl w3 : Nat) (ds : List Nat) (st : List Int × List Nat) (X : World) : Prop :=
 (((∃ vl : Value, X.heap[bl]? = some (.cells #[vl] 30 (0, 0)) ∧ X.ownsRow w3 3 1 vl st.2.length (nums .i64 (st.2.map fun k : Nat => (k : Int)))) ∧
  X.ownsRow w.heap.size 3 1 (.slice (some ⟨b, 0, none⟩) (siz L R) (siz L R)) (siz L R) (nums .i64 st.1)) ∧
  (X.heap[w.heap.size]? = some (.cells #[.int .i64 L, .int .i64 R, .int .i64 S, .int .i64 N] 24 (0, 0)) ∧
  X.heap[b + 1]? = some (.cells #[.slice (some ⟨b, 0, none⟩) (siz L R) (siz L R)] 30 (0, 0)) ∧
  X.heap[b + 1 + 1]? = some (.cells #[.func (.func 60) #[] #[.pointer (some ⟨b + 1, 0, none⟩), .pointer (some ⟨w.heap.size, 0, none⟩)]] 86 (0, 0))) ∧
  (∀ d, d ∈ ds → X.heap[d]? = some (.deferred (some []))) ∧ Below w.heap.size w X ∧ w3 ≤ X.heap.size)
theorem IC.below {L R S N : Int} {w : World} {b bl w3 : Nat} {ds : List Nat} {st : List Int × List Nat} {X Y : World} (h : IC L R S N w b bl w3 ds st X) (hB : Below X.heap.size X Y) : IC L R S N w b bl w3 ds st Y := by
 obtain ⟨⟨⟨vl, h1, h2⟩, h3⟩, ⟨h4, h5, h6⟩, h7, h8, h9⟩ := h
 have hm : ∀ {k : Nat} {o : Obj}, X.heap[k]? = some o → Y.heap[k]? = some o := fun {k o} hk => (hB.block k (Array.getElem?_eq_some_iff.1 hk).1).trans hk
 exact ⟨⟨⟨vl, hm h1, own_move h2 (fun k hk => hB.block k (own_lt h2 k hk))⟩, own_move h3 (fun k hk => hB.block k (own_lt h3 k hk))⟩, ⟨hm h4, hm h5, hm h6⟩, fun d hd => hm (h7 d hd), h8.trans (hB.mono h8.size), Nat.le_trans h9 hB.size⟩
theorem IC.own {L R S N : Int} {w : World} {b bl w3 : Nat} {ds : List Nat} (hds : ∀ d, d ∈ ds → d < w3) (hw : w.heap.size ≤ w3) {β : Type} (f : β → List Int × List Nat) : OwnFrom w3 (fun s X => IC L R S N w b bl w3 ds (f s) X) := by
 rintro s A B row ⟨⟨⟨vl, h1, h2⟩, h3⟩, ⟨h4, h5, h6⟩, h7, h8, h9⟩ hg hr
 have hr2 : ∀ r, row = some r → ∃ o : Obj, A.heap[r]? = some o ∧ o.isCells = false := fun r e => (hr r e).2
 refine ⟨⟨⟨vl, (grownBy_keeps_cells hg hr2 h1 rfl).trans h1, own_kept h2 hg hr2⟩, own_kept h3 hg hr2⟩, ⟨(grownBy_keeps_cells hg hr2 h4 rfl).trans h4, (grownBy_keeps_cells hg hr2 h5 rfl).trans h5, (grownBy_keeps_cells hg hr2 h6 rfl).trans h6⟩, fun d hd => ?_, h8.grown hg h8.size (fun k e => by have := (hr k e).1; omega), Nat.le_trans h9 hg.size⟩
 exact (hg.block d (Array.getElem?_eq_some_iff.1 (h7 d hd)).1 (fun e => by have := (hr d e.symm).1; have := hds d hd; omega)).trans (h7 d hd)

theorem R_ints {w : World} {base : Nat} {ok : Nat → Prop} {v : Value} {l : List Int} (h : Kd.R (Kd.int .i64) 3 w base ok v l) : w.ownsRow base 3 1 v l.length (nums .i64 l) := by
 obtain ⟨_, inner, hown, hr⟩ := h
 have : inner = nums .i64 l := by
  have h1 := hr.1
  rw [show (Kd.int .i64).sz = 1 from rfl, Nat.mul_one] at h1
  apply List.ext_getElem?
  intro j
  rcases Nat.lt_or_ge j l.length with hj | hj
  ·have h2 := hr.2 j l[j] (List.getElem?_eq_getElem hj)
   rw [show (Kd.int .i64).sz = 1 from rfl, Nat.mul_one] at h2
   have h3 : (inner.drop j).take 1 = [.int .i64 l[j]] := h2
   have h4 : ((inner.drop j).take 1)[0]? = some (.int .i64 l[j]) := by rw [h3]; rfl
   rw [List.getElem?_take_of_lt (by omega), List.getElem?_drop, Nat.add_zero] at h4
   rw [h4]
   simp [nums, List.getElem?_eq_getElem hj]
  ·rw [List.getElem?_eq_none (by omega), List.getElem?_eq_none (by simpa [nums] using hj)]
 rw [← this]; exact hown

theorem idx_lt {L R x y : Int} (hL0 : 1 ≤ L) (hR0 : 0 ≤ R) (h : isB L R x y = true) : ∃ j : Nat, j < siz L R ∧ (x + L) * (2 * R + 1) + y + R = j := by
 simp only [isB, Bool.and_eq_true, decide_eq_true_eq] at h
 refine ⟨(x + L).toNat * wid R + (y + R).toNat, siz_lt L R _ _ (by omega) (by unfold wid; omega), ?_⟩
 rw [Int.natCast_add, Int.natCast_mul, Int.toNat_of_nonneg (by omega), Int.toNat_of_nonneg (by omega)]
 unfold wid
 rw [Int.toNat_of_nonneg (by omega)]
 omega

theorem appended_block {X w1 : World} {tmp : Obj} {vl v' : Value} {B q : Nat} (hg : (X.alloc tmp).grownBy w1 vl.ownBlock) (hq : q < X.heap.size) (hne : some q ≠ vl.ownBlock) (hB : q ≠ B) : (w1.setCell ⟨B, 0, none⟩ v').heap[q]? = X.heap[q]? := by
 rw [Below.heap_setCell _ _ _ _ (by exact hB), hg.block q (by simp; omega) hne, Below.heap_alloc _ _ _ hq]
theorem not_own {X : World} {base : Nat} {size n : Nat} {v : Value} {xs : List Value} {q : Nat} {o : Obj} (h : X.ownsRow base 3 size v n xs) (hq : X.heap[q]? = some o) (ho : ∀ c, o ≠ .cells c 3 (0, 0)) : some q ≠ v.ownBlock := fun e => by
 obtain ⟨cells, hc⟩ := own_typed h q e.symm
 rw [hq] at hc
 cases hc
 exact ho _ rfl

/-- A function is left by 'return' with the marks of its loops over iterators, none of which holds a call. -/
theorem leavesM {F : Fence} {n : Nat} {P : Program} {fn : Func} {tmps : Array Value} {R : Ending → World → Prop} (B : Nat) : ∀ (ds : List Nat) (X : World), ds.Nodup → (∀ d ∈ ds, B ≤ d ∧ X.heap[d]? = some (.deferred (some []))) →
  (∀ Y, Below B X Y → (∀ (q : Nat) (o : Obj), X.heap[q]? = some o → o.isCells = true → Y.heap[q]? = some o) → ∃ v, (results fn tmps).run P Y = .ok v Y ∧ R (.returned v) Y) →
  LeavesInM F n P fn tmps R (ds.map fun d => { target := .collected d, args := #[] }) .returning X
 | [], X, _, _, h => h X (Below.refl _ _) (fun _ _ h _ => h)
 | d :: ds, X, hn, hd, h => by
  have h1 := (hd d (by simp)).2
  have hn' := List.nodup_cons.1 hn
  refine ⟨by simp, .inl ⟨_, _, rfl, run_takeDeferred h1, ?_⟩⟩
  have hlt := (Array.getElem?_eq_some_iff.1 h1).1
  have hb := (hd d (by simp)).1
  have hB : Below B X (X.putObj d (.deferred none)) := (Below.refl B X).grown (grownBy_putObj' X d _) (by omega) (fun k e => by cases e; exact hb)
  refine leavesM B ds _ hn'.2 (fun e he => ⟨(hd e (by simp [he])).1, ?_⟩) (fun Y hY hc => h Y (hB.trans hY) (fun q ob hq ho => hc q ob ?_ ho))
  ·exact (World.putObj_heap_other (fun e' => hn'.1 (by rw [← e']; exact he))).trans (hd e (by simp [he])).2
  ·refine (World.putObj_heap_other (fun e' => ?_)).trans hq
   subst e'
   rw [h1] at hq
   cases hq
   cases ho

theorem info3m : (Try.prog.info? 3).map (fun i => (i.zero, i.size, i.bytes)) = some (some (.int .i64 0), 1, 8) := by kernel_rfl

/-- The frame of 'chart' at the head of a round. -/
def frC (pl p1 p3 p4 : Value) (n : Int) (u : Nat → Value) : Array Value := #[pl, p1, u 2, p3, p4, .int .i64 n, u 6, u 7, u 8, u 9, u 10, u 11, u 12, u 13, u 14, u 15, u 16, u 17, u 18, u 19, u 20, u 21, u 22, u 23, u 24, u 25, u 26, u 27, u 28, u 29, u 30, u 31, u 32, u 33, u 34, u 35, u 36, u 37, u 38, u 39, u 40, u 41, u 42, u 43, u 44, u 45, u 46, u 47, u 48, u 49, u 50, u 51, u 52, u 53, u 54, u 55, u 56, u 57, u 58, u 59, u 60, u 61, u 62, u 63, u 64, u 65, u 66, u 67, u 68, u 69]

theorem frC_intro (pl p1 p3 p4 : Value) (n : Int) (x2 x6 x7 x8 x9 x10 x11 x12 x13 x14 x15 x16 x17 x18 x19 x20 x21 x22 x23 x24 x25 x26 x27 x28 x29 x30 x31 x32 x33 x34 x35 x36 x37 x38 x39 x40 x41 x42 x43 x44 x45 x46 x47 x48 x49 x50 x51 x52 x53 x54 x55 x56 x57 x58 x59 x60 x61 x62 x63 x64 x65 x66 x67 x68 x69 : Value) : ∃ u, (#[pl, p1, x2, p3, p4, .int .i64 n, x6, x7, x8, x9, x10, x11, x12, x13, x14, x15, x16, x17, x18, x19, x20, x21, x22, x23, x24, x25, x26, x27, x28, x29, x30, x31, x32, x33, x34, x35, x36, x37, x38, x39, x40, x41, x42, x43, x44, x45, x46, x47, x48, x49, x50, x51, x52, x53, x54, x55, x56, x57, x58, x59, x60, x61, x62, x63, x64, x65, x66, x67, x68, x69] : Array Value) = frC pl p1 p3 p4 n u :=
 ⟨fun k => match k with
  | 2 => x2
  | 6 => x6
  | 7 => x7
  | 8 => x8
  | 9 => x9
  | 10 => x10
  | 11 => x11
  | 12 => x12
  | 13 => x13
  | 14 => x14
  | 15 => x15
  | 16 => x16
  | 17 => x17
  | 18 => x18
  | 19 => x19
  | 20 => x20
  | 21 => x21
  | 22 => x22
  | 23 => x23
  | 24 => x24
  | 25 => x25
  | 26 => x26
  | 27 => x27
  | 28 => x28
  | 29 => x29
  | 30 => x30
  | 31 => x31
  | 32 => x32
  | 33 => x33
  | 34 => x34
  | 35 => x35
  | 36 => x36
  | 37 => x37
  | 38 => x38
  | 39 => x39
  | 40 => x40
  | 41 => x41
  | 42 => x42
  | 43 => x43
  | 44 => x44
  | 45 => x45
  | 46 => x46
  | 47 => x47
  | 48 => x48
  | 49 => x49
  | 50 => x50
  | 51 => x51
  | 52 => x52
  | 53 => x53
  | 54 => x54
  | 55 => x55
  | 56 => x56
  | 57 => x57
  | 58 => x58
  | 59 => x59
  | 60 => x60
  | 61 => x61
  | 62 => x62
  | 63 => x63
  | 64 => x64
  | 65 => x65
  | 66 => x66
  | 67 => x67
  | 68 => x68
  | 69 => x69
  | _ => undef, rfl⟩

/-- The frame of a state's round. -/
def frB (pl p1 p3 p4 : Value) (n : Int) (u : Nat → Value) (v6 v7 v8 v26 v27 v28 v29 : Value) : Array Value := #[pl, p1, u 2, p3, p4, .int .i64 n, v6, v7, v8, u 9, u 10, u 11, u 12, u 13, u 14, u 15, u 16, u 17, u 18, u 19, u 20, u 21, u 22, u 23, u 24, u 25, v26, v27, v28, v29, u 30, u 31, u 32, u 33, u 34, u 35, u 36, u 37, u 38, u 39, u 40, u 41, u 42, u 43, u 44, u 45, u 46, u 47, u 48, u 49, u 50, u 51, u 52, u 53, u 54, u 55, u 56, u 57, u 58, u 59, u 60, u 61, u 62, u 63, u 64, u 65, u 66, u 67, u 68, u 69]

set_option maxRecDepth 100000 in
set_option maxHeartbeats 16000000 in
theorem steer_Plan_chart.calls (L R S N : Int) (r : List Int) (w : World) (h : steer_Plan_chart.f L R S N = some r) :
  Calls Try.prog 37 #[.agg #[.int .i64 L, .int .i64 R, .int .i64 S, .int .i64 N]] w fun e w' => ∃ v0_ : Value, e = .returned (v0_) ∧ Kd.R (Kd.int .i64) 3 w' w.heap.size (fun _ => True) v0_ r ∧ Below w.heap.size w w' := by
 have hb : 1 ≤ L ∧ L ≤ 40 ∧ 0 ≤ R ∧ R ≤ 12 ∧ 1 ≤ S ∧ S ≤ 24 ∧ 0 ≤ N ∧ N ≤ 12 := by
  unfold steer_Plan_chart.f rightB at h
  split at h
  ·rename_i hh; simp at hh; omega
  ·cases h
 have H : Aside0 (chartF L R S N (siz L R + 2) 1 (List.replicate (siz L R) 0) = some r) := ⟨by
  unfold steer_Plan_chart.f at h
  split at h
  ·exact h
  ·cases h⟩
 clear h
 obtain ⟨hL0, hL, hR0, hR, hS0, hS, hN0, hN⟩ := hb
 have hsz := siz_le L R hL hR
 have hsz3 := siz_pos L R hL0 hR0
 have hbase : w.heap.size ≤ w.heap.size := Nat.le_refl _
 refine (callsIn_wide (n := 9)).1 ?_
 refine callsIn_of_wp_marks Try.func37 rfl trivial ?_ rfl
 simp only [Try.ntmps37, List.size_toArray, List.length_cons, List.length_nil, Nat.reduceAdd, Nat.reduceSub, Array.replicate_succ, Array.replicate_zero, List.push_toArray, List.append_toArray, List.nil_append, List.cons_append]
 have f39 : Fence.wide.fn 39 := trivial
 have hidx : (L + L) * (2 * R + 1) + R + R = ((siz L R - 1 : Nat) : Int) := by
  have h1 : ((siz L R : Nat) : Int) = (2 * L + 1) * (2 * R + 1) := by
   unfold siz wid
   rw [Int.natCast_mul, Int.toNat_of_nonneg (by omega), Int.toNat_of_nonneg (by omega)]
  rw [Int.natCast_sub (by omega), h1, Int.add_mul (2 * L) 1, Int.one_mul, show L + L = 2 * L by omega]
  omega
 have i39 : ∀ W', CallsIn Fence.wide (9 - 1) Try.prog 39 #[.agg #[.int .i64 L, .int .i64 R, .int .i64 S, .int .i64 N], .agg #[.int .i64 L, .int .i64 R]] W' (fun en w' => en = .returned (.int .i64 ((siz L R - 1 : Nat) : Int)) ∧ Below W'.heap.size W' w') := fun W' => callsIn_wide.2 (index_calls L R S N L R (siz L R - 1) (by omega) hL hR0 hR (by omega) (by omega) (by omega) (by omega) hidx W')
 have hmk : ∀ W : World, (Instr.makeSlice 30 (.int .i64 (((siz L R - 1 : Nat) : Int) + 1)) (.int .i64 (((siz L R - 1 : Nat) : Int) + 1))).run Try.prog W = .ok (.slice (some ⟨W.heap.size, 0, none⟩) (siz L R) (siz L R)) (W.alloc (.cells (madeCells #[.int .i64 0] (siz L R)) 3)) := by
  intro W
  have := print_make (P := Try.prog) 30 3 .i64 8 Try.underlying30 info3m (by decide) (siz L R) (by omega) W
  rwa [show ((siz L R : Nat) : Int) = ((siz L R - 1 : Nat) : Int) + 1 by omega] at this
 clear hidx
 gi_wp2
 refine wpIn_wide.2 (wp_scope_straight ((wpIn_wide (n := 9)).1 ?_))
 gi_wp2_with (gi_at_call 39; refine (i39 _).mono ?_; rintro en W1 ⟨rfl, hB1⟩)
 have hbl : W1.heap.size = W1.heap.size := rfl
 obtain ⟨W2, hW2⟩ : ∃ W2, (((W1.alloc (.cells (madeCells #[.int .i64 0] (siz L R)) 3)).alloc (.cells #[.slice (some ⟨W1.heap.size, 0, none⟩) (siz L R) (siz L R)] 30)).alloc
   (.cells #[.func (.func 60) #[] #[.pointer (some ⟨W1.heap.size + 1, 0, none⟩), .pointer (some ⟨w.heap.size, 0, none⟩)]] 86)) = W2 := ⟨_, rfl⟩
 rw [hW2]
 have hs1 : w.heap.size + 1 ≤ W1.heap.size := by have := hB1.size; simpa using this
 have hsz2 : W2.heap.size = W1.heap.size + 3 := by rw [← hW2]; simp
 have kp : W2.heap[w.heap.size]? = some (.cells #[.int .i64 L, .int .i64 R, .int .i64 S, .int .i64 N] 24 (0, 0)) := by
  have : W1.heap[w.heap.size]? = some (.cells #[.int .i64 L, .int .i64 R, .int .i64 S, .int .i64 N] 24 (0, 0)) := (hB1.block _ (by simp)).trans (al_new _ _ _ rfl)
  rw [← hW2]; exact al_old (al_old (al_old this))
 have ko : W2.heap[W1.heap.size + 1]? = some (.cells #[.slice (some ⟨W1.heap.size, 0, none⟩) (siz L R) (siz L R)] 30 (0, 0)) := by rw [← hW2]; exact al_old (al_new _ _ _ (by simp))
 have kf : W2.heap[W1.heap.size + 1 + 1]? = some (.cells #[.func (.func 60) #[] #[.pointer (some ⟨W1.heap.size + 1, 0, none⟩), .pointer (some ⟨w.heap.size, 0, none⟩)]] 86 (0, 0)) := by rw [← hW2]; exact al_new _ _ _ (by simp)
 have kown : W2.ownsRow w.heap.size 3 1 (.slice (some ⟨W1.heap.size, 0, none⟩) (siz L R) (siz L R)) (siz L R) (nums .i64 (List.replicate (siz L R) 0)) := by
  have h0 := own_made W1 w.heap.size 3 .i64 (siz L R) (by omega) (by omega)
  rw [← hW2]
  exact own_move h0 (fun k hk => by simp [Value.ownBlock] at hk; subst hk; rw [Below.heap_alloc _ _ _ (by simp; omega), Below.heap_alloc _ _ _ (by simp)])
 have hB2 : Below w.heap.size w W2 := by
  have : Below w.heap.size w W1 := ((Below.refl _ w).alloc (Nat.le_refl _) _).trans (hB1.mono (by simp))
  rw [← hW2]
  exact ((this.alloc (by omega) _).alloc (by simp; omega) _).alloc (by simp; omega) _
 clear hW2 hB1 hmk i39 f39 hbl
 refine wpIn_label ?_
 gi_wp2
 refine wpIn_loop (fun a W => ∃ (n : Nat) (o : List Int) (ds : List Nat), (∃ u : Nat → Value, a.tmps = frC (.agg #[.int .i64 L, .int .i64 R, .int .i64 S, .int .i64 N]) (.pointer (some ⟨w.heap.size, 0, none⟩)) (.pointer (some ⟨W1.heap.size + 1, 0, none⟩)) (.pointer (some ⟨W1.heap.size + 1 + 1, 0, none⟩)) n u) ∧ (a.defers = ds.map fun d => { target := .collected d, args := #[] }) ∧
   1 ≤ n ∧ n ≤ siz L R + 2 ∧ o.length = siz L R ∧ chartF L R S N (siz L R + 3 - n) n o = some r ∧
   W.heap[w.heap.size]? = some (.cells #[.int .i64 L, .int .i64 R, .int .i64 S, .int .i64 N] 24 (0, 0)) ∧
   W.heap[W1.heap.size + 1]? = some (.cells #[.slice (some ⟨W1.heap.size, 0, none⟩) (siz L R) (siz L R)] 30 (0, 0)) ∧
   W.heap[W1.heap.size + 1 + 1]? = some (.cells #[.func (.func 60) #[] #[.pointer (some ⟨W1.heap.size + 1, 0, none⟩), .pointer (some ⟨w.heap.size, 0, none⟩)]] 86 (0, 0)) ∧
   W.ownsRow w.heap.size 3 1 (.slice (some ⟨W1.heap.size, 0, none⟩) (siz L R) (siz L R)) (siz L R) (nums .i64 o) ∧
   ((∀ d, d ∈ ds → W1.heap.size + 3 ≤ d ∧ W.heap[d]? = some (.deferred (some []))) ∧ ds.Nodup) ∧ Below w.heap.size w W ∧ W1.heap.size + 3 ≤ W.heap.size)
  (fun a _ => (siz L R + 3) - (intOf (a.tmps.getD 5 undef)).toNat) ?start ?round
 case start =>
  refine ⟨1, List.replicate (siz L R) 0, [], frC_intro .., rfl, by omega, by omega, by simp, H.out, kp, ko, kf, kown, by simp, hB2, by omega⟩
 case round =>
  clear kp ko kf kown hB2 hsz2 H W2
  rintro ⟨tm, df⟩ W ⟨n, o, ds, ⟨u, htm⟩, hdf, hn1, hn2, hol, hch, kp, ko, kf, kown, ⟨hds, hnd⟩, hB, hWs⟩
  simp only at htm hdf
  subst htm
  have HND : Aside0 ds.Nodup := ⟨hnd⟩
  clear hnd
  have HCH : Aside0 (chartF L R S N (siz L R + 3 - n) n o = some r) := ⟨hch⟩
  have HDS : Aside0 (∀ d, d ∈ ds → W1.heap.size + 3 ≤ d ∧ W.heap[d]? = some (.deferred (some []))) := ⟨hds⟩
  have HOL : Aside0 (o.length = siz L R) := ⟨hol⟩
  clear hch hds hol
  unfold frC
  have HDD : Aside0 _ := ⟨hdf.symm⟩
  clear hdf
  generalize df = DD at *
  have hltp : w.heap.size < W.heap.size := by omega
  have p0 : W.cell? ⟨w.heap.size, 0, none⟩ = some (.int .i64 L) := by simp [World.cell?, kp]
  have p1 : W.cell? ⟨w.heap.size, 1, none⟩ = some (.int .i64 R) := by simp [World.cell?, kp]
  have p2 : W.cell? ⟨w.heap.size, 2, none⟩ = some (.int .i64 S) := by simp [World.cell?, kp]
  have p3 : W.cell? ⟨w.heap.size, 3, none⟩ = some (.int .i64 N) := by simp [World.cell?, kp]
  have f44 : Fence.wide.fn 44 := trivial
  have a44 : ∀ W', CallsIn Fence.wide (9 - 1) Try.prog 44 #[.agg #[.int .i64 L, .int .i64 R, .int .i64 S, .int .i64 N]] W' _ := fun W' => callsIn_wide.2 (states_calls L R S N W')
  gi_wp2_with (gi_at_call 44; refine (a44 _).mono ?_; rintro e w' ⟨rfl, rfl⟩)
  clear a44 f44
  obtain ⟨W3, hW3⟩ : ∃ W3, ((W.alloc (.cells #[.slice none 0 0] 30)).alloc (.cells #[.int .i64 L, .int .i64 R, .int .i64 S, .int .i64 N] 24)) = W3 := ⟨_, rfl⟩
  rw [hW3]
  have hsz3' : W.heap.size + 2 ≤ W3.heap.size ∧ W3.heap.size ≤ W.heap.size + 2 := by rw [← hW3]; simp
  have hB3 : Below W.heap.size W W3 := by rw [← hW3]; exact ((Below.refl _ W).alloc (Nat.le_refl _) _).alloc (by simp) _
  have kl : W3.heap[W.heap.size]? = some (.cells #[.slice none 0 0] 30 (0, 0)) := by rw [← hW3]; exact al_old (al_new _ _ _ rfl)
  have ks : W3.heap[W.heap.size + 1]? = some (.cells #[.int .i64 L, .int .i64 R, .int .i64 S, .int .i64 N] 24 (0, 0)) := by rw [← hW3]; exact al_new _ _ _ (by simp)
  have kp3 := (hB3.block _ (by omega)).trans kp
  have ko3 := (hB3.block _ (by omega)).trans ko
  have kf3 := (hB3.block _ (by omega)).trans kf
  have kown3 := own_move (w1 := W3) kown (fun k hk => by simp [Value.ownBlock] at hk; exact hB3.block _ (by omega))
  clear hW3 p0 p1 p2 p3 kp ko kf kown
  refine wpIn_rangeFunc_ownH rfl (by decide) (gf := 65) (lb := #[.pointer (some ⟨W.heap.size + 1, 0, none⟩)]) rfl trivial (enters_of Try.func65 (by kernel_rfl) rfl)
   (states_stops (9 - 1) (by decide) L R S N _ W3 ks hL0 hL hR0 hR) SameAt.t (SameAt.b (by simp; omega)) (Below.refl _ _) (fun _ => rfl)
   (fun pre X => IC L R S N w W1.heap.size W.heap.size W3.heap.size ds (pre.unattach.foldl (stepC L R S N) (o, [])) X)
   (fun _ _ _ => False)
   ?hI (fun c _ _ _ _ hs _ _ => hs) ?h0
   (fun x a' X => ∃ Bx, W3.heap.size ≤ Bx ∧ X.heap[Bx]? = some (.cells #[.int .i64 (stE L R x.1), .int .i64 (stR R x.1)] 59 (0, 0)) ∧ a' = { tmps := frB (.agg #[.int .i64 L, .int .i64 R, .int .i64 S, .int .i64 N]) (.pointer (some ⟨w.heap.size, 0, none⟩)) (.pointer (some ⟨W1.heap.size + 1, 0, none⟩)) (.pointer (some ⟨W1.heap.size + 1 + 1, 0, none⟩)) n u (.pointer (some ⟨W.heap.size, 0, none⟩)) (.int .i64 x.1) (.pointer (some ⟨Bx, 0, none⟩)) (.agg #[.int .i64 L, .int .i64 R, .int .i64 S, .int .i64 N]) (.func (.func 65) #[] #[.pointer (some ⟨W.heap.size + 1, 0, none⟩)]) (.int .i64 x.1) (.agg #[.int .i64 (stE L R x.1), .int .i64 (stR R x.1)]), defers := [] })
   ?hAx ?assign ?body ?done ?stop
  case hI => exact IC.own (fun d hd => by have := (Array.getElem?_eq_some_iff.1 (HDS.out d hd).2).1; omega) (by omega) _
  case h0 =>
   exact ⟨⟨⟨_, kl, own_nil _ _ _ _⟩, kown3⟩, ⟨kp3, ko3, kf3⟩, fun d hd => (hB3.block d (Array.getElem?_eq_some_iff.1 (HDS.out d hd).2).1).trans (HDS.out d hd).2, hB.trans (hB3.mono hB.size), Nat.le_refl _⟩
  case hAx =>
   rintro x a' s A B row ⟨Bx, h1, h2, h3⟩ hg hr
   exact ⟨Bx, h1, (grownBy_keeps_cells hg (fun r e => (hr r e).2) h2 rfl).trans h2, h3⟩
  case assign =>
   rintro l pre x X K hI hK
   have h9 := hI.2.2.2.2
   gi_wp2
   exact hK _ _ ((KeepsOthers.alloc _ _).from _) (fun b hb => Below.heap_alloc _ _ _ (by simp at hb; omega)) (hI.below ((Below.refl _ _).alloc (Nat.le_refl _) _)) ⟨X.heap.size, h9, al_new _ _ _ rfl, rfl⟩
  case body =>
   rintro l pre x a' X hl ⟨r', hr'⟩ hI ⟨Bx, hBx, hX, rfl⟩ hlt
   have hfold : ∀ y, (pre ++ [y]).unattach.foldl (stepC L R S N) (o, []) = stepC L R S N (pre.unattach.foldl (stepC L R S N) (o, [])) y.1 := fun y => by rw [List.unattach_append, List.foldl_append]; rfl
   have hlen : (pre.unattach.foldl (stepC L R S N) (o, [])).1.length = siz L R := by
    rw [foldC_len]; exact HOL.out
   have hll : (pre.unattach.foldl (stepC L R S N) (o, [])).2.length ≤ 3000 := by
    have := foldC_lost L R S N pre.unattach (o, [])
    rw [List.length_unattach] at this
    simp only [List.length_nil] at this
    omega
   obtain ⟨k, hk⟩ := x
   have HF : Aside0 _ := ⟨hfold ⟨k, hk⟩⟩
   clear hfold
   generalize (pre.unattach.foldl (stepC L R S N) (o, [])) = st at hI hlen HF hll
   obtain ⟨o1, lost⟩ := st
   have hst := st_bounds L R hL0 hR0 k hk
   have hidx := st_index L R hR0 k
   simp only at hlen hX hll
   generalize hse : stE L R k = se at *
   generalize hsr : stR R k = sr at *
   have HSE : Aside0 (stE L R k = se) := ⟨hse⟩
   have HSR : Aside0 (stR R k = sr) := ⟨hsr⟩
   clear hse hsr
   have hsafe : ∀ Y, Below X.heap.size X Y → ∀ (j : Nat) (x y : Int), j < siz L R → isB L R x y = true → (x + L) * (2 * R + 1) + y + R = j → Calls Try.prog 60 #[.agg #[.int .i64 x, .int .i64 y], .pointer (some ⟨W1.heap.size + 1, 0, none⟩), .pointer (some ⟨w.heap.size, 0, none⟩)] Y fun e w' => e = .returned (.bool (decide (rd o1 j < 1000))) ∧ Below Y.heap.size Y w' := by
    intro Y hY j x y hj hxy hidx2
    have hIY := hI.below hY
    obtain ⟨⟨⟨vl, h1, h2⟩, h3⟩, ⟨h4, h5, h6⟩, h7, h8, h9⟩ := hIY
    simp only [isB, Bool.and_eq_true, decide_eq_true_eq] at hxy
    exact safe_calls L R S N x y (W1.heap.size + 1) w.heap.size W1.heap.size w.heap.size o1 Y hL0 hL hR0 hR j (by rw [hlen]; exact hj) (by omega) (by omega) (by omega) (by omega) hidx2 (by rw [hlen]; exact h5) h4 (by rw [hlen]; exact h3)
   have hxB : isB L R se sr = true := by simp [isB, hst]
   have hs60 := fun Y hY => hsafe Y hY k se sr hk hxB hidx
   have h9 := hI.2.2.2.2
   have p0 : X.cell? ⟨w.heap.size, 0, none⟩ = some (.int .i64 L) := by simp [World.cell?, hI.2.1.1]
   have p1 : X.cell? ⟨w.heap.size, 1, none⟩ = some (.int .i64 R) := by simp [World.cell?, hI.2.1.1]
   have p2 : X.cell? ⟨w.heap.size, 2, none⟩ = some (.int .i64 S) := by simp [World.cell?, hI.2.1.1]
   have p3 : X.cell? ⟨w.heap.size, 3, none⟩ = some (.int .i64 N) := by simp [World.cell?, hI.2.1.1]
   have x0 : X.cell? ⟨Bx, 0, none⟩ = some (.int .i64 se) := by simp [World.cell?, hX]
   have x1 : X.cell? ⟨Bx, 1, none⟩ = some (.int .i64 sr) := by simp [World.cell?, hX]
   have cf : X.cell? ⟨W1.heap.size + 1 + 1, 0, none⟩ = some (.func (.func 60) #[] #[.pointer (some ⟨W1.heap.size + 1, 0, none⟩), .pointer (some ⟨w.heap.size, 0, none⟩)]) := by simp [World.cell?, hI.2.1.2.2]
   have HI : Aside0 _ := ⟨hI⟩
   have HX : Aside0 _ := ⟨hX⟩
   have HSA : Aside0 _ := ⟨hsafe⟩
   clear hI hX hsafe
   have f60 : Fence.wide.fn 60 := trivial
   unfold frB
   by_cases hsf : rd o1 (k : Int) < 1000
   ·have hd : decide (rd o1 (k : Int) < 1000) = true := by simpa using hsf
    rw [hd] at hs60
    have s60 : CallsIn Fence.wide (9 - 1 - 1 - 1) Try.prog 60 _ X _ := callsIn_wide.2 (hs60 X (Below.refl _ _))
    have HSF : Aside0 (rd o1 (k : Int) < 1000) := ⟨hsf⟩
    clear hs60 hsf hd
    gi_wp2_with (gi_at_call 60; refine (CallsIn.inRound l s60).mono ?_; rintro en X1 ⟨rfl, hB1⟩; have q0 := cell_on hB1 p0; have q1 := cell_on hB1 p1; have q2 := cell_on hB1 p2; have q3 := cell_on hB1 p3; have y0 := cell_on hB1 x0; have y1 := cell_on hB1 x1; have HB1 : Aside0 (Below X.heap.size X X1) := ⟨hB1⟩; clear hB1)
    refine ⟨trivial, ?_⟩
    refine (CallsIn.inRound l (callsIn_wide.2 (steer_Plan_rates.calls 200 L R S N se sr (ratesL R S sr) X1 (rates_f L R S N se sr hR0 hR hS0 hS hst.2.2.1 hst.2.2.2)))).mono ?_
    rintro en X2 ⟨v0, rfl, hRv, hB2⟩
    have hown2 := R_ints hRv
    have hlr : (ratesL R S sr).length ≠ 0 := by
     intro h0
     have : sr ∈ ratesL R S sr := rates_of hst.2.2.1 hst.2.2.2 (by omega) (by omega)
     rw [List.length_eq_zero_iff.1 h0] at this; cases this
    obtain ⟨gb, cap, rfl, hgb, hgl⟩ : ∃ gb cap, v0 = .slice (some ⟨gb, 0, none⟩) (ratesL R S sr).length cap ∧ X1.heap.size ≤ gb ∧ gb < X2.heap.size := by
     rcases hown2.2 with ⟨_, h0⟩ | ⟨g', cap', cur, e, hb0, hh, _⟩
     ·exact absurd h0 hlr
     ·exact ⟨g', cap', e, hb0, (Array.getElem?_eq_some_iff.1 hh).1⟩
    have HB2 : Aside0 (Below X1.heap.size X1 X2) := ⟨hB2⟩
    have HO2 : Aside0 _ := ⟨hown2⟩
    clear hB2 hRv hown2 q0 q1 q2 q3 y0 y1
    gi_wp2_with fail
    refine ⟨trivial, ?_⟩
    have hX1s := HB1.out.size
    have hXW : ∀ Y, X2.grownBy Y (some gb) → Below X.heap.size X Y := fun Y hg => by
     have hb12 := HB1.out.trans (HB2.out.mono hX1s)
     exact ⟨hg.os.trans hb12.os, hg.tape.trans hb12.tape, hg.output.trans hb12.output, Nat.le_trans hb12.size hg.size, fun q hq => (hg.block q (by have := hb12.size; omega) (fun e => by cases e; omega)).trans (hb12.block q hq)⟩
    have hGF : ∀ Y, Below X.heap.size X Y → GoodFn 60 #[.pointer (some ⟨W1.heap.size + 1, 0, none⟩), .pointer (some ⟨w.heap.size, 0, none⟩)] L R (goodO L R o1) Y := fun Y hY Z x y hZ hxy => by
     obtain ⟨j, hj, he⟩ := idx_lt hL0 hR0 hxy
     have := HSA.out Z (hY.trans (hZ.mono hY.size)) j x y hj hxy he
     unfold goodO
     rw [he]
     exact this
    refine (CallsIn.inRound l (callsIn_wide.2 (deleteFunc_calls X1.heap.size gb cap (ratesL R S sr) 62 _ (enters_of Try.func62 (by kernel_rfl) rfl) (fun q => !holdsB L R N se q (goodO L R o1)) X2 HO2.out (fun Y q hq hg => ?hdel) hgl))).mono ?_
    case hdel =>
     have hY := hXW Y hg
     have hIY := HI.out.below hY
     have hqm := rates_mem hq
     exact drop_calls L R S N se sr q _ _ _ 60 _ (enters_of Try.func60 (by kernel_rfl) rfl) (goodO L R o1) Y hL0 hL hR0 hR hN0 hN (by omega) (by omega) (by omega) (by omega) (hGF Y hY) hIY.2.1.1 ((hY.block Bx (Array.getElem?_eq_some_iff.1 HX.out).1).trans HX.out) hIY.2.1.2.2
    rintro en X3 ⟨v3, rfl, hown3, hv3, hg3⟩
    have hkeep : ((ratesL R S sr).filter fun x => !(fun q => !holdsB L R N se q (goodO L R o1)) x) = keepO L R S N o1 k := by
     unfold keepO
     rw [HSE.out, HSR.out]
     apply List.filter_congr
     intro x _
     simp
    rw [hkeep] at hown3
    clear hkeep
    obtain ⟨A3, c3, rfl, hri3⟩ := own_reads hown3
    have HC3 : Kd.C (Kd.int .i64) X3 A3 (keepO L R S N o1 k).length (keepO L R S N o1 k) := Kd.C_of_reads (d := (0 : Int)) (h1 := fun _ => rfl) hri3
    have HB3 : Aside0 (Below X.heap.size X X3) := ⟨hXW X3 hg3⟩
    have hbest := bestInt_calls A3 c3 (keepO L R S N o1 k) 64 #[] (enters_of Try.func64 (by kernel_rfl) rfl) nearF X3 HC3 (fun Y x _ _ => steer_nearness.calls x (nearF x) Y rfl)
    clear hXW hGF HC3 hri3 hg3 hown3 HO2
    have HST : Aside0 (stepC L R S N (o1, lost) k = match bestOf nearF (keepO L R S N o1 k) with | none => (o1, lost ++ [k]) | some q => (o1.set k q, lost)) := ⟨by unfold stepC; rw [if_pos HSF.out]⟩
    generalize (keepO L R S N o1 k).length = kn at hbest
    generalize bestOf nearF (keepO L R S N o1 k) = bo at hbest HST
    gi_wp2_with fail
    refine ⟨trivial, ?_⟩
    refine (CallsIn.inRound l (callsIn_wide.2 hbest)).mono ?_
    rintro en X4 ⟨rfl, hB4⟩
    have HB4 : Aside0 (Below X.heap.size X X4) := ⟨HB3.out.trans (hB4.mono HB3.out.size)⟩
    clear hbest hB4 HB3 HB2 HB1
    have HI4 := HI.out.below HB4.out
    cases bo with
    | none =>
     obtain ⟨⟨⟨vl, h1, h2⟩, h3⟩, ⟨h4, h5, h6⟩, h7, h8, h9'⟩ := HI4
     have hv : Boxed X4 W.heap.size 30 vl := h1
     have hcl := hv.cell
     have H2 : Aside0 (X4.ownsRow W3.heap.size 3 1 vl lost.length (nums .i64 (lost.map fun k : Nat => (k : Int)))) := ⟨h2⟩
     have HX4 : Aside0 _ := ⟨And.intro h3 (And.intro h4 (And.intro h5 (And.intro h6 (And.intro h7 h8))))⟩
     clear h1 h2 h3 h4 h5 h6 h7 h8
     have hnl : Aside0 ((nums .i64 (lost.map fun k : Nat => (k : Int)) ++ [.int .i64 (k : Int)]) = nums .i64 ((lost ++ [k]).map fun k : Nat => (k : Int))) := ⟨by simp [nums]⟩
     obtain ⟨i0, hi, hz0, hz1, hz2⟩ := info_parts info3m
     simp only [Option.getD_none, Option.isSome_none]
     gi_wp2_with (gi_at_builtin; refine wpListIn_append_own _ rfl _ _ 30 rfl W3.heap.size 3 i0 (.int .i64 0) 1 8 Try.underlying30 hi hz0 hz1 hz2 rfl (by decide) _ _ _ rfl (H2.out.alloc _) ⟨X4.heap.size, 0, none⟩ 1 1 [.int .i64 (k : Int)] rfl rfl (cell_one_new _ _ _) (by simp [Value.oneCell']) (by unfold maxLen; omega) (by omega) (by simp; omega) ?_; intro v' w1 hown' hgrow _; obtain ⟨g', cap', rfl⟩ := ownsRow_succ hown'; obtain ⟨hv1, hv2, hr2, hk2, hb2⟩ := hv.appended (n₀ := W.heap.size) (by decide) (own_weaken H2.out (by omega)) (by omega) (by omega) (own_weaken hown' (by omega)) hgrow; have hc1 := hv1.cell; have hf1 := hv1.frozen; have HA : Aside0 _ := ⟨And.intro hown' (And.intro hgrow (And.intro hv2 (And.intro hr2 (And.intro hk2 hb2))))⟩; clear hown' hgrow hv1 hv2 hr2 hk2 hb2)
     obtain ⟨hown', hgrow, hv2, hr2, hk2, hb2⟩ := HA.out
     obtain ⟨h3, h4, h5, h6, h7, h8⟩ := HX4.out
     have hX4s := HB4.out.size
     have hm : ∀ {q : Nat}, q < W3.heap.size → q ≠ W.heap.size → ∀ v', (w1.setCell ⟨W.heap.size, 0, none⟩ v').heap[q]? = X4.heap[q]? := fun {q} hq hne v' =>
      appended_block hgrow (by omega) (fun e => by have := own_base H2.out _ e.symm; omega) hne
     refine ⟨((keeps_of_below HB4.out).trans hk2).from _, fun b hb => ?_, ?_⟩
     ·simp at hb
      subst hb
      exact (hm (by omega) (by omega) _).trans (HB4.out.block _ (by omega))
     ·dsimp only
      rw [HF.out, HST.out]
      refine ⟨⟨⟨_, hv2, ?_⟩, own_move h3 (fun q hq => by simp [Value.ownBlock] at hq; subst hq; exact hm (by omega) (by omega) _)⟩, ⟨(hm (by omega) (by omega) _).trans h4, (hm (by omega) (by omega) _).trans h5, (hm (by omega) (by omega) _).trans h6⟩, fun d hd => ?_, h8.trans (hb2.mono (by omega)), ?_⟩
      ·have h0 := own_base hown'
       have := own_move (w1 := w1.setCell ⟨W.heap.size, 0, none⟩ (.slice (some ⟨g', 0, none⟩) (lost.length + 1) cap')) hown' (fun q hq => Below.heap_setCell _ _ _ _ (by have := h0 q hq; simp; omega))
       rw [hnl.out] at this
       simpa using this
      ·have := (Array.getElem?_eq_some_iff.1 (HDS.out d hd).2).1
       exact (hm (by omega) (by omega) _).trans (h7 d hd)
      ·have := hb2.size
       omega
    | some q =>
     obtain ⟨h1, h3⟩ := HI4.1
     obtain ⟨⟨h4, h5, h6⟩, h7, h8, h9'⟩ := HI4.2
     have hbk : W1.heap.size < X4.heap.size := own_lt h3 _ rfl
     have co : X4.cell? ⟨W1.heap.size + 1, 0, none⟩ = some (.slice (some ⟨W1.heap.size, 0, none⟩) (siz L R) (siz L R)) := by simp [World.cell?, h5]
     have ck := (own_at h3 (k : Int) (by omega) (by omega)).1
     have fk := (own_at h3 (k : Int) (by omega) (by omega)).2
     simp only [Int.toNat_natCast] at ck fk
     generalize rd o1 (k : Int) = old at ck
     have hst' := own_store h3 (k : Int) q
     simp only [Int.toNat_natCast] at hst'
     have HX4 : Aside0 _ := ⟨And.intro h1 (And.intro hst' (And.intro h4 (And.intro h5 (And.intro h6 (And.intro h7 h8)))))⟩
     clear h1 h3 h4 h5 h6 h7 h8 hst'
     simp only [Option.getD_some, Option.isSome_some]
     gi_wp2
     obtain ⟨⟨vl, h1, h2⟩, ⟨hs1, hs2⟩, h4, h5, h6, h7, h8⟩ := HX4.out
     have hX4s := HB4.out.size
     have hm : ∀ {q' : Nat}, q' ≠ W1.heap.size → (X4.setCell ⟨W1.heap.size, k, none⟩ (.int .i64 q)).heap[q']? = X4.heap[q']? := fun {q'} hne => Below.heap_setCell _ _ _ _ hne
     refine ⟨((keeps_of_below HB4.out).trans (KeepsOthers.setCell _ _ _)).from _, fun b hb => ?_, ?_⟩
     ·simp at hb
      subst hb
      exact (hm (by omega)).trans (HB4.out.block _ (by omega))
     ·dsimp only
      rw [HF.out, HST.out]
      refine ⟨⟨⟨vl, (hm (by omega)).trans h1, own_move h2 (fun q' hq => hm (by have := own_base h2 _ hq; omega))⟩, hs1⟩, ⟨(hm (by omega)).trans h4, (hm (by omega)).trans h5, (hm (by omega)).trans h6⟩, fun d hd => ?_, h8.setCell (p := ⟨W1.heap.size, k, none⟩) (by simp; omega) _, ?_⟩
      ·have := (HDS.out d hd).1
       exact (hm (by omega)).trans (h7 d hd)
      ·simp [World.setCell]; omega
   ·have hd : decide (rd o1 (k : Int) < 1000) = false := by simpa using hsf
    rw [hd] at hs60
    have s60 : CallsIn Fence.wide (9 - 1 - 1 - 1) Try.prog 60 _ X _ := callsIn_wide.2 (hs60 X (Below.refl _ _))
    have HST : Aside0 (stepC L R S N (o1, lost) k = (o1, lost)) := ⟨by unfold stepC; rw [if_neg hsf]⟩
    clear hs60 hsf hd
    gi_wp2_with (gi_at_call 60; refine (CallsIn.inRound l s60).mono ?_; rintro en X1 ⟨rfl, hB1⟩)
    exact ⟨(keeps_of_below hB1).from _, fun b hb => hB1.block b (by simp at hb; omega), by have := HI.out.below hB1; rw [← HST.out, ← HF.out] at this; exact this⟩
  case done =>
   rintro D xs X hD hxs hI hDK
   rw [hxs] at hI
   have HCH2 : Aside0 _ := ⟨HCH.out⟩
   generalize hst : (List.range (siz L R)).foldl (stepC L R S N) (o, []) = st at hI
   have HST : Aside0 _ := ⟨hst⟩
   obtain ⟨o1, lost⟩ := st
   have hlen : o1.length = siz L R := by have := foldC_len L R S N (List.range (siz L R)) (o, []); rw [hst] at this; exact this.trans HOL.out
   have HLL : Aside0 (∀ i ∈ lost, i < siz L R) := ⟨fun i hi => by have := foldC_mem L R S N (List.range (siz L R)) (o, []) i; rw [hst] at this; simpa using this hi⟩
   have hlost : lost.length ≤ 3000 := by
    have := foldC_lost L R S N (List.range (siz L R)) (o, [])
    rw [hst] at this
    simp at this
    omega
   clear hst
   obtain ⟨⟨⟨vl, h1, h2⟩, h3⟩, ⟨h4, h5, h6⟩, h7, h8, h9⟩ := hI
   simp only at h1 h2 h3
   have cl : X.cell? ⟨W.heap.size, 0, none⟩ = some vl := by simp [World.cell?, h1]
   obtain ⟨Al, cpl, rfl, hrl⟩ := own_reads h2
   have HRL : Aside0 _ := ⟨hrl⟩
   have HX : Aside0 _ := ⟨And.intro h1 (And.intro h2 (And.intro h3 (And.intro h4 (And.intro h5 (And.intro h6 (And.intro h7 (And.intro h8 (And.intro h9 hDK))))))))⟩
   clear h1 h2 hrl h7 hDK
   by_cases hlo : lost = []
   ·subst hlo
    have co : X.cell? ⟨W1.heap.size + 1, 0, none⟩ = some (.slice (some ⟨W1.heap.size, 0, none⟩) (siz L R) (siz L R)) := by simp [World.cell?, h5]
    clear h3 h4 h5 h6
    simp only [List.length_nil] at cl
    gi_wp2
    obtain ⟨h1, h2, h3, h4, h5, h6, h7, h8, h9, hDK⟩ := HX.out
    have hr1 : o1 = r := by
     have := HCH.out
     obtain ⟨f, hf⟩ : ∃ f, siz L R + 3 - n = f + 1 := ⟨siz L R + 2 - n, by omega⟩
     rw [hf, chartF, HST.out, if_pos rfl] at this
     exact Option.some.inj this
    subst hr1
    have hdd : ({ target := .collected D, args := #[] } :: DD : List Deferred) = (D :: ds).map fun d => { target := .collected d, args := #[] } := by rw [List.map_cons, HDD.out]
    show LeavesInM Fence.wide 9 Try.prog Try.f37 _ _ _ _ _
    rw [hdd]
    refine leavesM w.heap.size (D :: ds) X (List.nodup_cons.2 ⟨fun hm => ?_, HND.out⟩) (fun d hd => ?_) (fun Y hY hc => ⟨_, results_tmp rfl _ _ _, _, rfl, ?_, h8.trans hY⟩)
    ·have := (Array.getElem?_eq_some_iff.1 (HDS.out D hm).2).1
     omega
    ·rcases List.mem_cons.1 hd with rfl | hd
     ·exact ⟨by omega, hDK⟩
     ·exact ⟨by have := (HDS.out d hd).1; omega, h7 d hd⟩
    ·have h3' : X.ownsRow w.heap.size 3 1 (.slice (some ⟨W1.heap.size, 0, none⟩) (siz L R) (siz L R)) o1.length (nums .i64 o1) := by rw [hlen]; exact h3
     refine Kd.R_of_own (h1 := fun _ => rfl) (own_move h3' (fun q hq => ?_)) (fun _ _ => trivial)
     obtain ⟨cells, hcq⟩ := own_typed h3' q hq
     rw [hc q _ hcq rfl, hcq]
   ·have hne : ¬ (lost.length = 0) := fun e => hlo (List.length_eq_zero_iff.1 e)
    have hneb : ((lost.length : Int) == 0) = false := beq_eq_false_iff_ne.2 (by omega)
    have HLO : Aside0 _ := ⟨hlo⟩
    obtain ⟨gl, rfl, hgl⟩ : ∃ gl, Al = some ⟨gl, 0, none⟩ ∧ W3.heap.size ≤ gl := by
     rcases HX.out.2.1.2 with ⟨_, h0⟩ | ⟨g', cap', cur, e, hb0, _⟩
     ·exact absurd h0 hne
     ·cases e; exact ⟨g', rfl, hb0⟩
    have HH3 : Aside0 _ := ⟨And.intro h3 (And.intro h4 (And.intro h5 h6))⟩
    clear hlo h3 h4 h5 h6
    gi_wp2
    gi_loopw [59] (fun v wr => ∃ j : Nat, j ≤ lost.length ∧ v = .int .i64 j ∧ Aside0 (wr.ownsRow w.heap.size 3 1 (.slice (some ⟨W1.heap.size, 0, none⟩) (siz L R) (siz L R)) (siz L R) (nums .i64 (markC n o1 (lost.take j)))) ∧ Aside0 (X.grownBy wr (some W1.heap.size)))
     (fun v _ => lost.length - (intOf v).toNat)
    case atStart => exact ⟨0, Nat.zero_le _, rfl, ⟨HH3.out.1⟩, ⟨⟨rfl, rfl, rfl, Nat.le_refl _, fun _ _ _ => rfl⟩⟩⟩
    case round =>
     obtain ⟨j, hj, rfl, HJ, HG⟩ := hrel
     by_cases hlt : j < lost.length
     ·have hmv : ∀ {q : Nat}, q < X.heap.size → q ≠ W1.heap.size → wr.heap[q]? = X.heap[q]? := fun {q} hq hn => HG.out.block q hq (fun e => hn (by cases e; rfl))
      have hl2 := own_move (w1 := wr) HX.out.2.1 (fun q hq => hmv (own_lt HX.out.2.1 q hq) (by have := own_base HX.out.2.1 q hq; omega))
      have cj := (own_at hl2 (j : Int) (by omega) (by omega)).1
      have hjs : rd (lost.map fun k : Nat => (k : Int)) (j : Int) = (lost[j] : Int) := by simp [rd, List.getD_eq_getElem?_getD, List.getElem?_eq_getElem hlt]
      rw [hjs] at cj
      simp only [Int.toNat_natCast] at cj
      have hls : lost[j] < siz L R := HLL.out _ (List.getElem_mem _)
      have co : wr.cell? ⟨W1.heap.size + 1, 0, none⟩ = some (.slice (some ⟨W1.heap.size, 0, none⟩) (siz L R) (siz L R)) := by
       have := (hmv (by omega) (by omega)).trans HH3.out.2.2.1
       simp [World.cell?, this]
      have ci := (own_at HJ.out (lost[j] : Int) (by omega) (by omega)).1
      have fi := (own_at HJ.out (lost[j] : Int) (by omega) (by omega)).2
      have hst := own_store HJ.out (lost[j] : Int) (1000 + n)
      simp only [Int.toNat_natCast] at ci fi hst
      have HSS : Aside0 _ := ⟨hst⟩
      have HMK : Aside0 (markC n o1 (lost.take (j + 1)) = (markC n o1 (lost.take j)).set lost[j] (1000 + n)) := ⟨by rw [take_snoc lost j hlt, markC_snoc]⟩
      clear hl2 hjs hst hmv
      generalize rd (markC n o1 (lost.take j)) (lost[j] : Int) = old at ci
      generalize hlj : lost[j] = lj at *
      have HLJ : Aside0 _ := ⟨hlj⟩
      clear hlj
      gi_wp2
      go_roundw
      case rel => exact ⟨j + 1, by omega, by go_num, ⟨by rw [HMK.out]; exact HSS.out.1⟩, ⟨⟨HSS.out.2.os.trans HG.out.os, HSS.out.2.tape.trans HG.out.tape, HSS.out.2.output.trans HG.out.output, Nat.le_trans HG.out.size HSS.out.2.size, fun k hk hne => (HSS.out.2.block k (by have := HG.out.size; omega) hne).trans (HG.out.block k hk hne)⟩⟩⟩
      case measure => simp [intOf]; omega
     ·obtain rfl : j = lost.length := by omega
      gi_wp2
      obtain ⟨h1, h2, h3, h4, h5, h6, h7, h8, h9, hDK⟩ := HX.out
      have hmv : ∀ {q : Nat} {ob : Obj}, X.heap[q]? = some ob → q ≠ W1.heap.size → wr.heap[q]? = some ob := fun {q ob} hq hn => (HG.out.block q (Array.getElem?_eq_some_iff.1 hq).1 (fun e => hn (by cases e; rfl))).trans hq
      have hJ2 := HJ.out
      rw [List.take_length] at hJ2
      obtain ⟨f, hf⟩ : ∃ f, siz L R + 3 - n = f + 1 := ⟨siz L R + 2 - n, by omega⟩
      have hc := HCH.out
      rw [hf, chartF, HST.out, if_neg HLO.out] at hc
      have hf1 : f ≠ 0 := by
       intro h0
       rw [h0] at hc
       cases hc
      refine ⟨⟨n + 1, markC n o1 lost, D :: ds, frC_intro .., ?_, by omega, by omega, by rw [markC_len, hlen], ?_, hmv h4 (by omega), hmv h5 (by omega), hmv h6 (by omega), hJ2, ⟨fun d hd => ?_, List.nodup_cons.2 ⟨fun hm => ?_, HND.out⟩⟩, ?_, ?_⟩, ?_⟩
      ·show _ :: DD = _
       rw [List.map_cons, HDD.out]
      ·rw [show siz L R + 3 - (n + 1) = f by omega]; exact hc
      ·rcases List.mem_cons.1 hd with rfl | hd
       ·exact ⟨by omega, hmv hDK (by omega)⟩
       ·exact ⟨(HDS.out d hd).1, hmv (h7 d hd) (by have := (HDS.out d hd).1; omega)⟩
      ·have := (Array.getElem?_eq_some_iff.1 (HDS.out D hm).2).1
       omega
      ·exact h8.grown HG.out h8.size (fun k e => by cases e; omega)
      ·have := HG.out.size; omega
      ·simp [intOf]; omega
  case stop =>
   rintro D c pre X _ _ h _
   exact h.elim
end

end Go.Proofs.Ytcaekmalkbaldaa.M
