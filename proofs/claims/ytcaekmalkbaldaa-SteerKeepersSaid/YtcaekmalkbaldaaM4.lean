-- Written by a program of this session (over the kit's print) out of the translation; the parts that it does not tell are this session's own.
import Derived.Test.YtcaekmalkbaldaaM0
import Derived.Test.YtcaekmalkbaldaaM2
import Derived.Test.YtcaekmalkbaldaaM3
namespace Go.Proofs.Ytcaekmalkbaldaa.M
open Go.RowKit Go.Proofs.YtcaekmalkbaldaaW.PrintWords Go.Proofs.YtcaekmalkbaldaaW.PrintLast Go.Proofs.YtcaekmalkbaldaaW.PrintMore
attribute [local go_sem] max2_int min2_int max_two min_two max_three min_three max_four min_four   -- for this text's walks alone
set_option linter.unusedVariables false
set_option linter.unusedSimpArgs false

section
open Go.Shelf
/-- The first place at which p holds, or -1. -/
def idxOf (p : Int → Bool) (l : List Int) : Int := if l.findIdx p < l.length then (l.findIdx p : Int) else -1

theorem idxOf_hit (p : Int → Bool) (l : List Int) (k : Nat) (hk : k < l.length) (hp : p l[k] = true) (hn : ∀ j (hj : j < k), p (l[j]'(by omega)) = false) : idxOf p l = k := by
 have : l.findIdx p = k := (List.findIdx_eq hk).2 ⟨hp, hn⟩
 unfold idxOf
 rw [this, if_pos hk]
theorem idxOf_miss (p : Int → Bool) (l : List Int) (hn : ∀ x ∈ l, p x = false) : idxOf p l = -1 := by
 unfold idxOf
 rw [if_neg]
 intro h
 have := List.findIdx_getElem (w := h)
 rw [hn _ (List.getElem_mem _)] at this
 cases this

theorem C_int {w : World} {A : Option Addr} {l : List Int} (h : Kd.C (Kd.int .i64) w A l.length l) (k : Nat) (hk : k < l.length) : ∃ ad, A = some ad ∧ w.cell? (ad.add k) = some (.int .i64 (l[k])) := by
 obtain ⟨ad, c, e, _, hK, hc⟩ := Kd.C_get h 0 k (by omega) (by omega)
 refine ⟨ad, e, ?_⟩
 have hK' : c = [.int .i64 (l.getD k 0)] := hK
 subst hK'
 have := hc 0 _ rfl
 simp only [Int.toNat_natCast, Nat.add_zero] at this
 rw [show (Kd.int .i64).sz = 1 from rfl, Nat.mul_one] at this
 rw [this, List.getD_eq_getElem?_getD, List.getElem?_eq_getElem hk]
 rfl

set_option maxRecDepth 100000 in
set_option maxHeartbeats 4000000 in
theorem indexFunc_calls (A : Option Addr) (c : Nat) (l : List Int) (g : Nat) (cb : Array Value) (eg : ∀ args w, (callFunc g args).run Try.prog w = .ok (.enter g args) w) (p : Int → Bool) (w : World) (hr : Kd.C (Kd.int .i64) w A l.length l)
  (HP : ∀ W x, x ∈ l → Below w.heap.size w W → Calls Try.prog g (#[.int .i64 x] ++ cb) W fun e W' => e = .returned (.bool (p x)) ∧ Below W.heap.size W W') :
  Calls Try.prog 67 #[.slice A l.length c, .func (.func g) #[] cb] w fun e W' => e = .returned (.int .i64 (idxOf p l)) ∧ Below w.heap.size w W' := by
 have hlen : l.length ≤ 9223372036854775807 := hr.2.1
 have HR : Aside0 (Kd.C (Kd.int .i64) w A l.length l) := ⟨hr⟩
 have H : Aside0 (∀ W x, x ∈ l → Below w.heap.size w W → Calls Try.prog g (#[.int .i64 x] ++ cb) W fun e W' => e = .returned (.bool (p x)) ∧ Below W.heap.size W W') := ⟨HP⟩
 clear hr HP
 go_enter Try.func67, Try.ntmps67
 go_wp2
 go_loopw [8] (fun v wr => ∃ k : Nat, k ≤ l.length ∧ v = .int .i64 k ∧ Aside0 (∀ j (hj : j < l.length), j < k → p l[j] = false) ∧ Aside0 (Below w.heap.size w wr))
  (fun v _ => l.length - (intOf v).toNat)
 case atStart => exact ⟨0, Nat.zero_le _, rfl, ⟨fun j _ hj => absurd hj (by omega)⟩, ⟨Below.refl _ _⟩⟩
 case round =>
  obtain ⟨k, hk, rfl, HN, HB⟩ := hrel
  by_cases hlt : k < l.length
  ·obtain ⟨ad, rfl, hc⟩ := C_int (Kd.C_below HR.out HB.out) k hlt
   have hcall := H.out wr l[k] (List.getElem_mem _) HB.out
   cases hp : p l[k] with
   | false =>
    rw [hp] at hcall
    have HPK : Aside0 (p l[k] = false) := ⟨hp⟩
    clear hp
    go_wp2_with (go_at_fn g; refine hcall.mono ?_; rintro e w' ⟨rfl, hB1⟩)
    go_roundw
    case rel => exact ⟨k + 1, by omega, by go_num, ⟨fun j hj hjk => by by_cases e : j = k; (subst e; exact HPK.out); exact HN.out j hj (by omega)⟩, ⟨HB.out.trans (hB1.mono HB.out.size)⟩⟩
    case measure => simp [intOf]; omega
   | true =>
    rw [hp] at hcall
    have HI : Aside0 (idxOf p l = k) := ⟨idxOf_hit p l k hlt hp (fun j hj => HN.out j (by omega) hj)⟩
    clear hp
    go_wp2_with (go_at_fn g; refine hcall.mono ?_; rintro e w' ⟨rfl, hB1⟩)
    go_ret
    exact ⟨by rw [HI.out]; rfl, HB.out.trans (hB1.mono HB.out.size)⟩
  ·have HI : Aside0 (idxOf p l = -1) := ⟨idxOf_miss p l (fun x hx => by obtain ⟨j, hj, rfl⟩ := List.getElem_of_mem hx; exact HN.out j hj (by omega))⟩
   go_wp2
   go_ret
   exact ⟨by rw [HI.out]; rfl, HB.out⟩

/-- How far DeleteFunc has come: i elements kept, j looked at; d: what the row holds. -/
structure DelInv (p : Int → Bool) (l : List Int) (i j : Nat) (d : List Int) : Prop where
 len : d.length = l.length
 lt : i < j
 le : j ≤ l.length
 kept : d.take i = (l.take j).filter fun x => !p x
 rest : d.drop j = l.drop j

theorem DelInv.start {p : Int → Bool} {l : List Int} {k : Nat} (hk : k < l.length) (hp : p l[k] = true) (hn : ∀ j (hj : j < k), p (l[j]'(by omega)) = false) : DelInv p l k (k + 1) l := by
 refine ⟨rfl, by omega, by omega, ?_, rfl⟩
 rw [List.take_succ_eq_append_getElem hk, List.filter_append]
 have h1 : ([l[k]].filter fun x => !p x) = [] := by simp [hp]
 rw [h1, List.append_nil]
 refine (List.filter_eq_self.2 ?_).symm
 intro x hx
 obtain ⟨j, hj, rfl⟩ := List.getElem_of_mem hx
 have : j < k := by simp at hj; omega
 rw [List.getElem_take]
 simp [hn j this]

theorem DelInv.get {p : Int → Bool} {l d : List Int} {i j : Nat} (h : DelInv p l i j d) (hj : j < l.length) : d[j]? = some l[j] := by
 have : (d.drop j)[0]? = (l.drop j)[0]? := by rw [h.rest]
 rw [List.getElem?_drop, List.getElem?_drop] at this
 simpa [List.getElem?_eq_getElem hj] using this

theorem DelInv.skip {p : Int → Bool} {l d : List Int} {i j : Nat} (h : DelInv p l i j d) (hj : j < l.length) (hp : p l[j] = true) : DelInv p l i (j + 1) d := by
 refine ⟨h.len, by have := h.lt; omega, by omega, ?_, ?_⟩
 ·rw [h.kept, List.take_succ_eq_append_getElem hj, List.filter_append]; simp [hp]
 ·rw [← List.drop_drop, h.rest, List.drop_drop]

theorem DelInv.keep {p : Int → Bool} {l d : List Int} {i j : Nat} (h : DelInv p l i j d) (hj : j < l.length) (hp : p l[j] = false) : DelInv p l (i + 1) (j + 1) (d.set i l[j]) := by
 have hlt := h.lt
 have hil : i < d.length := by have := h.len; omega
 refine ⟨by simp [h.len], by omega, by omega, ?_, ?_⟩
 ·rw [List.take_succ_eq_append_getElem hj, List.filter_append, ← h.kept]
  rw [List.take_succ_eq_append_getElem (by simpa using hil)]
  simp [hp, List.take_set_of_le]
 ·rw [List.drop_set_of_lt (by omega), ← List.drop_drop, h.rest, List.drop_drop]

theorem zero3 (w : World) : (zeroValue 3).run Try.prog w = .ok (.int .i64 0) w := by kernel_rfl

set_option maxRecDepth 100000 in
set_option maxHeartbeats 8000000 in
theorem deleteFunc_calls (base b cap : Nat) (l : List Int) (g : Nat) (cb : Array Value) (eg : ∀ args w, (callFunc g args).run Try.prog w = .ok (.enter g args) w) (p : Int → Bool) (w : World)
  (hown : w.ownsRow base 3 1 (.slice (some ⟨b, 0, none⟩) l.length cap) l.length (nums .i64 l))
  (HP : ∀ W x, x ∈ l → w.grownBy W (some b) → Calls Try.prog g (#[.int .i64 x] ++ cb) W fun e W' => e = .returned (.bool (p x)) ∧ Below W.heap.size W W') (hlb : b < w.heap.size) :
  Calls Try.prog 61 #[.slice (some ⟨b, 0, none⟩) l.length cap, .func (.func g) #[] cb] w fun e W' => ∃ v, e = .returned v ∧
   W'.ownsRow base 3 1 v (l.filter fun x => !p x).length (nums .i64 (l.filter fun x => !p x)) ∧ v.ownBlock = some b ∧ w.grownBy W' (some b) := by
 have hbig : l.length ≤ 9223372036854775807 ∧ l.length ≤ cap := by
  rcases hown.2 with ⟨h, _⟩ | ⟨g, cap', cur, e, _, _, h1, h2, _⟩
  ·cases h
  ·cases e; unfold maxLen at h2; omega
 obtain ⟨A, c, hA, hRI⟩ := own_reads hown
 cases hA
 have HC : Kd.C (Kd.int .i64) w (some ⟨b, 0, none⟩) l.length l := Kd.C_of_reads (d := (0 : Int)) (h1 := fun _ => rfl) hRI
 have hIF := indexFunc_calls (some ⟨b, 0, none⟩) cap l g cb eg p w HC (fun W x hx hB => HP W x hx ⟨hB.os, hB.tape, hB.output, hB.size, fun k hk _ => hB.block k hk⟩)
 have HO : Aside0 (w.ownsRow base 3 1 (.slice (some ⟨b, 0, none⟩) l.length cap) l.length (nums .i64 l)) := ⟨hown⟩
 have H : Aside0 (∀ W x, x ∈ l → w.grownBy W (some b) → Calls Try.prog g (#[.int .i64 x] ++ cb) W fun e W' => e = .returned (.bool (p x)) ∧ Below W.heap.size W W') := ⟨HP⟩
 clear hown HP hRI HC
 by_cases hex : l.findIdx p < l.length
 ·have hp0 := List.findIdx_getElem (w := hex)
  have hI0 : Aside0 (DelInv p l (l.findIdx p) (l.findIdx p + 1) l) := ⟨DelInv.start hex hp0 (fun j hj => by simpa using List.not_of_lt_findIdx hj)⟩
  have e1 : idxOf p l = (l.findIdx p : Int) := by unfold idxOf; rw [if_pos hex]
  rw [e1] at hIF
  clear e1 hp0
  have hne1 : (((l.findIdx p : Nat) : Int) == -1) = false := beq_eq_false_iff_ne.2 (by omega)
  generalize l.findIdx p = k0 at hex hI0 hIF hne1
  go_enter Try.func61, Try.ntmps61
  go_wp2_with (go_at_call 67; refine hIF.mono ?_; rintro e w' ⟨rfl, hB0⟩)
  have HB0 : Aside0 (Below w.heap.size w w') := ⟨hB0⟩
  clear hB0 hIF
  go_loopw [5, 6] (fun v5 v6 wr => ∃ (i j : Nat) (d : List Int), v5 = .int .i64 i ∧ v6 = .int .i64 j ∧ j ≤ l.length ∧ i < j ∧ Aside0 (DelInv p l i j d) ∧ Aside0 (wr.ownsRow base 3 1 (.slice (some ⟨b, 0, none⟩) l.length cap) l.length (nums .i64 d)) ∧ Aside0 (w.grownBy wr (some b)))
   (fun _ v _ => l.length - (intOf v).toNat)
  case atStart => exact ⟨k0, k0 + 1, l, rfl, by go_num, by omega, by omega, hI0, ⟨own_move HO.out (fun k hk => HB0.out.block k (by simp [Value.ownBlock] at hk; omega))⟩, ⟨⟨HB0.out.os, HB0.out.tape, HB0.out.output, HB0.out.size, fun k hk _ => HB0.out.block k hk⟩⟩⟩
  case round =>
   obtain ⟨i, j, d, rfl, rfl, hjl, hij, HD, HW, HG⟩ := hrel
   by_cases hlt : j < l.length
   ·have hg := HD.out.get hlt
    have hrd : rd d (j : Int) = l[j] := by simp [rd, List.getD_eq_getElem?_getD, hg]
    have hcj := (own_at HW.out (j : Int) (by omega) (by omega)).1
    have hci := (own_at HW.out (i : Int) (by omega) (by omega)).1
    have hfi := (own_at HW.out (i : Int) (by omega) (by omega)).2
    rw [hrd] at hcj
    simp only [Int.toNat_natCast] at hcj hci hfi
    have hcall := H.out wr l[j] (List.getElem_mem _) HG.out
    have lb : b < wr.heap.size := by have := HG.out.size; omega
    clear hg hrd
    cases hp : p l[j] with
    | true =>
     rw [hp] at hcall
     have HK : Aside0 (DelInv p l i (j + 1) d) := ⟨HD.out.skip hlt hp⟩
     clear hp hci hfi
     go_wp2_with (go_at_fn g; refine hcall.mono ?_; rintro e w2 ⟨rfl, hB1⟩; have HB1 : Aside0 (Below wr.heap.size wr w2) := ⟨hB1⟩; clear hB1)
     go_roundw
     case rel => exact ⟨i, j + 1, d, rfl, by go_num, by omega, by omega, HK, ⟨own_move HW.out (fun k hk => HB1.out.block k (by simp [Value.ownBlock] at hk; omega))⟩, ⟨⟨HB1.out.os.trans HG.out.os, HB1.out.tape.trans HG.out.tape, HB1.out.output.trans HG.out.output, Nat.le_trans HG.out.size HB1.out.size, fun k hk hne => (HB1.out.block k (by have := HG.out.size; omega)).trans (HG.out.block k hk hne)⟩⟩⟩
     case measure => simp [intOf]; omega
    | false =>
     rw [hp] at hcall
     have HK : Aside0 (DelInv p l (i + 1) (j + 1) (d.set i l[j])) := ⟨HD.out.keep hlt hp⟩
     clear hp
     generalize rd d (i : Int) = old at hci
     go_wp2_with (go_at_fn g; refine hcall.mono ?_; rintro e w2 ⟨rfl, hB1⟩; have hci2 := (hB1.cell (p := ⟨b, i, none⟩) lb).trans hci; have hfi2 := (hB1.frozen (p := ⟨b, i, none⟩) lb).trans hfi; have HB1 : Aside0 (Below wr.heap.size wr w2) := ⟨hB1⟩; clear hB1 hci hfi)
     go_roundw
     case rel =>
      have hst := own_store (own_move (w1 := w2) HW.out (fun k hk => HB1.out.block k (by simp [Value.ownBlock] at hk; omega))) (i : Int) l[j]
      simp only [Int.toNat_natCast] at hst
      exact ⟨i + 1, j + 1, _, by go_num, by go_num, by omega, by omega, HK, ⟨hst.1⟩, ⟨⟨hst.2.os.trans (HB1.out.os.trans HG.out.os), hst.2.tape.trans (HB1.out.tape.trans HG.out.tape), hst.2.output.trans (HB1.out.output.trans HG.out.output), Nat.le_trans HG.out.size (Nat.le_trans HB1.out.size hst.2.size), fun k hk hne => (hst.2.block k (by have := HG.out.size; have := HB1.out.size; omega) hne).trans ((HB1.out.block k (by have := HG.out.size; omega)).trans (HG.out.block k hk hne))⟩⟩⟩
     case measure => simp [intOf]; omega
   ·obtain rfl : j = l.length := by omega
    have hcl : ∀ ty, (Builtin.clear_ #[30] ty #[.slice (some ⟨b, i, none⟩) (l.length - i) (cap - i)]).run Try.prog wr = .ok (.tuple #[]) (wr.setCells b i (List.replicate (l.length - i) (.int .i64 0))) :=
     fun ty => Lib.run_clear_slice wr _ _ ty _ Try.underlying30 zero3 rfl rfl b i _ _ (by omega)
      (fun t ht => by have := (own_at HW.out ((i + t : Nat) : Int) (by omega) (by omega)).1; simp only [Int.toNat_natCast] at this; rw [this]; rfl)
      (fun t ht => by have := (own_at HW.out ((i + t : Nat) : Int) (by omega) (by omega)).2; simp only [Int.toNat_natCast] at this; exact this)
    have HF : Aside0 (d.take i = l.filter fun x => !p x) := ⟨by have := HD.out.kept; rwa [List.take_length] at this⟩
    have HL : Aside0 (d.length = l.length) := ⟨HD.out.len⟩
    go_wp2
    go_ret
    have hfl : (l.filter fun x => !p x).length = i := by rw [← HF.out, List.length_take, HL.out]; omega
    refine ⟨_, rfl, ?_, rfl, ?_⟩
    ·rw [hfl]
     obtain ⟨_, h2⟩ := HW.out
     rcases h2 with ⟨h, _⟩ | ⟨g', cap', cur, e, hb0, hh, hc1, hc2, hc3, hc4⟩
     ·cases h
     ·cases e
      obtain ⟨cur', s1, s2, s3⟩ := setCells_row (List.replicate (l.length - i) (.int .i64 0)) i wr cur hh (by simp; omega)
      refine ⟨by simp [nums, hfl], .inr ⟨b, cap, cur', rfl, hb0, s1, by omega, hc2, by rw [s2]; exact hc3, ?_⟩⟩
      rw [s3, ← HF.out, List.append_assoc, Nat.mul_one, List.take_append_of_le_length (by simp; omega), List.take_take]
      have : (cur.toList.take l.length).take i = nums .i64 (d.take i) := by rw [Nat.mul_one] at hc4; rw [hc4]; simp [nums, List.map_take]
      rw [List.take_take] at this
      rw [← this]
      congr 1
      omega
    ·obtain ⟨e1, e2, e3, e4⟩ := setCells_same b (List.replicate (l.length - i) (.int .i64 0)) i wr
     exact ⟨e1.trans HG.out.os, e2.trans HG.out.tape, e3.trans HG.out.output, by rw [e4]; exact HG.out.size, fun k hk hne => (setCells_far _ _ k (fun e => hne (by rw [e]))).trans (HG.out.block k hk hne)⟩
 ·have e1 : idxOf p l = -1 := by unfold idxOf; rw [if_neg hex]
  rw [e1] at hIF
  clear e1
  have HF : Aside0 ((l.filter fun x => !p x) = l) := ⟨List.filter_eq_self.2 (fun x hx => by
   cases hp : p x with
   | false => rfl
   | true => exact absurd (List.findIdx_lt_length_of_exists ⟨x, hx, hp⟩) hex)⟩
  clear hex
  go_enter Try.func61, Try.ntmps61
  go_wp2_with (go_at_call 67; refine hIF.mono ?_; rintro e w' ⟨rfl, hB0⟩)
  go_ret
  refine ⟨_, rfl, ?_, rfl, ⟨hB0.os, hB0.tape, hB0.output, hB0.size, fun k hk _ => hB0.block k hk⟩⟩
  rw [HF.out]
  exact own_move HO.out (fun k hk => hB0.block k (by simp [Value.ownBlock] at hk; omega))
end

section
open Go.Shelf
/-- The first of the elements with the least value. -/
def bestStep {α : Type} (f : α → Int) (acc : Option α) (y : α) : Option α := match acc with
 | none => some y
 | some x => if f y < f x then some y else some x
def bestOf {α : Type} (f : α → Int) (l : List α) : Option α := l.foldl (bestStep f) none
theorem bestOf_snoc {α : Type} (f : α → Int) (l : List α) (y : α) : bestOf f (l ++ [y]) = bestStep f (bestOf f l) y := by simp [bestOf]
theorem bestStep_mem {α : Type} (f : α → Int) : ∀ (l : List α) (acc : Option α) (x : α), l.foldl (bestStep f) acc = some x → x ∈ l ∨ acc = some x
 | [], acc, x, h => .inr h
 | y :: l, acc, x, h => by
  rcases bestStep_mem f l _ x h with h | h
  ·exact .inl (List.mem_cons_of_mem _ h)
  ·cases acc with
   | none => simp only [bestStep] at h; cases h; exact .inl (List.mem_cons_self)
   | some z =>
    simp only [bestStep] at h
    split at h
    ·cases h; exact .inl (List.mem_cons_self)
    ·exact .inr h
theorem bestOf_mem {α : Type} {f : α → Int} {l : List α} {x : α} (h : bestOf f l = some x) : x ∈ l := by
 rcases bestStep_mem f l none x h with h | h
 ·exact h
 ·cases h
theorem take_snoc {α : Type} (l : List α) (k : Nat) (h : k < l.length) : l.take (k + 1) = l.take k ++ [l[k]] := List.take_succ_eq_append_getElem h

set_option maxRecDepth 100000 in
set_option maxHeartbeats 4000000 in
theorem bestInt_calls (A : Option Addr) (c : Nat) (l : List Int) (g : Nat) (cb : Array Value) (eg : ∀ args w, (callFunc g args).run Try.prog w = .ok (.enter g args) w) (f : Int → Int) (w : World) (hr : Kd.C (Kd.int .i64) w A l.length l)
  (HP : ∀ W x, x ∈ l → Below w.heap.size w W → Calls Try.prog g (#[.int .i64 x] ++ cb) W fun e W' => e = .returned (.int .i64 (f x)) ∧ Below W.heap.size W W') :
  Calls Try.prog 63 #[.slice A l.length c, .func (.func g) #[] cb] w fun e W' => e = .returned (.tuple #[.int .i64 ((bestOf f l).getD 0), .bool (bestOf f l).isSome]) ∧ Below w.heap.size w W' := by
 have hlen : l.length ≤ 9223372036854775807 := hr.2.1
 have HR : Aside0 (Kd.C (Kd.int .i64) w A l.length l) := ⟨hr⟩
 have H : Aside0 (∀ W x, x ∈ l → Below w.heap.size w W → Calls Try.prog g (#[.int .i64 x] ++ cb) W fun e W' => e = .returned (.int .i64 (f x)) ∧ Below W.heap.size W W') := ⟨HP⟩
 clear hr HP
 go_enter Try.func63, Try.ntmps63
 go_wp2
 go_loopw [4, 5, 10] (fun v4 v5 v wr => ∃ (k : Nat) (o : Option Int), k ≤ l.length ∧ v = .int .i64 k ∧ v4 = .int .i64 (o.getD 0) ∧ v5 = .bool o.isSome ∧ Aside0 (bestOf f (l.take k) = o) ∧ Aside0 (Below w.heap.size w wr))
  (fun _ _ v _ => l.length - (intOf v).toNat)
 case atStart => exact ⟨0, none, Nat.zero_le _, rfl, rfl, rfl, ⟨rfl⟩, ⟨Below.refl _ _⟩⟩
 case round =>
  obtain ⟨k, o, hk, rfl, rfl, rfl, HO, HB⟩ := hrel
  by_cases hlt : k < l.length
  ·obtain ⟨ad, rfl, hc⟩ := C_int (Kd.C_below HR.out HB.out) k hlt
   have HT : Aside0 (bestOf f (l.take (k + 1)) = bestStep f o l[k]) := ⟨by rw [take_snoc l k hlt, bestOf_snoc, HO.out]⟩
   have HM : Aside0 (l[k] ∈ l) := ⟨List.getElem_mem _⟩
   generalize l[k] = y at hc HT HM
   cases o with
   | none =>
    simp only [Option.getD_none, Option.isSome_none]
    go_wp2
    go_roundw
    case rel => exact ⟨k + 1, some y, by omega, by go_num, rfl, rfl, HT, HB⟩
    case measure => simp [intOf]; omega
   | some x =>
    have HX : Aside0 (x ∈ l) := ⟨List.mem_of_mem_take (bestOf_mem HO.out)⟩
    have cy : ∀ W, Below w.heap.size w W → Calls Try.prog g (#[.int .i64 y] ++ cb) W fun e W' => e = .returned (.int .i64 (f y)) ∧ Below W.heap.size W W' := fun W hB => H.out W y HM.out hB
    have cx : ∀ W, Below w.heap.size w W → Calls Try.prog g (#[.int .i64 x] ++ cb) W fun e W' => e = .returned (.int .i64 (f x)) ∧ Below W.heap.size W W' := fun W hB => H.out W x HX.out hB
    have HFF : Aside0 (bestStep f (some x) y = if f y < f x then some y else some x) := ⟨rfl⟩
    generalize hfy : f y = fy at cy HFF
    generalize hfx : f x = fx at cx HFF
    clear hfy hfx
    simp only [Option.getD_some, Option.isSome_some]
    go_wp2_with fail
    refine (cy _ HB.out).mono ?_
    rintro e w1 ⟨rfl, hB1⟩
    have HB1 : Aside0 (Below w.heap.size w w1) := ⟨HB.out.trans (hB1.mono HB.out.size)⟩
    clear hB1
    go_wp2_with fail
    refine (cx _ HB1.out).mono ?_
    rintro e w2 ⟨rfl, hB2⟩
    have HB2 : Aside0 (Below w.heap.size w w2) := ⟨HB1.out.trans (hB2.mono HB1.out.size)⟩
    clear hB2 cx cy
    by_cases hff : fy < fx
    ·have HT2 : Aside0 (bestOf f (l.take (k + 1)) = some y) := ⟨by rw [HT.out, HFF.out, if_pos hff]⟩
     have hd : decide (fy < fx) = true := by simpa using hff
     clear hff
     go_wp2
     go_roundw
     case rel => exact ⟨k + 1, some y, by omega, by go_num, rfl, rfl, HT2, HB2⟩
     case measure => simp [intOf]; omega
    ·have HT2 : Aside0 (bestOf f (l.take (k + 1)) = some x) := ⟨by rw [HT.out, HFF.out, if_neg hff]⟩
     have hd : decide (fy < fx) = false := by simpa using hff
     clear hff
     go_wp2
     go_roundw
     case rel => exact ⟨k + 1, some x, by omega, by go_num, rfl, rfl, HT2, HB2⟩
     case measure => simp [intOf]; omega
  ·obtain rfl : k = l.length := by omega
   have HT2 : Aside0 (bestOf f l = o) := ⟨by have := HO.out; rwa [List.take_length] at this⟩
   go_wp2
   go_ret2
   exact ⟨by rw [HT2.out]; rfl, HB.out⟩
end

section
open Go.Shelf
theorem cell_on {W1 w' : World} {p : Addr} {v : Value} (hB : Below W1.heap.size W1 w') (h : W1.cell? p = some v) : w'.cell? p = some v := (hB.cell (World.block_lt_of_cell? _ _ h)).trans h
theorem cell_new (w : World) (c : Array Value) (t : TypeId) (j : Nat) : (w.alloc (.cells c t)).cell? ⟨w.heap.size, j, none⟩ = c[j]? := by unfold World.cell?; rw [World.alloc_heap_new]; rfl

/-- The index of state k is k. -/
theorem st_index (L R : Int) (hR0 : 0 ≤ R) (k : Nat) : (stE L R k + L) * (2 * R + 1) + stR R k + R = k := by
 have hw : (2 * R + 1) = ((wid R : Nat) : Int) := by unfold wid; omega
 have h0 := Nat.div_add_mod k (wid R)
 rw [Nat.mul_comm] at h0
 have h1 : (k / wid R) * wid R = k - k % wid R := by omega
 have h2 : ((k / wid R : Nat) : Int) * ((wid R : Nat) : Int) = (((k / wid R) * wid R : Nat) : Int) := by rw [Int.natCast_mul]
 have h3 : stE L R k + L = ((k / wid R : Nat) : Int) := by unfold stE; omega
 rw [h3, hw, h2]
 unfold stR
 generalize (k / wid R) * wid R = m at *
 generalize k % wid R = c at *
 omega

theorem st_bounds (L R : Int) (hL0 : 1 ≤ L) (hR0 : 0 ≤ R) (k : Nat) (hk : k < siz L R) : -L ≤ stE L R k ∧ stE L R k ≤ L ∧ -R ≤ stR R k ∧ stR R k ≤ R := by
 have hw : wid R = (2 * R + 1).toNat := rfl
 have hw0 : 0 < wid R := by omega
 have h1 : k / wid R < (2 * L + 1).toNat := (Nat.div_lt_iff_lt_mul hw0).2 hk
 have h2 : k % wid R < wid R := Nat.mod_lt _ hw0
 unfold stE stR
 generalize k / wid R = a at *
 generalize k % wid R = c at *
 omega

theorem index_calls (L R S N x y : Int) (k : Nat) (hL0 : 0 ≤ L) (hL : L ≤ 40) (hR0 : 0 ≤ R) (hR : R ≤ 12) (hx0 : -1000 ≤ x) (hx : x ≤ 1000) (hy0 : -1000 ≤ y) (hy : y ≤ 1000) (hk : (x + L) * (2 * R + 1) + y + R = k) (w : World) :
  Calls Try.prog 39 #[.agg #[.int .i64 L, .int .i64 R, .int .i64 S, .int .i64 N], .agg #[.int .i64 x, .int .i64 y]] w fun en w' => en = .returned (.int .i64 k) ∧ Below w.heap.size w w' := by
 refine steer_Plan_index.calls L R S N x y k w ?_
 unfold steer_Plan_index.f
 have hb : -26000 ≤ (x + L) * (2 * R + 1) ∧ (x + L) * (2 * R + 1) ≤ 26000 := by
  have a1 : (x + L) * (2 * R + 1) ≤ 1040 * 25 := by
   rcases Int.le_total 0 (x + L) with h | h
   ·exact Int.mul_le_mul (by omega) (by omega) (by omega) (by omega)
   ·have := Int.mul_nonpos_of_nonpos_of_nonneg h (show (0 : Int) ≤ 2 * R + 1 by omega); omega
  have a2 : -(1040 * 25) ≤ (x + L) * (2 * R + 1) := by
   rcases Int.le_total 0 (x + L) with h | h
   ·have := Int.mul_nonneg h (show (0 : Int) ≤ 2 * R + 1 by omega); omega
   ·have := Int.mul_le_mul (show -(x + L) ≤ 1040 by omega) (show 2 * R + 1 ≤ 25 by omega) (by omega) (by omega)
    rw [Int.neg_mul] at this; omega
  omega
 rw [wrap_small (x + L) (by omega) (by omega), wrap_small (2 * R) (by omega) (by omega), wrap_small (2 * R + 1) (by omega) (by omega)]
 generalize hm : (x + L) * (2 * R + 1) = m at *
 rw [wrap_small m (by omega) (by omega), wrap_small (m + y) (by omega) (by omega), wrap_small (m + y + R) (by omega) (by omega), hk]

set_option maxRecDepth 100000 in
set_option maxHeartbeats 8000000 in
theorem safe_calls (L R S N x y : Int) (Bo Bp b base : Nat) (out : List Int) (w : World) (hL0 : 1 ≤ L) (hL : L ≤ 40) (hR0 : 0 ≤ R) (hR : R ≤ 12) (k : Nat) (hk : k < out.length)
  (hx0 : -1000 ≤ x) (hx : x ≤ 1000) (hy0 : -1000 ≤ y) (hy : y ≤ 1000) (hxk : (x + L) * (2 * R + 1) + y + R = k)
  (ho : w.heap[Bo]? = some (.cells #[.slice (some ⟨b, 0, none⟩) out.length out.length] 30 (0, 0))) (hp : w.heap[Bp]? = some (.cells #[.int .i64 L, .int .i64 R, .int .i64 S, .int .i64 N] 24 (0, 0)))
  (hown : w.ownsRow base 3 1 (.slice (some ⟨b, 0, none⟩) out.length out.length) out.length (nums .i64 out)) :
  Calls Try.prog 60 #[.agg #[.int .i64 x, .int .i64 y], .pointer (some ⟨Bo, 0, none⟩), .pointer (some ⟨Bp, 0, none⟩)] w fun e w' => e = .returned (.bool (decide (rd out k < 1000))) ∧ Below w.heap.size w w' := by
 have lo := (Array.getElem?_eq_some_iff.1 ho).1
 have lp := (Array.getElem?_eq_some_iff.1 hp).1
 have hbl : b < w.heap.size := own_lt hown b rfl
 have hci := (own_at hown (k : Int) (by omega) (by omega)).1
 simp only [Int.toNat_natCast] at hci
 have hlen : out.length ≤ 9223372036854775807 := by
  rcases hown.2 with ⟨h, _⟩ | ⟨g, cap', cur, e, _, _, h1, h2, _⟩
  ·cases h
  ·cases e; unfold maxLen at h2; omega
 generalize rd out (k : Int) = v at hci
 clear hown
 have c1 : (w.alloc (.cells #[.int .i64 x, .int .i64 y] 59)).cell? ⟨Bo, 0, none⟩ = some (.slice (some ⟨b, 0, none⟩) out.length out.length) := by simp [World.cell?, al_old ho]
 have p0 : (w.alloc (.cells #[.int .i64 x, .int .i64 y] 59)).cell? ⟨Bp, 0, none⟩ = some (.int .i64 L) := by simp [World.cell?, al_old hp]
 have p1 : (w.alloc (.cells #[.int .i64 x, .int .i64 y] 59)).cell? ⟨Bp, 1, none⟩ = some (.int .i64 R) := by simp [World.cell?, al_old hp]
 have p2 : (w.alloc (.cells #[.int .i64 x, .int .i64 y] 59)).cell? ⟨Bp, 2, none⟩ = some (.int .i64 S) := by simp [World.cell?, al_old hp]
 have p3 : (w.alloc (.cells #[.int .i64 x, .int .i64 y] 59)).cell? ⟨Bp, 3, none⟩ = some (.int .i64 N) := by simp [World.cell?, al_old hp]
 have x0 : (w.alloc (.cells #[.int .i64 x, .int .i64 y] 59)).cell? ⟨w.heap.size, 0, none⟩ = some (.int .i64 x) := cell_new _ _ _ _
 have x1 : (w.alloc (.cells #[.int .i64 x, .int .i64 y] 59)).cell? ⟨w.heap.size, 1, none⟩ = some (.int .i64 y) := cell_new _ _ _ _
 have hv := (Below.refl w.heap.size w).alloc (Nat.le_refl _) (.cells #[.int .i64 x, .int .i64 y] 59)
 have hci' := (hv.cell (p := ⟨b, k, none⟩) hbl).trans hci
 have hi := fun W => index_calls L R S N x y k (by omega) hL hR0 hR hx0 hx hy0 hy hxk W
 clear ho hp hci
 go_enter Try.func60, Try.ntmps60
 go_wp2
 generalize hW1 : (w.alloc (.cells #[.int .i64 x, .int .i64 y] 59)) = W1 at *
 go_region_held3 (fun w' => (w'.cell? ⟨Bo, 0, none⟩ = some (.slice (some ⟨b, 0, none⟩) out.length out.length) ∧ w'.cell? ⟨Bp, 0, none⟩ = some (.int .i64 L) ∧ w'.cell? ⟨Bp, 1, none⟩ = some (.int .i64 R) ∧ w'.cell? ⟨Bp, 2, none⟩ = some (.int .i64 S) ∧ w'.cell? ⟨Bp, 3, none⟩ = some (.int .i64 N) ∧
  w'.cell? ⟨w.heap.size, 0, none⟩ = some (.int .i64 x) ∧ w'.cell? ⟨w.heap.size, 1, none⟩ = some (.int .i64 y) ∧ w'.cell? ⟨b, k, none⟩ = some (.int .i64 v)) ∧ Below W1.heap.size W1 w') (first | exact ⟨⟨c1, p0, p1, p2, p3, x0, x1, hci'⟩, (Below.refl _ _).drew⟩ | exact ⟨⟨cell_on hB c1, cell_on hB p0, cell_on hB p1, cell_on hB p2, cell_on hB p3, cell_on hB x0, cell_on hB x1, cell_on hB hci'⟩, (Below.refl _ _).drew.trans hB⟩)
  (first | (go_at_call 39; refine (hi _).mono ?_; rintro e w' ⟨rfl, hB⟩))
 rename_i hHeld
 have hBB := hHeld.2
 clear hHeld
 go_wp2
 go_ret
 exact ⟨rfl, hv.trans (hBB.mono hv.size)⟩
end

section
open Go.Shelf
/-- The new rates that are allowed after a rate. -/
def ratesL (R S r : Int) : List Int := (List.range (mn (r + S) R - mx (r - S) (-R) + 1).toNat).map fun k : Nat => mx (r - S) (-R) + (k : Int)

theorem rates_l0 (L R S N e r : Int) (hR0 : 0 ≤ R) (hR : R ≤ 12) (hS0 : 1 ≤ S) (hS : S ≤ 24) (hr0 : -R ≤ r) (hr : r ≤ R) (d : Nat) : ∀ (k : Nat) (acc : List Int) (x : Int), -100 ≤ x → x ≤ 100 → (mn (r + S) R - x + 1).toNat = d → d < k → acc.length + d ≤ 1000 →
  steer_Plan_rates.l0 k acc x L R S N e r = some (acc ++ (List.range d).map fun j : Nat => x + (j : Int)) := by
 have hmn : mn (wrap64 (r + S)) R = mn (r + S) R := by rw [wrap_small _ (by omega) (by omega)]
 have hb : -100 ≤ mn (r + S) R ∧ mn (r + S) R ≤ 12 := by unfold mn; split <;> omega
 induction d with
 | zero =>
  intro k acc x h0 h1 hd hk hl
  obtain ⟨k, rfl⟩ : ∃ m, k = m + 1 := ⟨k - 1, by omega⟩
  simp only [steer_Plan_rates.l0]
  rw [hmn, if_neg (by omega)]
  simp
 | succ d ih =>
  intro k acc x h0 h1 hd hk hl
  obtain ⟨k, rfl⟩ : ∃ m, k = m + 1 := ⟨k - 1, by omega⟩
  simp only [steer_Plan_rates.l0]
  rw [hmn, if_pos (by omega), if_pos (by omega), wrap_small _ (by omega) (by omega)]
  rw [ih k (acc ++ [x]) (x + 1) (by omega) (by omega) (by omega) (by omega) (by simp; omega)]
  rw [List.range_succ_eq_map, List.map_cons, List.map_map, List.append_assoc]
  congr 2
  simp only [Int.natCast_zero, Int.add_zero, List.singleton_append, List.cons.injEq, true_and]
  apply List.map_congr_left
  intro j _
  simp only [Function.comp]
  push_cast
  omega

theorem rates_f (L R S N e r : Int) (hR0 : 0 ≤ R) (hR : R ≤ 12) (hS0 : 1 ≤ S) (hS : S ≤ 24) (hr0 : -R ≤ r) (hr : r ≤ R) : steer_Plan_rates.f 200 L R S N e r = some (ratesL R S r) := by
 unfold steer_Plan_rates.f ratesL
 have hmx : mx (wrap64 (r - S)) (wrap64 (-R)) = mx (r - S) (-R) := by rw [wrap_small _ (by omega) (by omega), wrap_small _ (by omega) (by omega)]
 have hb1 : -12 ≤ mx (r - S) (-R) ∧ mx (r - S) (-R) ≤ 12 := by unfold mx; split <;> omega
 have hb2 : -100 ≤ mn (r + S) R ∧ mn (r + S) R ≤ 12 := by unfold mn; split <;> omega
 rw [hmx, rates_l0 L R S N e r hR0 hR hS0 hS hr0 hr (mn (r + S) R - mx (r - S) (-R) + 1).toNat 200 [] _ (by omega) (by omega) rfl (by omega) (by simp; omega)]
 rfl

theorem rates_mem {R S r q : Int} (h : q ∈ ratesL R S r) : -R ≤ q ∧ q ≤ R ∧ q ≤ r + S ∧ r - S ≤ q := by
 unfold ratesL at h
 rw [List.mem_map] at h
 obtain ⟨k, hk, rfl⟩ := h
 rw [List.mem_range] at hk
 have h1 : r - S ≤ mx (r - S) (-R) ∧ -R ≤ mx (r - S) (-R) := by unfold mx; split <;> omega
 have h2 : mn (r + S) R ≤ r + S ∧ mn (r + S) R ≤ R := by unfold mn; split <;> omega
 omega

theorem rates_of {R S r q : Int} (h1 : -R ≤ q) (h2 : q ≤ R) (h3 : q ≤ r + S) (h4 : r - S ≤ q) : q ∈ ratesL R S r := by
 unfold ratesL
 rw [List.mem_map]
 have hm : mx (r - S) (-R) ≤ q := by unfold mx; split <;> omega
 have hM : q ≤ mn (r + S) R := by unfold mn; split <;> omega
 exact ⟨(q - mx (r - S) (-R)).toNat, by rw [List.mem_range]; omega, by omega⟩

set_option maxRecDepth 100000 in
set_option maxHeartbeats 4000000 in
/-- The closure that says which new rates fall away. -/
theorem drop_calls (L R S N e r q : Int) (Bp Bx Bs : Nat) (g : Nat) (cb : Array Value) (eg : ∀ args w, (callFunc g args).run Try.prog w = .ok (.enter g args) w) (good : Int → Int → Bool) (w : World)
  (hL0 : 1 ≤ L) (hL : L ≤ 40) (hR0 : 0 ≤ R) (hR : R ≤ 12) (hN0 : 0 ≤ N) (hN : N ≤ 12) (he0 : -1000 ≤ e) (he : e ≤ 1000) (hq0 : -1000 ≤ q) (hq : q ≤ 1000) (HG : GoodFn g cb L R good w)
  (hp : w.heap[Bp]? = some (.cells #[.int .i64 L, .int .i64 R, .int .i64 S, .int .i64 N] 24 (0, 0))) (hx : w.heap[Bx]? = some (.cells #[.int .i64 e, .int .i64 r] 59 (0, 0)))
  (hs : w.heap[Bs]? = some (.cells #[.func (.func g) #[] cb] 86 (0, 0))) :
  Calls Try.prog 62 #[.int .i64 q, .pointer (some ⟨Bp, 0, none⟩), .pointer (some ⟨Bx, 0, none⟩), .pointer (some ⟨Bs, 0, none⟩)] w fun en w' => en = .returned (.bool (!holdsB L R N e q good)) ∧ Below w.heap.size w w' := by
 have hh := holds_calls L R S N e r q g cb eg good w hL0 hL hR0 hR hN0 hN he0 he hq0 hq HG
 have p0 : w.cell? ⟨Bp, 0, none⟩ = some (.int .i64 L) := by simp [World.cell?, hp]
 have p1 : w.cell? ⟨Bp, 1, none⟩ = some (.int .i64 R) := by simp [World.cell?, hp]
 have p2 : w.cell? ⟨Bp, 2, none⟩ = some (.int .i64 S) := by simp [World.cell?, hp]
 have p3 : w.cell? ⟨Bp, 3, none⟩ = some (.int .i64 N) := by simp [World.cell?, hp]
 have x0 : w.cell? ⟨Bx, 0, none⟩ = some (.int .i64 e) := by simp [World.cell?, hx]
 have x1 : w.cell? ⟨Bx, 1, none⟩ = some (.int .i64 r) := by simp [World.cell?, hx]
 have s0 : w.cell? ⟨Bs, 0, none⟩ = some (.func (.func g) #[] cb) := by simp [World.cell?, hs]
 clear HG hp hx hs
 generalize holdsB L R N e q good = b at hh
 go_enter Try.func62, Try.ntmps62
 go_wp2_with (go_at_call 47; refine hh.mono ?_; rintro en w' ⟨rfl, hB⟩)
 go_ret
 exact ⟨rfl, hB⟩

/-- What the nearness of a rate is. -/
def nearF (q : Int) : Int := mx (wrap64 (2 * q)) (wrap64 ((wrap64 ((-2) * q)) - 1))
end

end Go.Proofs.Ytcaekmalkbaldaa.M
