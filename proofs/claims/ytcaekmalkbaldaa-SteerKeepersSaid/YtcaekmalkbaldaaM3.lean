-- Written by a program of this session (over the kit's print) out of the translation; the parts that it does not tell are this session's own.
import Derived.Test.YtcaekmalkbaldaaM0
import Derived.Test.YtcaekmalkbaldaaM2
namespace Go.Proofs.Ytcaekmalkbaldaa.M
open Go.RowKit Go.Proofs.YtcaekmalkbaldaaW.PrintWords Go.Proofs.YtcaekmalkbaldaaW.PrintLast Go.Proofs.YtcaekmalkbaldaaW.PrintMore
attribute [local go_sem] max2_int min2_int max_two min_two max_three min_three max_four min_four   -- for this text's walks alone
set_option linter.unusedVariables false
set_option linter.unusedSimpArgs false

section
open Go.Shelf
attribute [local go_sem] Oper.semAt_some
theorem states_calls (L R S N : Int) (w : World) :
  Calls Try.prog 44 #[.agg #[.int .i64 L, .int .i64 R, .int .i64 S, .int .i64 N]] w fun e w' =>
   e = .returned (.func (.func 65) #[] #[.pointer (some ⟨w.heap.size, 0, none⟩)]) ∧ w' = w.alloc (.cells #[.int .i64 L, .int .i64 R, .int .i64 S, .int .i64 N] 24) := by
 go_enter Try.func44, Try.ntmps44
 go_wp2
 go_ret
 exact ⟨rfl, rfl⟩

theorem after_calls (L R S N e r q : Int) (w : World) :
  Calls Try.prog 53 #[.agg #[.int .i64 L, .int .i64 R, .int .i64 S, .int .i64 N], .agg #[.int .i64 e, .int .i64 r], .int .i64 q] w fun en w' =>
   en = .returned (.func (.func 68) #[] #[.pointer (some ⟨w.heap.size, 0, none⟩), .pointer (some ⟨w.heap.size + 1, 0, none⟩), .pointer (some ⟨w.heap.size + 2, 0, none⟩)]) ∧
   w' = ((w.alloc (.cells #[.int .i64 L, .int .i64 R, .int .i64 S, .int .i64 N] 24)).alloc (.cells #[.int .i64 e, .int .i64 r] 59)).alloc (.cells #[.int .i64 q] 3) := by
 go_enter Try.func53, Try.ntmps53
 go_wp2
 go_ret
 exact ⟨rfl, rfl⟩

/-- What stands in blocks of cells abides what a range's book-keeping does. -/
theorem blk_own {β : Type} (B : Nat) (g : β → Nat) (c : β → Array Value) (t : TypeId) (fr : Nat × Nat) : OwnFrom B (fun s W => W.heap[g s]? = some (.cells (c s) t fr)) :=
 fun _ _ _ _ h hg hr => (grownBy_keeps_cells hg (fun r e => (hr r e).2) h rfl).trans h

theorem al_new (w : World) (o : Obj) (k : Nat) (h : k = w.heap.size) : (w.alloc o).heap[k]? = some o := by rw [h]; exact World.alloc_heap_new w o
theorem al_old {w : World} {o o' : Obj} {k : Nat} (h : w.heap[k]? = some o) : (w.alloc o').heap[k]? = some o := (Below.heap_alloc w o' k (Array.getElem?_eq_some_iff.1 h).1).trans h

theorem keeps_of_below {W W' : World} (h : Below W.heap.size W W') : KeepsOthers W W' := ⟨h.size, fun k _ hk _ => (h.block k (Array.getElem?_eq_some_iff.1 hk).1).trans hk⟩

theorem res_bool {fn : Func} {p : Tmp} (h : fn.results = #[.cell p 4]) (tmps : Array Value) (w : World) (g : Nat) (b : Bool)
  (hp : tmps.getD p undef = .pointer (some ⟨g, 0, none⟩)) (hc : w.cell? ⟨g, 0, none⟩ = some (.bool b)) : (results fn tmps).run Try.prog w = .ok (.bool b) w := by
 have hp' : tmps[p]?.getD undef = .pointer (some ⟨g, 0, none⟩) := by simpa using hp
 have hl : (loadVar 4 ⟨g, 0, none⟩).run Try.prog w = .ok (.bool b) w := by go_simp
 simp [results, h, hp', asAddr, hl]

/-- Some blocks stay as they are. -/
def SameAt (bs : List Nat) (W W' : World) : Prop := ∀ b, b ∈ bs → W'.heap[b]? = W.heap[b]?
theorem SameAt.t {bs : List Nat} {A B C : World} (h : SameAt bs A B) (k : SameAt bs B C) : SameAt bs A C := fun b hb => (k b hb).trans (h b hb)
theorem SameAt.b {bs : List Nat} {n : Nat} (hb : ∀ b, b ∈ bs → b < n) : ∀ (W : World) (l : Nat) (o o' : Obj), n ≤ l → W.heap[l]? = some o → o.isCells = false → o.isWalk = false → SameAt bs W (W.putObj l o') :=
 fun W l o o' hl _ _ _ b hm => World.putObj_heap_other (by have := hb b hm; omega)

/-- An element of 'after': the disturbance, and the state that follows. -/
abbrev afterEnc (N e q : Int) (k : Nat) : Array Value := #[.int .i64 (-N + k), .agg #[.int .i64 (e + q + (-N + k)), .int .i64 q]]

set_option maxRecDepth 100000 in
set_option maxHeartbeats 2000000 in
theorem after_stops (n : Nat) (hn : 1 ≤ n) (L R S N e r q : Int) (B0 B1 B2 : Nat) (w : World) (h0 : w.heap[B0]? = some (.cells #[.int .i64 L, .int .i64 R, .int .i64 S, .int .i64 N] 24 (0, 0)))
  (h1 : w.heap[B1]? = some (.cells #[.int .i64 e, .int .i64 r] 59 (0, 0))) (h2 : w.heap[B2]? = some (.cells #[.int .i64 q] 3 (0, 0)))
  (hN0 : 0 ≤ N) (hN : N ≤ 12) (he0 : -1000 ≤ e) (he : e ≤ 1000) (hq0 : -1000 ≤ q) (hq : q ≤ 1000) :
  SeqStopsK Fence.wide n Try.prog 68 #[.pointer (some ⟨B0, 0, none⟩), .pointer (some ⟨B1, 0, none⟩), .pointer (some ⟨B2, 0, none⟩)] (fun k : Nat => afterEnc N e q k) (SameAt [B0, B1, B2])
   (fun xs => xs = List.range (2 * N + 1).toNat) (fun pre => ∃ k, k ≤ (2 * N + 1).toNat ∧ pre = List.range k) (2 * N + 1).toNat w := fun l J Jx W hW _ _ hY hJ0 => by
 have lt0 : B0 < w.heap.size := (Array.getElem?_eq_some_iff.1 h0).1
 have lt1 : B1 < w.heap.size := (Array.getElem?_eq_some_iff.1 h1).1
 have lt2 : B2 < w.heap.size := (Array.getElem?_eq_some_iff.1 h2).1
 have G0 := (hW.block B0 lt0).trans h0
 have G1 := (hW.block B1 lt1).trans h1
 have G2 := (hW.block B2 lt2).trans h2
 clear h0 h1 h2 hW
 refine callsIn_of_wp Try.func68 rfl trivial ?_ rfl
 simp only [Try.ntmps68, List.size_toArray, List.length_cons, List.length_nil, Nat.reduceAdd, Nat.reduceSub, Array.replicate_succ, Array.replicate_zero, List.push_toArray, List.append_toArray, List.nil_append, List.cons_append]
 have c3 : W.cell? ⟨B0, 3, none⟩ = some (.int .i64 N) := by simp [World.cell?, G0]
 gi_wp2
 gi_loopw [5] (fun v wr => ∃ k : Nat, k ≤ (2 * N + 1).toNat ∧ v = .int .i64 (-N + k) ∧ J (List.range k) wr ∧ Hid (SameAt [B0, B1, B2] W wr))
  (fun v _ => ((2 * N + 1) - (intOf v + N)).toNat)
 case atStart => exact ⟨0, Nat.zero_le _, by simp, hJ0, fun _ _ => rfl⟩
 case round =>
  obtain ⟨k, hk, rfl, hJs, HS⟩ := hrel
  have c3' : wr.cell? ⟨B0, 3, none⟩ = some (.int .i64 N) := by simp [World.cell?, HS.out B0 (by simp), G0]
  have c1' : wr.cell? ⟨B1, 0, none⟩ = some (.int .i64 e) := by simp [World.cell?, HS.out B1 (by simp), G1]
  have c2' : wr.cell? ⟨B2, 0, none⟩ = some (.int .i64 q) := by simp [World.cell?, HS.out B2 (by simp), G2]
  clear c3
  by_cases hlt : k < (2 * N + 1).toNat
  ·have hle : -N + (k : Int) ≤ N := by omega
   obtain ⟨fn, tmps, assign, body, hy, hR⟩ := hY _ k wr hJs (by simpa using hlt)
   simp only [afterEnc] at hy
   gi_wp2
   refine hR.mono ?_
   rintro en W3 (⟨rfl, hJ3, hk3⟩ | ⟨rfl, hJx3⟩)
   ·have HS3 : Hid (SameAt [B0, B1, B2] W W3) := HS.out.t hk3
    clear HS hk3
    gi_wp2
    go_roundw
    case rel => exact ⟨k + 1, by omega, by congr 1; push_cast; omega, by rw [List.range_succ]; exact hJ3, HS3⟩
    case measure => simp [intOf]; omega
   ·gi_wp2
    refine bodyPost_ret (results_none rfl _ _ _) rfl ?_
    exact ⟨⟨_, rfl⟩, .inr ⟨_, ⟨k + 1, by omega, (List.range_succ).symm⟩, hJx3⟩⟩
  ·have hgt : ¬ (-N + (k : Int) ≤ N) := by omega
   gi_wp2
   go_end0
   exact ⟨⟨_, rfl⟩, .inl (by rw [show (2 * N + 1).toNat = k by omega]; exact hJs)⟩


/-- 'p.is': a state of the plan. -/
def isB (L R x y : Int) : Bool := decide (-L ≤ x) && decide (x ≤ L) && decide (-R ≤ y) && decide (y ≤ R)

theorem wrap_small (x : Int) (h0 : -1000000000000 ≤ x) (h1 : x ≤ 1000000000000) : wrap64 x = x := by unfold wrap64; omega

theorem is_calls (L R S N x y : Int) (hL0 : -1000 ≤ L) (hL : L ≤ 1000) (hR0 : -1000 ≤ R) (hR : R ≤ 1000) (w : World) :
  Calls Try.prog 38 #[.agg #[.int .i64 L, .int .i64 R, .int .i64 S, .int .i64 N], .agg #[.int .i64 x, .int .i64 y]] w fun en w' => en = .returned (.bool (isB L R x y)) ∧ Below w.heap.size w w' := by
 refine steer_Plan_is.calls L R S N x y (isB L R x y) w ?_
 unfold steer_Plan_is.f steer_in.f isB
 rw [wrap_small (-L) (by omega) (by omega), wrap_small (-R) (by omega) (by omega)]
 by_cases h1 : -L ≤ x <;> by_cases h2 : x ≤ L <;> by_cases h3 : -R ≤ y <;> by_cases h4 : y ≤ R <;> simp [h1, h2, h3, h4]

/-- A function value that tells a state. -/
def GoodFn (g : Nat) (cb : Array Value) (L R : Int) (good : Int → Int → Bool) (w : World) : Prop :=
 ∀ W x y, Below w.heap.size w W → isB L R x y = true → Calls Try.prog g (#[.agg #[.int .i64 x, .int .i64 y]] ++ cb) W fun en W' => en = .returned (.bool (good x y)) ∧ Below W.heap.size W W'

/-- 'p.holds': all states that follow fulfil something. -/
def okB (L R N e q : Int) (good : Int → Int → Bool) (k : Nat) : Bool := isB L R (e + q + (-N + k)) q && good (e + q + (-N + k)) q
def holdsB (L R N e q : Int) (good : Int → Int → Bool) : Bool := (List.range (2 * N + 1).toNat).all (okB L R N e q good)

set_option maxRecDepth 100000 in
set_option maxHeartbeats 4000000 in
theorem holds_calls (L R S N e r q : Int) (g : Nat) (cb : Array Value) (eg : ∀ args w, (callFunc g args).run Try.prog w = .ok (.enter g args) w) (good : Int → Int → Bool) (w : World)
  (hL0 : 1 ≤ L) (hL : L ≤ 40) (hR0 : 0 ≤ R) (hR : R ≤ 12) (hN0 : 0 ≤ N) (hN : N ≤ 12) (he0 : -1000 ≤ e) (he : e ≤ 1000) (hq0 : -1000 ≤ q) (hq : q ≤ 1000) (HG : GoodFn g cb L R good w) :
  Calls Try.prog 47 #[.agg #[.int .i64 L, .int .i64 R, .int .i64 S, .int .i64 N], .agg #[.int .i64 e, .int .i64 r], .int .i64 q, .func (.func g) #[] cb] w fun en w' => en = .returned (.bool (holdsB L R N e q good)) ∧ Below w.heap.size w w' := by
 refine (callsIn_wide (n := 9)).1 ?_
 refine callsIn_of_wp_marks Try.func47 rfl trivial ?_ rfl
 simp only [Try.ntmps47, List.size_toArray, List.length_cons, List.length_nil, Nat.reduceAdd, Nat.reduceSub, Array.replicate_succ, Array.replicate_zero, List.push_toArray, List.append_toArray, List.nil_append, List.cons_append]
 have a53 : ∀ W, CallsIn Fence.wide (9 - 1) Try.prog 53 #[.agg #[.int .i64 L, .int .i64 R, .int .i64 S, .int .i64 N], .agg #[.int .i64 e, .int .i64 r], .int .i64 q] W _ := fun W => callsIn_wide.2 (after_calls L R S N e r q W)
 have f53 : Fence.wide.fn 53 := trivial
 gi_wp2_with (gi_at_call 53; refine (a53 _).mono ?_; rintro e w' ⟨rfl, rfl⟩)
 clear a53 f53
 obtain ⟨W0, hW0⟩ : ∃ W0, (((((((w.alloc (.cells #[.int .i64 L, .int .i64 R, .int .i64 S, .int .i64 N] 24)).alloc (.cells #[.int .i64 e, .int .i64 r] 59)).alloc (.cells #[.func (.func g) #[] cb] 86)).alloc (.cells #[.bool false] 4)).alloc
  (.cells #[.int .i64 L, .int .i64 R, .int .i64 S, .int .i64 N] 24)).alloc (.cells #[.int .i64 e, .int .i64 r] 59)).alloc (.cells #[.int .i64 q] 3)) = W0 := ⟨_, rfl⟩
 rw [hW0]
 have hsz : W0.heap.size = w.heap.size + 7 := by rw [← hW0]; simp
 have k0 : W0.heap[w.heap.size]? = some (.cells #[.int .i64 L, .int .i64 R, .int .i64 S, .int .i64 N] 24 (0, 0)) := by rw [← hW0]; repeat (first | (refine al_new _ _ _ ?_; simp; done) | refine al_old ?_)
 have k2 : W0.heap[w.heap.size + 1 + 1]? = some (.cells #[.func (.func g) #[] cb] 86 (0, 0)) := by rw [← hW0]; repeat (first | (refine al_new _ _ _ ?_; simp; done) | refine al_old ?_)
 have k3 : W0.heap[w.heap.size + 1 + 1 + 1]? = some (.cells #[.bool false] 4 (0, 0)) := by rw [← hW0]; repeat (first | (refine al_new _ _ _ ?_; simp; done) | refine al_old ?_)
 have k4 : W0.heap[w.heap.size + 1 + 1 + 1 + 1]? = some (.cells #[.int .i64 L, .int .i64 R, .int .i64 S, .int .i64 N] 24 (0, 0)) := by rw [← hW0]; repeat (first | (refine al_new _ _ _ ?_; simp; done) | refine al_old ?_)
 have k5 : W0.heap[w.heap.size + 1 + 1 + 1 + 1 + 1]? = some (.cells #[.int .i64 e, .int .i64 r] 59 (0, 0)) := by rw [← hW0]; repeat (first | (refine al_new _ _ _ ?_; simp; done) | refine al_old ?_)
 have k6 : W0.heap[w.heap.size + 1 + 1 + 1 + 1 + 2]? = some (.cells #[.int .i64 q] 3 (0, 0)) := by rw [← hW0]; repeat (first | (refine al_new _ _ _ ?_; simp; done) | refine al_old ?_)
 have hB0 : Below w.heap.size w W0 := by
  rw [← hW0]
  repeat (refine Below.alloc ?_ (by simp; try omega) _)
  exact Below.refl _ _
 clear hW0
 refine wpIn_rangeFunc_ownH rfl (by decide) (gf := 68) (lb := #[.pointer (some ⟨w.heap.size + 1 + 1 + 1 + 1, 0, none⟩), .pointer (some ⟨w.heap.size + 1 + 1 + 1 + 1 + 1, 0, none⟩), .pointer (some ⟨w.heap.size + 1 + 1 + 1 + 1 + 2, 0, none⟩)]) rfl trivial (enters_of Try.func68 (by kernel_rfl) rfl)
  (after_stops (9 - 1) (by decide) L R S N e r q _ _ _ W0 k4 k5 k6 hN0 hN he0 he hq0 hq) SameAt.t (SameAt.b (by simp; omega)) (Below.refl _ _) (fun _ => rfl)
  (fun pre W => (pre.all (okB L R N e q good) = true) ∧ Below W0.heap.size W0 W)
  (fun c pre W => (c = .ret ∧ pre.all (okB L R N e q good) = false) ∧ W.heap[w.heap.size + 1 + 1 + 1]? = some (.cells #[.bool false] 4 (0, 0)) ∧ Below w.heap.size w W)
  (OwnFrom.and (ownFrom_pure _ _) (ownFrom_below (Nat.le_refl _) (Nat.le_refl _)))
  (fun c => OwnFrom.and (ownFrom_pure _ _) (OwnFrom.and (blk_own _ (fun _ => _) (fun _ => _) _ _) (ownFrom_below (Nat.le_refl _) (by omega))))
  ⟨rfl, Below.refl _ _⟩
  (fun x a' W => ∃ Bx, W0.heap.size ≤ Bx ∧ W.heap[Bx]? = some (.cells #[.int .i64 (e + q + (-N + x)), .int .i64 q] 59 (0, 0)) ∧ a' = { tmps :=
    #[.agg #[.int .i64 L, .int .i64 R, .int .i64 S, .int .i64 N], .agg #[.int .i64 e, .int .i64 r], .int .i64 q, .func (.func g) #[] cb, .pointer (some ⟨w.heap.size, 0, none⟩), .pointer (some ⟨w.heap.size + 1, 0, none⟩), undef,
     .pointer (some ⟨w.heap.size + 1 + 1, 0, none⟩), .pointer (some ⟨w.heap.size + 1 + 1 + 1, 0, none⟩), undef, .pointer (some ⟨Bx, 0, none⟩), .agg #[.int .i64 L, .int .i64 R, .int .i64 S, .int .i64 N], .agg #[.int .i64 e, .int .i64 r], .int .i64 q,
     .func (.func 68) #[] #[.pointer (some ⟨w.heap.size + 1 + 1 + 1 + 1, 0, none⟩), .pointer (some ⟨w.heap.size + 1 + 1 + 1 + 1 + 1, 0, none⟩), .pointer (some ⟨w.heap.size + 1 + 1 + 1 + 1 + 2, 0, none⟩)],
     .int .i64 (-N + x), .agg #[.int .i64 (e + q + (-N + x)), .int .i64 q], undef, undef, undef, undef, undef, undef, undef, undef, undef, undef], defers := [] })
  (fun x a' _ X Y row hs hg hr => by obtain ⟨Bx, h1, h2, h3⟩ := hs; exact ⟨Bx, h1, (grownBy_keeps_cells hg (fun r e => (hr r e).2) h2 rfl).trans h2, h3⟩)
  ?assign ?body ?done ?stop
 case assign =>
  rintro l pre x W K ⟨hall, hB⟩ hK
  gi_wp2
  exact hK _ _ ((KeepsOthers.alloc _ _).from _) (fun b hb => Below.heap_alloc _ _ _ (by have := hB.size; simp at hb; omega)) ⟨hall, hB.alloc hB.size _⟩ ⟨W.heap.size, hB.size, al_new _ _ _ rfl, rfl⟩
 case body =>
  rintro l pre x a' W hl ⟨r', hr'⟩ ⟨hall, hB⟩ ⟨Bx, hBx, hX, rfl⟩ hlt
  have K0 := (hB.block _ (by omega)).trans k0
  have K2 := (hB.block _ (by omega)).trans k2
  have K3 := (hB.block _ (by omega)).trans k3
  have c0 : ∀ j, W.cell? ⟨w.heap.size, j, none⟩ = (#[.int .i64 L, .int .i64 R, .int .i64 S, .int .i64 N] : Array Value)[j]? := fun j => by simp [World.cell?, K0]
  have cG : W.cell? ⟨w.heap.size + 1 + 1, 0, none⟩ = some (.func (.func g) #[] cb) := by simp [World.cell?, K2]
  have cX0 : W.cell? ⟨Bx, 0, none⟩ = some (.int .i64 (e + q + (-N + x))) := by simp [World.cell?, hX]
  have cX1 : W.cell? ⟨Bx, 1, none⟩ = some (.int .i64 q) := by simp [World.cell?, hX]
  have c00 := c0 0
  have c01 := c0 1
  have c02 := c0 2
  have c03 := c0 3
  simp at c00 c01 c02 c03
  clear c0
  have f38 : Fence.wide.fn 38 := trivial
  have ltG := (Array.getElem?_eq_some_iff.1 K2).1
  have ltX := (Array.getElem?_eq_some_iff.1 hX).1
  have lt3 := (Array.getElem?_eq_some_iff.1 K3).1
  have hWW : ∀ W1, Below W.heap.size W W1 → Below w.heap.size w W1 := fun W1 hB1 => (hB0.trans (hB.mono (by omega))).trans (hB1.mono (by have := hB.size; omega))
  cases hI : isB L R (e + q + (-N + x)) q with
  | false =>
   have i38 : ∀ W', CallsIn Fence.wide (9 - 1 - 1 - 1) Try.prog 38 #[.agg #[.int .i64 L, .int .i64 R, .int .i64 S, .int .i64 N], .agg #[.int .i64 (e + q + (-N + x)), .int .i64 q]] W' (fun en w' => en = .returned (.bool false) ∧ Below W'.heap.size W' w') := fun W' => callsIn_wide.2 (hI ▸ is_calls L R S N (e + q + (-N + x)) q (by omega) (by omega) (by omega) (by omega) W')
   gi_wp2_with (gi_at_call 38; refine (CallsIn.inRound l (i38 _)).mono ?_; rintro en W1 ⟨rfl, hB1⟩; have c31 : W1.cell? ⟨w.heap.size + 1 + 1 + 1, 0, none⟩ = some (.bool false) := (hB1.cell (p := ⟨w.heap.size + 1 + 1 + 1, 0, none⟩) lt3).trans (by simp [World.cell?, K3]); have c31f : W1.frozen? ⟨w.heap.size + 1 + 1 + 1, 0, none⟩ = false := (hB1.frozen (p := ⟨w.heap.size + 1 + 1 + 1, 0, none⟩) lt3).trans (by simp [World.frozen?, K3]))
   refine ⟨fun _ h => (by cases h), ?_⟩
   gi_wp2
   exact ⟨((keeps_of_below hB1).trans (KeepsOthers.setCell _ _ _)).from _, ⟨rfl, by simp [okB, hI]⟩, Boxed.set _ ((hB1.block _ lt3).trans K3), Below.setCell (hWW W1 hB1) (p := ⟨w.heap.size + 1 + 1 + 1, 0, none⟩) (by simp; omega) _⟩
  | true =>
   have i38 : ∀ W', CallsIn Fence.wide (9 - 1 - 1 - 1) Try.prog 38 #[.agg #[.int .i64 L, .int .i64 R, .int .i64 S, .int .i64 N], .agg #[.int .i64 (e + q + (-N + x)), .int .i64 q]] W' (fun en w' => en = .returned (.bool true) ∧ Below W'.heap.size W' w') := fun W' => callsIn_wide.2 (hI ▸ is_calls L R S N (e + q + (-N + x)) q (by omega) (by omega) (by omega) (by omega) W')
   gi_wp2_with (gi_at_call 38; refine (CallsIn.inRound l (i38 _)).mono ?_; rintro en W1 ⟨rfl, hB1⟩; have cG1 := (hB1.cell (p := ⟨w.heap.size + 1 + 1, 0, none⟩) ltG).trans cG; have cX01 := (hB1.cell (p := ⟨Bx, 0, none⟩) ltX).trans cX0; have cX11 := (hB1.cell (p := ⟨Bx, 1, none⟩) ltX).trans cX1)
   refine ⟨trivial, ?_⟩
   cases hg : good (e + q + (-N + x)) q with
   | false =>
    refine (CallsIn.inRound l (callsIn_wide.2 (hg ▸ HG W1 (e + q + (-N + x)) q (hWW W1 hB1) hI))).mono ?_
    rintro en W2 ⟨rfl, hB2⟩
    have hB12 : Below W.heap.size W W2 := hB1.trans (hB2.mono hB1.size)
    have c31 : W2.cell? ⟨w.heap.size + 1 + 1 + 1, 0, none⟩ = some (.bool false) := (hB12.cell (p := ⟨w.heap.size + 1 + 1 + 1, 0, none⟩) lt3).trans (by simp [World.cell?, K3])
    have c31f : W2.frozen? ⟨w.heap.size + 1 + 1 + 1, 0, none⟩ = false := (hB12.frozen (p := ⟨w.heap.size + 1 + 1 + 1, 0, none⟩) lt3).trans (by simp [World.frozen?, K3])
    gi_wp2
    exact ⟨((keeps_of_below hB12).trans (KeepsOthers.setCell _ _ _)).from _, ⟨rfl, by simp [okB, hI, hg]⟩, Boxed.set _ ((hB12.block _ lt3).trans K3), Below.setCell (hWW W2 hB12) (p := ⟨w.heap.size + 1 + 1 + 1, 0, none⟩) (by simp; omega) _⟩
   | true =>
    refine (CallsIn.inRound l (callsIn_wide.2 (hg ▸ HG W1 (e + q + (-N + x)) q (hWW W1 hB1) hI))).mono ?_
    rintro en W2 ⟨rfl, hB2⟩
    have hB12 : Below W.heap.size W W2 := hB1.trans (hB2.mono hB1.size)
    gi_wp2
    exact ⟨(keeps_of_below hB12).from _, fun b hb => hB12.block b (by have := hB.size; simp at hb; omega), by simp [okB, hI, hg, hall], hB.trans (hB12.mono hB.size)⟩
 case done =>
  rintro D ys W hD rfl ⟨hall, hB⟩ hK
  have K3 := (hB.block _ (by omega)).trans k3
  have c31 : W.cell? ⟨w.heap.size + 1 + 1 + 1, 0, none⟩ = some (.bool false) := by simp [World.cell?, K3]
  have c31f : W.frozen? ⟨w.heap.size + 1 + 1 + 1, 0, none⟩ = false := by simp [World.frozen?, K3]
  gi_wp2
  have hK' : (W.setCell ⟨w.heap.size + 1 + 1 + 1, 0, none⟩ (.bool true)).heap[D]? = some (.deferred (some [])) := (KeepsOthers.setCell _ _ _).same D _ hK rfl
  have hS : Boxed (W.setCell ⟨w.heap.size + 1 + 1 + 1, 0, none⟩ (.bool true)) (w.heap.size + 1 + 1 + 1) 4 (.bool true) := Boxed.set _ K3
  refine ⟨by simp, .inl ⟨_, _, rfl, run_takeDeferred hK', ?_⟩⟩
  refine ⟨_, res_bool rfl _ _ (w.heap.size + 1 + 1 + 1) true (by simp) (Boxed.cell (t := 4) ?_), by unfold holdsB; rw [hall], ?_⟩
  ·exact (World.putObj_heap_other (by omega)).trans hS
  ·exact (Below.setCell (hB0.trans (hB.mono (by omega))) (p := ⟨w.heap.size + 1 + 1 + 1, 0, none⟩) (by simp; omega) _).trans (belowK_b (Nat.le_refl _) _ D _ _ (by omega) hK' rfl rfl)
 case stop =>
  rintro D c pre W hD hp ⟨⟨rfl, hall⟩, K3, hB⟩ hK
  gi_wp2
  refine ⟨by simp, .inl ⟨_, _, rfl, run_takeDeferred hK, ?_⟩⟩
  refine ⟨_, res_bool rfl _ _ (w.heap.size + 1 + 1 + 1) false (by simp) (Boxed.cell (t := 4) ?_), ?_, ?_⟩
  ·exact (World.putObj_heap_other (by have := (Array.getElem?_eq_some_iff.1 k3).1; omega)).trans K3
  ·obtain ⟨k, hk, rfl⟩ := hp
   have : holdsB L R N e q good = false := by
    cases hh : holdsB L R N e q good with
    | false => rfl
    | true =>
     unfold holdsB at hh
     rw [List.all_eq_true] at hh
     have : (List.range k).all (okB L R N e q good) = true := by
      rw [List.all_eq_true]
      exact fun x hx => hh x (by simp at hx ⊢; omega)
     rw [this] at hall; cases hall
   rw [this]
  ·exact hB.trans (belowK_b (Nat.le_refl _) _ D _ _ (by omega) hK rfl rfl)
end

section
open Go.Shelf
attribute [local go_sem] Oper.semAt_some
/-- The width of a chart, and its size. -/
def wid (R : Int) : Nat := (2 * R + 1).toNat
def siz (L R : Int) : Nat := (2 * L + 1).toNat * wid R
/-- State number k. -/
def stE (L R : Int) (k : Nat) : Int := -L + ((k / wid R : Nat) : Int)
def stR (R : Int) (k : Nat) : Int := -R + ((k % wid R : Nat) : Int)
abbrev stEnc (L R : Int) (k : Nat) : Array Value := #[.int .i64 k, .agg #[.int .i64 (stE L R k), .int .i64 (stR R k)]]

theorem stE_at (L R : Int) (a b : Nat) (hb : b < wid R) : stE L R (a * wid R + b) = -L + a := by
 unfold stE
 rw [Nat.mul_comm, Nat.mul_add_div (by omega), Nat.div_eq_of_lt hb, Nat.add_zero]
theorem stR_at (R : Int) (a b : Nat) (hb : b < wid R) : stR R (a * wid R + b) = -R + b := by
 unfold stR
 rw [Nat.mul_comm, Nat.mul_add_mod, Nat.mod_eq_of_lt hb]
theorem siz_lt (L R : Int) (a b : Nat) (ha : a < (2 * L + 1).toNat) (hb : b < wid R) : a * wid R + b < siz L R := by
 unfold siz
 have := Nat.mul_le_mul_right (wid R) (show a + 1 ≤ (2 * L + 1).toNat from ha)
 rw [Nat.add_mul] at this
 omega

set_option maxRecDepth 100000 in
set_option maxHeartbeats 4000000 in
theorem states_stops (n : Nat) (hn : 1 ≤ n) (L R S N : Int) (B0 : Nat) (w : World) (h0 : w.heap[B0]? = some (.cells #[.int .i64 L, .int .i64 R, .int .i64 S, .int .i64 N] 24 (0, 0)))
  (hL0 : 1 ≤ L) (hL : L ≤ 40) (hR0 : 0 ≤ R) (hR : R ≤ 12) :
  SeqStopsK Fence.wide n Try.prog 65 #[.pointer (some ⟨B0, 0, none⟩)] (fun k : { k : Nat // k < siz L R } => stEnc L R k.1) (SameAt [B0])
   (fun xs => xs.unattach = List.range (siz L R)) (fun pre => ∃ k, k ≤ siz L R ∧ pre.unattach = List.range k) (siz L R) w := fun l J Jx W hW _ _ hY hJ0 => by
 have lt0 : B0 < w.heap.size := (Array.getElem?_eq_some_iff.1 h0).1
 have G0 := (hW.block B0 lt0).trans h0
 clear h0 hW
 refine callsIn_of_wp Try.func65 rfl trivial ?_ rfl
 simp only [Try.ntmps65, List.size_toArray, List.length_cons, List.length_nil, Nat.reduceAdd, Nat.reduceSub, Array.replicate_succ, Array.replicate_zero, List.push_toArray, List.append_toArray, List.nil_append, List.cons_append]
 have c3 : W.cell? ⟨B0, 0, none⟩ = some (.int .i64 L) := by simp [World.cell?, G0]
 have hw : Hid (wid R = (2 * R + 1).toNat) := rfl
 have hwb : 1 ≤ wid R ∧ wid R ≤ 25 := by unfold wid; omega
 gi_wp2
 gi_loopw [3, 4, 5] (fun v3 v4 v5 wr => ∃ (a : Nat) (pre : List { k : Nat // k < siz L R }), a ≤ (2 * L + 1).toNat ∧ v3 = .int .i64 ((a * wid R : Nat) : Int) ∧ v4 = .int .i64 (-L + a) ∧ J pre wr ∧ Hid (pre.unattach = List.range (a * wid R)) ∧ Hid (SameAt [B0] W wr))
  (fun _ v _ _ => ((2 * L + 1) - (intOf v + L)).toNat)
 case atStart => exact ⟨0, [], Nat.zero_le _, by simp, by simp, hJ0, (by show _ = _; simp), fun _ _ => rfl⟩
 case round =>
  obtain ⟨a, pre, ha, rfl, rfl, hJs, HP, HS⟩ := hrel
  have d0 : wr.cell? ⟨B0, 0, none⟩ = some (.int .i64 L) := by simp [World.cell?, HS.out B0 (by simp), G0]
  have d1 : wr.cell? ⟨B0, 1, none⟩ = some (.int .i64 R) := by simp [World.cell?, HS.out B0 (by simp), G0]
  clear c3
  have hab : a * wid R ≤ 81 * 25 := Nat.mul_le_mul (by omega) hwb.2
  by_cases hlt : a < (2 * L + 1).toNat
  ·have hle : -L + (a : Int) ≤ L := by omega
   gi_wp2
   gi_loopw [3, 5] (fun v3 v5 wr2 => ∃ (b : Nat) (pre2 : List { k : Nat // k < siz L R }), b ≤ wid R ∧ v3 = .int .i64 ((a * wid R + b : Nat) : Int) ∧ v5 = .int .i64 (-R + b) ∧ J pre2 wr2 ∧ Hid (pre2.unattach = List.range (a * wid R + b)) ∧ Hid (SameAt [B0] W wr2))
    (fun _ v _ => ((2 * R + 1) - (intOf v + R)).toNat)
   case atStart => exact ⟨0, pre, Nat.zero_le _, by simp, by simp, hJs, HP, HS⟩
   case round =>
    clear hJs HP HS d0 d1
    obtain ⟨b, pre2, hb, rfl, rfl, hJs, HP, HS⟩ := hrel
    have d0 : wr.cell? ⟨B0, 0, none⟩ = some (.int .i64 L) := by simp [World.cell?, HS.out B0 (by simp), G0]
    have d1 : wr.cell? ⟨B0, 1, none⟩ = some (.int .i64 R) := by simp [World.cell?, HS.out B0 (by simp), G0]
    by_cases hlt2 : b < wid R
    ·have hle2 : -R + (b : Int) ≤ R := by have := hw.out; omega
     have hk := siz_lt L R a b hlt hlt2
     have hlen : pre2.length < siz L R := by have := congrArg List.length HP.out; simp at this; omega
     obtain ⟨fn, tmps, assign, body, hy, hR⟩ := hY _ ⟨a * wid R + b, hk⟩ wr hJs hlen
     simp only [stEnc, stE_at L R a b hlt2, stR_at R a b hlt2] at hy
     push_cast at hy
     gi_wp2
     refine hR.mono ?_
     rintro en W3 (⟨rfl, hJ3, hk3⟩ | ⟨rfl, hJx3⟩)
     ·have HS3 : Hid (SameAt [B0] W W3) := HS.out.t hk3
      have HP3 : Hid ((pre2 ++ [(⟨a * wid R + b, hk⟩ : { k : Nat // k < siz L R })]).unattach = List.range (a * wid R + b + 1)) := by
       show _ = _
       rw [List.unattach_append, HP.out, List.range_succ]; rfl
      clear HS hk3 HP hJs
      gi_wp2
      go_roundw
      case rel => exact ⟨b + 1, _, by omega, by congr 1, by congr 1; push_cast; omega, hJ3, HP3, HS3⟩
      case measure => simp [intOf]; omega
     ·gi_wp2
      refine bodyPost_ret (results_none rfl _ _ _) rfl ?_
      refine ⟨⟨_, rfl⟩, .inr ⟨_, ⟨a * wid R + b + 1, by omega, ?_⟩, hJx3⟩⟩
      rw [List.unattach_append, HP.out, List.range_succ]; rfl
    ·have hgt2 : ¬ (-R + (b : Int) ≤ R) := by have := hw.out; omega
     obtain rfl : b = wid R := by omega
     gi_wp2
     go_roundw
     case rel => exact ⟨a + 1, pre2, by omega, by congr 1; push_cast; rw [Int.add_mul, Int.one_mul], by congr 1; push_cast; omega, hJs, by rw [Nat.add_mul, Nat.one_mul]; exact HP, HS⟩
     case measure => simp [intOf]; omega
  ·have hgt : ¬ (-L + (a : Int) ≤ L) := by omega
   have hsz : a * wid R = siz L R := by unfold siz; rw [show a = (2 * L + 1).toNat by omega]
   gi_wp2
   go_end0
   exact ⟨⟨_, rfl⟩, .inl ⟨pre, by have := HP.out; rw [hsz] at this; exact this, hJs⟩⟩
end

end Go.Proofs.Ytcaekmalkbaldaa.M
