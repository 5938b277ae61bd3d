-- Written by a program of this session (over the kit's print) out of the translation; the parts that it does not tell are this session's own.
import Derived.Test.YtcaekmalkbaldaaM0
import Derived.Test.YtcaekmalkbaldaaM2
import Derived.Test.YtcaekmalkbaldaaM3
import Derived.Test.YtcaekmalkbaldaaM4
import Derived.Test.YtcaekmalkbaldaaM5
import Derived.Test.YtcaekmalkbaldaaM12
namespace Go.Proofs.Ytcaekmalkbaldaa.M
open Go.RowKit Go.Proofs.YtcaekmalkbaldaaW.PrintWords Go.Proofs.YtcaekmalkbaldaaW.PrintLast Go.Proofs.YtcaekmalkbaldaaW.PrintMore
attribute [local go_sem] max2_int min2_int max_two min_two max_three min_three max_four min_four   -- for this text's walks alone
set_option linter.unusedVariables false
set_option linter.unusedSimpArgs false

/-! ### steer_Prove: function 23 -/
section
open Go.Shelf
/-- Only the way on. -/
def OnlyOn (Q : Exit → Act → World → Prop) : Exit → Act → World → Prop := fun e a w => e = .normal ∧ Q .normal a w
theorem OnlyOn.no {Q : Exit → Act → World → Prop} {c : List PanicEntry} {a : Act} {w : World} (h : OnlyOn Q (.panic c) a w) : False := by cases h.1
theorem OnlyOn.out {Q : Exit → Act → World → Prop} (h : LetsOut (OnlyOn Q)) : False := by obtain ⟨a, w, h, _⟩ := h; cases h

theorem op_of_plain {l n i : Nat} {P : Program} {ops : Array Oper} {Q : Exit → Act → World → Prop} {K K' : Act → World → Prop} {a : Act} {w : World}
  (hd : ∀ (j : Nat) (o : Oper), ops[j]? = some o → ∀ c, o.op ≠ .defer c) (hK : ∀ a w, K a w → K' a w) (h : wpOp P ops (OnlyOn Q) i K a w) :
  wpOpIn (Fence.wide.inRound l) n P ops Q i K' a w := by
 unfold wpOp at h
 unfold wpOpIn
 cases ho : ops[i]? with
 | none => rw [ho] at h; exact hK _ _ h
 | some o =>
  rw [ho] at h
  simp only at h ⊢
  split
  ·rename_i hw
   rw [if_pos hw] at h
   rcases h with h | h
   ·refine ⟨fun _ _ => trivial, ?_⟩
    rw [show (Fence.wide.inRound l).round = some l from rfl, Oper.semAt_some l _ o (hd i o ho)]
    unfold Oper.wp at h
    generalize (execOp a.eval o).run P w = r at h ⊢
    cases r with
    | ok x w' =>
     cases x with
     | value v => exact hK _ _ h
     | skip => exact hK _ _ h
     | defer d => exact hK _ _ h
     | enter f args =>
      refine ⟨fun hh => (by cases hh), CallsIn.inRound l (callsIn_wide.2 (Calls.mono h fun e w'' he => ?_))⟩
      cases e with
      | returned v => exact hK _ _ he
      | panicked c => exact he.no.elim
      | outgrown => exact (OnlyOn.out he).elim
     | row row args =>
      refine ⟨fun hh => (by cases hh), fun c cs _ => ?_⟩
      obtain ⟨v, w'', r, s⟩ := (show Rows P row args w' _ from h) c cs
      exact ⟨v, w'', hK _ _ r, stepsIn_wide.2 s⟩
     | _ => exact (h : False).elim
    | halt x w' =>
     cases x with
     | panic v => exact (OnlyOn.no h).elim
     | _ => exact (h : False).elim
   ·exact (OnlyOn.out h.2).elim
  ·rename_i hw
   rw [if_neg hw] at h
   exact ⟨fun _ _ => trivial, hK _ _ h⟩

theorem any_of_plain {l n : Nat} {P : Program} {md : Region.Mode} {ops : Array Oper} {Q : Exit → Act → World → Prop} (hd : ∀ (j : Nat) (o : Oper), ops[j]? = some o → ∀ c, o.op ≠ .defer c) :
  ∀ (fuel : Nat) (listed : Array Bool) (a : Act) (w : World), wpAny P md ops (OnlyOn Q) fuel listed a w → wpAnyIn (Fence.wide.inRound l) n P md ops Q fuel listed a w
 | 0, _, _, _, h => ⟨h.1, h.2.2⟩
 | fuel + 1, _, _, _, h => ⟨fun e => (h.1 e).2, fun i hi => op_of_plain hd (fun a' w' h' => any_of_plain hd fuel _ a' w' h') (h.2 i hi)⟩

/-- The region, in a round, out of the plain walk under the condition S. -/
theorem region_round {l n id : Nat} {P : Program} {ops : Array Oper} {Q : Exit → Act → World → Prop} {S : World → Prop} {a : Act} {w : World} (hm : P.follows .mixedOrders = true)
  (hd : (ops.toList.all fun o => match o.op with | .defer _ => false | _ => true) = true) (hS : S w.drew)
  (h : S w.drew → wpAnyH P .any ops (OnlyOn Q) S ops.size (Array.replicate ops.size false) a w.drew) : (Code.region id ops true).wpIn (Fence.wide.inRound l) n P Q a w := by
 refine wpIn_region_any hm (any_of_plain (fun j o ho c e => ?_) _ _ _ _ (wpAny_of_held _ _ _ _ (h hS)))
 rw [List.all_eq_true] at hd
 have h1 : o ∈ ops.toList := by
  rw [Array.mem_toList_iff]
  exact Array.mem_of_getElem? ho
 have := hd o h1
 rw [e] at this
 cases this
theorem OnlyOn.on {Q : Exit → Act → World → Prop} {a : Act} {w : World} (h : Q .normal a w) : OnlyOn Q .normal a w := ⟨rfl, h⟩
attribute [local go_sem] Oper.semAt_some
set_option maxRecDepth 100000 in
set_option maxHeartbeats 8000000 in
/-- 'meant' of Prove: whether a law means a state. -/
theorem meant_calls (L R S N x y : Int) (Bo Bp : Nat) (A : Option Addr) (c : Nat) (l : List Int) (w : World) (hL0 : 1 ≤ L) (hL : L ≤ 40) (hR0 : 0 ≤ R) (hR : R ≤ 12) (k : Nat) (hk : k < l.length)
  (hx0 : -1000 ≤ x) (hx : x ≤ 1000) (hy0 : -1000 ≤ y) (hy : y ≤ 1000) (hxk : (x + L) * (2 * R + 1) + y + R = k)
  (ho : w.heap[Bo]? = some (.cells #[.slice A l.length c] 30 (0, 0))) (hp : w.heap[Bp]? = some (.cells #[.int .i64 L, .int .i64 R, .int .i64 S, .int .i64 N] 24 (0, 0)))
  (hr : Kd.C (Kd.int .i64) w A l.length l) (hlc : l.length ≤ 100000) :
  Calls Try.prog 43 #[.agg #[.int .i64 x, .int .i64 y], .pointer (some ⟨Bo, 0, none⟩), .pointer (some ⟨Bp, 0, none⟩)] w fun e w' => e = .returned (.bool (decide (rd l k < 1000))) ∧ Below w.heap.size w w' := by
 have lo := (Array.getElem?_eq_some_iff.1 ho).1
 have lp := (Array.getElem?_eq_some_iff.1 hp).1
 obtain ⟨ad, rfl, hci⟩ := Kd.at_int hr (k : Int) (by omega) (by omega)
 simp only [Int.toNat_natCast] at hci
 generalize rd l (k : Int) = v at hci
 clear hr
 have c1 : (w.alloc (.cells #[.int .i64 x, .int .i64 y] 59)).cell? ⟨Bo, 0, none⟩ = some (.slice (some ad) l.length c) := by simp [World.cell?, al_old ho]
 have p0 : (w.alloc (.cells #[.int .i64 x, .int .i64 y] 59)).cell? ⟨Bp, 0, none⟩ = some (.int .i64 L) := by simp [World.cell?, al_old hp]
 have p1 : (w.alloc (.cells #[.int .i64 x, .int .i64 y] 59)).cell? ⟨Bp, 1, none⟩ = some (.int .i64 R) := by simp [World.cell?, al_old hp]
 have p2 : (w.alloc (.cells #[.int .i64 x, .int .i64 y] 59)).cell? ⟨Bp, 2, none⟩ = some (.int .i64 S) := by simp [World.cell?, al_old hp]
 have p3 : (w.alloc (.cells #[.int .i64 x, .int .i64 y] 59)).cell? ⟨Bp, 3, none⟩ = some (.int .i64 N) := by simp [World.cell?, al_old hp]
 have x0 : (w.alloc (.cells #[.int .i64 x, .int .i64 y] 59)).cell? ⟨w.heap.size, 0, none⟩ = some (.int .i64 x) := cell_new _ _ _ _
 have x1 : (w.alloc (.cells #[.int .i64 x, .int .i64 y] 59)).cell? ⟨w.heap.size, 1, none⟩ = some (.int .i64 y) := cell_new _ _ _ _
 have hv := (Below.refl w.heap.size w).alloc (Nat.le_refl _) (.cells #[.int .i64 x, .int .i64 y] 59)
 have hci' := (hv.cell (p := ad.add k) (World.block_lt_of_cell? _ _ hci)).trans hci
 have hi := fun W => index_calls L R S N x y k (by omega) hL hR0 hR hx0 hx hy0 hy hxk W
 clear ho hp hci
 go_enter Try.func43, Try.ntmps43
 go_wp2
 generalize hW1 : (w.alloc (.cells #[.int .i64 x, .int .i64 y] 59)) = W1 at *
 go_region_held3 (fun w' => (w'.cell? ⟨Bo, 0, none⟩ = some (.slice (some ad) l.length c) ∧ w'.cell? ⟨Bp, 0, none⟩ = some (.int .i64 L) ∧ w'.cell? ⟨Bp, 1, none⟩ = some (.int .i64 R) ∧ w'.cell? ⟨Bp, 2, none⟩ = some (.int .i64 S) ∧ w'.cell? ⟨Bp, 3, none⟩ = some (.int .i64 N) ∧
  w'.cell? ⟨w.heap.size, 0, none⟩ = some (.int .i64 x) ∧ w'.cell? ⟨w.heap.size, 1, none⟩ = some (.int .i64 y) ∧ w'.cell? (ad.add k) = some (.int .i64 v)) ∧ Below W1.heap.size W1 w') (first | exact ⟨⟨c1, p0, p1, p2, p3, x0, x1, hci'⟩, (Below.refl _ _).drew⟩ | exact ⟨⟨cell_on hB c1, cell_on hB p0, cell_on hB p1, cell_on hB p2, cell_on hB p3, cell_on hB x0, cell_on hB x1, cell_on hB hci'⟩, (Below.refl _ _).drew.trans hB⟩)
  (first | (go_at_call 39; refine (hi _).mono ?_; rintro e w' ⟨rfl, hB⟩))
 rename_i hHeld
 have hBB := hHeld.2
 clear hHeld
 go_wp2
 go_ret
 exact ⟨rfl, hv.trans (hBB.mono hv.size)⟩
def meantOK (L R S N : Int) (l : List Int) (k : Nat) : Bool := !decide (rd l k < 1000) || ((ratesL R S (stR R k)).contains (rd l k) && holdsB L R N (stE L R k) (rd l k) (goodO L R l))
def steer_Prove.f (L R S N : Int) (l : List Int) : Option Int := if rightB L R S N = true then (if l.length = siz L R then some (if (List.range (siz L R)).all (meantOK L R S N l) = true then 0 else 7) else some 1) else some 60

theorem p_check_f (L R S N : Int) : steer_Check.f L R S N = some (if rightB L R S N = true then 0 else 60) := by
 have hin : ∀ a b c : Int, steer_in.f a b c = some (decide (b ≤ a) && decide (a ≤ c)) := fun a b c => by
  unfold steer_in.f
  by_cases h : a ≥ b
  ·rw [if_pos h]; simp [show b ≤ a from h]
  ·rw [if_neg h]; simp [show ¬ b ≤ a from h]
 unfold steer_Check.f
 simp only [hin, Option.bind_some]
 have e : rightB L R S N = ((decide (1 ≤ L) && decide (L ≤ 40)) && ((decide (0 ≤ R) && decide (R ≤ 12)) && ((decide (1 ≤ S) && decide (S ≤ 24)) && (decide (0 ≤ N) && decide (N ≤ 12))))) := by
  simp only [rightB, Bool.and_assoc]
 rw [e]
 cases (decide (1 ≤ L) && decide (L ≤ 40)) <;> cases (decide (0 ≤ R) && decide (R ≤ 12)) <;> cases (decide (1 ≤ S) && decide (S ≤ 24)) <;> cases (decide (0 ≤ N) && decide (N ≤ 12)) <;> rfl
theorem rightB_iff' {L R S N : Int} (h : rightB L R S N = true) : 1 ≤ L ∧ L ≤ 40 ∧ 0 ≤ R ∧ R ≤ 12 ∧ 1 ≤ S ∧ S ≤ 24 ∧ 0 ≤ N ∧ N ≤ 12 := by
 simpa only [rightB, Bool.and_eq_true, decide_eq_true_eq, and_assoc] using h
theorem p_index_l0 (l : List Int) (a : Int) (hl : l.length ≤ 1000) : ∀ (d k : Nat) (i : Nat), l.length - i = d → d < k → i ≤ l.length → ∃ r, slices_Index_int_int.l0 k l a l.length i = some r ∧ (decide (r ≥ 0)) = (l.drop i).contains a
 | 0, k, i, hd, hk, hi => by
  obtain ⟨k, rfl⟩ : ∃ j, k = j + 1 := ⟨k - 1, by omega⟩
  refine ⟨-1, ?_, ?_⟩
  ·unfold slices_Index_int_int.l0
   rw [if_neg (by omega)]
  ·rw [List.drop_of_length_le (by omega)]; rfl
 | d + 1, k, i, hd, hk, hi => by
  obtain ⟨k, rfl⟩ : ∃ j, k = j + 1 := ⟨k - 1, by omega⟩
  have hlt : i < l.length := by omega
  have hdr : l.drop i = l[i] :: l.drop (i + 1) := List.drop_eq_getElem_cons hlt
  have hrd : rd l (i : Int) = l[i] := by simp [rd, List.getD_eq_getElem?_getD, hlt]
  by_cases he : a = l[i]
  ·refine ⟨i, ?_, ?_⟩
   ·unfold slices_Index_int_int.l0
    rw [if_pos (by omega), if_pos (by omega), if_pos (by omega), hrd, if_pos he]
   ·rw [hdr, List.contains_cons]; simp [he]
  ·obtain ⟨r, h1, h2⟩ := p_index_l0 l a hl d k (i + 1) (by omega) (by omega) (by omega)
   refine ⟨r, ?_, ?_⟩
   ·unfold slices_Index_int_int.l0
    rw [if_pos (by omega), if_pos (by omega), if_pos (by omega), hrd, if_neg he, wrap_small _ (by omega) (by omega)]
    rw [← h1]; congr 1
   ·rw [h2, hdr, List.contains_cons]
    simp [he]
theorem p_contains (l : List Int) (a : Int) (hl : l.length ≤ 1000) : slices_Contains_int_int.f 1001 l a = some (l.contains a) := by
 obtain ⟨r, h1, h2⟩ := p_index_l0 l a hl l.length 1001 0 (by omega) (by omega) (by omega)
 unfold slices_Contains_int_int.f slices_Index_int_int.f
 rw [show ((0 : Nat) : Int) = 0 from rfl] at h1
 rw [h1]
 simp only [Option.bind_some, h2, List.drop_zero]

/-- A function's one result, a variable of the type of errors. -/
theorem res_errno {fn : Func} {p : Tmp} (h : fn.results = #[.cell p 26]) (tmps : Array Value) (w : World) (g : Nat) (b : Int)
  (hp : tmps.getD p undef = .pointer (some ⟨g, 0, none⟩)) (hc : w.cell? ⟨g, 0, none⟩ = some (.int .i64 b)) : (results fn tmps).run Try.prog w = .ok (.int .i64 b) w := by
 have hp' : tmps[p]?.getD undef = .pointer (some ⟨g, 0, none⟩) := by simpa using hp
 have hu := Try.underlying26
 have hl : (loadVar 26 ⟨g, 0, none⟩).run Try.prog w = .ok (.int .i64 b) w := by go_simp
 simp [results, h, hp', asAddr, hl]

set_option maxRecDepth 100000 in
set_option maxHeartbeats 8000000 in
theorem steer_Prove.calls (L R S N : Int) (A1 : Option Addr) (c1 : Nat) (l1 : List Int) (r : Int) (w : World) (hr1 : Kd.C (Kd.int .i64) w A1 l1.length l1) (hc1 : l1.length ≤ c1) (h : steer_Prove.f L R S N l1 = some r) :
  Calls Try.prog 23 #[.agg #[.int .i64 L, .int .i64 R, .int .i64 S, .int .i64 N], .slice A1 l1.length c1] w fun e w' => e = .returned (.int .i64 r) ∧ Below w.heap.size w w' := by
 have hu24 := Try.underlying24
 have hu59 := Try.underlying59
 have hu26 := Try.underlying26
 have ck : ∀ W', CallsIn Fence.wide (9 - 1) Try.prog 11 #[.agg #[.int .i64 L, .int .i64 R, .int .i64 S, .int .i64 N]] W' _ := fun W' => callsIn_wide.2 (steer_Check.calls L R S N _ W' (p_check_f L R S N))
 have f11 : Fence.wide.fn 11 := trivial
 have HL := Aside0.mk hc1
 have HR := Aside0.mk hr1
 have H := Aside0.mk h
 clear hc1 hr1 h
 refine (callsIn_wide (n := 9)).1 ?_
 refine callsIn_of_wp_marks Try.func23 rfl trivial ?_ rfl
 simp only [Try.ntmps23, List.size_toArray, List.length_cons, List.length_nil, Nat.reduceAdd, Nat.reduceSub, Array.replicate_succ, Array.replicate_zero, List.push_toArray, List.append_toArray, List.nil_append, List.cons_append]
 cases hp : rightB L R S N with
 | false =>
  obtain rfl : r = 60 := by
   have := H.out
   unfold steer_Prove.f at this
   rw [hp, if_neg (by simp)] at this
   exact (Option.some.inj this).symm
  simp only [hp, Bool.false_eq_true, if_false] at ck
  gi_wp2_with (gi_at_call 11; refine (ck _).mono ?_; rintro en W1 ⟨rfl, hB1⟩; have b4 : W1.heap[w.heap.size + 1 + 1]? = some (.cells #[.int .i64 0] 26 (0, 0)) := (hB1.block _ (by simp)).trans (al_new _ _ _ (by simp)); have c4 : W1.cell? ⟨w.heap.size + 1 + 1, 0, none⟩ = some (.int .i64 0) := (by simp [World.cell?, b4]); have c4f : W1.frozen? ⟨w.heap.size + 1 + 1, 0, none⟩ = false := (by simp [World.frozen?, b4]))
  refine ⟨_, res_errno rfl _ _ (w.heap.size + 1 + 1) 60 (by simp) (Boxed.cell (t := 26) (Boxed.set _ b4)), rfl, ?_⟩
  exact Below.setCell ((((Below.refl _ w).alloc (Nat.le_refl _) _).alloc (by simp) _).alloc (by simp <;> omega) _ |>.trans (hB1.mono (by simp <;> omega))) (p := ⟨w.heap.size + 1 + 1, 0, none⟩) (by simp <;> omega) _
 | true =>
  simp only [hp, if_true] at ck
  have hq := rightB_iff' hp
  gi_wp2_with (gi_at_call 11; refine (ck _).mono ?_; rintro en W1 ⟨rfl, hB1⟩; have b4 : W1.heap[w.heap.size + 1 + 1]? = some (.cells #[.int .i64 0] 26 (0, 0)) := (hB1.block _ (by simp)).trans (al_new _ _ _ (by simp)); have b3 : W1.heap[w.heap.size + 1]? = some (.cells #[.slice A1 l1.length c1] 30 (0, 0)) := (hB1.block _ (by simp <;> omega)).trans (al_old (al_new _ _ _ (by simp))); have b2 : W1.heap[w.heap.size]? = some (.cells #[.int .i64 L, .int .i64 R, .int .i64 S, .int .i64 N] 24 (0, 0)) := (hB1.block _ (by simp <;> omega)).trans (al_old (al_old (al_new _ _ _ rfl))))
  have hB0 : Below w.heap.size w W1 := (((Below.refl _ w).alloc (Nat.le_refl _) _).alloc (by simp) _).alloc (by simp <;> omega) _ |>.trans (hB1.mono (by simp <;> omega))
  clear hB1 ck
  have hidx : (L + L) * (2 * R + 1) + R + R = ((siz L R - 1 : Nat) : Int) := by
   have h0 : 3 ≤ siz L R := siz_pos L R (by omega) (by omega)
   have h1 : ((siz L R : Nat) : Int) = (2 * L + 1) * (2 * R + 1) := by
    unfold siz wid
    rw [Int.natCast_mul, Int.toNat_of_nonneg (by omega), Int.toNat_of_nonneg (by omega)]
   rw [Int.natCast_sub (by omega), h1, Int.add_mul (2 * L) 1, Int.one_mul, show L + L = 2 * L by omega]
   omega
  have hsz0 : 3 ≤ siz L R := siz_pos L R (by omega) (by omega)
  have hsz1 : siz L R ≤ 2025 := siz_le L R (by omega) (by omega)
  have hi := fun W => index_calls L R S N L R (siz L R - 1) (by omega) (by omega) (by omega) (by omega) (by omega) (by omega) (by omega) (by omega) hidx W
  clear hidx
  have c3 : W1.cell? ⟨w.heap.size + 1, 0, none⟩ = some (.slice A1 l1.length c1) := by simp [World.cell?, b3]
  have p0 : W1.cell? ⟨w.heap.size, 0, none⟩ = some (.int .i64 L) := by simp [World.cell?, b2]
  have p1 : W1.cell? ⟨w.heap.size, 1, none⟩ = some (.int .i64 R) := by simp [World.cell?, b2]
  have p2 : W1.cell? ⟨w.heap.size, 2, none⟩ = some (.int .i64 S) := by simp [World.cell?, b2]
  have p3 : W1.cell? ⟨w.heap.size, 3, none⟩ = some (.int .i64 N) := by simp [World.cell?, b2]
  have HB2 := Aside0.mk b2
  have HB3 := Aside0.mk b3
  have HB4 := Aside0.mk b4
  have hsw1 : w.heap.size + 3 ≤ W1.heap.size := by have := (Array.getElem?_eq_some_iff.1 b4).1; omega
  clear b2 b3 b4
  refine wpIn_wide.2 ?_
  go_region_held3 (fun w' => (w'.cell? ⟨w.heap.size + 1, 0, none⟩ = some (.slice A1 l1.length c1) ∧ w'.cell? ⟨w.heap.size, 0, none⟩ = some (.int .i64 L) ∧ w'.cell? ⟨w.heap.size, 1, none⟩ = some (.int .i64 R) ∧ w'.cell? ⟨w.heap.size, 2, none⟩ = some (.int .i64 S) ∧ w'.cell? ⟨w.heap.size, 3, none⟩ = some (.int .i64 N)) ∧ Below W1.heap.size W1 w')
   (first | exact ⟨⟨c3, p0, p1, p2, p3⟩, (Below.refl _ _).drew⟩ | exact ⟨⟨cell_on hB c3, cell_on hB p0, cell_on hB p1, cell_on hB p2, cell_on hB p3⟩, (Below.refl _ _).drew.trans hB⟩)
   (first | (go_at_call 39; refine (hi _).mono ?_; rintro e w' ⟨rfl, hB⟩))
  rename_i hHeld
  have hBB := hHeld.2
  clear hHeld
  have e1 : IntKind.i64.wrap (((siz L R - 1 : Nat) : Int) + 1) = ((siz L R : Nat) : Int) := by rw [i64_w, wrap_small _ (by omega) (by omega)]; omega
  simp only [e1]
  rename World => W2
  have q0 := cell_on hBB p0
  have q1 := cell_on hBB p1
  have q2 := cell_on hBB p2
  have q3 := cell_on hBB p3
  have q5 := cell_on hBB c3
  have hsw : w.heap.size + 3 ≤ W1.heap.size := hsw1
  have b4' := (hBB.block _ (by omega)).trans HB4.out
  have b3' := (hBB.block _ (by omega)).trans HB3.out
  have b2' := (hBB.block _ (by omega)).trans HB2.out
  have hBw : Below w.heap.size w W2 := hB0.trans (hBB.mono (by omega))
  have hsw2 : W1.heap.size ≤ W2.heap.size := hBB.size
  have hRW : Kd.C (Kd.int .i64) W2 A1 l1.length l1 := Kd.C_below HR.out hBw
  clear hBB p0 p1 p2 p3 c3
  by_cases hlen : l1.length = siz L R
  ·have d1 : ((l1.length : Int) != ((siz L R : Nat) : Int)) = false := by rw [hlen]; simp
   rw [d1]
   have Hr : r = if (List.range (siz L R)).all (meantOK L R S N l1) = true then 0 else 7 := by
    have := H.out
    unfold steer_Prove.f at this
    rw [if_pos hp, if_pos hlen] at this
    exact (Option.some.inj this).symm
   have HRr := Aside0.mk Hr
   have HLEN := Aside0.mk hlen
   clear Hr H hlen
   have hltp : w.heap.size < W2.heap.size := by omega
   have f44 : Fence.wide.fn 44 := trivial
   have a44 : ∀ W', CallsIn Fence.wide (9 - 1) Try.prog 44 #[.agg #[.int .i64 L, .int .i64 R, .int .i64 S, .int .i64 N]] W' _ := fun W' => callsIn_wide.2 (states_calls L R S N W')
   gi_wp2_with (gi_at_call 44; refine (a44 _).mono ?_; rintro e w' ⟨rfl, rfl⟩)
   clear a44 f44
   obtain ⟨W3, hW3⟩ : ∃ W3, ((W2.alloc (.cells #[.func (.func 43) #[] #[.pointer (some ⟨w.heap.size + 1, 0, none⟩), .pointer (some ⟨w.heap.size, 0, none⟩)]] 86)).alloc (.cells #[.int .i64 L, .int .i64 R, .int .i64 S, .int .i64 N] 24)) = W3 := ⟨_, rfl⟩
   rw [hW3]
   have hsz3 : W3.heap.size = W2.heap.size + 2 := by rw [← hW3]; simp
   have hB3 : Below W2.heap.size W2 W3 := by rw [← hW3]; exact ((Below.refl _ W2).alloc (Nat.le_refl _) _).alloc (by simp) _
   have kf : W3.heap[W2.heap.size]? = some (.cells #[.func (.func 43) #[] #[.pointer (some ⟨w.heap.size + 1, 0, none⟩), .pointer (some ⟨w.heap.size, 0, none⟩)]] 86 (0, 0)) := by rw [← hW3]; exact al_old (al_new _ _ _ rfl)
   have ks : W3.heap[W2.heap.size + 1]? = some (.cells #[.int .i64 L, .int .i64 R, .int .i64 S, .int .i64 N] 24 (0, 0)) := by rw [← hW3]; exact al_new _ _ _ (by simp)
   have k4 := (hB3.block _ (by omega)).trans b4'
   have k3 := (hB3.block _ (by omega)).trans b3'
   have k2 := (hB3.block _ (by omega)).trans b2'
   have hRW3 : Kd.C (Kd.int .i64) W3 A1 l1.length l1 := Kd.C_below hRW hB3
   have hBw3 : Below w.heap.size w W3 := hBw.trans (hB3.mono (by omega))
   clear hW3 q0 q1 q2 q3 q5 b4' b3' b2' hRW hB3 hBw d1 e1
   refine wpIn_rangeFunc_ownH rfl (by decide) (gf := 65) (lb := #[.pointer (some ⟨W2.heap.size + 1, 0, none⟩)]) rfl trivial (enters_of Try.func65 (by kernel_rfl) rfl)
    (states_stops (9 - 1) (by decide) L R S N _ W3 ks (by omega) (by omega) (by omega) (by omega)) SameAt.t (SameAt.b (by simp; omega)) (Below.refl _ _) (fun _ => rfl)
    (fun pre X => (pre.unattach.all (meantOK L R S N l1) = true) ∧ Below W3.heap.size W3 X)
    (fun c pre X => (c = .ret ∧ pre.unattach.all (meantOK L R S N l1) = false) ∧ X.heap[w.heap.size + 1 + 1]? = some (.cells #[.int .i64 7] 26 (0, 0)) ∧ Below w.heap.size w X)
    (OwnFrom.and (ownFrom_pure _ _) (ownFrom_below (Nat.le_refl _) (Nat.le_refl _)))
    (fun c => OwnFrom.and (ownFrom_pure _ _) (OwnFrom.and (blk_own _ (fun _ => _) (fun _ => _) _ _) (ownFrom_below (Nat.le_refl _) (by omega))))
    ⟨rfl, Below.refl _ _⟩
    (fun x a' X => ∃ Bx, W3.heap.size ≤ Bx ∧ X.heap[Bx]? = some (.cells #[.int .i64 (stE L R x.1), .int .i64 (stR R x.1)] 59 (0, 0)) ∧ a' = { tmps := #[.agg #[.int .i64 L, .int .i64 R, .int .i64 S, .int .i64 N], .slice A1 l1.length c1, .pointer (some ⟨w.heap.size, 0, none⟩), .pointer (some ⟨w.heap.size + 1, 0, none⟩), .pointer (some ⟨w.heap.size + 1 + 1, 0, none⟩), .int .i64 0, .pointer (some ⟨W2.heap.size, 0, none⟩), .int .i64 x.1, .pointer (some ⟨Bx, 0, none⟩), .agg #[.int .i64 L, .int .i64 R, .int .i64 S, .int .i64 N], .int .i64 0, .int .i64 0, .bool false, undef, .slice A1 l1.length c1, .int .i64 l1.length, .agg #[.int .i64 L, .int .i64 R, .int .i64 S, .int .i64 N], .pointer (some ⟨w.heap.size, 0, none⟩), .int .i64 L, .pointer (some ⟨w.heap.size, 1, none⟩), .int .i64 R, .agg #[.int .i64 L, .int .i64 R], .int .i64 (siz L R - 1 : Nat), .int .i64 (siz L R : Nat), .bool false, .func (.func 43) #[] #[.pointer (some ⟨w.heap.size + 1, 0, none⟩), .pointer (some ⟨w.heap.size, 0, none⟩)], .agg #[.int .i64 L, .int .i64 R, .int .i64 S, .int .i64 N], .func (.func 65) #[] #[.pointer (some ⟨W2.heap.size + 1, 0, none⟩)], .int .i64 x.1, .agg #[.int .i64 (stE L R x.1), .int .i64 (stR R x.1)], undef, undef, undef, undef, undef, undef, undef, undef, undef, undef, undef, undef, undef, undef, undef, undef, undef, undef, undef, undef, undef, undef, undef, undef, undef], defers := [] })
    ?hAx ?assign ?body ?done ?stop
   case hAx =>
    rintro x a' s A B row ⟨Bx, h1, h2, h3⟩ hg hr
    exact ⟨Bx, h1, (grownBy_keeps_cells hg (fun r e => (hr r e).2) h2 rfl).trans h2, h3⟩
   case assign =>
    rintro l pre x X K ⟨hall, hB⟩ hK
    gi_wp2
    exact hK _ _ ((KeepsOthers.alloc _ _).from _) (fun b hb => Below.heap_alloc _ _ _ (by have := hB.size; simp at hb; omega)) ⟨hall, hB.alloc hB.size _⟩ ⟨X.heap.size, hB.size, al_new _ _ _ rfl, rfl⟩
   case body =>
    rintro l pre x a' X hl ⟨r', hr'⟩ ⟨hall, hB⟩ ⟨Bx, hBx, hX, rfl⟩ hlt
    have hun : ∀ y, (pre ++ [y]).unattach.all (meantOK L R S N l1) = meantOK L R S N l1 y.1 := fun y => by rw [List.unattach_append, List.all_append, hall]; simp
    have HUN := Aside0.mk hun
    clear hun hall
    obtain ⟨k, hk⟩ := x
    have hXs := hB.size
    have K2 := (hB.block _ (by omega)).trans k2
    have K3 := (hB.block _ (by omega)).trans k3
    have K4 := (hB.block _ (by omega)).trans k4
    have KF := (hB.block _ (by omega)).trans kf
    have hRX : Kd.C (Kd.int .i64) X A1 l1.length l1 := Kd.C_below hRW3 hB
    have hBX : Below w.heap.size w X := hBw3.trans (hB.mono (by omega))
    have hst := st_bounds L R (by omega) (by omega) k hk
    have hidx := st_index L R (by omega) k
    have hmk : meantOK L R S N l1 k = (!decide (rd l1 k < 1000) || ((ratesL R S (stR R k)).contains (rd l1 k) && holdsB L R N (stE L R k) (rd l1 k) (goodO L R l1))) := rfl
    simp only at hX
    generalize hse : stE L R k = se at *
    generalize hsr : stR R k = sr at *
    clear hse hsr
    have hgood : GoodFn 43 #[.pointer (some ⟨w.heap.size + 1, 0, none⟩), .pointer (some ⟨w.heap.size, 0, none⟩)] L R (goodO L R l1) X := by
     intro Y x y hY hxy
     obtain ⟨j, hj, e⟩ := idx_lt (by omega) (by omega) hxy
     have hxy' : -L ≤ x ∧ x ≤ L ∧ -R ≤ y ∧ y ≤ R := by simpa only [isB, Bool.and_eq_true, decide_eq_true_eq, and_assoc] using hxy
     have := meant_calls L R S N x y (w.heap.size + 1) w.heap.size A1 c1 l1 Y (by omega) (by omega) (by omega) (by omega) j (by rw [HLEN.out]; exact hj) (by omega) (by omega) (by omega) (by omega) e ((hY.block _ (by omega)).trans K3) ((hY.block _ (by omega)).trans K2) (Kd.C_below hRX hY) (by rw [HLEN.out]; omega)
     unfold goodO
     rw [e]
     exact this
    have hs43 : ∀ Y, Below X.heap.size X Y → Calls Try.prog 43 #[.agg #[.int .i64 se, .int .i64 sr], .pointer (some ⟨w.heap.size + 1, 0, none⟩), .pointer (some ⟨w.heap.size, 0, none⟩)] Y fun e w' => e = .returned (.bool (decide (rd l1 k < 1000))) ∧ Below Y.heap.size Y w' := by
     intro Y hY
     have := hgood Y se sr hY (by simp [isB, hst])
     unfold goodO at this
     rw [hidx] at this
     exact this
    have hs46 : ∀ Y, Calls Try.prog 46 #[.agg #[.int .i64 L, .int .i64 R, .int .i64 S, .int .i64 N], .agg #[.int .i64 se, .int .i64 sr]] Y fun e w' => ∃ v0_ gb cap, e = .returned v0_ ∧ v0_ = .slice gb (ratesL R S sr).length cap ∧ (ratesL R S sr).length ≤ cap ∧ Kd.C (Kd.int .i64) w' gb (ratesL R S sr).length (ratesL R S sr) ∧ Below Y.heap.size Y w' := by
     intro Y
     refine (steer_Plan_rates.calls 200 L R S N se sr (ratesL R S sr) Y (rates_f L R S N se sr (by omega) (by omega) (by omega) (by omega) hst.2.2.1 hst.2.2.2)).mono ?_
     rintro e w' ⟨v0_, rfl, hR', hB'⟩
     obtain ⟨gb, cap, e2, e3, e4⟩ := Kd.R_reads hR'
     exact ⟨_, gb, cap, rfl, e2, e3, e4, hB'⟩
    have hct : ∀ a, slices_Contains_int_int.f 1001 (ratesL R S sr) a = some ((ratesL R S sr).contains a) := fun a => p_contains _ a (by unfold ratesL; rw [List.length_map, List.length_range]; unfold mn mx; split <;> split <;> omega)
    obtain ⟨ad, rfl, hci⟩ := Kd.at_int hRX (k : Int) (by omega) (by rw [HLEN.out]; omega)
    simp only [Int.toNat_natCast] at hci
    have cf : X.cell? ⟨W2.heap.size, 0, none⟩ = some (.func (.func 43) #[] #[.pointer (some ⟨w.heap.size + 1, 0, none⟩), .pointer (some ⟨w.heap.size, 0, none⟩)]) := by simp [World.cell?, KF]
    have x0 : X.cell? ⟨Bx, 0, none⟩ = some (.int .i64 se) := by simp [World.cell?, hX]
    have x1 : X.cell? ⟨Bx, 1, none⟩ = some (.int .i64 sr) := by simp [World.cell?, hX]
    have p0 : X.cell? ⟨w.heap.size, 0, none⟩ = some (.int .i64 L) := by simp [World.cell?, K2]
    have p1 : X.cell? ⟨w.heap.size, 1, none⟩ = some (.int .i64 R) := by simp [World.cell?, K2]
    have p2 : X.cell? ⟨w.heap.size, 2, none⟩ = some (.int .i64 S) := by simp [World.cell?, K2]
    have p3 : X.cell? ⟨w.heap.size, 3, none⟩ = some (.int .i64 N) := by simp [World.cell?, K2]
    have c3 : X.cell? ⟨w.heap.size + 1, 0, none⟩ = some (.slice (some ad) l1.length c1) := by simp [World.cell?, K3]
    have hk0 : (0 : Int) ≤ (k : Int) := by omega
    have hk1 : (k : Int) < (l1.length : Int) := by rw [HLEN.out]; omega
    have hs47 : (ratesL R S sr).contains (rd l1 k) = true → ∀ Y, Below X.heap.size X Y → Calls Try.prog 47 #[.agg #[.int .i64 L, .int .i64 R, .int .i64 S, .int .i64 N], .agg #[.int .i64 se, .int .i64 sr], .int .i64 (rd l1 k), .func (.func 43) #[] #[.pointer (some ⟨w.heap.size + 1, 0, none⟩), .pointer (some ⟨w.heap.size, 0, none⟩)]] Y fun e w' => e = .returned (.bool (holdsB L R N se (rd l1 k) (goodO L R l1))) ∧ Below Y.heap.size Y w' := by
     intro hc Y hY
     have hm := rates_mem (List.contains_iff_mem.1 hc)
     exact holds_calls L R S N se sr (rd l1 k) 43 _ (enters_of Try.func43 (by kernel_rfl) rfl) (goodO L R l1) Y (by omega) (by omega) (by omega) (by omega) (by omega) (by omega) (by omega) (by omega) (by omega) (by omega) (fun Z x y hZ hxy => hgood Z x y (hY.trans (hZ.mono hY.size)) hxy)
    have HBX : Aside0 (Below w.heap.size w X) := ⟨hBX⟩
    have HBB : Aside0 (Below W3.heap.size W3 X) := ⟨hB⟩
    have HK4 : Aside0 _ := ⟨K4⟩
    have lt4 : w.heap.size + 1 + 1 < X.heap.size := by omega
    clear hgood hRX hX K2 K3 K4 KF hB hBX k2 k3 k4 kf ks hRW3 hBw3 hi
    generalize hv : rd l1 (k : Int) = v at *
    have hS : ∀ Y, Below X.heap.size X Y → ((Y.cell? ⟨W2.heap.size, 0, none⟩ = some (.func (.func 43) #[] #[.pointer (some ⟨w.heap.size + 1, 0, none⟩), .pointer (some ⟨w.heap.size, 0, none⟩)]) ∧ Y.cell? ⟨Bx, 0, none⟩ = some (.int .i64 se) ∧ Y.cell? ⟨Bx, 1, none⟩ = some (.int .i64 sr) ∧ Y.cell? ⟨w.heap.size, 0, none⟩ = some (.int .i64 L) ∧ Y.cell? ⟨w.heap.size, 1, none⟩ = some (.int .i64 R) ∧ Y.cell? ⟨w.heap.size, 2, none⟩ = some (.int .i64 S) ∧ Y.cell? ⟨w.heap.size, 3, none⟩ = some (.int .i64 N) ∧ Y.cell? ⟨w.heap.size + 1, 0, none⟩ = some (.slice (some ad) l1.length c1) ∧ Y.cell? (ad.add k) = some (.int .i64 v)) ∧ Below X.heap.size X Y) := fun Y hY => ⟨⟨cell_on hY cf, cell_on hY x0, cell_on hY x1, cell_on hY p0, cell_on hY p1, cell_on hY p2, cell_on hY p3, cell_on hY c3, cell_on hY hci⟩, hY⟩
    clear cf x0 x1 p0 p1 p2 p3 c3 hci
    cases hg : decide (v < 1000) with
    | false =>
     rw [hg] at hs43 hmk
     clear hs46 hs47 hct hg
     gi_wp2
     refine region_round (S := fun Y => ((Y.cell? ⟨W2.heap.size, 0, none⟩ = some (.func (.func 43) #[] #[.pointer (some ⟨w.heap.size + 1, 0, none⟩), .pointer (some ⟨w.heap.size, 0, none⟩)]) ∧ Y.cell? ⟨Bx, 0, none⟩ = some (.int .i64 se) ∧ Y.cell? ⟨Bx, 1, none⟩ = some (.int .i64 sr) ∧ Y.cell? ⟨w.heap.size, 0, none⟩ = some (.int .i64 L) ∧ Y.cell? ⟨w.heap.size, 1, none⟩ = some (.int .i64 R) ∧ Y.cell? ⟨w.heap.size, 2, none⟩ = some (.int .i64 S) ∧ Y.cell? ⟨w.heap.size, 3, none⟩ = some (.int .i64 N) ∧ Y.cell? ⟨w.heap.size + 1, 0, none⟩ = some (.slice (some ad) l1.length c1) ∧ Y.cell? (ad.add k) = some (.int .i64 v)) ∧ Below X.heap.size X Y)) (by kernel_rfl) (by rfl) (hS _ (Below.refl _ _).drew) (fun hHeld => ?_)
     refine wpAnyH_take (i := 0) (oi := { dst := some 30, op := Go.Op.load 86 (Go.Operand.tmp 6), type := 86, pos := "steer.go:165", after := #[], guard := none }) (v := ?_) rfl (by kernel_rfl) (by kernel_rfl) (by kernel_rfl) (fun _ _ _ h => h.no.elim) (Or.inl ⟨by rfl, ?_⟩) (by assumption) ?_
     rotate_left 1
     ·(intro w_ hSw; (try dsimp only at hSw); go_simp; first | done | with_reducible rfl)
     (try simp only [Act.put, List.setIfInBounds_toArray, List.set_cons_zero, List.set_cons_succ])
     refine wpAnyH_take (i := 1) (oi := { dst := some 31, op := Go.Op.load 59 (Go.Operand.tmp 8), type := 59, pos := "steer.go:165", after := #[], guard := none }) (v := ?_) rfl (by kernel_rfl) (by kernel_rfl) (by kernel_rfl) (fun _ _ _ h => h.no.elim) (Or.inl ⟨by rfl, ?_⟩) (by assumption) ?_
     rotate_left 1
     ·(intro w_ hSw; (try dsimp only at hSw); go_simp; first | done | with_reducible rfl)
     (try simp only [Act.put, List.setIfInBounds_toArray, List.set_cons_zero, List.set_cons_succ])
     refine wpAnyH_ready (rs := [2]) (by kernel_rfl) (by simp) ?_
     refine AllReadyH.cons (o := { dst := some 32, op := Go.Op.call { callee := Go.Callee.value (Go.Operand.tmp 30), args := #[Go.Operand.tmp 31], argTypes := #[59] }, type := 4, pos := "steer.go:165", after := #[{ on := 0, ground := Go.Ground.data }, { on := 1, ground := Go.Ground.data }], guard := none }) rfl (fun K hK => ?_) AllReadyH.nil
     go_simp
     go_at_call 43
     refine (hs43 _ hHeld.2).mono ?_
     rintro en w1_ ⟨rfl, hB⟩
     try dsimp only
     refine hK.out _ _ ?_ (fun hHeld => ?_)
     ·exact hS _ (hHeld.2.trans (hB.mono hHeld.2.size))
     clear hK K
     (try simp only [Act.put, List.setIfInBounds_toArray, List.set_cons_zero, List.set_cons_succ])
     refine wpAnyH_take (i := 3) (oi := { dst := some 33, op := Go.Op.move (Go.Operand.tmp 32), type := 4, pos := "steer.go:165", after := #[{ on := 2, ground := Go.Ground.data }, { on := 2, ground := Go.Ground.chain }], guard := none }) (v := ?_) rfl (by kernel_rfl) (by kernel_rfl) (by kernel_rfl) (fun _ _ _ h => h.no.elim) (Or.inl ⟨by rfl, ?_⟩) (by assumption) ?_
     rotate_left 1
     ·(intro w_ hSw; (try dsimp only at hSw); go_simp; first | done | with_reducible rfl)
     (try simp only [Act.put, List.setIfInBounds_toArray, List.set_cons_zero, List.set_cons_succ])
     refine wpAnyH_take (i := 4) (oi := { dst := some 34, op := Go.Op.load 24 (Go.Operand.tmp 2), type := 24, pos := "steer.go:165", after := #[{ on := 3, ground := Go.Ground.guard }], guard := some (3, true) }) (v := undef) rfl (by kernel_rfl) (by kernel_rfl) (by kernel_rfl) (fun _ _ _ h => h.no.elim) (Or.inr ⟨by rfl, rfl⟩) (by assumption) ?_
     (try simp only [Act.put, List.setIfInBounds_toArray, List.set_cons_zero, List.set_cons_succ])
     refine wpAnyH_take (i := 5) (oi := { dst := some 35, op := Go.Op.load 59 (Go.Operand.tmp 8), type := 59, pos := "steer.go:165", after := #[{ on := 3, ground := Go.Ground.guard }], guard := some (3, true) }) (v := undef) rfl (by kernel_rfl) (by kernel_rfl) (by kernel_rfl) (fun _ _ _ h => h.no.elim) (Or.inr ⟨by rfl, rfl⟩) (by assumption) ?_
     (try simp only [Act.put, List.setIfInBounds_toArray, List.set_cons_zero, List.set_cons_succ])
     refine wpAnyH_take (i := 6) (oi := { dst := some 36, op := Go.Op.call { callee := Go.Callee.value (Go.Operand.func 46), args := #[Go.Operand.tmp 34, Go.Operand.tmp 35], argTypes := #[24, 59] }, type := 30, pos := "steer.go:165", after := #[{ on := 4, ground := Go.Ground.data }, { on := 5, ground := Go.Ground.data }, { on := 3, ground := Go.Ground.chain }, { on := 3, ground := Go.Ground.guard }], guard := some (3, true) }) (v := undef) rfl (by kernel_rfl) (by kernel_rfl) (by kernel_rfl) (fun _ _ _ h => h.no.elim) (Or.inr ⟨by rfl, rfl⟩) (by assumption) ?_
     (try simp only [Act.put, List.setIfInBounds_toArray, List.set_cons_zero, List.set_cons_succ])
     refine wpAnyH_take (i := 7) (oi := { dst := some 37, op := Go.Op.load 30 (Go.Operand.tmp 3), type := 30, pos := "steer.go:165", after := #[{ on := 3, ground := Go.Ground.guard }], guard := some (3, true) }) (v := undef) rfl (by kernel_rfl) (by kernel_rfl) (by kernel_rfl) (fun _ _ _ h => h.no.elim) (Or.inr ⟨by rfl, rfl⟩) (by assumption) ?_
     (try simp only [Act.put, List.setIfInBounds_toArray, List.set_cons_zero, List.set_cons_succ])
     refine wpAnyH_take (i := 8) (oi := { dst := some 38, op := Go.Op.move (Go.Operand.tmp 7), type := 3, pos := "steer.go:165", after := #[{ on := 3, ground := Go.Ground.guard }], guard := some (3, true) }) (v := undef) rfl (by kernel_rfl) (by kernel_rfl) (by kernel_rfl) (fun _ _ _ h => h.no.elim) (Or.inr ⟨by rfl, rfl⟩) (by assumption) ?_
     (try simp only [Act.put, List.setIfInBounds_toArray, List.set_cons_zero, List.set_cons_succ])
     refine wpAnyH_take (i := 9) (oi := { dst := some 39, op := Go.Op.indexAddr 30 (Go.Operand.tmp 37) (Go.Operand.tmp 38), type := 0, pos := "steer.go:165", after := #[{ on := 7, ground := Go.Ground.data }, { on := 8, ground := Go.Ground.data }, { on := 3, ground := Go.Ground.guard }], guard := some (3, true) }) (v := undef) rfl (by kernel_rfl) (by kernel_rfl) (by kernel_rfl) (fun _ _ _ h => h.no.elim) (Or.inr ⟨by rfl, rfl⟩) (by assumption) ?_
     (try simp only [Act.put, List.setIfInBounds_toArray, List.set_cons_zero, List.set_cons_succ])
     refine wpAnyH_take (i := 10) (oi := { dst := some 40, op := Go.Op.load 3 (Go.Operand.tmp 39), type := 3, pos := "steer.go:165", after := #[{ on := 9, ground := Go.Ground.data }, { on := 3, ground := Go.Ground.guard }], guard := some (3, true) }) (v := undef) rfl (by kernel_rfl) (by kernel_rfl) (by kernel_rfl) (fun _ _ _ h => h.no.elim) (Or.inr ⟨by rfl, rfl⟩) (by assumption) ?_
     (try simp only [Act.put, List.setIfInBounds_toArray, List.set_cons_zero, List.set_cons_succ])
     refine wpAnyH_take (i := 11) (oi := { dst := some 41, op := Go.Op.call { callee := Go.Callee.value (Go.Operand.func 45), args := #[Go.Operand.tmp 36, Go.Operand.tmp 40], argTypes := #[30, 3] }, type := 4, pos := "steer.go:165", after := #[{ on := 6, ground := Go.Ground.data }, { on := 10, ground := Go.Ground.data }, { on := 6, ground := Go.Ground.chain }, { on := 3, ground := Go.Ground.guard }], guard := some (3, true) }) (v := undef) rfl (by kernel_rfl) (by kernel_rfl) (by kernel_rfl) (fun _ _ _ h => h.no.elim) (Or.inr ⟨by rfl, rfl⟩) (by assumption) ?_
     (try simp only [Act.put, List.setIfInBounds_toArray, List.set_cons_zero, List.set_cons_succ])
     refine wpAnyH_take (i := 12) (oi := { dst := some 42, op := Go.Op.unOp Go.UnOp.not 4 (Go.Operand.tmp 41), type := 4, pos := "steer.go:165", after := #[{ on := 11, ground := Go.Ground.data }, { on := 3, ground := Go.Ground.guard }], guard := some (3, true) }) (v := undef) rfl (by kernel_rfl) (by kernel_rfl) (by kernel_rfl) (fun _ _ _ h => h.no.elim) (Or.inr ⟨by rfl, rfl⟩) (by assumption) ?_
     (try simp only [Act.put, List.setIfInBounds_toArray, List.set_cons_zero, List.set_cons_succ])
     refine wpAnyH_take (i := 13) (oi := { dst := some 43, op := Go.Op.move (Go.Operand.tmp 42), type := 4, pos := "steer.go:165", after := #[{ on := 12, ground := Go.Ground.data }, { on := 11, ground := Go.Ground.chain }, { on := 3, ground := Go.Ground.guard }], guard := some (3, true) }) (v := undef) rfl (by kernel_rfl) (by kernel_rfl) (by kernel_rfl) (fun _ _ _ h => h.no.elim) (Or.inr ⟨by rfl, rfl⟩) (by assumption) ?_
     (try simp only [Act.put, List.setIfInBounds_toArray, List.set_cons_zero, List.set_cons_succ])
     refine wpAnyH_take (i := 14) (oi := { dst := some 44, op := Go.Op.load 24 (Go.Operand.tmp 2), type := 24, pos := "steer.go:165", after := #[{ on := 13, ground := Go.Ground.guard }], guard := some (13, false) }) (v := undef) rfl (by kernel_rfl) (by kernel_rfl) (by kernel_rfl) (fun _ _ _ h => h.no.elim) (Or.inr ⟨by rfl, rfl⟩) (by assumption) ?_
     (try simp only [Act.put, List.setIfInBounds_toArray, List.set_cons_zero, List.set_cons_succ])
     refine wpAnyH_take (i := 15) (oi := { dst := some 45, op := Go.Op.load 59 (Go.Operand.tmp 8), type := 59, pos := "steer.go:165", after := #[{ on := 13, ground := Go.Ground.guard }], guard := some (13, false) }) (v := undef) rfl (by kernel_rfl) (by kernel_rfl) (by kernel_rfl) (fun _ _ _ h => h.no.elim) (Or.inr ⟨by rfl, rfl⟩) (by assumption) ?_
     (try simp only [Act.put, List.setIfInBounds_toArray, List.set_cons_zero, List.set_cons_succ])
     refine wpAnyH_take (i := 16) (oi := { dst := some 46, op := Go.Op.load 30 (Go.Operand.tmp 3), type := 30, pos := "steer.go:165", after := #[{ on := 13, ground := Go.Ground.guard }], guard := some (13, false) }) (v := undef) rfl (by kernel_rfl) (by kernel_rfl) (by kernel_rfl) (fun _ _ _ h => h.no.elim) (Or.inr ⟨by rfl, rfl⟩) (by assumption) ?_
     (try simp only [Act.put, List.setIfInBounds_toArray, List.set_cons_zero, List.set_cons_succ])
     refine wpAnyH_take (i := 17) (oi := { dst := some 47, op := Go.Op.move (Go.Operand.tmp 7), type := 3, pos := "steer.go:165", after := #[{ on := 13, ground := Go.Ground.guard }], guard := some (13, false) }) (v := undef) rfl (by kernel_rfl) (by kernel_rfl) (by kernel_rfl) (fun _ _ _ h => h.no.elim) (Or.inr ⟨by rfl, rfl⟩) (by assumption) ?_
     (try simp only [Act.put, List.setIfInBounds_toArray, List.set_cons_zero, List.set_cons_succ])
     refine wpAnyH_take (i := 18) (oi := { dst := some 48, op := Go.Op.indexAddr 30 (Go.Operand.tmp 46) (Go.Operand.tmp 47), type := 0, pos := "steer.go:165", after := #[{ on := 16, ground := Go.Ground.data }, { on := 17, ground := Go.Ground.data }, { on := 13, ground := Go.Ground.guard }], guard := some (13, false) }) (v := undef) rfl (by kernel_rfl) (by kernel_rfl) (by kernel_rfl) (fun _ _ _ h => h.no.elim) (Or.inr ⟨by rfl, rfl⟩) (by assumption) ?_
     (try simp only [Act.put, List.setIfInBounds_toArray, List.set_cons_zero, List.set_cons_succ])
     refine wpAnyH_take (i := 19) (oi := { dst := some 49, op := Go.Op.load 3 (Go.Operand.tmp 48), type := 3, pos := "steer.go:165", after := #[{ on := 18, ground := Go.Ground.data }, { on := 13, ground := Go.Ground.guard }], guard := some (13, false) }) (v := undef) rfl (by kernel_rfl) (by kernel_rfl) (by kernel_rfl) (fun _ _ _ h => h.no.elim) (Or.inr ⟨by rfl, rfl⟩) (by assumption) ?_
     (try simp only [Act.put, List.setIfInBounds_toArray, List.set_cons_zero, List.set_cons_succ])
     refine wpAnyH_take (i := 20) (oi := { dst := some 50, op := Go.Op.load 86 (Go.Operand.tmp 6), type := 86, pos := "steer.go:165", after := #[{ on := 13, ground := Go.Ground.guard }], guard := some (13, false) }) (v := undef) rfl (by kernel_rfl) (by kernel_rfl) (by kernel_rfl) (fun _ _ _ h => h.no.elim) (Or.inr ⟨by rfl, rfl⟩) (by assumption) ?_
     (try simp only [Act.put, List.setIfInBounds_toArray, List.set_cons_zero, List.set_cons_succ])
     refine wpAnyH_take (i := 21) (oi := { dst := some 51, op := Go.Op.call { callee := Go.Callee.value (Go.Operand.func 47), args := #[Go.Operand.tmp 44, Go.Operand.tmp 45, Go.Operand.tmp 49, Go.Operand.tmp 50], argTypes := #[24, 59, 3, 86] }, type := 4, pos := "steer.go:165", after := #[{ on := 14, ground := Go.Ground.data }, { on := 15, ground := Go.Ground.data }, { on := 19, ground := Go.Ground.data }, { on := 20, ground := Go.Ground.data }, { on := 13, ground := Go.Ground.chain }, { on := 13, ground := Go.Ground.guard }], guard := some (13, false) }) (v := undef) rfl (by kernel_rfl) (by kernel_rfl) (by kernel_rfl) (fun _ _ _ h => h.no.elim) (Or.inr ⟨by rfl, rfl⟩) (by assumption) ?_
     (try simp only [Act.put, List.setIfInBounds_toArray, List.set_cons_zero, List.set_cons_succ])
     refine wpAnyH_take (i := 22) (oi := { dst := some 52, op := Go.Op.unOp Go.UnOp.not 4 (Go.Operand.tmp 51), type := 4, pos := "steer.go:165", after := #[{ on := 21, ground := Go.Ground.data }, { on := 13, ground := Go.Ground.guard }], guard := some (13, false) }) (v := undef) rfl (by kernel_rfl) (by kernel_rfl) (by kernel_rfl) (fun _ _ _ h => h.no.elim) (Or.inr ⟨by rfl, rfl⟩) (by assumption) ?_
     (try simp only [Act.put, List.setIfInBounds_toArray, List.set_cons_zero, List.set_cons_succ])
     refine wpAnyH_take (i := 23) (oi := { dst := some 53, op := Go.Op.pick (Go.Operand.tmp 43) (Go.Operand.const (Go.Value.bool true)) (Go.Operand.tmp 52), type := 4, pos := "steer.go:165", after := #[{ on := 13, ground := Go.Ground.data }, { on := 22, ground := Go.Ground.data }, { on := 3, ground := Go.Ground.guard }], guard := some (3, true) }) (v := undef) rfl (by kernel_rfl) (by kernel_rfl) (by kernel_rfl) (fun _ _ _ h => h.no.elim) (Or.inr ⟨by rfl, rfl⟩) (by assumption) ?_
     (try simp only [Act.put, List.setIfInBounds_toArray, List.set_cons_zero, List.set_cons_succ])
     refine wpAnyH_take (i := 24) (oi := { dst := some 54, op := Go.Op.pick (Go.Operand.tmp 33) (Go.Operand.tmp 53) (Go.Operand.const (Go.Value.bool false)), type := 4, pos := "steer.go:165", after := #[{ on := 3, ground := Go.Ground.data }, { on := 23, ground := Go.Ground.data }], guard := none }) (v := ?_) rfl (by kernel_rfl) (by kernel_rfl) (by kernel_rfl) (fun _ _ _ h => h.no.elim) (Or.inl ⟨by rfl, ?_⟩) (by assumption) ?_
     rotate_left 1
     ·(intro w_ hSw; (try dsimp only at hSw); go_simp; first | done | with_reducible rfl)
     (try simp only [Act.put, List.setIfInBounds_toArray, List.set_cons_zero, List.set_cons_succ])
     refine wpAnyH_done (by kernel_rfl) ?_ _
     refine OnlyOn.on ?_
     gi_wp2
     have hBo := hHeld.2
     exact ⟨(keeps_of_below hBo).from _, fun b hb => hBo.block b (by have := HBB.out.size; simp at hb; omega), by rw [HUN.out, hmk]; rfl, HBB.out.trans (hBo.mono HBB.out.size)⟩
    | true =>
     rw [hg] at hs43 hmk
     clear hg
     cases hcn : (ratesL R S sr).contains v with
     | false =>
      rw [hcn] at hmk
      have hct := hct v
      rw [hcn] at hct
      clear hs47
      gi_wp2
      refine region_round (S := fun Y => ((Y.cell? ⟨W2.heap.size, 0, none⟩ = some (.func (.func 43) #[] #[.pointer (some ⟨w.heap.size + 1, 0, none⟩), .pointer (some ⟨w.heap.size, 0, none⟩)]) ∧ Y.cell? ⟨Bx, 0, none⟩ = some (.int .i64 se) ∧ Y.cell? ⟨Bx, 1, none⟩ = some (.int .i64 sr) ∧ Y.cell? ⟨w.heap.size, 0, none⟩ = some (.int .i64 L) ∧ Y.cell? ⟨w.heap.size, 1, none⟩ = some (.int .i64 R) ∧ Y.cell? ⟨w.heap.size, 2, none⟩ = some (.int .i64 S) ∧ Y.cell? ⟨w.heap.size, 3, none⟩ = some (.int .i64 N) ∧ Y.cell? ⟨w.heap.size + 1, 0, none⟩ = some (.slice (some ad) l1.length c1) ∧ Y.cell? (ad.add k) = some (.int .i64 v)) ∧ Below X.heap.size X Y)) (by kernel_rfl) (by rfl) (hS _ (Below.refl _ _).drew) (fun hHeld => ?_)
      refine wpAnyH_take (i := 0) (oi := { dst := some 30, op := Go.Op.load 86 (Go.Operand.tmp 6), type := 86, pos := "steer.go:165", after := #[], guard := none }) (v := ?_) rfl (by kernel_rfl) (by kernel_rfl) (by kernel_rfl) (fun _ _ _ h => h.no.elim) (Or.inl ⟨by rfl, ?_⟩) (by assumption) ?_
      rotate_left 1
      ·(intro w_ hSw; (try dsimp only at hSw); go_simp; first | done | with_reducible rfl)
      (try simp only [Act.put, List.setIfInBounds_toArray, List.set_cons_zero, List.set_cons_succ])
      refine wpAnyH_take (i := 1) (oi := { dst := some 31, op := Go.Op.load 59 (Go.Operand.tmp 8), type := 59, pos := "steer.go:165", after := #[], guard := none }) (v := ?_) rfl (by kernel_rfl) (by kernel_rfl) (by kernel_rfl) (fun _ _ _ h => h.no.elim) (Or.inl ⟨by rfl, ?_⟩) (by assumption) ?_
      rotate_left 1
      ·(intro w_ hSw; (try dsimp only at hSw); go_simp; first | done | with_reducible rfl)
      (try simp only [Act.put, List.setIfInBounds_toArray, List.set_cons_zero, List.set_cons_succ])
      refine wpAnyH_ready (rs := [2]) (by kernel_rfl) (by simp) ?_
      refine AllReadyH.cons (o := { dst := some 32, op := Go.Op.call { callee := Go.Callee.value (Go.Operand.tmp 30), args := #[Go.Operand.tmp 31], argTypes := #[59] }, type := 4, pos := "steer.go:165", after := #[{ on := 0, ground := Go.Ground.data }, { on := 1, ground := Go.Ground.data }], guard := none }) rfl (fun K hK => ?_) AllReadyH.nil
      go_simp
      go_at_call 43
      refine (hs43 _ hHeld.2).mono ?_
      rintro en w1_ ⟨rfl, hB⟩
      try dsimp only
      refine hK.out _ _ ?_ (fun hHeld => ?_)
      ·exact hS _ (hHeld.2.trans (hB.mono hHeld.2.size))
      clear hK K
      (try simp only [Act.put, List.setIfInBounds_toArray, List.set_cons_zero, List.set_cons_succ])
      refine wpAnyH_take (i := 3) (oi := { dst := some 33, op := Go.Op.move (Go.Operand.tmp 32), type := 4, pos := "steer.go:165", after := #[{ on := 2, ground := Go.Ground.data }, { on := 2, ground := Go.Ground.chain }], guard := none }) (v := ?_) rfl (by kernel_rfl) (by kernel_rfl) (by kernel_rfl) (fun _ _ _ h => h.no.elim) (Or.inl ⟨by rfl, ?_⟩) (by assumption) ?_
      rotate_left 1
      ·(intro w_ hSw; (try dsimp only at hSw); go_simp; first | done | with_reducible rfl)
      (try simp only [Act.put, List.setIfInBounds_toArray, List.set_cons_zero, List.set_cons_succ])
      refine wpAnyH_take (i := 4) (oi := { dst := some 34, op := Go.Op.load 24 (Go.Operand.tmp 2), type := 24, pos := "steer.go:165", after := #[{ on := 3, ground := Go.Ground.guard }], guard := some (3, true) }) (v := ?_) rfl (by kernel_rfl) (by kernel_rfl) (by kernel_rfl) (fun _ _ _ h => h.no.elim) (Or.inl ⟨by rfl, ?_⟩) (by assumption) ?_
      rotate_left 1
      ·(intro w_ hSw; (try dsimp only at hSw); go_simp; first | done | with_reducible rfl)
      (try simp only [Act.put, List.setIfInBounds_toArray, List.set_cons_zero, List.set_cons_succ])
      refine wpAnyH_take (i := 5) (oi := { dst := some 35, op := Go.Op.load 59 (Go.Operand.tmp 8), type := 59, pos := "steer.go:165", after := #[{ on := 3, ground := Go.Ground.guard }], guard := some (3, true) }) (v := ?_) rfl (by kernel_rfl) (by kernel_rfl) (by kernel_rfl) (fun _ _ _ h => h.no.elim) (Or.inl ⟨by rfl, ?_⟩) (by assumption) ?_
      rotate_left 1
      ·(intro w_ hSw; (try dsimp only at hSw); go_simp; first | done | with_reducible rfl)
      (try simp only [Act.put, List.setIfInBounds_toArray, List.set_cons_zero, List.set_cons_succ])
      refine wpAnyH_take (i := 7) (oi := { dst := some 37, op := Go.Op.load 30 (Go.Operand.tmp 3), type := 30, pos := "steer.go:165", after := #[{ on := 3, ground := Go.Ground.guard }], guard := some (3, true) }) (v := ?_) rfl (by kernel_rfl) (by kernel_rfl) (by kernel_rfl) (fun _ _ _ h => h.no.elim) (Or.inl ⟨by rfl, ?_⟩) (by assumption) ?_
      rotate_left 1
      ·(intro w_ hSw; (try dsimp only at hSw); go_simp; first | done | with_reducible rfl)
      (try simp only [Act.put, List.setIfInBounds_toArray, List.set_cons_zero, List.set_cons_succ])
      refine wpAnyH_take (i := 8) (oi := { dst := some 38, op := Go.Op.move (Go.Operand.tmp 7), type := 3, pos := "steer.go:165", after := #[{ on := 3, ground := Go.Ground.guard }], guard := some (3, true) }) (v := ?_) rfl (by kernel_rfl) (by kernel_rfl) (by kernel_rfl) (fun _ _ _ h => h.no.elim) (Or.inl ⟨by rfl, ?_⟩) (by assumption) ?_
      rotate_left 1
      ·(intro w_ hSw; (try dsimp only at hSw); go_simp; first | done | with_reducible rfl)
      (try simp only [Act.put, List.setIfInBounds_toArray, List.set_cons_zero, List.set_cons_succ])
      refine wpAnyH_take (i := 9) (oi := { dst := some 39, op := Go.Op.indexAddr 30 (Go.Operand.tmp 37) (Go.Operand.tmp 38), type := 0, pos := "steer.go:165", after := #[{ on := 7, ground := Go.Ground.data }, { on := 8, ground := Go.Ground.data }, { on := 3, ground := Go.Ground.guard }], guard := some (3, true) }) (v := ?_) rfl (by kernel_rfl) (by kernel_rfl) (by kernel_rfl) (fun _ _ _ h => h.no.elim) (Or.inl ⟨by rfl, ?_⟩) (by assumption) ?_
      rotate_left 1
      ·(intro w_ hSw; (try dsimp only at hSw); go_simp; first | done | with_reducible rfl)
      (try simp only [Act.put, List.setIfInBounds_toArray, List.set_cons_zero, List.set_cons_succ])
      refine wpAnyH_take (i := 10) (oi := { dst := some 40, op := Go.Op.load 3 (Go.Operand.tmp 39), type := 3, pos := "steer.go:165", after := #[{ on := 9, ground := Go.Ground.data }, { on := 3, ground := Go.Ground.guard }], guard := some (3, true) }) (v := ?_) rfl (by kernel_rfl) (by kernel_rfl) (by kernel_rfl) (fun _ _ _ h => h.no.elim) (Or.inl ⟨by rfl, ?_⟩) (by assumption) ?_
      rotate_left 1
      ·(intro w_ hSw; (try dsimp only at hSw); go_simp; first | done | with_reducible rfl)
      (try simp only [Act.put, List.setIfInBounds_toArray, List.set_cons_zero, List.set_cons_succ])
      refine wpAnyH_ready (rs := [6]) (by kernel_rfl) (by simp) ?_
      refine AllReadyH.cons (o := { dst := some 36, op := Go.Op.call { callee := Go.Callee.value (Go.Operand.func 46), args := #[Go.Operand.tmp 34, Go.Operand.tmp 35], argTypes := #[24, 59] }, type := 30, pos := "steer.go:165", after := #[{ on := 4, ground := Go.Ground.data }, { on := 5, ground := Go.Ground.data }, { on := 3, ground := Go.Ground.chain }, { on := 3, ground := Go.Ground.guard }], guard := some (3, true) }) rfl (fun K hK => ?_) AllReadyH.nil
      go_simp
      go_at_call 46
      refine (hs46 _).mono ?_
      rintro en w1_ ⟨v0_, gb, cap, rfl, rfl, hcap, hRC, hB⟩
      try dsimp only
      refine hK.out _ _ ?_ (fun hHeld => ?_)
      ·exact hS _ (hHeld.2.trans (hB.mono hHeld.2.size))
      clear hK K
      (try simp only [Act.put, List.setIfInBounds_toArray, List.set_cons_zero, List.set_cons_succ])
      refine wpAnyH_ready (rs := [11]) (by kernel_rfl) (by simp) ?_
      refine AllReadyH.cons (o := { dst := some 41, op := Go.Op.call { callee := Go.Callee.value (Go.Operand.func 45), args := #[Go.Operand.tmp 36, Go.Operand.tmp 40], argTypes := #[30, 3] }, type := 4, pos := "steer.go:165", after := #[{ on := 6, ground := Go.Ground.data }, { on := 10, ground := Go.Ground.data }, { on := 6, ground := Go.Ground.chain }, { on := 3, ground := Go.Ground.guard }], guard := some (3, true) }) rfl (fun K hK => ?_) AllReadyH.nil
      go_simp
      go_at_call 45
      refine (slices_Contains_int_int.calls 1001 _ _ _ _ _ _ hRC hcap hct).mono ?_
      rintro en w1_ ⟨rfl, hDr⟩
      have hB := hDr.below
      try dsimp only
      refine hK.out _ _ ?_ (fun hHeld => ?_)
      ·exact hS _ (hHeld.2.trans (hB.mono hHeld.2.size))
      clear hK K
      (try simp only [Act.put, List.setIfInBounds_toArray, List.set_cons_zero, List.set_cons_succ])
      refine wpAnyH_take (i := 12) (oi := { dst := some 42, op := Go.Op.unOp Go.UnOp.not 4 (Go.Operand.tmp 41), type := 4, pos := "steer.go:165", after := #[{ on := 11, ground := Go.Ground.data }, { on := 3, ground := Go.Ground.guard }], guard := some (3, true) }) (v := ?_) rfl (by kernel_rfl) (by kernel_rfl) (by kernel_rfl) (fun _ _ _ h => h.no.elim) (Or.inl ⟨by rfl, ?_⟩) (by assumption) ?_
      rotate_left 1
      ·(intro w_ hSw; (try dsimp only at hSw); go_simp; first | done | with_reducible rfl)
      (try simp only [Act.put, List.setIfInBounds_toArray, List.set_cons_zero, List.set_cons_succ])
      refine wpAnyH_take (i := 13) (oi := { dst := some 43, op := Go.Op.move (Go.Operand.tmp 42), type := 4, pos := "steer.go:165", after := #[{ on := 12, ground := Go.Ground.data }, { on := 11, ground := Go.Ground.chain }, { on := 3, ground := Go.Ground.guard }], guard := some (3, true) }) (v := ?_) rfl (by kernel_rfl) (by kernel_rfl) (by kernel_rfl) (fun _ _ _ h => h.no.elim) (Or.inl ⟨by rfl, ?_⟩) (by assumption) ?_
      rotate_left 1
      ·(intro w_ hSw; (try dsimp only at hSw); go_simp; first | done | with_reducible rfl)
      (try simp only [Act.put, List.setIfInBounds_toArray, List.set_cons_zero, List.set_cons_succ])
      refine wpAnyH_take (i := 14) (oi := { dst := some 44, op := Go.Op.load 24 (Go.Operand.tmp 2), type := 24, pos := "steer.go:165", after := #[{ on := 13, ground := Go.Ground.guard }], guard := some (13, false) }) (v := undef) rfl (by kernel_rfl) (by kernel_rfl) (by kernel_rfl) (fun _ _ _ h => h.no.elim) (Or.inr ⟨by rfl, rfl⟩) (by assumption) ?_
      (try simp only [Act.put, List.setIfInBounds_toArray, List.set_cons_zero, List.set_cons_succ])
      refine wpAnyH_take (i := 15) (oi := { dst := some 45, op := Go.Op.load 59 (Go.Operand.tmp 8), type := 59, pos := "steer.go:165", after := #[{ on := 13, ground := Go.Ground.guard }], guard := some (13, false) }) (v := undef) rfl (by kernel_rfl) (by kernel_rfl) (by kernel_rfl) (fun _ _ _ h => h.no.elim) (Or.inr ⟨by rfl, rfl⟩) (by assumption) ?_
      (try simp only [Act.put, List.setIfInBounds_toArray, List.set_cons_zero, List.set_cons_succ])
      refine wpAnyH_take (i := 16) (oi := { dst := some 46, op := Go.Op.load 30 (Go.Operand.tmp 3), type := 30, pos := "steer.go:165", after := #[{ on := 13, ground := Go.Ground.guard }], guard := some (13, false) }) (v := undef) rfl (by kernel_rfl) (by kernel_rfl) (by kernel_rfl) (fun _ _ _ h => h.no.elim) (Or.inr ⟨by rfl, rfl⟩) (by assumption) ?_
      (try simp only [Act.put, List.setIfInBounds_toArray, List.set_cons_zero, List.set_cons_succ])
      refine wpAnyH_take (i := 17) (oi := { dst := some 47, op := Go.Op.move (Go.Operand.tmp 7), type := 3, pos := "steer.go:165", after := #[{ on := 13, ground := Go.Ground.guard }], guard := some (13, false) }) (v := undef) rfl (by kernel_rfl) (by kernel_rfl) (by kernel_rfl) (fun _ _ _ h => h.no.elim) (Or.inr ⟨by rfl, rfl⟩) (by assumption) ?_
      (try simp only [Act.put, List.setIfInBounds_toArray, List.set_cons_zero, List.set_cons_succ])
      refine wpAnyH_take (i := 18) (oi := { dst := some 48, op := Go.Op.indexAddr 30 (Go.Operand.tmp 46) (Go.Operand.tmp 47), type := 0, pos := "steer.go:165", after := #[{ on := 16, ground := Go.Ground.data }, { on := 17, ground := Go.Ground.data }, { on := 13, ground := Go.Ground.guard }], guard := some (13, false) }) (v := undef) rfl (by kernel_rfl) (by kernel_rfl) (by kernel_rfl) (fun _ _ _ h => h.no.elim) (Or.inr ⟨by rfl, rfl⟩) (by assumption) ?_
      (try simp only [Act.put, List.setIfInBounds_toArray, List.set_cons_zero, List.set_cons_succ])
      refine wpAnyH_take (i := 19) (oi := { dst := some 49, op := Go.Op.load 3 (Go.Operand.tmp 48), type := 3, pos := "steer.go:165", after := #[{ on := 18, ground := Go.Ground.data }, { on := 13, ground := Go.Ground.guard }], guard := some (13, false) }) (v := undef) rfl (by kernel_rfl) (by kernel_rfl) (by kernel_rfl) (fun _ _ _ h => h.no.elim) (Or.inr ⟨by rfl, rfl⟩) (by assumption) ?_
      (try simp only [Act.put, List.setIfInBounds_toArray, List.set_cons_zero, List.set_cons_succ])
      refine wpAnyH_take (i := 20) (oi := { dst := some 50, op := Go.Op.load 86 (Go.Operand.tmp 6), type := 86, pos := "steer.go:165", after := #[{ on := 13, ground := Go.Ground.guard }], guard := some (13, false) }) (v := undef) rfl (by kernel_rfl) (by kernel_rfl) (by kernel_rfl) (fun _ _ _ h => h.no.elim) (Or.inr ⟨by rfl, rfl⟩) (by assumption) ?_
      (try simp only [Act.put, List.setIfInBounds_toArray, List.set_cons_zero, List.set_cons_succ])
      refine wpAnyH_take (i := 21) (oi := { dst := some 51, op := Go.Op.call { callee := Go.Callee.value (Go.Operand.func 47), args := #[Go.Operand.tmp 44, Go.Operand.tmp 45, Go.Operand.tmp 49, Go.Operand.tmp 50], argTypes := #[24, 59, 3, 86] }, type := 4, pos := "steer.go:165", after := #[{ on := 14, ground := Go.Ground.data }, { on := 15, ground := Go.Ground.data }, { on := 19, ground := Go.Ground.data }, { on := 20, ground := Go.Ground.data }, { on := 13, ground := Go.Ground.chain }, { on := 13, ground := Go.Ground.guard }], guard := some (13, false) }) (v := undef) rfl (by kernel_rfl) (by kernel_rfl) (by kernel_rfl) (fun _ _ _ h => h.no.elim) (Or.inr ⟨by rfl, rfl⟩) (by assumption) ?_
      (try simp only [Act.put, List.setIfInBounds_toArray, List.set_cons_zero, List.set_cons_succ])
      refine wpAnyH_take (i := 22) (oi := { dst := some 52, op := Go.Op.unOp Go.UnOp.not 4 (Go.Operand.tmp 51), type := 4, pos := "steer.go:165", after := #[{ on := 21, ground := Go.Ground.data }, { on := 13, ground := Go.Ground.guard }], guard := some (13, false) }) (v := undef) rfl (by kernel_rfl) (by kernel_rfl) (by kernel_rfl) (fun _ _ _ h => h.no.elim) (Or.inr ⟨by rfl, rfl⟩) (by assumption) ?_
      (try simp only [Act.put, List.setIfInBounds_toArray, List.set_cons_zero, List.set_cons_succ])
      refine wpAnyH_take (i := 23) (oi := { dst := some 53, op := Go.Op.pick (Go.Operand.tmp 43) (Go.Operand.const (Go.Value.bool true)) (Go.Operand.tmp 52), type := 4, pos := "steer.go:165", after := #[{ on := 13, ground := Go.Ground.data }, { on := 22, ground := Go.Ground.data }, { on := 3, ground := Go.Ground.guard }], guard := some (3, true) }) (v := ?_) rfl (by kernel_rfl) (by kernel_rfl) (by kernel_rfl) (fun _ _ _ h => h.no.elim) (Or.inl ⟨by rfl, ?_⟩) (by assumption) ?_
      rotate_left 1
      ·(intro w_ hSw; (try dsimp only at hSw); go_simp; first | done | with_reducible rfl)
      (try simp only [Act.put, List.setIfInBounds_toArray, List.set_cons_zero, List.set_cons_succ])
      refine wpAnyH_take (i := 24) (oi := { dst := some 54, op := Go.Op.pick (Go.Operand.tmp 33) (Go.Operand.tmp 53) (Go.Operand.const (Go.Value.bool false)), type := 4, pos := "steer.go:165", after := #[{ on := 3, ground := Go.Ground.data }, { on := 23, ground := Go.Ground.data }], guard := none }) (v := ?_) rfl (by kernel_rfl) (by kernel_rfl) (by kernel_rfl) (fun _ _ _ h => h.no.elim) (Or.inl ⟨by rfl, ?_⟩) (by assumption) ?_
      rotate_left 1
      ·(intro w_ hSw; (try dsimp only at hSw); go_simp; first | done | with_reducible rfl)
      (try simp only [Act.put, List.setIfInBounds_toArray, List.set_cons_zero, List.set_cons_succ])
      refine wpAnyH_done (by kernel_rfl) ?_ _
      refine OnlyOn.on ?_
      have hBo := hHeld.2
      have b4 := (hBo.block _ lt4).trans HK4.out
      have c4 := (show ∀ Y : World, Y.heap[w.heap.size + 1 + 1]? = some (.cells #[.int .i64 0] 26 (0, 0)) → Y.cell? ⟨w.heap.size + 1 + 1, 0, none⟩ = some (.int .i64 0) from fun Y h => by simp [World.cell?, h]) _ b4
      have c4f := (show ∀ Y : World, Y.heap[w.heap.size + 1 + 1]? = some (.cells #[.int .i64 0] 26 (0, 0)) → Y.frozen? ⟨w.heap.size + 1 + 1, 0, none⟩ = false from fun Y h => by simp [World.frozen?, h]) _ b4
      gi_wp2
      exact ⟨((keeps_of_below hBo).trans (KeepsOthers.setCell _ _ _)).from _, ⟨rfl, by rw [HUN.out, hmk]; rfl⟩, Boxed.set _ b4, Below.setCell (HBX.out.trans (hBo.mono HBX.out.size)) (p := ⟨w.heap.size + 1 + 1, 0, none⟩) (by simp; omega) _⟩
     | true =>
      have hs47 := hs47 hcn
      rw [hcn] at hmk
      have hct := hct v
      rw [hcn] at hct
      cases hh : holdsB L R N se v (goodO L R l1) with
      | false =>
       rw [hh] at hs47 hmk
       clear hh
       gi_wp2
       refine region_round (S := fun Y => ((Y.cell? ⟨W2.heap.size, 0, none⟩ = some (.func (.func 43) #[] #[.pointer (some ⟨w.heap.size + 1, 0, none⟩), .pointer (some ⟨w.heap.size, 0, none⟩)]) ∧ Y.cell? ⟨Bx, 0, none⟩ = some (.int .i64 se) ∧ Y.cell? ⟨Bx, 1, none⟩ = some (.int .i64 sr) ∧ Y.cell? ⟨w.heap.size, 0, none⟩ = some (.int .i64 L) ∧ Y.cell? ⟨w.heap.size, 1, none⟩ = some (.int .i64 R) ∧ Y.cell? ⟨w.heap.size, 2, none⟩ = some (.int .i64 S) ∧ Y.cell? ⟨w.heap.size, 3, none⟩ = some (.int .i64 N) ∧ Y.cell? ⟨w.heap.size + 1, 0, none⟩ = some (.slice (some ad) l1.length c1) ∧ Y.cell? (ad.add k) = some (.int .i64 v)) ∧ Below X.heap.size X Y)) (by kernel_rfl) (by rfl) (hS _ (Below.refl _ _).drew) (fun hHeld => ?_)
       refine wpAnyH_take (i := 0) (oi := { dst := some 30, op := Go.Op.load 86 (Go.Operand.tmp 6), type := 86, pos := "steer.go:165", after := #[], guard := none }) (v := ?_) rfl (by kernel_rfl) (by kernel_rfl) (by kernel_rfl) (fun _ _ _ h => h.no.elim) (Or.inl ⟨by rfl, ?_⟩) (by assumption) ?_
       rotate_left 1
       ·(intro w_ hSw; (try dsimp only at hSw); go_simp; first | done | with_reducible rfl)
       (try simp only [Act.put, List.setIfInBounds_toArray, List.set_cons_zero, List.set_cons_succ])
       refine wpAnyH_take (i := 1) (oi := { dst := some 31, op := Go.Op.load 59 (Go.Operand.tmp 8), type := 59, pos := "steer.go:165", after := #[], guard := none }) (v := ?_) rfl (by kernel_rfl) (by kernel_rfl) (by kernel_rfl) (fun _ _ _ h => h.no.elim) (Or.inl ⟨by rfl, ?_⟩) (by assumption) ?_
       rotate_left 1
       ·(intro w_ hSw; (try dsimp only at hSw); go_simp; first | done | with_reducible rfl)
       (try simp only [Act.put, List.setIfInBounds_toArray, List.set_cons_zero, List.set_cons_succ])
       refine wpAnyH_ready (rs := [2]) (by kernel_rfl) (by simp) ?_
       refine AllReadyH.cons (o := { dst := some 32, op := Go.Op.call { callee := Go.Callee.value (Go.Operand.tmp 30), args := #[Go.Operand.tmp 31], argTypes := #[59] }, type := 4, pos := "steer.go:165", after := #[{ on := 0, ground := Go.Ground.data }, { on := 1, ground := Go.Ground.data }], guard := none }) rfl (fun K hK => ?_) AllReadyH.nil
       go_simp
       go_at_call 43
       refine (hs43 _ hHeld.2).mono ?_
       rintro en w1_ ⟨rfl, hB⟩
       try dsimp only
       refine hK.out _ _ ?_ (fun hHeld => ?_)
       ·exact hS _ (hHeld.2.trans (hB.mono hHeld.2.size))
       clear hK K
       (try simp only [Act.put, List.setIfInBounds_toArray, List.set_cons_zero, List.set_cons_succ])
       refine wpAnyH_take (i := 3) (oi := { dst := some 33, op := Go.Op.move (Go.Operand.tmp 32), type := 4, pos := "steer.go:165", after := #[{ on := 2, ground := Go.Ground.data }, { on := 2, ground := Go.Ground.chain }], guard := none }) (v := ?_) rfl (by kernel_rfl) (by kernel_rfl) (by kernel_rfl) (fun _ _ _ h => h.no.elim) (Or.inl ⟨by rfl, ?_⟩) (by assumption) ?_
       rotate_left 1
       ·(intro w_ hSw; (try dsimp only at hSw); go_simp; first | done | with_reducible rfl)
       (try simp only [Act.put, List.setIfInBounds_toArray, List.set_cons_zero, List.set_cons_succ])
       refine wpAnyH_take (i := 4) (oi := { dst := some 34, op := Go.Op.load 24 (Go.Operand.tmp 2), type := 24, pos := "steer.go:165", after := #[{ on := 3, ground := Go.Ground.guard }], guard := some (3, true) }) (v := ?_) rfl (by kernel_rfl) (by kernel_rfl) (by kernel_rfl) (fun _ _ _ h => h.no.elim) (Or.inl ⟨by rfl, ?_⟩) (by assumption) ?_
       rotate_left 1
       ·(intro w_ hSw; (try dsimp only at hSw); go_simp; first | done | with_reducible rfl)
       (try simp only [Act.put, List.setIfInBounds_toArray, List.set_cons_zero, List.set_cons_succ])
       refine wpAnyH_take (i := 5) (oi := { dst := some 35, op := Go.Op.load 59 (Go.Operand.tmp 8), type := 59, pos := "steer.go:165", after := #[{ on := 3, ground := Go.Ground.guard }], guard := some (3, true) }) (v := ?_) rfl (by kernel_rfl) (by kernel_rfl) (by kernel_rfl) (fun _ _ _ h => h.no.elim) (Or.inl ⟨by rfl, ?_⟩) (by assumption) ?_
       rotate_left 1
       ·(intro w_ hSw; (try dsimp only at hSw); go_simp; first | done | with_reducible rfl)
       (try simp only [Act.put, List.setIfInBounds_toArray, List.set_cons_zero, List.set_cons_succ])
       refine wpAnyH_take (i := 7) (oi := { dst := some 37, op := Go.Op.load 30 (Go.Operand.tmp 3), type := 30, pos := "steer.go:165", after := #[{ on := 3, ground := Go.Ground.guard }], guard := some (3, true) }) (v := ?_) rfl (by kernel_rfl) (by kernel_rfl) (by kernel_rfl) (fun _ _ _ h => h.no.elim) (Or.inl ⟨by rfl, ?_⟩) (by assumption) ?_
       rotate_left 1
       ·(intro w_ hSw; (try dsimp only at hSw); go_simp; first | done | with_reducible rfl)
       (try simp only [Act.put, List.setIfInBounds_toArray, List.set_cons_zero, List.set_cons_succ])
       refine wpAnyH_take (i := 8) (oi := { dst := some 38, op := Go.Op.move (Go.Operand.tmp 7), type := 3, pos := "steer.go:165", after := #[{ on := 3, ground := Go.Ground.guard }], guard := some (3, true) }) (v := ?_) rfl (by kernel_rfl) (by kernel_rfl) (by kernel_rfl) (fun _ _ _ h => h.no.elim) (Or.inl ⟨by rfl, ?_⟩) (by assumption) ?_
       rotate_left 1
       ·(intro w_ hSw; (try dsimp only at hSw); go_simp; first | done | with_reducible rfl)
       (try simp only [Act.put, List.setIfInBounds_toArray, List.set_cons_zero, List.set_cons_succ])
       refine wpAnyH_take (i := 9) (oi := { dst := some 39, op := Go.Op.indexAddr 30 (Go.Operand.tmp 37) (Go.Operand.tmp 38), type := 0, pos := "steer.go:165", after := #[{ on := 7, ground := Go.Ground.data }, { on := 8, ground := Go.Ground.data }, { on := 3, ground := Go.Ground.guard }], guard := some (3, true) }) (v := ?_) rfl (by kernel_rfl) (by kernel_rfl) (by kernel_rfl) (fun _ _ _ h => h.no.elim) (Or.inl ⟨by rfl, ?_⟩) (by assumption) ?_
       rotate_left 1
       ·(intro w_ hSw; (try dsimp only at hSw); go_simp; first | done | with_reducible rfl)
       (try simp only [Act.put, List.setIfInBounds_toArray, List.set_cons_zero, List.set_cons_succ])
       refine wpAnyH_take (i := 10) (oi := { dst := some 40, op := Go.Op.load 3 (Go.Operand.tmp 39), type := 3, pos := "steer.go:165", after := #[{ on := 9, ground := Go.Ground.data }, { on := 3, ground := Go.Ground.guard }], guard := some (3, true) }) (v := ?_) rfl (by kernel_rfl) (by kernel_rfl) (by kernel_rfl) (fun _ _ _ h => h.no.elim) (Or.inl ⟨by rfl, ?_⟩) (by assumption) ?_
       rotate_left 1
       ·(intro w_ hSw; (try dsimp only at hSw); go_simp; first | done | with_reducible rfl)
       (try simp only [Act.put, List.setIfInBounds_toArray, List.set_cons_zero, List.set_cons_succ])
       refine wpAnyH_ready (rs := [6]) (by kernel_rfl) (by simp) ?_
       refine AllReadyH.cons (o := { dst := some 36, op := Go.Op.call { callee := Go.Callee.value (Go.Operand.func 46), args := #[Go.Operand.tmp 34, Go.Operand.tmp 35], argTypes := #[24, 59] }, type := 30, pos := "steer.go:165", after := #[{ on := 4, ground := Go.Ground.data }, { on := 5, ground := Go.Ground.data }, { on := 3, ground := Go.Ground.chain }, { on := 3, ground := Go.Ground.guard }], guard := some (3, true) }) rfl (fun K hK => ?_) AllReadyH.nil
       go_simp
       go_at_call 46
       refine (hs46 _).mono ?_
       rintro en w1_ ⟨v0_, gb, cap, rfl, rfl, hcap, hRC, hB⟩
       try dsimp only
       refine hK.out _ _ ?_ (fun hHeld => ?_)
       ·exact hS _ (hHeld.2.trans (hB.mono hHeld.2.size))
       clear hK K
       (try simp only [Act.put, List.setIfInBounds_toArray, List.set_cons_zero, List.set_cons_succ])
       refine wpAnyH_ready (rs := [11]) (by kernel_rfl) (by simp) ?_
       refine AllReadyH.cons (o := { dst := some 41, op := Go.Op.call { callee := Go.Callee.value (Go.Operand.func 45), args := #[Go.Operand.tmp 36, Go.Operand.tmp 40], argTypes := #[30, 3] }, type := 4, pos := "steer.go:165", after := #[{ on := 6, ground := Go.Ground.data }, { on := 10, ground := Go.Ground.data }, { on := 6, ground := Go.Ground.chain }, { on := 3, ground := Go.Ground.guard }], guard := some (3, true) }) rfl (fun K hK => ?_) AllReadyH.nil
       go_simp
       go_at_call 45
       refine (slices_Contains_int_int.calls 1001 _ _ _ _ _ _ hRC hcap hct).mono ?_
       rintro en w1_ ⟨rfl, hDr⟩
       have hB := hDr.below
       try dsimp only
       refine hK.out _ _ ?_ (fun hHeld => ?_)
       ·exact hS _ (hHeld.2.trans (hB.mono hHeld.2.size))
       clear hK K
       (try simp only [Act.put, List.setIfInBounds_toArray, List.set_cons_zero, List.set_cons_succ])
       refine wpAnyH_take (i := 12) (oi := { dst := some 42, op := Go.Op.unOp Go.UnOp.not 4 (Go.Operand.tmp 41), type := 4, pos := "steer.go:165", after := #[{ on := 11, ground := Go.Ground.data }, { on := 3, ground := Go.Ground.guard }], guard := some (3, true) }) (v := ?_) rfl (by kernel_rfl) (by kernel_rfl) (by kernel_rfl) (fun _ _ _ h => h.no.elim) (Or.inl ⟨by rfl, ?_⟩) (by assumption) ?_
       rotate_left 1
       ·(intro w_ hSw; (try dsimp only at hSw); go_simp; first | done | with_reducible rfl)
       (try simp only [Act.put, List.setIfInBounds_toArray, List.set_cons_zero, List.set_cons_succ])
       refine wpAnyH_take (i := 13) (oi := { dst := some 43, op := Go.Op.move (Go.Operand.tmp 42), type := 4, pos := "steer.go:165", after := #[{ on := 12, ground := Go.Ground.data }, { on := 11, ground := Go.Ground.chain }, { on := 3, ground := Go.Ground.guard }], guard := some (3, true) }) (v := ?_) rfl (by kernel_rfl) (by kernel_rfl) (by kernel_rfl) (fun _ _ _ h => h.no.elim) (Or.inl ⟨by rfl, ?_⟩) (by assumption) ?_
       rotate_left 1
       ·(intro w_ hSw; (try dsimp only at hSw); go_simp; first | done | with_reducible rfl)
       (try simp only [Act.put, List.setIfInBounds_toArray, List.set_cons_zero, List.set_cons_succ])
       refine wpAnyH_take (i := 14) (oi := { dst := some 44, op := Go.Op.load 24 (Go.Operand.tmp 2), type := 24, pos := "steer.go:165", after := #[{ on := 13, ground := Go.Ground.guard }], guard := some (13, false) }) (v := ?_) rfl (by kernel_rfl) (by kernel_rfl) (by kernel_rfl) (fun _ _ _ h => h.no.elim) (Or.inl ⟨by rfl, ?_⟩) (by assumption) ?_
       rotate_left 1
       ·(intro w_ hSw; (try dsimp only at hSw); go_simp; first | done | with_reducible rfl)
       (try simp only [Act.put, List.setIfInBounds_toArray, List.set_cons_zero, List.set_cons_succ])
       refine wpAnyH_take (i := 15) (oi := { dst := some 45, op := Go.Op.load 59 (Go.Operand.tmp 8), type := 59, pos := "steer.go:165", after := #[{ on := 13, ground := Go.Ground.guard }], guard := some (13, false) }) (v := ?_) rfl (by kernel_rfl) (by kernel_rfl) (by kernel_rfl) (fun _ _ _ h => h.no.elim) (Or.inl ⟨by rfl, ?_⟩) (by assumption) ?_
       rotate_left 1
       ·(intro w_ hSw; (try dsimp only at hSw); go_simp; first | done | with_reducible rfl)
       (try simp only [Act.put, List.setIfInBounds_toArray, List.set_cons_zero, List.set_cons_succ])
       refine wpAnyH_take (i := 16) (oi := { dst := some 46, op := Go.Op.load 30 (Go.Operand.tmp 3), type := 30, pos := "steer.go:165", after := #[{ on := 13, ground := Go.Ground.guard }], guard := some (13, false) }) (v := ?_) rfl (by kernel_rfl) (by kernel_rfl) (by kernel_rfl) (fun _ _ _ h => h.no.elim) (Or.inl ⟨by rfl, ?_⟩) (by assumption) ?_
       rotate_left 1
       ·(intro w_ hSw; (try dsimp only at hSw); go_simp; first | done | with_reducible rfl)
       (try simp only [Act.put, List.setIfInBounds_toArray, List.set_cons_zero, List.set_cons_succ])
       refine wpAnyH_take (i := 17) (oi := { dst := some 47, op := Go.Op.move (Go.Operand.tmp 7), type := 3, pos := "steer.go:165", after := #[{ on := 13, ground := Go.Ground.guard }], guard := some (13, false) }) (v := ?_) rfl (by kernel_rfl) (by kernel_rfl) (by kernel_rfl) (fun _ _ _ h => h.no.elim) (Or.inl ⟨by rfl, ?_⟩) (by assumption) ?_
       rotate_left 1
       ·(intro w_ hSw; (try dsimp only at hSw); go_simp; first | done | with_reducible rfl)
       (try simp only [Act.put, List.setIfInBounds_toArray, List.set_cons_zero, List.set_cons_succ])
       refine wpAnyH_take (i := 18) (oi := { dst := some 48, op := Go.Op.indexAddr 30 (Go.Operand.tmp 46) (Go.Operand.tmp 47), type := 0, pos := "steer.go:165", after := #[{ on := 16, ground := Go.Ground.data }, { on := 17, ground := Go.Ground.data }, { on := 13, ground := Go.Ground.guard }], guard := some (13, false) }) (v := ?_) rfl (by kernel_rfl) (by kernel_rfl) (by kernel_rfl) (fun _ _ _ h => h.no.elim) (Or.inl ⟨by rfl, ?_⟩) (by assumption) ?_
       rotate_left 1
       ·(intro w_ hSw; (try dsimp only at hSw); go_simp; first | done | with_reducible rfl)
       (try simp only [Act.put, List.setIfInBounds_toArray, List.set_cons_zero, List.set_cons_succ])
       refine wpAnyH_take (i := 19) (oi := { dst := some 49, op := Go.Op.load 3 (Go.Operand.tmp 48), type := 3, pos := "steer.go:165", after := #[{ on := 18, ground := Go.Ground.data }, { on := 13, ground := Go.Ground.guard }], guard := some (13, false) }) (v := ?_) rfl (by kernel_rfl) (by kernel_rfl) (by kernel_rfl) (fun _ _ _ h => h.no.elim) (Or.inl ⟨by rfl, ?_⟩) (by assumption) ?_
       rotate_left 1
       ·(intro w_ hSw; (try dsimp only at hSw); go_simp; first | done | with_reducible rfl)
       (try simp only [Act.put, List.setIfInBounds_toArray, List.set_cons_zero, List.set_cons_succ])
       refine wpAnyH_take (i := 20) (oi := { dst := some 50, op := Go.Op.load 86 (Go.Operand.tmp 6), type := 86, pos := "steer.go:165", after := #[{ on := 13, ground := Go.Ground.guard }], guard := some (13, false) }) (v := ?_) rfl (by kernel_rfl) (by kernel_rfl) (by kernel_rfl) (fun _ _ _ h => h.no.elim) (Or.inl ⟨by rfl, ?_⟩) (by assumption) ?_
       rotate_left 1
       ·(intro w_ hSw; (try dsimp only at hSw); go_simp; first | done | with_reducible rfl)
       (try simp only [Act.put, List.setIfInBounds_toArray, List.set_cons_zero, List.set_cons_succ])
       refine wpAnyH_ready (rs := [21]) (by kernel_rfl) (by simp) ?_
       refine AllReadyH.cons (o := { dst := some 51, op := Go.Op.call { callee := Go.Callee.value (Go.Operand.func 47), args := #[Go.Operand.tmp 44, Go.Operand.tmp 45, Go.Operand.tmp 49, Go.Operand.tmp 50], argTypes := #[24, 59, 3, 86] }, type := 4, pos := "steer.go:165", after := #[{ on := 14, ground := Go.Ground.data }, { on := 15, ground := Go.Ground.data }, { on := 19, ground := Go.Ground.data }, { on := 20, ground := Go.Ground.data }, { on := 13, ground := Go.Ground.chain }, { on := 13, ground := Go.Ground.guard }], guard := some (13, false) }) rfl (fun K hK => ?_) AllReadyH.nil
       go_simp
       go_at_call 47
       refine (hs47 _ hHeld.2).mono ?_
       rintro en w1_ ⟨rfl, hB⟩
       try dsimp only
       refine hK.out _ _ ?_ (fun hHeld => ?_)
       ·exact hS _ (hHeld.2.trans (hB.mono hHeld.2.size))
       clear hK K
       (try simp only [Act.put, List.setIfInBounds_toArray, List.set_cons_zero, List.set_cons_succ])
       refine wpAnyH_take (i := 22) (oi := { dst := some 52, op := Go.Op.unOp Go.UnOp.not 4 (Go.Operand.tmp 51), type := 4, pos := "steer.go:165", after := #[{ on := 21, ground := Go.Ground.data }, { on := 13, ground := Go.Ground.guard }], guard := some (13, false) }) (v := ?_) rfl (by kernel_rfl) (by kernel_rfl) (by kernel_rfl) (fun _ _ _ h => h.no.elim) (Or.inl ⟨by rfl, ?_⟩) (by assumption) ?_
       rotate_left 1
       ·(intro w_ hSw; (try dsimp only at hSw); go_simp; first | done | with_reducible rfl)
       (try simp only [Act.put, List.setIfInBounds_toArray, List.set_cons_zero, List.set_cons_succ])
       refine wpAnyH_take (i := 23) (oi := { dst := some 53, op := Go.Op.pick (Go.Operand.tmp 43) (Go.Operand.const (Go.Value.bool true)) (Go.Operand.tmp 52), type := 4, pos := "steer.go:165", after := #[{ on := 13, ground := Go.Ground.data }, { on := 22, ground := Go.Ground.data }, { on := 3, ground := Go.Ground.guard }], guard := some (3, true) }) (v := ?_) rfl (by kernel_rfl) (by kernel_rfl) (by kernel_rfl) (fun _ _ _ h => h.no.elim) (Or.inl ⟨by rfl, ?_⟩) (by assumption) ?_
       rotate_left 1
       ·(intro w_ hSw; (try dsimp only at hSw); go_simp; first | done | with_reducible rfl)
       (try simp only [Act.put, List.setIfInBounds_toArray, List.set_cons_zero, List.set_cons_succ])
       refine wpAnyH_take (i := 24) (oi := { dst := some 54, op := Go.Op.pick (Go.Operand.tmp 33) (Go.Operand.tmp 53) (Go.Operand.const (Go.Value.bool false)), type := 4, pos := "steer.go:165", after := #[{ on := 3, ground := Go.Ground.data }, { on := 23, ground := Go.Ground.data }], guard := none }) (v := ?_) rfl (by kernel_rfl) (by kernel_rfl) (by kernel_rfl) (fun _ _ _ h => h.no.elim) (Or.inl ⟨by rfl, ?_⟩) (by assumption) ?_
       rotate_left 1
       ·(intro w_ hSw; (try dsimp only at hSw); go_simp; first | done | with_reducible rfl)
       (try simp only [Act.put, List.setIfInBounds_toArray, List.set_cons_zero, List.set_cons_succ])
       refine wpAnyH_done (by kernel_rfl) ?_ _
       refine OnlyOn.on ?_
       have hBo := hHeld.2
       have b4 := (hBo.block _ lt4).trans HK4.out
       have c4 := (show ∀ Y : World, Y.heap[w.heap.size + 1 + 1]? = some (.cells #[.int .i64 0] 26 (0, 0)) → Y.cell? ⟨w.heap.size + 1 + 1, 0, none⟩ = some (.int .i64 0) from fun Y h => by simp [World.cell?, h]) _ b4
       have c4f := (show ∀ Y : World, Y.heap[w.heap.size + 1 + 1]? = some (.cells #[.int .i64 0] 26 (0, 0)) → Y.frozen? ⟨w.heap.size + 1 + 1, 0, none⟩ = false from fun Y h => by simp [World.frozen?, h]) _ b4
       gi_wp2
       exact ⟨((keeps_of_below hBo).trans (KeepsOthers.setCell _ _ _)).from _, ⟨rfl, by rw [HUN.out, hmk]; rfl⟩, Boxed.set _ b4, Below.setCell (HBX.out.trans (hBo.mono HBX.out.size)) (p := ⟨w.heap.size + 1 + 1, 0, none⟩) (by simp; omega) _⟩
      | true =>
       rw [hh] at hs47 hmk
       clear hh
       gi_wp2
       refine region_round (S := fun Y => ((Y.cell? ⟨W2.heap.size, 0, none⟩ = some (.func (.func 43) #[] #[.pointer (some ⟨w.heap.size + 1, 0, none⟩), .pointer (some ⟨w.heap.size, 0, none⟩)]) ∧ Y.cell? ⟨Bx, 0, none⟩ = some (.int .i64 se) ∧ Y.cell? ⟨Bx, 1, none⟩ = some (.int .i64 sr) ∧ Y.cell? ⟨w.heap.size, 0, none⟩ = some (.int .i64 L) ∧ Y.cell? ⟨w.heap.size, 1, none⟩ = some (.int .i64 R) ∧ Y.cell? ⟨w.heap.size, 2, none⟩ = some (.int .i64 S) ∧ Y.cell? ⟨w.heap.size, 3, none⟩ = some (.int .i64 N) ∧ Y.cell? ⟨w.heap.size + 1, 0, none⟩ = some (.slice (some ad) l1.length c1) ∧ Y.cell? (ad.add k) = some (.int .i64 v)) ∧ Below X.heap.size X Y)) (by kernel_rfl) (by rfl) (hS _ (Below.refl _ _).drew) (fun hHeld => ?_)
       refine wpAnyH_take (i := 0) (oi := { dst := some 30, op := Go.Op.load 86 (Go.Operand.tmp 6), type := 86, pos := "steer.go:165", after := #[], guard := none }) (v := ?_) rfl (by kernel_rfl) (by kernel_rfl) (by kernel_rfl) (fun _ _ _ h => h.no.elim) (Or.inl ⟨by rfl, ?_⟩) (by assumption) ?_
       rotate_left 1
       ·(intro w_ hSw; (try dsimp only at hSw); go_simp; first | done | with_reducible rfl)
       (try simp only [Act.put, List.setIfInBounds_toArray, List.set_cons_zero, List.set_cons_succ])
       refine wpAnyH_take (i := 1) (oi := { dst := some 31, op := Go.Op.load 59 (Go.Operand.tmp 8), type := 59, pos := "steer.go:165", after := #[], guard := none }) (v := ?_) rfl (by kernel_rfl) (by kernel_rfl) (by kernel_rfl) (fun _ _ _ h => h.no.elim) (Or.inl ⟨by rfl, ?_⟩) (by assumption) ?_
       rotate_left 1
       ·(intro w_ hSw; (try dsimp only at hSw); go_simp; first | done | with_reducible rfl)
       (try simp only [Act.put, List.setIfInBounds_toArray, List.set_cons_zero, List.set_cons_succ])
       refine wpAnyH_ready (rs := [2]) (by kernel_rfl) (by simp) ?_
       refine AllReadyH.cons (o := { dst := some 32, op := Go.Op.call { callee := Go.Callee.value (Go.Operand.tmp 30), args := #[Go.Operand.tmp 31], argTypes := #[59] }, type := 4, pos := "steer.go:165", after := #[{ on := 0, ground := Go.Ground.data }, { on := 1, ground := Go.Ground.data }], guard := none }) rfl (fun K hK => ?_) AllReadyH.nil
       go_simp
       go_at_call 43
       refine (hs43 _ hHeld.2).mono ?_
       rintro en w1_ ⟨rfl, hB⟩
       try dsimp only
       refine hK.out _ _ ?_ (fun hHeld => ?_)
       ·exact hS _ (hHeld.2.trans (hB.mono hHeld.2.size))
       clear hK K
       (try simp only [Act.put, List.setIfInBounds_toArray, List.set_cons_zero, List.set_cons_succ])
       refine wpAnyH_take (i := 3) (oi := { dst := some 33, op := Go.Op.move (Go.Operand.tmp 32), type := 4, pos := "steer.go:165", after := #[{ on := 2, ground := Go.Ground.data }, { on := 2, ground := Go.Ground.chain }], guard := none }) (v := ?_) rfl (by kernel_rfl) (by kernel_rfl) (by kernel_rfl) (fun _ _ _ h => h.no.elim) (Or.inl ⟨by rfl, ?_⟩) (by assumption) ?_
       rotate_left 1
       ·(intro w_ hSw; (try dsimp only at hSw); go_simp; first | done | with_reducible rfl)
       (try simp only [Act.put, List.setIfInBounds_toArray, List.set_cons_zero, List.set_cons_succ])
       refine wpAnyH_take (i := 4) (oi := { dst := some 34, op := Go.Op.load 24 (Go.Operand.tmp 2), type := 24, pos := "steer.go:165", after := #[{ on := 3, ground := Go.Ground.guard }], guard := some (3, true) }) (v := ?_) rfl (by kernel_rfl) (by kernel_rfl) (by kernel_rfl) (fun _ _ _ h => h.no.elim) (Or.inl ⟨by rfl, ?_⟩) (by assumption) ?_
       rotate_left 1
       ·(intro w_ hSw; (try dsimp only at hSw); go_simp; first | done | with_reducible rfl)
       (try simp only [Act.put, List.setIfInBounds_toArray, List.set_cons_zero, List.set_cons_succ])
       refine wpAnyH_take (i := 5) (oi := { dst := some 35, op := Go.Op.load 59 (Go.Operand.tmp 8), type := 59, pos := "steer.go:165", after := #[{ on := 3, ground := Go.Ground.guard }], guard := some (3, true) }) (v := ?_) rfl (by kernel_rfl) (by kernel_rfl) (by kernel_rfl) (fun _ _ _ h => h.no.elim) (Or.inl ⟨by rfl, ?_⟩) (by assumption) ?_
       rotate_left 1
       ·(intro w_ hSw; (try dsimp only at hSw); go_simp; first | done | with_reducible rfl)
       (try simp only [Act.put, List.setIfInBounds_toArray, List.set_cons_zero, List.set_cons_succ])
       refine wpAnyH_take (i := 7) (oi := { dst := some 37, op := Go.Op.load 30 (Go.Operand.tmp 3), type := 30, pos := "steer.go:165", after := #[{ on := 3, ground := Go.Ground.guard }], guard := some (3, true) }) (v := ?_) rfl (by kernel_rfl) (by kernel_rfl) (by kernel_rfl) (fun _ _ _ h => h.no.elim) (Or.inl ⟨by rfl, ?_⟩) (by assumption) ?_
       rotate_left 1
       ·(intro w_ hSw; (try dsimp only at hSw); go_simp; first | done | with_reducible rfl)
       (try simp only [Act.put, List.setIfInBounds_toArray, List.set_cons_zero, List.set_cons_succ])
       refine wpAnyH_take (i := 8) (oi := { dst := some 38, op := Go.Op.move (Go.Operand.tmp 7), type := 3, pos := "steer.go:165", after := #[{ on := 3, ground := Go.Ground.guard }], guard := some (3, true) }) (v := ?_) rfl (by kernel_rfl) (by kernel_rfl) (by kernel_rfl) (fun _ _ _ h => h.no.elim) (Or.inl ⟨by rfl, ?_⟩) (by assumption) ?_
       rotate_left 1
       ·(intro w_ hSw; (try dsimp only at hSw); go_simp; first | done | with_reducible rfl)
       (try simp only [Act.put, List.setIfInBounds_toArray, List.set_cons_zero, List.set_cons_succ])
       refine wpAnyH_take (i := 9) (oi := { dst := some 39, op := Go.Op.indexAddr 30 (Go.Operand.tmp 37) (Go.Operand.tmp 38), type := 0, pos := "steer.go:165", after := #[{ on := 7, ground := Go.Ground.data }, { on := 8, ground := Go.Ground.data }, { on := 3, ground := Go.Ground.guard }], guard := some (3, true) }) (v := ?_) rfl (by kernel_rfl) (by kernel_rfl) (by kernel_rfl) (fun _ _ _ h => h.no.elim) (Or.inl ⟨by rfl, ?_⟩) (by assumption) ?_
       rotate_left 1
       ·(intro w_ hSw; (try dsimp only at hSw); go_simp; first | done | with_reducible rfl)
       (try simp only [Act.put, List.setIfInBounds_toArray, List.set_cons_zero, List.set_cons_succ])
       refine wpAnyH_take (i := 10) (oi := { dst := some 40, op := Go.Op.load 3 (Go.Operand.tmp 39), type := 3, pos := "steer.go:165", after := #[{ on := 9, ground := Go.Ground.data }, { on := 3, ground := Go.Ground.guard }], guard := some (3, true) }) (v := ?_) rfl (by kernel_rfl) (by kernel_rfl) (by kernel_rfl) (fun _ _ _ h => h.no.elim) (Or.inl ⟨by rfl, ?_⟩) (by assumption) ?_
       rotate_left 1
       ·(intro w_ hSw; (try dsimp only at hSw); go_simp; first | done | with_reducible rfl)
       (try simp only [Act.put, List.setIfInBounds_toArray, List.set_cons_zero, List.set_cons_succ])
       refine wpAnyH_ready (rs := [6]) (by kernel_rfl) (by simp) ?_
       refine AllReadyH.cons (o := { dst := some 36, op := Go.Op.call { callee := Go.Callee.value (Go.Operand.func 46), args := #[Go.Operand.tmp 34, Go.Operand.tmp 35], argTypes := #[24, 59] }, type := 30, pos := "steer.go:165", after := #[{ on := 4, ground := Go.Ground.data }, { on := 5, ground := Go.Ground.data }, { on := 3, ground := Go.Ground.chain }, { on := 3, ground := Go.Ground.guard }], guard := some (3, true) }) rfl (fun K hK => ?_) AllReadyH.nil
       go_simp
       go_at_call 46
       refine (hs46 _).mono ?_
       rintro en w1_ ⟨v0_, gb, cap, rfl, rfl, hcap, hRC, hB⟩
       try dsimp only
       refine hK.out _ _ ?_ (fun hHeld => ?_)
       ·exact hS _ (hHeld.2.trans (hB.mono hHeld.2.size))
       clear hK K
       (try simp only [Act.put, List.setIfInBounds_toArray, List.set_cons_zero, List.set_cons_succ])
       refine wpAnyH_ready (rs := [11]) (by kernel_rfl) (by simp) ?_
       refine AllReadyH.cons (o := { dst := some 41, op := Go.Op.call { callee := Go.Callee.value (Go.Operand.func 45), args := #[Go.Operand.tmp 36, Go.Operand.tmp 40], argTypes := #[30, 3] }, type := 4, pos := "steer.go:165", after := #[{ on := 6, ground := Go.Ground.data }, { on := 10, ground := Go.Ground.data }, { on := 6, ground := Go.Ground.chain }, { on := 3, ground := Go.Ground.guard }], guard := some (3, true) }) rfl (fun K hK => ?_) AllReadyH.nil
       go_simp
       go_at_call 45
       refine (slices_Contains_int_int.calls 1001 _ _ _ _ _ _ hRC hcap hct).mono ?_
       rintro en w1_ ⟨rfl, hDr⟩
       have hB := hDr.below
       try dsimp only
       refine hK.out _ _ ?_ (fun hHeld => ?_)
       ·exact hS _ (hHeld.2.trans (hB.mono hHeld.2.size))
       clear hK K
       (try simp only [Act.put, List.setIfInBounds_toArray, List.set_cons_zero, List.set_cons_succ])
       refine wpAnyH_take (i := 12) (oi := { dst := some 42, op := Go.Op.unOp Go.UnOp.not 4 (Go.Operand.tmp 41), type := 4, pos := "steer.go:165", after := #[{ on := 11, ground := Go.Ground.data }, { on := 3, ground := Go.Ground.guard }], guard := some (3, true) }) (v := ?_) rfl (by kernel_rfl) (by kernel_rfl) (by kernel_rfl) (fun _ _ _ h => h.no.elim) (Or.inl ⟨by rfl, ?_⟩) (by assumption) ?_
       rotate_left 1
       ·(intro w_ hSw; (try dsimp only at hSw); go_simp; first | done | with_reducible rfl)
       (try simp only [Act.put, List.setIfInBounds_toArray, List.set_cons_zero, List.set_cons_succ])
       refine wpAnyH_take (i := 13) (oi := { dst := some 43, op := Go.Op.move (Go.Operand.tmp 42), type := 4, pos := "steer.go:165", after := #[{ on := 12, ground := Go.Ground.data }, { on := 11, ground := Go.Ground.chain }, { on := 3, ground := Go.Ground.guard }], guard := some (3, true) }) (v := ?_) rfl (by kernel_rfl) (by kernel_rfl) (by kernel_rfl) (fun _ _ _ h => h.no.elim) (Or.inl ⟨by rfl, ?_⟩) (by assumption) ?_
       rotate_left 1
       ·(intro w_ hSw; (try dsimp only at hSw); go_simp; first | done | with_reducible rfl)
       (try simp only [Act.put, List.setIfInBounds_toArray, List.set_cons_zero, List.set_cons_succ])
       refine wpAnyH_take (i := 14) (oi := { dst := some 44, op := Go.Op.load 24 (Go.Operand.tmp 2), type := 24, pos := "steer.go:165", after := #[{ on := 13, ground := Go.Ground.guard }], guard := some (13, false) }) (v := ?_) rfl (by kernel_rfl) (by kernel_rfl) (by kernel_rfl) (fun _ _ _ h => h.no.elim) (Or.inl ⟨by rfl, ?_⟩) (by assumption) ?_
       rotate_left 1
       ·(intro w_ hSw; (try dsimp only at hSw); go_simp; first | done | with_reducible rfl)
       (try simp only [Act.put, List.setIfInBounds_toArray, List.set_cons_zero, List.set_cons_succ])
       refine wpAnyH_take (i := 15) (oi := { dst := some 45, op := Go.Op.load 59 (Go.Operand.tmp 8), type := 59, pos := "steer.go:165", after := #[{ on := 13, ground := Go.Ground.guard }], guard := some (13, false) }) (v := ?_) rfl (by kernel_rfl) (by kernel_rfl) (by kernel_rfl) (fun _ _ _ h => h.no.elim) (Or.inl ⟨by rfl, ?_⟩) (by assumption) ?_
       rotate_left 1
       ·(intro w_ hSw; (try dsimp only at hSw); go_simp; first | done | with_reducible rfl)
       (try simp only [Act.put, List.setIfInBounds_toArray, List.set_cons_zero, List.set_cons_succ])
       refine wpAnyH_take (i := 16) (oi := { dst := some 46, op := Go.Op.load 30 (Go.Operand.tmp 3), type := 30, pos := "steer.go:165", after := #[{ on := 13, ground := Go.Ground.guard }], guard := some (13, false) }) (v := ?_) rfl (by kernel_rfl) (by kernel_rfl) (by kernel_rfl) (fun _ _ _ h => h.no.elim) (Or.inl ⟨by rfl, ?_⟩) (by assumption) ?_
       rotate_left 1
       ·(intro w_ hSw; (try dsimp only at hSw); go_simp; first | done | with_reducible rfl)
       (try simp only [Act.put, List.setIfInBounds_toArray, List.set_cons_zero, List.set_cons_succ])
       refine wpAnyH_take (i := 17) (oi := { dst := some 47, op := Go.Op.move (Go.Operand.tmp 7), type := 3, pos := "steer.go:165", after := #[{ on := 13, ground := Go.Ground.guard }], guard := some (13, false) }) (v := ?_) rfl (by kernel_rfl) (by kernel_rfl) (by kernel_rfl) (fun _ _ _ h => h.no.elim) (Or.inl ⟨by rfl, ?_⟩) (by assumption) ?_
       rotate_left 1
       ·(intro w_ hSw; (try dsimp only at hSw); go_simp; first | done | with_reducible rfl)
       (try simp only [Act.put, List.setIfInBounds_toArray, List.set_cons_zero, List.set_cons_succ])
       refine wpAnyH_take (i := 18) (oi := { dst := some 48, op := Go.Op.indexAddr 30 (Go.Operand.tmp 46) (Go.Operand.tmp 47), type := 0, pos := "steer.go:165", after := #[{ on := 16, ground := Go.Ground.data }, { on := 17, ground := Go.Ground.data }, { on := 13, ground := Go.Ground.guard }], guard := some (13, false) }) (v := ?_) rfl (by kernel_rfl) (by kernel_rfl) (by kernel_rfl) (fun _ _ _ h => h.no.elim) (Or.inl ⟨by rfl, ?_⟩) (by assumption) ?_
       rotate_left 1
       ·(intro w_ hSw; (try dsimp only at hSw); go_simp; first | done | with_reducible rfl)
       (try simp only [Act.put, List.setIfInBounds_toArray, List.set_cons_zero, List.set_cons_succ])
       refine wpAnyH_take (i := 19) (oi := { dst := some 49, op := Go.Op.load 3 (Go.Operand.tmp 48), type := 3, pos := "steer.go:165", after := #[{ on := 18, ground := Go.Ground.data }, { on := 13, ground := Go.Ground.guard }], guard := some (13, false) }) (v := ?_) rfl (by kernel_rfl) (by kernel_rfl) (by kernel_rfl) (fun _ _ _ h => h.no.elim) (Or.inl ⟨by rfl, ?_⟩) (by assumption) ?_
       rotate_left 1
       ·(intro w_ hSw; (try dsimp only at hSw); go_simp; first | done | with_reducible rfl)
       (try simp only [Act.put, List.setIfInBounds_toArray, List.set_cons_zero, List.set_cons_succ])
       refine wpAnyH_take (i := 20) (oi := { dst := some 50, op := Go.Op.load 86 (Go.Operand.tmp 6), type := 86, pos := "steer.go:165", after := #[{ on := 13, ground := Go.Ground.guard }], guard := some (13, false) }) (v := ?_) rfl (by kernel_rfl) (by kernel_rfl) (by kernel_rfl) (fun _ _ _ h => h.no.elim) (Or.inl ⟨by rfl, ?_⟩) (by assumption) ?_
       rotate_left 1
       ·(intro w_ hSw; (try dsimp only at hSw); go_simp; first | done | with_reducible rfl)
       (try simp only [Act.put, List.setIfInBounds_toArray, List.set_cons_zero, List.set_cons_succ])
       refine wpAnyH_ready (rs := [21]) (by kernel_rfl) (by simp) ?_
       refine AllReadyH.cons (o := { dst := some 51, op := Go.Op.call { callee := Go.Callee.value (Go.Operand.func 47), args := #[Go.Operand.tmp 44, Go.Operand.tmp 45, Go.Operand.tmp 49, Go.Operand.tmp 50], argTypes := #[24, 59, 3, 86] }, type := 4, pos := "steer.go:165", after := #[{ on := 14, ground := Go.Ground.data }, { on := 15, ground := Go.Ground.data }, { on := 19, ground := Go.Ground.data }, { on := 20, ground := Go.Ground.data }, { on := 13, ground := Go.Ground.chain }, { on := 13, ground := Go.Ground.guard }], guard := some (13, false) }) rfl (fun K hK => ?_) AllReadyH.nil
       go_simp
       go_at_call 47
       refine (hs47 _ hHeld.2).mono ?_
       rintro en w1_ ⟨rfl, hB⟩
       try dsimp only
       refine hK.out _ _ ?_ (fun hHeld => ?_)
       ·exact hS _ (hHeld.2.trans (hB.mono hHeld.2.size))
       clear hK K
       (try simp only [Act.put, List.setIfInBounds_toArray, List.set_cons_zero, List.set_cons_succ])
       refine wpAnyH_take (i := 22) (oi := { dst := some 52, op := Go.Op.unOp Go.UnOp.not 4 (Go.Operand.tmp 51), type := 4, pos := "steer.go:165", after := #[{ on := 21, ground := Go.Ground.data }, { on := 13, ground := Go.Ground.guard }], guard := some (13, false) }) (v := ?_) rfl (by kernel_rfl) (by kernel_rfl) (by kernel_rfl) (fun _ _ _ h => h.no.elim) (Or.inl ⟨by rfl, ?_⟩) (by assumption) ?_
       rotate_left 1
       ·(intro w_ hSw; (try dsimp only at hSw); go_simp; first | done | with_reducible rfl)
       (try simp only [Act.put, List.setIfInBounds_toArray, List.set_cons_zero, List.set_cons_succ])
       refine wpAnyH_take (i := 23) (oi := { dst := some 53, op := Go.Op.pick (Go.Operand.tmp 43) (Go.Operand.const (Go.Value.bool true)) (Go.Operand.tmp 52), type := 4, pos := "steer.go:165", after := #[{ on := 13, ground := Go.Ground.data }, { on := 22, ground := Go.Ground.data }, { on := 3, ground := Go.Ground.guard }], guard := some (3, true) }) (v := ?_) rfl (by kernel_rfl) (by kernel_rfl) (by kernel_rfl) (fun _ _ _ h => h.no.elim) (Or.inl ⟨by rfl, ?_⟩) (by assumption) ?_
       rotate_left 1
       ·(intro w_ hSw; (try dsimp only at hSw); go_simp; first | done | with_reducible rfl)
       (try simp only [Act.put, List.setIfInBounds_toArray, List.set_cons_zero, List.set_cons_succ])
       refine wpAnyH_take (i := 24) (oi := { dst := some 54, op := Go.Op.pick (Go.Operand.tmp 33) (Go.Operand.tmp 53) (Go.Operand.const (Go.Value.bool false)), type := 4, pos := "steer.go:165", after := #[{ on := 3, ground := Go.Ground.data }, { on := 23, ground := Go.Ground.data }], guard := none }) (v := ?_) rfl (by kernel_rfl) (by kernel_rfl) (by kernel_rfl) (fun _ _ _ h => h.no.elim) (Or.inl ⟨by rfl, ?_⟩) (by assumption) ?_
       rotate_left 1
       ·(intro w_ hSw; (try dsimp only at hSw); go_simp; first | done | with_reducible rfl)
       (try simp only [Act.put, List.setIfInBounds_toArray, List.set_cons_zero, List.set_cons_succ])
       refine wpAnyH_done (by kernel_rfl) ?_ _
       refine OnlyOn.on ?_
       gi_wp2
       have hBo := hHeld.2
       exact ⟨(keeps_of_below hBo).from _, fun b hb => hBo.block b (by have := HBB.out.size; simp at hb; omega), by rw [HUN.out, hmk]; rfl, HBB.out.trans (hBo.mono HBB.out.size)⟩
   case done =>
    rintro D ys X hD hys ⟨hall, hB⟩ hK
    have b4 := (hB.block _ (by omega)).trans k4
    have c4 := (show ∀ Y : World, Y.heap[w.heap.size + 1 + 1]? = some (.cells #[.int .i64 0] 26 (0, 0)) → Y.cell? ⟨w.heap.size + 1 + 1, 0, none⟩ = some (.int .i64 0) from fun Y h => by simp [World.cell?, h]) _ b4
    have c4f := (show ∀ Y : World, Y.heap[w.heap.size + 1 + 1]? = some (.cells #[.int .i64 0] 26 (0, 0)) → Y.frozen? ⟨w.heap.size + 1 + 1, 0, none⟩ = false from fun Y h => by simp [World.frozen?, h]) _ b4
    have hr0 : r = 0 := by
     have h1 := HRr.out
     rw [hys] at hall
     rw [if_pos hall] at h1
     exact h1
    gi_wp2
    have hK' : (X.setCell ⟨w.heap.size + 1 + 1, 0, none⟩ (.int .i64 0)).heap[D]? = some (.deferred (some [])) := (KeepsOthers.setCell _ _ _).same D _ hK rfl
    have hS : Boxed (X.setCell ⟨w.heap.size + 1 + 1, 0, none⟩ (.int .i64 0)) (w.heap.size + 1 + 1) 26 (.int .i64 0) := Boxed.set _ b4
    refine ⟨by simp, .inl ⟨_, _, rfl, run_takeDeferred hK', ?_⟩⟩
    refine ⟨_, res_errno rfl _ _ (w.heap.size + 1 + 1) 0 (by simp) (Boxed.cell (t := 26) ?_), by rw [hr0], ?_⟩
    ·exact (World.putObj_heap_other (by omega)).trans hS
    ·exact (Below.setCell (hBw3.trans (hB.mono (by omega))) (p := ⟨w.heap.size + 1 + 1, 0, none⟩) (by simp; omega) _).trans (belowK_b (Nat.le_refl _) _ D _ _ (by omega) hK' rfl rfl)
   case stop =>
    rintro D c pre X hD hp' ⟨⟨rfl, hall⟩, K4, hB⟩ hK
    gi_wp2
    refine ⟨by simp, .inl ⟨_, _, rfl, run_takeDeferred hK, ?_⟩⟩
    refine ⟨_, res_errno rfl _ _ (w.heap.size + 1 + 1) 7 (by simp) (Boxed.cell (t := 26) ?_), ?_, ?_⟩
    ·exact (World.putObj_heap_other (by have := (Array.getElem?_eq_some_iff.1 k4).1; omega)).trans K4
    ·obtain ⟨n, hn, e⟩ := hp'
     have : (List.range (siz L R)).all (meantOK L R S N l1) = false := by
      cases hh : (List.range (siz L R)).all (meantOK L R S N l1) with
      | false => rfl
      | true =>
       rw [List.all_eq_true] at hh
       have : (List.range n).all (meantOK L R S N l1) = true := by
        rw [List.all_eq_true]
        exact fun x hx => hh x (by simp at hx ⊢; omega)
       rw [e, this] at hall; cases hall
     have h1 := HRr.out
     rw [this] at h1
     rw [h1]; rfl
    ·exact hB.trans (belowK_b (Nat.le_refl _) _ D _ _ (by omega) hK rfl rfl)
  ·have d1 : ((l1.length : Int) != ((siz L R : Nat) : Int)) = true := by
    rw [bne_iff_ne]; omega
   rw [d1]
   have Hr : r = 1 := by
    have := H.out
    unfold steer_Prove.f at this
    rw [if_pos hp, if_neg hlen] at this
    exact (Option.some.inj this).symm
   subst Hr
   have b4 := b4'
   have c4 := (show ∀ Y : World, Y.heap[w.heap.size + 1 + 1]? = some (.cells #[.int .i64 0] 26 (0, 0)) → Y.cell? ⟨w.heap.size + 1 + 1, 0, none⟩ = some (.int .i64 0) from fun Y h => by simp [World.cell?, h]) _ b4
   have c4f := (show ∀ Y : World, Y.heap[w.heap.size + 1 + 1]? = some (.cells #[.int .i64 0] 26 (0, 0)) → Y.frozen? ⟨w.heap.size + 1 + 1, 0, none⟩ = false from fun Y h => by simp [World.frozen?, h]) _ b4
   clear b4' b3' b2' hRW
   gi_wp2
   refine ⟨_, res_errno rfl _ _ (w.heap.size + 1 + 1) 1 (by simp) (Boxed.cell (t := 26) (Boxed.set _ b4)), rfl, ?_⟩
   exact Below.setCell hBw (p := ⟨w.heap.size + 1 + 1, 0, none⟩) (by simp; omega) _
end

end Go.Proofs.Ytcaekmalkbaldaa.M
