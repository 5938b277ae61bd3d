/- Zf, Zg, Zh: joined. -/
import Derived.OwnWalk
import Derived.Test.YtleipbanadnchaaY1
import Derived.Test.YtleipbanadnchaaCk
import Derived.Test.YtleipbanadnchaaDa
import Derived.RangeFuncBox
import Derived.RangeFuncLeaves
import Derived.RangeFuncNested
import Derived.RangeFuncBound
import Derived.RangeFuncCalls
import Derived.Shelf.Abstract
import Derived.Shelf.AbstractIn
import Derived.WalkKit
import Derived.OwnWalkIn
import Derived.TacticsInMore
import Derived.LoopNIn
import Derived.LoopIn
import Derived.Maps.AppendAt
import Derived.Maps.OwnIn
import Derived.Maps.Own
import Derived.Maps.OwnOps
import Derived.Test.YtleipbanadnchaaCl
import Derived.Test.YtleipbanadnchaaZs
import Derived.Test.YtleipbanadnchaaEf
import Derived.Test.YtleipbanadnchaaCq
section
/- The offsets of a zone, as an iterator, by hand. -/
namespace Go.Proofs.Ytleipbanadnchaa.C
open Go.RowKit Go.Shelf Go.Maps Go.Proofs.YtleipbanadnchaaW.PrintWords Go.Proofs.YtleipbanadnchaaW.PrintLast Go.Proofs.YtleipbanadnchaaW.PrintMore
set_option linter.unusedVariables false
set_option linter.unusedSimpArgs false
attribute [local go_sem] Oper.semAt_some
set_option maxRecDepth 100000 in
theorem offsets_calls (o : Int) (A : Option Addr) (n c : Nat) (w : World) :
    Calls Try.prog 101 #[zoneV o A n c] w fun e w' => e = .returned (.func (.func 120) #[] #[.pointer (some ⟨w.heap.size, 0, none⟩)]) ∧ w' = w.alloc (.cells #[.int .i64 o, .slice A n c] 76) := by
  go_enter Try.func101, Try.ntmps101
  go_wp2
  go_ret
  exact ⟨rfl, rfl⟩
/-- Some blocks stay as they are. -/
def SameAt (bs : List Nat) (W W' : World) : Prop := ∀ b, b ∈ bs → W'.heap[b]? = W.heap[b]?
theorem SameAt.t {bs : List Nat} {A B C : World} (h : SameAt bs A B) (k : SameAt bs B C) : SameAt bs A C := fun b hb => (k b hb).trans (h b hb)
theorem SameAt.b {bs : List Nat} {n : Nat} (hb : ∀ b, b ∈ bs → b < n) : ∀ (W : World) (l : Nat) (o o' : Obj), n ≤ l → W.heap[l]? = some o → o.isCells = false → o.isWalk = false → SameAt bs W (W.putObj l o') :=
  fun W l o o' hl _ _ _ b hm => World.putObj_heap_other (by have := hb b hm; omega)
/-- All blocks of a type stay as they are. -/
def SameT (t : TypeId) (W W' : World) : Prop := ∀ (k : Nat) (cs : Array Value) (fr : Nat × Nat), W.heap[k]? = some (Obj.cells cs t fr) → W'.heap[k]? = some (Obj.cells cs t fr)
/-- What a round keeps: some blocks, all maps, and all blocks of changes. -/
def KeepZ (bs : List Nat) (W W' : World) : Prop := SameAt bs W W' ∧ KeepsWalks W W' ∧ SameT 140 W W'
theorem KeepZ.t {bs : List Nat} {A B C : World} (h : KeepZ bs A B) (k : KeepZ bs B C) : KeepZ bs A C := ⟨h.1.t k.1, h.2.1.trans k.2.1, fun i cs fr hi => k.2.2 i cs fr (h.2.2 i cs fr hi)⟩
theorem KeepZ.b {bs : List Nat} {n : Nat} (hb : ∀ b, b ∈ bs → b < n) : ∀ (W : World) (l : Nat) (o o' : Obj), n ≤ l → W.heap[l]? = some o → o.isCells = false → o.isWalk = false → KeepZ bs W (W.putObj l o') :=
  fun W l o o' hl h1 h2 h3 => ⟨SameAt.b hb W l o o' hl h1 h2 h3, KeepsWalks.putObj o' h1 h3, fun k cs fr hk => (World.putObj_heap_other (fun e => by subst e; rw [h1] at hk; cases hk; cases h2)).trans hk⟩
/-- A set of offsets. -/
def dmB (l : List Int) : DataW Unit := l.foldl (fun D n => D.put (.int .i64 n) (.lit (.bool true))) (.map [])
theorem dmB_snoc (l : List Int) (n : Int) : dmB (l ++ [n]) = (dmB l).put (.int .i64 n) (.lit (.bool true)) := by unfold dmB; rw [List.foldl_append]; rfl
theorem dmB_map : ∀ (l : List Int) (D : DataW Unit), IsMap D → IsMap (l.foldl (fun D n => D.put (.int .i64 n) (.lit (.bool true))) D)
  | [], D, h => h
  | x :: l, D, h => dmB_map l _ (h.put _ _)
theorem dmB_at (n : Int) : ∀ (l : List Int) (D : DataW Unit), IsMap D → (l.foldl (fun D n => D.put (.int .i64 n) (.lit (.bool true))) D).atKey (.int .i64 n) (.lit (.bool false)) = if n ∈ l then .lit (.bool true) else D.atKey (.int .i64 n) (.lit (.bool false))
  | [], D, h => by simp
  | x :: l, D, h => by
    rw [List.foldl_cons, dmB_at n l _ (h.put _ _)]
    by_cases hn : n ∈ l
    · rw [if_pos hn, if_pos (List.mem_cons_of_mem _ hn)]
    · rw [if_neg hn]
      by_cases hx : n = x
      · subst hx
        rw [if_pos (List.mem_cons_self ..)]
        exact atKey_put_same h (show WideAt.IsKeyLit (.int .i64 n) from by simp [WideAt.IsKeyLit]) _ _
      · rw [if_neg (by simp [hx, hn])]
        exact atKey_put_other (fun e => hx (by injection e with _ e)) _ _
theorem dmB_has (l : List Int) (n : Int) : (dmB l).atKey (.int .i64 n) (.lit (.bool false)) = .lit (.bool (decide (n ∈ l))) := by
  unfold dmB
  rw [dmB_at n l _ isMap_empty]
  by_cases h : n ∈ l
  · rw [if_pos h, decide_eq_true h]
  · rw [if_neg h, decide_eq_false h]; rfl
theorem zero4 (w : World) : (zeroValue 4).run Try.prog w = .ok (.bool false) w := by kernel_rfl
set_option maxRecDepth 100000 in
theorem pbool_inv {v : Value} {z : DataW Unit × List MemPlace} (h : plainElem (H := Unit) Try.prog 4 v = some z) : ∃ a, v = .bool a ∧ z = (.lit (.bool a), []) := by
  unfold plainElem at h
  rw [Try.underlying4] at h
  cases v <;> simp at h
  exact ⟨_, rfl, h.symm⟩
set_option maxRecDepth 100000 in
theorem look_bool {w : World} {mb n : Nat} {l : List Int} {x : Int} (h : w.ownsMap Try.prog 3 (plainElem Try.prog 4) mb n (dmB l)) (hx : (Lit.int .i64 x).wf = true) :
    (Instr.lookup 169 (.map (some mb)) (.int .i64 x) false).run Try.prog w = .ok (.bool (decide (x ∈ l))) w := by
  obtain ⟨v, ps, hrun, hv⟩ := h.lookup law3 Try.underlying169 (zero4 w) (plainElem_bool Try.underlying4 false) (keyOf_int_mk Try.underlying3 hx)
  rw [dmB_has] at hv
  obtain ⟨c, rfl, hc⟩ := pbool_inv hv
  simp only [Prod.mk.injEq] at hc
  have h2 := hc.1
  injection h2 with h2
  injection h2 with h2
  rw [hrun, h2]
set_option maxRecDepth 100000 in
theorem upd_bool {w : World} {mb n : Nat} {l : List Int} {x : Int} (h : w.ownsMap Try.prog 3 (plainElem Try.prog 4) mb n (dmB l)) (hx : (Lit.int .i64 x).wf = true) (hn : n < maxLen) :
    ∃ w', (Instr.mapUpdate 169 (.map (some mb)) (.int .i64 x) (.bool true)).run Try.prog w = .ok () w' ∧ w'.ownsMap Try.prog 3 (plainElem Try.prog 4) mb (n + 1) (dmB (l ++ [x])) ∧ w.grownBy w' (some mb) := by
  rw [dmB_snoc]
  exact h.update law3 Try.underlying169 hn (keyOf_int_mk Try.underlying3 hx) (plainElem_bool Try.underlying4 true)
theorem C_same {w w' : World} {A : Option Addr} {n : Nat} {l : List (Int × Int)} (h : Kd.C kl w A n l) (hs : 0 < n → ∀ ad, A = some ad → w'.heap[ad.block]? = w.heap[ad.block]?) : Kd.C kl w' A n l := by
  obtain ⟨h1, h2, h3⟩ := h
  refine ⟨h1, h2, fun h0 => ?_⟩
  obtain ⟨ad, rfl, hc⟩ := h3 h0
  refine ⟨ad, rfl, fun j p hj => ?_⟩
  obtain ⟨cs, a1, a2, a3⟩ := hc j p hj
  refine ⟨cs, a1, a2, fun i u hu => ?_⟩
  rw [World.cell?_of_block (w := w) (by rw [add_block]; exact hs h0 ad rfl)]
  exact a3 i u hu
theorem own_walks {w w' : World} {mb n : Nat} {D : DataW Unit} (h : w.ownsMap Try.prog 3 (plainElem Try.prog 4) mb n D) (k : KeepsWalks w w') : w'.ownsMap Try.prog 3 (plainElem Try.prog 4) mb n D := by
  obtain ⟨es, ck, h1, h2⟩ := h
  exact ⟨es, ck, k.same mb _ h1 rfl, h2⟩
theorem own_isWalk {w : World} {mb n : Nat} {D : DataW Unit} (h : w.ownsMap Try.prog 3 (plainElem Try.prog 4) mb n D) : ∃ o, w.heap[mb]? = some o ∧ o.isWalk = true := by
  obtain ⟨es, ck, h1, h2⟩ := h
  exact ⟨_, h1, rfl⟩
/-- The blocks in which a zone lies. -/
def zbs (B0 : Nat) (A : Option Addr) (n : Nat) : List Nat := if 0 < n then B0 :: (A.map Addr.block).toList else [B0]
theorem zbs_0 (B0 : Nat) (A : Option Addr) (n : Nat) : B0 ∈ zbs B0 A n := by unfold zbs; split <;> simp
theorem zbs_A (B0 : Nat) {A : Option Addr} {n : Nat} (hn : 0 < n) {ad : Addr} (h : A = some ad) : ad.block ∈ zbs B0 A n := by subst h; unfold zbs; rw [if_pos hn]; simp
theorem C_lt {w : World} {A : Option Addr} {l : List (Int × Int)} (h : Kd.C kl w A l.length l) (hl : 0 < l.length) {ad : Addr} (e : A = some ad) : ad.block < w.heap.size := by
  obtain ⟨ad', e', c0, _⟩ := C_leap h 0 hl hl
  rw [e] at e'
  cases e'
  have := World.block_lt_of_cell? _ _ c0
  rwa [add_block] at this
theorem zbs_lt {w : World} {B0 : Nat} {A : Option Addr} {l : List (Int × Int)} (h0 : B0 < w.heap.size) (h : Kd.C kl w A l.length l) : ∀ b ∈ zbs B0 A l.length, b < w.heap.size := by
  intro b hb
  unfold zbs at hb
  split at hb
  · rename_i hl
    rcases List.mem_cons.1 hb with rfl | hb
    · exact h0
    · cases A with
      | none => simp at hb
      | some ad => simp at hb; subst hb; exact C_lt h hl rfl
  · simp at hb; subst hb; exact h0
theorem offs_len (o : Int) (l : List (Int × Int)) (i : Nat) : (offs o (l.take i)).length ≤ i + 1 := by
  have h : ∀ (m seen : List Int), (onceL seen m).length ≤ seen.length + m.length := by
    intro m
    induction m with
    | nil => intro seen; simp [onceL]
    | cons x m ih =>
      intro seen
      rw [onceL]
      refine Nat.le_trans (ih _) ?_
      split
      · simp
      · simp; omega
  have h2 := h ((l.take i).map (·.2)) [o]
  have h3 : ((l.take i).map (·.2)).length ≤ i := by simp; omega
  unfold offs
  simp only [List.length_singleton] at h2
  omega
theorem offL_take (o : Int) {l : List (Int × Int)} {i : Nat} (h : i < l.length) : offL o (l.take (i + 1)) = offL o (l.take i) ++ [l[i].2] := by
  unfold offL
  rw [List.take_add_one, List.getElem?_eq_getElem h, List.map_append, List.cons_append]
  rfl
/-- An offset that a zone may have. -/
abbrev Off := { k : Int // -1440 ≤ k ∧ k ≤ 1440 }
set_option maxRecDepth 100000 in
set_option maxHeartbeats 4000000 in
theorem offs_stops (n : Nat) (hn : 1 ≤ n) (o : Int) (A : Option Addr) (c : Nat) (l : List (Int × Int)) (B0 : Nat) (w : World) (h0 : w.heap[B0]? = some (.cells #[.int .i64 o, .slice A l.length c] 76 (0, 0))) (hr : Kd.C kl w A l.length l) (hz : zcheckF o l = 0) :
    SeqStopsK Fence.wide n Try.prog 120 #[.pointer (some ⟨B0, 0, none⟩)] (fun k : Off => #[.int .i64 k.1]) (KeepZ (zbs B0 A l.length)) (fun xs => xs.map (·.1) = offs o l) (fun _ => True) 201 w := fun r J Jx W hW hJ hJx hY hJ0 => by
  obtain ⟨hlen, ho0, ho1, hoff⟩ := zcheckF_right hz
  have lt0 : B0 < w.heap.size := (Array.getElem?_eq_some_iff.1 h0).1
  have G0 := (hW.block B0 lt0).trans h0
  have HC := Aside0.mk (Kd.C_below hr hW)
  have HOF := Aside0.mk hoff
  have hlt0 : B0 < W.heap.size := (Array.getElem?_eq_some_iff.1 G0).1
  clear h0 hr hz hoff
  have hmm := @run_makeMap Try.prog
  refine callsIn_of_wp Try.func120 rfl trivial ?_ rfl
  simp only [Try.ntmps120, List.size_toArray, List.length_cons, List.length_nil, Nat.reduceAdd, Nat.reduceSub, Array.replicate_succ, Array.replicate_zero, List.push_toArray, List.append_toArray, List.nil_append, List.cons_append]
  have hown0 : (W.alloc (.map #[] 0)).ownsMap Try.prog 3 (plainElem Try.prog 4) W.heap.size 0 (dmB []) := World.ownsMap_made (H := Unit) W Try.prog 3 (plainElem Try.prog 4)
  obtain ⟨W1, hrun1, hown1, hg1⟩ := upd_bool hown0 (x := o) (wf_64 (by omega) (by omega)) (by unfold maxLen; omega)
  have hJ1 : J [] W1 := hJ _ _ _ _ (hJ _ _ _ none hJ0 (World.grownBy_alloc W _ none) (fun r e => by cases e)) hg1 (fun r e => by cases e; exact ⟨Nat.le_refl _, own_isWalk hown0⟩)
  have c0 : (W.alloc (.map #[] 0)).cell? ⟨B0, 0, none⟩ = some (.int .i64 o) := by simp [World.cell?, Below.heap_alloc _ _ _ hlt0, G0]
  have hkeep1 : ∀ b, b < W.heap.size → W1.heap[b]? = W.heap[b]? := fun b hb => (hg1.block b (by simp; omega) (by simp; omega)).trans (Below.heap_alloc _ _ _ hb)
  have HK1 := Aside0.mk hkeep1
  have HO1 := Aside0.mk hown1
  have hmb : W.heap.size < W1.heap.size := by have := hg1.size; simp at this; omega
  clear hkeep1 hown1 hown0 hg1
  have c1 : W1.cell? ⟨B0, 0, none⟩ = some (.int .i64 o) := (World.cell?_of_block (HK1.out B0 hlt0)).trans (by simp [World.cell?, G0])
  obtain ⟨fn0, tmps0, assign0, body0, hy0, hR0⟩ := hY [] ⟨o, ho0, ho1⟩ W1 hJ1 (by simp)
  gi_wp2
  refine hR0.mono ?_
  rintro en W2 (⟨rfl, hJ2, hk2⟩ | ⟨rfl, hJx2⟩)
  · have hsz2 := hk2.2.1.size
    have HO2 := Aside0.mk (own_walks HO1.out hk2.2.1)
    have HBS := Aside0.mk (zbs_lt hlt0 HC.out)
    have HS2 : Aside0 (SameAt (zbs B0 A l.length) W W2) := ⟨fun b hb => (hk2.1 b hb).trans (HK1.out b (HBS.out b hb))⟩
    have c2 : W2.cell? ⟨B0, 1, none⟩ = some (.slice A l.length c) := by simp [World.cell?, HS2.out B0 (zbs_0 _ _ _), G0]
    have HJ2 : J [⟨o, ho0, ho1⟩] W2 := hJ2
    have HO20 : Aside0 (W2.ownsMap Try.prog 3 (plainElem Try.prog 4) W.heap.size (0 + 1) (dmB (offL o (l.take 0)))) := ⟨HO2.out⟩
    have hmb2 : W.heap.size < W2.heap.size := by omega
    clear hJ1 hJ2 hk2 hrun1 c1 c0 HK1 HO1 HO2 hR0 hy0 hsz2 hmb
    gi_wp2_with fail
    clear c2
    gi_loopw [18] (fun v wr => ∃ (i : Nat) (pre : List Off), i ≤ l.length ∧ v = .int .i64 i ∧ J pre wr ∧ Aside0 (pre.map (·.1) = offs o (l.take i)) ∧ Aside0 (SameAt (zbs B0 A l.length) W wr ∧ wr.ownsMap Try.prog 3 (plainElem Try.prog 4) W.heap.size (i + 1) (dmB (offL o (l.take i))) ∧ W.heap.size < wr.heap.size))
      (fun v _ => l.length - (intOf v).toNat)
    case atStart => exact ⟨0, _, Nat.zero_le _, rfl, HJ2, ⟨rfl⟩, ⟨HS2.out, HO20.out, hmb2⟩⟩
    case round =>
      clear HJ2 HS2 HO20 hmb2
      obtain ⟨i, pre, hi, rfl, hJs, HPR, HS⟩ := hrel
      by_cases hlt : i < l.length
      · obtain ⟨ad, rfl, hc0, hc1⟩ := C_leap (C_same HC.out (fun hn ad e => HS.out.1 _ (zbs_A B0 hn e))) i hlt hlt
        have HT := Aside0.mk (offs_take o hlt)
        have HTL := Aside0.mk (offL_take o hlt)
        have hln : pre.length ≤ i + 1 := by have h1 := offs_len o l i; rw [← HPR.out] at h1; simpa using h1
        have hxb := HOF.out l[i] (List.getElem_mem _)
        generalize l[i] = x at *
        obtain ⟨xd, xs⟩ := x
        simp only at hc0 hc1 hxb
        have d1 : decide ((i : Int) < (l.length : Int)) = true := decide_eq_true (by omega)
        have hownA : (wr.alloc (.cells #[.int .i64 xd, .int .i64 xs] 140)).ownsMap Try.prog 3 (plainElem Try.prog 4) W.heap.size (i + 1) (dmB (offL o (l.take i))) := HS.out.2.1.alloc _
        have hlook := look_bool hownA (x := xs) (wf_64 (by omega) (by omega))
        have hJA : J pre (wr.alloc (.cells #[.int .i64 xd, .int .i64 xs] 140)) := hJ _ _ _ none hJs (World.grownBy_alloc wr _ none) (fun r e => by cases e)
        have hsA : SameAt (zbs B0 (some ad) l.length) W (wr.alloc (.cells #[.int .i64 xd, .int .i64 xs] 140)) := fun b hb => (Below.heap_alloc _ _ _ (by have := HBS.out b hb; have := HS.out.2.2; omega)).trans (HS.out.1 b hb)
        have kx : (wr.alloc (.cells #[.int .i64 xd, .int .i64 xs] 140)).heap[wr.heap.size]? = some (.cells #[.int .i64 xd, .int .i64 xs] 140 (0, 0)) := al_new _ _ _ rfl
        have hmem : (xs ∈ offL o (l.take i)) ↔ xs ∈ offs o (l.take i) := offs_mem.symm
        by_cases hin : xs ∈ offL o (l.take i)
        · have HN : Aside0 (pre.map (·.1) = offs o (l.take (i + 1))) := ⟨by rw [HT.out, HPR.out]; exact (if_pos (hmem.1 hin)).symm⟩
          rw [decide_eq_true hin] at hlook
          obtain ⟨W4, hrun4, hown4, hg4⟩ := upd_bool hownA (x := xs) (wf_64 (by omega) (by omega)) (by unfold maxLen; omega)
          have HF4 : Aside0 (J pre W4 ∧ SameAt (zbs B0 (some ad) l.length) W W4 ∧ W4.ownsMap Try.prog 3 (plainElem Try.prog 4) W.heap.size (i + 1 + 1) (dmB (offL o (l.take (i + 1)))) ∧ W.heap.size < W4.heap.size) := ⟨by
            refine ⟨?_, fun b hb => ?_, ?_, ?_⟩
            · exact hJ _ _ _ _ hJA hg4 (fun r e => by cases e; exact ⟨Nat.le_refl _, own_isWalk hownA⟩)
            · have := HBS.out b hb
              exact (hg4.block b (by have := HS.out.2.2; simp; omega) (by simp; omega)).trans (hsA b hb)
            · rw [HTL.out]; exact hown4
            · have h1 := hg4.size; have h2 := HS.out.2.2; simp at h1; omega⟩
          clear hownA hJA hsA hown4 hg4 hmem hin kx hJs
          gi_wp2
          refine ⟨fun _ h => (by cases h), ?_⟩
          gi_wp2
          go_roundw
          case rel => exact ⟨i + 1, _, by omega, by go_num, HF4.out.1, HN, ⟨HF4.out.2⟩⟩
          case measure => simp [intOf]; omega
        · have HN : Aside0 ((pre ++ [(⟨xs, hxb.1, hxb.2.1⟩ : Off)]).map (·.1) = offs o (l.take (i + 1))) := ⟨by rw [HT.out, List.map_append, HPR.out]; exact (if_neg (fun e => hin (hmem.2 e))).symm⟩
          rw [decide_eq_false hin] at hlook
          obtain ⟨fn3, tmps3, assign3, body3, hy3, hR3⟩ := hY _ ⟨xs, hxb.1, hxb.2.1⟩ _ hJA (by omega)
          clear hmem hin hJs
          have HA := Aside0.mk (And.intro hownA (And.intro hsA kx))
          clear hownA hsA kx hJA
          gi_wp2
          refine hR3.mono ?_
          rintro en W3 (⟨rfl, hJ3, hk3⟩ | ⟨rfl, hJx3⟩)
          · have hown3 := own_walks HA.out.1 hk3.2.1
            obtain ⟨W4, hrun4, hown4, hg4⟩ := upd_bool hown3 (x := xs) (wf_64 (by omega) (by omega)) (by unfold maxLen; omega)
            have hsz3 := hk3.2.1.size
            have hsz4 := hg4.size
            simp at hsz3
            have k3 := (hk3.1 B0 (zbs_0 _ _ _))
            have e1 : W3.cell? ⟨wr.heap.size, 1, none⟩ = some (.int .i64 xs) := blk_cell (hk3.2.2 _ _ _ HA.out.2.2) 1
            have HF4 : Aside0 (J (pre ++ [⟨xs, hxb.1, hxb.2.1⟩]) W4 ∧ SameAt (zbs B0 (some ad) l.length) W W4 ∧ W4.ownsMap Try.prog 3 (plainElem Try.prog 4) W.heap.size (i + 1 + 1) (dmB (offL o (l.take (i + 1)))) ∧ W.heap.size < W4.heap.size) := ⟨by
              refine ⟨?_, fun b hb => ?_, ?_, ?_⟩
              · exact hJ _ _ _ _ hJ3 hg4 (fun r e => by cases e; exact ⟨Nat.le_refl _, own_isWalk hown3⟩)
              · have := HBS.out b hb
                exact (hg4.block b (by have := HS.out.2.2; omega) (by simp; omega)).trans ((hk3.1 b hb).trans (HA.out.2.1 b hb))
              · rw [HTL.out]; exact hown4
              · have := HS.out.2.2; omega⟩
            clear hown3 hown4 hg4 hk3 hJ3 hsz3 hsz4 k3
            gi_wp2
            go_roundw
            case rel => exact ⟨i + 1, _, by omega, by go_num, HF4.out.1, HN, ⟨HF4.out.2⟩⟩
            case measure => simp [intOf]; omega
          · gi_wp2
            refine bodyPost_ret (results_none rfl _ _ _) rfl ?_
            exact ⟨⟨_, rfl⟩, .inr ⟨_, trivial, hJx3⟩⟩
      · obtain rfl : i = l.length := by omega
        gi_wp2
        go_end0
        exact ⟨⟨_, rfl⟩, .inl ⟨_, by rw [HPR.out, List.take_length], hJs⟩⟩
  · gi_wp2
    refine bodyPost_ret (results_none rfl _ _ _) rfl ?_
    exact ⟨⟨_, rfl⟩, .inr ⟨_, trivial, hJx2⟩⟩
end Go.Proofs.Ytleipbanadnchaa.C
end

section
/- The contract of calendar.FromLocal, by hand. -/
namespace Go.Proofs.Ytleipbanadnchaa.C
open Go.RowKit Go.Shelf Go.Maps Go.Proofs.YtleipbanadnchaaW.PrintWords Go.Proofs.YtleipbanadnchaaW.PrintLast Go.Proofs.YtleipbanadnchaaW.PrintMore
set_option linter.unusedVariables false
set_option linter.unusedSimpArgs false
attribute [local go_sem] Oper.semAt_some
/-- A local date's hour, minute and second are right. -/
def clkOk (h i s : Int) : Prop := 0 ≤ h ∧ h ≤ 23 ∧ 0 ≤ i ∧ i ≤ 59 ∧ 0 ≤ s ∧ s ≤ 60
/-- What was found, in memory. -/
structure FlI (w8 W : World) (o : Int) (zA : Option Addr) (zc n : Nat) (vo : Value) (out : List Int) : Prop where
  bel : Below w8.heap.size w8 W
  kt : W.heap[w8.heap.size]? = some (.cells #[vo] 61 (0, 0))
  ku : W.heap[w8.heap.size + 1]? = some (.cells #[.int .i64 o, .slice zA n zc] 76 (0, 0))
  own : W.ownsRow (w8.heap.size + 2) 3 1 vo out.length (icells out)
theorem FlI.below {w8 W X : World} {o : Int} {zA : Option Addr} {zc n : Nat} {vo : Value} {out : List Int} (h : FlI w8 W o zA zc n vo out) (hB : Below W.heap.size W X) : FlI w8 X o zA zc n vo out :=
  ⟨h.bel.trans (hB.mono h.bel.size), (hB.block _ (Array.getElem?_eq_some_iff.1 h.kt).1).trans h.kt, (hB.block _ (Array.getElem?_eq_some_iff.1 h.ku).1).trans h.ku, own_move h.own (fun k hk => hB.block k (own_lt h.own k hk))⟩
theorem cells_kept {X Y : World} {row : Option Nat} {k : Nat} {cs : Array Value} {t : TypeId} {fr : Nat × Nat} (hg : X.grownBy Y row) (hr : ∀ r, row = some r → ∃ o : Obj, X.heap[r]? = some o ∧ o.isCells = false) (h : X.heap[k]? = some (.cells cs t fr)) : Y.heap[k]? = some (.cells cs t fr) :=
  (hg.block k (Array.getElem?_eq_some_iff.1 h).1 (fun e => by obtain ⟨o, h1, h2⟩ := hr k e.symm; rw [h] at h1; cases h1; cases h2)).trans h
theorem FlI.from (w8 : World) (o : Int) (zA : Option Addr) (zc n : Nat) (f : List Off → List Int) : OwnFrom (w8.heap.size + 2) (fun pre W => ∃ vo, FlI w8 W o zA zc n vo (f pre)) := by
  rintro s X Y row ⟨vo, h⟩ hg hr
  refine ⟨vo, ⟨h.bel.grown hg h.bel.size (fun k e => by have := (hr k e).1; omega), cells_kept hg (fun r e => (hr r e).2) h.kt, cells_kept hg (fun r e => (hr r e).2) h.ku, own_move h.own (fun k hk => ?_)⟩⟩
  obtain ⟨_, h2⟩ := h.own
  rcases h2 with ⟨rfl, _⟩ | ⟨g, cap, cur, rfl, a1, a2, _⟩
  · cases hk
  · cases hk
    rw [cells_kept hg (fun r e => (hr r e).2) a2, a2]
theorem keepZ_below {bs : List Nat} {W X : World} (hB : Below W.heap.size W X) (hb : ∀ b ∈ bs, b < W.heap.size) : KeepZ bs W X :=
  ⟨fun b h => hB.block b (hb b h), ⟨hB.size, fun k o hk _ => (hB.block k (Array.getElem?_eq_some_iff.1 hk).1).trans hk⟩, fun k cs fr hk => (hB.block k (Array.getElem?_eq_some_iff.1 hk).1).trans hk⟩
theorem own_row {w : World} {base : Nat} {v : Value} {n : Nat} {xs : List Value} (h : w.ownsRow base 3 1 v n xs) (k : Nat) (hk : v.ownBlock = some k) : base ≤ k ∧ ∃ cs, w.heap[k]? = some (Obj.cells cs 3 (0, 0)) := by
  obtain ⟨_, h2⟩ := h
  rcases h2 with ⟨rfl, _⟩ | ⟨g, cap, cur, rfl, a1, a2, _⟩
  · cases hk
  · cases hk; exact ⟨a1, _, a2⟩
theorem fl_append {w8 X Y : World} {o : Int} {zA : Option Addr} {zc n : Nat} {vo v2 : Value} {out : List Int} {x : Int} (h : FlI w8 X o zA zc n vo out)
    (hown : Y.ownsRow (w8.heap.size + 2) 3 1 v2 (out.length + 1) (icells out ++ [.int .i64 x])) (hg : (X.alloc (.cells #[.int .i64 x] 3)).grownBy Y vo.ownBlock) :
    Y.cell? ⟨w8.heap.size, 0, none⟩ = some vo ∧ Y.frozen? ⟨w8.heap.size, 0, none⟩ = false ∧ (∃ Av cv, v2 = .slice Av (out.length + 1) cv) ∧
    FlI w8 (Y.setCell ⟨w8.heap.size, 0, none⟩ v2) o zA zc n v2 (out ++ [x]) ∧ X.heap.size ≤ (Y.setCell ⟨w8.heap.size, 0, none⟩ v2).heap.size ∧
    (∀ k ob, X.heap[k]? = some ob → (∀ cs, ob ≠ Obj.cells cs 3 (0, 0)) → k ≠ w8.heap.size → (Y.setCell ⟨w8.heap.size, 0, none⟩ v2).heap[k]? = some ob) ∧
    (∀ k, k < w8.heap.size → (Y.setCell ⟨w8.heap.size, 0, none⟩ v2).heap[k]? = X.heap[k]?) := by
  have h1 : w8.heap.size + 1 < X.heap.size := (Array.getElem?_eq_some_iff.1 h.ku).1
  have hrow := own_row (own_move (w1 := X.alloc (.cells #[.int .i64 x] 3)) h.own (fun k hk => Below.heap_alloc _ _ k (own_lt h.own k hk)))
  have keep : ∀ k ob, X.heap[k]? = some ob → (∀ cs, ob ≠ Obj.cells cs 3 (0, 0)) → Y.heap[k]? = some ob := fun k ob hk hne => by
    have hk1 := (Array.getElem?_eq_some_iff.1 hk).1
    refine (hg.block k (by simp; omega) (fun e => ?_)).trans (al_old hk)
    obtain ⟨_, cs, hcs⟩ := hrow k e.symm
    rw [al_old hk] at hcs
    cases hcs
    exact hne cs rfl
  have hbel : Below w8.heap.size w8 Y := (h.bel.alloc h.bel.size _).grown hg (by have := h.bel.size; simp; omega) (fun k e => by have := (hrow k e).1; omega)
  have kT := keep _ _ h.kt (fun cs e => by cases e)
  have kU := keep _ _ h.ku (fun cs e => by cases e)
  have hl : icells (out ++ [x]) = icells out ++ [.int .i64 x] := by simp
  have hlen : (out ++ [x]).length = out.length + 1 := by simp
  have hown2 : Y.ownsRow (w8.heap.size + 2) 3 1 v2 (out ++ [x]).length (icells (out ++ [x])) := by rw [hl, hlen]; exact hown
  obtain ⟨Av, cv, hv, _⟩ := own_ints hown2
  rw [hlen] at hv
  refine ⟨blk_cell kT 0, blk_frozen kT 0, ⟨Av, cv, hv⟩, ⟨hbel.setCell (by simp) _, blk_put kT 0 _ rfl, blk_far kU (by simp) _, own_move hown2 (fun k hk => ?_)⟩, ?_, fun k ob hk hne hkT => ?_, fun k hk => ?_⟩
  · have := own_base hown2 k hk
    rw [Below.heap_setCell _ _ _ k (by simp; omega)]
  · have := hg.size; simp [World.setCell] at this ⊢; omega
  · rw [Below.heap_setCell _ _ _ k (by simpa using hkT)]; exact keep k ob hk hne
  · rw [Below.heap_setCell _ _ _ k (by simp; omega)]
    exact (hg.block k (by simp; omega) (fun e => by have := (hrow k e.symm).1; omega)).trans (Below.heap_alloc _ _ _ (by omega))
theorem keeps_of_below {W W' : World} (h : Below W.heap.size W W') : KeepsOthers W W' := ⟨h.size, fun k _ hk _ => (h.block k (Array.getElem?_eq_some_iff.1 hk).1).trans hk⟩
/-- The seconds found for some offsets. -/
def outsF (u : Int) (L : List (Int × Int)) (o : Int) (l : List (Int × Int)) (y m d h i s : Int) (pre : List Off) : List Int := (pre.map (·.1)).filterMap (secF u L o l y m d h i s)
theorem outsF_snoc (u : Int) (L : List (Int × Int)) (o : Int) (l : List (Int × Int)) (y m d h i s : Int) (pre : List Off) (x : Off) : outsF u L o l y m d h i s (pre ++ [x]) = outsF u L o l y m d h i s pre ++ (secF u L o l y m d h i s x.1).toList := by
  unfold outsF
  rw [List.map_append, List.filterMap_append]
  congr 1
theorem fl_keep {w8 W X Y : World} {o : Int} {zA : Option Addr} {zc n : Nat} {vo v2 : Value} {out out2 : List Int} {bs : List Nat} (hI : FlI w8 W o zA zc n vo out) (hB : Below W.heap.size W X) (hsz : X.heap.size ≤ Y.heap.size)
    (hk : ∀ (k : Nat) (ob : Obj), X.heap[k]? = some ob → (∀ cs, ob ≠ Obj.cells cs 3 (0, 0)) → k ≠ w8.heap.size → Y.heap[k]? = some ob) (hlow : ∀ k, k < w8.heap.size → Y.heap[k]? = X.heap[k]?) (hY : FlI w8 Y o zA zc n v2 out2) (hbs : ∀ b ∈ bs, b = w8.heap.size + 1 ∨ b < w8.heap.size) :
    (∀ B, KeepsFrom B W Y) ∧ KeepZ bs W Y := by
  have hx : ∀ (k : Nat) (ob : Obj), W.heap[k]? = some ob → X.heap[k]? = some ob := fun k ob h => (hB.block k (Array.getElem?_eq_some_iff.1 h).1).trans h
  have hnc : ∀ (k : Nat) (ob : Obj), W.heap[k]? = some ob → ob.isCells = false → Y.heap[k]? = some ob := fun k ob h hc => hk k ob (hx k ob h) (fun cs e => by subst e; cases hc) (fun e => by subst e; rw [hI.kt] at h; cases h; cases hc)
  have hs := Nat.le_trans hB.size hsz
  refine ⟨fun B => ⟨hs, fun k ob _ h hc => hnc k ob h hc⟩, fun b hb => ?_, ⟨hs, fun k ob h hw => hnc k ob h (Obj.not_cells_of_walk hw)⟩, fun k cs fr h => hk k _ (hx k _ h) (fun cs' e => by cases e) (fun e => by subst e; rw [hI.kt] at h; cases h)⟩
  rcases hbs b hb with rfl | hlt
  · rw [hY.ku, hI.ku]
  · rw [hlow b hlt]
    have := hI.bel.size
    exact hB.block b (by omega)
theorem zbs_cases {w : World} {A : Option Addr} {l : List (Int × Int)} (h : Kd.C kl w A l.length l) : ∀ b ∈ zbs (w.heap.size + 1) A l.length, b = w.heap.size + 1 ∨ b < w.heap.size := by
  intro b hb
  unfold zbs at hb
  split at hb
  · rename_i hl
    rcases List.mem_cons.1 hb with rfl | hb
    · exact .inl rfl
    · cases A with
      | none => simp at hb
      | some ad => simp at hb; subst hb; exact .inr (C_lt h hl rfl)
  · simp at hb; exact .inl hb
theorem secF_none1 {u : Int} {L : List (Int × Int)} {o : Int} {l : List (Int × Int)} {y m d h i s q : Int} (hx : knownD (shN y m d h i (-q) / 1440) = false) : secF u L o l y m d h i s q = none := by
  have : secU u L y m d h i s q = none := by unfold secU; simp only; rw [if_neg (by rw [hx]; simp)]
  unfold secF; rw [this]
theorem secF_none2 {u : Int} {L : List (Int × Int)} {o : Int} {l : List (Int × Int)} {y m d h i s q : Int} (hx : secOk L u (cY (shN y m d h i (-q) / 1440)) (cM (shN y m d h i (-q) / 1440)) (cD (shN y m d h i (-q) / 1440)) (shN y m d h i (-q) / 60 % 24) (shN y m d h i (-q) % 60) s = false) : secF u L o l y m d h i s q = none := by
  have : secU u L y m d h i s q = none := by unfold secU; simp only; rw [if_neg (by rw [hx]; simp)]
  unfold secF; rw [this]
theorem secF_some2 {u : Int} {L : List (Int × Int)} {o : Int} {l : List (Int × Int)} {y m d h i s q x : Int} (hk : knownD (shN y m d h i (-q) / 1440) = true) (hx : secOk L u (cY (shN y m d h i (-q) / 1440)) (cM (shN y m d h i (-q) / 1440)) (cD (shN y m d h i (-q) / 1440)) (shN y m d h i (-q) / 60 % 24) (shN y m d h i (-q) % 60) s = true)
    (he : beginF L (shN y m d h i (-q) / 1440) + (3600 * (shN y m d h i (-q) / 60 % 24) + 60 * (shN y m d h i (-q) % 60) + s) = x) : secF u L o l y m d h i s q = if holdsF o l x = q then some x else none := by
  have : secU u L y m d h i s q = some x := by unfold secU; simp only; rw [if_pos ⟨hk, hx⟩, he]
  unfold secF; rw [this]
theorem civ_dayN {D : Int} (hD : knownD D = true) : dayN (cY D) (cM D) (cD D) = D := by
  unfold knownD at hD
  simp at hD
  exact (civ_is hD.1 (by omega)).eq
set_option maxHeartbeats 8000000 in
set_option maxRecDepth 100000 in
theorem fl_main (b u : Int) (A : Option Addr) (c : Nat) (L : List (Int × Int)) (o : Int) (zA : Option Addr) (zc : Nat) (zl : List (Int × Int)) (y m d h i s : Int) (w : World) (hr : Kd.C kl w A L.length L) (hz : Kd.C kl w zA zl.length zl)
    (hk : checkF b L u = 0) (hzk : zcheckF o zl = 0) (hok : okD y m d = true) (hck : clkOk h i s) :
    Calls Try.prog 42 #[tabV b A L.length c u, zoneV o zA zl.length zc, dateV y m d h i s] w fun e w' => ∃ A' c', Kd.C (Kd.int .i64) w' A' (localL u L o zl y m d h i s).length (localL u L o zl y m d h i s) ∧
      e = .returned (.tuple #[.slice A' (localL u L o zl y m d h i s).length c', .int .i64 (if localL u L o zl y m d h i s = [] then 4 else 0)]) ∧ Below w.heap.size w w' := by
  refine (callsIn_wide (n := 9)).1 ?_
  obtain ⟨E, hE⟩ : ∃ E, (if localL u L o zl y m d h i s = [] then (4 : Int) else 0) = E := ⟨_, rfl⟩
  rw [hE]
  obtain ⟨q, hq⟩ : ∃ q, localL u L o zl y m d h i s = q := ⟨_, rfl⟩
  rw [hq]
  rw [hq] at hE
  have HE := Aside0.mk hE
  have HQ := Aside0.mk hq
  clear hE hq
  have HR := Aside0.mk hr
  have HZ := Aside0.mk hz
  have HK := Aside0.mk hk
  have HZK := Aside0.mk hzk
  have HOK := Aside0.mk hok
  have HCK := Aside0.mk hck
  have hzl := (zcheckF_right hzk).1
  have a62 := fun w h => open_calls b u A c L w h
  have a94 := fun w h => zcheck_calls o zA zc zl w h
  have a79 := fun w => exists_calls y m d w
  have a81 := fun w => within_calls h 0 23 w
  have b81 := fun w => within_calls i 0 59 w
  have c81 := fun w => within_calls s 0 60 w
  rw [hzk] at a94
  rw [hok] at a79
  rw [show (decide (0 ≤ h) && decide (h ≤ 23)) = true by unfold clkOk at hck; simp; omega] at a81
  rw [show (decide (0 ≤ i) && decide (i ≤ 59)) = true by unfold clkOk at hck; simp; omega] at b81
  rw [show (decide (0 ≤ s) && decide (s ≤ 60)) = true by unfold clkOk at hck; simp; omega] at c81
  clear hr hz hk hzk hok hck
  refine callsIn_of_wp_marks Try.func42 rfl trivial ?_ rfl
  simp only [Try.ntmps42, List.size_toArray, List.length_cons, List.length_nil, Nat.reduceAdd, Nat.reduceSub, Array.replicate_succ, Array.replicate_zero, List.push_toArray, List.append_toArray, List.nil_append, List.cons_append]
  obtain ⟨w1, hw1⟩ : ∃ w1, ((w.alloc (.cells #[.int .i64 b, .slice A L.length c, .int .i64 u] 28)).alloc (.cells #[.int .i64 o, .slice zA zl.length zc] 76)).alloc (.cells #[.int .i64 y, .int .i64 m, .int .i64 d, .int .i64 h, .int .i64 i, .int .i64 s] 30) = w1 := ⟨_, rfl⟩
  have hv : Below w.heap.size w w1 := by rw [← hw1]; exact (((Below.refl _ w).alloc (Nat.le_refl _) _).alloc (by simp) _).alloc (by simp; omega) _
  have kt : w1.heap[w.heap.size]? = some (.cells #[.int .i64 b, .slice A L.length c, .int .i64 u] 28 (0, 0)) := by rw [← hw1]; exact al_old (al_old (al_new _ _ _ rfl))
  have kz : w1.heap[w.heap.size + 1]? = some (.cells #[.int .i64 o, .slice zA zl.length zc] 76 (0, 0)) := by rw [← hw1]; exact al_old (al_new _ _ _ (by simp))
  have kd : w1.heap[w.heap.size + 1 + 1]? = some (.cells #[.int .i64 y, .int .i64 m, .int .i64 d, .int .i64 h, .int .i64 i, .int .i64 s] 30 (0, 0)) := by rw [← hw1]; exact al_new _ _ _ (by simp)
  have t0 : w1.cell? ⟨w.heap.size, 0, none⟩ = some (.int .i64 b) := blk_cell kt 0
  have t1 : w1.cell? ⟨w.heap.size, 1, none⟩ = some (.slice A L.length c) := blk_cell kt 1
  have t2 : w1.cell? ⟨w.heap.size, 2, none⟩ = some (.int .i64 u) := blk_cell kt 2
  have z0 : w1.cell? ⟨w.heap.size + 1, 0, none⟩ = some (.int .i64 o) := blk_cell kz 0
  have z1 : w1.cell? ⟨w.heap.size + 1, 1, none⟩ = some (.slice zA zl.length zc) := blk_cell kz 1
  have d0 : w1.cell? ⟨w.heap.size + 1 + 1, 0, none⟩ = some (.int .i64 y) := blk_cell kd 0
  have d1 : w1.cell? ⟨w.heap.size + 1 + 1, 1, none⟩ = some (.int .i64 m) := blk_cell kd 1
  have d2 : w1.cell? ⟨w.heap.size + 1 + 1, 2, none⟩ = some (.int .i64 d) := blk_cell kd 2
  have d3 : w1.cell? ⟨w.heap.size + 1 + 1, 3, none⟩ = some (.int .i64 h) := blk_cell kd 3
  have d4 : w1.cell? ⟨w.heap.size + 1 + 1, 4, none⟩ = some (.int .i64 i) := blk_cell kd 4
  have d5 : w1.cell? ⟨w.heap.size + 1 + 1, 5, none⟩ = some (.int .i64 s) := blk_cell kd 5
  clear kt kz kd
  have hR1 := Kd.C_below HR.out hv
  have hZ1 := Kd.C_below HZ.out hv
  gi_wp2_with fail
  try rw [hw1]
  clear hw1 t0 t1 t2
  refine ⟨trivial, ?_⟩
  refine (callsIn_wide.2 (a62 _ hR1)).mono ?_
  rintro en w2 ⟨_, hE, hB⟩
  obtain ⟨kb, rfl, hkb, hct⟩ := hE HK.out
  replace z0 := cell_on hB z0
  replace z1 := cell_on hB z1
  replace d0 := cell_on hB d0
  replace d1 := cell_on hB d1
  replace d2 := cell_on hB d2
  replace d3 := cell_on hB d3
  replace d4 := cell_on hB d4
  replace d5 := cell_on hB d5
  replace hZ1 := Kd.C_below hZ1 hB
  replace hv := hv.trans (hB.mono hv.size)
  clear hB hE a62 hR1
  have HCT := Aside0.mk hct
  clear hct
  have hz0 := World.block_lt_of_cell? _ _ z0
  have hz1 := World.block_lt_of_cell? _ _ d0
  gi_wp2_with fail
  clear hz0 hz1
  obtain ⟨w3, hw3⟩ : ∃ w3, w2.alloc (.cells #[.pointer (some ⟨kb, 0, none⟩)] 102) = w3 := ⟨_, rfl⟩
  try rw [hw3]
  have hB : Below w2.heap.size w2 w3 := by rw [← hw3]; exact (Below.refl _ w2).alloc (by first | exact Nat.le_refl _ | (simp; done) | (simp; omega)) _
  have kp : w3.heap[w2.heap.size]? = some (.cells #[.pointer (some ⟨kb, 0, none⟩)] 102 (0, 0)) := by rw [← hw3]; exact al_new _ _ _ (by first | rfl | (simp; done) | (simp; omega))
  have p0 : w3.cell? ⟨w2.heap.size, 0, none⟩ = some (.pointer (some ⟨kb, 0, none⟩)) := blk_cell kp 0
  clear kp
  replace z0 := cell_on hB z0
  replace z1 := cell_on hB z1
  replace d0 := cell_on hB d0
  replace d1 := cell_on hB d1
  replace d2 := cell_on hB d2
  replace d3 := cell_on hB d3
  replace d4 := cell_on hB d4
  replace d5 := cell_on hB d5
  replace hZ1 := Kd.C_below hZ1 hB
  replace HCT := Aside0.mk (HCT.out.below hB)
  replace hv := hv.trans (hB.mono hv.size)
  clear hB hw3
  refine ⟨trivial, ?_⟩
  refine (callsIn_wide.2 (a94 _ hZ1)).mono ?_
  rintro en w4 ⟨rfl, hB⟩
  replace z0 := cell_on hB z0
  replace z1 := cell_on hB z1
  replace d0 := cell_on hB d0
  replace d1 := cell_on hB d1
  replace d2 := cell_on hB d2
  replace d3 := cell_on hB d3
  replace d4 := cell_on hB d4
  replace d5 := cell_on hB d5
  replace p0 := cell_on hB p0
  replace hZ1 := Kd.C_below hZ1 hB
  replace HCT := Aside0.mk (HCT.out.below hB)
  replace hv := hv.trans (hB.mono hv.size)
  clear hB a94
  gi_wp2_with fail
  refine ⟨trivial, ?_⟩
  refine (callsIn_wide.2 (a79 _)).mono ?_
  rintro en w5 ⟨rfl, hB⟩
  replace z0 := cell_on hB z0
  replace z1 := cell_on hB z1
  replace d0 := cell_on hB d0
  replace d1 := cell_on hB d1
  replace d2 := cell_on hB d2
  replace d3 := cell_on hB d3
  replace d4 := cell_on hB d4
  replace d5 := cell_on hB d5
  replace p0 := cell_on hB p0
  replace hZ1 := Kd.C_below hZ1 hB
  replace HCT := Aside0.mk (HCT.out.below hB)
  replace hv := hv.trans (hB.mono hv.size)
  clear hB a79
  gi_wp2_with fail
  refine ⟨trivial, ?_⟩
  refine (callsIn_wide.2 (a81 _)).mono ?_
  rintro en w6 ⟨rfl, hB⟩
  replace z0 := cell_on hB z0
  replace z1 := cell_on hB z1
  replace d0 := cell_on hB d0
  replace d1 := cell_on hB d1
  replace d2 := cell_on hB d2
  replace d3 := cell_on hB d3
  replace d4 := cell_on hB d4
  replace d5 := cell_on hB d5
  replace p0 := cell_on hB p0
  replace hZ1 := Kd.C_below hZ1 hB
  replace HCT := Aside0.mk (HCT.out.below hB)
  replace hv := hv.trans (hB.mono hv.size)
  clear hB a81
  gi_wp2_with fail
  refine ⟨trivial, ?_⟩
  refine (callsIn_wide.2 (b81 _)).mono ?_
  rintro en w7 ⟨rfl, hB⟩
  replace z0 := cell_on hB z0
  replace z1 := cell_on hB z1
  replace d0 := cell_on hB d0
  replace d1 := cell_on hB d1
  replace d2 := cell_on hB d2
  replace d3 := cell_on hB d3
  replace d4 := cell_on hB d4
  replace d5 := cell_on hB d5
  replace p0 := cell_on hB p0
  replace hZ1 := Kd.C_below hZ1 hB
  replace HCT := Aside0.mk (HCT.out.below hB)
  replace hv := hv.trans (hB.mono hv.size)
  clear hB b81
  gi_wp2_with fail
  refine ⟨trivial, ?_⟩
  refine (callsIn_wide.2 (c81 _)).mono ?_
  rintro en w8 ⟨rfl, hB⟩
  replace z0 := cell_on hB z0
  replace z1 := cell_on hB z1
  replace d0 := cell_on hB d0
  replace d1 := cell_on hB d1
  replace d2 := cell_on hB d2
  replace d3 := cell_on hB d3
  replace d4 := cell_on hB d4
  replace d5 := cell_on hB d5
  replace p0 := cell_on hB p0
  replace hZ1 := Kd.C_below hZ1 hB
  replace HCT := Aside0.mk (HCT.out.below hB)
  replace hv := hv.trans (hB.mono hv.size)
  clear hB c81
  have hz0 := World.block_lt_of_cell? _ _ z0
  have hz1 := World.block_lt_of_cell? _ _ d0
  have hz2 := World.block_lt_of_cell? _ _ p0
  gi_wp2_with fail
  clear hz0 hz1 hz2
  have HB8 := Aside0.mk (Below.refl w8.heap.size w8)
  refine ⟨trivial, ?_⟩
  refine (callsIn_wide.2 (offsets_calls o zA zl.length zc _)).mono ?_
  rintro en w9 ⟨rfl, rfl⟩
  have kT : ((w8.alloc (.cells #[.slice none 0 0] 61)).alloc (.cells #[.int .i64 o, .slice zA zl.length zc] 76)).heap[w8.heap.size]? = some (.cells #[.slice none 0 0] 61 (0, 0)) := al_old (al_new _ _ _ rfl)
  have kU : ((w8.alloc (.cells #[.slice none 0 0] 61)).alloc (.cells #[.int .i64 o, .slice zA zl.length zc] 76)).heap[w8.heap.size + 1]? = some (.cells #[.int .i64 o, .slice zA zl.length zc] 76 (0, 0)) := al_new _ _ _ (by simp)
  obtain ⟨W0, hW0⟩ : ∃ W0, (w8.alloc (.cells #[.slice none 0 0] 61)).alloc (.cells #[.int .i64 o, .slice zA zl.length zc] 76) = W0 := ⟨_, rfl⟩
  have hB0 : Below w8.heap.size w8 W0 := by rw [← hW0]; exact ((Below.refl _ _).alloc (Nat.le_refl _) _).alloc (by simp) _
  rw [hW0] at kT kU
  have HW0S : Aside0 (W0.heap.size = w8.heap.size + 2) := ⟨by rw [← hW0]; simp⟩
  have HLT : Aside0 (w.heap.size + 1 + 1 < w8.heap.size ∧ w.heap.size + 1 < w8.heap.size ∧ w2.heap.size < w8.heap.size) := ⟨World.block_lt_of_cell? _ _ d0, World.block_lt_of_cell? _ _ z0, World.block_lt_of_cell? _ _ p0⟩
  simp only [World.size_alloc]
  try rw [hW0]
  clear hW0
  gi_wp2_with fail
  have hzC := Kd.C_below hZ1 hB0
  have hW0s : W0.heap.size = w8.heap.size + 2 := by have h1 := (Array.getElem?_eq_some_iff.1 kU).1; have h2 := HW0S.out; omega
  have HBS := Aside0.mk (zbs_lt (Array.getElem?_eq_some_iff.1 kU).1 hzC)
  have HB0 := Aside0.mk hB0
  have HZC := Aside0.mk hzC
  have HZ8 := Aside0.mk hZ1
  have HBC := Aside0.mk (zbs_cases hZ1)
  have HV := Aside0.mk hv
  have hI0 : FlI w8 W0 o zA zc zl.length (.slice none 0 0) [] := ⟨hB0, kT, kU, own_nil _ _ _ _⟩
  clear hzC hB0 hZ1 hv
  refine wpIn_rangeFunc_ownH rfl (by decide) (gf := 120) (lb := #[.pointer (some ⟨w8.heap.size + 1, 0, none⟩)]) rfl trivial (enters_of Try.func120 (by kernel_rfl) rfl)
    (offs_stops (9 - 1) (by decide) o zA zc zl (w8.heap.size + 1) W0 kU HZC.out HZK.out) KeepZ.t (KeepZ.b HBS.out) (Below.refl _ _) (fun _ => rfl)
    (fun pre W => ∃ vo, FlI w8 W o zA zc zl.length vo ((outsF u L o zl y m d h i s) pre)) (fun _ _ _ => False)
    (by rw [hW0s]; exact FlI.from w8 o zA zc zl.length (outsF u L o zl y m d h i s)) (fun _ _ _ _ _ h => h.elim) ⟨_, hI0⟩
    (fun x a' _ => a' = { tmps := #[tabV b A L.length c u, zoneV o zA zl.length zc, dateV y m d h i s, Value.pointer (some { block := w.heap.size, off := 0 }), Value.pointer (some { block := w.heap.size + 1, off := 0 }), Value.pointer (some { block := w.heap.size + 1 + 1, off := 0 }), Value.slice none 0 0, Value.int IntKind.i64 0, Value.pointer (some { block := w2.heap.size, off := 0 }), Value.int IntKind.i64 0, Value.pointer (some { block := w8.heap.size, off := 0 }), .int .i64 x.1, undef, undef, undef, undef, Value.tuple #[Value.pointer (some { block := kb, off := 0 }), Value.int IntKind.i64 0], Value.agg #[Value.int IntKind.i64 b, Value.slice A L.length c, Value.int IntKind.i64 u], Value.tuple #[Value.pointer (some { block := kb, off := 0 }), Value.int IntKind.i64 0], Value.pointer (some { block := kb, off := 0 }), Value.int IntKind.i64 0, Value.int IntKind.i64 0, Value.bool true, Value.agg #[Value.int IntKind.i64 o, Value.slice zA zl.length zc], Value.int IntKind.i64 0, Value.int IntKind.i64 0, Value.bool false, undef, Value.pointer (some { block := w.heap.size + 1 + 1, off := 0 }), Value.int IntKind.i64 y, Value.pointer (some { block := w.heap.size + 1 + 1, off := 1 }), Value.int IntKind.i64 m, Value.pointer (some { block := w.heap.size + 1 + 1, off := 2 }), Value.int IntKind.i64 d, Value.bool true, Value.bool false, Value.bool false, Value.pointer (some { block := w.heap.size + 1 + 1, off := 3 }), Value.int IntKind.i64 h, Value.bool true, Value.bool false, Value.bool false, Value.bool false, Value.pointer (some { block := w.heap.size + 1 + 1, off := 4 }), Value.int IntKind.i64 i, Value.bool true, Value.bool false, Value.bool false, Value.bool false, Value.pointer (some { block := w.heap.size + 1 + 1, off := 5 }), Value.int IntKind.i64 s, Value.bool true, Value.bool false, Value.bool false, Value.agg #[Value.int IntKind.i64 o, Value.slice zA zl.length zc], Value.func (Fn.func 120) #[] #[Value.pointer (some { block := w8.heap.size + 1, off := 0 })], .int .i64 x.1, undef, undef, undef, undef, undef, undef, undef, undef, undef, undef, undef, undef, undef, undef, undef, undef, undef, undef, undef, undef, undef, undef, undef, undef, undef, undef, undef, undef, undef, undef, undef, undef, undef], defers := [] }) (fun _ _ _ _ _ _ h _ _ => h) ?assign ?body ?done ?stop
  case stop => exact fun _ _ _ _ _ _ h => h.elim
  case assign =>
    rintro l pre x W K hI hK
    gi_wp2
    exact hK _ _ (KeepsFrom.refl _ _) ⟨fun _ _ => rfl, KeepsWalks.refl _, fun _ _ _ h => h⟩ hI rfl
  case body =>
    rintro l pre x a' W hl ⟨r', hr'⟩ ⟨vo, hI⟩ rfl hlt
    have hol0 : (outsF u L o zl y m d h i s pre).length ≤ 201 := by
      unfold outsF
      have h1 := List.length_filterMap_le (secF u L o zl y m d h i s) (pre.map (·.1))
      rw [List.length_map] at h1
      omega
    clear hI0 hr' hl hlt
    obtain ⟨x, hx0, hx1⟩ := x
    have HGO := Aside0.mk (outsF_snoc u L o zl y m d h i s pre ⟨x, hx0, hx1⟩)
    generalize outsF u L o zl y m d h i s pre = out at hI HGO hol0
    have HOL := Aside0.mk hol0
    clear hol0
    have HI := Aside0.mk hI
    clear hI
    have hbl := HI.out.bel
    have e0 := (hbl.cell (p := ⟨w.heap.size + 1 + 1, 0, none⟩) HLT.out.1).trans d0
    have e1 := (hbl.cell (p := ⟨w.heap.size + 1 + 1, 1, none⟩) HLT.out.1).trans d1
    have e2 := (hbl.cell (p := ⟨w.heap.size + 1 + 1, 2, none⟩) HLT.out.1).trans d2
    have e3 := (hbl.cell (p := ⟨w.heap.size + 1 + 1, 3, none⟩) HLT.out.1).trans d3
    have e4 := (hbl.cell (p := ⟨w.heap.size + 1 + 1, 4, none⟩) HLT.out.1).trans d4
    have e5 := (hbl.cell (p := ⟨w.heap.size + 1 + 1, 5, none⟩) HLT.out.1).trans d5
    have g0 := (hbl.cell (p := ⟨w.heap.size + 1, 0, none⟩) HLT.out.2.1).trans z0
    have g1 := (hbl.cell (p := ⟨w.heap.size + 1, 1, none⟩) HLT.out.2.1).trans z1
    have f0 := (hbl.cell (p := ⟨w2.heap.size, 0, none⟩) HLT.out.2.2).trans p0
    have hct := HCT.out.below hbl
    have hzC := Kd.C_below HZ8.out hbl
    have HCTW := Aside0.mk hct
    have HZW := Aside0.mk hzC
    clear hbl hct hzC kT kU
    have hw : IntKind.i64.wrap (-x) = -x := iw _ (by omega) (by omega)
    have a100 := fun W => shift_calls y m d h i s (-x) HOK.out ⟨HCK.out.1, HCK.out.2.1⟩ ⟨HCK.out.2.2.1, HCK.out.2.2.2.1⟩ ⟨by omega, by omega⟩ W
    have hbs : ∀ b ∈ zbs (w8.heap.size + 1) zA zl.length, b < W.heap.size := fun b hb => by
      have h1 := HBS.out b hb
      have h2 := (Array.getElem?_eq_some_iff.1 HI.out.ku).1
      omega
    have HFIN : Aside0 (secF u L o zl y m d h i s x = none → ∀ X, Below W.heap.size W X → (∀ B, KeepsFrom B W X) ∧ KeepZ (zbs (w8.heap.size + 1) zA zl.length) W X ∧ ∃ vo, FlI w8 X o zA zc zl.length vo (outsF u L o zl y m d h i s (pre ++ [(⟨x, hx0, hx1⟩ : Off)]))) := ⟨fun hn X hX => ⟨fun B => (keeps_of_below hX).from B, keepZ_below hX hbs, vo, by rw [HGO.out, hn]; simpa using HI.out.below hX⟩⟩
    have HBS2 := Aside0.mk hbs
    clear hbs
    unfold shiftV at a100
    cases hkn : knownD (shN y m d h i (-x) / 1440)
    · have HN := Aside0.mk (secF_none1 (u := u) (L := L) (o := o) (l := zl) (s := s) hkn)
      rw [hkn] at a100
      rw [if_neg (by simp)] at a100
      gi_wp2_with fail
      refine ⟨trivial, ?_⟩
      refine (CallsIn.inRound l (callsIn_wide.2 (a100 _))).mono ?_
      rintro en W1 ⟨rfl, hB1⟩
      have HB1 := Aside0.mk hB1
      clear hB1 a100
      gi_wp2
      have hfin := HFIN.out HN.out _ (HB1.out.alloc HB1.out.size (.cells #[.int .i64 0, .int .i64 0, .int .i64 0, .int .i64 0, .int .i64 0, .int .i64 0] 30))
      exact ⟨hfin.1 _, hfin.2⟩
    · rw [hkn] at a100
      rw [if_pos rfl] at a100
      have a67 := fun kb W hc => second_calls kb b u A c L (cY (shN y m d h i (-x) / 1440)) (cM (shN y m d h i (-x) / 1440)) (cD (shN y m d h i (-x) / 1440)) (shN y m d h i (-x) / 60 % 24) (shN y m d h i (-x) % 60) s W hc HK.out
      have hcd := civ_dayN hkn
      rw [hcd] at a67
      have HN2 := Aside0.mk (secF_none2 (u := u) (L := L) (o := o) (l := zl) (y := y) (m := m) (d := d) (h := h) (i := i) (s := s) (q := x))
      have HN3 := Aside0.mk (fun hx z he => secF_some2 (u := u) (L := L) (o := o) (l := zl) (y := y) (m := m) (d := d) (h := h) (i := i) (s := s) (q := x) (x := z) hkn hx he)
      generalize shN y m d h i (-x) / 1440 = D at *
      generalize cY D = Y at *
      generalize cM D = M at *
      generalize cD D = K at *
      generalize shN y m d h i (-x) / 60 % 24 = P at *
      generalize shN y m d h i (-x) % 60 = R at *
      clear hcd hkn
      cases hso : secOk L u Y M K P R s
      · have HN := Aside0.mk (HN2.out hso)
        rw [hso] at a67
        rw [if_neg (by simp)] at a67
        clear HN2 HN3 hso
        gi_wp2_with fail
        refine ⟨trivial, ?_⟩
        refine (CallsIn.inRound l (callsIn_wide.2 (a100 _))).mono ?_
        rintro en W1 ⟨rfl, hB1⟩
        have HB1 := Aside0.mk hB1
        have f0' := cell_on hB1 f0
        have hz0 := World.block_lt_of_cell? _ _ f0'
        clear hB1 a100
        gi_wp2_with fail
        refine ⟨trivial, ?_⟩
        refine (CallsIn.inRound l (callsIn_wide.2 (a67 _ _ (HCTW.out.below (HB1.out.alloc HB1.out.size _))))).mono ?_
        rintro en W2 ⟨rfl, hB2⟩
        have HB2 := Aside0.mk ((HB1.out.alloc HB1.out.size (.cells #[.int .i64 Y, .int .i64 M, .int .i64 K, .int .i64 P, .int .i64 R, .int .i64 s] 30)).trans (hB2.mono (by have := HB1.out.size; simp; omega)))
        clear hB2 a67 hz0 f0'
        gi_wp2
        refine ⟨trivial, ?_⟩
        gi_wp2
        have hfin := HFIN.out HN.out _ HB2.out
        exact ⟨hfin.1 _, hfin.2⟩
      · have HX := Aside0.mk (HN3.out hso)
        rw [hso] at a67
        rw [if_pos rfl] at a67
        have hfinb := Aside0.mk (HX.out _ rfl)
        obtain ⟨z, hz⟩ : ∃ z, beginF L D + (3600 * P + 60 * R + s) = z := ⟨_, rfl⟩
        rw [hz] at a67 hfinb
        have a99 := fun W h => holds_calls o zA zc zl z W h (by omega)
        clear HN2 HN3 hso HX hz
        gi_wp2_with fail
        refine ⟨trivial, ?_⟩
        refine (CallsIn.inRound l (callsIn_wide.2 (a100 _))).mono ?_
        rintro en W1 ⟨rfl, hB1⟩
        have HB1 := Aside0.mk hB1
        have f0' := cell_on hB1 f0
        have hz0 := World.block_lt_of_cell? _ _ f0'
        clear hB1 a100
        gi_wp2_with fail
        refine ⟨trivial, ?_⟩
        refine (CallsIn.inRound l (callsIn_wide.2 (a67 _ _ (HCTW.out.below (HB1.out.alloc HB1.out.size _))))).mono ?_
        rintro en W2 ⟨rfl, hB2⟩
        have hBB := (HB1.out.alloc HB1.out.size (.cells #[.int .i64 Y, .int .i64 M, .int .i64 K, .int .i64 P, .int .i64 R, .int .i64 s] 30)).trans (hB2.mono (by have := HB1.out.size; simp; omega))
        have HB2 := Aside0.mk hBB
        have g0' := cell_on hBB g0
        have g1' := cell_on hBB g1
        clear hB2 a67 hz0 f0' hBB g0 g1 f0
        gi_wp2_with fail
        refine ⟨trivial, ?_⟩
        refine (CallsIn.inRound l (callsIn_wide.2 (a99 _ (Kd.C_below HZW.out HB2.out)))).mono ?_
        rintro en W3 ⟨rfl, hB3⟩
        have HB3 := Aside0.mk (HB2.out.trans (hB3.mono HB2.out.size))
        clear hB3 a99 g0' g1'
        by_cases heq : holdsF o zl z = x
        · have HN : Aside0 (secF u L o zl y m d h i s x = some z) := ⟨by rw [hfinb.out, if_pos heq]⟩
          have q1 : (holdsF o zl z == x) = true := beq_iff_eq.2 heq
          generalize holdsF o zl z = hf at *
          clear heq
          have HI3 := Aside0.mk (HI.out.below HB3.out)
          have t0 := blk_cell HI3.out.kt 0
          have t0' : W3.cell? ⟨w8.heap.size, 0, none⟩ = some vo := t0
          obtain ⟨i0, hi, hz0, hz1, hz2⟩ := info_parts info3n
          have hol := HOL.out
          have hsz3 : w8.heap.size + 1 < W3.heap.size := (Array.getElem?_eq_some_iff.1 HI3.out.ku).1
          have hownA : (W3.alloc (.cells #[.int .i64 z] 3)).ownsRow (w8.heap.size + 2) 3 1 vo out.length (icells out) := own_move HI3.out.own (fun k hk => Below.heap_alloc _ _ k (own_lt HI3.out.own k hk))
          clear t0
          gi_wp2_with (gi_at_builtin; refine wpListIn_append_own _ rfl _ _ 61 rfl (w8.heap.size + 2) 3 i0 (.int .i64 0) 1 8 Try.underlying61 hi hz0 hz1 hz2 rfl (by decide) _ _ _ rfl hownA ⟨W3.heap.size, 0, none⟩ 1 1 [.int .i64 z] rfl ?qc1 ?qc2 ?qc3 ?qc4 ?qc5 ?qc6 ?_)
          case qc1 => rfl
          case qc2 => exact World.news_of_block (cs := #[.int .i64 z]) (t := 3) (fr := (0, 0)) (al_new _ _ _ rfl)
          case qc3 => simp [Value.oneCell']
          case qc4 => unfold maxLen; omega
          case qc5 => omega
          case qc6 => simp; omega
          intro v2 W4 hown4 hg4 hnil4
          have hfa := Aside0.mk (fl_append HI3.out hown4 hg4)
          have t4 := hfa.out.1
          have t4f := hfa.out.2.1
          obtain ⟨Av, cv, rfl⟩ := hfa.out.2.2.1
          clear hown4 hg4 hnil4 hownA t0'
          gi_wp2
          have hkp := fl_keep HI.out HB3.out hfa.out.2.2.2.2.1 hfa.out.2.2.2.2.2.1 hfa.out.2.2.2.2.2.2 hfa.out.2.2.2.1 HBC.out
          exact ⟨hkp.1 _, hkp.2, _, by rw [HGO.out, HN.out]; exact hfa.out.2.2.2.1⟩
        · have HN : Aside0 (secF u L o zl y m d h i s x = none) := ⟨by rw [hfinb.out, if_neg heq]⟩
          have q1 : (holdsF o zl z == x) = false := beq_eq_false_iff_ne.2 heq
          generalize holdsF o zl z = hf at *
          clear heq
          gi_wp2
          have hfin := HFIN.out HN.out _ HB3.out
          exact ⟨hfin.1 _, hfin.2⟩
  case done =>
    rintro D ys W hD hS ⟨vo, hI⟩ hK
    clear hI0 kT kU
    have hout : outsF u L o zl y m d h i s ys = (offs o zl).filterMap (secF u L o zl y m d h i s) := by unfold outsF; rw [hS]
    rw [hout] at hI
    have hR := (checkF_right HK.out).2.2.2.2.2
    have hperm := local_perm (u := u) (L := L) HZK.out y m d h i s
    have HEQ := Aside0.mk (fun r (hp : List.Perm r _) hs => (local_eq (u := u) (L := L) hR HZK.out y m d h i s hp hs).trans HQ.out)
    have hll := local_len u L o zl y m d h i s
    rw [HQ.out] at hll hperm
    have hpl := hperm.length_eq
    have HPL := Aside0.mk hpl
    generalize (offs o zl).filterMap (secF u L o zl y m d h i s) = out at *
    clear hout hS hperm
    obtain ⟨Av, cv, rfl, _⟩ := own_ints hI.own
    have HI := Aside0.mk hI
    have t0 : W.cell? ⟨w8.heap.size, 0, none⟩ = some (.slice Av out.length cv) := blk_cell hI.kt 0
    have hD8 : w8.heap.size + 2 ≤ D := by omega
    clear hI
    by_cases hl0 : out.length = 0
    · have q1 : ((out.length : Int) == 0) = true := beq_iff_eq.2 (by omega)
      have hnil : q = [] := List.eq_nil_of_length_eq_zero (by omega)
      have hE4 : E = 4 := by rw [← HE.out, if_pos hnil]
      have HN := Aside0.mk (And.intro hnil hE4)
      clear hnil hE4
      clear hl0 hpl hll
      gi_wp2
      refine ⟨by simp, .inl ⟨_, _, rfl, run_takeDeferred hK, ?_⟩⟩
      obtain ⟨hnil, hE4⟩ := HN.out
      subst hE4
      refine ⟨_, results_tmp2 rfl _ _ _, none, 0, ⟨rfl, by rw [hnil]; decide, fun h => by rw [hnil] at h; cases h⟩, by rw [hnil]; rfl, ?_⟩
      exact (HV.out.trans (HI.out.bel.mono HV.out.size)).trans (belowK_b HV.out.size _ D _ _ (by omega) hK rfl rfl)
    · have q1 : ((out.length : Int) == 0) = false := beq_eq_false_iff_ne.2 (by omega)
      have hnn : q ≠ [] := fun e => hl0 (by rw [hpl, e]; rfl)
      have hE0 : E = 0 := by rw [← HE.out, if_neg hnn]
      subst hE0
      obtain ⟨g, rfl, hg⟩ : ∃ g, Av = some ⟨g, 0, none⟩ ∧ w8.heap.size + 2 ≤ g := by
        rcases HI.out.own.2 with ⟨e, h0⟩ | ⟨g, cap, cur, e, h1, _⟩
        · omega
        · injection e with e; exact ⟨g, e, h1⟩
      have a102 := sort_calls (w8.heap.size + 2) g cv out W HI.out.own (by omega)
      clear hl0 hpl hll hnn
      gi_wp2_with fail
      refine ⟨trivial, ?_⟩
      refine (callsIn_wide.2 a102).mono ?_
      rintro en W2 ⟨⟨_, rfl⟩, r, hrp, hrs, hro, hrg⟩
      have heq := HEQ.out r hrp hrs
      have hrl := hrp.length_eq
      have kT2 : W2.heap[w8.heap.size]? = some (.cells #[.slice (some ⟨g, 0, none⟩) out.length cv] 61 (0, 0)) := (hrg.block _ (Array.getElem?_eq_some_iff.1 HI.out.kt).1 (fun e => by injection e with e; omega)).trans HI.out.kt
      have t2 : W2.cell? ⟨w8.heap.size, 0, none⟩ = some (.slice (some ⟨g, 0, none⟩) out.length cv) := blk_cell kT2 0
      have hgc : ∃ cs, W.heap[g]? = some (Obj.cells cs 3 (0, 0)) := (own_row HI.out.own g rfl).2
      have hgD : D ≠ g := fun e => by obtain ⟨cs, hcs⟩ := hgc; rw [← e, hK] at hcs; cases hcs
      have hK2 : W2.heap[D]? = some (.deferred (some [])) := (hrg.block D (Array.getElem?_eq_some_iff.1 hK).1 (fun e => by injection e with e; exact hgD e)).trans hK
      have hbel2 : Below w8.heap.size w8 W2 := HI.out.bel.grown hrg HI.out.bel.size (fun k e => by injection e with e; omega)
      have HO : Aside0 ((W2.putObj D (.deferred none)).ownsRow (w8.heap.size + 2) 3 1 (.slice (some ⟨g, 0, none⟩) out.length cv) out.length (icells r)) := ⟨own_move hro (fun k hk => World.putObj_heap_other (fun e => by cases hk; exact hgD e.symm))⟩
      have HB2 : Aside0 (Below w.heap.size w (W2.putObj D (.deferred none))) := ⟨(HV.out.trans (hbel2.mono HV.out.size)).trans (belowK_b HV.out.size _ D _ _ (by omega) hK2 rfl rfl)⟩
      have HRL := Aside0.mk (And.intro heq hrl)
      clear hro hbel2 hrg hrp hrs kT2 hgc t0 a102 hrl heq hgD
      gi_wp2
      refine ⟨by simp, .inl ⟨_, _, rfl, run_takeDeferred hK2, ?_⟩⟩
      obtain ⟨heq, hrl⟩ := HRL.out
      subst heq
      have hO := HO.out
      rw [← hrl] at hO
      obtain ⟨_, _, ee, hC⟩ := own_ints hO
      cases ee
      exact ⟨_, results_tmp2 rfl _ _ _, some ⟨g, 0, none⟩, cv, hC, by rw [hrl]; rfl, HB2.out⟩
end Go.Proofs.Ytleipbanadnchaa.C
end

section
/- The contract of calendar.FromLocal, all ways, by hand. -/
namespace Go.Proofs.Ytleipbanadnchaa.C
open Go.RowKit Go.Shelf Go.Maps Go.Proofs.YtleipbanadnchaaW.PrintWords Go.Proofs.YtleipbanadnchaaW.PrintLast Go.Proofs.YtleipbanadnchaaW.PrintMore
set_option linter.unusedVariables false
set_option linter.unusedSimpArgs false
attribute [local go_sem] Oper.semAt_some
instance clkOkDec (h i s : Int) : Decidable (clkOk h i s) := by unfold clkOk; infer_instance
/-- What FromLocal answers: what is wrong, or 0. -/
def flE (b u : Int) (L : List (Int × Int)) (o : Int) (zl : List (Int × Int)) (y m d h i s : Int) : Int :=
  if checkF b L u ≠ 0 then checkF b L u else if zcheckF o zl ≠ 0 then zcheckF o zl else if okD y m d = true ∧ clkOk h i s then (if localL u L o zl y m d h i s = [] then 4 else 0) else 90
/-- .. and the seconds. -/
def flL (b u : Int) (L : List (Int × Int)) (o : Int) (zl : List (Int × Int)) (y m d h i s : Int) : List Int :=
  if checkF b L u = 0 ∧ zcheckF o zl = 0 ∧ okD y m d = true ∧ clkOk h i s then localL u L o zl y m d h i s else []
set_option maxHeartbeats 4000000 in
set_option maxRecDepth 100000 in
theorem fl_err1 (b u : Int) (A : Option Addr) (c : Nat) (L : List (Int × Int)) (o : Int) (zA : Option Addr) (zc : Nat) (zl : List (Int × Int)) (y m d h i s : Int) (w : World) (hr : Kd.C kl w A L.length L) (hz : Kd.C kl w zA zl.length zl)
    (hk : checkF b L u ≠ 0) :
    Calls Try.prog 42 #[tabV b A L.length c u, zoneV o zA zl.length zc, dateV y m d h i s] w fun e w' => e = .returned (.tuple #[.slice none 0 0, .int .i64 (checkF b L u)]) ∧ Below w.heap.size w w' := by
  refine (callsIn_wide (n := 9)).1 ?_
  have HR := Aside0.mk hr
  have HZ := Aside0.mk hz
  have a62 := fun w h => open_calls b u A c L w h
  obtain ⟨q, hq⟩ : ∃ q, checkF b L u = q := ⟨_, rfl⟩
  have HQ := Aside0.mk hk
  have HG := Aside0.mk hq
  rw [hq] at hk ⊢
  have q1 : (q == 0) = false := beq_eq_false_iff_ne.2 hk
  have q2 : (q != 0) = true := bne_iff_ne.2 hk
  clear hk hq
  clear hr hz
  refine callsIn_of_wp_marks Try.func42 rfl trivial ?_ rfl
  simp only [Try.ntmps42, List.size_toArray, List.length_cons, List.length_nil, Nat.reduceAdd, Nat.reduceSub, Array.replicate_succ, Array.replicate_zero, List.push_toArray, List.append_toArray, List.nil_append, List.cons_append]
  obtain ⟨w1, hw1⟩ : ∃ w1, ((w.alloc (.cells #[.int .i64 b, .slice A L.length c, .int .i64 u] 28)).alloc (.cells #[.int .i64 o, .slice zA zl.length zc] 76)).alloc (.cells #[.int .i64 y, .int .i64 m, .int .i64 d, .int .i64 h, .int .i64 i, .int .i64 s] 30) = w1 := ⟨_, rfl⟩
  have hv : Below w.heap.size w w1 := by rw [← hw1]; exact (((Below.refl _ w).alloc (Nat.le_refl _) _).alloc (by simp) _).alloc (by simp; omega) _
  have kt : w1.heap[w.heap.size]? = some (.cells #[.int .i64 b, .slice A L.length c, .int .i64 u] 28 (0, 0)) := by rw [← hw1]; exact al_old (al_old (al_new _ _ _ rfl))
  have kz : w1.heap[w.heap.size + 1]? = some (.cells #[.int .i64 o, .slice zA zl.length zc] 76 (0, 0)) := by rw [← hw1]; exact al_old (al_new _ _ _ (by simp))
  have kd : w1.heap[w.heap.size + 1 + 1]? = some (.cells #[.int .i64 y, .int .i64 m, .int .i64 d, .int .i64 h, .int .i64 i, .int .i64 s] 30 (0, 0)) := by rw [← hw1]; exact al_new _ _ _ (by simp)
  have t0 : w1.cell? ⟨w.heap.size, 0, none⟩ = some (.int .i64 b) := blk_cell kt 0
  have t1 : w1.cell? ⟨w.heap.size, 1, none⟩ = some (.slice A L.length c) := blk_cell kt 1
  have t2 : w1.cell? ⟨w.heap.size, 2, none⟩ = some (.int .i64 u) := blk_cell kt 2
  have z0 : w1.cell? ⟨w.heap.size + 1, 0, none⟩ = some (.int .i64 o) := blk_cell kz 0
  have z1 : w1.cell? ⟨w.heap.size + 1, 1, none⟩ = some (.slice zA zl.length zc) := blk_cell kz 1
  have d0 : w1.cell? ⟨w.heap.size + 1 + 1, 0, none⟩ = some (.int .i64 y) := blk_cell kd 0
  have d1 : w1.cell? ⟨w.heap.size + 1 + 1, 1, none⟩ = some (.int .i64 m) := blk_cell kd 1
  have d2 : w1.cell? ⟨w.heap.size + 1 + 1, 2, none⟩ = some (.int .i64 d) := blk_cell kd 2
  have d3 : w1.cell? ⟨w.heap.size + 1 + 1, 3, none⟩ = some (.int .i64 h) := blk_cell kd 3
  have d4 : w1.cell? ⟨w.heap.size + 1 + 1, 4, none⟩ = some (.int .i64 i) := blk_cell kd 4
  have d5 : w1.cell? ⟨w.heap.size + 1 + 1, 5, none⟩ = some (.int .i64 s) := blk_cell kd 5
  clear kt kz kd
  have hR1 := Kd.C_below HR.out hv
  have hZ1 := Kd.C_below HZ.out hv
  gi_wp2_with fail
  try rw [hw1]
  clear hw1 t0 t1 t2
  refine ⟨trivial, ?_⟩
  refine (callsIn_wide.2 (a62 _ hR1)).mono ?_
  rintro en w2 ⟨hE, _, hB⟩
  obtain rfl := hE HQ.out
  replace z0 := cell_on hB z0
  replace z1 := cell_on hB z1
  replace d0 := cell_on hB d0
  replace d1 := cell_on hB d1
  replace d2 := cell_on hB d2
  replace d3 := cell_on hB d3
  replace d4 := cell_on hB d4
  replace d5 := cell_on hB d5
  replace hZ1 := Kd.C_below hZ1 hB
  replace hv := hv.trans (hB.mono hv.size)
  clear hB hE a62 hR1
  rw [HG.out]
  gi_wp2
  exact ⟨_, results_tmp2 rfl _ _ _, rfl, by first | exact hv | exact hv.alloc hv.size _⟩
set_option maxHeartbeats 4000000 in
set_option maxRecDepth 100000 in
theorem fl_err2 (b u : Int) (A : Option Addr) (c : Nat) (L : List (Int × Int)) (o : Int) (zA : Option Addr) (zc : Nat) (zl : List (Int × Int)) (y m d h i s : Int) (w : World) (hr : Kd.C kl w A L.length L) (hz : Kd.C kl w zA zl.length zl)
    (hk : checkF b L u = 0) (hzk : zcheckF o zl ≠ 0) :
    Calls Try.prog 42 #[tabV b A L.length c u, zoneV o zA zl.length zc, dateV y m d h i s] w fun e w' => e = .returned (.tuple #[.slice none 0 0, .int .i64 (zcheckF o zl)]) ∧ Below w.heap.size w w' := by
  refine (callsIn_wide (n := 9)).1 ?_
  have HR := Aside0.mk hr
  have HZ := Aside0.mk hz
  have a62 := fun w h => open_calls b u A c L w h
  have HK := Aside0.mk hk
  have a94 := fun w h => zcheck_calls o zA zc zl w h
  clear hk
  have q1 : (zcheckF o zl == 0) = false := beq_eq_false_iff_ne.2 hzk
  have q2 : (zcheckF o zl != 0) = true := bne_iff_ne.2 hzk
  generalize zcheckF o zl = q at *
  clear hzk
  clear hr hz
  refine callsIn_of_wp_marks Try.func42 rfl trivial ?_ rfl
  simp only [Try.ntmps42, List.size_toArray, List.length_cons, List.length_nil, Nat.reduceAdd, Nat.reduceSub, Array.replicate_succ, Array.replicate_zero, List.push_toArray, List.append_toArray, List.nil_append, List.cons_append]
  obtain ⟨w1, hw1⟩ : ∃ w1, ((w.alloc (.cells #[.int .i64 b, .slice A L.length c, .int .i64 u] 28)).alloc (.cells #[.int .i64 o, .slice zA zl.length zc] 76)).alloc (.cells #[.int .i64 y, .int .i64 m, .int .i64 d, .int .i64 h, .int .i64 i, .int .i64 s] 30) = w1 := ⟨_, rfl⟩
  have hv : Below w.heap.size w w1 := by rw [← hw1]; exact (((Below.refl _ w).alloc (Nat.le_refl _) _).alloc (by simp) _).alloc (by simp; omega) _
  have kt : w1.heap[w.heap.size]? = some (.cells #[.int .i64 b, .slice A L.length c, .int .i64 u] 28 (0, 0)) := by rw [← hw1]; exact al_old (al_old (al_new _ _ _ rfl))
  have kz : w1.heap[w.heap.size + 1]? = some (.cells #[.int .i64 o, .slice zA zl.length zc] 76 (0, 0)) := by rw [← hw1]; exact al_old (al_new _ _ _ (by simp))
  have kd : w1.heap[w.heap.size + 1 + 1]? = some (.cells #[.int .i64 y, .int .i64 m, .int .i64 d, .int .i64 h, .int .i64 i, .int .i64 s] 30 (0, 0)) := by rw [← hw1]; exact al_new _ _ _ (by simp)
  have t0 : w1.cell? ⟨w.heap.size, 0, none⟩ = some (.int .i64 b) := blk_cell kt 0
  have t1 : w1.cell? ⟨w.heap.size, 1, none⟩ = some (.slice A L.length c) := blk_cell kt 1
  have t2 : w1.cell? ⟨w.heap.size, 2, none⟩ = some (.int .i64 u) := blk_cell kt 2
  have z0 : w1.cell? ⟨w.heap.size + 1, 0, none⟩ = some (.int .i64 o) := blk_cell kz 0
  have z1 : w1.cell? ⟨w.heap.size + 1, 1, none⟩ = some (.slice zA zl.length zc) := blk_cell kz 1
  have d0 : w1.cell? ⟨w.heap.size + 1 + 1, 0, none⟩ = some (.int .i64 y) := blk_cell kd 0
  have d1 : w1.cell? ⟨w.heap.size + 1 + 1, 1, none⟩ = some (.int .i64 m) := blk_cell kd 1
  have d2 : w1.cell? ⟨w.heap.size + 1 + 1, 2, none⟩ = some (.int .i64 d) := blk_cell kd 2
  have d3 : w1.cell? ⟨w.heap.size + 1 + 1, 3, none⟩ = some (.int .i64 h) := blk_cell kd 3
  have d4 : w1.cell? ⟨w.heap.size + 1 + 1, 4, none⟩ = some (.int .i64 i) := blk_cell kd 4
  have d5 : w1.cell? ⟨w.heap.size + 1 + 1, 5, none⟩ = some (.int .i64 s) := blk_cell kd 5
  clear kt kz kd
  have hR1 := Kd.C_below HR.out hv
  have hZ1 := Kd.C_below HZ.out hv
  gi_wp2_with fail
  try rw [hw1]
  clear hw1 t0 t1 t2
  refine ⟨trivial, ?_⟩
  refine (callsIn_wide.2 (a62 _ hR1)).mono ?_
  rintro en w2 ⟨_, hE, hB⟩
  obtain ⟨kb, rfl, hkb, hct⟩ := hE HK.out
  replace z0 := cell_on hB z0
  replace z1 := cell_on hB z1
  replace d0 := cell_on hB d0
  replace d1 := cell_on hB d1
  replace d2 := cell_on hB d2
  replace d3 := cell_on hB d3
  replace d4 := cell_on hB d4
  replace d5 := cell_on hB d5
  replace hZ1 := Kd.C_below hZ1 hB
  replace hv := hv.trans (hB.mono hv.size)
  clear hB hE a62 hR1 hct
  have hz0 := World.block_lt_of_cell? _ _ z0
  have hz1 := World.block_lt_of_cell? _ _ d0
  gi_wp2_with fail
  clear hz0 hz1
  obtain ⟨w3, hw3⟩ : ∃ w3, w2.alloc (.cells #[.pointer (some ⟨kb, 0, none⟩)] 102) = w3 := ⟨_, rfl⟩
  try rw [hw3]
  have hB : Below w2.heap.size w2 w3 := by rw [← hw3]; exact (Below.refl _ w2).alloc (by first | exact Nat.le_refl _ | (simp; done) | (simp; omega)) _
  have kp : w3.heap[w2.heap.size]? = some (.cells #[.pointer (some ⟨kb, 0, none⟩)] 102 (0, 0)) := by rw [← hw3]; exact al_new _ _ _ (by first | rfl | (simp; done) | (simp; omega))
  have p0 : w3.cell? ⟨w2.heap.size, 0, none⟩ = some (.pointer (some ⟨kb, 0, none⟩)) := blk_cell kp 0
  clear kp
  replace z0 := cell_on hB z0
  replace z1 := cell_on hB z1
  replace d0 := cell_on hB d0
  replace d1 := cell_on hB d1
  replace d2 := cell_on hB d2
  replace d3 := cell_on hB d3
  replace d4 := cell_on hB d4
  replace d5 := cell_on hB d5
  replace hZ1 := Kd.C_below hZ1 hB
  replace hv := hv.trans (hB.mono hv.size)
  clear hB hw3
  refine ⟨trivial, ?_⟩
  refine (callsIn_wide.2 (a94 _ hZ1)).mono ?_
  rintro en w4 ⟨rfl, hB⟩
  replace z0 := cell_on hB z0
  replace z1 := cell_on hB z1
  replace d0 := cell_on hB d0
  replace d1 := cell_on hB d1
  replace d2 := cell_on hB d2
  replace d3 := cell_on hB d3
  replace d4 := cell_on hB d4
  replace d5 := cell_on hB d5
  replace p0 := cell_on hB p0
  replace hZ1 := Kd.C_below hZ1 hB
  replace hv := hv.trans (hB.mono hv.size)
  clear hB a94
  gi_wp2
  exact ⟨_, results_tmp2 rfl _ _ _, rfl, by first | exact hv | exact hv.alloc hv.size _⟩
set_option maxHeartbeats 4000000 in
set_option maxRecDepth 100000 in
theorem fl_err3 (b u : Int) (A : Option Addr) (c : Nat) (L : List (Int × Int)) (o : Int) (zA : Option Addr) (zc : Nat) (zl : List (Int × Int)) (y m d h i s : Int) (w : World) (hr : Kd.C kl w A L.length L) (hz : Kd.C kl w zA zl.length zl)
    (hk : checkF b L u = 0) (hzk : zcheckF o zl = 0) (hok : ¬ okD y m d = true) :
    Calls Try.prog 42 #[tabV b A L.length c u, zoneV o zA zl.length zc, dateV y m d h i s] w fun e w' => e = .returned (.tuple #[.slice none 0 0, .int .i64 90]) ∧ Below w.heap.size w w' := by
  refine (callsIn_wide (n := 9)).1 ?_
  have HR := Aside0.mk hr
  have HZ := Aside0.mk hz
  have a62 := fun w h => open_calls b u A c L w h
  have HK := Aside0.mk hk
  have a94 := fun w h => zcheck_calls o zA zc zl w h
  clear hk
  rw [hzk] at a94
  clear hzk
  have a79 := fun w => exists_calls y m d w
  rw [show okD y m d = false from (by cases h0 : okD y m d; exact rfl; exact absurd h0 hok)] at a79
  clear hok
  clear hr hz
  refine callsIn_of_wp_marks Try.func42 rfl trivial ?_ rfl
  simp only [Try.ntmps42, List.size_toArray, List.length_cons, List.length_nil, Nat.reduceAdd, Nat.reduceSub, Array.replicate_succ, Array.replicate_zero, List.push_toArray, List.append_toArray, List.nil_append, List.cons_append]
  obtain ⟨w1, hw1⟩ : ∃ w1, ((w.alloc (.cells #[.int .i64 b, .slice A L.length c, .int .i64 u] 28)).alloc (.cells #[.int .i64 o, .slice zA zl.length zc] 76)).alloc (.cells #[.int .i64 y, .int .i64 m, .int .i64 d, .int .i64 h, .int .i64 i, .int .i64 s] 30) = w1 := ⟨_, rfl⟩
  have hv : Below w.heap.size w w1 := by rw [← hw1]; exact (((Below.refl _ w).alloc (Nat.le_refl _) _).alloc (by simp) _).alloc (by simp; omega) _
  have kt : w1.heap[w.heap.size]? = some (.cells #[.int .i64 b, .slice A L.length c, .int .i64 u] 28 (0, 0)) := by rw [← hw1]; exact al_old (al_old (al_new _ _ _ rfl))
  have kz : w1.heap[w.heap.size + 1]? = some (.cells #[.int .i64 o, .slice zA zl.length zc] 76 (0, 0)) := by rw [← hw1]; exact al_old (al_new _ _ _ (by simp))
  have kd : w1.heap[w.heap.size + 1 + 1]? = some (.cells #[.int .i64 y, .int .i64 m, .int .i64 d, .int .i64 h, .int .i64 i, .int .i64 s] 30 (0, 0)) := by rw [← hw1]; exact al_new _ _ _ (by simp)
  have t0 : w1.cell? ⟨w.heap.size, 0, none⟩ = some (.int .i64 b) := blk_cell kt 0
  have t1 : w1.cell? ⟨w.heap.size, 1, none⟩ = some (.slice A L.length c) := blk_cell kt 1
  have t2 : w1.cell? ⟨w.heap.size, 2, none⟩ = some (.int .i64 u) := blk_cell kt 2
  have z0 : w1.cell? ⟨w.heap.size + 1, 0, none⟩ = some (.int .i64 o) := blk_cell kz 0
  have z1 : w1.cell? ⟨w.heap.size + 1, 1, none⟩ = some (.slice zA zl.length zc) := blk_cell kz 1
  have d0 : w1.cell? ⟨w.heap.size + 1 + 1, 0, none⟩ = some (.int .i64 y) := blk_cell kd 0
  have d1 : w1.cell? ⟨w.heap.size + 1 + 1, 1, none⟩ = some (.int .i64 m) := blk_cell kd 1
  have d2 : w1.cell? ⟨w.heap.size + 1 + 1, 2, none⟩ = some (.int .i64 d) := blk_cell kd 2
  have d3 : w1.cell? ⟨w.heap.size + 1 + 1, 3, none⟩ = some (.int .i64 h) := blk_cell kd 3
  have d4 : w1.cell? ⟨w.heap.size + 1 + 1, 4, none⟩ = some (.int .i64 i) := blk_cell kd 4
  have d5 : w1.cell? ⟨w.heap.size + 1 + 1, 5, none⟩ = some (.int .i64 s) := blk_cell kd 5
  clear kt kz kd
  have hR1 := Kd.C_below HR.out hv
  have hZ1 := Kd.C_below HZ.out hv
  gi_wp2_with fail
  try rw [hw1]
  clear hw1 t0 t1 t2
  refine ⟨trivial, ?_⟩
  refine (callsIn_wide.2 (a62 _ hR1)).mono ?_
  rintro en w2 ⟨_, hE, hB⟩
  obtain ⟨kb, rfl, hkb, hct⟩ := hE HK.out
  replace z0 := cell_on hB z0
  replace z1 := cell_on hB z1
  replace d0 := cell_on hB d0
  replace d1 := cell_on hB d1
  replace d2 := cell_on hB d2
  replace d3 := cell_on hB d3
  replace d4 := cell_on hB d4
  replace d5 := cell_on hB d5
  replace hZ1 := Kd.C_below hZ1 hB
  replace hv := hv.trans (hB.mono hv.size)
  clear hB hE a62 hR1 hct
  have hz0 := World.block_lt_of_cell? _ _ z0
  have hz1 := World.block_lt_of_cell? _ _ d0
  gi_wp2_with fail
  clear hz0 hz1
  obtain ⟨w3, hw3⟩ : ∃ w3, w2.alloc (.cells #[.pointer (some ⟨kb, 0, none⟩)] 102) = w3 := ⟨_, rfl⟩
  try rw [hw3]
  have hB : Below w2.heap.size w2 w3 := by rw [← hw3]; exact (Below.refl _ w2).alloc (by first | exact Nat.le_refl _ | (simp; done) | (simp; omega)) _
  have kp : w3.heap[w2.heap.size]? = some (.cells #[.pointer (some ⟨kb, 0, none⟩)] 102 (0, 0)) := by rw [← hw3]; exact al_new _ _ _ (by first | rfl | (simp; done) | (simp; omega))
  have p0 : w3.cell? ⟨w2.heap.size, 0, none⟩ = some (.pointer (some ⟨kb, 0, none⟩)) := blk_cell kp 0
  clear kp
  replace z0 := cell_on hB z0
  replace z1 := cell_on hB z1
  replace d0 := cell_on hB d0
  replace d1 := cell_on hB d1
  replace d2 := cell_on hB d2
  replace d3 := cell_on hB d3
  replace d4 := cell_on hB d4
  replace d5 := cell_on hB d5
  replace hZ1 := Kd.C_below hZ1 hB
  replace hv := hv.trans (hB.mono hv.size)
  clear hB hw3
  refine ⟨trivial, ?_⟩
  refine (callsIn_wide.2 (a94 _ hZ1)).mono ?_
  rintro en w4 ⟨rfl, hB⟩
  replace z0 := cell_on hB z0
  replace z1 := cell_on hB z1
  replace d0 := cell_on hB d0
  replace d1 := cell_on hB d1
  replace d2 := cell_on hB d2
  replace d3 := cell_on hB d3
  replace d4 := cell_on hB d4
  replace d5 := cell_on hB d5
  replace p0 := cell_on hB p0
  replace hZ1 := Kd.C_below hZ1 hB
  replace hv := hv.trans (hB.mono hv.size)
  clear hB a94
  gi_wp2_with fail
  refine ⟨trivial, ?_⟩
  refine (callsIn_wide.2 (a79 _)).mono ?_
  rintro en w5 ⟨rfl, hB⟩
  replace z0 := cell_on hB z0
  replace z1 := cell_on hB z1
  replace d0 := cell_on hB d0
  replace d1 := cell_on hB d1
  replace d2 := cell_on hB d2
  replace d3 := cell_on hB d3
  replace d4 := cell_on hB d4
  replace d5 := cell_on hB d5
  replace p0 := cell_on hB p0
  replace hZ1 := Kd.C_below hZ1 hB
  replace hv := hv.trans (hB.mono hv.size)
  clear hB a79
  gi_wp2
  try (refine ⟨trivial, ?_⟩; gi_wp2)
  try (refine ⟨trivial, ?_⟩; gi_wp2)
  try (refine ⟨trivial, ?_⟩; gi_wp2)
  exact ⟨_, results_tmp2 rfl _ _ _, rfl, by first | exact hv | exact hv.alloc hv.size _⟩
set_option maxHeartbeats 4000000 in
set_option maxRecDepth 100000 in
theorem fl_err4 (b u : Int) (A : Option Addr) (c : Nat) (L : List (Int × Int)) (o : Int) (zA : Option Addr) (zc : Nat) (zl : List (Int × Int)) (y m d h i s : Int) (w : World) (hr : Kd.C kl w A L.length L) (hz : Kd.C kl w zA zl.length zl)
    (hk : checkF b L u = 0) (hzk : zcheckF o zl = 0) (hok : okD y m d = true) (hh : ¬ (0 ≤ h ∧ h ≤ 23)) :
    Calls Try.prog 42 #[tabV b A L.length c u, zoneV o zA zl.length zc, dateV y m d h i s] w fun e w' => e = .returned (.tuple #[.slice none 0 0, .int .i64 90]) ∧ Below w.heap.size w w' := by
  refine (callsIn_wide (n := 9)).1 ?_
  have HR := Aside0.mk hr
  have HZ := Aside0.mk hz
  have a62 := fun w h => open_calls b u A c L w h
  have HK := Aside0.mk hk
  have a94 := fun w h => zcheck_calls o zA zc zl w h
  clear hk
  rw [hzk] at a94
  clear hzk
  have a79 := fun w => exists_calls y m d w
  rw [show okD y m d = true from hok] at a79
  clear hok
  have a81 := fun w => within_calls h 0 23 w
  rw [show (decide (0 ≤ h) && decide (h ≤ 23)) = false by simp; omega] at a81
  clear hh
  clear hr hz
  refine callsIn_of_wp_marks Try.func42 rfl trivial ?_ rfl
  simp only [Try.ntmps42, List.size_toArray, List.length_cons, List.length_nil, Nat.reduceAdd, Nat.reduceSub, Array.replicate_succ, Array.replicate_zero, List.push_toArray, List.append_toArray, List.nil_append, List.cons_append]
  obtain ⟨w1, hw1⟩ : ∃ w1, ((w.alloc (.cells #[.int .i64 b, .slice A L.length c, .int .i64 u] 28)).alloc (.cells #[.int .i64 o, .slice zA zl.length zc] 76)).alloc (.cells #[.int .i64 y, .int .i64 m, .int .i64 d, .int .i64 h, .int .i64 i, .int .i64 s] 30) = w1 := ⟨_, rfl⟩
  have hv : Below w.heap.size w w1 := by rw [← hw1]; exact (((Below.refl _ w).alloc (Nat.le_refl _) _).alloc (by simp) _).alloc (by simp; omega) _
  have kt : w1.heap[w.heap.size]? = some (.cells #[.int .i64 b, .slice A L.length c, .int .i64 u] 28 (0, 0)) := by rw [← hw1]; exact al_old (al_old (al_new _ _ _ rfl))
  have kz : w1.heap[w.heap.size + 1]? = some (.cells #[.int .i64 o, .slice zA zl.length zc] 76 (0, 0)) := by rw [← hw1]; exact al_old (al_new _ _ _ (by simp))
  have kd : w1.heap[w.heap.size + 1 + 1]? = some (.cells #[.int .i64 y, .int .i64 m, .int .i64 d, .int .i64 h, .int .i64 i, .int .i64 s] 30 (0, 0)) := by rw [← hw1]; exact al_new _ _ _ (by simp)
  have t0 : w1.cell? ⟨w.heap.size, 0, none⟩ = some (.int .i64 b) := blk_cell kt 0
  have t1 : w1.cell? ⟨w.heap.size, 1, none⟩ = some (.slice A L.length c) := blk_cell kt 1
  have t2 : w1.cell? ⟨w.heap.size, 2, none⟩ = some (.int .i64 u) := blk_cell kt 2
  have z0 : w1.cell? ⟨w.heap.size + 1, 0, none⟩ = some (.int .i64 o) := blk_cell kz 0
  have z1 : w1.cell? ⟨w.heap.size + 1, 1, none⟩ = some (.slice zA zl.length zc) := blk_cell kz 1
  have d0 : w1.cell? ⟨w.heap.size + 1 + 1, 0, none⟩ = some (.int .i64 y) := blk_cell kd 0
  have d1 : w1.cell? ⟨w.heap.size + 1 + 1, 1, none⟩ = some (.int .i64 m) := blk_cell kd 1
  have d2 : w1.cell? ⟨w.heap.size + 1 + 1, 2, none⟩ = some (.int .i64 d) := blk_cell kd 2
  have d3 : w1.cell? ⟨w.heap.size + 1 + 1, 3, none⟩ = some (.int .i64 h) := blk_cell kd 3
  have d4 : w1.cell? ⟨w.heap.size + 1 + 1, 4, none⟩ = some (.int .i64 i) := blk_cell kd 4
  have d5 : w1.cell? ⟨w.heap.size + 1 + 1, 5, none⟩ = some (.int .i64 s) := blk_cell kd 5
  clear kt kz kd
  have hR1 := Kd.C_below HR.out hv
  have hZ1 := Kd.C_below HZ.out hv
  gi_wp2_with fail
  try rw [hw1]
  clear hw1 t0 t1 t2
  refine ⟨trivial, ?_⟩
  refine (callsIn_wide.2 (a62 _ hR1)).mono ?_
  rintro en w2 ⟨_, hE, hB⟩
  obtain ⟨kb, rfl, hkb, hct⟩ := hE HK.out
  replace z0 := cell_on hB z0
  replace z1 := cell_on hB z1
  replace d0 := cell_on hB d0
  replace d1 := cell_on hB d1
  replace d2 := cell_on hB d2
  replace d3 := cell_on hB d3
  replace d4 := cell_on hB d4
  replace d5 := cell_on hB d5
  replace hZ1 := Kd.C_below hZ1 hB
  replace hv := hv.trans (hB.mono hv.size)
  clear hB hE a62 hR1 hct
  have hz0 := World.block_lt_of_cell? _ _ z0
  have hz1 := World.block_lt_of_cell? _ _ d0
  gi_wp2_with fail
  clear hz0 hz1
  obtain ⟨w3, hw3⟩ : ∃ w3, w2.alloc (.cells #[.pointer (some ⟨kb, 0, none⟩)] 102) = w3 := ⟨_, rfl⟩
  try rw [hw3]
  have hB : Below w2.heap.size w2 w3 := by rw [← hw3]; exact (Below.refl _ w2).alloc (by first | exact Nat.le_refl _ | (simp; done) | (simp; omega)) _
  have kp : w3.heap[w2.heap.size]? = some (.cells #[.pointer (some ⟨kb, 0, none⟩)] 102 (0, 0)) := by rw [← hw3]; exact al_new _ _ _ (by first | rfl | (simp; done) | (simp; omega))
  have p0 : w3.cell? ⟨w2.heap.size, 0, none⟩ = some (.pointer (some ⟨kb, 0, none⟩)) := blk_cell kp 0
  clear kp
  replace z0 := cell_on hB z0
  replace z1 := cell_on hB z1
  replace d0 := cell_on hB d0
  replace d1 := cell_on hB d1
  replace d2 := cell_on hB d2
  replace d3 := cell_on hB d3
  replace d4 := cell_on hB d4
  replace d5 := cell_on hB d5
  replace hZ1 := Kd.C_below hZ1 hB
  replace hv := hv.trans (hB.mono hv.size)
  clear hB hw3
  refine ⟨trivial, ?_⟩
  refine (callsIn_wide.2 (a94 _ hZ1)).mono ?_
  rintro en w4 ⟨rfl, hB⟩
  replace z0 := cell_on hB z0
  replace z1 := cell_on hB z1
  replace d0 := cell_on hB d0
  replace d1 := cell_on hB d1
  replace d2 := cell_on hB d2
  replace d3 := cell_on hB d3
  replace d4 := cell_on hB d4
  replace d5 := cell_on hB d5
  replace p0 := cell_on hB p0
  replace hZ1 := Kd.C_below hZ1 hB
  replace hv := hv.trans (hB.mono hv.size)
  clear hB a94
  gi_wp2_with fail
  refine ⟨trivial, ?_⟩
  refine (callsIn_wide.2 (a79 _)).mono ?_
  rintro en w5 ⟨rfl, hB⟩
  replace z0 := cell_on hB z0
  replace z1 := cell_on hB z1
  replace d0 := cell_on hB d0
  replace d1 := cell_on hB d1
  replace d2 := cell_on hB d2
  replace d3 := cell_on hB d3
  replace d4 := cell_on hB d4
  replace d5 := cell_on hB d5
  replace p0 := cell_on hB p0
  replace hZ1 := Kd.C_below hZ1 hB
  replace hv := hv.trans (hB.mono hv.size)
  clear hB a79
  gi_wp2_with fail
  refine ⟨trivial, ?_⟩
  refine (callsIn_wide.2 (a81 _)).mono ?_
  rintro en w6 ⟨rfl, hB⟩
  replace z0 := cell_on hB z0
  replace z1 := cell_on hB z1
  replace d0 := cell_on hB d0
  replace d1 := cell_on hB d1
  replace d2 := cell_on hB d2
  replace d3 := cell_on hB d3
  replace d4 := cell_on hB d4
  replace d5 := cell_on hB d5
  replace p0 := cell_on hB p0
  replace hZ1 := Kd.C_below hZ1 hB
  replace hv := hv.trans (hB.mono hv.size)
  clear hB a81
  gi_wp2
  try (refine ⟨trivial, ?_⟩; gi_wp2)
  try (refine ⟨trivial, ?_⟩; gi_wp2)
  exact ⟨_, results_tmp2 rfl _ _ _, rfl, by first | exact hv | exact hv.alloc hv.size _⟩
set_option maxHeartbeats 4000000 in
set_option maxRecDepth 100000 in
theorem fl_err5 (b u : Int) (A : Option Addr) (c : Nat) (L : List (Int × Int)) (o : Int) (zA : Option Addr) (zc : Nat) (zl : List (Int × Int)) (y m d h i s : Int) (w : World) (hr : Kd.C kl w A L.length L) (hz : Kd.C kl w zA zl.length zl)
    (hk : checkF b L u = 0) (hzk : zcheckF o zl = 0) (hok : okD y m d = true) (hh : (0 ≤ h ∧ h ≤ 23)) (hi : ¬ (0 ≤ i ∧ i ≤ 59)) :
    Calls Try.prog 42 #[tabV b A L.length c u, zoneV o zA zl.length zc, dateV y m d h i s] w fun e w' => e = .returned (.tuple #[.slice none 0 0, .int .i64 90]) ∧ Below w.heap.size w w' := by
  refine (callsIn_wide (n := 9)).1 ?_
  have HR := Aside0.mk hr
  have HZ := Aside0.mk hz
  have a62 := fun w h => open_calls b u A c L w h
  have HK := Aside0.mk hk
  have a94 := fun w h => zcheck_calls o zA zc zl w h
  clear hk
  rw [hzk] at a94
  clear hzk
  have a79 := fun w => exists_calls y m d w
  rw [show okD y m d = true from hok] at a79
  clear hok
  have a81 := fun w => within_calls h 0 23 w
  rw [show (decide (0 ≤ h) && decide (h ≤ 23)) = true by simp; omega] at a81
  clear hh
  have b81 := fun w => within_calls i 0 59 w
  rw [show (decide (0 ≤ i) && decide (i ≤ 59)) = false by simp; omega] at b81
  clear hi
  clear hr hz
  refine callsIn_of_wp_marks Try.func42 rfl trivial ?_ rfl
  simp only [Try.ntmps42, List.size_toArray, List.length_cons, List.length_nil, Nat.reduceAdd, Nat.reduceSub, Array.replicate_succ, Array.replicate_zero, List.push_toArray, List.append_toArray, List.nil_append, List.cons_append]
  obtain ⟨w1, hw1⟩ : ∃ w1, ((w.alloc (.cells #[.int .i64 b, .slice A L.length c, .int .i64 u] 28)).alloc (.cells #[.int .i64 o, .slice zA zl.length zc] 76)).alloc (.cells #[.int .i64 y, .int .i64 m, .int .i64 d, .int .i64 h, .int .i64 i, .int .i64 s] 30) = w1 := ⟨_, rfl⟩
  have hv : Below w.heap.size w w1 := by rw [← hw1]; exact (((Below.refl _ w).alloc (Nat.le_refl _) _).alloc (by simp) _).alloc (by simp; omega) _
  have kt : w1.heap[w.heap.size]? = some (.cells #[.int .i64 b, .slice A L.length c, .int .i64 u] 28 (0, 0)) := by rw [← hw1]; exact al_old (al_old (al_new _ _ _ rfl))
  have kz : w1.heap[w.heap.size + 1]? = some (.cells #[.int .i64 o, .slice zA zl.length zc] 76 (0, 0)) := by rw [← hw1]; exact al_old (al_new _ _ _ (by simp))
  have kd : w1.heap[w.heap.size + 1 + 1]? = some (.cells #[.int .i64 y, .int .i64 m, .int .i64 d, .int .i64 h, .int .i64 i, .int .i64 s] 30 (0, 0)) := by rw [← hw1]; exact al_new _ _ _ (by simp)
  have t0 : w1.cell? ⟨w.heap.size, 0, none⟩ = some (.int .i64 b) := blk_cell kt 0
  have t1 : w1.cell? ⟨w.heap.size, 1, none⟩ = some (.slice A L.length c) := blk_cell kt 1
  have t2 : w1.cell? ⟨w.heap.size, 2, none⟩ = some (.int .i64 u) := blk_cell kt 2
  have z0 : w1.cell? ⟨w.heap.size + 1, 0, none⟩ = some (.int .i64 o) := blk_cell kz 0
  have z1 : w1.cell? ⟨w.heap.size + 1, 1, none⟩ = some (.slice zA zl.length zc) := blk_cell kz 1
  have d0 : w1.cell? ⟨w.heap.size + 1 + 1, 0, none⟩ = some (.int .i64 y) := blk_cell kd 0
  have d1 : w1.cell? ⟨w.heap.size + 1 + 1, 1, none⟩ = some (.int .i64 m) := blk_cell kd 1
  have d2 : w1.cell? ⟨w.heap.size + 1 + 1, 2, none⟩ = some (.int .i64 d) := blk_cell kd 2
  have d3 : w1.cell? ⟨w.heap.size + 1 + 1, 3, none⟩ = some (.int .i64 h) := blk_cell kd 3
  have d4 : w1.cell? ⟨w.heap.size + 1 + 1, 4, none⟩ = some (.int .i64 i) := blk_cell kd 4
  have d5 : w1.cell? ⟨w.heap.size + 1 + 1, 5, none⟩ = some (.int .i64 s) := blk_cell kd 5
  clear kt kz kd
  have hR1 := Kd.C_below HR.out hv
  have hZ1 := Kd.C_below HZ.out hv
  gi_wp2_with fail
  try rw [hw1]
  clear hw1 t0 t1 t2
  refine ⟨trivial, ?_⟩
  refine (callsIn_wide.2 (a62 _ hR1)).mono ?_
  rintro en w2 ⟨_, hE, hB⟩
  obtain ⟨kb, rfl, hkb, hct⟩ := hE HK.out
  replace z0 := cell_on hB z0
  replace z1 := cell_on hB z1
  replace d0 := cell_on hB d0
  replace d1 := cell_on hB d1
  replace d2 := cell_on hB d2
  replace d3 := cell_on hB d3
  replace d4 := cell_on hB d4
  replace d5 := cell_on hB d5
  replace hZ1 := Kd.C_below hZ1 hB
  replace hv := hv.trans (hB.mono hv.size)
  clear hB hE a62 hR1 hct
  have hz0 := World.block_lt_of_cell? _ _ z0
  have hz1 := World.block_lt_of_cell? _ _ d0
  gi_wp2_with fail
  clear hz0 hz1
  obtain ⟨w3, hw3⟩ : ∃ w3, w2.alloc (.cells #[.pointer (some ⟨kb, 0, none⟩)] 102) = w3 := ⟨_, rfl⟩
  try rw [hw3]
  have hB : Below w2.heap.size w2 w3 := by rw [← hw3]; exact (Below.refl _ w2).alloc (by first | exact Nat.le_refl _ | (simp; done) | (simp; omega)) _
  have kp : w3.heap[w2.heap.size]? = some (.cells #[.pointer (some ⟨kb, 0, none⟩)] 102 (0, 0)) := by rw [← hw3]; exact al_new _ _ _ (by first | rfl | (simp; done) | (simp; omega))
  have p0 : w3.cell? ⟨w2.heap.size, 0, none⟩ = some (.pointer (some ⟨kb, 0, none⟩)) := blk_cell kp 0
  clear kp
  replace z0 := cell_on hB z0
  replace z1 := cell_on hB z1
  replace d0 := cell_on hB d0
  replace d1 := cell_on hB d1
  replace d2 := cell_on hB d2
  replace d3 := cell_on hB d3
  replace d4 := cell_on hB d4
  replace d5 := cell_on hB d5
  replace hZ1 := Kd.C_below hZ1 hB
  replace hv := hv.trans (hB.mono hv.size)
  clear hB hw3
  refine ⟨trivial, ?_⟩
  refine (callsIn_wide.2 (a94 _ hZ1)).mono ?_
  rintro en w4 ⟨rfl, hB⟩
  replace z0 := cell_on hB z0
  replace z1 := cell_on hB z1
  replace d0 := cell_on hB d0
  replace d1 := cell_on hB d1
  replace d2 := cell_on hB d2
  replace d3 := cell_on hB d3
  replace d4 := cell_on hB d4
  replace d5 := cell_on hB d5
  replace p0 := cell_on hB p0
  replace hZ1 := Kd.C_below hZ1 hB
  replace hv := hv.trans (hB.mono hv.size)
  clear hB a94
  gi_wp2_with fail
  refine ⟨trivial, ?_⟩
  refine (callsIn_wide.2 (a79 _)).mono ?_
  rintro en w5 ⟨rfl, hB⟩
  replace z0 := cell_on hB z0
  replace z1 := cell_on hB z1
  replace d0 := cell_on hB d0
  replace d1 := cell_on hB d1
  replace d2 := cell_on hB d2
  replace d3 := cell_on hB d3
  replace d4 := cell_on hB d4
  replace d5 := cell_on hB d5
  replace p0 := cell_on hB p0
  replace hZ1 := Kd.C_below hZ1 hB
  replace hv := hv.trans (hB.mono hv.size)
  clear hB a79
  gi_wp2_with fail
  refine ⟨trivial, ?_⟩
  refine (callsIn_wide.2 (a81 _)).mono ?_
  rintro en w6 ⟨rfl, hB⟩
  replace z0 := cell_on hB z0
  replace z1 := cell_on hB z1
  replace d0 := cell_on hB d0
  replace d1 := cell_on hB d1
  replace d2 := cell_on hB d2
  replace d3 := cell_on hB d3
  replace d4 := cell_on hB d4
  replace d5 := cell_on hB d5
  replace p0 := cell_on hB p0
  replace hZ1 := Kd.C_below hZ1 hB
  replace hv := hv.trans (hB.mono hv.size)
  clear hB a81
  gi_wp2_with fail
  refine ⟨trivial, ?_⟩
  refine (callsIn_wide.2 (b81 _)).mono ?_
  rintro en w7 ⟨rfl, hB⟩
  replace z0 := cell_on hB z0
  replace z1 := cell_on hB z1
  replace d0 := cell_on hB d0
  replace d1 := cell_on hB d1
  replace d2 := cell_on hB d2
  replace d3 := cell_on hB d3
  replace d4 := cell_on hB d4
  replace d5 := cell_on hB d5
  replace p0 := cell_on hB p0
  replace hZ1 := Kd.C_below hZ1 hB
  replace hv := hv.trans (hB.mono hv.size)
  clear hB b81
  gi_wp2
  try (refine ⟨trivial, ?_⟩; gi_wp2)
  exact ⟨_, results_tmp2 rfl _ _ _, rfl, by first | exact hv | exact hv.alloc hv.size _⟩
set_option maxHeartbeats 4000000 in
set_option maxRecDepth 100000 in
theorem fl_err6 (b u : Int) (A : Option Addr) (c : Nat) (L : List (Int × Int)) (o : Int) (zA : Option Addr) (zc : Nat) (zl : List (Int × Int)) (y m d h i s : Int) (w : World) (hr : Kd.C kl w A L.length L) (hz : Kd.C kl w zA zl.length zl)
    (hk : checkF b L u = 0) (hzk : zcheckF o zl = 0) (hok : okD y m d = true) (hh : (0 ≤ h ∧ h ≤ 23)) (hi : (0 ≤ i ∧ i ≤ 59)) (hs : ¬ (0 ≤ s ∧ s ≤ 60)) :
    Calls Try.prog 42 #[tabV b A L.length c u, zoneV o zA zl.length zc, dateV y m d h i s] w fun e w' => e = .returned (.tuple #[.slice none 0 0, .int .i64 90]) ∧ Below w.heap.size w w' := by
  refine (callsIn_wide (n := 9)).1 ?_
  have HR := Aside0.mk hr
  have HZ := Aside0.mk hz
  have a62 := fun w h => open_calls b u A c L w h
  have HK := Aside0.mk hk
  have a94 := fun w h => zcheck_calls o zA zc zl w h
  clear hk
  rw [hzk] at a94
  clear hzk
  have a79 := fun w => exists_calls y m d w
  rw [show okD y m d = true from hok] at a79
  clear hok
  have a81 := fun w => within_calls h 0 23 w
  rw [show (decide (0 ≤ h) && decide (h ≤ 23)) = true by simp; omega] at a81
  clear hh
  have b81 := fun w => within_calls i 0 59 w
  rw [show (decide (0 ≤ i) && decide (i ≤ 59)) = true by simp; omega] at b81
  clear hi
  have c81 := fun w => within_calls s 0 60 w
  rw [show (decide (0 ≤ s) && decide (s ≤ 60)) = false by simp; omega] at c81
  clear hs
  clear hr hz
  refine callsIn_of_wp_marks Try.func42 rfl trivial ?_ rfl
  simp only [Try.ntmps42, List.size_toArray, List.length_cons, List.length_nil, Nat.reduceAdd, Nat.reduceSub, Array.replicate_succ, Array.replicate_zero, List.push_toArray, List.append_toArray, List.nil_append, List.cons_append]
  obtain ⟨w1, hw1⟩ : ∃ w1, ((w.alloc (.cells #[.int .i64 b, .slice A L.length c, .int .i64 u] 28)).alloc (.cells #[.int .i64 o, .slice zA zl.length zc] 76)).alloc (.cells #[.int .i64 y, .int .i64 m, .int .i64 d, .int .i64 h, .int .i64 i, .int .i64 s] 30) = w1 := ⟨_, rfl⟩
  have hv : Below w.heap.size w w1 := by rw [← hw1]; exact (((Below.refl _ w).alloc (Nat.le_refl _) _).alloc (by simp) _).alloc (by simp; omega) _
  have kt : w1.heap[w.heap.size]? = some (.cells #[.int .i64 b, .slice A L.length c, .int .i64 u] 28 (0, 0)) := by rw [← hw1]; exact al_old (al_old (al_new _ _ _ rfl))
  have kz : w1.heap[w.heap.size + 1]? = some (.cells #[.int .i64 o, .slice zA zl.length zc] 76 (0, 0)) := by rw [← hw1]; exact al_old (al_new _ _ _ (by simp))
  have kd : w1.heap[w.heap.size + 1 + 1]? = some (.cells #[.int .i64 y, .int .i64 m, .int .i64 d, .int .i64 h, .int .i64 i, .int .i64 s] 30 (0, 0)) := by rw [← hw1]; exact al_new _ _ _ (by simp)
  have t0 : w1.cell? ⟨w.heap.size, 0, none⟩ = some (.int .i64 b) := blk_cell kt 0
  have t1 : w1.cell? ⟨w.heap.size, 1, none⟩ = some (.slice A L.length c) := blk_cell kt 1
  have t2 : w1.cell? ⟨w.heap.size, 2, none⟩ = some (.int .i64 u) := blk_cell kt 2
  have z0 : w1.cell? ⟨w.heap.size + 1, 0, none⟩ = some (.int .i64 o) := blk_cell kz 0
  have z1 : w1.cell? ⟨w.heap.size + 1, 1, none⟩ = some (.slice zA zl.length zc) := blk_cell kz 1
  have d0 : w1.cell? ⟨w.heap.size + 1 + 1, 0, none⟩ = some (.int .i64 y) := blk_cell kd 0
  have d1 : w1.cell? ⟨w.heap.size + 1 + 1, 1, none⟩ = some (.int .i64 m) := blk_cell kd 1
  have d2 : w1.cell? ⟨w.heap.size + 1 + 1, 2, none⟩ = some (.int .i64 d) := blk_cell kd 2
  have d3 : w1.cell? ⟨w.heap.size + 1 + 1, 3, none⟩ = some (.int .i64 h) := blk_cell kd 3
  have d4 : w1.cell? ⟨w.heap.size + 1 + 1, 4, none⟩ = some (.int .i64 i) := blk_cell kd 4
  have d5 : w1.cell? ⟨w.heap.size + 1 + 1, 5, none⟩ = some (.int .i64 s) := blk_cell kd 5
  clear kt kz kd
  have hR1 := Kd.C_below HR.out hv
  have hZ1 := Kd.C_below HZ.out hv
  gi_wp2_with fail
  try rw [hw1]
  clear hw1 t0 t1 t2
  refine ⟨trivial, ?_⟩
  refine (callsIn_wide.2 (a62 _ hR1)).mono ?_
  rintro en w2 ⟨_, hE, hB⟩
  obtain ⟨kb, rfl, hkb, hct⟩ := hE HK.out
  replace z0 := cell_on hB z0
  replace z1 := cell_on hB z1
  replace d0 := cell_on hB d0
  replace d1 := cell_on hB d1
  replace d2 := cell_on hB d2
  replace d3 := cell_on hB d3
  replace d4 := cell_on hB d4
  replace d5 := cell_on hB d5
  replace hZ1 := Kd.C_below hZ1 hB
  replace hv := hv.trans (hB.mono hv.size)
  clear hB hE a62 hR1 hct
  have hz0 := World.block_lt_of_cell? _ _ z0
  have hz1 := World.block_lt_of_cell? _ _ d0
  gi_wp2_with fail
  clear hz0 hz1
  obtain ⟨w3, hw3⟩ : ∃ w3, w2.alloc (.cells #[.pointer (some ⟨kb, 0, none⟩)] 102) = w3 := ⟨_, rfl⟩
  try rw [hw3]
  have hB : Below w2.heap.size w2 w3 := by rw [← hw3]; exact (Below.refl _ w2).alloc (by first | exact Nat.le_refl _ | (simp; done) | (simp; omega)) _
  have kp : w3.heap[w2.heap.size]? = some (.cells #[.pointer (some ⟨kb, 0, none⟩)] 102 (0, 0)) := by rw [← hw3]; exact al_new _ _ _ (by first | rfl | (simp; done) | (simp; omega))
  have p0 : w3.cell? ⟨w2.heap.size, 0, none⟩ = some (.pointer (some ⟨kb, 0, none⟩)) := blk_cell kp 0
  clear kp
  replace z0 := cell_on hB z0
  replace z1 := cell_on hB z1
  replace d0 := cell_on hB d0
  replace d1 := cell_on hB d1
  replace d2 := cell_on hB d2
  replace d3 := cell_on hB d3
  replace d4 := cell_on hB d4
  replace d5 := cell_on hB d5
  replace hZ1 := Kd.C_below hZ1 hB
  replace hv := hv.trans (hB.mono hv.size)
  clear hB hw3
  refine ⟨trivial, ?_⟩
  refine (callsIn_wide.2 (a94 _ hZ1)).mono ?_
  rintro en w4 ⟨rfl, hB⟩
  replace z0 := cell_on hB z0
  replace z1 := cell_on hB z1
  replace d0 := cell_on hB d0
  replace d1 := cell_on hB d1
  replace d2 := cell_on hB d2
  replace d3 := cell_on hB d3
  replace d4 := cell_on hB d4
  replace d5 := cell_on hB d5
  replace p0 := cell_on hB p0
  replace hZ1 := Kd.C_below hZ1 hB
  replace hv := hv.trans (hB.mono hv.size)
  clear hB a94
  gi_wp2_with fail
  refine ⟨trivial, ?_⟩
  refine (callsIn_wide.2 (a79 _)).mono ?_
  rintro en w5 ⟨rfl, hB⟩
  replace z0 := cell_on hB z0
  replace z1 := cell_on hB z1
  replace d0 := cell_on hB d0
  replace d1 := cell_on hB d1
  replace d2 := cell_on hB d2
  replace d3 := cell_on hB d3
  replace d4 := cell_on hB d4
  replace d5 := cell_on hB d5
  replace p0 := cell_on hB p0
  replace hZ1 := Kd.C_below hZ1 hB
  replace hv := hv.trans (hB.mono hv.size)
  clear hB a79
  gi_wp2_with fail
  refine ⟨trivial, ?_⟩
  refine (callsIn_wide.2 (a81 _)).mono ?_
  rintro en w6 ⟨rfl, hB⟩
  replace z0 := cell_on hB z0
  replace z1 := cell_on hB z1
  replace d0 := cell_on hB d0
  replace d1 := cell_on hB d1
  replace d2 := cell_on hB d2
  replace d3 := cell_on hB d3
  replace d4 := cell_on hB d4
  replace d5 := cell_on hB d5
  replace p0 := cell_on hB p0
  replace hZ1 := Kd.C_below hZ1 hB
  replace hv := hv.trans (hB.mono hv.size)
  clear hB a81
  gi_wp2_with fail
  refine ⟨trivial, ?_⟩
  refine (callsIn_wide.2 (b81 _)).mono ?_
  rintro en w7 ⟨rfl, hB⟩
  replace z0 := cell_on hB z0
  replace z1 := cell_on hB z1
  replace d0 := cell_on hB d0
  replace d1 := cell_on hB d1
  replace d2 := cell_on hB d2
  replace d3 := cell_on hB d3
  replace d4 := cell_on hB d4
  replace d5 := cell_on hB d5
  replace p0 := cell_on hB p0
  replace hZ1 := Kd.C_below hZ1 hB
  replace hv := hv.trans (hB.mono hv.size)
  clear hB b81
  gi_wp2_with fail
  refine ⟨trivial, ?_⟩
  refine (callsIn_wide.2 (c81 _)).mono ?_
  rintro en w8 ⟨rfl, hB⟩
  replace z0 := cell_on hB z0
  replace z1 := cell_on hB z1
  replace d0 := cell_on hB d0
  replace d1 := cell_on hB d1
  replace d2 := cell_on hB d2
  replace d3 := cell_on hB d3
  replace d4 := cell_on hB d4
  replace d5 := cell_on hB d5
  replace p0 := cell_on hB p0
  replace hZ1 := Kd.C_below hZ1 hB
  replace hv := hv.trans (hB.mono hv.size)
  clear hB c81
  gi_wp2
  exact ⟨_, results_tmp2 rfl _ _ _, rfl, by first | exact hv | exact hv.alloc hv.size _⟩
theorem FromLocal_calls (b u : Int) (A : Option Addr) (c : Nat) (L : List (Int × Int)) (o : Int) (zA : Option Addr) (zc : Nat) (zl : List (Int × Int)) (y m d h i s : Int) (w : World) (hr : Kd.C kl w A L.length L) (hz : Kd.C kl w zA zl.length zl) :
    Calls Try.prog 42 #[tabV b A L.length c u, zoneV o zA zl.length zc, dateV y m d h i s] w fun e w' => (∃ A' c', e = .returned (.tuple #[.slice A' (flL b u L o zl y m d h i s).length c', .int .i64 (flE b u L o zl y m d h i s)]) ∧ Kd.C (Kd.int .i64) w' A' (flL b u L o zl y m d h i s).length (flL b u L o zl y m d h i s)) ∧ Below w.heap.size w w' := by
  have hbad : ∀ E, (¬ (checkF b L u = 0 ∧ zcheckF o zl = 0 ∧ okD y m d = true ∧ clkOk h i s)) → flE b u L o zl y m d h i s = E → (Calls Try.prog 42 #[tabV b A L.length c u, zoneV o zA zl.length zc, dateV y m d h i s] w fun e w' => e = .returned (.tuple #[.slice none 0 0, .int .i64 E]) ∧ Below w.heap.size w w') →
      Calls Try.prog 42 #[tabV b A L.length c u, zoneV o zA zl.length zc, dateV y m d h i s] w fun e w' => (∃ A' c', e = .returned (.tuple #[.slice A' (flL b u L o zl y m d h i s).length c', .int .i64 (flE b u L o zl y m d h i s)]) ∧ Kd.C (Kd.int .i64) w' A' (flL b u L o zl y m d h i s).length (flL b u L o zl y m d h i s)) ∧ Below w.heap.size w w' := fun E hn hE hc => hc.mono fun e w' ⟨h1, h2⟩ => by
    have hl : flL b u L o zl y m d h i s = [] := if_neg hn
    rw [hl, hE]
    exact ⟨⟨none, 0, h1, ⟨rfl, by decide, fun h => by cases h⟩⟩, h2⟩
  by_cases hk : checkF b L u = 0
  · by_cases hzk : zcheckF o zl = 0
    · have hE90 : ¬ (okD y m d = true ∧ clkOk h i s) → flE b u L o zl y m d h i s = 90 := fun hn => by unfold flE; rw [if_neg (by simp [hk]), if_neg (by simp [hzk]), if_neg hn]
      by_cases hok : okD y m d = true
      · by_cases hh : 0 ≤ h ∧ h ≤ 23
        · by_cases hi : 0 ≤ i ∧ i ≤ 59
          · by_cases hs : 0 ≤ s ∧ s ≤ 60
            · have hck : clkOk h i s := ⟨hh.1, hh.2, hi.1, hi.2, hs.1, hs.2⟩
              have hl : flL b u L o zl y m d h i s = localL u L o zl y m d h i s := if_pos ⟨hk, hzk, hok, hck⟩
              have hE : flE b u L o zl y m d h i s = if localL u L o zl y m d h i s = [] then 4 else 0 := by unfold flE; rw [if_neg (by simp [hk]), if_neg (by simp [hzk]), if_pos ⟨hok, hck⟩]
              rw [hl, hE]
              exact (fl_main b u A c L o zA zc zl y m d h i s w hr hz hk hzk hok hck).mono fun e w' ⟨A', c', h1, h2, h3⟩ => ⟨⟨A', c', h2, h1⟩, h3⟩
            · exact hbad 90 (fun e => hs ⟨e.2.2.2.2.2.2.2.1, e.2.2.2.2.2.2.2.2⟩) (hE90 (fun e => hs ⟨e.2.2.2.2.2.1, e.2.2.2.2.2.2⟩)) (fl_err6 b u A c L o zA zc zl y m d h i s w hr hz hk hzk hok hh hi hs)
          · exact hbad 90 (fun e => hi ⟨e.2.2.2.2.2.1, e.2.2.2.2.2.2.1⟩) (hE90 (fun e => hi ⟨e.2.2.2.1, e.2.2.2.2.1⟩)) (fl_err5 b u A c L o zA zc zl y m d h i s w hr hz hk hzk hok hh hi)
        · exact hbad 90 (fun e => hh ⟨e.2.2.2.1, e.2.2.2.2.1⟩) (hE90 (fun e => hh ⟨e.2.1, e.2.2.1⟩)) (fl_err4 b u A c L o zA zc zl y m d h i s w hr hz hk hzk hok hh)
      · exact hbad 90 (fun e => hok e.2.2.1) (hE90 (fun e => hok e.1)) (fl_err3 b u A c L o zA zc zl y m d h i s w hr hz hk hzk hok)
    · exact hbad _ (fun e => hzk e.2.1) (by unfold flE; rw [if_neg (by simp [hk]), if_pos hzk]) (fl_err2 b u A c L o zA zc zl y m d h i s w hr hz hk hzk)
  · exact hbad _ (fun e => hk e.1) (by unfold flE; rw [if_pos hk]) (fl_err1 b u A c L o zA zc zl y m d h i s w hr hz hk)
end Go.Proofs.Ytleipbanadnchaa.C
end
