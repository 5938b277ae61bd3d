/- Contracts of a use's side and of a net's uses, by hand. -/
import Derived.OwnWalk
import Derived.Laws.AppendOwn
import Derived.Deep.RegionHeld3
import Derived.Test.YtjgnadighdbjlaaCs
namespace Go.Proofs.Ytjgnadighdbjlaa.C
open Go.RowKit Go.Shelf Go.Maps Go.Proofs.YtjgnadighdbjlaaW.PrintWords Go.Proofs.YtjgnadighdbjlaaW.PrintLast Go.Proofs.YtjgnadighdbjlaaW.PrintMore
set_option linter.unusedVariables false
set_option linter.unusedSimpArgs false
/-- The bound of a use; its clocks and its limit. -/
def sideB (x : Bd) (b : Bool) : Int × Int × Int := if b then (x.1, x.2.1, x.2.2.2) else (x.2.1, x.1, -x.2.2.1)
def sideF (l : List Bd) (u : Us) : Int × Int × Int := sideB (l.getD u.1.toNat (0, 0, 0, 0)) u.2
abbrev sideV (s : Int × Int × Int) : Value := .tuple #[.int .i64 s.1, .int .i64 s.2.1, .int .i64 s.2.2]
/-- The spans of a net that is right. -/
def SpanOk (l : List Bd) : Prop := ∀ x ∈ l, -1000000000000000 ≤ x.2.2.1 ∧ x.2.2.1 ≤ x.2.2.2 ∧ x.2.2.2 ≤ 1000000000000000
theorem sideF_at {l : List Bd} {k : Nat} (hk : k < l.length) (b : Bool) : sideF l ((k : Int), b) = sideB l[k] b := by
  unfold sideF
  simp [List.getD_eq_getElem?_getD, List.getElem?_eq_getElem hk]
set_option maxHeartbeats 2000000 in
set_option maxRecDepth 100000 in
theorem side_calls (k : Int) (b : Bool) (A : Option Addr) (c : Nat) (l : List Bd) (w : World) (hr : Kd.C kb w A l.length l) (hs : SpanOk l) (hk0 : 0 ≤ k) (hk1 : k < l.length) :
    Calls Try.prog 32 #[usV (k, b), .slice A l.length c] w fun e w' => e = .returned (sideV (sideF l (k, b))) ∧ Below w.heap.size w w' := by
  obtain ⟨j, rfl⟩ := Int.eq_ofNat_of_zero_le hk0
  have hj : j < l.length := by omega
  rw [sideF_at hj]
  obtain ⟨ad, rfl, hc0, hc1, hc2, hc3⟩ := C_bd hr j hj hj
  have hsp := hs _ (List.getElem_mem hj)
  clear hr hs hk0
  generalize l[j] = x at *
  obtain ⟨xa, xb, lo, hi⟩ := x
  simp only at hc0 hc1 hc2 hc3 hsp
  have hv := Below.refl w.heap.size w
  have hwl := wrp (-lo) (by omega) (by omega)
  have hs0 := World.block_lt_of_cell? _ _ hc0
  have hs1 : w.heap.size + 1 ≠ w.heap.size := by omega
  cases b <;> unfold sideB sideV <;> simp only [Bool.false_eq_true, if_false, if_true]
  · go_enter Try.func32, Try.ntmps32
    go_wp2_with fail
    go_quiet (fail)
    go_wp2
    go_ret3
    exact ⟨rfl, pw_below_drewN ((hv.alloc (Nat.le_refl _) _).alloc (by simp) _) _⟩
  · go_enter Try.func32, Try.ntmps32
    go_wp2_with fail
    go_quiet (fail)
    go_wp2
    go_ret3
    exact ⟨rfl, pw_below_drewN ((hv.alloc (Nat.le_refl _) _).alloc (by simp) _) _⟩
set_option maxHeartbeats 2000000 in
set_option maxRecDepth 100000 in
theorem ends_calls (k : Int) (b : Bool) (A : Option Addr) (c : Nat) (l : List Bd) (w : World) (hr : Kd.C kb w A l.length l) (hs : SpanOk l) (hk0 : 0 ≤ k) (hk1 : k < l.length) :
    Calls Try.prog 38 #[.slice A l.length c, usV (k, b)] w fun e w' => e = .returned (sideV (sideF l (k, b))) ∧ Below w.heap.size w w' := by
  obtain ⟨j, rfl⟩ := Int.eq_ofNat_of_zero_le hk0
  have hj : j < l.length := by omega
  rw [sideF_at hj]
  obtain ⟨ad, rfl, hc0, hc1, hc2, hc3⟩ := C_bd hr j hj hj
  have hsp := hs _ (List.getElem_mem hj)
  clear hr hs hk0
  generalize l[j] = x at *
  obtain ⟨xa, xb, lo, hi⟩ := x
  simp only at hc0 hc1 hc2 hc3 hsp
  have hv := Below.refl w.heap.size w
  have hwl := wrp (-lo) (by omega) (by omega)
  have hs0 := World.block_lt_of_cell? _ _ hc0
  have hs1 : w.heap.size + 1 ≠ w.heap.size := by omega
  cases b <;> unfold sideB sideV <;> simp only [Bool.false_eq_true, if_false, if_true]
  · go_enter Try.func38, Try.ntmps38
    go_wp2_with fail
    go_quiet (fail)
    go_wp2
    go_ret3
    exact ⟨rfl, pw_below_drewN ((hv.alloc (Nat.le_refl _) _).alloc (by simp) _) _⟩
  · go_enter Try.func38, Try.ntmps38
    go_wp2_with fail
    go_quiet (fail)
    go_wp2
    go_ret3
    exact ⟨rfl, pw_below_drewN ((hv.alloc (Nat.le_refl _) _).alloc (by simp) _) _⟩
/-- All uses of a net of n bounds. -/
def usesL (n : Nat) : List Us := (List.range n).flatMap fun (i : Nat) => [((i : Int), true), ((i : Int), false)]
theorem usesL_succ (n : Nat) : usesL (n + 1) = usesL n ++ [((n : Int), true), ((n : Int), false)] := by unfold usesL; rw [List.range_succ, List.flatMap_append]; rfl
theorem usesL_len : ∀ n : Nat, (usesL n).length = 2 * n
  | 0 => rfl
  | n + 1 => by rw [usesL_succ, List.length_append, usesL_len n]; simp; omega
/-- The cells of a row of uses. -/
def ucells : List Us → List Value
  | [] => []
  | x :: l => .int .i64 x.1 :: .bool x.2 :: ucells l
theorem ucells_append : ∀ (l m : List Us), ucells (l ++ m) = ucells l ++ ucells m
  | [], m => rfl
  | x :: l, m => by simp [ucells, ucells_append l m]
theorem ucells_len : ∀ (l : List Us), (ucells l).length = l.length * 2
  | [] => rfl
  | x :: l => by simp [ucells, ucells_len l]; omega
theorem ucells_at : ∀ (l : List Us) (j : Nat) (x : Us), l[j]? = some x → ((ucells l).drop (j * 2)).take 2 = [.int .i64 x.1, .bool x.2]
  | [], j, x, h => by simp at h
  | y :: l, 0, x, h => by simp at h; subst h; simp [ucells]
  | y :: l, j + 1, x, h => by
    have := ucells_at l j x (by simpa using h)
    rw [show (j + 1) * 2 = j * 2 + 2 by omega, ucells]
    simpa using this
theorem own_uses {e : TypeId} {w : World} {base : Nat} {v : Value} {l : List Us} (h : w.ownsRow base e 2 v l.length (ucells l)) : ∃ A c, v = .slice A l.length c ∧ Kd.C ku w A l.length l := by
  have hR : Kd.R ku e w base (fun _ => True) v l := ⟨fun _ _ => trivial, _, h, ucells_len l, fun j x hx => by
    rw [show ku.sz = 2 from rfl, ucells_at l j x hx]
    exact ⟨[.int .i64 x.1], [.bool x.2], rfl, rfl, rfl⟩⟩
  obtain ⟨A, c, e, _, hC⟩ := Kd.R_reads hR
  exact ⟨A, c, e, hC⟩
theorem info41n : (Try.prog.info? 41).map (fun i => (i.zero, i.size, i.bytes)) = some (some (.agg #[.int .i64 0, .bool false]), 2, 16) := by kernel_rfl
set_option maxHeartbeats 2000000 in
set_option maxRecDepth 100000 in
theorem uses_calls (A : Option Addr) (c n : Nat) (w : World) (hn : n ≤ 1000) :
    Calls Try.prog 31 #[.slice A n c] w fun e w' => ∃ v', e = .returned v' ∧ w'.ownsRow w.heap.size 41 2 v' (2 * n) (ucells (usesL n)) ∧ Below w.heap.size w w' := by
  obtain ⟨i0, hi0, hz0, hz1, hz2⟩ := info_parts info41n
  go_enter Try.func31, Try.ntmps31
  go_wp2_with fail
  go_loopw [3, 7] (fun v3 v7 wr => ∃ (i : Nat) (vo : Value), i ≤ n ∧ v7 = .int .i64 i ∧ vo = v3 ∧ Aside0 (wr.ownsRow w.heap.size 41 2 vo (2 * i) (ucells (usesL i)) ∧ Below w.heap.size w wr)) (fun _ v7 _ => n - (intOf v7).toNat)
  case atStart => exact ⟨0, _, by omega, by simp, rfl, ⟨own_nil _ _ _ _, Below.refl _ _⟩⟩
  case round =>
    obtain ⟨i, vo, hi, rfl, rfl, HI⟩ := hrel
    by_cases hlt : i < n
    · have hd1 : (i : Int) < (n : Int) := by omega
      have hwi := wrp ((i : Int) + 1) (by omega) (by omega)
      have hsz := HI.out.2.size
      have hownA : (wr.alloc (.cells #[.int .i64 i, .bool true, .int .i64 i, .bool false] 41)).ownsRow w.heap.size 41 2 vo (2 * i) (ucells (usesL i)) := own_move HI.out.1 (fun k hk => Below.heap_alloc _ _ k (own_lt HI.out.1 k hk))
      go_wp2_with (at_builtin; refine wpList_append_own _ rfl _ _ 34 rfl w.heap.size 41 i0 (.agg #[.int .i64 0, .bool false]) 2 16 Try.underlying34 hi0 hz0 hz1 hz2 rfl (by decide) _ _ _ rfl hownA ⟨wr.heap.size, 0, none⟩ 2 2 [.int .i64 i, .bool true, .int .i64 i, .bool false] rfl ?qc1 ?qc2 ?qc3 ?qc4 ?qc5 ?qc6 ?_)
      try (case qc1 => rfl)
      try (case qc2 => exact World.news_of_block (cs := #[.int .i64 i, .bool true, .int .i64 i, .bool false]) (t := 41) (fr := (0, 0)) (al_new _ _ _ rfl))
      try (case qc3 => simp [Value.oneCell'])
      try (case qc4 => unfold maxLen; omega)
      try (case qc5 => omega)
      try (case qc6 => first | omega | (simp; omega))
      intro v2 wz hown2 hg2 hnil2
      have HN : Aside0 (wz.ownsRow w.heap.size 41 2 v2 (2 * (i + 1)) (ucells (usesL (i + 1))) ∧ Below w.heap.size w wz) := ⟨by
        rw [usesL_succ, ucells_append]; exact hown2, (HI.out.2.alloc hsz _).grown hg2 (by simp; omega) (fun k e => own_base HI.out.1 k e)⟩
      clear hown2 hg2 hnil2 hownA HI
      go_wp2
      go_roundw
      case rel => exact ⟨i + 1, _, by omega, by go_num, rfl, HN⟩
      case measure => simp [intOf]; omega
    · obtain rfl : i = n := by omega
      have hd1 : ¬ (i : Int) < (i : Int) := by omega
      go_wp2
      go_ret
      exact ⟨_, rfl, HI.out.1, HI.out.2⟩
end Go.Proofs.Ytjgnadighdbjlaa.C
