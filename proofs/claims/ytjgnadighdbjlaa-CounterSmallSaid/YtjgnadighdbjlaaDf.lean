/- awake, by hand. -/
import Derived.OwnWalk
import Derived.Deep.CutRange
import Derived.LoopN
import Derived.Test.YtjgnadighdbjlaaWEqStruct
import Derived.Deep.RegionHeld3
import Derived.Test.YtjgnadighdbjlaaDe
namespace Go.Proofs.Ytjgnadighdbjlaa.C
open Go.RowKit Go.Shelf Go.Maps Go.Proofs.YtjgnadighdbjlaaW.PrintWords Go.Proofs.YtjgnadighdbjlaaW.PrintLast Go.Proofs.YtjgnadighdbjlaaW.PrintMore
set_option linter.unusedVariables false
set_option linter.unusedSimpArgs false
theorem eqA43 (d : Nat) (w : World) (x0 y0 x1 y1 : Int) :
    (Op.equalIn (d + 2) 43 (.agg #[.int .i64 x0, .int .i64 x1]) (.agg #[.int .i64 y0, .int .i64 y1])).run Try.prog w = .ok (x0 == y0 && (x1 == y1)) w := by
  refine eqA_of Try.underlying43 (by kernel_rfl) ?_
  refine eqf_cons (by rfl) (by go_simp; rfl) (by go_simp; rfl) (by go_simp) ?_
  exact eqf_last (by rfl) (by go_simp; rfl) (by go_simp; rfl) (by go_simp)
attribute [local go_sem high] eqA43
theorem row_own {W : World} {g e size : Nat} {xs : List Value} {n : Nat} (h : W.heap[g]? = some (.cells xs.toArray e (0, 0))) (hl : xs.length = n * size) (hn : n ≤ maxLen) : W.ownsRow 0 e size (.slice (some ⟨g, 0, none⟩) n n) n xs :=
  ⟨hl, .inr ⟨g, n, xs.toArray, rfl, Nat.zero_le _, h, Nat.le_refl _, hn, by simpa using hl, by rw [List.toList_toArray, ← hl, List.take_length]⟩⟩
theorem ints_C {W : World} {g : Nat} {xs : List Int} (h : W.heap[g]? = some (.cells (icells xs).toArray 3 (0, 0))) (hn : xs.length ≤ 1000) : Kd.C (Kd.int .i64) W (some ⟨g, 0, none⟩) xs.length xs := by
  obtain ⟨A, c, e, hC⟩ := own_ints (row_own (size := 1) (n := xs.length) h (by simp) (by unfold maxLen; omega))
  cases e
  exact hC
theorem uses_C {W : World} {g : Nat} {xs : List Us} (h : W.heap[g]? = some (.cells (ucells xs).toArray 41 (0, 0))) (hn : xs.length ≤ 1000) : Kd.C ku W (some ⟨g, 0, none⟩) xs.length xs := by
  obtain ⟨A, c, e, hC⟩ := own_uses (row_own (size := 2) (n := xs.length) h (ucells_len xs) (by unfold maxLen; omega))
  cases e
  exact hC
/-- The cells of a row of bounds. -/
def bcells : List Bd → List Value
  | [] => []
  | x :: l => .int .i64 x.1 :: .int .i64 x.2.1 :: .int .i64 x.2.2.1 :: .int .i64 x.2.2.2 :: bcells l
theorem bcells_append : ∀ (l m : List Bd), bcells (l ++ m) = bcells l ++ bcells m
  | [], m => rfl
  | x :: l, m => by simp [bcells, bcells_append l m]
theorem bcells_len : ∀ (l : List Bd), (bcells l).length = l.length * 4
  | [] => rfl
  | x :: l => by simp [bcells, bcells_len l]; omega
theorem bcells_at : ∀ (l : List Bd) (j : Nat) (x : Bd), l[j]? = some x → ((bcells l).drop (j * 4)).take 4 = [.int .i64 x.1, .int .i64 x.2.1, .int .i64 x.2.2.1, .int .i64 x.2.2.2]
  | [], j, x, h => by simp at h
  | y :: l, 0, x, h => by simp at h; subst h; simp [bcells]
  | y :: l, j + 1, x, h => by
    have := bcells_at l j x (by simpa using h)
    rw [show (j + 1) * 4 = j * 4 + 4 by omega, bcells]
    simpa using this
theorem own_bounds {e : TypeId} {w : World} {base : Nat} {v : Value} {l : List Bd} (h : w.ownsRow base e 4 v l.length (bcells l)) : ∃ A c, v = .slice A l.length c ∧ Kd.C kb w A l.length l := by
  have hR : Kd.R kb e w base (fun _ => True) v l := ⟨fun _ _ => trivial, _, h, bcells_len l, fun j x hx => by
    rw [show kb.sz = 4 from rfl, bcells_at l j x hx]
    exact ⟨[.int .i64 x.1], [.int .i64 x.2.1, .int .i64 x.2.2.1, .int .i64 x.2.2.2], rfl, rfl, [.int .i64 x.2.1], [.int .i64 x.2.2.1, .int .i64 x.2.2.2], rfl, rfl, [.int .i64 x.2.2.1], [.int .i64 x.2.2.2], rfl, rfl, rfl⟩⟩
  obtain ⟨A, c, e, _, hC⟩ := Kd.R_reads hR
  exact ⟨A, c, e, hC⟩
theorem bounds_C {W : World} {g : Nat} {xs : List Bd} (h : W.heap[g]? = some (.cells (bcells xs).toArray 46 (0, 0))) (hn : xs.length ≤ 1000) : Kd.C kb W (some ⟨g, 0, none⟩) xs.length xs := by
  obtain ⟨A, c, e, hC⟩ := own_bounds (row_own (size := 4) (n := xs.length) h (bcells_len xs) (by unfold maxLen; omega))
  cases e
  exact hC
theorem Mx.ll {W : World} {base g cap n : Nat} {rs : List Nat} {D : Nat → Nat → Int} (h : Mx W base (.slice (some ⟨g, 0, none⟩) n cap) n rs D) (hl : rs.length = n) (hn : n ≤ 1000) : LLm W (some ⟨g, 0, none⟩) ((List.range n).map fun a => (List.range n).map (D a)) := by
  refine ⟨fun i l hi => ?_⟩
  have hin : i < n := by have := (List.getElem?_eq_some_iff.1 hi).1; simpa using this
  obtain ⟨r, hr, hc, _⟩ := h.at hl hin
  have hrow := h.row i r hr
  have e : l = (List.range n).map (D i) := by
    have := hi; simp [hin] at this; exact this.symm
  subst e
  refine ⟨⟨g, 0, none⟩, some ⟨r, 0, none⟩, n, rfl, ?_, ints_C (g := r) (xs := (List.range n).map (D i)) ?_ (by simpa using hn)⟩
  · rw [show (⟨g, 0, none⟩ : Addr).add i = ⟨g, i, none⟩ by unfold Addr.add; split <;> simp_all, hc]
    simp
  · rw [hrow]; simp [rowV, icells, List.map_map]
theorem Mx.sl {W : World} {base : Nat} {v : Value} {n : Nat} {rs : List Nat} {D : Nat → Nat → Int} (h : Mx W base v n rs D) (hl : rs.length = n) (hn : 1 ≤ n) : ∃ g cap, v = .slice (some ⟨g, 0, none⟩) n cap := by
  rcases h.own.2 with ⟨rfl, h0⟩ | ⟨g, cap, cur, rfl, _⟩
  · omega
  · exact ⟨g, cap, by rw [hl]⟩
theorem LL3 {W : World} {g g1 g2 g3 c1 c2 c3 : Nat} {l1 l2 l3 : List Int} (h : W.heap[g]? = some (.cells #[.slice (some ⟨g1, 0, none⟩) l1.length c1, .slice (some ⟨g2, 0, none⟩) l2.length c2, .slice (some ⟨g3, 0, none⟩) l3.length c3] 59 (0, 0)))
    (h1 : Kd.C (Kd.int .i64) W (some ⟨g1, 0, none⟩) l1.length l1) (h2 : Kd.C (Kd.int .i64) W (some ⟨g2, 0, none⟩) l2.length l2) (h3 : Kd.C (Kd.int .i64) W (some ⟨g3, 0, none⟩) l3.length l3) : LLm W (some ⟨g, 0, none⟩) [l1, l2, l3] := by
  refine ⟨fun i l hi => ?_⟩
  have e : (⟨g, 0, none⟩ : Addr).add i = ⟨g, i, none⟩ := by unfold Addr.add; split <;> simp_all
  rcases i with _ | _ | _ | i
  · simp at hi; subst hi
    exact ⟨_, _, _, rfl, by rw [e]; exact blk_cell h 0, h1⟩
  · simp at hi; subst hi
    exact ⟨_, _, _, rfl, by rw [e]; exact blk_cell h 1, h2⟩
  · simp at hi; subst hi
    exact ⟨_, _, _, rfl, by rw [e]; exact blk_cell h 2, h3⟩
  · simp at hi
theorem aw_narrow1 (A : Option Addr) (c : Nat) (W : World) (h : Kd.C kb W A 3 lA) : Calls Try.prog 11 #[.int .i64 3, .slice A 3 c] W fun e w' => ∃ g cap, e = .returned (.tuple #[.slice (some ⟨g, 0, none⟩) 3 cap, .int .i64 0]) ∧ LLm w' (some ⟨g, 0, none⟩) [[0, 3, 6], [-2, 0, 3], [-5, -2, 0]] ∧ Below W.heap.size W w' := by
  have t := narrow_main 3 A c lA W h lA_ok (by omega) (by omega) (by decide) lA_sp 6 rfl (mat1 lA 3 6) rfl lA_cl (fun i a b _ _ => mat1_bound lA_sp 3 i a b) lA_d0 lA_fw
  refine Calls.mono t ?_
  rintro e w' ⟨v, E, rfl, h1, _, hB⟩
  obtain ⟨rfl, base, rs, _, hl, hM⟩ := h1 lA_fin
  obtain ⟨g, cap, rfl⟩ := hM.sl hl (by omega)
  have hL := hM.ll hl (by omega)
  rw [lA_mat] at hL
  exact ⟨g, cap, rfl, hL, hB⟩
theorem aw_narrow2 (A : Option Addr) (c : Nat) (W : World) (h : Kd.C kb W A 3 lB) : Calls Try.prog 11 #[.int .i64 3, .slice A 3 c] W fun e w' => e = .returned (.tuple #[.slice none 0 0, .int .i64 12]) ∧ Below W.heap.size W w' := by
  have t := narrow_main 3 A c lB W h lB_ok (by omega) (by omega) (by decide) lB_sp 6 rfl (mat1 lB 3 6) rfl lB_cl (fun i a b _ _ => mat1_bound lB_sp 3 i a b) lB_d0 lB_fw
  refine Calls.mono t ?_
  rintro e w' ⟨v, E, rfl, _, h1, hB⟩
  obtain ⟨rfl, rfl⟩ := h1 lB_fin
  exact ⟨rfl, hB⟩
theorem aw_contradict (A : Option Addr) (c : Nat) (W : World) (h : Kd.C kb W A 3 lB) : Calls Try.prog 17 #[.int .i64 3, .slice A 3 c] W fun e w' => ∃ (A' : Option Addr) (c' : Nat) (u : List Us), e = .returned (.tuple #[.slice A' 3 c', .int .i64 0]) ∧ (Kd.C ku w' A' 3 u ∧ u.length = 3 ∧ refuteF 3 lB u = 0) ∧ Below W.heap.size W w' := by
  have t := contradict_main 3 A c lB W h lB_ok (by omega) (by omega) (by decide) lB_sp 6 rfl lB_cl lB_ne lB_cyc
  refine Calls.mono t ?_
  rintro e w' ⟨_, h1, hB⟩
  obtain ⟨q, hq3, hq⟩ := lB_L
  obtain ⟨k, v, base, hk1, hk3, hbk, _, rfl, hown⟩ := h1 q hq
  obtain ⟨rfl, hz⟩ := lB_way q hq k hk1 hk3 hbk
  have hl : (wayL lB (ctRun lB 3) (backN lB (ctRun lB 3) q 3) 3).reverse.length = 3 := by rw [List.length_reverse, wayL_len]
  obtain ⟨A', c', rfl, hC⟩ := own_uses (l := (wayL lB (ctRun lB 3) (backN lB (ctRun lB 3) q 3) 3).reverse) (by rw [hl]; exact hown)
  rw [hl] at hC ⊢
  exact ⟨A', c', _, rfl, ⟨hC, hl, hz⟩, hB⟩
theorem aw_refute (A Au : Option Addr) (c cu : Nat) (u : List Us) (W : World) (h : Kd.C kb W A 3 lB) (hu : Kd.C ku W Au 3 u) (hl : u.length = 3) (hz : refuteF 3 lB u = 0) : Calls Try.prog 14 #[.int .i64 3, .slice A 3 c, .slice Au 3 cu] W fun e w' => e = .returned (.int .i64 0) ∧ Below W.heap.size W w' := by
  have t := refute_main 3 A c lB Au cu u W h (by rw [hl]; exact hu) lB_ok (by decide) lB_sp
  rw [hz, hl] at t
  exact t
end Go.Proofs.Ytjgnadighdbjlaa.C
