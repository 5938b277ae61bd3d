/- What Narrow and Contradict answer, for any net. -/
import Derived.OwnWalk
import Derived.Deep.RegionHeld3
import Derived.Test.YtjgnadighdbjlaaEd
namespace Go.Proofs.Ytjgnadighdbjlaa.C
open Go.RowKit Go.Shelf Go.Maps Go.Proofs.YtjgnadighdbjlaaW.PrintWords Go.Proofs.YtjgnadighdbjlaaW.PrintLast Go.Proofs.YtjgnadighdbjlaaW.PrintMore
set_option linter.unusedVariables false
set_option linter.unusedSimpArgs false
open Classical in
/-- Narrow's error. -/
noncomputable def matE (n : Int) (l : List Bd) : Int := if checkedF n l ≠ 0 then checkedF n l else if okFw n.toNat (mat1 l n.toNat (2 * l.length)) then 0 else 12
open Classical in
/-- Narrow's matrix. -/
noncomputable def matL (n : Int) (l : List Bd) : List (List Int) := if matE n l = 0 then (List.range n.toNat).map fun a => (List.range n.toNat).map (fwIt (mat1 l n.toNat (2 * l.length)) n.toNat a) else []
/-- Contradict's error. -/
noncomputable def conE (n : Int) (l : List Bd) : Int := if matE n l = 0 then 4 else if matE n l = 12 then 0 else matE n l
theorem checkedF_cases (n : Int) (l : List Bd) : checkedF n l = 1 ∨ checkedF n l = 2 ∨ checkedF n l = 6 ∨ checkedF n l = 0 := by
  unfold checkedF; repeat' split
  all_goals omega
theorem matE_range (n : Int) (l : List Bd) : 0 ≤ matE n l ∧ matE n l ≤ 12 := by
  have := checkedF_cases n l
  unfold matE; split
  · omega
  · split <;> omega
theorem matE_zero {n : Int} {l : List Bd} (h : matE n l = 0) : checkedF n l = 0 ∧ okFw n.toNat (mat1 l n.toNat (2 * l.length)) := by
  unfold matE at h
  split at h
  · contradiction
  · rename_i h1
    split at h
    · rename_i h2; exact ⟨by simpa using h1, h2⟩
    · omega
theorem matE_12 {n : Int} {l : List Bd} (h : matE n l = 12) : checkedF n l = 0 ∧ ¬ okFw n.toNat (mat1 l n.toNat (2 * l.length)) := by
  have hc := checkedF_cases n l
  unfold matE at h
  split at h
  · omega
  · rename_i h1
    split at h
    · omega
    · rename_i h2; exact ⟨by simpa using h1, h2⟩
theorem matL_len (n : Int) (l : List Bd) : (matL n l).length ≤ 1000 ∧ ∀ r ∈ matL n l, r.length ≤ 1000 := by
  unfold matL
  split
  · rename_i h
    obtain ⟨N, rfl, hn⟩ := netOk_of (matE_zero h).1
    have := hn.n2
    refine ⟨by simp; omega, fun r hr => ?_⟩
    obtain ⟨a, _, rfl⟩ := List.mem_map.1 hr
    simp; omega
  · exact ⟨by simp, fun r hr => by cases hr⟩
theorem LLm.nil (W : World) (A : Option Addr) : LLm W A [] := ⟨fun i l h => by simp at h⟩
theorem Mr.ll {W : World} {base n : Nat} {v : Value} {vs : List Value} {D : Nat → Nat → Int} (h : Mr W base v n vs D) (hl : vs.length = n) (h1 : 1 ≤ n) : ∃ A' c', v = .slice A' n c' ∧ LLm W A' ((List.range n).map fun a => (List.range n).map (D a)) := by
  have ho := h.own
  rcases ho.2 with ⟨rfl, h0⟩ | ⟨g, cap, cur, rfl, _⟩
  · omega
  refine ⟨some ⟨g, 0, none⟩, cap, by rw [hl], ⟨fun i l hi => ?_⟩⟩
  have hin : i < n := by have := (List.getElem?_eq_some_iff.1 hi).1; simpa using this
  have e : l = (List.range n).map (D i) := by
    have := hi; simp [hin] at this; exact this.symm
  subst e
  have hi' : i < vs.length := by omega
  have hv := List.getElem?_eq_getElem hi'
  obtain ⟨⟨g2, cap2, hu⟩, hrow⟩ := h.row i _ hv
  have hc := ho.cells (g := g) rfl i _ hv
  have hrow' : W.ownsRow base 3 1 vs[i] ((List.range n).map (D i)).length (((List.range n).map (D i)).map fun x => .int .i64 x) := by
    have : (((List.range n).map (D i)).map fun x => Value.int .i64 x) = rowV n (D i) := by simp [rowV, List.map_map]
    rw [this]; simpa using hrow
  obtain ⟨A2, c2, e2, hC⟩ := own_ints hrow'
  rw [e2] at hc
  exact ⟨⟨g, 0, none⟩, A2, c2, rfl, hc, hC⟩
theorem narrow_all (n : Int) (A : Option Addr) (c : Nat) (l : List Bd) (w : World) (hr : Kd.C kb w A l.length l) :
    Calls Try.prog 11 #[.int .i64 n, .slice A l.length c] w fun e w' => ∃ (A' : Option Addr) (c' : Nat), e = .returned (.tuple #[.slice A' (matL n l).length c', .int .i64 (matE n l)]) ∧ LLm w' A' (matL n l) ∧ Below w.heap.size w w' := by
  by_cases hck : checkedF n l = 0
  · obtain ⟨N, rfl, hn⟩ := netOk_of hck
    have hB := mat1_base hn
    have hn2 := hn.n2
    have t := narrow_main N A c l w hr hck hn.n1 hn.n2 hn.len hn.sp (2 * l.length) rfl _ rfl hn.cl (fun i a b _ _ => mat1_bound hn.sp N i a b) (fun a ha => by have := hB.diag a ha; omega) (fun k hk hj => fw_bound hB k hk hj)
    refine Calls.mono t ?_
    rintro e w' ⟨v, E, rfl, h1, h2, hBl⟩
    by_cases hok : okFw N (mat1 l N (2 * l.length))
    · have hE : matE N l = 0 := by unfold matE; rw [if_neg (by rw [hck]; simp), Int.toNat_natCast, if_pos hok]
      have hL : matL N l = (List.range N).map fun a => (List.range N).map (fwIt (mat1 l N (2 * l.length)) N a) := by unfold matL; rw [if_pos hE, Int.toNat_natCast]
      rw [hE, hL]
      obtain ⟨rfl, base, rs, _, hrs, hM⟩ := h1 hok
      obtain ⟨g, cap, rfl⟩ := hM.sl hrs hn.n1
      exact ⟨some ⟨g, 0, none⟩, cap, by simp, hM.ll hrs (by omega), hBl⟩
    · obtain ⟨rfl, rfl⟩ := h2 hok
      have hE : matE N l = 12 := by unfold matE; rw [if_neg (by rw [hck]; simp), Int.toNat_natCast, if_neg hok]
      have hL : matL N l = [] := by unfold matL; rw [if_neg (by rw [hE]; omega)]
      rw [hE, hL]
      exact ⟨none, 0, rfl, LLm.nil _ _, hBl⟩
  · refine Calls.mono (narrow_fail n A c l w hr hck) ?_
    rintro e w' ⟨rfl, hBl⟩
    have hE : matE n l = checkedF n l := by unfold matE; rw [if_pos hck]
    have hL : matL n l = [] := by unfold matL; rw [if_neg (by rw [hE]; exact hck)]
    rw [hE, hL]
    exact ⟨none, 0, rfl, LLm.nil _ _, hBl⟩
theorem rnarrow_all (n : Int) (A : Option Addr) (c : Nat) (l : List Bd) (w : World) (hr : Kd.C kb w A l.length l) :
    Calls Try.prog 12 #[.int .i64 n, .slice A l.length c] w fun e w' => ∃ (A' : Option Addr) (c' : Nat), e = .returned (.tuple #[.slice A' (matL n l).length c', .int .i64 (matE n l)]) ∧ LLm w' A' (matL n l) ∧ Below w.heap.size w w' := by
  by_cases hck : checkedF n l = 0
  · obtain ⟨N, rfl, hn⟩ := netOk_of hck
    have hB := mat1_base hn
    have hn2 := hn.n2
    have t := rnarrow_main N A c l w hr hck hn.n1 hn.n2 hn.len hn.sp hn.cl hn.ne (fun a i b _ hi _ => bf_bound hn i b (by omega)) (fun a => bfRow l a N) (fun a => rfl)
    refine Calls.mono t ?_
    rintro e w' ⟨v, E, rfl, h1, h2, hBl⟩
    by_cases hok : okFw N (mat1 l N (2 * l.length))
    · have hE : matE N l = 0 := by unfold matE; rw [if_neg (by rw [hck]; simp), Int.toNat_natCast, if_pos hok]
      have hL : matL N l = (List.range N).map fun a => (List.range N).map (fwIt (mat1 l N (2 * l.length)) N a) := by unfold matL; rw [if_pos hE, Int.toNat_natCast]
      rw [hE, hL]
      obtain ⟨rfl, vs, hvs, hM⟩ := h1 ((okBf_iff hn).2 hok)
      obtain ⟨A', c', rfl, hL⟩ := hM.ll hvs hn.n1
      have e : ((List.range N).map fun a => (List.range N).map (fwIt (mat1 l N (2 * l.length)) N a)) = ((List.range N).map fun a => (List.range N).map (bfRow l a N)) := List.map_congr_left fun a ha => List.map_congr_left fun b hb => fw_bf hn hok (by simpa using ha) (by simpa using hb)
      rw [e]
      exact ⟨A', c', by simp, hL, hBl⟩
    · obtain ⟨rfl, rfl⟩ := h2 (fun h => hok ((okBf_iff hn).1 h))
      have hE : matE N l = 12 := by unfold matE; rw [if_neg (by rw [hck]; simp), Int.toNat_natCast, if_neg hok]
      have hL : matL N l = [] := by unfold matL; rw [if_neg (by rw [hE]; omega)]
      rw [hE, hL]
      exact ⟨none, 0, rfl, LLm.nil _ _, hBl⟩
  · refine Calls.mono (rnarrow_fail n A c l w hr hck) ?_
    rintro e w' ⟨rfl, hBl⟩
    have hE : matE n l = checkedF n l := by unfold matE; rw [if_pos hck]
    have hL : matL n l = [] := by unfold matL; rw [if_neg (by rw [hE]; exact hck)]
    rw [hE, hL]
    exact ⟨none, 0, rfl, LLm.nil _ _, hBl⟩
theorem contradict_all (n : Int) (A : Option Addr) (c : Nat) (l : List Bd) (w : World) (hr : Kd.C kb w A l.length l) :
    Calls Try.prog 17 #[.int .i64 n, .slice A l.length c] w fun e w' => ∃ (A' : Option Addr) (c' : Nat) (u : List Us), e = .returned (.tuple #[.slice A' u.length c', .int .i64 (conE n l)]) ∧ Kd.C ku w' A' u.length u ∧ (conE n l = 0 → refuteF n l u = 0) ∧ (conE n l ≠ 0 → u = []) ∧ (u.length : Int) ≤ max n 0 ∧ Below w.heap.size w w' := by
  by_cases hck : checkedF n l = 0
  · obtain ⟨N, rfl, hn⟩ := netOk_of hck
    have t := contradict_main N A c l w hr hck hn.n1 hn.n2 hn.len hn.sp (2 * l.length) rfl hn.cl hn.ne (fun q h => (ct_cyc hn h).1)
    refine Calls.mono t ?_
    rintro e w' ⟨h1, h2, hBl⟩
    by_cases hok : okFw N (mat1 l N (2 * l.length))
    · have hE : matE N l = 0 := by unfold matE; rw [if_neg (by rw [hck]; simp), Int.toNat_natCast, if_pos hok]
      have hC : conE N l = 4 := by unfold conE; rw [if_pos hE]
      rw [hC, h1 ((ct_iff hn).2 hok)]
      exact ⟨none, 0, [], rfl, Kd.C_nil _ _, by omega, fun _ => rfl, by simp <;> omega, hBl⟩
    · have hE : matE N l = 12 := by unfold matE; rw [if_neg (by rw [hck]; simp), Int.toNat_natCast, if_neg hok]
      have hC : conE N l = 0 := by unfold conE; rw [if_neg (by omega), if_pos hE]
      have hL : ∃ q : Nat, (ctRun l N).L = q := by
        obtain ⟨T, hI⟩ := CInv.run hn (N - 1)
        have hn1 := hn.n1
        rw [show N - 1 + 1 = N by omega] at hI
        rcases hI.i4 with h | ⟨q, h, _, _⟩
        · exact absurd ((ct_iff hn).1 h) hok
        · exact ⟨q, h⟩
      obtain ⟨q, hq⟩ := hL
      obtain ⟨k, v, base, hk1, hk2, hb, _, rfl, hown⟩ := h2 q hq
      have hz := ct_ref hn hck hq hk1 hk2 hb
      have hl : (wayL l (ctRun l N) (backN l (ctRun l N) q N) k).reverse.length = k := by rw [List.length_reverse, wayL_len]
      obtain ⟨A', c', rfl, hC2⟩ := own_uses (l := (wayL l (ctRun l N) (backN l (ctRun l N) q N) k).reverse) (by rw [hl]; exact hown)
      rw [hC]
      refine ⟨A', c', _, rfl, hC2, fun _ => hz, by simp, ?_, hBl⟩
      rw [hl]; omega
  · refine Calls.mono (contradict_fail n A c l w hr hck) ?_
    rintro e w' ⟨rfl, hBl⟩
    have hE : matE n l = checkedF n l := by unfold matE; rw [if_pos hck]
    have hcs := checkedF_cases n l
    have hC : conE n l = checkedF n l := by unfold conE; rw [if_neg (by omega), if_neg (by omega), hE]
    rw [hC]
    exact ⟨none, 0, [], rfl, Kd.C_nil _ _, fun h => absurd h hck, fun _ => rfl, by simp <;> omega, hBl⟩
end Go.Proofs.Ytjgnadighdbjlaa.C
