/- A matrix in memory; the contract of filled, by hand. -/
import Derived.OwnWalk
import Derived.Laws.AppendOwn
import Derived.Deep.RegionHeld3
import Derived.Test.YtjgnadighdbjlaaCu
namespace Go.Proofs.Ytjgnadighdbjlaa.C
open Go.RowKit Go.Shelf Go.Maps Go.Proofs.YtjgnadighdbjlaaW.PrintWords Go.Proofs.YtjgnadighdbjlaaW.PrintLast Go.Proofs.YtjgnadighdbjlaaW.PrintMore
set_option linter.unusedVariables false
set_option linter.unusedSimpArgs false
/-- A row of a matrix. -/
def rowV (n : Nat) (f : Nat → Int) : List Value := (List.range n).map fun b => Value.int .i64 (f b)
theorem rowV_len (n : Nat) (f : Nat → Int) : (rowV n f).length = n := by simp [rowV]
theorem rowV_get {n : Nat} {f : Nat → Int} {b : Nat} (h : b < n) : (rowV n f)[b]? = some (.int .i64 (f b)) := by simp [rowV, h]
theorem rowV_set {n : Nat} {f g : Nat → Int} {b : Nat} {x : Int} (hb : b < n) (h : ∀ c, c < n → g c = if c = b then x else f c) : (rowV n f).toArray.setIfInBounds b (.int .i64 x) = (rowV n g).toArray := by
  apply Array.ext'
  rw [Array.toList_setIfInBounds, List.toList_toArray, List.toList_toArray]
  apply List.ext_getElem?
  intro c
  rw [List.getElem?_set, rowV_len]
  by_cases hc : c < n
  · rw [rowV_get hc, rowV_get hc, h c hc]
    by_cases e : b = c
    · subst e; rw [if_pos rfl, if_pos hb, if_pos rfl]
    · rw [if_neg e, if_neg (fun e' => e e'.symm)]
  · rw [List.getElem?_eq_none (by rw [rowV_len]; omega), List.getElem?_eq_none (by rw [rowV_len]; omega), if_neg (by omega)]
theorem rowV_const (n : Nat) (x : Int) : rowV n (fun _ => x) = List.replicate n (Value.int .i64 x) := by
  unfold rowV
  rw [List.map_const', List.length_range]
/-- The references to the rows. -/
def refV (n : Nat) (rs : List Nat) : List Value := rs.map fun r => Value.slice (some ⟨r, 0, none⟩) n n
/-- A matrix in memory: as many rows as rs has, of n numbers each. -/
structure Mx (W : World) (base : Nat) (v : Value) (n : Nat) (rs : List Nat) (D : Nat → Nat → Int) : Prop where
  own : W.ownsRow base 59 1 v rs.length (refV n rs)
  row : ∀ (a r : Nat), rs[a]? = some r → W.heap[r]? = some (.cells (rowV n (D a)).toArray 3 (0, 0))
  nd : rs.Nodup
  ge : ∀ r ∈ rs, base ≤ r
theorem Mx.below {W X : World} {base : Nat} {v : Value} {n : Nat} {rs : List Nat} {D : Nat → Nat → Int} (h : Mx W base v n rs D) (hB : Below W.heap.size W X) : Mx X base v n rs D :=
  ⟨own_keep h.own hB, fun a r hr => blk_on hB (h.row a r hr), h.nd, h.ge⟩
theorem Mx.nil (W : World) (base n : Nat) (D : Nat → Nat → Int) : Mx W base (.slice none 0 0) n [] D := ⟨own_nil _ _ _ _, fun a r h => by simp at h, List.nodup_nil, fun r h => by cases h⟩
theorem Mx.append {W X Y : World} {ob : Obj} {base : Nat} {vo v2 : Value} {n g : Nat} {rs : List Nat} {D : Nat → Nat → Int} (h : Mx W base vo n rs D) (hB : Below W.heap.size W X) (hg : W.heap.size ≤ g) (hbase : base ≤ W.heap.size)
    (hrow : X.heap[g]? = some (.cells (rowV n (D rs.length)).toArray 3 (0, 0))) (hown : Y.ownsRow base 59 1 v2 (rs.length + 1) (refV n rs ++ [.slice (some ⟨g, 0, none⟩) n n])) (hgr : (X.alloc ob).grownBy Y vo.ownBlock) : Mx Y base v2 n (rs ++ [g]) D := by
  have hX := h.below hB
  have hlt := (Array.getElem?_eq_some_iff.1 hrow).1
  have hty := own_typed hX.own
  have keep : ∀ (r : Nat) (cs : Array Value), X.heap[r]? = some (.cells cs 3 (0, 0)) → Y.heap[r]? = some (.cells cs 3 (0, 0)) := fun r cs hr =>
    (hgr.block r (by have := (Array.getElem?_eq_some_iff.1 hr).1; simp; omega) (fun e => by
      obtain ⟨cells, hc⟩ := hty r e.symm
      rw [hc] at hr; cases hr)).trans (al_old hr)
  refine ⟨?_, fun a r hr => ?_, ?_, fun r hr => ?_⟩
  · have e : refV n (rs ++ [g]) = refV n rs ++ [.slice (some ⟨g, 0, none⟩) n n] := by simp [refV]
    rw [e, List.length_append]; exact hown
  · rw [List.getElem?_append] at hr
    split at hr
    · exact keep _ _ (hX.row a r hr)
    · rename_i hna
      have e : a = rs.length := by
        have := (List.getElem?_eq_some_iff.1 hr).1
        simp at this; omega
      subst e
      simp at hr
      subst hr
      exact keep _ _ hrow
  · rw [List.nodup_append]
    refine ⟨h.nd, by simp, fun a ha b hb e => ?_⟩
    simp at hb
    subst hb e
    obtain ⟨j, hj⟩ := List.getElem?_of_mem ha
    have := (Array.getElem?_eq_some_iff.1 (h.row j a hj)).1
    omega
  · rcases List.mem_append.1 hr with hr | hr
    · exact h.ge r hr
    · simp at hr; subst hr; omega
theorem info59n : (Try.prog.info? 59).map (fun i => (i.zero, i.size, i.bytes)) = some (some (.slice none 0 0), 1, 24) := by kernel_rfl
set_option maxHeartbeats 4000000 in
set_option maxRecDepth 100000 in
theorem filled_calls (n : Nat) (x : Int) (w : World) (h1 : 1 ≤ n) (h2 : n ≤ 16) :
    Calls Try.prog 30 #[.int .i64 n, .int .i64 x] w fun e w' => ∃ v rs, e = .returned v ∧ rs.length = n ∧ Mx w' w.heap.size v n rs (fun _ _ => x) ∧ Below w.heap.size w w' := by
  obtain ⟨i0, hi0, hz0, hz1, hz2⟩ := info_parts info59n
  have c1 := fun b w hb => repeat_calls n x b w h1 h2 hb
  go_enter Try.func30, Try.ntmps30
  go_wp2_with fail
  go_loopw [5, 7] (fun v5 v7 wr => ∃ (i : Nat) (vo : Value) (rs : List Nat), i ≤ n ∧ v7 = .int .i64 i ∧ vo = v5 ∧ rs.length = i ∧ Aside0 (Mx wr w.heap.size vo n rs (fun _ _ => x)) ∧ Aside0 (Below w.heap.size w wr)) (fun _ v7 _ => n - (intOf v7).toNat)
  case atStart => exact ⟨0, _, [], by omega, by simp, rfl, rfl, ⟨Mx.nil _ _ _ _⟩, ⟨Below.refl _ _⟩⟩
  case round =>
    obtain ⟨i, vo, rs, hi, rfl, rfl, hrs, HM, HB⟩ := hrel
    by_cases hlt : i < n
    · have hd1 : (i : Int) < (n : Int) := by omega
      have hwi := wrp ((i : Int) + 1) (by omega) (by omega)
      have hsz := HB.out.size
      have HRS := Aside0.mk hrs
      clear hrs
      go_wp2_with fail
      have c2 := c1 wr.heap.size (wr.alloc (.cells #[.int .i64 x] 3)) (blk_cell (al_new _ _ _ rfl) 0)
      refine c2.mono ?_
      rintro en w2 ⟨g, rfl, hge, hgr, hB2⟩
      have hBB : Below wr.heap.size wr w2 := ((Below.refl _ _).alloc (Nat.le_refl _) _).trans (hB2.mono (by simp))
      have hgw : wr.heap.size ≤ g := by simp at hge; omega
      have hs2 := hBB.size
      have hownA : (w2.alloc (.cells #[.slice (some ⟨g, 0, none⟩) n n] 59)).ownsRow w.heap.size 59 1 vo i (refV n rs) := by
        have := (HM.out.below hBB).own
        rw [HRS.out] at this
        exact own_move this (fun k hk => Below.heap_alloc _ _ k (own_lt this k hk))
      have HG := Aside0.mk (And.intro hgr (And.intro hBB hgw))
      clear hge hgr hBB c2 hB2
      go_wp2_with (at_builtin; refine wpList_append_own _ rfl _ _ 76 rfl w.heap.size 59 i0 (.slice none 0 0) 1 24 Try.underlying76 hi0 hz0 hz1 hz2 rfl (by decide) _ _ _ rfl hownA ⟨w2.heap.size, 0, none⟩ 1 1 [.slice (some ⟨g, 0, none⟩) n n] rfl ?qc1 ?qc2 ?qc3 ?qc4 ?qc5 ?qc6 ?_)
      try (case qc1 => rfl)
      try (case qc2 => exact World.news_of_block (cs := #[.slice (some ⟨g, 0, none⟩) n n]) (t := 59) (fr := (0, 0)) (al_new _ _ _ rfl))
      try (case qc3 => first | rfl | simp [Value.oneCell'])
      try (case qc4 => unfold maxLen; omega)
      try (case qc5 => omega)
      try (case qc6 => first | omega | (simp; omega))
      intro v2 wz hown2 hg2 hnil2
      have HN : Aside0 (Mx wz w.heap.size v2 n (rs ++ [g]) (fun _ _ => x)) := ⟨Mx.append HM.out HG.out.2.1 HG.out.2.2 hsz (by rw [rowV_const]; exact HG.out.1) (by rw [HRS.out]; exact hown2) hg2⟩
      have HB2 : Aside0 (Below w.heap.size w wz) := ⟨((HB.out.trans (HG.out.2.1.mono hsz)).alloc (by omega) _).grown hg2 (by simp; omega) (fun k e => own_base HM.out.own k e)⟩
      have hrs2 : (rs ++ [g]).length = i + 1 := by rw [List.length_append, HRS.out]; rfl
      have HR2 := Aside0.mk hrs2
      clear hown2 hg2 hnil2 hownA HM HB HG HRS hrs2
      go_wp2
      go_roundw
      case rel => exact ⟨i + 1, _, rs ++ [g], by omega, by go_num, rfl, HR2.out, HN, HB2⟩
      case measure => simp [intOf]; omega
    · obtain rfl : i = n := by omega
      have hd1 : ¬ (i : Int) < (i : Int) := by omega
      go_wp2
      go_ret
      exact ⟨_, rfl, rs, hrs, HM.out, HB.out⟩
end Go.Proofs.Ytjgnadighdbjlaa.C
