/- The contract of the reference's Narrow, by hand. -/
import Derived.OwnWalk
import Derived.StillTailTactics
import Derived.Laws.AppendOwn
import Derived.Laws.OwnMore
import Derived.Deep.RegionHeld3
import Derived.Test.YtjgnadighdbjlaaCw
namespace Go.Proofs.Ytjgnadighdbjlaa.C
open Go.RowKit Go.Shelf Go.Maps Go.Proofs.YtjgnadighdbjlaaW.PrintWords Go.Proofs.YtjgnadighdbjlaaW.PrintLast Go.Proofs.YtjgnadighdbjlaaW.PrintMore
set_option linter.unusedVariables false
set_option linter.unusedSimpArgs false
theorem rowL_set {n : Nat} {f g : Nat → Int} {b : Nat} {x : Int} (hb : b < n) (h : ∀ c, c < n → g c = if c = b then x else f c) : (rowV n f).set b (.int .i64 x) = rowV n g := by
  have := rowV_set hb h
  have h2 := congrArg Array.toList this
  simpa using h2
theorem rowL_congr {n : Nat} {f g : Nat → Int} (h : ∀ c, c < n → g c = f c) : rowV n f = rowV n g := List.map_congr_left fun b hb => by rw [h b (by simpa using hb)]
theorem row_cell {W : World} {base g n cap : Nat} {f : Nat → Int} (h : W.ownsRow base 3 1 (.slice (some ⟨g, 0, none⟩) n cap) n (rowV n f)) {b : Nat} (hb : b < n) : W.cell? ⟨g, b, none⟩ = some (.int .i64 (f b)) ∧ W.frozen? ⟨g, b, none⟩ = false := by
  have hg : ∃ cs, W.heap[g]? = some (.cells cs 3 (0, 0)) := by
    obtain ⟨cs, hc⟩ := own_typed h g rfl
    exact ⟨cs, hc⟩
  obtain ⟨cs, hc⟩ := hg
  refine ⟨?_, blk_frozen hc b⟩
  have := h.cells (g := g) rfl b _ (rowV_get hb)
  rwa [show (⟨g, 0, none⟩ : Addr).add b = ⟨g, b, none⟩ by unfold Addr.add; split <;> simp_all] at this
theorem row_put {W : World} {base g n cap : Nat} {f f' : Nat → Int} {b : Nat} {x : Int} (h : W.ownsRow base 3 1 (.slice (some ⟨g, 0, none⟩) n cap) n (rowV n f)) (hb : b < n) (he : ∀ c, c < n → f' c = if c = b then x else f c) :
    (W.setCell ⟨g, b, none⟩ (.int .i64 x)).ownsRow base 3 1 (.slice (some ⟨g, 0, none⟩) n cap) n (rowV n f') := by
  have := (h.stored b (.int .i64 x)).1
  rwa [rowL_set hb he] at this
/-- What the reference's round makes of a row. -/
def bfUse (r : Nat → Int) (f : Nat → Int) (x : Bd) : Nat → Int :=
  let f1 := fun c => if r x.1.toNat < 100000000000000000 ∧ c = x.2.1.toNat then min (f c) (r x.1.toNat + x.2.2.2) else f c
  fun c => if r x.2.1.toNat < 100000000000000000 ∧ c = x.1.toNat then min (f1 c) (r x.2.1.toNat - x.2.2.1) else f1 c
theorem bfUse_at {R f : Nat → Int} {p q : Nat} {lo hi : Int} (hpq : p ≠ q) (c : Nat) : bfUse R f ((p : Int), (q : Int), lo, hi) c = if R q < 100000000000000000 ∧ c = p then min (f p) (R q - lo) else if R p < 100000000000000000 ∧ c = q then min (f q) (R p + hi) else f c := by
  unfold bfUse
  simp only [Int.toNat_natCast]
  by_cases h1 : R q < 100000000000000000 ∧ c = p
  · rw [if_pos h1, if_pos h1, if_neg (fun h => hpq (h1.2.symm.trans h.2)), h1.2]
  · rw [if_neg h1, if_neg h1]
    by_cases h2 : R p < 100000000000000000 ∧ c = q
    · rw [if_pos h2, if_pos h2, h2.2]
    · rw [if_neg h2, if_neg h2]
def bfRow (l : List Bd) (a : Nat) : Nat → Nat → Int
  | 0 => fun b => if b = a then 0 else 100000000000000000
  | i + 1 => l.foldl (bfUse (bfRow l a i)) (bfRow l a i)
/-- Rows that were made one by one. -/
structure Mr (W : World) (base : Nat) (v : Value) (n : Nat) (vs : List Value) (D : Nat → Nat → Int) : Prop where
  own : W.ownsRow base 59 1 v vs.length vs
  row : ∀ (a : Nat) (u : Value), vs[a]? = some u → (∃ g cap, u = .slice (some ⟨g, 0, none⟩) n cap) ∧ W.ownsRow base 3 1 u n (rowV n (D a))
theorem Mr.below {W X : World} {base : Nat} {v : Value} {n : Nat} {vs : List Value} {D : Nat → Nat → Int} (h : Mr W base v n vs D) (hB : Below W.heap.size W X) : Mr X base v n vs D :=
  ⟨own_keep h.own hB, fun a u hu => ⟨(h.row a u hu).1, own_keep (h.row a u hu).2 hB⟩⟩
theorem Mr.append {W X Y : World} {ob : Obj} {base : Nat} {vo v2 : Value} {n g cap b2 : Nat} {vs : List Value} {D : Nat → Nat → Int} (h : Mr W base vo n vs D) (hB : Below W.heap.size W X) (hb2 : base ≤ b2)
    (hrow : X.ownsRow b2 3 1 (.slice (some ⟨g, 0, none⟩) n cap) n (rowV n (D vs.length))) (hown : Y.ownsRow base 59 1 v2 (vs.length + 1) (vs ++ [.slice (some ⟨g, 0, none⟩) n cap])) (hgr : (X.alloc ob).grownBy Y vo.ownBlock) : Mr Y base v2 n (vs ++ [.slice (some ⟨g, 0, none⟩) n cap]) D := by
  have hX := h.below hB
  have hty := own_typed hX.own
  have keep : ∀ (b' : Nat) (u : Value) (xs : List Value), X.ownsRow b' 3 1 u n xs → Y.ownsRow b' 3 1 u n xs := fun b' u xs hu => own_move hu (fun k hk => by
    have hlt := own_lt hu k hk
    refine (hgr.block k (by simp; omega) (fun e => ?_)).trans (Below.heap_alloc _ _ _ hlt)
    obtain ⟨cells, hc⟩ := hty k e.symm
    obtain ⟨cells2, hc2⟩ := own_typed hu k hk
    rw [hc] at hc2; cases hc2)
  refine ⟨by rw [List.length_append]; exact hown, fun a u hu => ?_⟩
  rw [List.getElem?_append] at hu
  split at hu
  · exact ⟨(hX.row a u hu).1, keep _ _ _ (hX.row a u hu).2⟩
  · rename_i hna
    have e : a = vs.length := by
      have := (List.getElem?_eq_some_iff.1 hu).1
      simp at this; omega
    subst e
    simp at hu
    subst hu
    exact ⟨⟨g, cap, rfl⟩, own_weaken (keep _ _ _ hrow) hb2⟩
def okBf (N : Nat) (D : Nat → Nat → Int) : Prop := ∀ a, a < N → 0 ≤ D a a
set_option maxHeartbeats 4000000 in
set_option maxRecDepth 100000 in
theorem rnarrow_main (N : Nat) (A : Option Addr) (c : Nat) (l : List Bd) (w : World) (hr : Kd.C kb w A l.length l) (hck : checkedF N l = 0) (hN1 : 1 ≤ N) (hN2 : N ≤ 16) (hll : l.length ≤ 240) (hsp : SpanOk l)
    (hcl : ∀ x ∈ l, 0 ≤ x.1 ∧ x.1 < N ∧ 0 ≤ x.2.1 ∧ x.2.1 < N) (hne : ∀ x ∈ l, x.1 ≠ x.2.1) (hbd : ∀ a i b, a < N → i < N → b < N → -20000000000000000 ≤ bfRow l a i b ∧ bfRow l a i b ≤ 100000000000000000) (D : Nat → Nat → Int) (hD : ∀ a, bfRow l a N = D a) :
    Calls Try.prog 12 #[.int .i64 N, .slice A l.length c] w fun e w' => ∃ v E, e = .returned (.tuple #[v, .int .i64 E]) ∧ (okBf N D → E = 0 ∧ ∃ vs, vs.length = N ∧ Mr w' w.heap.size v N vs D) ∧ (¬ okBf N D → E = 12 ∧ v = .slice none 0 0) ∧ Below w.heap.size w w' := by
  have hv := Below.refl w.heap.size w
  have HR := Aside0.mk hr
  have HCL := Aside0.mk hcl
  have HSP := Aside0.mk hsp
  have HBD := Aside0.mk hbd
  have HNE := Aside0.mk hne
  have HDD := Aside0.mk hD
  have c1 := fun w hC => rchecked_calls N A c l w hC
  rw [hck] at c1
  have hmk : ∀ W : World, (Instr.makeSlice 59 (.int .i64 N) (.int .i64 N)).run Try.prog W = .ok (.slice (some ⟨W.heap.size, 0, none⟩) N N) (W.alloc (.cells (rowV N (fun _ => 0)).toArray 3)) := by
    intro W
    have := print_make (P := Try.prog) 59 3 .i64 8 Try.underlying59 info3n (by decide) N (by omega) W
    rw [this, show madeCells #[Value.int .i64 0] N = (rowV N (fun _ => 0)).toArray by rw [rowV_const, ← toList_madeCells_one]]
  obtain ⟨i0, hi0, hz0, hz1, hz2⟩ := info_parts info3n
  clear hr hcl hsp hbd hck hD hne
  go_enter Try.func12, Try.ntmps12
  go_wp2_with fail
  refine (c1 _ HR.out).mono ?_
  rintro en w1 ⟨rfl, hB⟩
  have HV0 := Aside0.mk (hv.trans hB)
  clear hB c1 hv
  go_wp2_with fail
  go_loopw [8, 9] (fun v8 v9 wr => ∃ (a : Nat) (vo : Value) (vs : List Value), a ≤ N ∧ v9 = .int .i64 a ∧ vo = v8 ∧ Aside0 (vs.length = a) ∧ Aside0 (Mr wr w.heap.size vo N vs D) ∧ Aside0 (Below w.heap.size w wr) ∧ Aside0 (∀ e, e < a → 0 ≤ D e e)) (fun _ v9 _ => N - (intOf v9).toNat)
  case atStart => exact ⟨0, _, [], by omega, by simp, rfl, ⟨rfl⟩, ⟨⟨own_nil _ _ _ _, fun a u h => by simp at h⟩⟩, HV0, ⟨fun e he => absurd he (by omega)⟩⟩
  case round =>
    clear HV0
    obtain ⟨a, vo, vs, ha, rfl, rfl, HLN, HM, HV, HDG⟩ := hrel
    by_cases hlta : a < N
    · have hd1 : (a : Int) < (N : Int) := by omega
      have hwa := wrp ((a : Int) + 1) (by omega) (by omega)
      have HBA := Aside0.mk (Below.refl wr.heap.size wr)
      rename World => Wa
      have HR0 : Aside0 ((Wa.alloc (.cells (rowV N (fun _ => 0)).toArray 3)).ownsRow Wa.heap.size 3 1 (.slice (some ⟨Wa.heap.size, 0, none⟩) N N) N (rowV N (fun b => if b < 0 ∧ b ≠ a then 100000000000000000 else 0))) := ⟨by
        rw [show (fun (b : Nat) => if b < 0 ∧ b ≠ a then (100000000000000000 : Int) else 0) = fun _ => 0 by funext b; rw [if_neg (by omega)]]
        exact ⟨by simp [rowV_len], .inr ⟨_, _, _, rfl, Nat.le_refl _, al_new _ _ _ rfl, Nat.le_refl _, by unfold maxLen; omega, by simp [rowV_len], by rw [List.toList_toArray, Nat.mul_one, List.take_of_length_le (by rw [rowV_len]; exact Nat.le_refl _)]⟩⟩⟩
      have HB0 : Aside0 (Below Wa.heap.size Wa (Wa.alloc (.cells (rowV N (fun _ => 0)).toArray 3))) := ⟨(Below.refl _ _).alloc (Nat.le_refl _) _⟩
      go_wp2_with fail
      obtain ⟨W1, hW1⟩ : ∃ W1, Wa.alloc (.cells (rowV N (fun _ => 0)).toArray 3) = W1 := ⟨_, rfl⟩
      rw [hW1] at HR0 HB0
      try rw [hW1]
      clear hW1
      go_loopw [11] (fun v11 wr => ∃ b : Nat, b ≤ N ∧ v11 = .int .i64 b ∧ Aside0 (wr.ownsRow Wa.heap.size 3 1 (.slice (some ⟨Wa.heap.size, 0, none⟩) N N) N (rowV N (fun c => if c < b ∧ c ≠ a then 100000000000000000 else 0))) ∧ Aside0 (Below Wa.heap.size Wa wr)) (fun v11 _ => N - (intOf v11).toNat)
      case atStart => exact ⟨0, by omega, by simp, HR0, HB0⟩
      case round =>
        clear HR0 HB0
        obtain ⟨b, hb, rfl, HO, HB⟩ := hrel
        by_cases hltb : b < N
        · have hd2 : (b : Int) < (N : Int) := by omega
          have hwb := wrp ((b : Int) + 1) (by omega) (by omega)
          by_cases hab : a = b
          · have hq : ((a : Int) == (b : Int)) = true := beq_iff_eq.2 (by omega)
            have HO2 : Aside0 (wr.ownsRow Wa.heap.size 3 1 (.slice (some ⟨Wa.heap.size, 0, none⟩) N N) N (rowV N (fun c => if c < b + 1 ∧ c ≠ a then 100000000000000000 else 0))) := ⟨by
              rw [← rowL_congr (g := fun c => if c < b + 1 ∧ c ≠ a then 100000000000000000 else 0) (f := fun c => if c < b ∧ c ≠ a then 100000000000000000 else 0) (fun c hc => by
                by_cases h : c < b ∧ c ≠ a
                · rw [if_pos (by omega), if_pos h]
                · rw [if_neg (by omega), if_neg h])]
              exact HO.out⟩
            clear HO hab
            go_wp2
            go_roundw
            case rel => exact ⟨b + 1, by omega, by go_num, HO2, HB⟩
            case measure => simp [intOf]; omega
          · have hq : ((a : Int) == (b : Int)) = false := beq_eq_false_iff_ne.2 (by omega)
            obtain ⟨e1, e2⟩ := row_cell HO.out hltb
            have HO2 : Aside0 ((wr.setCell ⟨Wa.heap.size, b, none⟩ (.int .i64 100000000000000000)).ownsRow Wa.heap.size 3 1 (.slice (some ⟨Wa.heap.size, 0, none⟩) N N) N (rowV N (fun c => if c < b + 1 ∧ c ≠ a then 100000000000000000 else 0))) := ⟨row_put HO.out hltb (fun c hc => by
              by_cases h : c = b
              · rw [if_pos h, if_pos (by omega)]
              · rw [if_neg h]
                by_cases h2 : c < b ∧ c ≠ a
                · rw [if_pos (by omega), if_pos h2]
                · rw [if_neg (by omega), if_neg h2])⟩
            have HB2 : Aside0 (Below Wa.heap.size Wa (wr.setCell ⟨Wa.heap.size, b, none⟩ (.int .i64 100000000000000000))) := ⟨HB.out.setCell (Nat.le_refl _) _⟩
            clear HO HB hab
            go_wp2
            go_roundw
            case rel => exact ⟨b + 1, by omega, by go_num, HO2, HB2⟩
            case measure => simp [intOf]; omega
        · have hd2 : ¬ (b : Int) < (N : Int) := by omega
          have HO2 : Aside0 (wr.ownsRow Wa.heap.size 3 1 (.slice (some ⟨Wa.heap.size, 0, none⟩) N N) N (rowV N (bfRow l a 0))) := ⟨by
            rw [← rowL_congr (g := bfRow l a 0) (f := fun c => if c < b ∧ c ≠ a then 100000000000000000 else 0) (fun c hc => by
              unfold bfRow
              by_cases h : c = a
              · rw [if_pos h, if_neg (by omega)]
              · rw [if_neg h, if_pos (by omega)])]
            exact HO.out⟩
          have HB2 := Aside0.mk HB.out
          clear HO HB
          go_wp2_with fail
          go_loopw [10, 12] (fun v10 v12 wr => ∃ i gr cr : Nat, i ≤ N ∧ v12 = .int .i64 i ∧ v10 = .slice (some ⟨gr, 0, none⟩) N cr ∧ Aside0 (wr.ownsRow Wa.heap.size 3 1 (.slice (some ⟨gr, 0, none⟩) N cr) N (rowV N (bfRow l a i))) ∧ Aside0 (Below Wa.heap.size Wa wr)) (fun _ v12 _ => N - (intOf v12).toNat)
          case atStart => exact ⟨0, _, _, by omega, by simp, rfl, HO2, HB2⟩
          case round =>
            clear HO2 HB2
            rename World => Wi
            obtain ⟨i, gr, cr, hi, rfl, rfl, HOR, HB⟩ := hrel
            by_cases hlti : i < N
            · have hd3 : (i : Int) < (N : Int) := by omega
              have hwi := wrp ((i : Int) + 1) (by omega) (by omega)
              obtain ⟨R, hR⟩ : ∃ R, bfRow l a i = R := ⟨_, rfl⟩
              have HBR : Aside0 (∀ b, b < N → -20000000000000000 ≤ R b ∧ R b ≤ 100000000000000000) := ⟨fun b hb => by rw [← hR]; exact HBD.out a i b hlta hlti hb⟩
              have HNX : Aside0 (l.foldl (bfUse R) R = bfRow l a (i + 1)) := ⟨by rw [← hR]; rfl⟩
              rw [hR] at HOR
              clear hR
              have hownA : (Wi.alloc (.cells #[] 3)).ownsRow Wi.heap.size 3 1 (.slice (some ⟨Wi.heap.size, 0, none⟩) 0 0) 0 [] := World.ownsRow_made Wi #[] 0 (Nat.le_refl _) (Nat.zero_le _) rfl
              have HCE : Aside0 (∀ j u, (rowV N R)[j]? = some u → (Wi.alloc (.cells #[] 3)).cell? ((⟨gr, 0, none⟩ : Addr).add j) = some u) := ⟨fun j u hj => cell_on ((Below.refl _ _).alloc (Nat.le_refl _) _) (HOR.out.cells (g := gr) rfl j u hj)⟩
              obtain ⟨rw0, hrw0⟩ : ∃ x, rowV N R = x := ⟨_, rfl⟩
              have HRW := Aside0.mk hrw0
              have hrl : rw0.length = N := by rw [← hrw0, rowV_len]
              have hro : ∀ u ∈ rw0, u.oneCell' = true := fun u hu => by rw [← hrw0] at hu; unfold rowV at hu; obtain ⟨b, _, rfl⟩ := List.mem_map.1 hu; rfl
              have HRO := Aside0.mk hro
              rw [hrw0] at HCE
              clear hrw0 hro
              go_wp2_with (at_builtin; refine wpList_append_own _ rfl _ _ 59 rfl Wi.heap.size 3 i0 (.int .i64 0) 1 8 Try.underlying59 hi0 hz0 hz1 hz2 rfl (by decide) _ _ _ rfl hownA ⟨gr, 0, none⟩ N cr rw0 rfl ?qc1 ?qc2 ?qc3 ?qc4 ?qc5 ?qc6 ?_)
              try (case qc1 => omega)
              try (case qc2 => exact HCE.out)
              try (case qc3 => exact HRO.out)
              try (case qc4 => unfold maxLen; omega)
              try (case qc5 => omega)
              try (case qc6 => first | omega | (simp; done) | (simp; omega))
              intro v2 W2 hown2 hg2 hnil2
              obtain ⟨gn, cn, rfl⟩ : ∃ gn cn, v2 = .slice (some ⟨gn, 0, none⟩) N cn := by
                rcases hown2.2 with ⟨_, h0⟩ | ⟨g, cap, cur, e, h1, _⟩
                · omega
                · exact ⟨g, cap, by first | rw [e] | (rw [e, Nat.zero_add])⟩
              have HN0 : Aside0 (W2.ownsRow Wi.heap.size 3 1 (.slice (some ⟨gn, 0, none⟩) N cn) N (rowV N ((l.take 0).foldl (bfUse R) R))) := ⟨by
                have := hown2
                try rw [Nat.zero_add] at this
                try rw [List.nil_append] at this
                rw [← HRW.out] at this
                exact this⟩
              have HB0 : Aside0 (Below Wi.heap.size Wi W2) := ⟨((Below.refl _ _).alloc (Nat.le_refl _) _).grown hg2 (by simp) (fun k e => by simp [Value.ownBlock] at e; omega)⟩
              clear hown2 hg2 hnil2 hownA HCE HRW hrl HRO
              go_wp2_with fail
              go_loopw [14] (fun v14 wx => ∃ k : Nat, k ≤ l.length ∧ v14 = .int .i64 k ∧ Aside0 (wx.ownsRow Wi.heap.size 3 1 (.slice (some ⟨gn, 0, none⟩) N cn) N (rowV N ((l.take k).foldl (bfUse R) R))) ∧ Aside0 (Below Wi.heap.size Wi wx)) (fun v14 _ => l.length - (intOf v14).toNat)
              case atStart => exact ⟨0, by omega, by simp, HN0, HB0⟩
              case round =>
                clear HN0 HB0
                rename World => wk
                obtain ⟨k, hk, rfl, HOK, HBK⟩ := hrel
                by_cases hltk : k < l.length
                · have hd4 : (k : Int) < (l.length : Int) := by omega
                  have hwk := wrp ((k : Int) + 1) (by omega) (by omega)
                  have HLL : Aside0 (Kd.C kb wk A l.length l) := ⟨Kd.C_below HR.out (HV.out.trans ((HB.out.trans (HBK.out.mono HB.out.size)).mono HV.out.size))⟩
                  obtain ⟨ad, rfl, l0, l1, l2, l3⟩ := C_bd HLL.out k hltk hltk
                  have hxc := HCL.out _ (List.getElem_mem hltk)
                  have hxs := HSP.out _ (List.getElem_mem hltk)
                  have hxn := HNE.out _ (List.getElem_mem hltk)
                  have HNF : Aside0 ((l.take (k + 1)).foldl (bfUse R) R = bfUse R ((l.take k).foldl (bfUse R) R) l[k]) := ⟨by rw [List.take_add_one, List.getElem?_eq_getElem hltk, List.foldl_append]; rfl⟩
                  clear HLL
                  generalize l[k] = x at *
                  obtain ⟨xa, xb, lo, hi'⟩ := x
                  simp only at l0 l1 l2 l3 hxc hxs hxn
                  obtain ⟨p, rfl⟩ := Int.eq_ofNat_of_zero_le hxc.1
                  obtain ⟨q, rfl⟩ := Int.eq_ofNat_of_zero_le hxc.2.2.1
                  have hp : p < N := by omega
                  have hq : q < N := by omega
                  have hpq : p ≠ q := by omega
                  have hqp : q ≠ p := by omega
                  obtain ⟨f, hf⟩ : ∃ f, (l.take k).foldl (bfUse R) R = f := ⟨_, rfl⟩
                  rw [hf] at HOK HNF
                  clear hf
                  obtain ⟨wx, hwx⟩ : ∃ wx, wk.alloc (.cells #[.int .i64 p, .int .i64 q, .int .i64 lo, .int .i64 hi'] 45) = wx := ⟨_, rfl⟩
                  have hBx : Below wk.heap.size wk wx := by rw [← hwx]; exact (Below.refl _ _).alloc (Nat.le_refl _) _
                  have kx : wx.heap[wk.heap.size]? = some (.cells #[.int .i64 p, .int .i64 q, .int .i64 lo, .int .i64 hi'] 45 (0, 0)) := by rw [← hwx]; exact al_new _ _ _ rfl
                  have x0 : wx.cell? ⟨wk.heap.size, 0, none⟩ = some (.int .i64 p) := blk_cell kx 0
                  have x1 : wx.cell? ⟨wk.heap.size, 1, none⟩ = some (.int .i64 q) := blk_cell kx 1
                  have x2 : wx.cell? ⟨wk.heap.size, 2, none⟩ = some (.int .i64 lo) := blk_cell kx 2
                  have x3 : wx.cell? ⟨wk.heap.size, 3, none⟩ = some (.int .i64 hi') := blk_cell kx 3
                  have HO := Aside0.mk (own_keep HOK.out hBx)
                  have HBX := Aside0.mk (HBK.out.trans (hBx.mono HBK.out.size))
                  have HORX := Aside0.mk (own_keep HOR.out HBX.out)
                  have rp := (row_cell HORX.out hp).1
                  have rq := (row_cell HORX.out hq).1
                  obtain ⟨hnq, hfq⟩ := row_cell HO.out hq
                  have bp := HBR.out p hp
                  have bq := HBR.out q hq
                  have hgl : gn < wk.heap.size := own_lt HOK.out gn rfl
                  have hge := own_base HOK.out gn rfl
                  have hgr2 := own_lt HOR.out gr rfl
                  obtain ⟨hnp, hfp⟩ := row_cell HO.out hp
                  obtain ⟨fp, hfp0⟩ : ∃ z, f p = z := ⟨_, rfl⟩
                  obtain ⟨fq, hfq0⟩ : ∃ z, f q = z := ⟨_, rfl⟩
                  obtain ⟨Rp, hRp⟩ : ∃ z, R p = z := ⟨_, rfl⟩
                  obtain ⟨Rq, hRq⟩ : ∃ z, R q = z := ⟨_, rfl⟩
                  rw [hfp0] at hnp
                  rw [hfq0] at hnq
                  rw [hRp] at rp bp
                  rw [hRq] at rq bq
                  obtain ⟨s1, hs1⟩ : ∃ z, Rp + hi' = z := ⟨_, rfl⟩
                  obtain ⟨s2, hs2⟩ : ∃ z, Rq - lo = z := ⟨_, rfl⟩
                  have hw1 : IntKind.i64.wrap (Rp + hi') = s1 := by rw [hs1]; exact wrp s1 (by omega) (by omega)
                  have hw2 : IntKind.i64.wrap (Rq - lo) = s2 := by rw [hs2]; exact wrp s2 (by omega) (by omega)
                  obtain ⟨y1, hy1⟩ : ∃ z, min fq s1 = z := ⟨_, rfl⟩
                  obtain ⟨y2, hy2⟩ : ∃ z, min fp s2 = z := ⟨_, rfl⟩
                  have hmn1 : (if s1 < fq then s1 else fq) = y1 := by rw [← hy1]; split <;> omega
                  have hmn2 : (if s2 < fp then s2 else fp) = y2 := by rw [← hy2]; split <;> omega
                  have HY1 : Aside0 (min (f q) (R p + hi') = y1) := ⟨by rw [hfq0, hRp, hs1, hy1]⟩
                  have HY2 : Aside0 (min (f p) (R q - lo) = y2) := ⟨by rw [hfp0, hRq, hs2, hy2]⟩
                  have HPC := Aside0.mk (And.intro hRp hRq)
                  have hne1 : gr ≠ gn := by have := hgr2; omega
                  have hne2 : gn ≠ gr := fun e => hne1 e.symm
                  have hne3 : gn ≠ wk.heap.size := by omega
                  have hne4 : wk.heap.size ≠ gn := by omega
                  clear hfp0 hfq0 hRp hRq hs1 hs2 hy1 hy2 kx
                  by_cases hcp : Rp < 100000000000000000
                  · by_cases hcq : Rq < 100000000000000000
                    · have hc1 : (R p < 100000000000000000) = True := by rw [HPC.out.1]; simp only [eq_iff_iff, iff_true]; exact hcp
                      have hc2 : (R q < 100000000000000000) = True := by rw [HPC.out.2]; simp only [eq_iff_iff, iff_true]; exact hcq
                      have HNN : Aside0 (((wx.drew.setCell ⟨gn, q, none⟩ (.int .i64 y1)).drew.setCell ⟨gn, p, none⟩ (.int .i64 y2)).ownsRow Wi.heap.size 3 1 (.slice (some ⟨gn, 0, none⟩) N cn) N (rowV N ((List.take (k + 1) l).foldl (bfUse R) R))) := ⟨row_put (own_keep (row_put (f' := fun c => if c = q then y1 else f c) (own_keep HO.out (Below.refl _ _).drew) hq (fun c _ => rfl)) (Below.refl _ _).drew) hp (fun c _ => by rw [HNF.out, bfUse_at hpq]; simp only [hc1, hc2, true_and]; by_cases h : c = p; (rw [if_pos h, if_pos h, HY2.out]); (rw [if_neg h, if_neg h]; by_cases h2 : c = q; (rw [if_pos h2, if_pos h2, HY1.out]); (rw [if_neg h2, if_neg h2])))⟩
                      have HBN : Aside0 (Below Wi.heap.size Wi ((wx.drew.setCell ⟨gn, q, none⟩ (.int .i64 y1)).drew.setCell ⟨gn, p, none⟩ (.int .i64 y2))) := ⟨((HBX.out).drew.setCell (by simp; omega) _).drew.setCell (by simp; omega) _⟩
                      clear hc1 hc2
                      clear HO HBX HORX HNF HOK HBK
                      go_wp2_with fail
                      have e1 : wx.drew.cell? ⟨gn, q, none⟩ = some (.int .i64 fq) := hnq
                      have e2 : wx.drew.frozen? ⟨gn, q, none⟩ = false := hfq
                      go_still_tail 19, (by kernel_rfl)
                      change wpList _ _ _ _ _ wx.drew
                      obtain ⟨w5, hw5⟩ : ∃ w5, wx.drew.setCell ⟨gn, q, none⟩ (.int .i64 y1) = w5 := ⟨_, rfl⟩
                      rw [hw5] at HNN HBN
                      have x05 : w5.cell? ⟨wk.heap.size, 0, none⟩ = some (.int .i64 p) := by rw [← hw5, World.cell?_setCell_other _ _ _ _ (by first | (simp; done) | (simp; omega))]; exact x0
                      have x15 : w5.cell? ⟨wk.heap.size, 1, none⟩ = some (.int .i64 q) := by rw [← hw5, World.cell?_setCell_other _ _ _ _ (by first | (simp; done) | (simp; omega))]; exact x1
                      have x25 : w5.cell? ⟨wk.heap.size, 2, none⟩ = some (.int .i64 lo) := by rw [← hw5, World.cell?_setCell_other _ _ _ _ (by first | (simp; done) | (simp; omega))]; exact x2
                      have x35 : w5.cell? ⟨wk.heap.size, 3, none⟩ = some (.int .i64 hi') := by rw [← hw5, World.cell?_setCell_other _ _ _ _ (by first | (simp; done) | (simp; omega))]; exact x3
                      have rp5 : w5.cell? ⟨gr, p, none⟩ = some (.int .i64 Rp) := by rw [← hw5, World.cell?_setCell_other _ _ _ _ (by first | (simp; done) | (simp; omega))]; exact rp
                      have rq5 : w5.cell? ⟨gr, q, none⟩ = some (.int .i64 Rq) := by rw [← hw5, World.cell?_setCell_other _ _ _ _ (by first | (simp; done) | (simp; omega))]; exact rq
                      have hnp5 : w5.cell? ⟨gn, p, none⟩ = some (.int .i64 fp) := by rw [← hw5, World.cell?_setCell_other _ _ _ _ (by first | (simp; done) | (simp; omega))]; exact hnp
                      have hfp5 : w5.frozen? ⟨gn, p, none⟩ = false := by rw [← hw5, World.frozen?_setCell]; exact hfp
                      clear x0 x1 x2 x3 rp rq hnp hfp hnq hfq
                      go_wp2_with fail
                      have e3 : w5.drew.cell? ⟨gn, p, none⟩ = some (.int .i64 fp) := hnp5
                      have e4 : w5.drew.frozen? ⟨gn, p, none⟩ = false := hfp5
                      go_still_tail 19, (by kernel_rfl)
                      change wpList _ _ _ _ _ w5.drew
                      go_wp2
                      go_roundw
                      case rel => exact ⟨k + 1, by omega, by go_num, HNN, HBN⟩
                      case measure => simp [intOf]; omega
                    · have hc1 : (R p < 100000000000000000) = True := by rw [HPC.out.1]; simp only [eq_iff_iff, iff_true]; exact hcp
                      have hc2 : (R q < 100000000000000000) = False := by rw [HPC.out.2]; simp only [eq_iff_iff, iff_false]; exact hcq
                      have HNN : Aside0 ((wx.drew.setCell ⟨gn, q, none⟩ (.int .i64 y1)).ownsRow Wi.heap.size 3 1 (.slice (some ⟨gn, 0, none⟩) N cn) N (rowV N ((List.take (k + 1) l).foldl (bfUse R) R))) := ⟨row_put (own_keep HO.out (Below.refl _ _).drew) hq (fun c _ => by rw [HNF.out, bfUse_at hpq]; simp only [hc1, hc2, true_and, false_and, if_false]; by_cases h2 : c = q; (rw [if_pos h2, if_pos h2, HY1.out]); (rw [if_neg h2, if_neg h2]))⟩
                      have HBN : Aside0 (Below Wi.heap.size Wi (wx.drew.setCell ⟨gn, q, none⟩ (.int .i64 y1))) := ⟨(HBX.out).drew.setCell (by simp; omega) _⟩
                      clear hc1 hc2
                      clear HO HBX HORX HNF HOK HBK
                      go_wp2_with fail
                      have e1 : wx.drew.cell? ⟨gn, q, none⟩ = some (.int .i64 fq) := hnq
                      have e2 : wx.drew.frozen? ⟨gn, q, none⟩ = false := hfq
                      go_still_tail 19, (by kernel_rfl)
                      change wpList _ _ _ _ _ wx.drew
                      obtain ⟨w5, hw5⟩ : ∃ w5, wx.drew.setCell ⟨gn, q, none⟩ (.int .i64 y1) = w5 := ⟨_, rfl⟩
                      rw [hw5] at HNN HBN
                      have x05 : w5.cell? ⟨wk.heap.size, 0, none⟩ = some (.int .i64 p) := by rw [← hw5, World.cell?_setCell_other _ _ _ _ (by first | (simp; done) | (simp; omega))]; exact x0
                      have x15 : w5.cell? ⟨wk.heap.size, 1, none⟩ = some (.int .i64 q) := by rw [← hw5, World.cell?_setCell_other _ _ _ _ (by first | (simp; done) | (simp; omega))]; exact x1
                      have x25 : w5.cell? ⟨wk.heap.size, 2, none⟩ = some (.int .i64 lo) := by rw [← hw5, World.cell?_setCell_other _ _ _ _ (by first | (simp; done) | (simp; omega))]; exact x2
                      have x35 : w5.cell? ⟨wk.heap.size, 3, none⟩ = some (.int .i64 hi') := by rw [← hw5, World.cell?_setCell_other _ _ _ _ (by first | (simp; done) | (simp; omega))]; exact x3
                      have rp5 : w5.cell? ⟨gr, p, none⟩ = some (.int .i64 Rp) := by rw [← hw5, World.cell?_setCell_other _ _ _ _ (by first | (simp; done) | (simp; omega))]; exact rp
                      have rq5 : w5.cell? ⟨gr, q, none⟩ = some (.int .i64 Rq) := by rw [← hw5, World.cell?_setCell_other _ _ _ _ (by first | (simp; done) | (simp; omega))]; exact rq
                      have hnp5 : w5.cell? ⟨gn, p, none⟩ = some (.int .i64 fp) := by rw [← hw5, World.cell?_setCell_other _ _ _ _ (by first | (simp; done) | (simp; omega))]; exact hnp
                      have hfp5 : w5.frozen? ⟨gn, p, none⟩ = false := by rw [← hw5, World.frozen?_setCell]; exact hfp
                      clear x0 x1 x2 x3 rp rq hnp hfp
                      go_wp2
                      go_roundw
                      case rel => exact ⟨k + 1, by omega, by go_num, HNN, HBN⟩
                      case measure => simp [intOf]; omega
                  · by_cases hcq : Rq < 100000000000000000
                    · have hc1 : (R p < 100000000000000000) = False := by rw [HPC.out.1]; simp only [eq_iff_iff, iff_false]; exact hcp
                      have hc2 : (R q < 100000000000000000) = True := by rw [HPC.out.2]; simp only [eq_iff_iff, iff_true]; exact hcq
                      have HNN : Aside0 ((wx.drew.setCell ⟨gn, p, none⟩ (.int .i64 y2)).ownsRow Wi.heap.size 3 1 (.slice (some ⟨gn, 0, none⟩) N cn) N (rowV N ((List.take (k + 1) l).foldl (bfUse R) R))) := ⟨row_put (own_keep HO.out (Below.refl _ _).drew) hp (fun c _ => by rw [HNF.out, bfUse_at hpq]; simp only [hc1, hc2, true_and, false_and, if_false]; by_cases h : c = p; (rw [if_pos h, if_pos h, HY2.out]); (rw [if_neg h, if_neg h]))⟩
                      have HBN : Aside0 (Below Wi.heap.size Wi (wx.drew.setCell ⟨gn, p, none⟩ (.int .i64 y2))) := ⟨(HBX.out).drew.setCell (by simp; omega) _⟩
                      clear hc1 hc2
                      clear HO HBX HORX HNF HOK HBK
                      go_wp2_with fail
                      have e3 : wx.drew.cell? ⟨gn, p, none⟩ = some (.int .i64 fp) := hnp
                      have e4 : wx.drew.frozen? ⟨gn, p, none⟩ = false := hfp
                      go_still_tail 19, (by kernel_rfl)
                      change wpList _ _ _ _ _ wx.drew
                      go_wp2
                      go_roundw
                      case rel => exact ⟨k + 1, by omega, by go_num, HNN, HBN⟩
                      case measure => simp [intOf]; omega
                    · have hc1 : (R p < 100000000000000000) = False := by rw [HPC.out.1]; simp only [eq_iff_iff, iff_false]; exact hcp
                      have hc2 : (R q < 100000000000000000) = False := by rw [HPC.out.2]; simp only [eq_iff_iff, iff_false]; exact hcq
                      have HNN : Aside0 (wx.ownsRow Wi.heap.size 3 1 (.slice (some ⟨gn, 0, none⟩) N cn) N (rowV N ((List.take (k + 1) l).foldl (bfUse R) R))) := ⟨by rw [← rowL_congr (g := ((List.take (k + 1) l).foldl (bfUse R) R)) (f := f) (fun c _ => by rw [HNF.out, bfUse_at hpq]; simp only [hc1, hc2, false_and, if_false])]; exact HO.out⟩
                      have HBN : Aside0 (Below Wi.heap.size Wi wx) := ⟨HBX.out⟩
                      clear hc1 hc2
                      clear HO HBX HORX HNF HOK HBK
                      go_wp2_with fail
                      go_roundw
                      case rel => exact ⟨k + 1, by omega, by go_num, HNN, HBN⟩
                      case measure => simp [intOf]; omega
                · have hlk : k = l.length := by omega
                  have hd4 : ¬ (k : Int) < (l.length : Int) := by omega
                  have HOR2 : Aside0 (wk.ownsRow Wa.heap.size 3 1 (.slice (some ⟨gn, 0, none⟩) N cn) N (rowV N (bfRow l a (i + 1)))) := ⟨by
                    have := own_weaken HOK.out HB.out.size
                    rwa [hlk, List.take_length, HNX.out] at this⟩
                  have HB2 : Aside0 (Below Wa.heap.size Wa wk) := ⟨HB.out.trans (HBK.out.mono HB.out.size)⟩
                  clear hlk HOK HBK
                  go_wp2
                  go_roundw
                  case rel => exact ⟨i + 1, gn, cn, by omega, by go_num, rfl, HOR2, HB2⟩
                  case measure => simp [intOf]; omega
            · have hiN : i = N := by omega
              have hd3 : ¬ (i : Int) < (N : Int) := by omega
              have HRD : Aside0 (Wi.ownsRow Wa.heap.size 3 1 (.slice (some ⟨gr, 0, none⟩) N cr) N (rowV N (D a))) := ⟨by have := HOR.out; rwa [hiN, HDD.out] at this⟩
              have rd1 := (row_cell HRD.out hlta).1
              obtain ⟨z, hz⟩ : ∃ z, D a a = z := ⟨_, rfl⟩
              rw [hz] at rd1
              have HVI := Aside0.mk (HV.out.trans (HB.out.mono HV.out.size))
              have hVsz := HV.out.size
              have hVsz2 := HVI.out.size
              clear hiN HOR
              by_cases hneg : z < 0
              · have HNO : Aside0 (¬ okBf N D) := ⟨fun h => by have := h a hlta; omega⟩
                clear hz
                go_wp2
                go_ret2
                exact ⟨_, _, rfl, fun h => absurd h HNO.out, fun _ => ⟨rfl, rfl⟩, HVI.out⟩
              · have HDG2 : Aside0 (∀ e, e < a + 1 → 0 ≤ D e e) := ⟨fun e he => by
                  by_cases h : e = a
                  · subst h; omega
                  · exact HDG.out e (by omega)⟩
                clear hz
                obtain ⟨i1, hi1, hy0, hy1, hy2⟩ := info_parts info59n
                have hownA : (Wi.alloc (.cells #[.slice (some ⟨gr, 0, none⟩) N cr] 59)).ownsRow w.heap.size 59 1 vo a vs := by
                  have := (HM.out.below HB.out).own
                  rw [HLN.out] at this
                  exact own_move this (fun k hk => Below.heap_alloc _ _ k (own_lt this k hk))
                go_wp2_with (at_builtin; refine wpList_append_own _ rfl _ _ 27 rfl w.heap.size 59 i1 (.slice none 0 0) 1 24 Try.underlying27 hi1 hy0 hy1 hy2 rfl (by decide) _ _ _ rfl hownA ⟨Wi.heap.size, 0, none⟩ 1 1 [.slice (some ⟨gr, 0, none⟩) N cr] rfl ?qd1 ?qd2 ?qd3 ?qd4 ?qd5 ?qd6 ?_)
                try (case qd1 => rfl)
                try (case qd2 => exact World.news_of_block (cs := #[.slice (some ⟨gr, 0, none⟩) N cr]) (t := 59) (fr := (0, 0)) (al_new _ _ _ rfl))
                try (case qd3 => first | rfl | simp [Value.oneCell'])
                try (case qd4 => unfold maxLen; omega)
                try (case qd5 => omega)
                try (case qd6 => first | omega | (simp; done) | (simp; omega))
                intro v3 wz hown3 hg3 hnil3
                have HMN : Aside0 (Mr wz w.heap.size v3 N (vs ++ [.slice (some ⟨gr, 0, none⟩) N cr]) D) := ⟨Mr.append HM.out HB.out hVsz (by rw [HLN.out]; exact HRD.out) (by rw [HLN.out]; exact hown3) hg3⟩
                have HVN : Aside0 (Below w.heap.size w wz) := ⟨(HVI.out.alloc hVsz2 _).grown hg3 (by simp; omega) (fun k e => own_base HM.out.own k e)⟩
                have HLN2 : Aside0 ((vs ++ [Value.slice (some ⟨gr, 0, none⟩) N cr]).length = a + 1) := ⟨by rw [List.length_append, HLN.out]; rfl⟩
                clear hown3 hg3 hnil3 hownA HM HV HLN HRD
                go_wp2
                go_roundw
                case rel => exact ⟨a + 1, _, _, by omega, by go_num, rfl, HLN2, HMN, HVN, HDG2⟩
                case measure => simp [intOf]; omega
    · have haN : a = N := by omega
      have hd1 : ¬ (a : Int) < (N : Int) := by omega
      have HOKB : Aside0 (okBf N D) := ⟨fun e he => HDG.out e (by omega)⟩
      have HLN2 : Aside0 (vs.length = N) := ⟨by rw [HLN.out]; exact haN⟩
      clear haN HLN
      go_wp2
      go_ret2
      exact ⟨_, _, rfl, fun _ => ⟨rfl, vs, HLN2.out, HM.out⟩, fun h => absurd HOKB.out h, HV.out⟩
end Go.Proofs.Ytjgnadighdbjlaa.C
