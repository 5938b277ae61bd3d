/- slices.Reverse over uses, by hand. -/
import Derived.OwnWalk
import Derived.Deep.CutRange
import Derived.StillTailTactics
import Derived.BigRegion
import Derived.Deep.RegionHeld3
import Derived.Test.YtjgnadighdbjlaaDa
namespace Go.Proofs.Ytjgnadighdbjlaa.C
open Go.RowKit Go.Shelf Go.Maps Go.Proofs.YtjgnadighdbjlaaW.PrintWords Go.Proofs.YtjgnadighdbjlaaW.PrintLast Go.Proofs.YtjgnadighdbjlaaW.PrintMore
set_option linter.unusedVariables false
set_option linter.unusedSimpArgs false
theorem ucells_set : ∀ (l : List Us) (i : Nat) (x : Us), i < l.length → ((ucells l).set (i * 2) (.int .i64 x.1)).set (i * 2 + 1) (.bool x.2) = ucells (l.set i x)
  | [], i, x, h => by simp at h
  | y :: l, 0, x, h => by simp [ucells]
  | y :: l, i + 1, x, h => by
    have := ucells_set l i x (by simpa using h)
    rw [List.set_cons_succ, ucells, ucells, ← this, show (i + 1) * 2 = i * 2 + 2 by omega]
    rfl
theorem ucells_get : ∀ (l : List Us) (i : Nat) (h : i < l.length), (ucells l)[i * 2]? = some (.int .i64 l[i].1) ∧ (ucells l)[i * 2 + 1]? = some (.bool l[i].2)
  | y :: l, 0, h => by simp [ucells]
  | y :: l, i + 1, h => by
    have := ucells_get l i (by simpa using h)
    rw [show (i + 1) * 2 = i * 2 + 1 + 1 by omega, show i * 2 + 1 + 1 + 1 = (i * 2 + 1) + 1 + 1 by omega, ucells]
    simpa using this
/-- A row of uses, cell by cell. -/
theorem urow_cell {W : World} {base g n cap : Nat} {l : List Us} (h : W.ownsRow base 41 2 (.slice (some ⟨g, 0, none⟩) n cap) n (ucells l)) {i : Nat} (hi : i < l.length) :
    W.cell? ⟨g, i * 2, none⟩ = some (.int .i64 l[i].1) ∧ W.cell? ⟨g, i * 2 + 1, none⟩ = some (.bool l[i].2) ∧ W.frozen? ⟨g, i * 2, none⟩ = false ∧ W.frozen? ⟨g, i * 2 + 1, none⟩ = false := by
  obtain ⟨cs, hc⟩ := own_typed h g rfl
  have e : ∀ k : Nat, (⟨g, 0, none⟩ : Addr).add k = ⟨g, k, none⟩ := fun k => by unfold Addr.add; split <;> simp_all
  have h1 := h.cells (g := g) rfl _ _ (ucells_get l i hi).1
  have h2 := h.cells (g := g) rfl _ _ (ucells_get l i hi).2
  rw [e] at h1 h2
  exact ⟨h1, h2, blk_frozen hc _, blk_frozen hc _⟩
theorem urow_put {W : World} {base g n cap : Nat} {l : List Us} (h : W.ownsRow base 41 2 (.slice (some ⟨g, 0, none⟩) n cap) n (ucells l)) {i : Nat} (x : Us) (hi : i < l.length) :
    ((W.setCell ⟨g, i * 2, none⟩ (.int .i64 x.1)).setCell ⟨g, i * 2 + 1, none⟩ (.bool x.2)).ownsRow base 41 2 (.slice (some ⟨g, 0, none⟩) n cap) n (ucells (l.set i x)) := by
  rw [← ucells_set l i x hi]
  exact ((h.stored (i * 2) (.int .i64 x.1)).1.stored (i * 2 + 1) (.bool x.2)).1
/-- A list of which the first t and the last t have changed places. -/
def revTo (xs : List Us) (t : Nat) : List Us := (List.range xs.length).map fun k => if k < t ∨ xs.length ≤ k + t then xs.getD (xs.length - 1 - k) (0, false) else xs.getD k (0, false)
theorem revTo_len (xs : List Us) (t : Nat) : (revTo xs t).length = xs.length := by simp [revTo]
theorem revTo_get {xs : List Us} {t k : Nat} (h : k < xs.length) : (revTo xs t)[k]? = some (if k < t ∨ xs.length ≤ k + t then xs.getD (xs.length - 1 - k) (0, false) else xs.getD k (0, false)) := by simp [revTo, h]
theorem revTo_zero (xs : List Us) : revTo xs 0 = xs := by
  apply List.ext_getElem?
  intro k
  by_cases h : k < xs.length
  · rw [revTo_get h, if_neg (by omega), List.getD_eq_getElem?_getD, List.getElem?_eq_getElem h]; rfl
  · rw [List.getElem?_eq_none (by rw [revTo_len]; omega), List.getElem?_eq_none (by omega)]
theorem revTo_end {xs : List Us} {t : Nat} (h : xs.length ≤ 2 * t + 1) : revTo xs t = xs.reverse := by
  apply List.ext_getElem?
  intro k
  by_cases hk : k < xs.length
  · rw [revTo_get hk, List.getElem?_reverse hk]
    have : xs[xs.length - 1 - k]? = some (xs.getD (xs.length - 1 - k) (0, false)) := by
      rw [List.getD_eq_getElem?_getD, List.getElem?_eq_getElem (by omega)]; rfl
    rw [this]
    split
    · rfl
    · congr 1; rw [show xs.length - 1 - k = k by omega]
  · rw [List.getElem?_eq_none (by rw [revTo_len]; omega), List.getElem?_eq_none (by simp; omega)]
theorem revTo_step {xs : List Us} {t : Nat} (h : 2 * t + 1 < xs.length) : ((revTo xs t).set t (xs.getD (xs.length - 1 - t) (0, false))).set (xs.length - 1 - t) (xs.getD t (0, false)) = revTo xs (t + 1) := by
  apply List.ext_getElem?
  intro k
  by_cases hk : k < xs.length
  · rw [revTo_get hk, List.getElem?_set, List.length_set, revTo_len, List.getElem?_set, revTo_len, revTo_get hk]
    by_cases e1 : xs.length - 1 - t = k
    · rw [if_pos e1, if_pos (by omega), if_pos (by omega)]
      congr 2; omega
    · rw [if_neg e1]
      by_cases e2 : t = k
      · rw [if_pos e2, if_pos (by omega), if_pos (by omega)]; congr 2; omega
      · rw [if_neg e2]
        by_cases h3 : k < t ∨ xs.length ≤ k + t
        · rw [if_pos h3, if_pos (by omega)]
        · rw [if_neg h3, if_neg (by omega)]
  · rw [List.getElem?_eq_none (by simp [revTo_len]; omega), List.getElem?_eq_none (by rw [revTo_len]; omega)]
set_option maxHeartbeats 4000000 in
set_option maxRecDepth 100000 in
theorem reverse_calls (base g cap : Nat) (xs : List Us) (w : World) (h : w.ownsRow base 41 2 (.slice (some ⟨g, 0, none⟩) xs.length cap) xs.length (ucells xs)) (hn : xs.length ≤ 1000) (hbase : base ≤ w.heap.size) :
    Calls Try.prog 40 #[.slice (some ⟨g, 0, none⟩) xs.length cap] w fun e w' => e = .returned (.tuple #[]) ∧ w'.ownsRow base 41 2 (.slice (some ⟨g, 0, none⟩) xs.length cap) xs.length (ucells xs.reverse) ∧ Below base w w' := by
  obtain ⟨n, hnn⟩ : ∃ n, xs.length = n := ⟨_, rfl⟩
  have HL := Aside0.mk hnn
  rw [hnn] at h hn ⊢
  have HO := Aside0.mk h
  clear h hnn
  have hw1 := wrp ((n : Int) - 1) (by omega) (by omega)
  have hgb := own_base HO.out g rfl
  go_enter Try.func40, Try.ntmps40
  go_wp2_with fail
  go_loopw [2, 3] (fun v2 v3 wr => ∃ t : Nat, 2 * t ≤ n + 1 ∧ v2 = .int .i64 t ∧ v3 = .int .i64 ((n : Int) - 1 - t) ∧ Aside0 (wr.ownsRow base 41 2 (.slice (some ⟨g, 0, none⟩) n cap) n (ucells (revTo xs t))) ∧ Aside0 (Below base w wr)) (fun v2 _ _ => n - (intOf v2).toNat)
  case atStart => exact ⟨0, by omega, by simp, by simp, ⟨by rw [revTo_zero]; exact HO.out⟩, ⟨Below.refl _ _⟩⟩
  case round =>
    clear HO
    obtain ⟨t, ht, rfl, rfl, HO, HB⟩ := hrel
    by_cases hlt : 2 * t + 1 < n
    · have hd1 : (t : Int) < (n : Int) - 1 - (t : Int) := by omega
      obtain ⟨j, hj⟩ : ∃ j : Nat, (n : Int) - 1 - (t : Int) = (j : Int) := ⟨n - 1 - t, by omega⟩
      have hjn : j = n - 1 - t := by omega
      have HJ := Aside0.mk hjn
      have hwt := wrp ((t : Int) + 1) (by omega) (by omega)
      have hwj : IntKind.i64.wrap ((j : Int) - 1) = (n : Int) - 1 - ((t + 1 : Nat) : Int) := by rw [show (j : Int) - 1 = (n : Int) - 1 - ((t + 1 : Nat) : Int) by omega]; exact wrp _ (by omega) (by omega)
      have htl : t < (revTo xs t).length := by rw [revTo_len, HL.out]; omega
      have hjl : j < (revTo xs t).length := by rw [revTo_len, HL.out]; omega
      obtain ⟨a0, a1, a2, a3⟩ := urow_cell HO.out htl
      obtain ⟨b0, b1, b2, b3⟩ := urow_cell HO.out hjl
      have eg : (revTo xs t)[t] = xs.getD t (0, false) := by
        have := revTo_get (xs := xs) (t := t) (k := t) (by rw [HL.out]; omega)
        rw [List.getElem?_eq_getElem htl, if_neg (by rw [HL.out]; omega)] at this
        exact Option.some.inj this
      have eh : (revTo xs t)[j] = xs.getD (n - 1 - t) (0, false) := by
        have := revTo_get (xs := xs) (t := t) (k := j) (by rw [HL.out]; omega)
        rw [List.getElem?_eq_getElem hjl, if_neg (by rw [HL.out]; omega)] at this
        rw [← hjn]
        exact Option.some.inj this
      rw [eg] at a0 a1
      rw [eh] at b0 b1
      have HST : Aside0 (((revTo xs t).set t (xs.getD (n - 1 - t) (0, false))).set j (xs.getD t (0, false)) = revTo xs (t + 1)) := ⟨by rw [hjn, ← HL.out]; exact revTo_step (by rw [HL.out]; exact hlt)⟩
      have HTL := Aside0.mk (And.intro htl hjl)
      obtain ⟨⟨xk, xb⟩, hx⟩ : ∃ z, xs.getD t (0, false) = z := ⟨_, rfl⟩
      obtain ⟨⟨yk, yb⟩, hy⟩ : ∃ z, xs.getD (n - 1 - t) (0, false) = z := ⟨_, rfl⟩
      rw [hx] at a0 a1 HST
      rw [hy] at b0 b1 HST
      simp only at a0 a1 b0 b1
      rw [hj] at hd1
      rw [hj]
      have htj : t ≠ j := by omega
      have hj0 : (j : Int) < (n : Int) := by omega
      have ht0 : (t : Int) < (n : Int) := by omega
      have hj1 : (0 : Int) ≤ (j : Int) := by omega
      have ht1 : (0 : Int) ≤ (t : Int) := by omega
      have hn1 : ¬ t * 2 = j * 2 := by omega
      have hn2 : ¬ t * 2 + 1 = j * 2 := by omega
      have hn3 : ¬ t * 2 = j * 2 + 1 := by omega
      have hn4 : ¬ j * 2 = t * 2 := by omega
      have hn5 : ¬ j * 2 + 1 = t * 2 := by omega
      have hn6 : ¬ j * 2 = t * 2 + 1 := by omega
      have hn7 : ¬ t = j := by omega
      have hn8 : ¬ j = t := by omega
      clear eg eh hx hy hj hjn htl hjl htj
      go_wp2_with fail
      have HN : Aside0 (((((wr.drew.setCell ⟨g, t * 2, none⟩ (.int .i64 yk)).setCell ⟨g, t * 2 + 1, none⟩ (.bool yb)).setCell ⟨g, j * 2, none⟩ (.int .i64 xk)).setCell ⟨g, j * 2 + 1, none⟩ (.bool xb)).ownsRow base 41 2 (.slice (some ⟨g, 0, none⟩) n cap) n (ucells (revTo xs (t + 1)))) := ⟨by
        rw [← HST.out]
        exact urow_put (urow_put (own_move (w1 := wr.drew) HO.out (fun _ _ => rfl)) (yk, yb) HTL.out.1) (xk, xb) (by rw [List.length_set]; exact HTL.out.2)⟩
      have HBN : Aside0 (Below base w ((((wr.drew.setCell ⟨g, t * 2, none⟩ (.int .i64 yk)).setCell ⟨g, t * 2 + 1, none⟩ (.bool yb)).setCell ⟨g, j * 2, none⟩ (.int .i64 xk)).setCell ⟨g, j * 2 + 1, none⟩ (.bool xb))) := ⟨(((HB.out.drew.setCell hgb _).setCell hgb _).setCell hgb _).setCell hgb _⟩
      clear HO HB HST HTL
      have a0' : wr.drew.cell? ⟨g, t * 2, none⟩ = some (.int .i64 xk) := a0
      have a1' : wr.drew.cell? ⟨g, t * 2 + 1, none⟩ = some (.bool xb) := a1
      have b0' : wr.drew.cell? ⟨g, j * 2, none⟩ = some (.int .i64 yk) := b0
      have b1' : wr.drew.cell? ⟨g, j * 2 + 1, none⟩ = some (.bool yb) := b1
      have a2' : wr.drew.frozen? ⟨g, t * 2, none⟩ = false := a2
      have a3' : wr.drew.frozen? ⟨g, t * 2 + 1, none⟩ = false := a3
      have b2' : wr.drew.frozen? ⟨g, j * 2, none⟩ = false := b2
      have b3' : wr.drew.frozen? ⟨g, j * 2 + 1, none⟩ = false := b3
      go_region
      go_wp2
      go_roundw
      case rel => exact ⟨t + 1, by omega, by go_num, rfl, HN, HBN⟩
      case measure => simp [intOf]; omega
    · have hd1 : ¬ (t : Int) < (n : Int) - 1 - (t : Int) := by omega
      have HN : Aside0 (wr.ownsRow base 41 2 (.slice (some ⟨g, 0, none⟩) n cap) n (ucells xs.reverse)) := ⟨by rw [← revTo_end (t := t) (by rw [HL.out]; omega)]; exact HO.out⟩
      clear HO
      go_wp2
      go_end0
      exact ⟨rfl, HN.out, HB.out⟩
end Go.Proofs.Ytjgnadighdbjlaa.C
