/- The reference's before, and what Back answers. -/
import Derived.OwnWalk
import Derived.BigRegion
import Derived.WalkKit
import Derived.Deep.RegionHeld3
import Derived.Test.YtlfnnalepdjagaaDoorKa
namespace Go.Proofs.YtlfnnalepdjagaaDoor.C
open Go.RowKit Go.Shelf Go.Maps Go.Proofs.YtlfnnalepdjagaaDoorW.PrintWords Go.Proofs.YtlfnnalepdjagaaDoorW.PrintLast Go.Proofs.YtlfnnalepdjagaaDoorW.PrintMore
set_option linter.unusedVariables false
set_option linter.unusedSimpArgs false
/-- The last stop up to a second. -/
def stopN (es : List T3) (s : Int) : Nat → Int
  | 0 => 0
  | i + 1 => if (es.getD i (0, 0, 0)).2.1 ≤ s ∧ (es.getD i (0, 0, 0)).1 = 3 then (es.getD i (0, 0, 0)).2.1 else stopN es s i
theorem stop_spec {es : List T3} {s : Int} (hw : WhatOk es) : ∀ i, i ≤ es.length → runsN es s i = false → stopN es s i ≤ s ∧ ∀ t, stopN es s i ≤ t → t ≤ s → runsN es t i = false
  | 0, _, h => by cases h
  | i + 1, hi, h => by
    have hwi := hw _ (List.getElem_mem (show i < es.length by omega))
    unfold runsN at h
    unfold stopN
    rw [getD_at (show i < es.length by omega)] at h ⊢
    by_cases hc : es[i].2.1 ≤ s ∧ 3 ≤ es[i].1
    · rw [if_pos hc] at h
      have h4 : es[i].1 ≠ 4 := by simpa using h
      rw [if_pos ⟨hc.1, by omega⟩]
      refine ⟨hc.1, fun t h1 h2 => ?_⟩
      unfold runsN
      rw [getD_at (show i < es.length by omega), if_pos ⟨h1, hc.2⟩]
      exact h
    · rw [if_neg hc] at h
      rw [if_neg (fun hh => hc ⟨hh.1, by omega⟩)]
      obtain ⟨h1, h2⟩ := stop_spec hw i (by omega) h
      refine ⟨h1, fun t h3 h4 => ?_⟩
      unfold runsN
      rw [getD_at (show i < es.length by omega), if_neg (fun hh => hc ⟨by omega, hh.2⟩)]
      exact h2 t h3 h4
theorem stop_b {es : List T3} {s : Int} (hw : EvOk es) : ∀ i, i ≤ es.length → 0 ≤ stopN es s i ∧ stopN es s i ≤ 1000000
  | 0, _ => by simp [stopN]
  | i + 1, hi => by
    have hwi := hw.when _ (List.getElem_mem (show i < es.length by omega))
    unfold stopN
    rw [getD_at (show i < es.length by omega)]
    split
    · omega
    · exact stop_b hw i (by omega)
theorem after_later {mS mF s V : Int} (hS : -9223372036854775808 ≤ mS ∧ mS ≤ 9223372036854775807) (hs : 0 ≤ s ∧ s ≤ 1000000) (hV : -900000000000000 ≤ V ∧ V ≤ 900000000000000) :
    (decide (mS < (momF s V).1) || (decide ((momF s V).1 = mS) && decide (mF < (momF s V).2))) = laterB mS mF s V := by
  unfold laterB
  split
  · rename_i h
    unfold momF
    simp only
    have e1 : -1 ≤ V / 1000000000000000 ∧ V / 1000000000000000 ≤ 0 := by omega
    generalize V / 1000000000000000 = q at *
    rw [IntKind.wrap_i64, IntKind.wrap_i64] at h
    rw [Bool.eq_iff_iff]
    simp only [Bool.or_eq_true, Bool.and_eq_true, decide_eq_true_eq]
    omega
  · rfl
theorem later_mono {seed : Int} {chs : List T3} {cks : List Ck} {k mS mF s t : Int} (hk : errK chs cks k = 0) (hS : -9223372036854775808 ≤ mS ∧ mS ≤ 9223372036854775807) (hF : 0 ≤ mF ∧ mF < 1000000000000000) (hs : 0 ≤ s) (hst : s ≤ t) (ht : t ≤ 1000000) (h : laterAt seed chs cks k mS mF s = true) : laterAt seed chs cks k mS mF t = true := by
  rcases Int.lt_or_le s t with hlt | hle
  rotate_left
  · obtain rfl : s = t := by omega
    exact h
  by_cases hm : -10 ≤ mS ∧ mS ≤ 2000000
  · rw [later_iff hk hm hF ⟨hs, by omega⟩] at h
    rw [later_iff hk hm hF ⟨by omega, ht⟩]
    have h1 := of_decide_eq_true h
    have hz := errK_zero hk
    obtain ⟨i, rfl⟩ : ∃ i : Nat, k = i := ⟨k.toNat, by omega⟩
    have b1 := shown_tight (seed := seed) (s := s) hz.1 (show i < cks.length by omega) ⟨hs, by omega⟩
    have b2 := shown_tight (seed := seed) (s := t) hz.1 (show i < cks.length by omega) ⟨by omega, ht⟩
    exact decide_eq_true (by omega)
  · unfold laterAt laterB at h ⊢
    rw [IntKind.wrap_i64, IntKind.wrap_i64] at h ⊢
    rw [if_pos (by omega)] at h ⊢
    have h1 := of_decide_eq_true h
    exact decide_eq_true (by omega)
/-- A second at which a clock runs and reads no more than a moment. -/
def Good (seed : Int) (chs : List T3) (cks : List Ck) (k mS mF t : Int) : Prop := runsF (ckAt cks k).es t = true ∧ laterAt seed chs cks k mS mF t = false
/-- The second that belongs to a moment, or none. -/
def IsBack (seed : Int) (chs : List T3) (cks : List Ck) (k mS mF : Int) (v e : Int) : Prop :=
  (e = 0 ∧ 0 ≤ v ∧ v ≤ 1000000 ∧ Good seed chs cks k mS mF v ∧ ∀ t, v < t → t ≤ 1000000 → ¬ Good seed chs cks k mS mF t) ∨ (e = 4 ∧ v = 0 ∧ ∀ t, 0 ≤ t → t ≤ 1000000 → ¬ Good seed chs cks k mS mF t)
theorem IsBack.eq {seed : Int} {chs : List T3} {cks : List Ck} {k mS mF v e v' e' : Int} (h : IsBack seed chs cks k mS mF v e) (h' : IsBack seed chs cks k mS mF v' e') : v = v' ∧ e = e' := by
  rcases h with ⟨rfl, a1, a2, a3, a4⟩ | ⟨rfl, rfl, a4⟩ <;> rcases h' with ⟨rfl, b1, b2, b3, b4⟩ | ⟨rfl, rfl, b4⟩
  · rcases Int.lt_trichotomy v v' with h | h | h
    · exact absurd b3 (a4 v' h b2)
    · exact ⟨h, rfl⟩
    · exact absurd a3 (b4 v h a2)
  · exact absurd a3 (b4 v a1 a2)
  · exact absurd b3 (a4 v' b1 b2)
  · exact ⟨rfl, rfl⟩
theorem lastRun_spec (es : List T3) : ∀ r, (∃ n : Nat, n < r ∧ lastRunF es r = ((n : Int), 0) ∧ runsF es n = true ∧ ∀ t : Nat, n < t → t < r → runsF es t = false) ∨ (lastRunF es r = (0, 4) ∧ ∀ t : Nat, t < r → runsF es t = false)
  | 0 => .inr ⟨rfl, fun t h => by omega⟩
  | r + 1 => by
    unfold lastRunF
    by_cases h : runsF es (r : Int) = true
    · rw [if_pos h]
      exact .inl ⟨r, by omega, rfl, h, fun t h1 h2 => by omega⟩
    · rw [if_neg h]
      simp only [Bool.not_eq_true] at h
      rcases lastRun_spec es r with ⟨n, hn, e, h1, h2⟩ | ⟨e, h2⟩
      · exact .inl ⟨n, by omega, e, h1, fun t a b => by rcases Nat.lt_or_ge t r with c | c; (exact h2 t a c); (have e9 : t = r := (by omega)); rw [e9]; exact h⟩
      · exact .inr ⟨e, fun t b => by rcases Nat.lt_or_ge t r with c | c; (exact h2 t c); (have e9 : t = r := (by omega)); rw [e9]; exact h⟩
theorem isBack_own {seed : Int} {chs : List T3} {cks : List Ck} {k mS mF : Int} (hk : errK chs cks k = 0) (hS : -9223372036854775808 ≤ mS ∧ mS ≤ 9223372036854775807) (hF : 0 ≤ mF ∧ mF < 1000000000000000) {r : Nat} (hr : r ≤ 1000001) (h1 : 0 < r → laterAt seed chs cks k mS mF ((r : Int) - 1) = false) (h2 : r < 1000001 → laterAt seed chs cks k mS mF r = true) :
    IsBack seed chs cks k mS mF (lastRunF (ckAt cks k).es r).1 (lastRunF (ckAt cks k).es r).2 := by
  have lo : ∀ t : Int, 0 ≤ t → t < r → laterAt seed chs cks k mS mF t = false := fun t h0 hlt => by
    cases h : laterAt seed chs cks k mS mF t
    · rfl
    · have := later_mono (t := (r : Int) - 1) hk hS hF h0 (by omega) (by omega) h
      rw [h1 (by omega)] at this; cases this
  have hi : ∀ t : Int, (r : Int) ≤ t → t ≤ 1000000 → laterAt seed chs cks k mS mF t = true := fun t h0 hle => later_mono hk hS hF (by omega) h0 hle (h2 (by omega))
  rcases lastRun_spec (ckAt cks k).es r with ⟨n, hn, e, g1, g2⟩ | ⟨e, g2⟩
  · rw [e]
    refine .inl ⟨rfl, by simp, by simp only; omega, ⟨g1, lo _ (by simp) (by simp only; omega)⟩, fun t a b c => ?_⟩
    rcases Int.lt_or_le t r with d | d
    · obtain ⟨t', rfl⟩ : ∃ t' : Nat, t = t' := ⟨t.toNat, by omega⟩
      simp only at a
      have c1 := c.1
      rw [g2 t' (by omega) (by omega)] at c1
      cases c1
    · rw [Good, hi t d b] at c
      exact absurd c.2 (by simp)
  · rw [e]
    refine .inr ⟨rfl, rfl, fun t a b c => ?_⟩
    rcases Int.lt_or_le t r with d | d
    · obtain ⟨t', rfl⟩ : ∃ t' : Nat, t = t' := ⟨t.toNat, by omega⟩
      have c1 := c.1
      rw [g2 t' (by omega)] at c1
      cases c1
    · rw [Good, hi t d b] at c
      exact absurd c.2 (by simp)
set_option maxHeartbeats 4000000 in
set_option maxRecDepth 100000 in
theorem rbefore_calls (x : Ck) (Ae : Option Addr) (ce : Nat) (s : Int) (w : World) (hC : Kd.C k3 w Ae x.es.length x.es) (hE : EvOk x.es) (hs : 0 ≤ s ∧ s ≤ 1000000) (hst : stopN x.es s x.es.length ≤ s) :
    Calls Tryd.prog 75 #[ckV x Ae ce, .int .i64 s] w fun e w' => e = .returned (.int .i64 (stopN x.es s x.es.length - 1)) ∧ Below w.heap.size w w' := by
  have hv := Below.refl w.heap.size w
  obtain ⟨kd, ph, rt, dr, wh, wk, ht, ch, es⟩ := x
  simp only at hC hE hst ⊢
  have HSB := Aside0.mk (stop_b (s := s) hE)
  have hln : es.length ≤ 9223372036854775807 := hC.2.1
  have HC := Aside0.mk hC
  clear hC hE
  unfold ckV
  simp only
  obtain ⟨n, hn⟩ : ∃ n, es.length = n := ⟨_, rfl⟩
  rw [hn] at hln hst ⊢
  have HN := Aside0.mk hn
  clear hn
  have HST := Aside0.mk hst
  clear hst
  go_enter Tryd.func75, Tryd.ntmps75
  go_upto_region 1 with fail
  obtain ⟨w1, hw1⟩ : ∃ w1, w.alloc (.cells #[.int .i64 kd, .int .i64 ph, .int .i64 rt, .int .i64 dr, .int .i64 wh, .int .i64 wk, .int .i64 ht, .int .i64 ch, .slice Ae n ce] 88) = w1 := ⟨_, rfl⟩
  try rw [hw1]
  have hB : Below w.heap.size w w1 := by rw [← hw1]; exact (Below.refl _ w).alloc (by first | exact Nat.le_refl _ | (simp; done) | (simp; omega)) _
  have kx : w1.heap[w.heap.size]? = some (.cells #[.int .i64 kd, .int .i64 ph, .int .i64 rt, .int .i64 dr, .int .i64 wh, .int .i64 wk, .int .i64 ht, .int .i64 ch, .slice Ae n ce] 88 (0, 0)) := by rw [← hw1]; exact al_new _ _ _ (by first | rfl | (simp; done) | (simp; omega))
  have x0 : w1.cell? ⟨w.heap.size, 0, none⟩ = some (.int .i64 kd) := blk_cell kx 0
  have x1 : w1.cell? ⟨w.heap.size, 1, none⟩ = some (.int .i64 ph) := blk_cell kx 1
  have x2 : w1.cell? ⟨w.heap.size, 2, none⟩ = some (.int .i64 rt) := blk_cell kx 2
  have x3 : w1.cell? ⟨w.heap.size, 3, none⟩ = some (.int .i64 dr) := blk_cell kx 3
  have x4 : w1.cell? ⟨w.heap.size, 4, none⟩ = some (.int .i64 wh) := blk_cell kx 4
  have x5 : w1.cell? ⟨w.heap.size, 5, none⟩ = some (.int .i64 wk) := blk_cell kx 5
  have x6 : w1.cell? ⟨w.heap.size, 6, none⟩ = some (.int .i64 ht) := blk_cell kx 6
  have x7 : w1.cell? ⟨w.heap.size, 7, none⟩ = some (.int .i64 ch) := blk_cell kx 7
  have x8 : w1.cell? ⟨w.heap.size, 8, none⟩ = some (.slice Ae n ce) := blk_cell kx 8
  clear kx
  replace hv := hv.trans (hB.mono hv.size)
  clear hB hw1
  clear x0 x1 x2 x3 x4 x5 x6 x7
  have HV := Aside0.mk hv
  clear hv
  go_wp2
  go_loopw [6, 5] (fun v6 v5 wr => ∃ i : Nat, i ≤ n ∧ v6 = .int .i64 i ∧ v5 = .int .i64 (stopN es s i) ∧ wr = w1) (fun v _ _ => n - (intOf v).toNat)
  case atStart => exact ⟨0, Nat.zero_le _, rfl, rfl, rfl⟩
  case round =>
    obtain ⟨i, hi, rfl, rfl, rfl⟩ := hrel
    by_cases hlt : i < n
    · have dlt : (i : Int) < (n : Int) := by omega
      have hlt' : i < es.length := by have := HN.out; omega
      obtain ⟨ad, rfl, e0, e1, e2⟩ := C_3 (Kd.C_below HC.out HV.out) i hlt' hlt'
      have HX : Aside0 (stopN es s (i + 1) = if es[i].2.1 ≤ s ∧ es[i].1 = 3 then es[i].2.1 else stopN es s i) := ⟨by rw [stopN, getD_at hlt']⟩
      obtain ⟨⟨a, b, c⟩, hx⟩ : ∃ z, es[i] = z := ⟨_, rfl⟩
      rw [hx] at e0 e1 e2 HX
      simp only at e0 e1 e2 HX
      obtain ⟨v, hv⟩ : ∃ z, stopN es s i = z := ⟨_, rfl⟩
      rw [hv] at HX ⊢
      clear hx hv hlt'
      by_cases g1 : b ≤ s
      · have f1 : decide (b ≤ s) = true := decide_eq_true g1
        by_cases g2 : a = 3
        · have f2 : (a == 3) = true := beq_iff_eq.2 g2
          have HY : Aside0 (stopN es s (i + 1) = b) := ⟨by rw [HX.out, if_pos ⟨g1, g2⟩]⟩
          clear g1 HX
          go_wp2
          go_roundw
          case rel => exact ⟨i + 1, by omega, by go_num, by rw [HY.out], by first | rfl | trivial⟩
          case measure => simp [intOf]; omega
        · have f2 : (a == 3) = false := beq_eq_false_iff_ne.2 g2
          have HY : Aside0 (stopN es s (i + 1) = v) := ⟨by rw [HX.out, if_neg (fun h => g2 h.2)]⟩
          clear g1 HX
          go_wp2
          go_roundw
          case rel => exact ⟨i + 1, by omega, by go_num, by rw [HY.out], by first | rfl | trivial⟩
          case measure => simp [intOf]; omega
      · have f1 : decide (b ≤ s) = false := decide_eq_false g1
        have HY : Aside0 (stopN es s (i + 1) = v) := ⟨by rw [HX.out, if_neg (fun h => g1 h.1)]⟩
        clear g1 HX
        go_wp2
        go_roundw
        case rel => exact ⟨i + 1, by omega, by go_num, by rw [HY.out], by first | rfl | trivial⟩
        case measure => simp [intOf]; omega
    · have d1 : ¬ (i : Int) < (n : Int) := by omega
      obtain rfl : i = n := by omega
      have hst := HST.out
      have hsb := HSB.out i (by have := HN.out; omega)
      obtain ⟨v, hv⟩ : ∃ z, stopN es s i = z := ⟨_, rfl⟩
      rw [hv] at hst hsb ⊢
      have HVV := Aside0.mk hv
      clear hv
      have m1 : min v s = v := by omega
      have m2 : IntKind.i64.wrap (v - 1) = v - 1 := C.wr _ (by omega) (by omega)
      go_wp2
      go_ret
      exact ⟨by rw [HVV.out]; rfl, HV.out⟩
end Go.Proofs.YtlfnnalepdjagaaDoor.C
