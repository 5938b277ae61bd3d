/- Plain facts for WorldOrders: readings increase, and Back finds them. -/
import Derived.OwnWalk
import Derived.BigRegion
import Derived.Deep.RegionHeld3
import Derived.Test.YtlfnnalepdjagaaDoorAz
import Derived.Test.YtlfnnalepdjagaaDoorAx
namespace Go.Proofs.YtlfnnalepdjagaaDoor.C
open Go.RowKit Go.Shelf Go.Maps Go.Proofs.YtlfnnalepdjagaaDoorW.PrintWords Go.Proofs.YtlfnnalepdjagaaDoorW.PrintLast Go.Proofs.YtlfnnalepdjagaaDoorW.PrintMore
set_option linter.unusedVariables false
set_option linter.unusedSimpArgs false
theorem warm_tight {b sw p s : Int} (hw : 0 ≤ sw) (hp : 2 ≤ p) : b ≤ warmF b sw p s ∧ warmF b sw p s ≤ b + sw := by
  unfold warmF
  have h1 := Int.emod_nonneg s (b := p) (by omega)
  have h2 := Int.emod_lt_of_pos s (b := p) (by omega)
  obtain ⟨x, hx, hx0, hx1⟩ : ∃ x, (if p < 2 * (s % p) then p - s % p else s % p) = x ∧ 0 ≤ x ∧ 2 * x ≤ p := by
    split
    · exact ⟨_, rfl, by omega, by omega⟩
    · exact ⟨_, rfl, by omega, by omega⟩
  rw [hx]
  have h3 : 0 ≤ 2 * sw * x := Int.mul_nonneg (by omega) hx0
  have h4 : 2 * sw * x ≤ sw * p := by
    rw [show 2 * sw * x = sw * (2 * x) by rw [Int.mul_comm 2 sw, Int.mul_assoc]]
    exact Int.mul_le_mul_of_nonneg_left hx1 hw
  have h5 : 0 ≤ 2 * sw * x / p := Int.ediv_nonneg h3 (by omega)
  have h6 : 2 * sw * x / p ≤ sw := Int.ediv_le_of_le_mul (by omega) h4
  omega
theorem ht_tight {h t : Int} (hh : -1000000000 ≤ h ∧ h ≤ 1000000000) (ht : -100000 ≤ t ∧ t ≤ 100000) : -100000000000000 ≤ h * t ∧ h * t ≤ 100000000000000 := by
  have h1 : (h * t).natAbs = h.natAbs * t.natAbs := Int.natAbs_mul h t
  have h2 : h.natAbs * t.natAbs ≤ 1000000000 * 100000 := Nat.mul_le_mul (by omega) (by omega)
  omega
theorem still_tight {n : Nat} {x : Ck} {c : T3} {s : Int} (hO : CkOk n x) (hE : EvOk x.es) (hc : ChOk c) (hs : 0 ≤ s ∧ s ≤ 1000000) : -380000000000000 ≤ stillF x c s ∧ stillF x c s ≤ 380000000000000 := by
  have hb := rt_b hO
  have hph := hO.ph
  have hk := kick_b hE hs x.es.length (by omega)
  have hj := jump_b hE (s := s) x.es.length (by omega)
  have hf := hE.few
  have hrs := rt_s hb.1 hs
  have hdb := drift_b hb.2.1 hs
  have r1 := warm_tight (b := c.1) (s := s) hc.s.1 hc.p.1
  have r2 := warm_tight (b := c.1) (s := 0) hc.s.1 hc.p.1
  have hcs := hc.s
  have hht := ht_tight (h := x.ht) (t := warmF c.1 c.2.1 c.2.2 s - warmF c.1 c.2.1 c.2.2 0) hO.ht (by omega)
  unfold stillF rateF
  omega
theorem phase_tight {seed : Int} {chs : List T3} {cks : List Ck} {i : Nat} {s : Int} (h : WoOk chs cks) (hi : i < cks.length) (hs : 0 ≤ s ∧ s ≤ 1000000) : -390000000000000 ≤ phaseF seed chs cks i s ∧ phaseF seed chs cks i s ≤ 390000000000000 := by
  obtain ⟨hO, hEv, q, hq, hxq, hc⟩ := h.at hi
  rw [phaseF_of hi rfl hq hxq]
  have h1 := still_tight hO hEv hc hs
  have h2 := walked_b (seed := seed) (k := (i : Int)) (fr := 0) hO (Int.le_refl 0) hs
  omega
theorem shown_tight {seed : Int} {chs : List T3} {cks : List Ck} {i : Nat} {s : Int} (h : WoOk chs cks) (hi : i < cks.length) (hs : 0 ≤ s ∧ s ≤ 1000000) : -391000000000000 ≤ shownF seed chs cks i s ∧ shownF seed chs cks i s ≤ 391000000000000 := by
  have h1 := phase_tight (seed := seed) h hi hs
  obtain ⟨hO, hEv, q, hq, hxq, hc⟩ := h.at hi
  have h2 := white_b (s := s) (seed := seed) (k := (i : Int)) hO
  unfold shownF
  rw [ckAt_of hi]
  omega
/-- A reading, as one number. -/
theorem laterB_iff {mS mF s V : Int} (hm : -10 ≤ mS ∧ mS ≤ 2000000) (hF : 0 ≤ mF ∧ mF < 1000000000000000) (hs : 0 ≤ s ∧ s ≤ 2000000) (hV : -900000000000000 ≤ V ∧ V ≤ 900000000000000) :
    laterB mS mF s V = decide (mS * 1000000000000000 + mF < s * 1000000000000000 + V) := by
  unfold laterB momF
  rw [wr (mS - 1) (by omega) (by omega), wr (mS + 1) (by omega) (by omega)]
  simp only
  split
  · rw [decide_eq_decide]; omega
  · have e1 : (V / 1000000000000000) * 1000000000000000 + V % 1000000000000000 = V := by omega
    have e2 : 0 ≤ V % 1000000000000000 ∧ V % 1000000000000000 < 1000000000000000 := by omega
    generalize V / 1000000000000000 = q at *
    generalize V % 1000000000000000 = r at *
    rw [Bool.eq_iff_iff]
    simp only [Bool.or_eq_true, Bool.and_eq_true, decide_eq_true_eq]
    omega
/-- What is known of a clock that reads. -/
structure Reads_ (seed : Int) (chs : List T3) (cks : List Ck) (k s V : Int) : Prop where
  kz : errK chs cks k = 0
  sb : 0 ≤ s ∧ s ≤ 1000000
  v : V = shownF seed chs cks k s
  run : runsF (ckAt cks k).es s = true
  b : -391000000000000 ≤ V ∧ V ≤ 391000000000000
theorem reads_of {seed : Int} {chs : List T3} {cks : List Ck} {k s : Int} (h : errN chs cks k s = 0) : Reads_ seed chs cks k s (shownF seed chs cks k s) := by
  unfold errN at h
  split at h
  · rename_i hE
    split at h
    · rename_i hr
      have hz := errS_zero hE
      have hk := errK_zero hz.1
      obtain ⟨i, rfl⟩ : ∃ i : Nat, k = i := ⟨k.toNat, by omega⟩
      exact ⟨hz.1, hz.2, rfl, hr, shown_tight hk.1 (by omega) hz.2⟩
    · omega
  · rename_i hE; exact absurd h hE
theorem later_iff {seed : Int} {chs : List T3} {cks : List Ck} {k mS mF s : Int} (hk : errK chs cks k = 0) (hm : -10 ≤ mS ∧ mS ≤ 2000000) (hF : 0 ≤ mF ∧ mF < 1000000000000000) (hs : 0 ≤ s ∧ s ≤ 1000000) :
    laterAt seed chs cks k mS mF s = decide (mS * 1000000000000000 + mF < s * 1000000000000000 + shownF seed chs cks k s) := by
  have hz := errK_zero hk
  obtain ⟨i, rfl⟩ : ∃ i : Nat, k = i := ⟨k.toNat, by omega⟩
  have hb := shown_tight (seed := seed) (s := s) hz.1 (show i < cks.length by omega) hs
  unfold laterAt
  exact laterB_iff hm hF (by omega) (by omega)
end Go.Proofs.YtlfnnalepdjagaaDoor.C
