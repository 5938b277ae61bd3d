/- Plain facts for WorldOrders: readings increase, and Back finds them. -/
import Derived.OwnWalk
import Derived.BigRegion
import Derived.Deep.RegionHeld3
import Derived.Test.YtlfnnalepdjagaaDoorAz
import Derived.Test.YtlfnnalepdjagaaDoorAx
namespace Go.Proofs.YtlfnnalepdjagaaDoor.C
open Go.RowKit Go.Shelf Go.Maps Go.Proofs.YtlfnnalepdjagaaDoorW.PrintWords Go.Proofs.YtlfnnalepdjagaaDoorW.PrintLast Go.Proofs.YtlfnnalepdjagaaDoorW.PrintMore
set_option linter.unusedVariables false
set_option linter.unusedSimpArgs false
theorem warm_tight {b sw p s : Int} (hw : 0 ≤ sw) (hp : 2 ≤ p) : b ≤ warmF b sw p s ∧ warmF b sw p s ≤ b + sw := by
  unfold warmF
  have h1 := Int.emod_nonneg s (b := p) (by omega)
  have h2 := Int.emod_lt_of_pos s (b := p) (by omega)
  obtain ⟨x, hx, hx0, hx1⟩ : ∃ x, (if p < 2 * (s % p) then p - s % p else s % p) = x ∧ 0 ≤ x ∧ 2 * x ≤ p := by
    split
    · exact ⟨_, rfl, by omega, by omega⟩
    · exact ⟨_, rfl, by omega, by omega⟩
  rw [hx]
  have h3 : 0 ≤ 2 * sw * x := Int.mul_nonneg (by omega) hx0
  have h4 : 2 * sw * x ≤ sw * p := by
    rw [show 2 * sw * x = sw * (2 * x) by rw [Int.mul_comm 2 sw, Int.mul_assoc]]
    exact Int.mul_le_mul_of_nonneg_left hx1 hw
  have h5 : 0 ≤ 2 * sw * x / p := Int.ediv_nonneg h3 (by omega)
  have h6 : 2 * sw * x / p ≤ sw := Int.ediv_le_of_le_mul (by omega) h4
  omega
theorem ht_tight {h t : Int} (hh : -1000000000 ≤ h ∧ h ≤ 1000000000) (ht : -100000 ≤ t ∧ t ≤ 100000) : -100000000000000 ≤ h * t ∧ h * t ≤ 100000000000000 := by
  have h1 : (h * t).natAbs = h.natAbs * t.natAbs := Int.natAbs_mul h t
  have h2 : h.natAbs * t.natAbs ≤ 1000000000 * 100000 := Nat.mul_le_mul (by omega) (by omega)
  omega
theorem still_tight {n : Nat} {x : Ck} {c : T3} {s : Int} (hO : CkOk n x) (hE : EvOk x.es) (hc : ChOk c) (hs : 0 ≤ s ∧ s ≤ 1000000) : -380000000000000 ≤ stillF x c s ∧ stillF x c s ≤ 380000000000000 := by
  have hb := rt_b hO
  have hph := hO.ph
  have hk := kick_b hE hs x.es.length (by omega)
  have hj := jump_b hE (s := s) x.es.length (by omega)
  have hf := hE.few
  have hrs := rt_s hb.1 hs
  have hdb := drift_b hb.2.1 hs
  have r1 := warm_tight (b := c.1) (s := s) hc.s.1 hc.p.1
  have r2 := warm_tight (b := c.1) (s := 0) hc.s.1 hc.p.1
  have hcs := hc.s
  have hht := ht_tight (h := x.ht) (t := warmF c.1 c.2.1 c.2.2 s - warmF c.1 c.2.1 c.2.2 0) hO.ht (by omega)
  unfold stillF rateF
  omega
theorem phase_tight {seed : Int} {chs : List T3} {cks : List Ck} {i : Nat} {s : Int} (h : WoOk chs cks) (hi : i < cks.length) (hs : 0 ≤ s ∧ s ≤ 1000000) : -390000000000000 ≤ phaseF seed chs cks i s ∧ phaseF seed chs cks i s ≤ 390000000000000 := by
  obtain ⟨hO, hEv, q, hq, hxq, hc⟩ := h.at hi
  rw [phaseF_of hi rfl hq hxq]
  have h1 := still_tight hO hEv hc hs
  have h2 := walked_b (seed := seed) (k := (i : Int)) (fr := 0) hO (Int.le_refl 0) hs
  omega
theorem shown_tight {seed : Int} {chs : List T3} {cks : List Ck} {i : Nat} {s : Int} (h : WoOk chs cks) (hi : i < cks.length) (hs : 0 ≤ s ∧ s ≤ 1000000) : -391000000000000 ≤ shownF seed chs cks i s ∧ shownF seed chs cks i s ≤ 391000000000000 := by
  have h1 := phase_tight (seed := seed) h hi hs
  obtain ⟨hO, hEv, q, hq, hxq, hc⟩ := h.at hi
  have h2 := white_b (s := s) (seed := seed) (k := (i : Int)) hO
  unfold shownF
  rw [ckAt_of hi]
  omega
/-- A reading, as one number. -/
theorem laterB_iff {mS mF s V : Int} (hm : -10 ≤ mS ∧ mS ≤ 2000000) (hF : 0 ≤ mF ∧ mF < 1000000000000000) (hs : 0 ≤ s ∧ s ≤ 2000000) (hV : -900000000000000 ≤ V ∧ V ≤ 900000000000000) :
    laterB mS mF s V = decide (mS * 1000000000000000 + mF < s * 1000000000000000 + V) := by
  unfold laterB momF
  rw [wr (mS - 1) (by omega) (by omega), wr (mS + 1) (by omega) (by omega)]
  simp only
  split
  · rw [decide_eq_decide]; omega
  · have e1 : (V / 1000000000000000) * 1000000000000000 + V % 1000000000000000 = V := by omega
    have e2 : 0 ≤ V % 1000000000000000 ∧ V % 1000000000000000 < 1000000000000000 := by omega
    generalize V / 1000000000000000 = q at *
    generalize V % 1000000000000000 = r at *
    rw [Bool.eq_iff_iff]
    simp only [Bool.or_eq_true, Bool.and_eq_true, decide_eq_true_eq]
    omega
def beforeF (m n : Int × Int) : Bool := decide (m.1 < n.1) || (decide (m.1 = n.1) && decide (m.2 < n.2))
theorem before_iff (a b V W : Int) : beforeF (momF a V) (momF b W) = decide (a * 1000000000000000 + V < b * 1000000000000000 + W) := by
  unfold beforeF momF
  simp only
  have e1 : (V / 1000000000000000) * 1000000000000000 + V % 1000000000000000 = V := by omega
  have e2 : 0 ≤ V % 1000000000000000 ∧ V % 1000000000000000 < 1000000000000000 := by omega
  have e3 : (W / 1000000000000000) * 1000000000000000 + W % 1000000000000000 = W := by omega
  have e4 : 0 ≤ W % 1000000000000000 ∧ W % 1000000000000000 < 1000000000000000 := by omega
  generalize V / 1000000000000000 = q at *
  generalize V % 1000000000000000 = r at *
  generalize W / 1000000000000000 = q' at *
  generalize W % 1000000000000000 = r' at *
  rw [Bool.eq_iff_iff]
  simp only [Bool.or_eq_true, Bool.and_eq_true, decide_eq_true_eq]
  omega
theorem lastRun_cases (es : List T3) : ∀ r, (∃ n : Nat, n < r ∧ lastRunF es r = ((n : Int), 0)) ∨ lastRunF es r = (0, 4)
  | 0 => .inr rfl
  | r + 1 => by
    unfold lastRunF
    split
    · exact .inl ⟨r, by omega, rfl⟩
    · rcases lastRun_cases es r with ⟨n, hn, e⟩ | e
      · exact .inl ⟨n, by omega, e⟩
      · exact .inr e
/-- What is known of a clock that reads. -/
structure Reads_ (seed : Int) (chs : List T3) (cks : List Ck) (k s V : Int) : Prop where
  kz : errK chs cks k = 0
  sb : 0 ≤ s ∧ s ≤ 1000000
  v : V = shownF seed chs cks k s
  run : runsF (ckAt cks k).es s = true
  b : -391000000000000 ≤ V ∧ V ≤ 391000000000000
theorem reads_of {seed : Int} {chs : List T3} {cks : List Ck} {k s : Int} (h : errN chs cks k s = 0) : Reads_ seed chs cks k s (shownF seed chs cks k s) := by
  unfold errN at h
  split at h
  · rename_i hE
    split at h
    · rename_i hr
      have hz := errS_zero hE
      have hk := errK_zero hz.1
      obtain ⟨i, rfl⟩ : ∃ i : Nat, k = i := ⟨k.toNat, by omega⟩
      exact ⟨hz.1, hz.2, rfl, hr, shown_tight hk.1 (by omega) hz.2⟩
    · omega
  · rename_i hE; exact absurd h hE
theorem later_iff {seed : Int} {chs : List T3} {cks : List Ck} {k mS mF s : Int} (hk : errK chs cks k = 0) (hm : -10 ≤ mS ∧ mS ≤ 2000000) (hF : 0 ≤ mF ∧ mF < 1000000000000000) (hs : 0 ≤ s ∧ s ≤ 1000000) :
    laterAt seed chs cks k mS mF s = decide (mS * 1000000000000000 + mF < s * 1000000000000000 + shownF seed chs cks k s) := by
  have hz := errK_zero hk
  obtain ⟨i, rfl⟩ : ∃ i : Nat, k = i := ⟨k.toNat, by omega⟩
  have hb := shown_tight (seed := seed) (s := s) hz.1 (show i < cks.length by omega) hs
  unfold laterAt
  exact laterB_iff hm hF (by omega) (by omega)
/-- Readings increase. -/
theorem reading_lt {seed : Int} {chs : List T3} {cks : List Ck} {k a b V W : Int} (ha : Reads_ seed chs cks k a V) (hb : Reads_ seed chs cks k b W) : (decide (a * 1000000000000000 + V < b * 1000000000000000 + W) = decide (a < b)) := by
  have h1 := ha.b
  have h2 := hb.b
  have hv := ha.v
  have hw := hb.v
  rw [decide_eq_decide]
  rcases Int.lt_trichotomy a b with h | h | h
  · omega
  · subst h
    rw [← hv] at hw
    omega
  · omega
theorem find_lt {seed : Int} {chs : List T3} {cks : List Ck} {k a V : Int} (ha : Reads_ seed chs cks k a V) (M : Int) (hM : (momF a V).1 * 1000000000000000 + M ≤ a * 1000000000000000 + V) (h0 : 0 ≤ M ∧ M < 1000000000000000) {r : Nat} (hr : r ≤ 1000001) (h1 : 0 < r → laterAt seed chs cks k (momF a V).1 M ((r : Int) - 1) = false) (h2 : r < 1000001 → laterAt seed chs cks k (momF a V).1 M r = true) :
    ((momF a V).1 * 1000000000000000 + M < a * 1000000000000000 + V → (r : Int) ≤ a) ∧ ((momF a V).1 * 1000000000000000 + M = a * 1000000000000000 + V → (r : Int) = a + 1) := by
  have hb := ha.b
  have hs := ha.sb
  have hz := errK_zero ha.kz
  have hm1 : -10 ≤ (momF a V).1 ∧ (momF a V).1 ≤ 2000000 := by unfold momF; simp only; omega
  have e1 := fun (s : Int) (hs : 0 ≤ s ∧ s ≤ 1000000) => later_iff (seed := seed) (s := s) ha.kz hm1 h0 hs
  have bd := fun (s : Int) (hs : 0 ≤ s ∧ s ≤ 1000000) => show -391000000000000 ≤ shownF seed chs cks k s ∧ shownF seed chs cks k s ≤ 391000000000000 by
    obtain ⟨i, rfl⟩ : ∃ i : Nat, k = i := ⟨k.toNat, by omega⟩
    exact shown_tight hz.1 (by omega) hs
  have hv := ha.v
  have k1 : 0 < r → ¬ (momF a V).1 * 1000000000000000 + M < ((r : Int) - 1) * 1000000000000000 + shownF seed chs cks k ((r : Int) - 1) := fun h => by
    have := h1 h
    rw [e1 _ (by omega)] at this
    exact of_decide_eq_false this
  have k2 : r < 1000001 → (momF a V).1 * 1000000000000000 + M < (r : Int) * 1000000000000000 + shownF seed chs cks k r := fun h => by
    have := h2 h
    rw [e1 _ (by omega)] at this
    exact of_decide_eq_true this
  have ba := bd a hs
  constructor
  · intro hlt
    rcases Int.lt_or_le a r with h | h
    · have := k1 (by omega)
      have bb := bd ((r : Int) - 1) (by omega)
      rcases Int.lt_or_le a ((r : Int) - 1) with h' | h'
      · omega
      · have e : (r : Int) - 1 = a := by omega
        rw [e, ← hv] at this
        omega
    · exact h
  · intro heq
    have hle : a < (r : Int) := by
      rcases Int.lt_or_le a r with h | h
      · exact h
      · exfalso
        have := k2 (by omega)
        have bb := bd (r : Int) (by omega)
        rcases Int.lt_or_le (r : Int) a with h' | h'
        · omega
        · have e : (r : Int) = a := by omega
          rw [e, ← hv] at this
          omega
    have := k1 (by omega)
    have bb := bd ((r : Int) - 1) (by omega)
    rcases Int.lt_or_le a ((r : Int) - 1) with h' | h'
    · omega
    · omega
theorem mom_split (a V : Int) : (momF a V).1 * 1000000000000000 + (momF a V).2 = a * 1000000000000000 + V ∧ 0 ≤ (momF a V).2 ∧ (momF a V).2 < 1000000000000000 := by
  unfold momF; simp only; omega
theorem find_eq {seed : Int} {chs : List T3} {cks : List Ck} {k a V : Int} (ha : Reads_ seed chs cks k a V) {r : Nat} (hr : r ≤ 1000001) (h1 : 0 < r → laterAt seed chs cks k (momF a V).1 (momF a V).2 ((r : Int) - 1) = false) (h2 : r < 1000001 → laterAt seed chs cks k (momF a V).1 (momF a V).2 r = true) : lastRunF (ckAt cks k).es r = (a, 0) := by
  have hm := mom_split a V
  have h := (find_lt ha (momF a V).2 (by omega) hm.2 hr h1 h2).2 hm.1
  obtain ⟨n, rfl⟩ : ∃ n, r = n + 1 := ⟨r - 1, by have := ha.sb; omega⟩
  have e : (n : Int) = a := by omega
  unfold lastRunF
  rw [e, if_pos ha.run]
theorem find_before {seed : Int} {chs : List T3} {cks : List Ck} {k a V : Int} (ha : Reads_ seed chs cks k a V) (hp : 0 < (momF a V).2) {r : Nat} (hr : r ≤ 1000001) (h1 : 0 < r → laterAt seed chs cks k (momF a V).1 ((momF a V).2 - 1) ((r : Int) - 1) = false) (h2 : r < 1000001 → laterAt seed chs cks k (momF a V).1 ((momF a V).2 - 1) r = true) :
    (∃ n : Int, n < a ∧ lastRunF (ckAt cks k).es r = (n, 0)) ∨ lastRunF (ckAt cks k).es r = (0, 4) := by
  have hm := mom_split a V
  have h := (find_lt ha ((momF a V).2 - 1) (by omega) (by omega) hr h1 h2).1 (by omega)
  rcases lastRun_cases (ckAt cks k).es r with ⟨n, hn, e⟩ | e
  · exact .inl ⟨n, by omega, e⟩
  · exact .inr e
end Go.Proofs.YtlfnnalepdjagaaDoor.C
