/- The contract of the reference's Back. -/
import Derived.OwnWalk
import Derived.BigRegion
import Derived.WalkKit
import Derived.Deep.CutBlock
import Derived.Deep.RegionHeld
import Derived.Deep.RegionHeld3
import Derived.Test.YtlfnnalepdjagaaDoorCo
namespace Go.Proofs.YtlfnnalepdjagaaDoor.C
open Go.RowKit Go.Shelf Go.Maps Go.Proofs.YtlfnnalepdjagaaDoorW.PrintWords Go.Proofs.YtlfnnalepdjagaaDoorW.PrintLast Go.Proofs.YtlfnnalepdjagaaDoorW.PrintMore
set_option linter.unusedVariables false
set_option linter.unusedSimpArgs false
theorem errS_k0 (chs : List T3) (cks : List Ck) (k : Int) : errS chs cks k 0 = errK chs cks k := by
  unfold errS timedF
  by_cases h : errK chs cks k = 0
  · rw [if_pos h, if_pos (by omega), h]
  · rw [if_neg h]
theorem later_far {seed : Int} {chs : List T3} {cks : List Ck} {k mS mF t : Int} (hS : -9223372036854775808 ≤ mS ∧ mS < 1000000) (ht : mS + 1 < t) (ht2 : t ≤ 1000000) : laterAt seed chs cks k mS mF t = true := by
  unfold laterAt laterB
  rw [IntKind.wrap_i64, IntKind.wrap_i64, if_pos (by omega)]
  exact decide_eq_true (by omega)
set_option maxHeartbeats 4000000 in
set_option maxRecDepth 100000 in
theorem rBack_err (seed : Int) (Ah : Option Addr) (chc : Nat) (Ak : Option Addr) (ckc : Nat) (chs : List T3) (cks : List Ck) (k mS mF : Int) (w : World) (hW : WAt 90 w Ah Ak chs cks) (hE : errK chs cks k ≠ 0) :
    Calls Tryd.prog 39 #[woV seed Ah chs.length chc Ak cks.length ckc, .int .i64 k, .agg #[.int .i64 mS, .int .i64 mF]] w fun e w' => e = .returned (.tuple #[.int .i64 0, .int .i64 (errK chs cks k)]) ∧ Below w.heap.size w w' := by
  have hv := Below.refl w.heap.size w
  have c59 := fun W (hB : Below w.heap.size w W) => clocked_calls seed Ah chc Ak ckc chs cks k 0 W (hW.below hB)
  rw [errS_k0] at c59
  clear hW
  generalize errK chs cks k = E at *
  have d1 : (E == 0) = false := beq_eq_false_iff_ne.2 hE
  go_enter Tryd.func39, Tryd.ntmps39
  go_wp2_with fail
  obtain ⟨w1, hw1⟩ : ∃ w1, (w.alloc (.cells #[.int .u64 seed, .slice Ah chs.length chc, .slice Ak cks.length ckc] 26)).alloc (.cells #[.int .i64 mS, .int .i64 mF] 69) = w1 := ⟨_, rfl⟩
  try rw [hw1]
  have hB : Below w.heap.size w w1 := by rw [← hw1]; exact ((Below.refl _ w).alloc (by first | exact Nat.le_refl _ | (simp; done) | (simp; omega)) _).alloc (by first | exact Nat.le_refl _ | (simp; done) | (simp; omega)) _
  have kx : w1.heap[w.heap.size]? = some (.cells #[.int .u64 seed, .slice Ah chs.length chc, .slice Ak cks.length ckc] 26 (0, 0)) := by rw [← hw1]; exact al_old (al_new _ _ _ (by first | rfl | (simp; done) | (simp; omega)))
  have x0 : w1.cell? ⟨w.heap.size, 0, none⟩ = some (.int .u64 seed) := blk_cell kx 0
  have x1 : w1.cell? ⟨w.heap.size, 1, none⟩ = some (.slice Ah chs.length chc) := blk_cell kx 1
  have x2 : w1.cell? ⟨w.heap.size, 2, none⟩ = some (.slice Ak cks.length ckc) := blk_cell kx 2
  have km : w1.heap[w.heap.size + 1]? = some (.cells #[.int .i64 mS, .int .i64 mF] 69 (0, 0)) := by rw [← hw1]; exact al_new _ _ _ (by first | rfl | (simp; done) | (simp; omega))
  have m0 : w1.cell? ⟨w.heap.size + 1, 0, none⟩ = some (.int .i64 mS) := blk_cell km 0
  have m1 : w1.cell? ⟨w.heap.size + 1, 1, none⟩ = some (.int .i64 mF) := blk_cell km 1
  replace hv := hv.trans (hB.mono hv.size)
  clear hB hw1
  refine (c59 _ hv).mono ?_
  rintro en w2 ⟨rfl, hB⟩
  replace kx := blk_on hB kx
  replace km := blk_on hB km
  replace x0 := cell_on hB x0
  replace x1 := cell_on hB x1
  replace x2 := cell_on hB x2
  replace m0 := cell_on hB m0
  replace m1 := cell_on hB m1
  replace hv := hv.trans (hB.mono hv.size)
  clear hB c59
  go_wp2
  go_ret2
  exact ⟨rfl, hv⟩
set_option maxHeartbeats 4000000 in
set_option maxRecDepth 100000 in
theorem rBack_bad (seed : Int) (Ah : Option Addr) (chc : Nat) (Ak : Option Addr) (ckc : Nat) (chs : List T3) (cks : List Ck) (k mS mF : Int) (w : World) (hW : WAt 90 w Ah Ak chs cks) (hE : errK chs cks k = 0) (hF : ¬ (0 ≤ mF ∧ mF < 1000000000000000)) :
    Calls Tryd.prog 39 #[woV seed Ah chs.length chc Ak cks.length ckc, .int .i64 k, .agg #[.int .i64 mS, .int .i64 mF]] w fun e w' => e = .returned (.tuple #[.int .i64 0, .int .i64 1]) ∧ Below w.heap.size w w' := by
  have hv := Below.refl w.heap.size w
  have c59 := fun W (hB : Below w.heap.size w W) => clocked_calls seed Ah chc Ak ckc chs cks k 0 W (hW.below hB)
  rw [errS_k0] at c59
  rw [hE] at c59
  clear hW hE
  by_cases g : mF < 0
  · have f1 : decide (mF < 0) = true := decide_eq_true g
    go_enter Tryd.func39, Tryd.ntmps39
    go_wp2_with fail
    obtain ⟨w1, hw1⟩ : ∃ w1, (w.alloc (.cells #[.int .u64 seed, .slice Ah chs.length chc, .slice Ak cks.length ckc] 26)).alloc (.cells #[.int .i64 mS, .int .i64 mF] 69) = w1 := ⟨_, rfl⟩
    try rw [hw1]
    have hB : Below w.heap.size w w1 := by rw [← hw1]; exact ((Below.refl _ w).alloc (by first | exact Nat.le_refl _ | (simp; done) | (simp; omega)) _).alloc (by first | exact Nat.le_refl _ | (simp; done) | (simp; omega)) _
    have kx : w1.heap[w.heap.size]? = some (.cells #[.int .u64 seed, .slice Ah chs.length chc, .slice Ak cks.length ckc] 26 (0, 0)) := by rw [← hw1]; exact al_old (al_new _ _ _ (by first | rfl | (simp; done) | (simp; omega)))
    have x0 : w1.cell? ⟨w.heap.size, 0, none⟩ = some (.int .u64 seed) := blk_cell kx 0
    have x1 : w1.cell? ⟨w.heap.size, 1, none⟩ = some (.slice Ah chs.length chc) := blk_cell kx 1
    have x2 : w1.cell? ⟨w.heap.size, 2, none⟩ = some (.slice Ak cks.length ckc) := blk_cell kx 2
    have km : w1.heap[w.heap.size + 1]? = some (.cells #[.int .i64 mS, .int .i64 mF] 69 (0, 0)) := by rw [← hw1]; exact al_new _ _ _ (by first | rfl | (simp; done) | (simp; omega))
    have m0 : w1.cell? ⟨w.heap.size + 1, 0, none⟩ = some (.int .i64 mS) := blk_cell km 0
    have m1 : w1.cell? ⟨w.heap.size + 1, 1, none⟩ = some (.int .i64 mF) := blk_cell km 1
    replace hv := hv.trans (hB.mono hv.size)
    clear hB hw1
    refine (c59 _ hv).mono ?_
    rintro en w2 ⟨rfl, hB⟩
    replace kx := blk_on hB kx
    replace km := blk_on hB km
    replace x0 := cell_on hB x0
    replace x1 := cell_on hB x1
    replace x2 := cell_on hB x2
    replace m0 := cell_on hB m0
    replace m1 := cell_on hB m1
    replace hv := hv.trans (hB.mono hv.size)
    clear hB c59
    go_wp2
    go_ret2
    exact ⟨rfl, hv⟩
  · have f1 : decide (mF < 0) = false := decide_eq_false g
    have f2 : decide (mF ≥ 1000000000000000) = true := decide_eq_true (by omega)
    have f2' : decide (1000000000000000 ≤ mF) = true := decide_eq_true (by omega)
    go_enter Tryd.func39, Tryd.ntmps39
    go_wp2_with fail
    obtain ⟨w1, hw1⟩ : ∃ w1, (w.alloc (.cells #[.int .u64 seed, .slice Ah chs.length chc, .slice Ak cks.length ckc] 26)).alloc (.cells #[.int .i64 mS, .int .i64 mF] 69) = w1 := ⟨_, rfl⟩
    try rw [hw1]
    have hB : Below w.heap.size w w1 := by rw [← hw1]; exact ((Below.refl _ w).alloc (by first | exact Nat.le_refl _ | (simp; done) | (simp; omega)) _).alloc (by first | exact Nat.le_refl _ | (simp; done) | (simp; omega)) _
    have kx : w1.heap[w.heap.size]? = some (.cells #[.int .u64 seed, .slice Ah chs.length chc, .slice Ak cks.length ckc] 26 (0, 0)) := by rw [← hw1]; exact al_old (al_new _ _ _ (by first | rfl | (simp; done) | (simp; omega)))
    have x0 : w1.cell? ⟨w.heap.size, 0, none⟩ = some (.int .u64 seed) := blk_cell kx 0
    have x1 : w1.cell? ⟨w.heap.size, 1, none⟩ = some (.slice Ah chs.length chc) := blk_cell kx 1
    have x2 : w1.cell? ⟨w.heap.size, 2, none⟩ = some (.slice Ak cks.length ckc) := blk_cell kx 2
    have km : w1.heap[w.heap.size + 1]? = some (.cells #[.int .i64 mS, .int .i64 mF] 69 (0, 0)) := by rw [← hw1]; exact al_new _ _ _ (by first | rfl | (simp; done) | (simp; omega))
    have m0 : w1.cell? ⟨w.heap.size + 1, 0, none⟩ = some (.int .i64 mS) := blk_cell km 0
    have m1 : w1.cell? ⟨w.heap.size + 1, 1, none⟩ = some (.int .i64 mF) := blk_cell km 1
    replace hv := hv.trans (hB.mono hv.size)
    clear hB hw1
    refine (c59 _ hv).mono ?_
    rintro en w2 ⟨rfl, hB⟩
    replace kx := blk_on hB kx
    replace km := blk_on hB km
    replace x0 := cell_on hB x0
    replace x1 := cell_on hB x1
    replace x2 := cell_on hB x2
    replace m0 := cell_on hB m0
    replace m1 := cell_on hB m1
    replace hv := hv.trans (hB.mono hv.size)
    clear hB c59
    go_wp2
    go_ret2
    exact ⟨rfl, hv⟩
set_option maxHeartbeats 4000000 in
set_option maxRecDepth 100000 in
theorem rBack_ok (seed : Int) (Ah : Option Addr) (chc : Nat) (Ak : Option Addr) (ckc : Nat) (chs : List T3) (cks : List Ck) (k mS mF : Int) (w : World) (hW : WAt 90 w Ah Ak chs cks) (hE : errK chs cks k = 0) (hF : 0 ≤ mF ∧ mF < 1000000000000000) (hS : -9223372036854775808 ≤ mS ∧ mS ≤ 9223372036854775807) :
    Calls Tryd.prog 39 #[woV seed Ah chs.length chc Ak cks.length ckc, .int .i64 k, .agg #[.int .i64 mS, .int .i64 mF]] w fun e w' => ∃ v E : Int, e = .returned (.tuple #[.int .i64 v, .int .i64 E]) ∧ IsBack seed chs cks k mS mF v E ∧ Below w.heap.size w w' := by
  have hv := Below.refl w.heap.size w
  have c59 := fun W (hB : Below w.heap.size w W) => clocked_calls seed Ah chc Ak ckc chs cks k 0 W (hW.below hB)
  rw [errS_k0] at c59
  rw [hE] at c59
  have hk := errK_zero hE
  have HE := Aside0.mk hE
  clear hE
  obtain ⟨i, rfl⟩ : ∃ i : Nat, k = i := ⟨k.toNat, by omega⟩
  have hi : i < cks.length := by omega
  have hi2 : (i : Int) < (cks.length : Int) := by omega
  have hlk : cks.length ≤ 9223372036854775807 := hW.k.2.1
  have HOK := Aside0.mk hk.1
  have hEv := (hk.1.at hi).2.1
  have HEV := Aside0.mk hEv
  have HC := Aside0.mk hW.k
  have HW := Aside0.mk hW
  have HSH := Aside0.mk (fun (t : Int) (ht : 0 ≤ t ∧ t ≤ 1000000) => shown_tight (seed := seed) hk.1 hi ht)
  have HI := Aside0.mk hi
  have f1 : decide (mF < 0) = false := decide_eq_false (by omega)
  have f2 : decide (mF ≥ 1000000000000000) = false := decide_eq_false (by omega)
  have f2' : decide (1000000000000000 ≤ mF) = false := decide_eq_false (by omega)
  have HS := Aside0.mk hS
  obtain ⟨s0, hs0⟩ : ∃ s, (if mS < 1000000 then mS + 1 else 1000000) = s := ⟨_, rfl⟩
  have hs1 : s0 ≤ 1000000 := by rw [← hs0]; split <;> omega
  have HTOP : Aside0 (∀ t, s0 < t → t ≤ 1000000 → ¬ Good seed chs cks i mS mF t) := ⟨fun t a b c => by
    by_cases hm : mS < 1000000
    · rw [if_pos hm] at hs0
      have := later_far (seed := seed) (chs := chs) (cks := cks) (k := (i : Int)) (mF := mF) ⟨hS.1, hm⟩ (t := t) (by omega) b
      rw [Good, this] at c
      exact absurd c.2 (by simp)
    · rw [if_neg hm] at hs0; omega⟩
  have HS0 := Aside0.mk hs0
  have HF := Aside0.mk hF
  clear hs0 hk hEv hW hS hF
  go_enter Tryd.func39, Tryd.ntmps39
  go_wp2_with fail
  obtain ⟨w1, hw1⟩ : ∃ w1, (w.alloc (.cells #[.int .u64 seed, .slice Ah chs.length chc, .slice Ak cks.length ckc] 26)).alloc (.cells #[.int .i64 mS, .int .i64 mF] 69) = w1 := ⟨_, rfl⟩
  try rw [hw1]
  have hB : Below w.heap.size w w1 := by rw [← hw1]; exact ((Below.refl _ w).alloc (by first | exact Nat.le_refl _ | (simp; done) | (simp; omega)) _).alloc (by first | exact Nat.le_refl _ | (simp; done) | (simp; omega)) _
  have kx : w1.heap[w.heap.size]? = some (.cells #[.int .u64 seed, .slice Ah chs.length chc, .slice Ak cks.length ckc] 26 (0, 0)) := by rw [← hw1]; exact al_old (al_new _ _ _ (by first | rfl | (simp; done) | (simp; omega)))
  have x0 : w1.cell? ⟨w.heap.size, 0, none⟩ = some (.int .u64 seed) := blk_cell kx 0
  have x1 : w1.cell? ⟨w.heap.size, 1, none⟩ = some (.slice Ah chs.length chc) := blk_cell kx 1
  have x2 : w1.cell? ⟨w.heap.size, 2, none⟩ = some (.slice Ak cks.length ckc) := blk_cell kx 2
  have km : w1.heap[w.heap.size + 1]? = some (.cells #[.int .i64 mS, .int .i64 mF] 69 (0, 0)) := by rw [← hw1]; exact al_new _ _ _ (by first | rfl | (simp; done) | (simp; omega))
  have m0 : w1.cell? ⟨w.heap.size + 1, 0, none⟩ = some (.int .i64 mS) := blk_cell km 0
  have m1 : w1.cell? ⟨w.heap.size + 1, 1, none⟩ = some (.int .i64 mF) := blk_cell km 1
  replace hv := hv.trans (hB.mono hv.size)
  clear hB hw1
  refine (c59 _ hv).mono ?_
  rintro en w2 ⟨rfl, hB⟩
  replace kx := blk_on hB kx
  replace km := blk_on hB km
  replace x0 := cell_on hB x0
  replace x1 := cell_on hB x1
  replace x2 := cell_on hB x2
  replace m0 := cell_on hB m0
  replace m1 := cell_on hB m1
  replace hv := hv.trans (hB.mono hv.size)
  clear hB c59
  clear x0 x1 x2
  go_upto_if 30 with fail
  go_cut [9] from 10 to 79 (fun s9 wx => s9 = .int .i64 s0 ∧ wx = w2)
  case first =>
    have hs := HS.out
    by_cases h : mS < 1000000
    · have d1 : decide (mS < 1000000) = true := decide_eq_true h
      have d2 : IntKind.i64.wrap (mS + 1) = mS + 1 := C.wr _ (by omega) (by omega)
      have e : s0 = mS + 1 := by rw [← HS0.out, if_pos h]
      clear hs
      go_wp2
      go_meet
      exact ⟨by rw [e], rfl⟩
    · have d1 : decide (mS < 1000000) = false := decide_eq_false h
      have e : s0 = 1000000 := by rw [← HS0.out, if_neg h]
      clear hs
      go_wp2
      go_meet
      exact ⟨by rw [e], rfl⟩
  case rest =>
  obtain ⟨rfl, rfl⟩ := hcut
  rename World => wc
  have HKX := Aside0.mk kx
  have HKM := Aside0.mk km
  have HV := Aside0.mk hv
  clear kx km hv m0 m1 f1 f2 f2' HS0
  obtain ⟨c2, hc2⟩ : ∃ z, IntKind.i64.wrap (mS - 2) = z := ⟨_, rfl⟩
  go_wp2
  go_loopw [9] (fun v wr => ∃ s : Int, s ≤ 1000000 ∧ v = .int .i64 s ∧ Aside0 (∀ t, s < t → t ≤ 1000000 → ¬ Good seed chs cks i mS mF t) ∧ Aside0 (Below wc.heap.size wc wr)) (fun v _ => (intOf v + 1).toNat)
  case atStart => exact ⟨s0, hs1, rfl, HTOP, ⟨Below.refl _ _⟩⟩
  case round =>
    obtain ⟨s, hs9, rfl, HN, HB⟩ := hrel
    clear HTOP hs1
    have HV2 := Aside0.mk (HV.out.trans (HB.out.mono HV.out.size))
    have kx := blk_on HB.out HKX.out
    have km := blk_on HB.out HKM.out
    have x0 : wr.cell? ⟨w.heap.size, 0, none⟩ = some (.int .u64 seed) := blk_cell kx 0
    have x1 : wr.cell? ⟨w.heap.size, 1, none⟩ = some (.slice Ah chs.length chc) := blk_cell kx 1
    have x2 : wr.cell? ⟨w.heap.size, 2, none⟩ = some (.slice Ak cks.length ckc) := blk_cell kx 2
    have m0 : wr.cell? ⟨w.heap.size + 1, 0, none⟩ = some (.int .i64 mS) := blk_cell km 0
    have m1 : wr.cell? ⟨w.heap.size + 1, 1, none⟩ = some (.int .i64 mF) := blk_cell km 1
    clear kx km
    by_cases h0 : 0 ≤ s
    rotate_left
    · have d0 : decide (s ≥ 0) = false := decide_eq_false h0
      have d0' : decide (0 ≤ s) = false := decide_eq_false h0
      have HR : Aside0 (IsBack seed chs cks i mS mF 0 4) := ⟨.inr ⟨rfl, rfl, fun t a b => HN.out t (by omega) b⟩⟩
      clear h0 hs9
      go_wp2
      go_ret2
      exact ⟨0, 4, rfl, HR.out, HV2.out⟩
    · have d0 : decide (s ≥ 0) = true := decide_eq_true h0
      have d0' : decide (0 ≤ s) = true := decide_eq_true h0
      obtain ⟨ad, Ae, ce, rfl, hc0, hc1, hc2_, hc3, hc4, hc5, hc6, hc7, hc8, hle, hCe⟩ := C_ck (Kd.C_below HC.out HV2.out) i hi hi
      have HGD := Aside0.mk (show Good seed chs cks i mS mF s ↔ (runsF cks[i].es s = true ∧ laterAt seed chs cks i mS mF s = false) by unfold Good; rw [ckAt_of hi])
      have hwo := EvOk.what HEV.out
      have HEV2 := Aside0.mk (show EvOk cks[i].es from HEV.out)
      have HGT := Aside0.mk (fun (t : Int) => show Good seed chs cks i mS mF t → runsF cks[i].es t = true by intro h; have := h.1; rwa [ckAt_of hi] at this)
      obtain ⟨x, hx⟩ : ∃ z, cks[i] = z := ⟨_, rfl⟩
      rw [hx] at hc0 hc1 hc2_ hc3 hc4 hc5 hc6 hc7 hc8 hCe HGD hwo HEV2 HGT
      have HWO := Aside0.mk (show WhatOk x.es from hwo)
      have c68 := fun (W : World) (hB : Below wr.heap.size wr W) => running_calls x Ae ce s W (Kd.C_below hCe hB)
      have HCE := Aside0.mk hCe
      clear hx hle hCe hwo
      obtain ⟨r, hr⟩ : ∃ z, runsF x.es s = z := ⟨_, rfl⟩
      rw [hr] at c68 HGD
      have HRR := Aside0.mk hr
      clear hr
      cases r
      · have HN2 : Aside0 (∀ t, s - 1 < t → t ≤ 1000000 → ¬ Good seed chs cks i mS mF t) := ⟨fun t a b c => by
          rcases Int.lt_or_le s t with h | h
          · exact HN.out t h b c
          · have e : t = s := by omega
            rw [e, HGD.out] at c; exact absurd c.1 (by simp)⟩
        have v1 : IntKind.i64.wrap (s - 1) = s - 1 := C.wr _ (by omega) (by omega)
        have hSS : ∀ w', Below wr.heap.size wr w' → ((w'.cell? ⟨w.heap.size, 2, none⟩ = some (.slice (some ad) cks.length ckc) ∧ w'.cell? (ad.add (i * 9)) = some (.int .i64 x.kd) ∧ w'.cell? ⟨(ad.add (i * 9)).block, (ad.add (i * 9)).off + 1, none⟩ = some (.int .i64 x.ph) ∧ w'.cell? ⟨(ad.add (i * 9)).block, (ad.add (i * 9)).off + 2, none⟩ = some (.int .i64 x.rt) ∧ w'.cell? ⟨(ad.add (i * 9)).block, (ad.add (i * 9)).off + 3, none⟩ = some (.int .i64 x.dr) ∧ w'.cell? ⟨(ad.add (i * 9)).block, (ad.add (i * 9)).off + 4, none⟩ = some (.int .i64 x.wh) ∧ w'.cell? ⟨(ad.add (i * 9)).block, (ad.add (i * 9)).off + 5, none⟩ = some (.int .i64 x.wk) ∧ w'.cell? ⟨(ad.add (i * 9)).block, (ad.add (i * 9)).off + 6, none⟩ = some (.int .i64 x.ht) ∧ w'.cell? ⟨(ad.add (i * 9)).block, (ad.add (i * 9)).off + 7, none⟩ = some (.int .i64 x.ch) ∧ w'.cell? ⟨(ad.add (i * 9)).block, (ad.add (i * 9)).off + 8, none⟩ = some (.slice Ae x.es.length ce)) ∧ Below wr.heap.size wr w') := fun w' hB => ⟨⟨cell_on hB x2, cell_on hB hc0, cell_on hB hc1, cell_on hB hc2_, cell_on hB hc3, cell_on hB hc4, cell_on hB hc5, cell_on hB hc6, cell_on hB hc7, cell_on hB hc8⟩, hB⟩
        have hww : Below wr.heap.size wr wr.drew := (Below.refl _ _).drew
        go_upto_region 10 with fail
        refine wp_region_held_drew (S := fun w' => (w'.cell? ⟨w.heap.size, 2, none⟩ = some (.slice (some ad) cks.length ckc) ∧ w'.cell? (ad.add (i * 9)) = some (.int .i64 x.kd) ∧ w'.cell? ⟨(ad.add (i * 9)).block, (ad.add (i * 9)).off + 1, none⟩ = some (.int .i64 x.ph) ∧ w'.cell? ⟨(ad.add (i * 9)).block, (ad.add (i * 9)).off + 2, none⟩ = some (.int .i64 x.rt) ∧ w'.cell? ⟨(ad.add (i * 9)).block, (ad.add (i * 9)).off + 3, none⟩ = some (.int .i64 x.dr) ∧ w'.cell? ⟨(ad.add (i * 9)).block, (ad.add (i * 9)).off + 4, none⟩ = some (.int .i64 x.wh) ∧ w'.cell? ⟨(ad.add (i * 9)).block, (ad.add (i * 9)).off + 5, none⟩ = some (.int .i64 x.wk) ∧ w'.cell? ⟨(ad.add (i * 9)).block, (ad.add (i * 9)).off + 6, none⟩ = some (.int .i64 x.ht) ∧ w'.cell? ⟨(ad.add (i * 9)).block, (ad.add (i * 9)).off + 7, none⟩ = some (.int .i64 x.ch) ∧ w'.cell? ⟨(ad.add (i * 9)).block, (ad.add (i * 9)).off + 8, none⟩ = some (.slice Ae x.es.length ce)) ∧ Below wr.heap.size wr w') (by kernel_rfl) (hSS _ hww) (fun hHeld => ?_)
        refine wpAnyH_take (i := 0) (oi := { dst := some 36, op := Op.fieldAddr 26 (Operand.tmp 3) 2, type := 0, pos := "ref.go:355", after := #[], guard := none }) (v := ?_) rfl (by kernel_rfl) (by kernel_rfl) (by kernel_rfl) (fun _ _ _ h => h) (Or.inl ⟨by rfl, ?_⟩) (by assumption) ?_
        rotate_left 1
        ·(intro w_ hSw; (try dsimp only at hSw); go_simp; first | done | with_reducible rfl)
        (try simp only [Act.put, List.setIfInBounds_toArray, List.set_cons_zero, List.set_cons_succ])
        refine wpAnyH_take (i := 1) (oi := { dst := some 37, op := Op.load 24 (Operand.tmp 36), type := 24, pos := "ref.go:355", after := #[{ on := 0, ground := Ground.data }], guard := none }) (v := ?_) rfl (by kernel_rfl) (by kernel_rfl) (by kernel_rfl) (fun _ _ _ h => h) (Or.inl ⟨by rfl, ?_⟩) (by assumption) ?_
        rotate_left 1
        ·(intro w_ hSw; (try dsimp only at hSw); go_simp; first | done | with_reducible rfl)
        (try simp only [Act.put, List.setIfInBounds_toArray, List.set_cons_zero, List.set_cons_succ])
        refine wpAnyH_take (i := 2) (oi := { dst := some 38, op := Op.move (Operand.tmp 1), type := 3, pos := "ref.go:355", after := #[], guard := none }) (v := ?_) rfl (by kernel_rfl) (by kernel_rfl) (by kernel_rfl) (fun _ _ _ h => h) (Or.inl ⟨by rfl, ?_⟩) (by assumption) ?_
        rotate_left 1
        ·(intro w_ hSw; (try dsimp only at hSw); go_simp; first | done | with_reducible rfl)
        (try simp only [Act.put, List.setIfInBounds_toArray, List.set_cons_zero, List.set_cons_succ])
        refine wpAnyH_take (i := 3) (oi := { dst := some 39, op := Op.indexAddr 24 (Operand.tmp 37) (Operand.tmp 38), type := 0, pos := "ref.go:355", after := #[{ on := 1, ground := Ground.data }, { on := 2, ground := Ground.data }], guard := none }) (v := ?_) rfl (by kernel_rfl) (by kernel_rfl) (by kernel_rfl) (fun _ _ _ h => h) (Or.inl ⟨by rfl, ?_⟩) (by assumption) ?_
        rotate_left 1
        ·(intro w_ hSw; (try dsimp only at hSw); go_simp; first | done | with_reducible rfl)
        (try simp only [Act.put, List.setIfInBounds_toArray, List.set_cons_zero, List.set_cons_succ])
        refine wpAnyH_take (i := 4) (oi := { dst := some 40, op := Op.load 88 (Operand.tmp 39), type := 88, pos := "ref.go:355", after := #[{ on := 3, ground := Ground.data }], guard := none }) (v := ?_) rfl (by kernel_rfl) (by kernel_rfl) (by kernel_rfl) (fun _ _ _ h => h) (Or.inl ⟨by rfl, ?_⟩) (by assumption) ?_
        rotate_left 1
        ·(intro w_ hSw; (try dsimp only at hSw); go_simp; first | done | with_reducible rfl)
        (try simp only [Act.put, List.setIfInBounds_toArray, List.set_cons_zero, List.set_cons_succ])
        refine wpAnyH_take (i := 5) (oi := { dst := some 41, op := Op.move (Operand.tmp 9), type := 3, pos := "ref.go:355", after := #[], guard := none }) (v := ?_) rfl (by kernel_rfl) (by kernel_rfl) (by kernel_rfl) (fun _ _ _ h => h) (Or.inl ⟨by rfl, ?_⟩) (by assumption) ?_
        rotate_left 1
        ·(intro w_ hSw; (try dsimp only at hSw); go_simp; first | done | with_reducible rfl)
        (try simp only [Act.put, List.setIfInBounds_toArray, List.set_cons_zero, List.set_cons_succ])
        refine wpAnyH_ready (rs := [6]) (by kernel_rfl) (by simp) ?_
        refine AllReadyH.cons (o := { dst := some 42, op := Op.call { callee := Callee.value (Operand.func 68), args := #[Operand.tmp 40, Operand.tmp 41], argTypes := #[88, 3] }, type := 4, pos := "ref.go:355", after := #[{ on := 4, ground := Ground.data }, { on := 5, ground := Ground.data }], guard := none }) rfl (fun K hK => ?_) AllReadyH.nil
        go_simp
        with_reducible refine (c68 _ hww).mono ?_
        rintro e w' ⟨rfl, hB⟩
        refine hK.out _ _ ?_ (fun hHeld => ?_)
        ·exact hSS _ (hww.trans (hB.mono hww.size))
        clear hK K
        (try simp only [Act.put, List.setIfInBounds_toArray, List.set_cons_zero, List.set_cons_succ])
        refine wpAnyH_take (i := 7) (oi := { dst := some 43, op := Op.move (Operand.tmp 42), type := 4, pos := "ref.go:355", after := #[{ on := 6, ground := Ground.data }, { on := 6, ground := Ground.chain }], guard := none }) (v := ?_) rfl (by kernel_rfl) (by kernel_rfl) (by kernel_rfl) (fun _ _ _ h => h) (Or.inl ⟨by rfl, ?_⟩) (by assumption) ?_
        rotate_left 1
        ·(intro w_ hSw; (try dsimp only at hSw); go_simp; first | done | with_reducible rfl)
        (try simp only [Act.put, List.setIfInBounds_toArray, List.set_cons_zero, List.set_cons_succ])
        refine wpAnyH_take (i := 8) (oi := { dst := some 44, op := Op.move (Operand.tmp 9), type := 3, pos := "ref.go:355", after := #[{ on := 7, ground := Ground.guard }], guard := some (7, true) }) (v := undef) rfl (by kernel_rfl) (by kernel_rfl) (by kernel_rfl) (fun _ _ _ h => h) (Or.inr ⟨by rfl, rfl⟩) (by assumption) ?_
        (try simp only [Act.put, List.setIfInBounds_toArray, List.set_cons_zero, List.set_cons_succ])
        refine wpAnyH_take (i := 9) (oi := { dst := some 45, op := Op.load 26 (Operand.tmp 3), type := 26, pos := "ref.go:355", after := #[{ on := 7, ground := Ground.guard }], guard := some (7, true) }) (v := undef) rfl (by kernel_rfl) (by kernel_rfl) (by kernel_rfl) (fun _ _ _ h => h) (Or.inr ⟨by rfl, rfl⟩) (by assumption) ?_
        (try simp only [Act.put, List.setIfInBounds_toArray, List.set_cons_zero, List.set_cons_succ])
        refine wpAnyH_take (i := 10) (oi := { dst := some 46, op := Op.move (Operand.tmp 1), type := 3, pos := "ref.go:355", after := #[{ on := 7, ground := Ground.guard }], guard := some (7, true) }) (v := undef) rfl (by kernel_rfl) (by kernel_rfl) (by kernel_rfl) (fun _ _ _ h => h) (Or.inr ⟨by rfl, rfl⟩) (by assumption) ?_
        (try simp only [Act.put, List.setIfInBounds_toArray, List.set_cons_zero, List.set_cons_succ])
        refine wpAnyH_take (i := 11) (oi := { dst := some 47, op := Op.move (Operand.tmp 9), type := 3, pos := "ref.go:355", after := #[{ on := 7, ground := Ground.guard }], guard := some (7, true) }) (v := undef) rfl (by kernel_rfl) (by kernel_rfl) (by kernel_rfl) (fun _ _ _ h => h) (Or.inr ⟨by rfl, rfl⟩) (by assumption) ?_
        (try simp only [Act.put, List.setIfInBounds_toArray, List.set_cons_zero, List.set_cons_succ])
        refine wpAnyH_take (i := 12) (oi := { dst := some 48, op := Op.call { callee := Callee.value (Operand.func 70), args := #[Operand.tmp 45, Operand.tmp 46, Operand.tmp 47], argTypes := #[26, 3, 3] }, type := 3, pos := "ref.go:355", after := #[{ on := 9, ground := Ground.data }, { on := 10, ground := Ground.data }, { on := 11, ground := Ground.data }, { on := 7, ground := Ground.chain }, { on := 7, ground := Ground.guard }], guard := some (7, true) }) (v := undef) rfl (by kernel_rfl) (by kernel_rfl) (by kernel_rfl) (fun _ _ _ h => h) (Or.inr ⟨by rfl, rfl⟩) (by assumption) ?_
        (try simp only [Act.put, List.setIfInBounds_toArray, List.set_cons_zero, List.set_cons_succ])
        refine wpAnyH_take (i := 13) (oi := { dst := some 49, op := Op.call { callee := Callee.value (Operand.func 73), args := #[Operand.tmp 44, Operand.tmp 48], argTypes := #[3, 3] }, type := 69, pos := "ref.go:355", after := #[{ on := 8, ground := Ground.data }, { on := 12, ground := Ground.data }, { on := 12, ground := Ground.chain }, { on := 7, ground := Ground.guard }], guard := some (7, true) }) (v := undef) rfl (by kernel_rfl) (by kernel_rfl) (by kernel_rfl) (fun _ _ _ h => h) (Or.inr ⟨by rfl, rfl⟩) (by assumption) ?_
        (try simp only [Act.put, List.setIfInBounds_toArray, List.set_cons_zero, List.set_cons_succ])
        refine wpAnyH_take (i := 14) (oi := { dst := some 50, op := Op.load 69 (Operand.tmp 5), type := 69, pos := "ref.go:355", after := #[{ on := 7, ground := Ground.guard }], guard := some (7, true) }) (v := undef) rfl (by kernel_rfl) (by kernel_rfl) (by kernel_rfl) (fun _ _ _ h => h) (Or.inr ⟨by rfl, rfl⟩) (by assumption) ?_
        (try simp only [Act.put, List.setIfInBounds_toArray, List.set_cons_zero, List.set_cons_succ])
        refine wpAnyH_take (i := 15) (oi := { dst := some 51, op := Op.call { callee := Callee.value (Operand.func 74), args := #[Operand.tmp 49, Operand.tmp 50], argTypes := #[69, 69] }, type := 4, pos := "ref.go:355", after := #[{ on := 13, ground := Ground.data }, { on := 14, ground := Ground.data }, { on := 13, ground := Ground.chain }, { on := 7, ground := Ground.guard }], guard := some (7, true) }) (v := undef) rfl (by kernel_rfl) (by kernel_rfl) (by kernel_rfl) (fun _ _ _ h => h) (Or.inr ⟨by rfl, rfl⟩) (by assumption) ?_
        (try simp only [Act.put, List.setIfInBounds_toArray, List.set_cons_zero, List.set_cons_succ])
        refine wpAnyH_take (i := 16) (oi := { dst := some 52, op := Op.unOp UnOp.not 4 (Operand.tmp 51), type := 4, pos := "ref.go:355", after := #[{ on := 15, ground := Ground.data }, { on := 7, ground := Ground.guard }], guard := some (7, true) }) (v := undef) rfl (by kernel_rfl) (by kernel_rfl) (by kernel_rfl) (fun _ _ _ h => h) (Or.inr ⟨by rfl, rfl⟩) (by assumption) ?_
        (try simp only [Act.put, List.setIfInBounds_toArray, List.set_cons_zero, List.set_cons_succ])
        refine wpAnyH_take (i := 17) (oi := { dst := some 53, op := Op.pick (Operand.tmp 43) (Operand.tmp 52) (Operand.const (Value.bool false)), type := 4, pos := "ref.go:355", after := #[{ on := 7, ground := Ground.data }, { on := 16, ground := Ground.data }], guard := none }) (v := ?_) rfl (by kernel_rfl) (by kernel_rfl) (by kernel_rfl) (fun _ _ _ h => h) (Or.inl ⟨by rfl, ?_⟩) (by assumption) ?_
        rotate_left 1
        ·(intro w_ hSw; (try dsimp only at hSw); go_simp; first | done | with_reducible rfl)
        (try simp only [Act.put, List.setIfInBounds_toArray, List.set_cons_zero, List.set_cons_succ])
        refine wpAnyH_done (by kernel_rfl) ?_ _
        rename World => w5
        have hB5 := hHeld.2
        clear hHeld hSS hww
        replace x0 := cell_on hB5 x0
        replace x1 := cell_on hB5 x1
        replace x2 := cell_on hB5 x2
        replace m0 := cell_on hB5 m0
        replace m1 := cell_on hB5 m1
        replace hc0 := cell_on hB5 hc0
        replace hc1 := cell_on hB5 hc1
        replace hc2_ := cell_on hB5 hc2_
        replace hc3 := cell_on hB5 hc3
        replace hc4 := cell_on hB5 hc4
        replace hc5 := cell_on hB5 hc5
        replace hc6 := cell_on hB5 hc6
        replace hc7 := cell_on hB5 hc7
        replace hc8 := cell_on hB5 hc8
        have hst := stop_spec (s := s) HWO.out x.es.length (Nat.le_refl _) HRR.out
        have c75 := fun (W : World) (hB : Below wr.heap.size wr W) => rbefore_calls x Ae ce s W (Kd.C_below HCE.out hB) HEV2.out ⟨h0, hs9⟩ hst.1
        have hsb := stop_b (s := s) HEV2.out x.es.length (Nat.le_refl _)
        have HST := Aside0.mk hst
        have HN3 : Aside0 (∀ t, stopN x.es s x.es.length - 1 < t → t ≤ 1000000 → ¬ Good seed chs cks i mS mF t) := ⟨fun t a b c => by
          rcases Int.lt_or_le s t with h | h
          · exact HN.out t h b c
          · have h1 := HST.out.2 t (by omega) h
            have h2 := HGT.out t c
            rw [show runsN x.es t x.es.length = runsF x.es t from rfl, h2] at h1
            cases h1⟩
        obtain ⟨z, hz⟩ : ∃ z, stopN x.es s x.es.length = z := ⟨_, rfl⟩
        have hzs := hst.1
        rw [hz] at c75 hsb hzs
        have HZ := Aside0.mk hz
        clear hst hz
        have HB5 := Aside0.mk (HB.out.trans (hB5.mono HB.out.size))
        by_cases g : s < c2
        · have g1 : decide (s < c2) = true := decide_eq_true g
          go_wp2_with fail
          refine (c68 _ hB5).mono ?_
          rintro en w6 ⟨rfl, hB⟩
          have hB6 := hB5.trans (hB.mono hB5.size)
          have HB6 := Aside0.mk (HB5.out.trans (hB.mono HB5.out.size))
          replace x0 := cell_on hB x0
          replace x1 := cell_on hB x1
          replace x2 := cell_on hB x2
          replace m0 := cell_on hB m0
          replace m1 := cell_on hB m1
          replace hc0 := cell_on hB hc0
          replace hc1 := cell_on hB hc1
          replace hc2_ := cell_on hB hc2_
          replace hc3 := cell_on hB hc3
          replace hc4 := cell_on hB hc4
          replace hc5 := cell_on hB hc5
          replace hc6 := cell_on hB hc6
          replace hc7 := cell_on hB hc7
          replace hc8 := cell_on hB hc8
          clear hB c68
          go_wp2_with fail
          refine (c75 _ hB6).mono ?_
          rintro en w7 ⟨rfl, hB⟩
          have HB7 := Aside0.mk (HB6.out.trans (hB.mono HB6.out.size))
          clear hB c75
          go_wp2
          go_roundw
          case rel => exact ⟨z - 1, by omega, rfl, ⟨by have := HN3.out; rw [HZ.out] at this; exact this⟩, HB7⟩
          case measure => simp [intOf]; omega
        · have g1 : decide (s < c2) = false := decide_eq_false g
          go_wp2
          go_roundw
          case rel => exact ⟨s - 1, by omega, rfl, HN2, HB5⟩
          case measure => simp [intOf]; omega
      · have hsh := HSH.out s ⟨h0, hs9⟩
        have HLT := Aside0.mk (show (decide (mS < (momF s (shownF seed chs cks i s)).1) || (decide ((momF s (shownF seed chs cks i s)).1 = mS) && decide (mF < (momF s (shownF seed chs cks i s)).2))) = laterAt seed chs cks i mS mF s by unfold laterAt; exact after_later HS.out ⟨h0, hs9⟩ ⟨by omega, by omega⟩)
        have c70 := fun (W : World) (hB : Below wr.heap.size wr W) => rshown_calls seed Ah chc (some ad) ckc chs cks i s W (HW.out.below (HV2.out.trans (hB.mono HV2.out.size))) HOK.out hi ⟨h0, hs9⟩
        obtain ⟨V, hV⟩ : ∃ z, shownF seed chs cks i s = z := ⟨_, rfl⟩
        rw [hV] at hsh HLT c70
        have c73 := fun (W : World) => At_calls s V W (by omega) (by omega)
        clear hV hsh
        obtain ⟨M, hM⟩ : ∃ z, momF s V = z := ⟨_, rfl⟩
        rw [hM] at c73 HLT
        clear hM
        obtain ⟨q, f⟩ := M
        simp only at c73 HLT
        have c74 := fun (W : World) => After_calls q f mS mF W
        unfold afterF at c74
        rw [HLT.out] at c74
        obtain ⟨lt, hlt⟩ : ∃ z, laterAt seed chs cks i mS mF s = z := ⟨_, rfl⟩
        rw [hlt] at c74 HGD
        clear HLT hlt
        have v1 : IntKind.i64.wrap (s - 1) = s - 1 := C.wr _ (by omega) (by omega)
        have hSS : ∀ w', Below wr.heap.size wr w' → ((w'.cell? ⟨w.heap.size, 2, none⟩ = some (.slice (some ad) cks.length ckc) ∧ w'.cell? (ad.add (i * 9)) = some (.int .i64 x.kd) ∧ w'.cell? ⟨(ad.add (i * 9)).block, (ad.add (i * 9)).off + 1, none⟩ = some (.int .i64 x.ph) ∧ w'.cell? ⟨(ad.add (i * 9)).block, (ad.add (i * 9)).off + 2, none⟩ = some (.int .i64 x.rt) ∧ w'.cell? ⟨(ad.add (i * 9)).block, (ad.add (i * 9)).off + 3, none⟩ = some (.int .i64 x.dr) ∧ w'.cell? ⟨(ad.add (i * 9)).block, (ad.add (i * 9)).off + 4, none⟩ = some (.int .i64 x.wh) ∧ w'.cell? ⟨(ad.add (i * 9)).block, (ad.add (i * 9)).off + 5, none⟩ = some (.int .i64 x.wk) ∧ w'.cell? ⟨(ad.add (i * 9)).block, (ad.add (i * 9)).off + 6, none⟩ = some (.int .i64 x.ht) ∧ w'.cell? ⟨(ad.add (i * 9)).block, (ad.add (i * 9)).off + 7, none⟩ = some (.int .i64 x.ch) ∧ w'.cell? ⟨(ad.add (i * 9)).block, (ad.add (i * 9)).off + 8, none⟩ = some (.slice Ae x.es.length ce) ∧ w'.cell? ⟨w.heap.size + 1, 0, none⟩ = some (.int .i64 mS) ∧ w'.cell? ⟨w.heap.size + 1, 1, none⟩ = some (.int .i64 mF) ∧ w'.cell? ⟨w.heap.size, 0, none⟩ = some (.int .u64 seed) ∧ w'.cell? ⟨w.heap.size, 1, none⟩ = some (.slice Ah chs.length chc)) ∧ Below wr.heap.size wr w') := fun w' hB => ⟨⟨cell_on hB x2, cell_on hB hc0, cell_on hB hc1, cell_on hB hc2_, cell_on hB hc3, cell_on hB hc4, cell_on hB hc5, cell_on hB hc6, cell_on hB hc7, cell_on hB hc8, cell_on hB m0, cell_on hB m1, cell_on hB x0, cell_on hB x1⟩, hB⟩
        go_upto_region 10 with fail
        go_region_held3 (fun w' => (w'.cell? ⟨w.heap.size, 2, none⟩ = some (.slice (some ad) cks.length ckc) ∧ w'.cell? (ad.add (i * 9)) = some (.int .i64 x.kd) ∧ w'.cell? ⟨(ad.add (i * 9)).block, (ad.add (i * 9)).off + 1, none⟩ = some (.int .i64 x.ph) ∧ w'.cell? ⟨(ad.add (i * 9)).block, (ad.add (i * 9)).off + 2, none⟩ = some (.int .i64 x.rt) ∧ w'.cell? ⟨(ad.add (i * 9)).block, (ad.add (i * 9)).off + 3, none⟩ = some (.int .i64 x.dr) ∧ w'.cell? ⟨(ad.add (i * 9)).block, (ad.add (i * 9)).off + 4, none⟩ = some (.int .i64 x.wh) ∧ w'.cell? ⟨(ad.add (i * 9)).block, (ad.add (i * 9)).off + 5, none⟩ = some (.int .i64 x.wk) ∧ w'.cell? ⟨(ad.add (i * 9)).block, (ad.add (i * 9)).off + 6, none⟩ = some (.int .i64 x.ht) ∧ w'.cell? ⟨(ad.add (i * 9)).block, (ad.add (i * 9)).off + 7, none⟩ = some (.int .i64 x.ch) ∧ w'.cell? ⟨(ad.add (i * 9)).block, (ad.add (i * 9)).off + 8, none⟩ = some (.slice Ae x.es.length ce) ∧ w'.cell? ⟨w.heap.size + 1, 0, none⟩ = some (.int .i64 mS) ∧ w'.cell? ⟨w.heap.size + 1, 1, none⟩ = some (.int .i64 mF) ∧ w'.cell? ⟨w.heap.size, 0, none⟩ = some (.int .u64 seed) ∧ w'.cell? ⟨w.heap.size, 1, none⟩ = some (.slice Ah chs.length chc)) ∧ Below wr.heap.size wr w') (first | exact hSS _ (Below.refl _ _).drew | assumption | (have hh := ‹(_ ∧ _ ∧ _ ∧ _ ∧ _ ∧ _ ∧ _ ∧ _ ∧ _ ∧ _ ∧ _ ∧ _ ∧ _ ∧ _) ∧ Below wr.heap.size wr _›; exact hSS _ (hh.2.trans (hB.mono hh.2.size))))
          (first | (go_at_call 68; (first | (have hh := ‹(_ ∧ _ ∧ _ ∧ _ ∧ _ ∧ _ ∧ _ ∧ _ ∧ _ ∧ _ ∧ _ ∧ _ ∧ _ ∧ _) ∧ Below wr.heap.size wr _›; with_reducible refine (c68 _ hh.2).mono ?_) | with_reducible refine (c68 _ (Below.refl _ _).drew).mono ?_); rintro e w' ⟨rfl, hB⟩) | (go_at_call 70; (first | (have hh := ‹(_ ∧ _ ∧ _ ∧ _ ∧ _ ∧ _ ∧ _ ∧ _ ∧ _ ∧ _ ∧ _ ∧ _ ∧ _ ∧ _) ∧ Below wr.heap.size wr _›; with_reducible refine (c70 _ hh.2).mono ?_) | with_reducible refine (c70 _ (Below.refl _ _).drew).mono ?_); rintro e w' ⟨rfl, hB⟩) | (go_at_call 73; with_reducible refine (c73 _).mono ?_; rintro e w' ⟨rfl, hB⟩) | (go_at_call 74; with_reducible refine (c74 _).mono ?_; rintro e w' ⟨rfl, hB⟩))
        rename_i hHeld
        rename World => w5
        have hB5 := hHeld.2
        clear hHeld hSS c70 c73 c74
        replace x0 := cell_on hB5 x0
        replace x1 := cell_on hB5 x1
        replace x2 := cell_on hB5 x2
        replace m0 := cell_on hB5 m0
        replace m1 := cell_on hB5 m1
        replace hc0 := cell_on hB5 hc0
        replace hc1 := cell_on hB5 hc1
        replace hc2_ := cell_on hB5 hc2_
        replace hc3 := cell_on hB5 hc3
        replace hc4 := cell_on hB5 hc4
        replace hc5 := cell_on hB5 hc5
        replace hc6 := cell_on hB5 hc6
        replace hc7 := cell_on hB5 hc7
        replace hc8 := cell_on hB5 hc8
        have HB5 := Aside0.mk (HB.out.trans (hB5.mono HB.out.size))
        cases lt
        · have HR : Aside0 (IsBack seed chs cks i mS mF s 0) := ⟨.inl ⟨rfl, h0, hs9, HGD.out.2 (by simp), HN.out⟩⟩
          have HV5 := Aside0.mk (HV.out.trans (HB5.out.mono HV.out.size))
          go_wp2
          go_ret2
          exact ⟨s, 0, rfl, HR.out, HV5.out⟩
        · have HN2 : Aside0 (∀ t, s - 1 < t → t ≤ 1000000 → ¬ Good seed chs cks i mS mF t) := ⟨fun t a b c => by
            rcases Int.lt_or_le s t with h | h
            · exact HN.out t h b c
            · have e : t = s := by omega
              rw [e, HGD.out] at c; exact absurd c.2 (by simp)⟩
          by_cases g : s < c2
          · have g1 : decide (s < c2) = true := decide_eq_true g
            go_wp2_with fail
            refine (c68 _ hB5).mono ?_
            rintro en w6 ⟨rfl, hB⟩
            have HB6 := Aside0.mk (HB5.out.trans (hB.mono HB5.out.size))
            clear hB c68
            go_wp2
            go_roundw
            case rel => exact ⟨s - 1, by omega, rfl, HN2, HB6⟩
            case measure => simp [intOf]; omega
          · have g1 : decide (s < c2) = false := decide_eq_false g
            go_wp2
            go_roundw
            case rel => exact ⟨s - 1, by omega, rfl, HN2, HB5⟩
            case measure => simp [intOf]; omega
end Go.Proofs.YtlfnnalepdjagaaDoor.C
