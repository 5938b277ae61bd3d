/- The contract of Same, of a world and its own. -/
import Derived.OwnWalk
import Derived.BigRegion
import Derived.BigQuiet
import Derived.Deep.QuietTactic
import Derived.WalkKit
import Derived.WalkSmall
import Derived.Deep.CutBlock
import Derived.Test.YtlfnnalepdjagaaDoorWX
import Derived.Deep.RegionHeld3
import Derived.Test.YtlfnnalepdjagaaDoorAv
namespace Go.Proofs.YtlfnnalepdjagaaDoor.C
open Go.RowKit Go.Shelf Go.Maps Go.Proofs.YtlfnnalepdjagaaDoorW.PrintWords Go.Proofs.YtlfnnalepdjagaaDoorW.PrintLast Go.Proofs.YtlfnnalepdjagaaDoorW.PrintMore
set_option linter.unusedVariables false
set_option linter.unusedSimpArgs false
theorem eqA85 (d : Nat) (w : World) (x0 y0 x1 y1 x2 y2 : Int) :
    (Op.equalIn (d + 2) 85 (.agg #[.int .i64 x0, .int .i64 x1, .int .i64 x2]) (.agg #[.int .i64 y0, .int .i64 y1, .int .i64 y2])).run Tryd.prog w = .ok (x0 == y0 && (x1 == y1 && (x2 == y2))) w := by
  refine eqA_of Tryd.underlying85 (by kernel_rfl) ?_
  refine eqf_cons (by rfl) (by go_simp; rfl) (by go_simp; rfl) (by go_simp) ?_
  refine eqf_cons (by rfl) (by go_simp; rfl) (by go_simp; rfl) (by go_simp) ?_
  exact eqf_last (by rfl) (by go_simp; rfl) (by go_simp; rfl) (by go_simp)
attribute [local go_sem high] eqA85
set_option maxHeartbeats 4000000 in
set_option maxRecDepth 100000 in
theorem Same_calls (seed : Int) (A1 : Option Addr) (k1 : Nat) (A2 : Option Addr) (k2 : Nat) (B1 : Option Addr) (l1 : Nat) (B2 : Option Addr) (l2 : Nat) (chs : List T3) (cks : List Ck) (w : World) (hW : WAt 51 w A1 A2 chs cks) (hV : WAt 90 w B1 B2 chs cks) :
    Calls Tryd.prog 33 #[woV seed A1 chs.length k1 A2 cks.length k2, woV seed B1 chs.length l1 B2 cks.length l2] w fun e w' => e = .returned (.bool true) ∧ Below w.heap.size w w' := by
  have hv := Below.refl w.heap.size w
  have hlh : chs.length ≤ 9223372036854775807 := hW.h.2.1
  have hlk : cks.length ≤ 9223372036854775807 := hW.k.2.1
  have HA1 := Aside0.mk hW.h
  have HA2 := Aside0.mk hW.k
  have HB1 := Aside0.mk hV.h
  have HB2 := Aside0.mk hV.k
  clear hW hV
  go_enter Tryd.func33, Tryd.ntmps33
  go_upto_block 0 with fail
  obtain ⟨w1, hw1⟩ : ∃ w1, (w.alloc (.cells #[.int .u64 seed, .slice A1 chs.length k1, .slice A2 cks.length k2] 32)).alloc (.cells #[.int .u64 seed, .slice B1 chs.length l1, .slice B2 cks.length l2] 26) = w1 := ⟨_, rfl⟩
  try rw [hw1]
  have hB : Below w.heap.size w w1 := by rw [← hw1]; exact ((Below.refl _ w).alloc (by first | exact Nat.le_refl _ | (simp; done) | (simp; omega)) _).alloc (by first | exact Nat.le_refl _ | (simp; done) | (simp; omega)) _
  have kx : w1.heap[w.heap.size]? = some (.cells #[.int .u64 seed, .slice A1 chs.length k1, .slice A2 cks.length k2] 32 (0, 0)) := by rw [← hw1]; exact al_old (al_new _ _ _ (by first | rfl | (simp; done) | (simp; omega)))
  have x0 : w1.cell? ⟨w.heap.size, 0, none⟩ = some (.int .u64 seed) := blk_cell kx 0
  have x1 : w1.cell? ⟨w.heap.size, 1, none⟩ = some (.slice A1 chs.length k1) := blk_cell kx 1
  have x2 : w1.cell? ⟨w.heap.size, 2, none⟩ = some (.slice A2 cks.length k2) := blk_cell kx 2
  have ky : w1.heap[w.heap.size + 1]? = some (.cells #[.int .u64 seed, .slice B1 chs.length l1, .slice B2 cks.length l2] 26 (0, 0)) := by rw [← hw1]; exact al_new _ _ _ (by first | rfl | (simp; done) | (simp; omega))
  have y0 : w1.cell? ⟨w.heap.size + 1, 0, none⟩ = some (.int .u64 seed) := blk_cell ky 0
  have y1 : w1.cell? ⟨w.heap.size + 1, 1, none⟩ = some (.slice B1 chs.length l1) := blk_cell ky 1
  have y2 : w1.cell? ⟨w.heap.size + 1, 2, none⟩ = some (.slice B2 cks.length l2) := blk_cell ky 2
  replace hv := hv.trans (hB.mono hv.size)
  clear hB hw1
  clear x0 x1 x2 y0 y1 y2
  have HKX := Aside0.mk kx
  have HKY := Aside0.mk ky
  have HV := Aside0.mk hv
  clear kx ky hv
  go_wp2
  go_loopw [5] (fun v wr => ∃ i : Nat, i ≤ chs.length ∧ v = .int .i64 i ∧ Aside0 (Below w1.heap.size w1 wr)) (fun v _ => chs.length - (intOf v).toNat)
  case atStart => exact ⟨0, Nat.zero_le _, rfl, ⟨Below.refl _ _⟩⟩
  case round =>
    obtain ⟨i, hi, rfl, HB⟩ := hrel
    have HV2 := Aside0.mk (HV.out.trans (HB.out.mono HV.out.size))
    have kx := blk_on HB.out HKX.out
    have ky := blk_on HB.out HKY.out
    have x1 : wr.cell? ⟨w.heap.size, 1, none⟩ = some (.slice A1 chs.length k1) := blk_cell kx 1
    have y1 : wr.cell? ⟨w.heap.size + 1, 1, none⟩ = some (.slice B1 chs.length l1) := blk_cell ky 1
    clear kx ky
    by_cases hlt : i < chs.length
    · have dlt : (i : Int) < (chs.length : Int) := by omega
      obtain ⟨ad, rfl, a0, a1, a2⟩ := C_3 (Kd.C_below HA1.out HV2.out) i hlt hlt
      obtain ⟨bd, rfl, b0, b1, b2⟩ := C_3 (Kd.C_below HB1.out HV2.out) i hlt hlt
      obtain ⟨⟨a, b, c⟩, hx⟩ : ∃ x, chs[i] = x := ⟨_, rfl⟩
      rw [hx] at a0 a1 a2 b0 b1 b2
      simp only at a0 a1 a2 b0 b1 b2
      clear hx
      go_wp2_with fail
      go_quiet (fail)
      go_wp2
      go_roundw
      case rel => exact ⟨i + 1, by omega, by go_num, ⟨below_drewN HB.out _⟩⟩
      case measure => simp [intOf]; omega
    · have d1 : ¬ (i : Int) < (chs.length : Int) := by omega
      clear hlt
      go_upto_block 2 with fail
      clear x1 y1 d1
      rename World => wa
      go_wp2
      go_loopw [6] (fun v wr => ∃ i : Nat, i ≤ cks.length ∧ v = .int .i64 i ∧ Aside0 (Below w1.heap.size w1 wr)) (fun v _ => cks.length - (intOf v).toNat)
      case atStart => exact ⟨0, Nat.zero_le _, rfl, HB⟩
      case round =>
        clear HV2 HB hi
        obtain ⟨i2, hi, rfl, HB⟩ := hrel
        have HV2 := Aside0.mk (HV.out.trans (HB.out.mono HV.out.size))
        have kx := blk_on HB.out HKX.out
        have ky := blk_on HB.out HKY.out
        have x2 : wr.cell? ⟨w.heap.size, 2, none⟩ = some (.slice A2 cks.length k2) := blk_cell kx 2
        have y2 : wr.cell? ⟨w.heap.size + 1, 2, none⟩ = some (.slice B2 cks.length l2) := blk_cell ky 2
        have hzx := blk_lt kx
        have hzy := blk_lt ky
        clear kx ky
        by_cases hlt : i2 < cks.length
        · have dlt : (i2 : Int) < (cks.length : Int) := by omega
          obtain ⟨ad, Ae, ce, rfl, a0, a1, a2, a3, a4, a5, a6, a7, a8, hle, hCe⟩ := C_ck (Kd.C_below HA2.out HV2.out) i2 hlt hlt
          obtain ⟨bd, Be, de, rfl, b0, b1, b2, b3, b4, b5, b6, b7, b8, hle2, hCe2⟩ := C_ck (Kd.C_below HB2.out HV2.out) i2 hlt hlt
          have zad := World.block_lt_of_cell? _ _ a0
          have zbd := World.block_lt_of_cell? _ _ b0
          obtain ⟨x, hx⟩ : ∃ x, cks[i2] = x := ⟨_, rfl⟩
          rw [hx] at a0 a1 a2 a3 a4 a5 a6 a7 a8 hCe b0 b1 b2 b3 b4 b5 b6 b7 b8 hCe2
          have HCE := Aside0.mk hCe
          have HCE2 := Aside0.mk hCe2
          have hne9 : x.es.length ≤ 9223372036854775807 := hCe.2.1
          clear hx hle hle2 hCe hCe2
          go_upto_region 11 with fail
          go_cut [7, 8] from 58 to 68 (fun s7 s8 wx => ∃ g1 g2 : Nat, s7 = .pointer (some ⟨g1, 0, none⟩) ∧ s8 = .pointer (some ⟨g2, 0, none⟩) ∧ wx.heap[g1]? = some (.cells #[.int .i64 x.kd, .int .i64 x.ph, .int .i64 x.rt, .int .i64 x.dr, .int .i64 x.wh, .int .i64 x.wk, .int .i64 x.ht, .int .i64 x.ch, .slice Ae x.es.length ce] 48 (0, 0)) ∧ wx.heap[g2]? = some (.cells #[.int .i64 x.kd, .int .i64 x.ph, .int .i64 x.rt, .int .i64 x.dr, .int .i64 x.wh, .int .i64 x.wk, .int .i64 x.ht, .int .i64 x.ch, .slice Be x.es.length de] 88 (0, 0)) ∧ Aside0 (Below wr.heap.size wr wx))
          case first =>
            go_big_region
            all_goals
              apply_assumption
              go_meet
              exact ⟨_, _, rfl, rfl, by first | exact al_old (al_new _ _ _ rfl) | exact al_new _ _ _ (by simp), by first | exact al_old (al_new _ _ _ rfl) | exact al_new _ _ _ (by simp), ⟨by exact (((Below.refl _ wr).alloc (Nat.le_refl _) _).alloc (by simp) _).drew⟩⟩
          case rest =>
          obtain ⟨g1, g2, rfl, rfl, kg1, kg2, HBX⟩ := hcut
          rename World => wx
          clear a0 a1 a2 a3 a4 a5 a6 a7 a8 b0 b1 b2 b3 b4 b5 b6 b7 b8 x2 y2 zad zbd hzx hzy
          have p0 : wx.cell? ⟨g1, 0, none⟩ = some (.int .i64 x.kd) := blk_cell kg1 0
          have p1 : wx.cell? ⟨g1, 1, none⟩ = some (.int .i64 x.ph) := blk_cell kg1 1
          have p2 : wx.cell? ⟨g1, 2, none⟩ = some (.int .i64 x.rt) := blk_cell kg1 2
          have p3 : wx.cell? ⟨g1, 3, none⟩ = some (.int .i64 x.dr) := blk_cell kg1 3
          have p4 : wx.cell? ⟨g1, 4, none⟩ = some (.int .i64 x.wh) := blk_cell kg1 4
          have p5 : wx.cell? ⟨g1, 5, none⟩ = some (.int .i64 x.wk) := blk_cell kg1 5
          have p6 : wx.cell? ⟨g1, 6, none⟩ = some (.int .i64 x.ht) := blk_cell kg1 6
          have p7 : wx.cell? ⟨g1, 7, none⟩ = some (.int .i64 x.ch) := blk_cell kg1 7
          have p8 : wx.cell? ⟨g1, 8, none⟩ = some (.slice Ae x.es.length ce) := blk_cell kg1 8
          have q0 : wx.cell? ⟨g2, 0, none⟩ = some (.int .i64 x.kd) := blk_cell kg2 0
          have q1 : wx.cell? ⟨g2, 1, none⟩ = some (.int .i64 x.ph) := blk_cell kg2 1
          have q2 : wx.cell? ⟨g2, 2, none⟩ = some (.int .i64 x.rt) := blk_cell kg2 2
          have q3 : wx.cell? ⟨g2, 3, none⟩ = some (.int .i64 x.dr) := blk_cell kg2 3
          have q4 : wx.cell? ⟨g2, 4, none⟩ = some (.int .i64 x.wh) := blk_cell kg2 4
          have q5 : wx.cell? ⟨g2, 5, none⟩ = some (.int .i64 x.wk) := blk_cell kg2 5
          have q6 : wx.cell? ⟨g2, 6, none⟩ = some (.int .i64 x.ht) := blk_cell kg2 6
          have q7 : wx.cell? ⟨g2, 7, none⟩ = some (.int .i64 x.ch) := blk_cell kg2 7
          have q8 : wx.cell? ⟨g2, 8, none⟩ = some (.slice Be x.es.length de) := blk_cell kg2 8
          have HG1 := Aside0.mk kg1
          have HG2 := Aside0.mk kg2
          clear kg1 kg2
          go_upto_block 4 with fail
          clear p0 p1 p2 p3 p4 p5 p6 p7 p8 q0 q1 q2 q3 q4 q5 q6 q7 q8
          go_wp2
          go_loopw [9] (fun v wz => ∃ j : Nat, j ≤ x.es.length ∧ v = .int .i64 j ∧ Aside0 (Below wx.heap.size wx wz)) (fun v _ => x.es.length - (intOf v).toNat)
          case atStart => exact ⟨0, Nat.zero_le _, rfl, ⟨Below.refl _ _⟩⟩
          case round =>
            obtain ⟨j, hj, rfl, HBZ⟩ := hrel
            rename World => wz
            have p8 : wz.cell? ⟨g1, 8, none⟩ = some (.slice Ae x.es.length ce) := blk_cell (blk_on HBZ.out HG1.out) 8
            have q8 : wz.cell? ⟨g2, 8, none⟩ = some (.slice Be x.es.length de) := blk_cell (blk_on HBZ.out HG2.out) 8
            by_cases hlt2 : j < x.es.length
            · have dlt2 : (j : Int) < (x.es.length : Int) := by omega
              obtain ⟨ae, rfl, e0, e1, e2⟩ := C_3 (Kd.C_below (Kd.C_below HCE.out HBX.out) HBZ.out) j hlt2 hlt2
              obtain ⟨be, rfl, f0, f1, f2⟩ := C_3 (Kd.C_below (Kd.C_below HCE2.out HBX.out) HBZ.out) j hlt2 hlt2
              obtain ⟨⟨a, b, c⟩, hx⟩ : ∃ x', x.es[j] = x' := ⟨_, rfl⟩
              rw [hx] at e0 e1 e2 f0 f1 f2
              simp only at e0 e1 e2 f0 f1 f2
              clear hx
              go_wp2_with fail
              go_quiet (fail)
              go_wp2
              go_roundw
              case rel => exact ⟨j + 1, by omega, by go_num, ⟨below_drewN HBZ.out _⟩⟩
              case measure => simp [intOf]; omega
            · have d1 : ¬ (j : Int) < (x.es.length : Int) := by omega
              have HB3 := Aside0.mk (HB.out.trans ((HBX.out.trans (HBZ.out.mono HBX.out.size)).mono HB.out.size))
              go_wp2
              go_roundw
              case rel => exact ⟨i2 + 1, by omega, by go_num, HB3⟩
              case measure => simp [intOf]; omega
        · have d1 : ¬ (i2 : Int) < (cks.length : Int) := by omega
          go_wp2
          go_ret
          exact ⟨rfl, HV2.out⟩
end Go.Proofs.YtlfnnalepdjagaaDoor.C
