/- The contracts of Big and before. -/
import Derived.OwnWalk
import Derived.BigRegion
import Derived.WalkKit
import Derived.Deep.RegionHeld3
import Derived.Test.YtlfnnalepdjagaaDoorAh
namespace Go.Proofs.YtlfnnalepdjagaaDoor.C
open Go.RowKit Go.Shelf Go.Maps Go.Proofs.YtlfnnalepdjagaaDoorW.PrintWords Go.Proofs.YtlfnnalepdjagaaDoorW.PrintLast Go.Proofs.YtlfnnalepdjagaaDoorW.PrintMore
set_option linter.unusedVariables false
set_option linter.unusedSimpArgs false
/-- More than is looked at. -/
def bigF (chs : List T3) (cks : List Ck) : Bool := decide (40 < chs.length) || (decide (40 < cks.length) || cks.any (fun x => decide (40 < x.es.length)))
set_option maxHeartbeats 4000000 in
set_option maxRecDepth 100000 in
theorem Big_calls (seed : Int) (Ah : Option Addr) (chc : Nat) (Ak : Option Addr) (ckc : Nat) (chs : List T3) (cks : List Ck) (w : World) (hW : WAt 90 w Ah Ak chs cks) :
    Calls Tryd.prog 10 #[woV seed Ah chs.length chc Ak cks.length ckc] w fun e w' => e = .returned (.bool (bigF chs cks)) ∧ Below w.heap.size w w' := by
  have hv := Below.refl w.heap.size w
  unfold bigF
  by_cases h1 : 40 < chs.length
  · rw [decide_eq_true h1, Bool.true_or]
    have d1 : (40 : Int) < (chs.length : Int) := by omega
    have d1' : decide ((40 : Int) < (chs.length : Int)) = true := decide_eq_true d1
    clear hW h1
    go_enter Tryd.func10, Tryd.ntmps10
    go_wp2
    go_ret
    exact ⟨rfl, hv.alloc (Nat.le_refl _) _⟩
  · rw [decide_eq_false h1, Bool.false_or]
    have d1 : ¬ (40 : Int) < (chs.length : Int) := by omega
    have d1' : decide ((40 : Int) < (chs.length : Int)) = false := decide_eq_false d1
    have d1'' : decide ((chs.length : Int) > 40) = false := decide_eq_false (by omega)
    clear h1
    by_cases h2 : 40 < cks.length
    · rw [decide_eq_true h2, Bool.true_or]
      have d2 : (40 : Int) < (cks.length : Int) := by omega
      have d2' : decide ((40 : Int) < (cks.length : Int)) = true := decide_eq_true d2
      clear hW h2
      go_enter Tryd.func10, Tryd.ntmps10
      go_wp2
      go_ret
      exact ⟨rfl, hv.alloc (Nat.le_refl _) _⟩
    · rw [decide_eq_false h2, Bool.false_or]
      have d2 : ¬ (40 : Int) < (cks.length : Int) := by omega
      have d2' : decide ((40 : Int) < (cks.length : Int)) = false := decide_eq_false d2
      have HR := Aside0.mk hW.k
      have hlk : cks.length ≤ 9223372036854775807 := hW.k.2.1
      clear hW h2
      go_enter Tryd.func10, Tryd.ntmps10
      go_upto_block 0 with fail
      clear d1 d1' d1'' d2 d2'
      obtain ⟨w1, hw1⟩ : ∃ w1, w.alloc (.cells #[.int .u64 seed, .slice Ah chs.length chc, .slice Ak cks.length ckc] 26) = w1 := ⟨_, rfl⟩
      try rw [hw1]
      have hB : Below w.heap.size w w1 := by rw [← hw1]; exact (Below.refl _ w).alloc (by first | exact Nat.le_refl _ | (simp; done) | (simp; omega)) _
      have kx : w1.heap[w.heap.size]? = some (.cells #[.int .u64 seed, .slice Ah chs.length chc, .slice Ak cks.length ckc] 26 (0, 0)) := by rw [← hw1]; exact al_new _ _ _ (by first | rfl | (simp; done) | (simp; omega))
      have x0 : w1.cell? ⟨w.heap.size, 0, none⟩ = some (.int .u64 seed) := blk_cell kx 0
      have x1 : w1.cell? ⟨w.heap.size, 1, none⟩ = some (.slice Ah chs.length chc) := blk_cell kx 1
      have x2 : w1.cell? ⟨w.heap.size, 2, none⟩ = some (.slice Ak cks.length ckc) := blk_cell kx 2
      clear kx
      replace hv := hv.trans (hB.mono hv.size)
      clear hB hw1
      clear x0 x1
      have HV := Aside0.mk hv
      clear hv
      go_wp2
      go_loopw [3] (fun v wr => ∃ k : Nat, k ≤ cks.length ∧ v = .int .i64 k ∧ Aside0 (∀ j (hj : j < cks.length), j < k → decide (40 < cks[j].es.length) = false) ∧ wr = w1)
        (fun v _ => cks.length - (intOf v).toNat)
      case atStart => exact ⟨0, Nat.zero_le _, rfl, ⟨fun j _ hj => absurd hj (by omega)⟩, rfl⟩
      case round =>
        obtain ⟨k, hk, rfl, HN, rfl⟩ := hrel
        by_cases hlt : k < cks.length
        · obtain ⟨ad, Ae, ce, rfl, hc0, hc1, hc2, hc3, hc4, hc5, hc6, hc7, hc8, hle, hCe⟩ := C_ck (Kd.C_below HR.out HV.out) k hlt hlt
          have HL : Aside0 (cks[k].es.length = cks[k].es.length) := ⟨rfl⟩
          obtain ⟨n, hn⟩ : ∃ n, cks[k].es.length = n := ⟨_, rfl⟩
          rw [hn] at hc8
          have HQ := Aside0.mk hn
          clear hCe hle hc0 hc1 hc2 hc3 hc4 hc5 hc6 hc7 hn HL
          have hk2 : (k : Int) < (cks.length : Int) := by omega
          by_cases hb : 40 < n
          · have d3 : (40 : Int) < (n : Int) := by omega
            have HI : Aside0 (cks.any (fun x => decide (40 < x.es.length)) = true) := ⟨List.any_eq_true.2 ⟨_, List.getElem_mem hlt, by rw [HQ.out]; exact decide_eq_true hb⟩⟩
            clear hb
            go_wp2
            go_ret
            exact ⟨by rw [HI.out]; rfl, HV.out⟩
          · have d3 : ¬ (40 : Int) < (n : Int) := by omega
            have HP : Aside0 (decide (40 < cks[k].es.length) = false) := ⟨by rw [HQ.out]; exact decide_eq_false hb⟩
            clear hb
            go_wp2
            go_roundw
            case rel => exact ⟨k + 1, by omega, by go_num, ⟨fun j hj hjk => by by_cases ej : j = k; (subst ej; exact HP.out); exact HN.out j hj (by omega)⟩, trivial⟩
            case measure => simp [intOf]; omega
        · have HI : Aside0 (cks.any (fun x => decide (40 < x.es.length)) = false) := ⟨by
            rw [List.any_eq_false]; intro x hx; obtain ⟨j, hj, rfl⟩ := List.getElem_of_mem hx; rw [HN.out j hj (by omega)]; simp⟩
          have hk2 : ¬ (k : Int) < (cks.length : Int) := by omega
          go_wp2
          go_ret
          exact ⟨by rw [HI.out]; rfl, HV.out⟩
end Go.Proofs.YtlfnnalepdjagaaDoor.C
