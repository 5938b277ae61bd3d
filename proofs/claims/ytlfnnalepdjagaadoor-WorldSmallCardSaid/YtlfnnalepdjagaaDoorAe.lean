/- Contracts of runs and white, and of the reference's running. -/
import Derived.OwnWalk
import Derived.BigRegion
import Derived.Deep.RegionHeld3
import Derived.Test.YtlfnnalepdjagaaDoorAd
namespace Go.Proofs.YtlfnnalepdjagaaDoor.C
open Go.RowKit Go.Shelf Go.Maps Go.Proofs.YtlfnnalepdjagaaDoorW.PrintWords Go.Proofs.YtlfnnalepdjagaaDoorW.PrintLast Go.Proofs.YtlfnnalepdjagaaDoorW.PrintMore
set_option linter.unusedVariables false
set_option linter.unusedSimpArgs false
/-- Whether a clock runs behind its first events. -/
def runsN (es : List T3) (s : Int) : Nat → Bool
  | 0 => true
  | i + 1 => if (es.getD i (0, 0, 0)).2.1 ≤ s ∧ 3 ≤ (es.getD i (0, 0, 0)).1 then (es.getD i (0, 0, 0)).1 == 4 else runsN es s i
def runsF (es : List T3) (s : Int) : Bool := runsN es s es.length
/-- What the events are. -/
def WhatOk (es : List T3) : Prop := ∀ e ∈ es, 1 ≤ e.1 ∧ e.1 ≤ 4
abbrev wkV (x : Ck) (Ae : Option Addr) (ce : Nat) (seed : Int) (vh vk : Value) (k : Int) : Value := .agg #[.int .i64 x.kd, .int .i64 x.ph, .int .i64 x.rt, .int .i64 x.dr, .int .i64 x.wh, .int .i64 x.wk, .int .i64 x.ht, .int .i64 x.ch, .slice Ae x.es.length ce, .int .u64 seed, vh, vk, .int .i64 k]
theorem getD_at {es : List T3} {i : Nat} (hi : i < es.length) : es.getD i (0, 0, 0) = es[i] := by rw [List.getD_eq_getElem?_getD, List.getElem?_eq_getElem hi]; rfl
set_option maxHeartbeats 4000000 in
set_option maxRecDepth 100000 in
theorem white_calls (x : Ck) (Ae : Option Addr) (ce : Nat) (seed : Int) (vh vk : Value) (k s : Int) (w : World) (hk : 0 ≤ k ∧ k ≤ 1000000000000000) (hs : 0 ≤ s ∧ s ≤ 1000000000000000) (hm : 0 ≤ x.wh ∧ x.wh ≤ 100000000000000) :
    Calls Tryd.prog 53 #[wkV x Ae ce seed vh vk k, .int .i64 s] w fun e w' => e = .returned (.int .i64 (drawF seed 2 k s x.wh)) ∧ Below w.heap.size w w' := by
  have hv := Below.refl w.heap.size w
  have c1 := fun w => draw_calls seed 2 k s x.wh w (by omega) hk hs hm
  obtain ⟨kd, ph, rt, dr, wh, wk, ht, ch, es⟩ := x
  unfold wkV
  simp only at c1 hm ⊢
  obtain ⟨n, hn⟩ : ∃ n, es.length = n := ⟨_, rfl⟩
  rw [hn]
  clear hn hm
  go_enter Tryd.func53, Tryd.ntmps53
  go_wp2_with fail
  refine (c1 _).mono ?_
  rintro en w2 ⟨rfl, hB⟩
  go_wp2_with fail
  go_ret
  exact ⟨rfl, (hv.alloc (Nat.le_refl _) _).trans (hB.mono (by simp))⟩
set_option maxHeartbeats 4000000 in
set_option maxRecDepth 100000 in
theorem runs_calls (x : Ck) (Ae : Option Addr) (ce : Nat) (seed : Int) (vh vk : Value) (k s : Int) (w : World) (hC : Kd.C k3 w Ae x.es.length x.es) (hW : WhatOk x.es) :
    Calls Tryd.prog 54 #[wkV x Ae ce seed vh vk k, .int .i64 s] w fun e w' => e = .returned (.bool (runsF x.es s)) ∧ Below w.heap.size w w' := by
  obtain ⟨kd, ph, rt, dr, wh, wk, ht, ch, es⟩ := x
  simp only at hC hW ⊢
  have hlm : es.length ≤ 9223372036854775807 := hC.2.1
  have HC := Aside0.mk hC
  have HW := Aside0.mk hW
  have hRR : runsF es s = runsN es s es.length := rfl
  obtain ⟨RF, hRF⟩ : ∃ R, runsF es s = R := ⟨_, rfl⟩
  rw [hRF] at hRR ⊢
  have HR := Aside0.mk hRR
  clear hRR hRF
  clear hC hW
  go_enter Tryd.func54, Tryd.ntmps54
  go_wp2_with fail
  obtain ⟨w1, hw1⟩ : ∃ w1, w.alloc (.cells #[.int .i64 kd, .int .i64 ph, .int .i64 rt, .int .i64 dr, .int .i64 wh, .int .i64 wk, .int .i64 ht, .int .i64 ch, .slice Ae es.length ce, .int .u64 seed, vh, vk, .int .i64 k] 97) = w1 := ⟨_, rfl⟩
  try rw [hw1]
  have hB : Below w.heap.size w w1 := by rw [← hw1]; exact (Below.refl _ _).alloc (Nat.le_refl _) _
  have HB := Aside0.mk hB
  clear hw1 hB
  go_loopw [5, 12] (fun v5 v12 wr => ∃ i : Nat, i ≤ es.length ∧ v12 = .int .i64 i ∧ v5 = .bool (runsN es s i) ∧ Aside0 (Below w.heap.size w wr)) (fun _ v12 _ => es.length - (intOf v12).toNat)
  case atStart => exact ⟨0, by omega, by simp, rfl, HB⟩
  case round =>
    clear HB
    obtain ⟨i, hi, rfl, rfl, HI⟩ := hrel
    by_cases hlt : i < es.length
    · have hd : (i : Int) < (es.length : Int) := by omega
      have hi0 : (0 : Int) ≤ (i : Int) := by omega
      have hwi := C.wr ((i : Int) + 1) (by omega) (by omega)
      obtain ⟨ad, rfl, c0, c1, c2⟩ := C_3 (Kd.C_below HC.out HI.out) i hlt hlt
      have HN : Aside0 (runsN es s (i + 1) = if (es[i]).2.1 ≤ s ∧ 3 ≤ (es[i]).1 then (es[i]).1 == 4 else runsN es s i) := ⟨by rw [runsN, getD_at hlt]⟩
      have hwh := HW.out _ (List.getElem_mem hlt)
      have hs0 := World.block_lt_of_cell? _ _ c0
      have HB2 : Aside0 (∀ o, Below w.heap.size w (wr.alloc o)) := ⟨fun o => HI.out.alloc HI.out.size o⟩
      generalize es[i] = z at *
      obtain ⟨za, zb, zc⟩ := z
      simp only at c0 c1 c2 HN hwh
      obtain ⟨R, hR⟩ : ∃ R, runsN es s i = R := ⟨_, rfl⟩
      rw [hR] at HN ⊢
      clear hR
      by_cases h1 : zb ≤ s
      · by_cases h3 : za = 3
        · have HE : Aside0 (runsN es s (i + 1) = false) := ⟨by rw [HN.out, if_pos ⟨h1, by omega⟩]; subst h3; rfl⟩
          subst h3
          go_wp2
          go_roundw
          case rel => exact ⟨i + 1, by omega, by go_num, by rw [HE.out], ⟨HB2.out _⟩⟩
          case measure => simp [intOf]; omega
        · by_cases h4 : za = 4
          · have HE : Aside0 (runsN es s (i + 1) = true) := ⟨by rw [HN.out, if_pos ⟨h1, by omega⟩]; subst h4; rfl⟩
            subst h4
            go_wp2
            go_roundw
            case rel => exact ⟨i + 1, by omega, by go_num, by rw [HE.out], ⟨HB2.out _⟩⟩
            case measure => simp [intOf]; omega
          · have HE : Aside0 (runsN es s (i + 1) = R) := ⟨by rw [HN.out, if_neg (by omega)]⟩
            have q3 : (za == 3) = false := beq_eq_false_iff_ne.2 h3
            have q4 : (za == 4) = false := beq_eq_false_iff_ne.2 h4
            go_wp2
            go_roundw
            case rel => exact ⟨i + 1, by omega, by go_num, by rw [HE.out], ⟨HB2.out _⟩⟩
            case measure => simp [intOf]; omega
      · have HE : Aside0 (runsN es s (i + 1) = R) := ⟨by rw [HN.out, if_neg (fun h => h1 h.1)]⟩
        go_wp2
        go_roundw
        case rel => exact ⟨i + 1, by omega, by go_num, by rw [HE.out], ⟨HB2.out _⟩⟩
        case measure => simp [intOf]; omega
    · obtain rfl : i = es.length := by omega
      have hd : ¬ (es.length : Int) < (es.length : Int) := by omega
      go_wp2
      go_ret
      exact ⟨by rw [HR.out]; rfl, HI.out⟩
set_option maxHeartbeats 4000000 in
set_option maxRecDepth 100000 in
theorem running_calls (x : Ck) (Ae : Option Addr) (ce : Nat) (s : Int) (w : World) (hC : Kd.C k3 w Ae x.es.length x.es) :
    Calls Tryd.prog 68 #[ckV x Ae ce, .int .i64 s] w fun e w' => e = .returned (.bool (runsF x.es s)) ∧ Below w.heap.size w w' := by
  obtain ⟨kd, ph, rt, dr, wh, wk, ht, ch, es⟩ := x
  simp only at hC ⊢
  have hlm : es.length ≤ 9223372036854775807 := hC.2.1
  have HC := Aside0.mk hC
  have hRR : runsF es s = runsN es s es.length := rfl
  obtain ⟨RF, hRF⟩ : ∃ R, runsF es s = R := ⟨_, rfl⟩
  rw [hRF] at hRR ⊢
  have HR := Aside0.mk hRR
  clear hRR hRF
  have hw0 := wr ((es.length : Int) - 1) (by omega) (by omega)
  clear hC
  go_enter Tryd.func68, Tryd.ntmps68
  go_wp2_with fail
  obtain ⟨w1, hw1⟩ : ∃ w1, w.alloc (.cells #[.int .i64 kd, .int .i64 ph, .int .i64 rt, .int .i64 dr, .int .i64 wh, .int .i64 wk, .int .i64 ht, .int .i64 ch, .slice Ae es.length ce] 88) = w1 := ⟨_, rfl⟩
  try rw [hw1]
  have hB : Below w.heap.size w w1 := by rw [← hw1]; exact (Below.refl _ _).alloc (Nat.le_refl _) _
  have ke : w1.cell? ⟨w.heap.size, 8, none⟩ = some (.slice Ae es.length ce) := by rw [← hw1]; exact blk_cell (al_new _ _ _ rfl) 8
  have HB := Aside0.mk hB
  clear hw1 hB
  go_loopw [5] (fun v5 wr => ∃ i : Nat, i ≤ es.length ∧ v5 = .int .i64 ((i : Int) - 1) ∧ Aside0 (RF = runsN es s i) ∧ Aside0 (Below w1.heap.size w1 wr)) (fun v5 _ => (intOf v5 + 1).toNat)
  case atStart => exact ⟨es.length, by omega, rfl, HR, ⟨Below.refl _ _⟩⟩
  case round =>
    obtain ⟨i, hi, rfl, HN0, HI⟩ := hrel
    replace ke := cell_on HI.out ke
    rcases i with _ | i
    · have hd : ¬ (0 : Int) ≤ ((0 : Nat) : Int) - 1 := by omega
      have HE : Aside0 (Below w.heap.size w wr) := ⟨HB.out.trans (HI.out.mono HB.out.size)⟩
      go_wp2
      go_ret
      exact ⟨by rw [HN0.out]; rfl, HE.out⟩
    · have hlt : i < es.length := by omega
      have e1 : ((i + 1 : Nat) : Int) - 1 = (i : Int) := by omega
      rw [e1]
      have hi0 : (0 : Int) ≤ (i : Int) := by omega
      have hd : (i : Int) < (es.length : Int) := by omega
      have hwi := C.wr ((i : Int) - 1) (by omega) (by omega)
      have HBI : Aside0 (Below w.heap.size w wr) := ⟨HB.out.trans (HI.out.mono HB.out.size)⟩
      obtain ⟨ad, rfl, c0, c1, c2⟩ := C_3 (Kd.C_below HC.out HBI.out) i hlt hlt
      have HN : Aside0 (RF = if (es[i]).2.1 ≤ s ∧ 3 ≤ (es[i]).1 then (es[i]).1 == 4 else runsN es s i) := ⟨by rw [HN0.out, runsN, getD_at hlt]⟩
      generalize es[i] = z at *
      obtain ⟨za, zb, zc⟩ := z
      simp only at c0 c1 c2 HN
      clear HN0 e1 hi hlt
      by_cases h1 : zb ≤ s ∧ 3 ≤ za
      · have HE : Aside0 (RF = (za == 4)) := ⟨by rw [HN.out, if_pos h1]⟩
        obtain ⟨ha, hb⟩ := h1
        clear HN
        go_wp2
        go_ret
        exact ⟨by rw [HE.out]; rfl, HBI.out⟩
      · have HE : Aside0 (RF = runsN es s i) := ⟨by rw [HN.out, if_neg h1]⟩
        by_cases h2 : zb ≤ s
        · have h3 : ¬ 3 ≤ za := fun h => h1 ⟨h2, h⟩
          clear h1 HN
          go_wp2
          go_roundw
          case rel => exact ⟨i, by omega, rfl, HE, HI⟩
          case measure => simp [intOf]
        · clear h1 HN
          go_wp2
          go_roundw
          case rel => exact ⟨i, by omega, rfl, HE, HI⟩
          case measure => simp [intOf]
end Go.Proofs.YtlfnnalepdjagaaDoor.C
