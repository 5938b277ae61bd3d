/- CounterNets: the law's walk. -/
import Derived.OwnWalk
import Derived.BigRegion
import Derived.LoopN
import Derived.Deep.CutBlock
import Derived.Deep.CutRange
import Derived.Laws.AppendOwn
import Derived.Test.YtjgnadighdbjlaaDg
import Derived.Test.YtjgnadighdbjlaaWEqStruct
import Derived.Deep.RegionHeld3
import Derived.Test.YtjgnadighdbjlaaEg
namespace Go.Proofs.Ytjgnadighdbjlaa.C
open Go.RowKit Go.Shelf Go.Maps Go.Proofs.YtjgnadighdbjlaaW.PrintWords Go.Proofs.YtjgnadighdbjlaaW.PrintLast Go.Proofs.YtjgnadighdbjlaaW.PrintMore
set_option linter.unusedVariables false
set_option linter.unusedSimpArgs false
theorem eqA45 (d : Nat) (w : World) (x0 y0 x1 y1 x2 y2 x3 y3 : Int) :
    (Op.equalIn (d + 3) 45 (.agg #[.int .i64 x0, .int .i64 x1, .int .i64 x2, .int .i64 x3]) (.agg #[.int .i64 y0, .int .i64 y1, .int .i64 y2, .int .i64 y3])).run Try.prog w = .ok (x0 == y0 && (x1 == y1 && (x2 == y2 && (x3 == y3)))) w := by
  refine eqA_of Try.underlying45 (by kernel_rfl) ?_
  refine eqf_cons (by rfl) (by go_simp; rfl) (by go_simp; rfl) (by go_simp) ?_
  refine eqf_cons (by rfl) (by go_simp; rfl) (by go_simp; rfl) (by go_simp) ?_
  exact eqf_last (by rfl) (by first | (go_simp; done) | (go_simp; rfl)) (by first | (go_simp; done) | (go_simp; rfl)) (eqA43 d w x2 y2 x3 y3)
theorem info40n : (Try.prog.info? 40).map (fun i => (i.zero, i.size, i.bytes)) = some (some (.agg #[.int .i64 0, .bool false]), 2, 16) := by kernel_rfl
attribute [local go_sem high] eqA43 eqA45 max2_m
set_option maxHeartbeats 8000000 in
set_option maxRecDepth 100000 in
theorem nets_calls (n : Int) (A : Option Addr) (c : Nat) (l : List Bd) (Au : Option Addr) (cu : Nat) (u : List Us) (w : World) (hr : Kd.C kb w A l.length l) (hu : Kd.C ku w Au u.length u) :
    Calls Try.prog 3 #[.int .i64 n, .slice A l.length c, .slice Au u.length cu] w fun e w' => e = .returned (.bool true) ∧ Below w.heap.size w w' := by
  have hlm : l.length ≤ 9223372036854775807 := hr.2.1
  have hum : u.length ≤ 9223372036854775807 := hu.2.1
  have HR := Aside0.mk hr
  have HU := Aside0.mk hu
  clear hr hu
  have caw := fun w => awake_calls w
  by_cases hbl : 260 < l.length
  · have hd1 : (260 : Int) < (l.length : Int) := by omega
    go_enter Try.func3, Try.ntmps3
    go_wp2_with fail
    refine (caw _).mono ?_
    rintro en w1 ⟨rfl, hB⟩
    go_wp2_with fail
    go_ret
    exact ⟨rfl, hB⟩
  have hd1 : ¬ (260 : Int) < (l.length : Int) := by omega
  by_cases hbu : 260 < u.length
  · have hd2 : (260 : Int) < (u.length : Int) := by omega
    go_enter Try.func3, Try.ntmps3
    go_wp2_with fail
    refine (caw _).mono ?_
    rintro en w1 ⟨rfl, hB⟩
    go_wp2_with fail
    go_ret
    exact ⟨rfl, hB⟩
  have hd2 : ¬ (260 : Int) < (u.length : Int) := by omega
  clear hlm hum
  obtain ⟨i0, hi0, hz0, hz1, hz2⟩ := info_parts info40n
  have c10 := fun w hC => lbounds_calls A c l w hC (by omega)
  have c15 := fun w hC => luses_calls Au cu u w hC (by omega)
  have c11 := fun A' c' w hC => narrow_all n A' c' l w hC
  have c12 := fun w hC => rnarrow_all n A c l w hC
  have c17 := fun A' c' w hC => contradict_all n A' c' l w hC
  have HLen := Aside0.mk (matL_len n l)
  have HC : Aside0 ((matE n l = 0 → conE n l = 4) ∧ (matE n l = 12 → conE n l = 0) ∧ (matE n l ≠ 0 → matE n l ≠ 12 → conE n l = matE n l)) := ⟨by unfold conE; refine ⟨fun h => by rw [if_pos h], fun h => by rw [if_neg (by omega), if_pos h], fun h1 h2 => by rw [if_neg h1, if_neg h2]⟩⟩
  obtain ⟨E, hE⟩ : ∃ E, matE n l = E := ⟨_, rfl⟩
  obtain ⟨C, hCC⟩ : ∃ C, conE n l = C := ⟨_, rfl⟩
  obtain ⟨L, hL⟩ : ∃ L, matL n l = L := ⟨_, rfl⟩
  simp only [hE, hCC, hL] at c11 c12 c17 HC HLen
  clear hE hCC hL
  clear hbl hbu
  go_enter Try.func3, Try.ntmps3
  go_wp2_with fail
  refine (c10 _ HR.out).mono ?_
  rintro en w1 ⟨v1, rfl, hown, hB⟩
  obtain ⟨Ao, co, rfl, hCo⟩ := own_bounds hown
  have HO := Aside0.mk hCo
  have HB := Aside0.mk hB
  clear hown hB hCo c10
  go_wp2_with fail
  refine (c11 _ _ _ HO.out).mono ?_
  rintro en w2 ⟨A2, c2, rfl, hLL, hB⟩
  replace HO := Aside0.mk (Kd.C_below HO.out hB)
  replace HB := Aside0.mk (HB.out.trans (hB.mono HB.out.size))
  have HL2 := Aside0.mk hLL
  clear hB hLL c11
  go_wp2_with fail
  refine (c12 _ (Kd.C_below HR.out HB.out)).mono ?_
  rintro en w3 ⟨A3, c3, rfl, hLL, hB⟩
  replace HO := Aside0.mk (Kd.C_below HO.out hB)
  replace HB := Aside0.mk (HB.out.trans (hB.mono HB.out.size))
  replace HL2 := Aside0.mk (HL2.out.below hB)
  have HL3 := Aside0.mk hLL
  clear hB hLL c12
  have c13 : ∀ w, LLm w A2 L → LLm w A3 L → Calls Try.prog 13 #[.slice A2 L.length c2, .slice A3 L.length c3] w fun e w' => e = .returned (.bool true) ∧ Below w.heap.size w w' := fun w h1 h2 => by
    have t := sameLists_calls A2 A3 c2 c3 L L w h1 h2 HLen.out.1 HLen.out.1 HLen.out.2
    rw [decide_eq_true (rfl : L = L)] at t; exact t
  clear HLen
  go_wp2_with fail
  refine (c13 _ HL2.out HL3.out).mono ?_
  rintro en w4 ⟨rfl, hB⟩
  replace HO := Aside0.mk (Kd.C_below HO.out hB)
  replace HB := Aside0.mk (HB.out.trans (hB.mono HB.out.size))
  clear hB c13 HL2 HL3
  go_wp2_with fail
  refine (c15 _ (Kd.C_below HU.out HB.out)).mono ?_
  rintro en w5 ⟨v5, rfl, hown, hB⟩
  obtain ⟨A5, c5, rfl, hCu⟩ := own_uses hown
  replace HO := Aside0.mk (Kd.C_below HO.out hB)
  replace HB := Aside0.mk (HB.out.trans (hB.mono HB.out.size))
  have HU5 := Aside0.mk hCu
  clear hB hown hCu c15
  obtain ⟨RF, hRF⟩ : ∃ r, refuteF n l u = r := ⟨_, rfl⟩
  have c14 := fun w h1 h2 => refute_all n Ao co l A5 c5 u w h1 h2
  have c16 := fun w h1 h2 => rrefute_all n A c l Au cu u w h1 h2
  simp only [hRF] at c14 c16
  clear hRF
  go_wp2_with fail
  refine (c14 _ HO.out HU5.out).mono ?_
  rintro en w6 ⟨rfl, hB⟩
  replace HO := Aside0.mk (Kd.C_below HO.out hB)
  replace HB := Aside0.mk (HB.out.trans (hB.mono HB.out.size))
  clear hB c14 HU5
  go_wp2_with fail
  refine (c16 _ (Kd.C_below HR.out HB.out) (Kd.C_below HU.out HB.out)).mono ?_
  rintro en w7 ⟨rfl, hB⟩
  replace HO := Aside0.mk (Kd.C_below HO.out hB)
  replace HB := Aside0.mk (HB.out.trans (hB.mono HB.out.size))
  clear hB c16 HU
  go_wp2_with fail
  refine (c17 _ _ _ HO.out).mono ?_
  rintro en w8 ⟨A8, c8, x, rfl, hCx, hx0, hx1, hxl, hB⟩
  replace HO := Aside0.mk (Kd.C_below HO.out hB)
  replace HB := Aside0.mk (HB.out.trans (hB.mono HB.out.size))
  have HX := Aside0.mk hCx
  have HX0 := Aside0.mk hx0
  have HX1 := Aside0.mk hx1
  have hxm : (x.length : Int) ≤ 9223372036854775807 := by have := hCx.2.1; omega
  clear hB hCx c17 hx0 hx1
  obtain ⟨mx, hmx1⟩ : ∃ mx, max n 0 = mx := ⟨_, rfl⟩
  have hmx2 : (if n < 0 then (0 : Int) else n) = mx := by split <;> omega
  rw [hmx1] at hxl
  have hgt : decide (mx < (x.length : Int)) = false := decide_eq_false (by omega)
  clear hxl
  go_upto_block 0 with fail
  go_cut [14] from 70 to 73 (fun s14 wx => s14 = .int .i64 C ∧ wx = w8)
  case first =>
    by_cases h0 : E = 0
    · have e := Aside0.mk (HC.out.1 h0)
      subst h0
      go_wp2
      go_meet
      exact ⟨by rw [e.out], rfl⟩
    · have hq0 : (E == 0) = false := beq_eq_false_iff_ne.2 h0
      by_cases h12 : E = 12
      · have e := Aside0.mk (HC.out.2.1 h12)
        subst h12
        go_wp2
        go_meet
        exact ⟨by rw [e.out], rfl⟩
      · have hq12 : (E == 12) = false := beq_eq_false_iff_ne.2 h12
        have e := Aside0.mk (HC.out.2.2 h0 h12)
        clear h0 h12
        go_wp2
        go_meet
        exact ⟨by rw [e.out], rfl⟩
  case rest =>
  obtain ⟨rfl, rfl⟩ := hcut
  by_cases hc0 : C = 0
  · have HZ := Aside0.mk (HX0.out hc0)
    have hx240 : x.length ≤ 240 := (ref_parts HZ.out).2.1
    subst hc0
    clear HX0 HX1 HC
    go_wp2_with fail
    clear hmx1 hmx2 hgt
    go_loopw [15, 16] (fun v15 v16 wr => ∃ (i : Nat) (vo : Value), i ≤ x.length ∧ v16 = .int .i64 i ∧ vo = v15 ∧ Aside0 (wr.ownsRow wc.heap.size 40 2 vo i (ucells (x.take i)) ∧ Below wc.heap.size wc wr)) (fun _ v16 _ => x.length - (intOf v16).toNat)
    case atStart => exact ⟨0, _, by omega, by simp, rfl, ⟨own_nil _ _ _ _, Below.refl _ _⟩⟩
    case round =>
      obtain ⟨i, vo, hi, rfl, rfl, HI⟩ := hrel
      by_cases hlt : i < x.length
      · have hd : (i : Int) < (x.length : Int) := by omega
        have hwi := wrp ((i : Int) + 1) (by omega) (by omega)
        have hi0' : (0 : Int) ≤ (i : Int) := by omega
        obtain ⟨ad, rfl, hxc⟩ := C_us (Kd.C_below HX.out HI.out.2) i hlt hlt
        have HT : Aside0 (ucells (x.take (i + 1)) = ucells (x.take i) ++ ucells [x[i]]) := ⟨by rw [List.take_add_one, List.getElem?_eq_getElem hlt, ucells_append]; rfl⟩
        generalize x[i] = y at *
        obtain ⟨xk, xu⟩ := y
        simp only at hxc
        obtain ⟨hc0, hc1⟩ := hxc
        have hs0 := World.block_lt_of_cell? _ _ hc0
        have hsz := HI.out.2.size
        have hown0 := HI.out.1
        have hownA : (wr.alloc (.cells #[.int .i64 xk, .bool xu] 40)).ownsRow wc.heap.size 40 2 vo i (ucells (x.take i)) := own_move hown0 (fun k hk => Below.heap_alloc _ _ k (own_lt hown0 k hk))
        have HB0 := Aside0.mk HI.out.2
        clear HI hown0
        go_wp2_with (at_builtin; refine wpList_append_own _ rfl _ _ 23 rfl wc.heap.size 40 i0 (.agg #[.int .i64 0, .bool false]) 2 16 Try.underlying23 hi0 hz0 hz1 hz2 rfl (by decide) _ _ _ rfl hownA ⟨wr.heap.size, 0, none⟩ 1 1 [.int .i64 xk, .bool xu] rfl ?qc1 ?qc2 ?qc3 ?qc4 ?qc5 ?qc6 ?_)
        try (case qc1 => rfl)
        try (case qc2 => exact World.news_of_block (cs := #[.int .i64 xk, .bool xu]) (t := 40) (fr := (0, 0)) (al_new _ _ _ rfl))
        try (case qc3 => simp [Value.oneCell'])
        try (case qc4 => unfold maxLen; omega)
        try (case qc5 => omega)
        try (case qc6 => first | omega | (simp; omega))
        intro v2 wz hown2 hg2 hnil2
        have HN : Aside0 (wz.ownsRow wc.heap.size 40 2 v2 (i + 1) (ucells (x.take (i + 1))) ∧ Below wc.heap.size wc wz) := ⟨by
          rw [HT.out]; exact hown2, (HB0.out.alloc hsz _).grown hg2 (by simp; omega) (fun k e => own_base hownA k e)⟩
        clear hown2 hg2 hnil2 hownA HB0
        go_wp2
        go_roundw
        case rel => exact ⟨i + 1, _, by omega, by go_num, rfl, HN⟩
        case measure => simp [intOf]; omega
      · obtain rfl : i = x.length := by omega
        have hd : ¬ (x.length : Int) < (x.length : Int) := by omega
        have hown : wr.ownsRow wc.heap.size 40 2 vo x.length (ucells x) := by have := HI.out.1; rwa [List.take_length] at this
        obtain ⟨Ay, cy, rfl, hCy⟩ := own_uses hown
        have HY := Aside0.mk hCy
        have hB := HI.out.2
        replace HO := Aside0.mk (Kd.C_below HO.out hB)
        replace HB := Aside0.mk (HB.out.trans (hB.mono HB.out.size))
        clear hown hCy hB HI HX
        have c16 := fun w h1 h2 => rrefute_all n A c l Ay cy x w h1 h2
        simp only [HZ.out] at c16
        go_wp2_with fail
        refine (c16 _ (Kd.C_below HR.out HB.out) HY.out).mono ?_
        rintro en w9 ⟨rfl, hB⟩
        replace HO := Aside0.mk (Kd.C_below HO.out hB)
        replace HB := Aside0.mk (HB.out.trans (hB.mono HB.out.size))
        clear hB c16 HY HZ
        go_wp2_with fail
        go_loopw [17] (fun v17 wr => ∃ (i : Nat), i ≤ l.length ∧ v17 = .int .i64 i ∧ Aside0 (Below w9.heap.size w9 wr)) (fun v17 _ => l.length - (intOf v17).toNat)
        case atStart => exact ⟨0, by omega, by simp, ⟨Below.refl _ _⟩⟩
        case round =>
          obtain ⟨j, hj, rfl, HJ⟩ := hrel
          by_cases hltj : j < l.length
          · have hdj : (j : Int) < (l.length : Int) := by omega
            have hwj := wrp ((j : Int) + 1) (by omega) (by omega)
            have hj0 : (0 : Int) ≤ (j : Int) := by omega
            obtain ⟨ao, rfl, ho0, ho1, ho2, ho3⟩ := C_bd (Kd.C_below HO.out HJ.out) j hltj hltj
            obtain ⟨ar, rfl, hr0, hr1, hr2, hr3⟩ := C_bd (Kd.C_below HR.out (HB.out.trans (HJ.out.mono HB.out.size))) j hltj hltj
            generalize l[j] = z at *
            obtain ⟨za, zb, zl, zh⟩ := z
            simp only at ho0 ho1 ho2 ho3 hr0 hr1 hr2 hr3
            go_wp2_with fail
            go_region
            all_goals
              go_wp2
              go_roundw
              case rel => exact ⟨j + 1, by omega, by go_num, ⟨by first | exact HJ.out.drew | exact HJ.out⟩⟩
              case measure => simp [intOf]; omega
          · obtain rfl : j = l.length := by omega
            have hdj : ¬ (l.length : Int) < (l.length : Int) := by omega
            go_wp2_with fail
            refine (caw _).mono ?_
            rintro en w10 ⟨rfl, hB⟩
            have HE := Aside0.mk (HB.out.trans ((HJ.out.trans (hB.mono HJ.out.size)).mono HB.out.size))
            clear hB
            go_wp2_with fail
            go_ret
            exact ⟨rfl, HE.out⟩
  · have hcq : (C == 0) = false := beq_eq_false_iff_ne.2 hc0
    have hx := HX1.out hc0
    subst hx
    have hcd : decide (C = 0) = false := decide_eq_false hc0
    clear HX0 HX1 HC
    simp only [List.length_nil] at hxm hgt HX ⊢
    go_wp2_with fail
    clear hmx1 hmx2 hgt HX hxm
    refine wp_loop_rounds 1 ?_
    rw [rounds_succ]
    go_wp2_with fail
    obtain ⟨w9, hw9⟩ : ∃ w9, w9 = wc := ⟨_, rfl⟩
    subst hw9
    go_loopw [17] (fun v17 wr => ∃ (i : Nat), i ≤ l.length ∧ v17 = .int .i64 i ∧ Aside0 (Below w9.heap.size w9 wr)) (fun v17 _ => l.length - (intOf v17).toNat)
    case atStart => exact ⟨0, by omega, by simp, ⟨Below.refl _ _⟩⟩
    case round =>
      obtain ⟨j, hj, rfl, HJ⟩ := hrel
      by_cases hltj : j < l.length
      · have hdj : (j : Int) < (l.length : Int) := by omega
        have hwj := wrp ((j : Int) + 1) (by omega) (by omega)
        have hj0 : (0 : Int) ≤ (j : Int) := by omega
        obtain ⟨ao, rfl, ho0, ho1, ho2, ho3⟩ := C_bd (Kd.C_below HO.out HJ.out) j hltj hltj
        obtain ⟨ar, rfl, hr0, hr1, hr2, hr3⟩ := C_bd (Kd.C_below HR.out (HB.out.trans (HJ.out.mono HB.out.size))) j hltj hltj
        generalize l[j] = z at *
        obtain ⟨za, zb, zl, zh⟩ := z
        simp only at ho0 ho1 ho2 ho3 hr0 hr1 hr2 hr3
        go_wp2_with fail
        go_region
        all_goals
          go_wp2
          go_roundw
          case rel => exact ⟨j + 1, by omega, by go_num, ⟨by first | exact HJ.out.drew | exact HJ.out⟩⟩
          case measure => simp [intOf]; omega
      · obtain rfl : j = l.length := by omega
        have hdj : ¬ (l.length : Int) < (l.length : Int) := by omega
        go_wp2_with fail
        refine (caw _).mono ?_
        rintro en w10 ⟨rfl, hB⟩
        have HE := Aside0.mk (HB.out.trans ((HJ.out.trans (hB.mono HJ.out.size)).mono HB.out.size))
        clear hB
        go_wp2_with fail
        go_ret
        exact ⟨rfl, HE.out⟩
theorem counterNets_w.calls (n : Int) (A : Option Addr) (c : Nat) (l : List Bd) (Au : Option Addr) (cu : Nat) (u : List Us) (w : World) (hr : Kd.C kb w A l.length l) (hu : Kd.C ku w Au u.length u) :
    Calls Try.prog 3 #[.int .i64 n, .slice A l.length c, .slice Au u.length cu] w fun e w' => e = .returned (.bool true) ∧ Below w.heap.size w w' := nets_calls n A c l Au cu u w hr hu
end Go.Proofs.Ytjgnadighdbjlaa.C
