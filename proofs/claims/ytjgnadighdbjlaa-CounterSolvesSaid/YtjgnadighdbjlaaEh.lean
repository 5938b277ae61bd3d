/- CounterSolves: the law's walk. -/
import Derived.OwnWalk
import Derived.BigRegion
import Derived.LoopN
import Derived.Laws.AppendOwn
import Derived.Test.YtjgnadighdbjlaaDg
import Derived.Deep.RegionHeld3
import Derived.Test.YtjgnadighdbjlaaEg
namespace Go.Proofs.Ytjgnadighdbjlaa.C
open Go.RowKit Go.Shelf Go.Maps Go.Proofs.YtjgnadighdbjlaaW.PrintWords Go.Proofs.YtjgnadighdbjlaaW.PrintLast Go.Proofs.YtjgnadighdbjlaaW.PrintMore
set_option linter.unusedVariables false
set_option linter.unusedSimpArgs false
theorem own_cap {e : TypeId} {w : World} {base size n c : Nat} {A : Option Addr} {xs : List Value} (h : w.ownsRow base e size (.slice A n c) n xs) : n ≤ c := by
  rcases h.2 with ⟨h1, h0⟩ | ⟨g, cap, cur, h1, _, _, h2, _⟩
  · cases h1; omega
  · cases h1; exact h2
/-- A contradiction in memory. -/
theorem contradict_bad (N : Nat) (A : Option Addr) (c : Nat) (l : List Bd) (w : World) (hr : Kd.C kb w A l.length l) (hE : matE N l = 12) :
    Calls Try.prog 17 #[.int .i64 N, .slice A l.length c] w fun e w' => ∃ (A' : Option Addr) (c' : Nat) (u : List Us), e = .returned (.tuple #[.slice A' u.length c', .int .i64 0]) ∧ Kd.C ku w' A' u.length u ∧ refuteF N l u = 0 ∧ u.length ≤ c' ∧ Below w.heap.size w w' := by
  obtain ⟨hck, hok⟩ := matE_12 hE
  rw [Int.toNat_natCast] at hok
  obtain ⟨N', hN, hn⟩ := netOk_of hck
  obtain rfl : N = N' := by omega
  have t := contradict_main N A c l w hr hck hn.n1 hn.n2 hn.len hn.sp (2 * l.length) rfl hn.cl hn.ne (fun q h => (ct_cyc hn h).1)
  refine Calls.mono t ?_
  rintro e w' ⟨h1, h2, hBl⟩
  have hL : ∃ q : Nat, (ctRun l N).L = q := by
    obtain ⟨T, hI⟩ := CInv.run hn (N - 1)
    have hn1 := hn.n1
    rw [show N - 1 + 1 = N by omega] at hI
    rcases hI.i4 with h | ⟨q, h, _, _⟩
    · exact absurd ((ct_iff hn).1 h) hok
    · exact ⟨q, h⟩
  obtain ⟨q, hq⟩ := hL
  obtain ⟨k, v, base, hk1, hk2, hb, _, rfl, hown⟩ := h2 q hq
  have hz := ct_ref hn hck hq hk1 hk2 hb
  have hl : (wayL l (ctRun l N) (backN l (ctRun l N) q N) k).reverse.length = k := by rw [List.length_reverse, wayL_len]
  obtain ⟨A', c', rfl, hC2⟩ := own_uses (l := (wayL l (ctRun l N) (backN l (ctRun l N) q N) k).reverse) (by rw [hl]; exact hown)
  rw [hl] at hown
  exact ⟨A', c', _, rfl, hC2, hz, by rw [hl]; exact own_cap hown, hBl⟩
theorem narrow_ok (N : Nat) (A : Option Addr) (c : Nat) (l : List Bd) (w : World) (hr : Kd.C kb w A l.length l) (hE : matE N l = 0) :
    Calls Try.prog 11 #[.int .i64 N, .slice A l.length c] w fun e w' => ∃ (A' : Option Addr) (c' : Nat), e = .returned (.tuple #[.slice A' N c', .int .i64 0]) ∧ LLm w' A' ((List.range N).map fun a => (List.range N).map (fwIt (mat1 l N (2 * l.length)) N a)) ∧ Below w.heap.size w w' := by
  refine Calls.mono (narrow_all N A c l w hr) ?_
  rintro e w' ⟨A', c', rfl, hL, hB⟩
  have e1 : matL N l = (List.range N).map fun a => (List.range N).map (fwIt (mat1 l N (2 * l.length)) N a) := by unfold matL; rw [if_pos hE, Int.toNat_natCast]
  rw [e1] at hL ⊢
  rw [hE]
  exact ⟨A', c', by simp, hL, hB⟩
theorem ll_row {W : World} {A : Option Addr} {N : Nat} {D : Nat → Nat → Int} (h : LLm W A ((List.range N).map fun a => (List.range N).map (D a))) {a : Nat} (ha : a < N) :
    ∃ ad g c, A = some ad ∧ W.cell? (ad.add a) = some (.slice (some g) N c) ∧ ∀ b, b < N → W.cell? (g.add b) = some (.int .i64 (D a b)) := by
  obtain ⟨ad, B, c, e, h1, h2⟩ := h.cell a ((List.range N).map (D a)) (by simp [ha])
  have h2' := h2
  obtain ⟨g, hg, _⟩ := C_int h2 a (by simpa using ha)
  subst hg
  refine ⟨ad, g, c, e, by simpa using h1, fun b hb => ?_⟩
  obtain ⟨g', hg', hc⟩ := C_int h2' b (by simpa using hb)
  cases hg'
  rw [hc]; simp
set_option maxHeartbeats 8000000 in
set_option maxRecDepth 100000 in
theorem solves_err (N : Nat) (A : Option Addr) (c : Nat) (l : List Bd) (w : World) (hr : Kd.C kb w A l.length l) (hl : l.length ≤ 40) (hN1 : 1 ≤ N) (hN2 : N ≤ 16) (h0 : matE N l ≠ 0) (h12 : matE N l ≠ 12) :
    Calls Try.prog 6 #[.int .i64 N, .slice A l.length c] w fun e w' => e = .returned (.bool true) ∧ Below w.heap.size w w' := by
  have hCE : conE N l = matE N l := by unfold conE; rw [if_neg h0, if_neg h12]
  have k11 := fun A' c' w hC => narrow_all N A' c' l w hC
  have k17 := fun A' c' w hC => contradict_all N A' c' l w hC
  simp only [hCE] at k17
  obtain ⟨E, hE⟩ : ∃ E, matE N l = E := ⟨_, rfl⟩
  obtain ⟨L, hL⟩ : ∃ L, matL N l = L := ⟨_, rfl⟩
  simp only [hE] at h0 h12 k11 k17
  simp only [hL] at k11
  have hq0 : (E == 0) = false := beq_eq_false_iff_ne.2 h0
  have hq12 : (E == 12) = false := beq_eq_false_iff_ne.2 h12
  clear hE hL hCE
  have HR := Aside0.mk hr
  clear hr
  have caw := fun w => awake_calls w
  have hd1 : ¬ (40 : Int) < (l.length : Int) := by omega
  have hd2 : ¬ (N : Int) < 1 := by omega
  have hd3 : ¬ (16 : Int) < (N : Int) := by omega
  have c10 := fun w hC => lbounds_calls A c l w hC (by omega)
  have c11 := fun A' c' w hC => k11 A' c' w hC
  have c17 := fun A' c' w hC => k17 A' c' w hC
  go_enter Try.func6, Try.ntmps6
  go_wp2_with fail
  refine (c10 _ HR.out).mono ?_
  rintro en w1 ⟨v1, rfl, hown, hB⟩
  obtain ⟨Ao, co, rfl, hCo⟩ := own_bounds hown
  have HO := Aside0.mk hCo
  have HB := Aside0.mk hB
  clear hown hB hCo c10
  go_wp2_with fail
  refine (c11 _ _ _ HO.out).mono ?_
  rintro en w2 ⟨A2, c2, rfl, _, hB⟩
  replace HO := Aside0.mk (Kd.C_below HO.out hB)
  replace HB := Aside0.mk (HB.out.trans (hB.mono HB.out.size))
  clear hB c11
  go_wp2_with fail
  refine (c17 _ _ _ HO.out).mono ?_
  rintro en w3 ⟨A3, c3, x, rfl, _, _, _, _, hB⟩
  replace HO := Aside0.mk (Kd.C_below HO.out hB)
  replace HB := Aside0.mk (HB.out.trans (hB.mono HB.out.size))
  clear hB c17
  clear k11 k17
  go_wp2_with fail
  refine (caw _).mono ?_
  rintro en w4 ⟨rfl, hB⟩
  have HE := Aside0.mk (HB.out.trans (hB.mono HB.out.size))
  clear hB
  go_wp2_with fail
  go_ret
  exact ⟨rfl, HE.out⟩
set_option maxHeartbeats 8000000 in
set_option maxRecDepth 100000 in
theorem solves_good (N : Nat) (A : Option Addr) (c : Nat) (l : List Bd) (w : World) (hr : Kd.C kb w A l.length l) (hl : l.length ≤ 40) (hN1 : 1 ≤ N) (hN2 : N ≤ 16) (h0 : matE N l = 0) :
    Calls Try.prog 6 #[.int .i64 N, .slice A l.length c] w fun e w' => e = .returned (.bool true) ∧ Below w.heap.size w w' := by
  have hC4 : conE N l = 4 := by unfold conE; rw [if_pos h0]
  have k17 := fun A' c' w hC => contradict_all N A' c' l w hC
  simp only [hC4] at k17
  have HZ := Aside0.mk h0
  have HS : SolOk l N (fwIt (mat1 l N (2 * l.length)) N) := by
    obtain ⟨hck, hok⟩ := matE_zero h0
    obtain ⟨N', hN, hn⟩ := netOk_of hck
    obtain rfl : N = N' := by omega
    rw [Int.toNat_natCast] at hok
    exact sol_ok hn hok
  have k11 := fun A' c' w hC => narrow_ok N A' c' l w hC HZ.out
  obtain ⟨D, hD⟩ : ∃ D, fwIt (mat1 l N (2 * l.length)) N = D := ⟨_, rfl⟩
  simp only [hD] at k11 HS
  clear hD h0 HZ hC4
  have HSS := Aside0.mk HS
  clear HS
  have HR := Aside0.mk hr
  clear hr
  have caw := fun w => awake_calls w
  have hd1 : ¬ (40 : Int) < (l.length : Int) := by omega
  have hd2 : ¬ (N : Int) < 1 := by omega
  have hd3 : ¬ (16 : Int) < (N : Int) := by omega
  have c10 := fun w hC => lbounds_calls A c l w hC (by omega)
  have c11 := fun A' c' w hC => k11 A' c' w hC
  have c17 := fun A' c' w hC => k17 A' c' w hC
  go_enter Try.func6, Try.ntmps6
  go_wp2_with fail
  refine (c10 _ HR.out).mono ?_
  rintro en w1 ⟨v1, rfl, hown, hB⟩
  obtain ⟨Ao, co, rfl, hCo⟩ := own_bounds hown
  have HO := Aside0.mk hCo
  have HB := Aside0.mk hB
  clear hown hB hCo c10
  go_wp2_with fail
  refine (c11 _ _ _ HO.out).mono ?_
  rintro en w2 ⟨A2, c2, rfl, hLL, hB⟩
  replace HO := Aside0.mk (Kd.C_below HO.out hB)
  replace HB := Aside0.mk (HB.out.trans (hB.mono HB.out.size))
  have HL := Aside0.mk hLL
  clear hLL
  clear hB c11
  go_wp2_with fail
  refine (c17 _ _ _ HO.out).mono ?_
  rintro en w3 ⟨A3, c3, x, rfl, _, _, _, _, hB⟩
  replace HO := Aside0.mk (Kd.C_below HO.out hB)
  replace HB := Aside0.mk (HB.out.trans (hB.mono HB.out.size))
  replace HL := Aside0.mk (HL.out.below hB)
  clear hB c17
  clear k11 k17
  clear HO
  have row : ∀ (W : World) (a : Nat), a < N → Below w3.heap.size w3 W → ∃ ad g c, A2 = some ad ∧ W.cell? (ad.add a) = some (.slice (some g) N c) ∧ ∀ b, b < N → W.cell? (g.add b) = some (.int .i64 (D a b)) := fun W a ha hB => ll_row (HL.out.below hB) ha
  have ROW := Aside0.mk row
  clear row HL
  go_wp2_with fail
  go_loopw [12] (fun v12 wr => ∃ (a : Nat), a ≤ N ∧ v12 = .int .i64 a ∧ Aside0 (Below w3.heap.size w3 wr)) (fun v12 _ => N - (intOf v12).toNat)
  case atStart => exact ⟨0, by omega, by simp, ⟨Below.refl _ _⟩⟩
  case round =>
    obtain ⟨a, ha, rfl, HI⟩ := hrel
    by_cases hlt : a < N
    · have hd4 : (a : Int) < (N : Int) := by omega
      have hwi := wrp ((a : Int) + 1) (by omega) (by omega)
      have ha0 : (0 : Int) ≤ (a : Int) := by omega
      obtain ⟨ad, g, cg, rfl, hc, _⟩ := ROW.out wr a hlt HI.out
      go_wp2
      go_roundw
      case rel => exact ⟨a + 1, by omega, by go_num, HI⟩
      case measure => simp [intOf]; omega
    · obtain rfl : a = N := by omega
      have hd4 : ¬ (a : Int) < (a : Int) := by omega
      obtain ⟨w4, hw4⟩ : ∃ w4, w4 = wr := ⟨_, rfl⟩
      subst hw4
      have H4 := HI
      clear HI
      go_wp2_with fail
      go_loopw [13] (fun v13 wr => ∃ (b : Nat), b ≤ a ∧ v13 = .int .i64 b ∧ Aside0 (Below w3.heap.size w3 wr)) (fun v13 _ => a - (intOf v13).toNat)
      case atStart => exact ⟨0, by omega, by simp, H4⟩
      case round =>
        obtain ⟨p, hp, rfl, HP⟩ := hrel
        by_cases hpl : p < a
        · have hdp : (p : Int) < (a : Int) := by omega
          have hwp := wrp ((p : Int) + 1) (by omega) (by omega)
          have hp0 : (0 : Int) ≤ (p : Int) := by omega
          go_wp2_with fail
          go_loopw [14] (fun v14 wr => ∃ (b : Nat), b ≤ a ∧ v14 = .int .i64 b ∧ Aside0 (Below w3.heap.size w3 wr)) (fun v14 _ => a - (intOf v14).toNat)
          case atStart => exact ⟨0, by omega, by simp, HP⟩
          case round =>
            clear HP
            obtain ⟨q, hq, rfl, HQ⟩ := hrel
            by_cases hql : q < a
            · have hdq : (q : Int) < (a : Int) := by omega
              have hwq := wrp ((q : Int) + 1) (by omega) (by omega)
              have hq0 : (0 : Int) ≤ (q : Int) := by omega
              go_wp2_with fail
              go_loopw [15] (fun v15 wr => ∃ (b : Nat), b ≤ a ∧ v15 = .int .i64 b ∧ Aside0 (Below w3.heap.size w3 wr)) (fun v15 _ => a - (intOf v15).toNat)
              case atStart => exact ⟨0, by omega, by simp, HQ⟩
              case round =>
                clear HQ
                obtain ⟨k, hk, rfl, HK⟩ := hrel
                by_cases hkl : k < a
                · have hdk : (k : Int) < (a : Int) := by omega
                  have hwk := wrp ((k : Int) + 1) (by omega) (by omega)
                  have hk0 : (0 : Int) ≤ (k : Int) := by omega
                  obtain ⟨ad, gp, cp, e, hcp, hpc⟩ := ROW.out wr p hpl HK.out
                  obtain ⟨ad', gk, ck, e', hck, hkc⟩ := ROW.out wr k hkl HK.out
                  subst e
                  cases e'
                  have x1 := hpc k hkl
                  have x2 := hkc q hql
                  have x3 := hpc q hql
                  have tr := HSS.out.tri p q k hpl hql hkl
                  have lo1 := HSS.out.low p k hpl hkl
                  have lo2 := HSS.out.low k q hkl hql
                  have up1 := HSS.out.top p k
                  have up2 := HSS.out.top k q
                  have hws := C.wr (D p k + D k q) (by omega) (by omega)
                  clear hpc hkc
                  by_cases h1 : D p k < 100000000000000000
                  · by_cases h2 : D k q < 100000000000000000
                    · have h3 : ¬ D p k + D k q < D p q := by have := tr h1 h2; omega
                      have h3d := decide_eq_false h3
                      clear tr
                      go_wp2_with fail
                      go_region
                      all_goals
                        go_wp2
                        go_roundw
                        case rel => exact ⟨k + 1, by omega, by go_num, ⟨by first | exact HK.out.drew | exact HK.out⟩⟩
                        case measure => simp [intOf]; omega
                    · have h2d := decide_eq_false h2
                      clear tr
                      go_wp2_with fail
                      go_region
                      all_goals
                        go_wp2
                        go_roundw
                        case rel => exact ⟨k + 1, by omega, by go_num, ⟨by first | exact HK.out.drew | exact HK.out⟩⟩
                        case measure => simp [intOf]; omega
                  · have h1d := decide_eq_false h1
                    clear tr
                    go_wp2_with fail
                    go_region
                    all_goals
                      go_wp2
                      go_roundw
                      case rel => exact ⟨k + 1, by omega, by go_num, ⟨by first | exact HK.out.drew | exact HK.out⟩⟩
                      case measure => simp [intOf]; omega
                · obtain rfl : k = a := by omega
                  have hdk : ¬ (k : Int) < (k : Int) := by omega
                  go_wp2
                  go_roundw
                  case rel => exact ⟨q + 1, by omega, by go_num, HK⟩
                  case measure => simp [intOf]; omega
            · obtain rfl : q = a := by omega
              have hdq : ¬ (q : Int) < (q : Int) := by omega
              go_wp2_with fail
              go_loopw [16] (fun v16 wr => ∃ (b : Nat), b ≤ l.length ∧ v16 = .int .i64 b ∧ Aside0 (Below w3.heap.size w3 wr)) (fun v16 _ => l.length - (intOf v16).toNat)
              case atStart => exact ⟨0, by omega, by simp, HQ⟩
              case round =>
                clear HQ
                obtain ⟨i, hi, rfl, HI⟩ := hrel
                by_cases hil : i < l.length
                · have hdi : (i : Int) < (l.length : Int) := by omega
                  have hwi := wrp ((i : Int) + 1) (by omega) (by omega)
                  have hi0 : (0 : Int) ≤ (i : Int) := by omega
                  obtain ⟨ar, rfl, hr0, hr1, hr2, hr3⟩ := C_bd (Kd.C_below HR.out (HB.out.trans (HI.out.mono HB.out.size))) i hil hil
                  have hsol := HSS.out.cl _ (List.getElem_mem hil)
                  generalize l[i] = z at *
                  obtain ⟨za, zb, zl, zh⟩ := z
                  simp only at hr0 hr1 hr2 hr3 hsol
                  obtain ⟨s, t, hs, ht, hsl, htl, hst⟩ := hsol
                  subst hs ht
                  have hst := hst p hpl
                  have hds : (s : Int) < (q : Int) := by omega
                  have hdt : (t : Int) < (q : Int) := by omega
                  have hs0 : (0 : Int) ≤ (s : Int) := by omega
                  have ht0 : (0 : Int) ≤ (t : Int) := by omega
                  obtain ⟨ad, gs, cs, e, hcs, hsc⟩ := ROW.out wr s hsl HI.out
                  obtain ⟨ad', gt, ct, e', hct, htc⟩ := ROW.out wr t htl HI.out
                  subst e
                  cases e'
                  have x1 := hsc p hpl
                  have x2 := htc p hpl
                  have lo1 := HSS.out.low s p hsl hpl
                  have lo2 := HSS.out.low t p htl hpl
                  have up1 := HSS.out.top s p
                  have up2 := HSS.out.top t p
                  have hws := C.wr (D s p - D t p) (by omega) (by omega)
                  clear hsc htc
                  by_cases h1 : D s p < 100000000000000000
                  · have h2 := (hst.2 h1).2
                    have h3 : ¬ D s p - D t p < zl := by have := (hst.2 h1).1; omega
                    have h4 : ¬ zh < D s p - D t p := by have := (hst.1 h2).1; omega
                    have h3d := decide_eq_false h3
                    have h4d := decide_eq_false h4
                    have h5 : (D s p == 100000000000000000) = false := beq_eq_false_iff_ne.2 (by omega)
                    have h6 : (D t p == 100000000000000000) = false := beq_eq_false_iff_ne.2 (by omega)
                    clear hst
                    go_wp2_with fail
                    go_region
                    all_goals
                      go_wp2
                      go_roundw
                      case rel => exact ⟨i + 1, by omega, by go_num, ⟨by first | exact HI.out.drew | exact HI.out⟩⟩
                      case measure => simp [intOf]; omega
                  · have h2 : ¬ D t p < 100000000000000000 := fun h => h1 (hst.1 h).2
                    have e1 : D s p = 100000000000000000 := by omega
                    have e2 : D t p = 100000000000000000 := by omega
                    rw [e1] at x1
                    rw [e2] at x2
                    clear hst h1 h2 e1 e2 lo1 lo2 up1 up2 hws
                    go_wp2_with fail
                    go_region
                    all_goals
                      go_wp2
                      go_roundw
                      case rel => exact ⟨i + 1, by omega, by go_num, ⟨by first | exact HI.out.drew | exact HI.out⟩⟩
                      case measure => simp [intOf]; omega
                · obtain rfl : i = l.length := by omega
                  have hdi : ¬ (l.length : Int) < (l.length : Int) := by omega
                  obtain ⟨ad, g, cg, rfl, hc, hcc⟩ := ROW.out wr p hpl HI.out
                  have x1 := hcc p hpl
                  rw [HSS.out.diag p hpl] at x1
                  clear hcc
                  go_wp2
                  go_roundw
                  case rel => exact ⟨p + 1, by omega, by go_num, HI⟩
                  case measure => simp [intOf]; omega
        · obtain rfl : p = a := by omega
          have hdp : ¬ (p : Int) < (p : Int) := by omega
          go_wp2_with fail
          refine (caw _).mono ?_
          rintro en w9 ⟨rfl, hB⟩
          have HE := Aside0.mk (HB.out.trans ((HP.out.trans (hB.mono HP.out.size)).mono HB.out.size))
          clear hB
          go_wp2_with fail
          go_ret
          exact ⟨rfl, HE.out⟩
end Go.Proofs.Ytjgnadighdbjlaa.C
