/- The walk through SteerCharts' function, by hand. -/
import Derived.Test.YtcaekmalkbaldaaCp
namespace Go.Proofs.Ytcaekmalkbaldaa.M
set_option linter.unusedVariables false
set_option linter.unusedSimpArgs false
open Go.RowKit Go.Shelf Go.Proofs.YtcaekmalkbaldaaW.PrintWords Go.Proofs.YtcaekmalkbaldaaW.PrintLast Go.Proofs.YtcaekmalkbaldaaW.PrintMore
set_option linter.unusedVariables false
abbrev pl (L R S N : Int) : Value := .agg #[.int .i64 L, .int .i64 R, .int .i64 S, .int .i64 N]
section
variable (L R S N : Int)
/-- A slice that a call hands back, of its own row or none. -/
theorem cw_chart {c : List Int} {x : Int} (h : steer_Chart.f L R S N = some (c, x)) (W : World) : Calls Try.prog 14 #[pl L R S N] W fun e w' => ∃ (A : Option Addr) (cap : Nat), e = .returned (.tuple #[.slice A c.length cap, .int .i64 x]) ∧ (c.length ≤ cap ∧ Kd.C (Kd.int .i64) w' A c.length c) ∧ Below W.heap.size W w' := by
  refine (steer_Chart.calls L R S N c x W h).mono ?_
  rintro e w' ⟨v0, rfl, hR, hB⟩
  obtain ⟨A, cap, rfl, h1, h2⟩ := Kd.R_reads hR
  exact ⟨A, cap, rfl, ⟨h1, h2⟩, hB⟩
theorem cw_copy (A : Option Addr) (cap : Nat) (l : List Int) (hl : l.length ≤ 1000000) (W : World) (hr : Kd.C (Kd.int .i64) W A l.length l) (hc : l.length ≤ cap) : Calls Try.prog 22 #[.slice A l.length cap] W fun e w' => ∃ (A : Option Addr) (cap : Nat), e = .returned (.slice A l.length cap) ∧ (l.length ≤ cap ∧ Kd.C (Kd.int .i64) w' A l.length l) ∧ Below W.heap.size W w' := by
  refine (meridiankit_CopyInts.calls A cap l l W hr hc (copy_f l hl)).mono ?_
  rintro e w' ⟨v0, rfl, hR, hB⟩
  obtain ⟨A, cap, rfl, h1, h2⟩ := Kd.R_reads hR
  exact ⟨A, cap, rfl, ⟨h1, h2⟩, hB⟩
theorem cw_same (A B : Option Addr) (ca cb : Nat) (l : List Int) (hl : l.length ≤ 1000000) (W : World) (ha : Kd.C (Kd.int .i64) W A l.length l) (hca : l.length ≤ ca) (hb : Kd.C (Kd.int .i64) W B l.length l) (hcb : l.length ≤ cb) :
    Calls Try.prog 18 #[.slice A l.length ca, .slice B l.length cb] W fun e w' => e = .returned (.bool true) ∧ Drawn0 W w' :=
  meridiankit_SameInts.calls (l.length + 1) A ca l B cb l true W ha hca hb hcb (same_f l hl _ (by omega))
end
set_option maxRecDepth 100000 in
set_option maxHeartbeats 2000000 in
theorem steerCharts_early (L R S N e y : Int) (A : Option Addr) (c : Nat) (l : List Int) (n v : Int) (w : World) (hb : (decide (rightB L R S N = true) && decide (600 < (2 * L + 1) * (2 * R + 1))) = true ∨ l.length > 2100) (hl : l.length ≤ 140737488351232) :
    Calls Try.prog 4 #[pl L R S N, .int .i64 e, .int .i64 y, .slice A l.length c, .int .i64 n, .int .i64 v] w fun en w' => en = .returned (.bool true) ∧ Below w.heap.size w w' := by
  have hu23 := Try.underlying23
  have a10 := fun W => meridianlaw06_big.calls L R S N _ W (big_f L R S N)
  have a12 := fun W => meridianlaw06_awake.calls true W rfl
  cases hbb : (decide (rightB L R S N = true) && decide (600 < (2 * L + 1) * (2 * R + 1)))
  · have hlen : l.length > 2100 := hb.resolve_left (by rw [hbb]; simp)
    rw [hbb] at a10
    have d1 : decide (2100 < (l.length : Int)) = true := decide_eq_true (by omega)
    have d2 : decide (2100 < l.length) = true := decide_eq_true hlen
    go_enter Try.func4, Try.ntmps4
    go_wp2_with (first | (go_at_call 10; refine (a10 _).mono ?_; rintro en w1 ⟨rfl, hB1⟩) | (go_at_call 12; refine (a12 _).mono ?_; rintro en w2 ⟨rfl, hB2⟩))
    go_ret
    exact ⟨rfl, (((Below.refl _ w).alloc (Nat.le_refl _) _).trans (hB1.mono (by simp))).trans (hB2.mono (by have := hB1.size; simp at this; omega))⟩
  · rw [hbb] at a10
    go_enter Try.func4, Try.ntmps4
    go_wp2_with (first | (go_at_call 10; refine (a10 _).mono ?_; rintro en w1 ⟨rfl, hB1⟩) | (go_at_call 12; refine (a12 _).mono ?_; rintro en w2 ⟨rfl, hB2⟩))
    go_ret
    exact ⟨rfl, (((Below.refl _ w).alloc (Nat.le_refl _) _).trans (hB1.mono (by simp))).trans (hB2.mono (by have := hB1.size; simp at this; omega))⟩

theorem pick_g (n m : Int) (h1 : 1 ≤ m) (h2 : m ≤ 100000) : ∃ c, meridiankit_Pick.f n m = some c ∧ 0 ≤ c ∧ c < m := by
  unfold meridiankit_Pick.f
  rw [if_neg (by omega), if_neg (by omega)]
  have h3 : Int.tmod n m < m := Int.tmod_lt_of_pos n (by omega)
  have h4 : -m < Int.tmod n m := by
    have := Int.tmod_lt_of_pos (-n) (show (0 : Int) < m by omega)
    rw [Int.neg_tmod] at this
    omega
  by_cases h : Int.tmod n m < 0
  · rw [if_pos h, wrap_small _ (by omega) (by omega)]
    exact ⟨_, rfl, by omega, by omega⟩
  · rw [if_neg h]
    exact ⟨_, rfl, by omega, by omega⟩
theorem C_own {W : World} {base g cap : Nat} {xs : List Int} (h : W.ownsRow base 3 1 (.slice (some ⟨g, 0, none⟩) xs.length cap) xs.length (nums .i64 xs)) (hl : xs.length ≤ 1000000) : Kd.C (Kd.int .i64) W (some ⟨g, 0, none⟩) xs.length xs := by
  refine ⟨rfl, by omega, fun _ => ⟨_, rfl, fun j p hj => ⟨[.int .i64 p], rfl, rfl, fun i u hi => ?_⟩⟩⟩
  match i, hi with
  | 0, hi =>
    obtain rfl : Value.int .i64 p = u := Option.some.inj hi
    have hjl : j < xs.length := (List.getElem?_eq_some_iff.1 hj).1
    have := (own_at h (j : Int) (by omega) (by omega)).1
    have hr : rd xs (j : Int) = p := by rw [rd_nat, List.getD_eq_getElem?_getD, hj]; rfl
    rw [hr, Int.toNat_natCast] at this
    show W.cell? ((⟨g, 0, none⟩ : Addr).add (j * 1 + 0)) = _
    rw [Nat.mul_one, Nat.add_zero, add_plain]
    exact this
set_option maxRecDepth 100000 in
set_option maxHeartbeats 3000000 in
theorem steerCharts_main (L R S N e y : Int) (A : Option Addr) (c : Nat) (l : List Int) (n v : Int) (w : World) (hb : (decide (rightB L R S N = true) && decide (600 < (2 * L + 1) * (2 * R + 1))) = false) (hl : l.length ≤ 2100) (hr : Kd.C (Kd.int .i64) w A l.length l) (hc : l.length ≤ c) :
    Calls Try.prog 4 #[pl L R S N, .int .i64 e, .int .i64 y, .slice A l.length c, .int .i64 n, .int .i64 v] w fun en w' => en = .returned (.bool true) ∧ Below w.heap.size w w' := by
  have hu23 := Try.underlying23
  have hu24 := Try.underlying24
  have a10 := fun W => meridianlaw06_big.calls L R S N _ W (big_f L R S N)
  rw [hb] at a10
  obtain ⟨i0, x0, hi1, hi2⟩ := index_both L R S N e y
  obtain ⟨ch, x1, K1, hc1, hclen, hc2⟩ := chart_both L R S N
  obtain ⟨wd, K2, hwd⟩ := widest_both L R S N
  have a15 := fun W => steer_Index.calls L R S N e y i0 x0 W hi1
  have a16 := fun W => meridianref06_Index.calls L R S N e y i0 x0 W hi2
  have a14 := fun W => cw_chart L R S N hc1 W
  have a17 := fun W => meridianref06_Chart.calls K1 L R S N ch x1 W (hc2 K1 (Nat.le_refl _))
  have HR := Aside0.mk hr
  have HC := Aside0.mk hc
  have d1 : decide (2100 < (l.length : Int)) = false := decide_eq_false (by omega)
  have d2 : decide (2100 < l.length) = false := decide_eq_false (by omega)
  clear hr hc hb hi1 hi2 hc1 hc2
  go_enter Try.func4, Try.ntmps4
  go_wp2_with (first | (go_at_call 10; refine (a10 _).mono ?_; rintro en w1 ⟨rfl, hB⟩; have b6 := (hB.block w.heap.size (by simp)).trans (al_new _ _ _ rfl); have c6_0 := (aw_cells b6 0).trans rfl; have c6_1 := (aw_cells b6 1).trans rfl; have c6_2 := (aw_cells b6 2).trans rfl; have c6_3 := (aw_cells b6 3).trans rfl; have hsz : w.heap.size + 1 ≤ w1.heap.size := (by have := hB.size; simpa using this); have hW : Below w.heap.size w w1 := ((Below.refl _ w).alloc (Nat.le_refl _) _).trans (hB.mono (by simp)); clear hB b6 a10) | (go_at_call 15; refine (a15 _).mono ?_; rintro en w2 ⟨rfl, hB⟩; have b13 := (hB.block w1.heap.size (by simp)).trans (al_new _ _ _ rfl); have hA := (Below.refl w1.heap.size w1).alloc (Nat.le_refl _) (.cells #[.int .i64 L, .int .i64 R, .int .i64 S, .int .i64 N] 24); replace c6_0 := cell_on hB (cell_on hA c6_0); replace c6_1 := cell_on hB (cell_on hA c6_1); replace c6_2 := cell_on hB (cell_on hA c6_2); replace c6_3 := cell_on hB (cell_on hA c6_3); have c13_0 := (aw_cells b13 0).trans rfl; have c13_1 := (aw_cells b13 1).trans rfl; have c13_2 := (aw_cells b13 2).trans rfl; have c13_3 := (aw_cells b13 3).trans rfl; replace hW := (hW.trans (hA.mono hW.size)).trans (hB.mono (by have := hW.size; simp; omega)); have hsz2 : w1.heap.size + 1 ≤ w2.heap.size := (by have := hB.size; simpa using this); replace hsz := Nat.le_trans hsz (Nat.le_trans (Nat.le_succ _) hsz2); clear hB b13 hA a15) | (go_at_call 16; refine (a16 _).mono ?_; rintro en w3 ⟨rfl, hB⟩; replace c6_0 := cell_on hB c6_0; replace c6_1 := cell_on hB c6_1; replace c6_2 := cell_on hB c6_2; replace c6_3 := cell_on hB c6_3; replace c13_0 := cell_on hB c13_0; replace c13_1 := cell_on hB c13_1; replace c13_2 := cell_on hB c13_2; replace c13_3 := cell_on hB c13_3; replace hW := hW.trans (hB.mono hW.size); replace hsz := Nat.le_trans hsz hB.size; replace hsz2 := Nat.le_trans hsz2 hB.size; clear hB a16) | (go_at_call 14; refine (a14 _).mono ?_; rintro en w4 ⟨Aa, ca, rfl, ⟨hca, hCa⟩, hB⟩; replace c6_0 := cell_on hB c6_0; replace c6_1 := cell_on hB c6_1; replace c6_2 := cell_on hB c6_2; replace c6_3 := cell_on hB c6_3; replace c13_0 := cell_on hB c13_0; replace c13_1 := cell_on hB c13_1; replace c13_2 := cell_on hB c13_2; replace c13_3 := cell_on hB c13_3; replace hW := hW.trans (hB.mono hW.size); replace hsz := Nat.le_trans hsz hB.size; replace hsz2 := Nat.le_trans hsz2 hB.size; have hsz4 := hsz; clear hB a14) | (go_at_call 17; refine (a17 _).mono ?_; rintro en w5 ⟨vb, rfl, hRb, hB⟩; replace c6_0 := cell_on hB c6_0; replace c6_1 := cell_on hB c6_1; replace c6_2 := cell_on hB c6_2; replace c6_3 := cell_on hB c6_3; replace c13_0 := cell_on hB c13_0; replace c13_1 := cell_on hB c13_1; replace c13_2 := cell_on hB c13_2; replace c13_3 := cell_on hB c13_3; replace hW := hW.trans (hB.mono hW.size); replace hsz := Nat.le_trans hsz hB.size; have hCa' := Kd.C_below hCa hB; have HB5 := Aside0.mk hB; clear hB a17))
  clear d1 d2
  obtain ⟨Ab, cb, rfl, hcb, hCb⟩ := Kd.R_reads hRb
  have hs18 : ∀ W, Below w5.heap.size w5 W → Calls Try.prog 18 #[.slice Aa ch.length ca, .slice Ab ch.length cb] W fun e w' => e = .returned (.bool true) ∧ Below W.heap.size W w' := fun W hW => by
    refine (cw_same Aa Ab ca cb ch (by omega) W (Kd.C_below hCa' hW) hca (Kd.C_below hCb hW) hcb).mono ?_
    rintro e w' ⟨rfl, hD⟩
    exact ⟨rfl, hD.below⟩
  have a11 := fun W => steer_Check.calls L R S N _ W (check_f L R S N)
  have a19 := fun W => meridianref06_Check.calls L R S N _ W (refcheck_f L R S N)
  generalize (if rightB L R S N = true then (0 : Int) else 60) = cd at a11 a19
  have hS : ∀ w', Below w5.heap.size w5 w' → ((w'.cell? ⟨w.heap.size, 0, none⟩ = some (.int .i64 L) ∧ w'.cell? ⟨w.heap.size, 1, none⟩ = some (.int .i64 R) ∧ w'.cell? ⟨w.heap.size, 2, none⟩ = some (.int .i64 S) ∧ w'.cell? ⟨w.heap.size, 3, none⟩ = some (.int .i64 N) ∧ w'.cell? ⟨w1.heap.size, 0, none⟩ = some (.int .i64 L) ∧ w'.cell? ⟨w1.heap.size, 1, none⟩ = some (.int .i64 R) ∧ w'.cell? ⟨w1.heap.size, 2, none⟩ = some (.int .i64 S) ∧ w'.cell? ⟨w1.heap.size, 3, none⟩ = some (.int .i64 N)) ∧ Below w5.heap.size w5 w') := fun w' hB => ⟨⟨cell_on hB c6_0, cell_on hB c6_1, cell_on hB c6_2, cell_on hB c6_3, cell_on hB c13_0, cell_on hB c13_1, cell_on hB c13_2, cell_on hB c13_3⟩, hB⟩
  go_region_held3 (fun w' => (w'.cell? ⟨w.heap.size, 0, none⟩ = some (.int .i64 L) ∧ w'.cell? ⟨w.heap.size, 1, none⟩ = some (.int .i64 R) ∧ w'.cell? ⟨w.heap.size, 2, none⟩ = some (.int .i64 S) ∧ w'.cell? ⟨w.heap.size, 3, none⟩ = some (.int .i64 N) ∧ w'.cell? ⟨w1.heap.size, 0, none⟩ = some (.int .i64 L) ∧ w'.cell? ⟨w1.heap.size, 1, none⟩ = some (.int .i64 R) ∧ w'.cell? ⟨w1.heap.size, 2, none⟩ = some (.int .i64 S) ∧ w'.cell? ⟨w1.heap.size, 3, none⟩ = some (.int .i64 N)) ∧ Below w5.heap.size w5 w') (first | exact hS _ (Below.refl _ _).drew | (have hh := ‹(_ ∧ _ ∧ _ ∧ _ ∧ _ ∧ _ ∧ _ ∧ _) ∧ Below w5.heap.size w5 _›; exact hS _ (hh.2.trans (hB.mono hh.2.size))))
    (first | (go_at_call 18; refine (hs18 _ (by have hh := ‹(_ ∧ _ ∧ _ ∧ _ ∧ _ ∧ _ ∧ _ ∧ _) ∧ Below w5.heap.size w5 _›; exact hh.2)).mono ?_; rintro e w' ⟨rfl, hB⟩) | (go_at_call 11; refine (a11 _).mono ?_; rintro e w' ⟨rfl, hB⟩) | (go_at_call 19; refine (a19 _).mono ?_; rintro e w' ⟨rfl, hB⟩))
  rename_i hHeld
  have hT := hHeld.2
  clear hHeld hS hs18 a11 a19
  rename World => w6
  replace c6_0 := cell_on hT c6_0
  replace c6_1 := cell_on hT c6_1
  replace c6_2 := cell_on hT c6_2
  replace c6_3 := cell_on hT c6_3
  replace c13_0 := cell_on hT c13_0
  replace c13_1 := cell_on hT c13_1
  replace c13_2 := cell_on hT c13_2
  replace c13_3 := cell_on hT c13_3
  have a20 := fun W => steer_Widest.calls K2 L R S N wd.1 wd.2 W (hwd K2 (Nat.le_refl _)).1
  have a21 := fun W => meridianref06_Widest.calls K2 L R S N wd.1 wd.2 W (hwd K2 (Nat.le_refl _)).2
  clear hwd
  obtain ⟨w_1, w_2⟩ := wd
  simp only at a20 a21
  go_wp2_with (first | (go_at_call 20; refine (a20 _).mono ?_; rintro en w7 ⟨rfl, hB⟩; replace c6_0 := cell_on hB c6_0; replace c6_1 := cell_on hB c6_1; replace c6_2 := cell_on hB c6_2; replace c6_3 := cell_on hB c6_3; replace c13_0 := cell_on hB c13_0; replace c13_1 := cell_on hB c13_1; replace c13_2 := cell_on hB c13_2; replace c13_3 := cell_on hB c13_3; replace hT := hT.trans (hB.mono hT.size); clear hB a20) | (go_at_call 21; refine (a21 _).mono ?_; rintro en w8 ⟨rfl, hB⟩; replace c6_0 := cell_on hB c6_0; replace c6_1 := cell_on hB c6_1; replace c6_2 := cell_on hB c6_2; replace c6_3 := cell_on hB c6_3; replace c13_0 := cell_on hB c13_0; replace c13_1 := cell_on hB c13_1; replace c13_2 := cell_on hB c13_2; replace c13_3 := cell_on hB c13_3; replace hT := hT.trans (hB.mono hT.size); clear hB a21) | (go_at_call 22; refine (cw_copy A c l (by omega) _ (Kd.C_below HR.out (hW.trans (hT.mono hW.size))) HC.out).mono ?_; rintro en w9 ⟨Ac, cc, rfl, ⟨hcc, hCc⟩, hB⟩; replace c6_0 := cell_on hB c6_0; replace c6_1 := cell_on hB c6_1; replace c6_2 := cell_on hB c6_2; replace c6_3 := cell_on hB c6_3; replace c13_0 := cell_on hB c13_0; replace c13_1 := cell_on hB c13_1; replace c13_2 := cell_on hB c13_2; replace c13_3 := cell_on hB c13_3; replace hT := hT.trans (hB.mono hT.size); clear hB))
  obtain ⟨pv, K3, hp1, hp2⟩ := prove_both L R S N l
  have hs23 : ∀ W, Below w9.heap.size w9 W → Calls Try.prog 23 #[pl L R S N, .slice Ac l.length cc] W fun e w' => e = .returned (.int .i64 pv) ∧ Below W.heap.size W w' := fun W hW => steer_Prove.calls L R S N Ac cc l pv W (Kd.C_below hCc hW) hcc hp1
  have hCl : Kd.C (Kd.int .i64) w9 A l.length l := Kd.C_below HR.out (hW.trans (hT.mono hW.size))
  have hs24 : ∀ W, Below w9.heap.size w9 W → Calls Try.prog 24 #[pl L R S N, .slice A l.length c] W fun e w' => e = .returned (.int .i64 pv) ∧ Below W.heap.size W w' := fun W hW => meridianref06_Prove.calls K3 L R S N A c l pv W (Kd.C_below hCl hW) HC.out (hp2 K3 (Nat.le_refl _))
  have hs18 : ∀ W, Below w9.heap.size w9 W → Calls Try.prog 18 #[.slice Ac l.length cc, .slice A l.length c] W fun e w' => e = .returned (.bool true) ∧ Below W.heap.size W w' := fun W hW => by
    refine (cw_same Ac A cc c l (by omega) W (Kd.C_below hCc hW) hcc (Kd.C_below hCl hW) HC.out).mono ?_
    rintro e w' ⟨rfl, hD⟩
    exact ⟨rfl, hD.below⟩
  have hS : ∀ w', Below w9.heap.size w9 w' → ((w'.cell? ⟨w.heap.size, 0, none⟩ = some (.int .i64 L) ∧ w'.cell? ⟨w.heap.size, 1, none⟩ = some (.int .i64 R) ∧ w'.cell? ⟨w.heap.size, 2, none⟩ = some (.int .i64 S) ∧ w'.cell? ⟨w.heap.size, 3, none⟩ = some (.int .i64 N) ∧ w'.cell? ⟨w1.heap.size, 0, none⟩ = some (.int .i64 L) ∧ w'.cell? ⟨w1.heap.size, 1, none⟩ = some (.int .i64 R) ∧ w'.cell? ⟨w1.heap.size, 2, none⟩ = some (.int .i64 S) ∧ w'.cell? ⟨w1.heap.size, 3, none⟩ = some (.int .i64 N)) ∧ Below w9.heap.size w9 w') := fun w' hB => ⟨⟨cell_on hB c6_0, cell_on hB c6_1, cell_on hB c6_2, cell_on hB c6_3, cell_on hB c13_0, cell_on hB c13_1, cell_on hB c13_2, cell_on hB c13_3⟩, hB⟩
  go_region_held3 (fun w' => (w'.cell? ⟨w.heap.size, 0, none⟩ = some (.int .i64 L) ∧ w'.cell? ⟨w.heap.size, 1, none⟩ = some (.int .i64 R) ∧ w'.cell? ⟨w.heap.size, 2, none⟩ = some (.int .i64 S) ∧ w'.cell? ⟨w.heap.size, 3, none⟩ = some (.int .i64 N) ∧ w'.cell? ⟨w1.heap.size, 0, none⟩ = some (.int .i64 L) ∧ w'.cell? ⟨w1.heap.size, 1, none⟩ = some (.int .i64 R) ∧ w'.cell? ⟨w1.heap.size, 2, none⟩ = some (.int .i64 S) ∧ w'.cell? ⟨w1.heap.size, 3, none⟩ = some (.int .i64 N)) ∧ Below w9.heap.size w9 w') (first | exact hS _ (Below.refl _ _).drew | (have hh := ‹(_ ∧ _ ∧ _ ∧ _ ∧ _ ∧ _ ∧ _ ∧ _) ∧ Below w9.heap.size w9 _›; exact hS _ (hh.2.trans (hB.mono hh.2.size))))
    (first | (go_at_call 23; refine (hs23 _ (by have hh := ‹(_ ∧ _ ∧ _ ∧ _ ∧ _ ∧ _ ∧ _ ∧ _) ∧ Below w9.heap.size w9 _›; exact hh.2)).mono ?_; rintro e w' ⟨rfl, hB⟩) | (go_at_call 24; refine (hs24 _ (by have hh := ‹(_ ∧ _ ∧ _ ∧ _ ∧ _ ∧ _ ∧ _ ∧ _) ∧ Below w9.heap.size w9 _›; exact hh.2)).mono ?_; rintro e w' ⟨rfl, hB⟩) | (go_at_call 18; refine (hs18 _ (by have hh := ‹(_ ∧ _ ∧ _ ∧ _ ∧ _ ∧ _ ∧ _ ∧ _) ∧ Below w9.heap.size w9 _›; exact hh.2)).mono ?_; rintro e w' ⟨rfl, hB⟩))
  rename_i hHeld
  have hT9 := hHeld.2
  clear hHeld hS hs18 hs23 hs24
  rename World => w10
  have hTT : Below w5.heap.size w5 w10 := hT.trans (hT9.mono hT.size)
  replace c6_0 := cell_on hT9 c6_0
  replace c6_1 := cell_on hT9 c6_1
  replace c6_2 := cell_on hT9 c6_2
  replace c6_3 := cell_on hT9 c6_3
  replace c13_0 := cell_on hT9 c13_0
  replace c13_1 := cell_on hT9 c13_1
  replace c13_2 := cell_on hT9 c13_2
  replace c13_3 := cell_on hT9 c13_3
  have a12 := fun W => meridianlaw06_awake.calls true W rfl
  have hWW : Below w.heap.size w w10 := hW.trans (hTT.mono hW.size)
  clear HB5
  by_cases hz : ch.length = 0
  · have d1 : decide (0 < (ch.length : Int)) = false := decide_eq_false (by omega)
    have d2 : decide (0 < ch.length) = false := decide_eq_false (by omega)
    have hCb' : Kd.C (Kd.int .i64) w10 Ab ch.length ch := Kd.C_below hCb hTT
    have hcb' := hcb
    clear hz
    go_wp2
    clear d1 d2
    obtain ⟨pv2, K4, hq1, hq2⟩ := prove_both L R S N ch
    have hs23 : ∀ W, Below w10.heap.size w10 W → Calls Try.prog 23 #[pl L R S N, .slice Ab (ch).length cb] W fun e w' => e = .returned (.int .i64 pv2) ∧ Below W.heap.size W w' := fun W hW => steer_Prove.calls L R S N Ab cb (ch) pv2 W (Kd.C_below hCb' hW) hcb' hq1
    have hs24 : ∀ W, Below w10.heap.size w10 W → Calls Try.prog 24 #[pl L R S N, .slice Ab (ch).length cb] W fun e w' => e = .returned (.int .i64 pv2) ∧ Below W.heap.size W w' := fun W hW => meridianref06_Prove.calls K4 L R S N Ab cb (ch) pv2 W (Kd.C_below hCb' hW) hcb' (hq2 K4 (Nat.le_refl _))
    have hS : ∀ w', Below w10.heap.size w10 w' → ((w'.cell? ⟨w.heap.size, 0, none⟩ = some (.int .i64 L) ∧ w'.cell? ⟨w.heap.size, 1, none⟩ = some (.int .i64 R) ∧ w'.cell? ⟨w.heap.size, 2, none⟩ = some (.int .i64 S) ∧ w'.cell? ⟨w.heap.size, 3, none⟩ = some (.int .i64 N) ∧ w'.cell? ⟨w1.heap.size, 0, none⟩ = some (.int .i64 L) ∧ w'.cell? ⟨w1.heap.size, 1, none⟩ = some (.int .i64 R) ∧ w'.cell? ⟨w1.heap.size, 2, none⟩ = some (.int .i64 S) ∧ w'.cell? ⟨w1.heap.size, 3, none⟩ = some (.int .i64 N)) ∧ Below w10.heap.size w10 w') := fun w' hB => ⟨⟨cell_on hB c6_0, cell_on hB c6_1, cell_on hB c6_2, cell_on hB c6_3, cell_on hB c13_0, cell_on hB c13_1, cell_on hB c13_2, cell_on hB c13_3⟩, hB⟩
    go_region_held3 (fun w' => (w'.cell? ⟨w.heap.size, 0, none⟩ = some (.int .i64 L) ∧ w'.cell? ⟨w.heap.size, 1, none⟩ = some (.int .i64 R) ∧ w'.cell? ⟨w.heap.size, 2, none⟩ = some (.int .i64 S) ∧ w'.cell? ⟨w.heap.size, 3, none⟩ = some (.int .i64 N) ∧ w'.cell? ⟨w1.heap.size, 0, none⟩ = some (.int .i64 L) ∧ w'.cell? ⟨w1.heap.size, 1, none⟩ = some (.int .i64 R) ∧ w'.cell? ⟨w1.heap.size, 2, none⟩ = some (.int .i64 S) ∧ w'.cell? ⟨w1.heap.size, 3, none⟩ = some (.int .i64 N)) ∧ Below w10.heap.size w10 w') (first | exact hS _ (Below.refl _ _).drew | (have hh := ‹(_ ∧ _ ∧ _ ∧ _ ∧ _ ∧ _ ∧ _ ∧ _) ∧ Below w10.heap.size w10 _›; exact hS _ (hh.2.trans (hB.mono hh.2.size))))
      (first | (go_at_call 23; refine (hs23 _ (by have hh := ‹(_ ∧ _ ∧ _ ∧ _ ∧ _ ∧ _ ∧ _ ∧ _) ∧ Below w10.heap.size w10 _›; exact hh.2)).mono ?_; rintro e w' ⟨rfl, hB⟩) | (go_at_call 24; refine (hs24 _ (by have hh := ‹(_ ∧ _ ∧ _ ∧ _ ∧ _ ∧ _ ∧ _ ∧ _) ∧ Below w10.heap.size w10 _›; exact hh.2)).mono ?_; rintro e w' ⟨rfl, hB⟩) | (go_at_call 12; refine (a12 _).mono ?_; rintro e w' ⟨rfl, hB⟩))
    rename_i hHeld
    have hZ := hHeld.2
    clear hHeld hS hs23 hs24
    go_wp2
    go_ret
    exact ⟨rfl, (hWW).trans (hZ.mono (by have := (hWW).size; omega))⟩
  · have hown0 := R_ints hRb
    have hown := own_move hown0 (fun k hk => hTT.block k (own_lt hown0 k hk))
    obtain ⟨g, hge, hgl⟩ : ∃ g, Ab = some ⟨g, 0, none⟩ ∧ w4.heap.size ≤ g := by
      rcases hown0.2 with ⟨_, h0⟩ | ⟨g', cap', cur, e', hb0, hh, _⟩
      · exact absurd h0 hz
      · cases e'; exact ⟨g', rfl, hb0⟩
    subst hge
    obtain ⟨t, ht, t0, t1⟩ := pick_g n (ch.length : Int) (by omega) (by omega)
    have a13 := fun W => meridiankit_Pick.calls n (ch.length : Int) t W ht
    have d1 : decide (0 < (ch.length : Int)) = true := decide_eq_true (by omega)
    have d2 : decide (0 < ch.length) = true := decide_eq_true (by omega)
    obtain ⟨h1, h2⟩ := own_at hown t t0 t1
    go_wp2_with (first | (go_at_call 13; refine (a13 _).mono ?_; rintro en w11 ⟨rfl, ⟨m, rfl⟩⟩))
    clear d1 d2
    have hDr : Below w10.heap.size w10 (w10.drewN m) := Drawn0.below ⟨m, rfl⟩
    have hown2 := (own_store (own_move hown (fun k hk => hDr.block k (own_lt hown k hk))) t v).1
    have hne1 : w.heap.size ≠ g := by omega
    have hne2 : w1.heap.size ≠ g := by omega
    have hBs : Below w.heap.size w ((w10.drewN m).setCell ⟨g, t.toNat, none⟩ (.int .i64 v)) := Below.setCell (hWW.trans (hDr.mono hWW.size)) (p := ⟨g, t.toNat, none⟩) (by simp; omega) _
    have hmv : ∀ (q j : Nat) (u : Value), q ≠ g → w10.cell? ⟨q, j, none⟩ = some u → ((w10.drewN m).setCell ⟨g, t.toNat, none⟩ (.int .i64 v)).cell? ⟨q, j, none⟩ = some u := fun q j u hq hu => by
      have h3 := cell_on hDr hu
      unfold World.cell? at h3 ⊢
      rw [Below.heap_setCell _ _ _ _ hq]
      exact h3
    replace c6_0 := hmv _ _ _ hne1 c6_0
    replace c13_0 := hmv _ _ _ hne2 c13_0
    replace c6_1 := hmv _ _ _ hne1 c6_1
    replace c13_1 := hmv _ _ _ hne2 c13_1
    replace c6_2 := hmv _ _ _ hne1 c6_2
    replace c13_2 := hmv _ _ _ hne2 c13_2
    replace c6_3 := hmv _ _ _ hne1 c6_3
    replace c13_3 := hmv _ _ _ hne2 c13_3
    generalize (w10.drewN m).setCell ⟨g, t.toNat, none⟩ (.int .i64 v) = w12 at *
    have hlen2 : (ch.set t.toNat v).length = ch.length := by simp
    obtain ⟨cs, hcs⟩ : ∃ cs, ch.set t.toNat v = cs := ⟨_, rfl⟩
    rw [hcs] at hlen2 hown2
    clear hcs
    rw [← hlen2] at hown2
    have hCb' := C_own hown2 (by omega)
    have hcb' : cs.length ≤ cb := by omega
    rw [← hlen2]
    clear hown2 hlen2
    obtain ⟨pv2, K4, hq1, hq2⟩ := prove_both L R S N cs
    have hs23 : ∀ W, Below w12.heap.size w12 W → Calls Try.prog 23 #[pl L R S N, .slice (some ⟨g, 0, none⟩) (cs).length cb] W fun e w' => e = .returned (.int .i64 pv2) ∧ Below W.heap.size W w' := fun W hW => steer_Prove.calls L R S N _ cb (cs) pv2 W (Kd.C_below hCb' hW) hcb' hq1
    have hs24 : ∀ W, Below w12.heap.size w12 W → Calls Try.prog 24 #[pl L R S N, .slice (some ⟨g, 0, none⟩) (cs).length cb] W fun e w' => e = .returned (.int .i64 pv2) ∧ Below W.heap.size W w' := fun W hW => meridianref06_Prove.calls K4 L R S N _ cb (cs) pv2 W (Kd.C_below hCb' hW) hcb' (hq2 K4 (Nat.le_refl _))
    have hS : ∀ w', Below w12.heap.size w12 w' → ((w'.cell? ⟨w.heap.size, 0, none⟩ = some (.int .i64 L) ∧ w'.cell? ⟨w.heap.size, 1, none⟩ = some (.int .i64 R) ∧ w'.cell? ⟨w.heap.size, 2, none⟩ = some (.int .i64 S) ∧ w'.cell? ⟨w.heap.size, 3, none⟩ = some (.int .i64 N) ∧ w'.cell? ⟨w1.heap.size, 0, none⟩ = some (.int .i64 L) ∧ w'.cell? ⟨w1.heap.size, 1, none⟩ = some (.int .i64 R) ∧ w'.cell? ⟨w1.heap.size, 2, none⟩ = some (.int .i64 S) ∧ w'.cell? ⟨w1.heap.size, 3, none⟩ = some (.int .i64 N)) ∧ Below w12.heap.size w12 w') := fun w' hB => ⟨⟨cell_on hB c6_0, cell_on hB c6_1, cell_on hB c6_2, cell_on hB c6_3, cell_on hB c13_0, cell_on hB c13_1, cell_on hB c13_2, cell_on hB c13_3⟩, hB⟩
    go_region_held3 (fun w' => (w'.cell? ⟨w.heap.size, 0, none⟩ = some (.int .i64 L) ∧ w'.cell? ⟨w.heap.size, 1, none⟩ = some (.int .i64 R) ∧ w'.cell? ⟨w.heap.size, 2, none⟩ = some (.int .i64 S) ∧ w'.cell? ⟨w.heap.size, 3, none⟩ = some (.int .i64 N) ∧ w'.cell? ⟨w1.heap.size, 0, none⟩ = some (.int .i64 L) ∧ w'.cell? ⟨w1.heap.size, 1, none⟩ = some (.int .i64 R) ∧ w'.cell? ⟨w1.heap.size, 2, none⟩ = some (.int .i64 S) ∧ w'.cell? ⟨w1.heap.size, 3, none⟩ = some (.int .i64 N)) ∧ Below w12.heap.size w12 w') (first | exact hS _ (Below.refl _ _).drew | (have hh := ‹(_ ∧ _ ∧ _ ∧ _ ∧ _ ∧ _ ∧ _ ∧ _) ∧ Below w12.heap.size w12 _›; exact hS _ (hh.2.trans (hB.mono hh.2.size))))
      (first | (go_at_call 23; refine (hs23 _ (by have hh := ‹(_ ∧ _ ∧ _ ∧ _ ∧ _ ∧ _ ∧ _ ∧ _) ∧ Below w12.heap.size w12 _›; exact hh.2)).mono ?_; rintro e w' ⟨rfl, hB⟩) | (go_at_call 24; refine (hs24 _ (by have hh := ‹(_ ∧ _ ∧ _ ∧ _ ∧ _ ∧ _ ∧ _ ∧ _) ∧ Below w12.heap.size w12 _›; exact hh.2)).mono ?_; rintro e w' ⟨rfl, hB⟩) | (go_at_call 12; refine (a12 _).mono ?_; rintro e w' ⟨rfl, hB⟩))
    rename_i hHeld
    have hZ := hHeld.2
    clear hHeld hS hs23 hs24
    go_wp2
    go_ret
    exact ⟨rfl, (hBs).trans (hZ.mono (by have := (hBs).size; omega))⟩
end Go.Proofs.Ytcaekmalkbaldaa.M
