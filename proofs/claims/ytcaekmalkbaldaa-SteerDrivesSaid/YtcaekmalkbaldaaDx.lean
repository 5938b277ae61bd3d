/- The walk through SteerDrives' function, by hand. -/
import Derived.Test.YtcaekmalkbaldaaFd
namespace Go.Proofs.Ytcaekmalkbaldaa.M
open Go.RowKit Go.Shelf Go.Proofs.YtcaekmalkbaldaaW.PrintWords Go.Proofs.YtcaekmalkbaldaaW.PrintLast Go.Proofs.YtcaekmalkbaldaaW.PrintMore
set_option linter.unusedVariables false
set_option linter.unusedSimpArgs false
set_option maxRecDepth 100000 in
set_option maxHeartbeats 4000000 in
theorem steerDrives_early (L R S N e y : Int) (A : Option Addr) (c : Nat) (l : List Int) (A' : Option Addr) (c' : Nat) (l' : List Int) (w : World)
    (hb : (decide (rightB L R S N = true) && decide (600 < (2 * L + 1) * (2 * R + 1))) = true ∨ l.length > 60 ∨ l'.length > 60) (hl : l.length ≤ 140737488351232) (hl' : l'.length ≤ 140737488351232) :
    Calls Try.prog 6 #[pl L R S N, .int .i64 e, .int .i64 y, .slice A l.length c, .slice A' l'.length c'] w fun en w' => en = .returned (.bool true) ∧ Below w.heap.size w w' := by
  have hu23 := Try.underlying23
  have a10 := fun W => meridianlaw06_big.calls L R S N _ W (big_f L R S N)
  have a12 := fun W => meridianlaw06_awake.calls true W rfl
  cases hbb : (decide (rightB L R S N = true) && decide (600 < (2 * L + 1) * (2 * R + 1)))
  · have hlen : l.length > 60 ∨ l'.length > 60 := hb.resolve_left (by rw [hbb]; simp)
    rw [hbb] at a10
    by_cases h60 : l.length > 60
    · have d1 : decide (60 < (l.length : Int)) = true := decide_eq_true (by omega)
      have d2 : decide (60 < l.length) = true := decide_eq_true h60
      go_enter Try.func6, Try.ntmps6
      go_wp2_with (first | (go_at_call 10; refine (a10 _).mono ?_; rintro en w1 ⟨rfl, hB1⟩) | (go_at_call 12; refine (a12 _).mono ?_; rintro en w2 ⟨rfl, hB2⟩))
      go_ret
      exact ⟨rfl, (((Below.refl _ w).alloc (Nat.le_refl _) _).trans (hB1.mono (by simp))).trans (hB2.mono (by have := hB1.size; simp at this; omega))⟩
    · have h61 : l'.length > 60 := hlen.resolve_left h60
      have d1 : decide (60 < (l.length : Int)) = false := decide_eq_false (by omega)
      have d2 : decide (60 < l.length) = false := decide_eq_false h60
      have d3 : decide (60 < (l'.length : Int)) = true := decide_eq_true (by omega)
      have d4 : decide (60 < l'.length) = true := decide_eq_true h61
      go_enter Try.func6, Try.ntmps6
      go_wp2_with (first | (go_at_call 10; refine (a10 _).mono ?_; rintro en w1 ⟨rfl, hB1⟩) | (go_at_call 12; refine (a12 _).mono ?_; rintro en w2 ⟨rfl, hB2⟩))
      go_ret
      exact ⟨rfl, (((Below.refl _ w).alloc (Nat.le_refl _) _).trans (hB1.mono (by simp))).trans (hB2.mono (by have := hB1.size; simp at this; omega))⟩
  · rw [hbb] at a10
    go_enter Try.func6, Try.ntmps6
    go_wp2_with (first | (go_at_call 10; refine (a10 _).mono ?_; rintro en w1 ⟨rfl, hB1⟩) | (go_at_call 12; refine (a12 _).mono ?_; rintro en w2 ⟨rfl, hB2⟩))
    go_ret
    exact ⟨rfl, (((Below.refl _ w).alloc (Nat.le_refl _) _).trans (hB1.mono (by simp))).trans (hB2.mono (by have := hB1.size; simp at this; omega))⟩
set_option maxRecDepth 100000 in
set_option maxHeartbeats 8000000 in
theorem steerDrives_main (L R S N e y : Int) (A : Option Addr) (c : Nat) (l : List Int) (A' : Option Addr) (c' : Nat) (l' : List Int) (w : World)
    (hb : (decide (rightB L R S N = true) && decide (600 < (2 * L + 1) * (2 * R + 1))) = false) (hl : l.length ≤ 60) (hl' : l'.length ≤ 60) (hr : Kd.C (Kd.int .i64) w A l.length l) (hc : l.length ≤ c) (hr' : Kd.C (Kd.int .i64) w A' l'.length l') (hc' : l'.length ≤ c') :
    Calls Try.prog 6 #[pl L R S N, .int .i64 e, .int .i64 y, .slice A l.length c, .slice A' l'.length c'] w fun en w' => en = .returned (.bool true) ∧ Below w.heap.size w w' := by
  have hu23 := Try.underlying23
  have hu24 := Try.underlying24
  have a10 := fun W => meridianlaw06_big.calls L R S N _ W (big_f L R S N)
  rw [hb] at a10
  have a12 := fun W => meridianlaw06_awake.calls true W rfl
  obtain ⟨ha, hf, K1, hal, hk1⟩ := hold_both L R S N e y l (by omega)
  obtain ⟨fo, fx, K2, hol, hf1, hf2⟩ := force_pair L R S N e y l' hl' hb
  have hh1 := (hk1 K1 (Nat.le_refl _)).1
  have hh2 := (hk1 K1 (Nat.le_refl _)).2
  have hff := hf2 K2 (Nat.le_refl _)
  have HR := Aside0.mk hr
  have HR' := Aside0.mk hr'
  have d1 : decide (60 < (l.length : Int)) = false := decide_eq_false (by omega)
  have d2 : decide (60 < l.length) = false := decide_eq_false (by omega)
  have d3 : decide (60 < (l'.length : Int)) = false := decide_eq_false (by omega)
  have d4 : decide (60 < l'.length) = false := decide_eq_false (by omega)
  have hae := entries_f ha (by omega) (ha.length + 1) (by omega)
  obtain ⟨hb2, hbe⟩ : ∃ b, ha.map cv = b := ⟨_, rfl⟩
  rw [hbe] at hh2 hae
  clear hbe
  have HH := Aside0.mk (And.intro hh1 (And.intro hh2 (And.intro hff hae)))
  clear hr hr' hb hk1 hf2 hh1 hh2 hff hae
  go_enter Try.func6, Try.ntmps6
  go_wp2_with fail
  refine (a10 _).mono ?_
  rintro en w1 ⟨rfl, hB⟩
  have b5 : w1.heap[w.heap.size]? = _ := (hB.block w.heap.size (by simp)).trans (al_new _ _ _ rfl)
  have c5_0 : w1.cell? ⟨w.heap.size, 0, none⟩ = some (.int .i64 L) := blk_cell b5 0
  have c5_1 : w1.cell? ⟨w.heap.size, 1, none⟩ = some (.int .i64 R) := blk_cell b5 1
  have c5_2 : w1.cell? ⟨w.heap.size, 2, none⟩ = some (.int .i64 S) := blk_cell b5 2
  have c5_3 : w1.cell? ⟨w.heap.size, 3, none⟩ = some (.int .i64 N) := blk_cell b5 3
  have hsz : w.heap.size + 1 ≤ w1.heap.size := by have := hB.size; simpa using this
  have hW : Below w.heap.size w w1 := ((Below.refl _ w).alloc (Nat.le_refl _) _).trans (hB.mono (by simp))
  clear hB a10 b5
  go_wp2_with fail
  clear d1 d2 d3 d4
  -- STEPS
  obtain ⟨w2, hw2⟩ : ∃ w2, w1.alloc (.cells #[.int .i64 L, .int .i64 R, .int .i64 S, .int .i64 N] 24) = w2 := ⟨_, rfl⟩
  rw [hw2]
  have hv : Below w1.heap.size w1 w2 := by rw [← hw2]; exact (Below.refl _ w1).alloc (Nat.le_refl _) _
  have b11 : w2.heap[w1.heap.size]? = some (.cells #[.int .i64 L, .int .i64 R, .int .i64 S, .int .i64 N] 24 (0, 0)) := by rw [← hw2]; exact al_new _ _ _ rfl
  have c11_0 : w2.cell? ⟨w1.heap.size, 0, none⟩ = some (.int .i64 L) := blk_cell b11 0
  have c11_1 : w2.cell? ⟨w1.heap.size, 1, none⟩ = some (.int .i64 R) := blk_cell b11 1
  have c11_2 : w2.cell? ⟨w1.heap.size, 2, none⟩ = some (.int .i64 S) := blk_cell b11 2
  have c11_3 : w2.cell? ⟨w1.heap.size, 3, none⟩ = some (.int .i64 N) := blk_cell b11 3
  replace c5_0 := cell_on hv c5_0
  replace c5_1 := cell_on hv c5_1
  replace c5_2 := cell_on hv c5_2
  replace c5_3 := cell_on hv c5_3
  have hT : Below w.heap.size w w2 := hW.trans (hv.mono hW.size)
  clear hw2 hv b11 hW
  refine (cw_copy A c l (by omega) w2 (Kd.C_below HR.out hT) hc).mono ?_
  rintro en w3 ⟨Ac, cc, rfl, ⟨hcc, hCc⟩, hB⟩
  replace c5_0 := cell_on hB c5_0
  replace c5_1 := cell_on hB c5_1
  replace c5_2 := cell_on hB c5_2
  replace c5_3 := cell_on hB c5_3
  replace c11_0 := cell_on hB c11_0
  replace c11_1 := cell_on hB c11_1
  replace c11_2 := cell_on hB c11_2
  replace c11_3 := cell_on hB c11_3
  replace hT := hT.trans (hB.mono hT.size)
  clear hB
  go_wp2_with fail
  refine (cw_copy A' c' l' (by omega) w3 (Kd.C_below HR'.out hT) hc').mono ?_
  rintro en w4 ⟨Ad, cd, rfl, ⟨hcd, hCd⟩, hB⟩
  replace c5_0 := cell_on hB c5_0
  replace c5_1 := cell_on hB c5_1
  replace c5_2 := cell_on hB c5_2
  replace c5_3 := cell_on hB c5_3
  replace c11_0 := cell_on hB c11_0
  replace c11_1 := cell_on hB c11_1
  replace c11_2 := cell_on hB c11_2
  replace c11_3 := cell_on hB c11_3
  replace hCc := Kd.C_below hCc hB
  replace hT := hT.trans (hB.mono hT.size)
  clear hB
  go_wp2_with fail
  refine (steer_Hold.calls K1 L R S N e y Ac cc l ha hf w4 hCc hcc HH.out.1).mono ?_
  rintro en w5 ⟨v0, rfl, hRa, hB⟩
  obtain ⟨Aa, ca, rfl, hca, hCa⟩ := Kd.R_reads hRa
  clear hRa
  replace c5_0 := cell_on hB c5_0
  replace c5_1 := cell_on hB c5_1
  replace c5_2 := cell_on hB c5_2
  replace c5_3 := cell_on hB c5_3
  replace c11_0 := cell_on hB c11_0
  replace c11_1 := cell_on hB c11_1
  replace c11_2 := cell_on hB c11_2
  replace c11_3 := cell_on hB c11_3
  replace hCc := Kd.C_below hCc hB
  replace hCd := Kd.C_below hCd hB
  replace hT := hT.trans (hB.mono hT.size)
  clear hB
  go_wp2_with fail
  refine (meridianref06_Hold.calls K1 L R S N e y A c l hb2 hf w5 (Kd.C_below HR.out hT) hc HH.out.2.1).mono ?_
  rintro en w6 ⟨v0, rfl, hRb, hB⟩
  obtain ⟨Ab, cb, rfl, hcb, hCb⟩ := Kd.R_reads hRb
  clear hRb
  replace c5_0 := cell_on hB c5_0
  replace c5_1 := cell_on hB c5_1
  replace c5_2 := cell_on hB c5_2
  replace c5_3 := cell_on hB c5_3
  replace c11_0 := cell_on hB c11_0
  replace c11_1 := cell_on hB c11_1
  replace c11_2 := cell_on hB c11_2
  replace c11_3 := cell_on hB c11_3
  replace hCc := Kd.C_below hCc hB
  replace hCd := Kd.C_below hCd hB
  replace hCa := Kd.C_below hCa hB
  replace hT := hT.trans (hB.mono hT.size)
  clear hB
  have hne : (hf != hf) = false := by simp
  go_wp2_with fail
  refine (meridianlaw06_entries.calls (ha.length + 1) Aa ca ha Ab cb hb2 true w6 hCa hca hCb hcb HH.out.2.2.2).mono ?_
  rintro en w7 ⟨rfl, hD⟩
  have hB := hD.below
  clear hD
  replace c5_0 := cell_on hB c5_0
  replace c5_1 := cell_on hB c5_1
  replace c5_2 := cell_on hB c5_2
  replace c5_3 := cell_on hB c5_3
  replace c11_0 := cell_on hB c11_0
  replace c11_1 := cell_on hB c11_1
  replace c11_2 := cell_on hB c11_2
  replace c11_3 := cell_on hB c11_3
  replace hCc := Kd.C_below hCc hB
  replace hCd := Kd.C_below hCd hB
  replace hCa := Kd.C_below hCa hB
  replace hCb := Kd.C_below hCb hB
  replace hT := hT.trans (hB.mono hT.size)
  clear hB
  go_wp2_with fail
  refine (hf1 Ad cd w7 hCd hcd).mono ?_
  rintro en w8 ⟨Ao, co, rfl, ⟨hco, hCo⟩, hB⟩
  replace c5_0 := cell_on hB c5_0
  replace c5_1 := cell_on hB c5_1
  replace c5_2 := cell_on hB c5_2
  replace c5_3 := cell_on hB c5_3
  replace c11_0 := cell_on hB c11_0
  replace c11_1 := cell_on hB c11_1
  replace c11_2 := cell_on hB c11_2
  replace c11_3 := cell_on hB c11_3
  replace hCc := Kd.C_below hCc hB
  replace hCd := Kd.C_below hCd hB
  replace hT := hT.trans (hB.mono hT.size)
  clear hB
  go_wp2_with fail
  refine (meridianref06_Force.calls K2 L R S N e y A' c' l' fo fx w8 (Kd.C_below HR'.out hT) hc' HH.out.2.2.1).mono ?_
  rintro en w9 ⟨v0, rfl, hRp, hB⟩
  obtain ⟨Ap, cp, rfl, hcp, hCp⟩ := Kd.R_reads hRp
  clear hRp
  replace c5_0 := cell_on hB c5_0
  replace c5_1 := cell_on hB c5_1
  replace c5_2 := cell_on hB c5_2
  replace c5_3 := cell_on hB c5_3
  replace c11_0 := cell_on hB c11_0
  replace c11_1 := cell_on hB c11_1
  replace c11_2 := cell_on hB c11_2
  replace c11_3 := cell_on hB c11_3
  replace hCc := Kd.C_below hCc hB
  replace hCd := Kd.C_below hCd hB
  replace hCo := Kd.C_below hCo hB
  replace hT := hT.trans (hB.mono hT.size)
  clear hB
  have hne2 : (fx == fx) = true := by simp
  go_wp2_with fail
  refine (cw_same Ao Ap co cp fo (by omega) w9 hCo hco hCp hcp).mono ?_
  rintro en w10 ⟨rfl, hB⟩
  replace c5_0 := cell_on hB c5_0
  replace c5_1 := cell_on hB c5_1
  replace c5_2 := cell_on hB c5_2
  replace c5_3 := cell_on hB c5_3
  replace c11_0 := cell_on hB c11_0
  replace c11_1 := cell_on hB c11_1
  replace c11_2 := cell_on hB c11_2
  replace c11_3 := cell_on hB c11_3
  replace hCc := Kd.C_below hCc hB
  replace hCd := Kd.C_below hCd hB
  replace hCo := Kd.C_below hCo hB
  replace hCp := Kd.C_below hCp hB
  replace hT := hT.trans (hB.mono hT.size)
  clear hB
  go_wp2_with fail
  refine (cw_same Ac A cc c l (by omega) w10 hCc hcc (Kd.C_below HR.out hT) hc).mono ?_
  rintro en w11 ⟨rfl, hB⟩
  replace c5_0 := cell_on hB c5_0
  replace c5_1 := cell_on hB c5_1
  replace c5_2 := cell_on hB c5_2
  replace c5_3 := cell_on hB c5_3
  replace c11_0 := cell_on hB c11_0
  replace c11_1 := cell_on hB c11_1
  replace c11_2 := cell_on hB c11_2
  replace c11_3 := cell_on hB c11_3
  replace hCc := Kd.C_below hCc hB
  replace hCd := Kd.C_below hCd hB
  replace hCo := Kd.C_below hCo hB
  replace hCp := Kd.C_below hCp hB
  replace hT := hT.trans (hB.mono hT.size)
  clear hB
  go_wp2_with fail
  refine (cw_same Ad A' cd c' l' (by omega) w11 hCd hcd (Kd.C_below HR'.out hT) hc').mono ?_
  rintro en w12 ⟨rfl, hB⟩
  replace c5_0 := cell_on hB c5_0
  replace c5_1 := cell_on hB c5_1
  replace c5_2 := cell_on hB c5_2
  replace c5_3 := cell_on hB c5_3
  replace c11_0 := cell_on hB c11_0
  replace c11_1 := cell_on hB c11_1
  replace c11_2 := cell_on hB c11_2
  replace c11_3 := cell_on hB c11_3
  replace hCc := Kd.C_below hCc hB
  replace hCd := Kd.C_below hCd hB
  replace hCo := Kd.C_below hCo hB
  replace hCp := Kd.C_below hCp hB
  replace hT := hT.trans (hB.mono hT.size)
  clear hB
  go_wp2_with fail
  refine (a12 w12).mono ?_
  rintro en w13 ⟨rfl, hB⟩
  replace c5_0 := cell_on hB c5_0
  replace c5_1 := cell_on hB c5_1
  replace c5_2 := cell_on hB c5_2
  replace c5_3 := cell_on hB c5_3
  replace c11_0 := cell_on hB c11_0
  replace c11_1 := cell_on hB c11_1
  replace c11_2 := cell_on hB c11_2
  replace c11_3 := cell_on hB c11_3
  replace hCc := Kd.C_below hCc hB
  replace hCd := Kd.C_below hCd hB
  replace hCo := Kd.C_below hCo hB
  replace hCp := Kd.C_below hCp hB
  replace hT := hT.trans (hB.mono hT.size)
  clear hB
  go_wp2
  go_ret
  exact ⟨rfl, hT⟩
end Go.Proofs.Ytcaekmalkbaldaa.M
