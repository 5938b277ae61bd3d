/- The walk through SteerSafe's function, by hand: from a lost state. -/
import Derived.Test.YtcaekmalkbaldaaSx
namespace Go.Proofs.Ytcaekmalkbaldaa.M
open Go.RowKit Go.Proofs.YtcaekmalkbaldaaW.PrintWords Go.Proofs.YtcaekmalkbaldaaW.PrintLast Go.Proofs.YtcaekmalkbaldaaW.PrintMore
set_option linter.unusedVariables false
set_option linter.unusedSimpArgs false
attribute [local go_sem] max2_int min2_int max_two min_two max_three min_three max_four min_four
theorem allowed_mem {R S : Int} : ∀ (l : List Int) (r : Int), Allowed R S l r → ∀ q ∈ l, -R ≤ q ∧ q ≤ R
  | [], _, _, q, h => by cases h
  | a :: l, r, h, q, hq => by
    rcases List.mem_cons.1 hq with rfl | hq
    · exact ⟨h.1.1, h.1.2.1⟩
    · exact allowed_mem l a h.2 q hq
set_option maxRecDepth 100000 in
set_option maxHeartbeats 16000000 in
theorem steerSafe_B (L R S N e y : Int) (A : Option Addr) (c : Nat) (l : List Int) (w : World)
    (hb : (decide (rightB L R S N = true) && decide (600 < (2 * L + 1) * (2 * R + 1))) = false) (hp : rightB L R S N = true) (hl : l.length ≤ 200) (hr : Kd.C (Kd.int .i64) w A l.length l) (hc : l.length ≤ c) (ch : List Int) (hch : steer_Plan_chart.f L R S N = some ch) (HCA : Aside0 (1000 ≤ rd ch (ix L R (pickF e (2 * L + 1) - L) (pickF y (2 * R + 1) - R)))) :
    Calls Try.prog 7 #[pl L R S N, .int .i64 e, .int .i64 y, .slice A l.length c] w fun en w' => en = .returned (.bool true) ∧ Below w.heap.size w w' := by
  have hu23 := Try.underlying23
  have hu24 := Try.underlying24
  have a10 := fun W => meridianlaw06_big.calls L R S N _ W (big_f L R S N)
  have a11 := fun W => steer_Check.calls L R S N _ W (check_f L R S N)
  have a12 := fun W => meridianlaw06_awake.calls true W rfl
  rw [hb] at a10
  have h' := rightB_iff.1 hp
  rw [if_pos hp] at a11
  obtain ⟨m, hB⟩ := best_of hch
  have hsm := small_siz2 hp hb
  have hm : m ≤ 1500 := by have := hB.small; omega
  have HBE := Aside0.mk (And.intro hB (And.intro hm hch))
  have HHP := Aside0.mk (And.intro hp hb)
  have HR := Aside0.mk hr
  have d1 : decide (200 < (l.length : Int)) = false := decide_eq_false (by omega)
  have d2 : decide (200 < l.length) = false := decide_eq_false (by omega)
  have d3 : decide (L < 0) = false := decide_eq_false (by omega)
  have d4 : decide (R < 0) = false := decide_eq_false (by omega)
  have d5 : decide (N < 0) = false := decide_eq_false (by omega)
  clear hb hp hr hB hm hch hsm
  go_enter Try.func7, Try.ntmps7
  go_wp2_with fail
  refine (a10 _).mono ?_
  rintro en w1 ⟨rfl, hB1⟩
  have b4 := (hB1.block w.heap.size (by simp; omega)).trans (al_old (al_new w _ _ rfl))
  have b9 := (hB1.block (w.heap.size + 1) (by simp)).trans (al_new _ _ _ (by simp))
  have c4_0 : w1.cell? ⟨w.heap.size, 0, none⟩ = some (.int .i64 L) := blk_cell b4 0
  have c4_1 : w1.cell? ⟨w.heap.size, 1, none⟩ = some (.int .i64 R) := blk_cell b4 1
  have c4_2 : w1.cell? ⟨w.heap.size, 2, none⟩ = some (.int .i64 S) := blk_cell b4 2
  have c4_3 : w1.cell? ⟨w.heap.size, 3, none⟩ = some (.int .i64 N) := blk_cell b4 3
  have c9_0 : w1.cell? ⟨w.heap.size + 1, 0, none⟩ = some (.int .i64 L) := blk_cell b9 0
  have c9_1 : w1.cell? ⟨w.heap.size + 1, 1, none⟩ = some (.int .i64 R) := blk_cell b9 1
  have c9_2 : w1.cell? ⟨w.heap.size + 1, 2, none⟩ = some (.int .i64 S) := blk_cell b9 2
  have c9_3 : w1.cell? ⟨w.heap.size + 1, 3, none⟩ = some (.int .i64 N) := blk_cell b9 3
  have hT : Below w.heap.size w w1 := (((Below.refl _ w).alloc (Nat.le_refl _) _).alloc (by simp) _).trans (hB1.mono (by simp; omega))
  have hs1 : w.heap.size + 2 ≤ w1.heap.size := by have := hB1.size; simpa using this
  clear hB1 b4 b9
  go_wp2_with fail
  refine (a11 _).mono ?_
  rintro en w2 ⟨rfl, hB⟩
  replace c4_0 := cell_on hB c4_0
  replace c4_1 := cell_on hB c4_1
  replace c4_2 := cell_on hB c4_2
  replace c4_3 := cell_on hB c4_3
  replace c9_0 := cell_on hB c9_0
  replace c9_1 := cell_on hB c9_1
  replace c9_2 := cell_on hB c9_2
  replace c9_3 := cell_on hB c9_3
  replace hT := hT.trans (hB.mono hT.size)
  have hs2 : w.heap.size + 2 ≤ w2.heap.size := by have := hB.size; omega
  clear hB a10 a11 hs1
  go_wp2_with fail
  clear d1 d2 d3 d4 d5
  have hp1 := pickF_b e (2 * L + 1) (by omega) (by omega)
  have hp2 := pickF_b y (2 * R + 1) (by omega) (by omega)
  have hwL : IntKind.i64.wrap (IntKind.i64.wrap (2 * L) + 1) = 2 * L + 1 := by rw [iw (2 * L) (by omega) (by omega), iw _ (by omega) (by omega)]
  have hwR : IntKind.i64.wrap (IntKind.i64.wrap (2 * R) + 1) = 2 * R + 1 := by rw [iw (2 * R) (by omega) (by omega), iw _ (by omega) (by omega)]
  have hS : ∀ w', Below w2.heap.size w2 w' → ((w'.cell? ⟨w.heap.size, 0, none⟩ = some (.int .i64 L) ∧ w'.cell? ⟨w.heap.size, 1, none⟩ = some (.int .i64 R)) ∧ Below w2.heap.size w2 w') := fun w' hB => ⟨⟨cell_on hB c4_0, cell_on hB c4_1⟩, hB⟩
  go_region_held3 (fun w' => (w'.cell? ⟨w.heap.size, 0, none⟩ = some (.int .i64 L) ∧ w'.cell? ⟨w.heap.size, 1, none⟩ = some (.int .i64 R)) ∧ Below w2.heap.size w2 w') (first | exact hS _ (Below.refl _ _).drew | (have hh := ‹(_ ∧ _) ∧ Below w2.heap.size w2 _›; exact hS _ (hh.2.trans (hB.mono hh.2.size))))
    (first | (go_at_call 13; refine (pick_calls _ _ _ (by omega) (by omega)).mono ?_; rintro en w' ⟨rfl, hB⟩))
  rename_i hHeld
  have hV := hHeld.2
  clear hHeld hS
  rename World => w3
  clear hwL hwR
  rw [iw (pickF e (2 * L + 1) - L) (by omega) (by omega), iw (pickF y (2 * R + 1) - R) (by omega) (by omega)]
  obtain ⟨e1, he1⟩ : ∃ x, pickF e (2 * L + 1) - L = x := ⟨_, rfl⟩
  obtain ⟨r1, hr1⟩ : ∃ x, pickF y (2 * R + 1) - R = x := ⟨_, rfl⟩
  have heb : -L ≤ e1 ∧ e1 ≤ L := by omega
  have hrb : -R ≤ r1 ∧ r1 ≤ R := by omega
  rw [he1, hr1]
  rw [he1, hr1] at HCA
  clear he1 hr1 hp1 hp2
  replace c4_0 := cell_on hV c4_0
  replace c4_1 := cell_on hV c4_1
  replace c4_2 := cell_on hV c4_2
  replace c4_3 := cell_on hV c4_3
  replace c9_0 := cell_on hV c9_0
  replace c9_1 := cell_on hV c9_1
  replace c9_2 := cell_on hV c9_2
  replace c9_3 := cell_on hV c9_3
  replace hT := hT.trans (hV.mono hT.size)
  have hs3 : w.heap.size + 2 ≤ w3.heap.size := by have := hV.size; omega
  clear hV hs2
  have hbb : isB L R e1 r1 = true := isB_iff.2 ⟨heb.1, heb.2, hrb.1, hrb.2⟩
  obtain ⟨j, hj, hji, hs1', hs2'⟩ := HBE.out.1.says.at (show 1 ≤ L by omega) (show 0 ≤ R by omega) hbb
  have HSA := Aside0.mk (And.intro hbb (And.intro hs1' hs2'))
  have hix : steer_Index.f L R S N e1 r1 = some ((j : Int), 0) := by rw [index_f HHP.out.1 hbb]; rw [hji]
  have hcl : ch.length = siz L R := HBE.out.1.says.1
  have hclb : ch.length ≤ 600 := by rw [hcl]; exact small_siz2 HHP.out.1 HHP.out.2
  have HCL := Aside0.mk hcl
  have HJI := Aside0.mk hji
  have HCB : Aside0 (1000 ≤ rd ch (j : Int)) := ⟨by have h0 := HCA.out; rw [show ix L R e1 r1 = (j : Int) from hji] at h0; exact h0⟩
  clear HCA
  have a14 := fun W => cw_chart (chart_f0 HHP.out.1 HBE.out.2.2) W
  have a15 := fun W => steer_Index.calls L R S N e1 r1 j 0 W hix
  clear hbb hs1' hs2' hix hcl hji
  go_wp2_with fail
  refine (a14 _).mono ?_
  rintro en w4 ⟨Ac, cc, rfl, ⟨hcc, hCc⟩, hB⟩
  replace c4_0 := cell_on hB c4_0
  replace c4_1 := cell_on hB c4_1
  replace c4_2 := cell_on hB c4_2
  replace c4_3 := cell_on hB c4_3
  replace c9_0 := cell_on hB c9_0
  replace c9_1 := cell_on hB c9_1
  replace c9_2 := cell_on hB c9_2
  replace c9_3 := cell_on hB c9_3
  replace hT := hT.trans (hB.mono hT.size)
  have hs4 : w.heap.size + 2 ≤ w4.heap.size := by have := hB.size; omega
  clear hB hs3 a14
  go_wp2_with fail
  refine (a15 _).mono ?_
  rintro en w5 ⟨rfl, hB⟩
  replace c4_0 := cell_on hB c4_0
  replace c4_1 := cell_on hB c4_1
  replace c4_2 := cell_on hB c4_2
  replace c4_3 := cell_on hB c4_3
  replace c9_0 := cell_on hB c9_0
  replace c9_1 := cell_on hB c9_1
  replace c9_2 := cell_on hB c9_2
  replace c9_3 := cell_on hB c9_3
  replace hT := hT.trans (hB.mono hT.size)
  have hs5 : w.heap.size + 2 ≤ w5.heap.size := by have := hB.size; omega
  have HCc := Aside0.mk (Kd.C_below hCc hB)
  clear hB hs4 a15 hCc
  have hmul : IntKind.i64.wrap ((2 * L + 1) * (2 * R + 1)) = (ch.length : Int) := by
    have h1 := siz_int (L := L) (R := R) (by omega) (by omega)
    rw [← HCL.out] at h1
    rw [← h1, iw _ (by omega) (by omega)]
  have d6 : decide ((ch.length : Int) ≤ (j : Int)) = false := decide_eq_false (by omega)
  have d7 : decide (ch.length ≤ j) = false := decide_eq_false (by omega)
  obtain ⟨ad, rfl, hcv⟩ := C_int HCc.out j hj
  have hkr : ch[j]'hj = rd ch (j : Int) := by simp [rd, List.getD_eq_getElem?_getD, List.getElem?_eq_getElem hj]
  rw [hkr] at hcv
  clear hkr
  obtain ⟨v, hv⟩ : ∃ v, rd ch (j : Int) = v := ⟨_, rfl⟩
  rw [hv] at hcv
  have HV := Aside0.mk hv
  clear hv
  have hch9 : ch.length ≤ 9223372036854775807 := by omega
  have hv1 : ¬ v < 1000 := by rw [← HV.out]; exact Int.not_lt.2 HCB.out
  have d8 : decide (v < 1000) = false := by simpa using hv1
  have hlost : ∃ k : Nat, 1 ≤ k ∧ k ≤ m ∧ v = 1000 + (k : Int) ∧ T L R S N k e1 r1 = false ∧ T L R S N (k - 1) e1 r1 = true := by
    have ht : T L R S N m e1 r1 = false := by
      cases hc : T L R S N m e1 r1 with
      | false => rfl
      | true => exact absurd (by rw [← HV.out]; exact HSA.out.2.1 hc) hv1
    obtain ⟨k, g1, g2, _, g3, g4, g5⟩ := esc_lost HBE.out.1 HBE.out.2.1 (show 1 ≤ L by omega) (show 0 ≤ R by omega) (z := ⟨e1, r1⟩) HSA.out.1 ht
    exact ⟨k, g1, g2, by rw [← HV.out, ← g3]; congr 1; exact HJI.out.symm, g4, g5⟩
  obtain ⟨k, hk1, hkm, hvk, hk2, hk3⟩ := hlost
  have hk15 : k ≤ 1500 := by have := HBE.out.2.1; omega
  have HK := Aside0.mk (And.intro hk1 (And.intro hkm (And.intro hk2 hk3)))
  clear hk2 hk3 hk1 hkm hv1
  go_wp2_with fail
  clear d6 d7 d8 hmul
  obtain ⟨ii, hii, hz0, hz1, hz2⟩ := info_parts info3m
  have hl9 : l.length ≤ 9223372036854775807 := by omega
  go_loopw [21, 22, 23] (fun v21 v22 v23 wr => ∃ (n : Nat) (rts : List Int) (vo : Value) (nw : Int), n ≤ k ∧ v23 = .int .i64 n ∧ vo = v21 ∧ v22 = .int .i64 nw ∧ (-R ≤ nw ∧ nw ≤ R) ∧ Aside0 (rts.length = n ∧ Allowed R S rts r1 ∧ nw = rts.getLast?.getD r1) ∧ Aside0 (wr.ownsRow w5.heap.size 3 1 vo rts.length (nums .i64 rts)) ∧ Aside0 (Below w5.heap.size w5 wr))
    (fun _ _ v _ => k - (intOf v).toNat)
  case atStart => exact ⟨0, [], _, r1, Nat.zero_le _, rfl, rfl, rfl, hrb, ⟨rfl, trivial, rfl⟩, ⟨own_nil _ _ _ _⟩, ⟨Below.refl _ _⟩⟩
  case round =>
    obtain ⟨n, rts, vo, nw, hn, rfl, rfl, rfl, hnw, HRT, HO, HB⟩ := hrel
    have hB := HB.out
    have hTw : Below w.heap.size w wr := hT.trans (hB.mono (by omega))
    replace c4_0 := cell_on hB c4_0
    replace c4_1 := cell_on hB c4_1
    replace c4_2 := cell_on hB c4_2
    replace c4_3 := cell_on hB c4_3
    replace c9_0 := cell_on hB c9_0
    replace c9_1 := cell_on hB c9_1
    replace c9_2 := cell_on hB c9_2
    replace c9_3 := cell_on hB c9_3
    replace hcv := cell_on hB hcv
    by_cases hlt : n < k
    · have dn : decide ((n : Int) < v - 1000) = true := decide_eq_true (by omega)
      go_wp2
      go_quiet (fail)
      obtain ⟨le, hle⟩ : ∃ x, (if nw - S < -R then -R else nw - S) = x := ⟨_, rfl⟩
      obtain ⟨mo, hmo⟩ : ∃ x, (if R < nw + S then R else nw + S) = x := ⟨_, rfl⟩
      have hleb : -R ≤ le ∧ nw - S ≤ le ∧ le ≤ nw := by rw [← hle]; split <;> omega
      have hmob : mo ≤ R ∧ mo ≤ nw + S ∧ nw ≤ mo := by rw [← hmo]; split <;> omega
      rw [hle, hmo]
      have hBq : Below wr.heap.size wr (wr.drewN nq) := pw_below_drewN (Below.refl _ _) _
      have hrl : rts.length ≤ 1500 := by have := HRT.out.1; omega
      generalize wr.drewN nq = wq at *
      clear hle hmo c4_0 c4_1 c4_2 c4_3 c9_0 c9_1 c9_2 c9_3
      by_cases hl0 : l.length = 0
      · have e1' : decide (0 < (l.length : Int)) = false := decide_eq_false (by omega)
        have e2' : decide (0 < l.length) = false := decide_eq_false (by omega)
        clear hcv dn hl0
        all_goals
          go_wp2_with fail
          refine (pick_calls _ _ _ (by omega) (by omega)).mono ?_
          rintro en w6 ⟨rfl, hB6⟩
          have hpb := pickF_b (n : Int) (mo - le + 1) (by omega) (by omega)
          generalize pickF (n : Int) (mo - le + 1) = pk at *
          have hBq6 : Below wr.heap.size wr w6 := hBq.trans (hB6.mono hBq.size)
          have hO6 : w6.ownsRow w5.heap.size 3 1 vo rts.length (nums .i64 rts) := own_move HO.out (fun q hq => hBq6.block q (own_lt HO.out q hq))
          have hB56 : Below w5.heap.size w5 w6 := hB.trans (hBq6.mono hB.size)
          have hs56 := hB56.size
          have hob := own_base HO.out
          have HO6 := Aside0.mk hO6
          have HB56 := Aside0.mk hB56
          clear hB6 hBq6 hO6 hB56
          go_wp2_with (at_builtin; refine wpList_append_lies _ rfl _ _ _ rfl w5.heap.size 3 ii _ 1 8 Try.underlying30 hii hz0 hz1 hz2 rfl (by omega) vo rts.length (nums .i64 rts) rfl (HO6.out.alloc _) ⟨w6.heap.size, 0, none⟩ 1 1 [.int .i64 (le + pk)] rfl rfl (cell_one_new _ _ _) (by simp [Value.oneCell']) (by omega) (by unfold maxLen; omega) (by omega) (by simp; omega) _ rfl ?_; intro gg cap w7 hown7 hgrow7 hat7 hlt7)
          go_roundw
          case rel =>
            have h9 := (HB56.out.alloc hs56 _).grown hgrow7 (by simp; omega) (fun q hq => hob q hq)
            exact ⟨n + 1, rts ++ [le + pk], _, le + pk, by omega, by go_num, rfl, rfl, by omega, ⟨by simp [HRT.out.1], Allowed.snoc rts r1 (le + pk) HRT.out.2.1 (by rw [← HRT.out.2.2]; omega), by simp⟩, ⟨by simpa [nums] using hown7⟩, ⟨h9⟩⟩
          case measure => simp [intOf]; omega
      · have e1' : decide (0 < (l.length : Int)) = true := decide_eq_true (by omega)
        have e2' : decide (0 < l.length) = true := decide_eq_true (by omega)
        have e3' : ((l.length : Int) == 0) = false := beq_eq_false_iff_ne.2 (by omega)
        have htm : Int.tmod (n : Int) (l.length : Int) = ((n % l.length : Nat) : Int) := (Int.ofNat_tmod n l.length).symm
        have hml : n % l.length < l.length := Nat.mod_lt _ (by omega)
        obtain ⟨adl, rfl, hcl⟩ := C_int (Kd.C_below HR.out (hTw.trans (hBq.mono hTw.size))) (n % l.length) hml
        obtain ⟨cv, hcv'⟩ : ∃ cv, l[n % l.length] = cv := ⟨_, rfl⟩
        rw [hcv'] at hcl
        clear hcv' hcv dn
        go_wp2_with fail
        generalize wrap64 (cv + (n : Int)) = cx at *
        refine (pick_calls _ _ _ (by omega) (by omega)).mono ?_
        rintro en w6 ⟨rfl, hB6⟩
        have hpb := pickF_b cx (mo - le + 1) (by omega) (by omega)
        generalize pickF cx (mo - le + 1) = pk at *
        have hBq6 : Below wr.heap.size wr w6 := hBq.trans (hB6.mono hBq.size)
        have hO6 : w6.ownsRow w5.heap.size 3 1 vo rts.length (nums .i64 rts) := own_move HO.out (fun q hq => hBq6.block q (own_lt HO.out q hq))
        have hB56 : Below w5.heap.size w5 w6 := hB.trans (hBq6.mono hB.size)
        have hs56 := hB56.size
        have hob := own_base HO.out
        have HO6 := Aside0.mk hO6
        have HB56 := Aside0.mk hB56
        clear hB6 hBq6 hO6 hB56
        go_wp2_with (at_builtin; refine wpList_append_lies _ rfl _ _ _ rfl w5.heap.size 3 ii _ 1 8 Try.underlying30 hii hz0 hz1 hz2 rfl (by omega) vo rts.length (nums .i64 rts) rfl (HO6.out.alloc _) ⟨w6.heap.size, 0, none⟩ 1 1 [.int .i64 (le + pk)] rfl rfl (cell_one_new _ _ _) (by simp [Value.oneCell']) (by omega) (by unfold maxLen; omega) (by omega) (by simp; omega) _ rfl ?_; intro gg cap w7 hown7 hgrow7 hat7 hlt7)
        go_roundw
        case rel =>
          have h9 := (HB56.out.alloc hs56 _).grown hgrow7 (by simp; omega) (fun q hq => hob q hq)
          exact ⟨n + 1, rts ++ [le + pk], _, le + pk, by omega, by go_num, rfl, rfl, by omega, ⟨by simp [HRT.out.1], Allowed.snoc rts r1 (le + pk) HRT.out.2.1 (by rw [← HRT.out.2.2]; omega), by simp⟩, ⟨by simpa [nums] using hown7⟩, ⟨h9⟩⟩
        case measure => simp [intOf]; omega
    · have hnk : n = k := by omega
      subst hnk
      have dn : decide ((n : Int) < v - 1000) = false := decide_eq_false (by omega)
      obtain ⟨ds, hf1, hf2, hf3, hf4⟩ := force_run HBE.out.1 HBE.out.2.1 (show 1 ≤ L by omega) (show 0 ≤ R by omega) (show 0 ≤ N by omega) rts e1 r1 [] n HRT.out.2.1 HSA.out.1 HK.out.1 HK.out.2.1 (by have := HRT.out.1; omega) HK.out.2.2.1 HK.out.2.2.2
      rw [List.nil_append] at hf1
      have hrl : rts.length ≤ 1500 := by have := HRT.out.1; omega
      obtain ⟨Ar, cr, hvo, hcr, hCr⟩ := Kd.R_reads (Kd.R_of_own (h1 := fun _ => rfl) (e := 3) HO.out (fun _ _ => trivial) (ok := fun _ => True))
      subst hvo
      have hix : steer_Index.f L R S N e1 r1 = some ((j : Int), 0) := by rw [index_f HHP.out.1 HSA.out.1]; rw [HJI.out]
      have hjs : j < siz L R := by rw [← HCL.out]; exact hj
      have HVN : Aside0 (1000 ≤ v) := ⟨by omega⟩
      clear hlt HO
      go_wp2_with fail
      refine (force_calls L R S N e1 r1 Ar cr rts j ch wr hix hjs HJI.out HCL.out HBE.out.2.2 hCr hcr (by omega) HSA.out.1 ds 0 (by rw [HV.out, if_neg (Int.not_lt.2 HVN.out)]; exact hf1)).mono ?_
      clear hB
      rintro en w8 ⟨Ad, cd, rfl, ⟨hcd, hCd⟩, hB⟩
      replace c4_0 := cell_on hB c4_0
      replace c4_1 := cell_on hB c4_1
      replace c4_2 := cell_on hB c4_2
      replace c4_3 := cell_on hB c4_3
      replace c9_0 := cell_on hB c9_0
      replace c9_1 := cell_on hB c9_1
      replace c9_2 := cell_on hB c9_2
      replace c9_3 := cell_on hB c9_3
      replace hTw := hTw.trans (hB.mono hTw.size)
      replace hCr := Kd.C_below hCr hB
      clear hB hix hjs hcv dn
      go_wp2_with fail
      refine (steer_Hold.calls 1 L R S N e1 r1 none 0 [] [] 9 w8 (Kd.R_reads' (Kd.R_nil (Kd.int .i64) 3 w8 0 (fun _ => True))).2.2 (Nat.le_refl _) (hold_lost HHP.out.1 HBE.out.2.2 HBE.out.1 HSA.out.1 hj HJI.out (by rw [HV.out]; exact Int.not_lt.2 HVN.out))).mono ?_
      rintro en w9 ⟨v0, rfl, hRh, hB⟩
      obtain ⟨Az, cz, rfl, _, _⟩ := Kd.R_reads hRh
      replace c4_0 := cell_on hB c4_0
      replace c4_1 := cell_on hB c4_1
      replace c4_2 := cell_on hB c4_2
      replace c4_3 := cell_on hB c4_3
      replace hTw := hTw.trans (hB.mono hTw.size)
      have HC9 := Aside0.mk (And.intro (Kd.C_below hCr hB) (Kd.C_below hCd hB))
      have HRUN := Aside0.mk (And.intro hf4 (And.intro HRT.out.2.1 hf3))
      have hd1 : ((ds.length : Int) == 0) = false := beq_eq_false_iff_ne.2 (by omega)
      have hd2 : (ds.length == 0) = false := beq_eq_false_iff_ne.2 (by omega)
      have hd3 : decide ((rts.length : Int) < (ds.length : Int)) = false := decide_eq_false (by omega)
      have hd4 : decide (rts.length < ds.length) = false := decide_eq_false (by omega)
      have hdl : ds.length ≤ 1500 := by omega
      clear hB hRh hCr hCd c9_0 c9_1 c9_2 c9_3 hf1 hf2 hf3 hf4 HRT HVN
      go_wp2_with fail
      clear hd1 hd2 hd3 hd4
      have hwnL : IntKind.i64.wrap (-L) = -L := iw _ (by omega) (by omega)
      have hwnN : IntKind.i64.wrap (-N) = -N := iw _ (by omega) (by omega)
      go_loopw [1, 28] (fun v1 v28 wr => ∃ (n : Nat) (x : Int), n ≤ ds.length ∧ v28 = .int .i64 n ∧ v1 = .int .i64 x ∧ (-100 ≤ x ∧ x ≤ 100) ∧ Aside0 (Run L N (ds.drop n) (rts.drop n) x) ∧ Aside0 (Below w9.heap.size w9 wr))
        (fun _ v _ => ds.length - (intOf v).toNat)
      case atStart => exact ⟨0, e1, Nat.zero_le _, rfl, rfl, by omega, ⟨HRUN.out.1⟩, ⟨Below.refl _ _⟩⟩
      case round => as_aux_lemma =>
        obtain ⟨n, x, hn, rfl, rfl, hxb, HX, HB⟩ := hrel
        have hB := HB.out
        replace c4_0 := cell_on hB c4_0
        replace c4_1 := cell_on hB c4_1
        replace c4_2 := cell_on hB c4_2
        replace c4_3 := cell_on hB c4_3
        by_cases hlt : n < ds.length
        · have hnr : n < rts.length := by have := HRUN.out.2.2; omega
          obtain ⟨add, rfl, hcd1⟩ := C_int (Kd.C_below HC9.out.2 hB) n hlt
          obtain ⟨adr, rfl, hcr1⟩ := C_int (Kd.C_below HC9.out.1 hB) n hnr
          have hdr1 : ds.drop n = ds[n] :: ds.drop (n + 1) := List.drop_eq_getElem_cons hlt
          have hdr2 : rts.drop n = rts[n] :: rts.drop (n + 1) := List.drop_eq_getElem_cons hnr
          have hqb := allowed_mem rts r1 HRUN.out.2.1 rts[n] (List.getElem_mem _)
          have hx2 := HX.out
          rw [hdr1, hdr2] at hx2
          generalize ds[n] = d at *
          generalize rts[n] = q at *
          obtain ⟨hx3, hx4, hx5⟩ := hx2
          obtain ⟨X, hX⟩ : ∃ X, x + (q + d) = X := ⟨_, rfl⟩
          rw [show x + q + d = X by omega] at hx5
          have HXE := Aside0.mk hX
          have HREL := Aside0.mk hx5
          have hXb : -100 ≤ X ∧ X ≤ 100 := by omega
          have f1 : decide (x < -L) = false := decide_eq_false (by omega)
          have f2 : decide (L < x) = false := decide_eq_false (by omega)
          have f3 : decide (d < -N) = false := decide_eq_false (by omega)
          have f4 : decide (N < d) = false := decide_eq_false (by omega)
          have g0 : (0 : Int) ≤ (n : Int) := by omega
          have g1 : (n : Int) < (ds.length : Int) := by omega
          have g2 : (n : Int) < (rts.length : Int) := by omega
          clear hdr1 hdr2 hx5 hX
          go_wp2
          go_quiet (fail)
          try go_wp2
          go_quiet (fail)
          try go_wp2
          go_roundw
          case rel => exact ⟨n + 1, X, by omega, by go_num, by rw [HXE.out], hXb, HREL, ⟨by repeat (first | exact HB.out | apply pw_below_drewN | apply below_drew1)⟩⟩
          case measure => simp [intOf]; omega
        · obtain rfl : n = ds.length := by omega
          have hx2 := HX.out
          rw [List.drop_length] at hx2
          have hx3 : x < -L ∨ L < x := hx2
          have hT9 := hTw.trans (hB.mono hTw.size)
          by_cases hxl : x < -L
          · have f1 : decide (x < -L) = true := decide_eq_true hxl
            go_wp2_with fail
            refine (a12 _).mono ?_
            rintro en w' ⟨rfl, hB2⟩
            go_wp2
            go_ret
            exact ⟨rfl, hT9.trans (hB2.mono hT9.size)⟩
          · have f1 : decide (x < -L) = false := decide_eq_false hxl
            have f2 : decide (L < x) = true := decide_eq_true (hx3.resolve_left hxl)
            go_wp2_with fail
            refine (a12 _).mono ?_
            rintro en w' ⟨rfl, hB2⟩
            go_wp2
            go_ret
            exact ⟨rfl, hT9.trans (hB2.mono hT9.size)⟩
end Go.Proofs.Ytcaekmalkbaldaa.M
