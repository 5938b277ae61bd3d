/- The walk through SteerSafe's function, by hand: from a safe state. -/
import Derived.Test.YtcaekmalkbaldaaSx
namespace Go.Proofs.Ytcaekmalkbaldaa.M
open Go.RowKit Go.Proofs.YtcaekmalkbaldaaW.PrintWords Go.Proofs.YtcaekmalkbaldaaW.PrintLast Go.Proofs.YtcaekmalkbaldaaW.PrintMore
set_option linter.unusedVariables false
set_option linter.unusedSimpArgs false
/-- The disturbances that are made. -/
def pkN (N c : Int) : Int := pickF c (2 * N + 1) - N
theorem pkN_b (N c : Int) (h0 : 0 ≤ N) (h1 : N ≤ 12) : -N ≤ pkN N c ∧ pkN N c ≤ N := by
  have := pickF_b c (2 * N + 1) (by omega) (by omega)
  unfold pkN
  omega
set_option maxRecDepth 100000 in
set_option maxHeartbeats 16000000 in
theorem steerSafe_A (L R S N e y : Int) (A : Option Addr) (c : Nat) (l : List Int) (w : World)
    (hb : (decide (rightB L R S N = true) && decide (600 < (2 * L + 1) * (2 * R + 1))) = false) (hp : rightB L R S N = true) (hl : l.length ≤ 200) (hr : Kd.C (Kd.int .i64) w A l.length l) (hc : l.length ≤ c) (ch : List Int) (hch : steer_Plan_chart.f L R S N = some ch) (HCA : Aside0 (rd ch (ix L R (pickF e (2 * L + 1) - L) (pickF y (2 * R + 1) - R)) < 1000)) :
    Calls Try.prog 7 #[pl L R S N, .int .i64 e, .int .i64 y, .slice A l.length c] w fun en w' => en = .returned (.bool true) ∧ Below w.heap.size w w' := by
  have hu23 := Try.underlying23
  have hu24 := Try.underlying24
  have a10 := fun W => meridianlaw06_big.calls L R S N _ W (big_f L R S N)
  have a11 := fun W => steer_Check.calls L R S N _ W (check_f L R S N)
  have a12 := fun W => meridianlaw06_awake.calls true W rfl
  rw [hb] at a10
  have h' := rightB_iff.1 hp
  rw [if_pos hp] at a11
  obtain ⟨m, hB⟩ := best_of hch
  have hsm := small_siz2 hp hb
  have hm : m ≤ 1500 := by have := hB.small; omega
  have HBE := Aside0.mk (And.intro hB (And.intro hm hch))
  have HHP := Aside0.mk (And.intro hp hb)
  have HR := Aside0.mk hr
  have d1 : decide (200 < (l.length : Int)) = false := decide_eq_false (by omega)
  have d2 : decide (200 < l.length) = false := decide_eq_false (by omega)
  have d3 : decide (L < 0) = false := decide_eq_false (by omega)
  have d4 : decide (R < 0) = false := decide_eq_false (by omega)
  have d5 : decide (N < 0) = false := decide_eq_false (by omega)
  clear hb hp hr hB hm hch hsm
  go_enter Try.func7, Try.ntmps7
  go_wp2_with fail
  refine (a10 _).mono ?_
  rintro en w1 ⟨rfl, hB1⟩
  have b4 := (hB1.block w.heap.size (by simp; omega)).trans (al_old (al_new w _ _ rfl))
  have b9 := (hB1.block (w.heap.size + 1) (by simp)).trans (al_new _ _ _ (by simp))
  have c4_0 : w1.cell? ⟨w.heap.size, 0, none⟩ = some (.int .i64 L) := blk_cell b4 0
  have c4_1 : w1.cell? ⟨w.heap.size, 1, none⟩ = some (.int .i64 R) := blk_cell b4 1
  have c4_2 : w1.cell? ⟨w.heap.size, 2, none⟩ = some (.int .i64 S) := blk_cell b4 2
  have c4_3 : w1.cell? ⟨w.heap.size, 3, none⟩ = some (.int .i64 N) := blk_cell b4 3
  have c9_0 : w1.cell? ⟨w.heap.size + 1, 0, none⟩ = some (.int .i64 L) := blk_cell b9 0
  have c9_1 : w1.cell? ⟨w.heap.size + 1, 1, none⟩ = some (.int .i64 R) := blk_cell b9 1
  have c9_2 : w1.cell? ⟨w.heap.size + 1, 2, none⟩ = some (.int .i64 S) := blk_cell b9 2
  have c9_3 : w1.cell? ⟨w.heap.size + 1, 3, none⟩ = some (.int .i64 N) := blk_cell b9 3
  have hT : Below w.heap.size w w1 := (((Below.refl _ w).alloc (Nat.le_refl _) _).alloc (by simp) _).trans (hB1.mono (by simp; omega))
  have hs1 : w.heap.size + 2 ≤ w1.heap.size := by have := hB1.size; simpa using this
  clear hB1 b4 b9
  go_wp2_with fail
  refine (a11 _).mono ?_
  rintro en w2 ⟨rfl, hB⟩
  replace c4_0 := cell_on hB c4_0
  replace c4_1 := cell_on hB c4_1
  replace c4_2 := cell_on hB c4_2
  replace c4_3 := cell_on hB c4_3
  replace c9_0 := cell_on hB c9_0
  replace c9_1 := cell_on hB c9_1
  replace c9_2 := cell_on hB c9_2
  replace c9_3 := cell_on hB c9_3
  replace hT := hT.trans (hB.mono hT.size)
  have hs2 : w.heap.size + 2 ≤ w2.heap.size := by have := hB.size; omega
  clear hB a10 a11 hs1
  go_wp2_with fail
  clear d1 d2 d3 d4 d5
  have hp1 := pickF_b e (2 * L + 1) (by omega) (by omega)
  have hp2 := pickF_b y (2 * R + 1) (by omega) (by omega)
  have hwL : IntKind.i64.wrap (IntKind.i64.wrap (2 * L) + 1) = 2 * L + 1 := by rw [iw (2 * L) (by omega) (by omega), iw _ (by omega) (by omega)]
  have hwR : IntKind.i64.wrap (IntKind.i64.wrap (2 * R) + 1) = 2 * R + 1 := by rw [iw (2 * R) (by omega) (by omega), iw _ (by omega) (by omega)]
  have hS : ∀ w', Below w2.heap.size w2 w' → ((w'.cell? ⟨w.heap.size, 0, none⟩ = some (.int .i64 L) ∧ w'.cell? ⟨w.heap.size, 1, none⟩ = some (.int .i64 R)) ∧ Below w2.heap.size w2 w') := fun w' hB => ⟨⟨cell_on hB c4_0, cell_on hB c4_1⟩, hB⟩
  go_region_held3 (fun w' => (w'.cell? ⟨w.heap.size, 0, none⟩ = some (.int .i64 L) ∧ w'.cell? ⟨w.heap.size, 1, none⟩ = some (.int .i64 R)) ∧ Below w2.heap.size w2 w') (first | exact hS _ (Below.refl _ _).drew | (have hh := ‹(_ ∧ _) ∧ Below w2.heap.size w2 _›; exact hS _ (hh.2.trans (hB.mono hh.2.size))))
    (first | (go_at_call 13; refine (pick_calls _ _ _ (by omega) (by omega)).mono ?_; rintro en w' ⟨rfl, hB⟩))
  rename_i hHeld
  have hV := hHeld.2
  clear hHeld hS
  rename World => w3
  clear hwL hwR
  rw [iw (pickF e (2 * L + 1) - L) (by omega) (by omega), iw (pickF y (2 * R + 1) - R) (by omega) (by omega)]
  obtain ⟨e1, he1⟩ : ∃ x, pickF e (2 * L + 1) - L = x := ⟨_, rfl⟩
  obtain ⟨r1, hr1⟩ : ∃ x, pickF y (2 * R + 1) - R = x := ⟨_, rfl⟩
  have heb : -L ≤ e1 ∧ e1 ≤ L := by omega
  have hrb : -R ≤ r1 ∧ r1 ≤ R := by omega
  rw [he1, hr1]
  rw [he1, hr1] at HCA
  clear he1 hr1 hp1 hp2
  replace c4_0 := cell_on hV c4_0
  replace c4_1 := cell_on hV c4_1
  replace c4_2 := cell_on hV c4_2
  replace c4_3 := cell_on hV c4_3
  replace c9_0 := cell_on hV c9_0
  replace c9_1 := cell_on hV c9_1
  replace c9_2 := cell_on hV c9_2
  replace c9_3 := cell_on hV c9_3
  replace hT := hT.trans (hV.mono hT.size)
  have hs3 : w.heap.size + 2 ≤ w3.heap.size := by have := hV.size; omega
  clear hV hs2
  have hbb : isB L R e1 r1 = true := isB_iff.2 ⟨heb.1, heb.2, hrb.1, hrb.2⟩
  obtain ⟨j, hj, hji, hs1', hs2'⟩ := HBE.out.1.says.at (show 1 ≤ L by omega) (show 0 ≤ R by omega) hbb
  have HSA := Aside0.mk (And.intro hbb (And.intro hs1' hs2'))
  have hix : steer_Index.f L R S N e1 r1 = some ((j : Int), 0) := by rw [index_f HHP.out.1 hbb]; rw [hji]
  have hcl : ch.length = siz L R := HBE.out.1.says.1
  have hclb : ch.length ≤ 600 := by rw [hcl]; exact small_siz2 HHP.out.1 HHP.out.2
  have HCL := Aside0.mk hcl
  have HJI := Aside0.mk hji
  have HCB : Aside0 (rd ch (j : Int) < 1000) := ⟨by have h0 := HCA.out; rw [show ix L R e1 r1 = (j : Int) from hji] at h0; exact h0⟩
  clear HCA
  have a14 := fun W => cw_chart (chart_f0 HHP.out.1 HBE.out.2.2) W
  have a15 := fun W => steer_Index.calls L R S N e1 r1 j 0 W hix
  clear hbb hs1' hs2' hix hcl hji
  go_wp2_with fail
  refine (a14 _).mono ?_
  rintro en w4 ⟨Ac, cc, rfl, ⟨hcc, hCc⟩, hB⟩
  replace c4_0 := cell_on hB c4_0
  replace c4_1 := cell_on hB c4_1
  replace c4_2 := cell_on hB c4_2
  replace c4_3 := cell_on hB c4_3
  replace c9_0 := cell_on hB c9_0
  replace c9_1 := cell_on hB c9_1
  replace c9_2 := cell_on hB c9_2
  replace c9_3 := cell_on hB c9_3
  replace hT := hT.trans (hB.mono hT.size)
  have hs4 : w.heap.size + 2 ≤ w4.heap.size := by have := hB.size; omega
  clear hB hs3 a14
  go_wp2_with fail
  refine (a15 _).mono ?_
  rintro en w5 ⟨rfl, hB⟩
  replace c4_0 := cell_on hB c4_0
  replace c4_1 := cell_on hB c4_1
  replace c4_2 := cell_on hB c4_2
  replace c4_3 := cell_on hB c4_3
  replace c9_0 := cell_on hB c9_0
  replace c9_1 := cell_on hB c9_1
  replace c9_2 := cell_on hB c9_2
  replace c9_3 := cell_on hB c9_3
  replace hT := hT.trans (hB.mono hT.size)
  have hs5 : w.heap.size + 2 ≤ w5.heap.size := by have := hB.size; omega
  have HCc := Aside0.mk (Kd.C_below hCc hB)
  clear hB hs4 a15 hCc
  have hmul : IntKind.i64.wrap ((2 * L + 1) * (2 * R + 1)) = (ch.length : Int) := by
    have h1 := siz_int (L := L) (R := R) (by omega) (by omega)
    rw [← HCL.out] at h1
    rw [← h1, iw _ (by omega) (by omega)]
  have d6 : decide ((ch.length : Int) ≤ (j : Int)) = false := decide_eq_false (by omega)
  have d7 : decide (ch.length ≤ j) = false := decide_eq_false (by omega)
  obtain ⟨ad, rfl, hcv⟩ := C_int HCc.out j hj
  have hkr : ch[j]'hj = rd ch (j : Int) := by simp [rd, List.getD_eq_getElem?_getD, List.getElem?_eq_getElem hj]
  rw [hkr] at hcv
  clear hkr
  obtain ⟨v, hv⟩ : ∃ v, rd ch (j : Int) = v := ⟨_, rfl⟩
  rw [hv] at hcv
  have HV := Aside0.mk hv
  clear hv
  have hch9 : ch.length ≤ 9223372036854775807 := by omega
  have hv1 : v < 1000 := by rw [← HV.out]; exact HCB.out
  have d8 : decide (v < 1000) = true := by simpa using hv1
  have HVV := Aside0.mk hv1
  clear hv1
  go_wp2_with fail
  clear d6 d7 d8 hmul
  obtain ⟨ii, hii, hz0, hz1, hz2⟩ := info_parts info3m
  have hwN : IntKind.i64.wrap (IntKind.i64.wrap (2 * N) + 1) = 2 * N + 1 := by rw [iw (2 * N) (by omega) (by omega), iw _ (by omega) (by omega)]
  go_loopw [14, 15] (fun v14 v15 wr => ∃ (n : Nat) (nz : List Int) (vo : Value), n ≤ l.length ∧ v15 = .int .i64 n ∧ vo = v14 ∧ Aside0 (nz = (l.take n).map (pkN N)) ∧ Aside0 (wr.ownsRow w5.heap.size 3 1 vo nz.length (nums .i64 nz)) ∧ Aside0 (Below w5.heap.size w5 wr))
    (fun _ v _ => l.length - (intOf v).toNat)
  case atStart => exact ⟨0, [], _, Nat.zero_le _, rfl, rfl, ⟨rfl⟩, ⟨own_nil _ _ _ _⟩, ⟨Below.refl _ _⟩⟩
  case round =>
    obtain ⟨n, nz, vo, hn, rfl, rfl, HNZ, HO, HB⟩ := hrel
    by_cases hlt : n < l.length
    · have hTw : Below w.heap.size w wr := hT.trans (HB.out.mono (by omega))
      obtain ⟨adl, rfl, hcl⟩ := C_int (Kd.C_below HR.out hTw) n hlt
      have HN2 : Aside0 (nz ++ [pkN N l[n]] = (l.take (n + 1)).map (pkN N)) := ⟨by rw [take_snoc l n hlt, List.map_append, ← HNZ.out]; rfl⟩
      have hpb := pickF_b l[n] (2 * N + 1) (by omega) (by omega)
      have hpe : pkN N l[n] = pickF l[n] (2 * N + 1) - N := rfl
      rw [hpe] at HN2
      clear hpe
      have hnl : nz.length ≤ 200 := by rw [HNZ.out, List.length_map, List.length_take]; omega
      obtain ⟨cv, hcv'⟩ : ∃ cv, l[n] = cv := ⟨_, rfl⟩
      rw [hcv'] at hcl HN2 hpb
      have HCV := Aside0.mk hcv'
      clear hcv'
      have e4 : wr.cell? ⟨w.heap.size, 3, none⟩ = some (.int .i64 N) := (HB.out.cell (p := ⟨w.heap.size, 3, none⟩) (by simp; omega)).trans c4_3
      have g0 : (0 : Int) ≤ (n : Int) := by omega
      have g1 : (n : Int) < (l.length : Int) := by omega
      have hSS : ∀ w', Below wr.heap.size wr w' → ((w'.cell? ⟨w.heap.size, 3, none⟩ = some (.int .i64 N) ∧ w'.cell? (adl.add n) = some (.int .i64 cv)) ∧ Below w5.heap.size w5 w') := fun w' h0 => ⟨⟨cell_on h0 e4, cell_on h0 hcl⟩, HB.out.trans (h0.mono HB.out.size)⟩
      have hwP : IntKind.i64.wrap (pickF cv (2 * N + 1) - N) = pickF cv (2 * N + 1) - N := iw _ (by omega) (by omega)
      have hob := own_base HO.out
      have hOW : ∀ w' ob, Below wr.drew.heap.size wr.drew w' → (w'.alloc ob).ownsRow w5.heap.size 3 1 vo nz.length (nums .i64 nz) := fun w' ob h0 => (own_move HO.out (fun k hk => ((Below.refl wr.heap.size wr).drew.trans h0).block k (own_lt HO.out k hk))).alloc _
      have hsB := HB.out.size
      have hSA : ∀ w' ob, Below wr.drew.heap.size wr.drew w' → Below w5.heap.size w5 (w'.alloc ob) := fun w' ob h0 => by
        have h1 := (Below.refl wr.heap.size wr).drew.trans h0
        exact (HB.out.trans (h1.mono hsB)).alloc (by have := h1.size; omega) _
      have hSN : ∀ w' ob w1, Below wr.drew.heap.size wr.drew w' → (w'.alloc ob).grownBy w1 vo.ownBlock → ((w1.cell? ⟨w.heap.size, 3, none⟩ = some (.int .i64 N) ∧ w1.cell? (adl.add n) = some (.int .i64 cv)) ∧ Below w5.heap.size w5 w1) := fun w' ob w1 h0 hg => by
        have h2 := (hSA w' ob h0).grown hg (by have := (hSA w' ob h0).size; exact this) (fun k e => hob k e)
        refine ⟨⟨(h2.cell (p := ⟨w.heap.size, 3, none⟩) (by simp; omega)).trans c4_3, ?_⟩, h2⟩
        have h3 := hT.trans (h2.mono (by omega))
        obtain ⟨adl2, hae, hcl2⟩ := C_int (Kd.C_below HR.out h3) n hlt
        cases hae
        exact hcl2.trans ((HCV.out).symm ▸ rfl)
      go_wp2_with fail
      go_region_held3 (fun w' => (w'.cell? ⟨w.heap.size, 3, none⟩ = some (.int .i64 N) ∧ w'.cell? (adl.add n) = some (.int .i64 cv)) ∧ Below w5.heap.size w5 w') (first | exact hSS _ (Below.refl _ _).drew | exact hSN _ _ _ hB hgrow | exact hSS _ ((Below.refl wr.heap.size wr).drew.trans hB) | exact hSS _ (((Below.refl wr.heap.size wr).drew.trans hB).alloc ((Below.refl wr.heap.size wr).drew.trans hB).size _))
        (first | (go_at_call 13; refine (pick_calls _ _ _ (by omega) (by omega)).mono ?_; rintro en w' ⟨rfl, hB⟩) | (refine step_append_lies _ (by rfl) _ _ _ (by rfl) w5.heap.size 3 ii _ 1 8 Try.underlying30 hii hz0 hz1 hz2 rfl (by omega) vo nz.length (nums .i64 nz) (by rfl) (hOW _ _ hB) ⟨_, 0, none⟩ 1 1 [.int .i64 (pickF cv (2 * N + 1) - N)] (by rfl) (by rfl) (cell_one_new _ _ _) (by simp [Value.oneCell']) (by omega) (by unfold maxLen; omega) (by omega) (by have := (hSA _ (.cells #[] 3) hB).size; simp at this ⊢; omega) _ rfl ?_; intro gg cap w1 hown1 hgrow hat hlt1))
      rename_i hHeld
      have hV := hHeld.2
      clear hHeld hSS hSN hSA hOW
      go_wp2
      go_roundw
      case rel => exact ⟨n + 1, nz ++ [pickF cv (2 * N + 1) - N], _, by omega, by go_num, rfl, HN2, ⟨by simpa [nums] using hown1⟩, ⟨hV⟩⟩
      case measure => simp [intOf]; omega
    · obtain rfl : n = l.length := by omega
      clear hlt hwN
      have hnz : nz = l.map (pkN N) := by rw [HNZ.out, List.take_length]
      have hnd : ∀ d ∈ nz, -N ≤ d ∧ d ≤ N := fun d hd => by
        rw [hnz] at hd
        obtain ⟨c0, _, rfl⟩ := List.mem_map.1 hd
        exact pkN_b N c0 (by omega) (by omega)
      have hnl : nz.length ≤ 200 := by rw [hnz, List.length_map]; omega
      have HND := Aside0.mk hnd
      have hte : T L R S N m e1 r1 = true := by
        cases ht : T L R S N m e1 r1 with
        | true => rfl
        | false =>
          obtain ⟨k, hk1, hk2, _⟩ := HSA.out.2.2 ht
          have h3 := HVV.out
          rw [← HV.out, hk2] at h3
          omega
      have HTE := Aside0.mk hte
      have hhold := hold_safe HHP.out.1 HBE.out.2.2 HBE.out.1 hte nz (by omega) hnd
      obtain ⟨hs, hhs⟩ : ∃ x, holdS L R ch nz e1 r1 = x := ⟨_, rfl⟩
      have hhl : hs.length = nz.length := by rw [← hhs, holdS_len]
      rw [hhs] at hhold
      have hneq : ((hs.length : Int) != (nz.length : Int)) = false := by rw [hhl]; simp
      have hneq2 : (hs.length != nz.length) = false := by rw [hhl]; simp
      have HHS := Aside0.mk (And.intro hhs hhl)
      have hhl2 : hs.length ≤ 200 := by omega
      obtain ⟨An, cn, hvo, hcn, hCn⟩ := Kd.R_reads (Kd.R_of_own (h1 := fun _ => rfl) (e := 3) HO.out (fun _ _ => trivial) (ok := fun _ => True))
      clear hnz hnd hte hhs hhl HNZ HO
      subst hvo
      have hB := HB.out
      replace c4_0 := cell_on hB c4_0
      replace c4_1 := cell_on hB c4_1
      replace c4_2 := cell_on hB c4_2
      replace c4_3 := cell_on hB c4_3
      replace c9_0 := cell_on hB c9_0
      replace c9_1 := cell_on hB c9_1
      replace c9_2 := cell_on hB c9_2
      replace c9_3 := cell_on hB c9_3
      have hT6 := hT.trans (hB.mono hT.size)
      clear hT hB hcv HB
      go_wp2_with fail
      refine (steer_Hold.calls (nz.length + 1) L R S N e1 r1 An cn nz hs 0 wr hCn hcn hhold).mono ?_
      rintro en w6 ⟨v0, rfl, hRh, hB⟩
      obtain ⟨Ah, chh, rfl, hchh, hCh⟩ := Kd.R_reads hRh
      replace c4_0 := cell_on hB c4_0
      replace c4_1 := cell_on hB c4_1
      replace c4_2 := cell_on hB c4_2
      replace c4_3 := cell_on hB c4_3
      replace c9_0 := cell_on hB c9_0
      replace c9_1 := cell_on hB c9_1
      replace c9_2 := cell_on hB c9_2
      replace c9_3 := cell_on hB c9_3
      replace hT6 := hT6.trans (hB.mono hT6.size)
      replace hCn := Kd.C_below hCn hB
      clear hB hRh hhold
      go_wp2_with fail
      have hix : steer_Index.f L R S N e1 r1 = some ((j : Int), 0) := by rw [index_f HHP.out.1 HSA.out.1]; rw [HJI.out]
      have hjs : j < siz L R := by rw [← HCL.out]; exact hj
      refine (force_calls L R S N e1 r1 none 0 [] j ch w6 hix hjs HJI.out HCL.out HBE.out.2.2 (Kd.R_reads' (Kd.R_nil (Kd.int .i64) 3 w6 0 (fun _ => True))).2.2 (Nat.le_refl _) (by simp) HSA.out.1 [] 9 (by rw [HV.out, if_pos HVV.out])).mono ?_
      rintro en w7 ⟨A7, c7, rfl, _, hB⟩
      replace c4_0 := cell_on hB c4_0
      replace c4_1 := cell_on hB c4_1
      replace c4_2 := cell_on hB c4_2
      replace c4_3 := cell_on hB c4_3
      replace hT6 := hT6.trans (hB.mono hT6.size)
      replace hCn := Kd.C_below hCn hB
      replace hCh := Kd.C_below hCh hB
      have HN7 := Aside0.mk hCn
      have HH7 := Aside0.mk hCh
      clear hB hix hjs hCn hCh c9_0 c9_1 c9_2 c9_3
      go_wp2_with fail
      clear hneq hneq2
      have hwnL : IntKind.i64.wrap (-L) = -L := iw _ (by omega) (by omega)
      have hwnR : IntKind.i64.wrap (-R) = -R := iw _ (by omega) (by omega)
      go_loopw [1, 2, 20] (fun v1 v2 v20 wr => ∃ (n : Nat) (x z : Int), n ≤ hs.length ∧ v20 = .int .i64 n ∧ v1 = .int .i64 x ∧ v2 = .int .i64 z ∧ Aside0 (T L R S N m x z = true ∧ hs.drop n = holdS L R ch (nz.drop n) x z) ∧ Aside0 (Below w7.heap.size w7 wr))
        (fun _ _ v _ => hs.length - (intOf v).toNat)
      case atStart => exact ⟨0, e1, r1, Nat.zero_le _, rfl, rfl, rfl, ⟨HTE.out, by rw [List.drop_zero, List.drop_zero]; exact HHS.out.1.symm⟩, ⟨Below.refl _ _⟩⟩
      case round => as_aux_lemma =>
        obtain ⟨n, x, z, hn, rfl, rfl, rfl, HX, HB⟩ := hrel
        have hB := HB.out
        replace c4_0 := cell_on hB c4_0
        replace c4_1 := cell_on hB c4_1
        replace c4_2 := cell_on hB c4_2
        replace c4_3 := cell_on hB c4_3
        by_cases hlt : n < hs.length
        · have hnl : n < nz.length := by have := HHS.out.2; omega
          obtain ⟨adh, rfl, hc0, hc1⟩ := C_ent (Kd.C_below HH7.out hB) n hlt hlt
          obtain ⟨adn, rfl, hcn1⟩ := C_int (Kd.C_below HN7.out hB) n hnl
          obtain ⟨q, hq⟩ : ∃ q, rd ch (ix L R x z) = q := ⟨_, rfl⟩
          obtain ⟨j2, hj2, hij2, hlt2, hqb, hst⟩ := HBE.out.1.safe (show 1 ≤ L by omega) (show 0 ≤ R by omega) (show 0 ≤ N by omega) HX.out.1
          rw [← hij2, hq] at hqb hst
          have hdr1 : hs.drop n = hs[n] :: hs.drop (n + 1) := List.drop_eq_getElem_cons hlt
          have hdr2 : nz.drop n = nz[n] :: nz.drop (n + 1) := List.drop_eq_getElem_cons hnl
          have hx2 := HX.out.2
          have hnd := HND.out nz[n] (List.getElem_mem _)
          have hxb := isB_iff.1 (T_bound m HX.out.1)
          rw [hdr1, hdr2, holdS, hq] at hx2
          generalize nz[n] = d at *
          obtain ⟨hx3, hx4⟩ := List.cons.inj hx2
          rw [hx3] at hc0 hc1
          have htn := hst d hnd.1 hnd.2
          have hnb := isB_iff.1 (T_bound m htn)
          simp only at hc0 hc1
          obtain ⟨E, hE⟩ : ∃ E, x + q + d = E := ⟨_, rfl⟩
          rw [hE] at hc0 htn hx4 hnb
          have HREL : Aside0 (T L R S N m E q = true ∧ hs.drop (n + 1) = holdS L R ch (nz.drop (n + 1)) E q) := ⟨htn, hx4⟩
          have hw1 : IntKind.i64.wrap (q - z) = q - z := iw _ (by omega) (by omega)
          have hw2 : IntKind.i64.wrap (z - q) = z - q := iw _ (by omega) (by omega)
          have hw3 : IntKind.i64.wrap (IntKind.i64.wrap (x + q) + d) = E := by rw [iw (x + q) (by omega) (by omega), iw _ (by omega) (by omega), hE]
          have f1 : decide (E < -L) = false := decide_eq_false (by omega)
          have f2 : decide (L < E) = false := decide_eq_false (by omega)
          have f3 : decide (q < -R) = false := decide_eq_false (by omega)
          have f4 : decide (R < q) = false := decide_eq_false (by omega)
          have f5 : decide (S < q - z) = false := decide_eq_false (by omega)
          have f6 : decide (S < z - q) = false := decide_eq_false (by omega)
          have g0 : (0 : Int) ≤ (n : Int) := by omega
          have g1 : (n : Int) < (hs.length : Int) := by omega
          have g2 : (n : Int) < (nz.length : Int) := by omega
          clear hdr1 hdr2 hx2 hx3 hx4 hst hq hij2 hlt2 htn hE hnb
          go_wp2
          go_quiet (fail)
          try go_wp2
          go_quiet (fail)
          try go_wp2
          go_roundw
          case rel => exact ⟨n + 1, E, q, by omega, by go_num, rfl, rfl, HREL, ⟨by repeat (first | exact HB.out | apply pw_below_drewN | apply below_drew1)⟩⟩
          case measure => simp [intOf]; omega
        · obtain rfl : n = hs.length := by omega
          go_wp2_with fail
          refine (a12 _).mono ?_
          rintro en w9 ⟨rfl, hB9⟩
          go_wp2
          go_ret
          have h8 := hT6.trans (hB.mono hT6.size)
          exact ⟨rfl, h8.trans (hB9.mono h8.size)⟩
end Go.Proofs.Ytcaekmalkbaldaa.M
