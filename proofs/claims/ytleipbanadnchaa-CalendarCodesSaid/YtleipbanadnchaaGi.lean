/- Contracts of the reference's FromUnix, ToNtp and FromNtp, by hand. -/
import Derived.OwnWalk
import Derived.Laws.AppendOwn
import Derived.Test.YtleipbanadnchaaGh
namespace Go.Proofs.Ytleipbanadnchaa.C
open Go.RowKit Go.Shelf Go.Maps Go.Proofs.YtleipbanadnchaaW.PrintWords Go.Proofs.YtleipbanadnchaaW.PrintLast Go.Proofs.YtleipbanadnchaaW.PrintMore
set_option linter.unusedVariables false
set_option linter.unusedSimpArgs false
/-- Behind i rounds. -/
structure FuInv (w1 wr : World) (q : List Int) (cs : List Value) (vo : Value) : Prop where
  bel : Below w1.heap.size w1 wr
  own : wr.ownsRow w1.heap.size 3 1 vo q.length cs
  eq : cs = q.map fun x => .int .i64 x
set_option maxHeartbeats 4000000 in
set_option maxRecDepth 100000 in
theorem rFromUnix_main (b u : Int) (A : Option Addr) (c : Nat) (l : List (Int × Int)) (x : Int) (w : World) (hr : Kd.C kl w A l.length l) (hk : checkF b l u = 0) (hx : 0 ≤ x ∧ x ≤ 10000000000) :
    Calls Try.prog 74 #[tabV b A l.length c u, .int .i64 x] w fun e w' => RetL w' e (secsF l u x) (if secsF l u x = [] then 4 else 0) ∧ Below w.heap.size w w' := by
  obtain ⟨ii, hii, hz0, hz1, hz2⟩ := info_parts info3n
  have HR := Aside0.mk hr
  have HK := Aside0.mk hk
  have a53 := fun w h => rcheck_calls b u A c l w h
  have a104 := fun w => rin_calls x 0 10000000000 w
  rw [show (decide (0 ≤ x) && decide (x ≤ 10000000000)) = true by simp; omega] at a104
  rw [hk] at a53
  have hR := (checkF_right hk).2.2.2.2.2
  have hu := (checkF_right hk).2.2.2.1
  have HALL : Aside0 (∀ k E, IsDay l u k E → ((secsF l u x).contains k = (unixF l k E == x))) := ⟨fun k E hE => by
    rw [Bool.eq_iff_iff, List.contains_iff_mem, beq_iff_eq]
    exact mem_secs hR hu hE⟩
  have HNONE : Aside0 (∀ k, ¬ (0 ≤ k ∧ k < beginF l u) → (secsF l u x).contains k = false) := ⟨fun k hk => by
    rw [Bool.eq_false_iff]
    intro h
    exact hk (secs_known hR (by rw [hR.first]; decide) (List.contains_iff_mem.1 h))⟩
  have HFIN := Aside0.mk (filt_secs (x := x) hk)
  obtain ⟨n0, hn0⟩ : ∃ n0, x - 63072000 - 102 = n0 := ⟨_, rfl⟩
  obtain ⟨near, hnear⟩ : ∃ near, x - 63072000 = near := ⟨_, rfl⟩
  rw [hn0] at HFIN
  have hn1 : near = n0 + 102 := by omega
  rw [hnear] at hn0
  obtain ⟨er, her⟩ : ∃ er : Int, (if secsF l u x = [] then 4 else 0) = er := ⟨_, rfl⟩
  rw [her]
  have HER := Aside0.mk her
  clear hr hk hR her
  generalize secsF l u x = Q at *
  go_enter Try.func74, Try.ntmps74
  go_wp2_with fail
  obtain ⟨w0, hw0⟩ : ∃ w0, w.alloc (.cells #[.int .i64 b, .slice A l.length c, .int .i64 u] 90) = w0 := ⟨_, rfl⟩
  try rw [hw0]
  have hv : Below w.heap.size w w0 := by rw [← hw0]; exact (Below.refl _ w).alloc (Nat.le_refl _) _
  have kx : w0.heap[w.heap.size]? = some (.cells #[.int .i64 b, .slice A l.length c, .int .i64 u] 90 (0, 0)) := by rw [← hw0]; exact al_new _ _ _ rfl
  have o0 : w0.cell? ⟨w.heap.size, 0, none⟩ = some (.int .i64 b) := blk_cell kx 0
  have o1 : w0.cell? ⟨w.heap.size, 1, none⟩ = some (.slice A l.length c) := blk_cell kx 1
  have o2 : w0.cell? ⟨w.heap.size, 2, none⟩ = some (.int .i64 u) := blk_cell kx 2
  clear hw0 kx
  refine (a53 _ (Kd.C_below HR.out hv)).mono ?_
  rintro en wa ⟨rfl, hB⟩
  replace o0 := cell_on hB o0
  replace o1 := cell_on hB o1
  replace o2 := cell_on hB o2
  replace hv := hv.trans (hB.mono hv.size)
  clear hB a53
  go_wp2_with fail
  refine (a104 _).mono ?_
  rintro en w1 ⟨rfl, hB⟩
  replace o0 := cell_on hB o0
  replace o1 := cell_on hB o1
  replace o2 := cell_on hB o2
  replace hv := hv.trans (hB.mono hv.size)
  clear hB a104
  have HI0 : Aside0 (FuInv w1 w1 [] [] (.slice none 0 0)) := ⟨⟨Below.refl _ _, own_nil _ _ _ _, rfl⟩⟩
  go_wp2_with fail
  go_loopw [9, 7] (fun v9 v7 wr => ∃ (i : Nat) (q : List Int) (cs : List Value) (vo : Value), i ≤ 205 ∧ v9 = .int .i64 (n0 + i) ∧ v7 = vo ∧ q.length ≤ i ∧ Aside0 (q = filtR Q n0 i) ∧ Aside0 (FuInv w1 wr q cs vo)) (fun v _ _ => (n0 + 300 - intOf v).toNat)
  case atStart => exact ⟨0, [], [], _, by omega, by go_num, rfl, by simp, ⟨rfl⟩, HI0⟩
  case round =>
    obtain ⟨i, q, cs, _, hi, rfl, rfl, hql, HQ, HI⟩ := hrel
    obtain ⟨k, hkk⟩ : ∃ k, n0 + (i : Int) = k := ⟨_, rfl⟩
    rw [hkk]
    have hB := HI.out.bel
    replace o0 := cell_on hB o0
    replace o1 := cell_on hB o1
    replace o2 := cell_on hB o2
    have hC := Kd.C_below HR.out (hv.trans (hB.mono hv.size))
    have hsz := hB.size
    clear hB
    have HST : Aside0 (filtR Q n0 (i + 1) = q ++ (if Q.contains k = true then [k] else [])) := ⟨by rw [filtR, hkk, HQ.out]⟩
    by_cases hi7 : i < 205
    · have d1 : decide (k ≤ near + 102) = true := decide_eq_true (by omega)
      by_cases hin : 0 ≤ k ∧ k < beginF l u
      · obtain ⟨eK, E, hE⟩ := ask_in (s := k) HK.out hin.1 hin.2
        have b28 := rUnix_ok b u A c l k E wr hC eK hE
        have hct := HALL.out k E hE
        have hvb := unixF_bound (checkF_right HK.out).2.2.2.2.2 hu hE
        generalize unixF l k E = V at *
        clear hin eK hE
        cases hVU : (V == x)
        · rw [hVU] at hct
          rw [hct, if_neg (by decide), List.append_nil] at HST
          clear hct
          go_wp2_with fail
          refine b28.mono ?_
          rintro en w20 ⟨rfl, hB⟩
          have HV : Aside0 (FuInv w1 w20 q cs u7) := ⟨⟨HI.out.bel.trans (hB.mono hsz), own_move HI.out.own (fun k hk => hB.block k (own_lt HI.out.own k hk)), HI.out.eq⟩⟩
          clear hB o0 o1 o2 hC HQ HI b28
          go_wp2
          go_roundw
          case rel => exact ⟨i + 1, q, cs, u7, by omega, by go_num, rfl, by omega, ⟨HST.out.symm⟩, HV⟩
          case measure => simp [intOf]; omega
        · rw [hVU] at hct
          rw [hct, if_pos rfl] at HST
          clear hct
          go_wp2_with fail
          refine b28.mono ?_
          rintro en w20 ⟨rfl, hB⟩
          have HV : Aside0 (FuInv w1 w20 q cs u7) := ⟨⟨HI.out.bel.trans (hB.mono hsz), own_move HI.out.own (fun k hk => hB.block k (own_lt HI.out.own k hk)), HI.out.eq⟩⟩
          have hsz2 : w1.heap.size ≤ w20.heap.size := HV.out.bel.size
          have hownD : (w20.alloc (.cells #[.int .i64 k] 3)).ownsRow w1.heap.size 3 1 u7 q.length cs := own_move HV.out.own (fun k hk => Below.heap_alloc _ _ k (own_lt HV.out.own k hk))
          clear hB o0 o1 o2 hC HQ HI b28
          go_wp2_with (at_builtin; refine wpList_append_own _ rfl _ _ 61 rfl w1.heap.size 3 ii (.int .i64 0) 1 8 Try.underlying61 hii hz0 hz1 hz2 rfl (by decide) _ _ _ rfl hownD ⟨w20.heap.size, 0, none⟩ 1 1 [.int .i64 k] rfl ?qc1 ?qc2 ?qc3 ?qc4 ?qc5 ?qc6 ?_)
          case qc1 => rfl
          case qc2 => exact cell_one_new _ _ _
          case qc3 => simp [Value.oneCell']
          case qc4 => unfold maxLen; omega
          case qc5 => omega
          case qc6 => simp; omega
          intro v6 w6 hownN hgrow hnil
          have HV2 : Aside0 (FuInv w1 w6 (q ++ [k]) (cs ++ [.int .i64 k]) v6) := ⟨by
            have hv5 : Below w1.heap.size w1 (w20.alloc (.cells #[.int .i64 k] 3)) := HV.out.bel.alloc hsz2 _
            refine ⟨hv5.grown hgrow hv5.size (fun k hk => own_base hownD k hk), ?_, by rw [HV.out.eq]; simp⟩
            simpa using hownN⟩
          clear hownN hgrow hnil hownD HV
          go_wp2
          go_roundw
          case rel => exact ⟨i + 1, q ++ [k], _, _, by omega, by go_num, rfl, by simp; omega, ⟨HST.out.symm⟩, HV2⟩
          case measure => simp [intOf]; omega
      · have hkn : askE b l u k ≠ 0 := fun h => hin (knowsB_iff.1 (askE_zero h).2)
        have b28 := rUnix_err b u A c l k wr hC hkn
        rw [HNONE.out k hin, if_neg (by decide), List.append_nil] at HST
        have q1 : (askE b l u k == 0) = false := beq_eq_false_iff_ne.2 hkn
        generalize askE b l u k = er at *
        clear hin
        go_wp2_with fail
        refine b28.mono ?_
        rintro en w20 ⟨rfl, hB⟩
        have HV : Aside0 (FuInv w1 w20 q cs u7) := ⟨⟨HI.out.bel.trans (hB.mono hsz), own_move HI.out.own (fun k hk => hB.block k (own_lt HI.out.own k hk)), HI.out.eq⟩⟩
        clear hB o0 o1 o2 hC HQ HI b28
        go_wp2
        go_roundw
        case rel => exact ⟨i + 1, q, cs, u7, by omega, by go_num, rfl, by omega, ⟨HST.out.symm⟩, HV⟩
        case measure => simp [intOf]; omega
    · obtain rfl : i = 205 := by omega
      have d1 : decide (k ≤ near + 102) = false := decide_eq_false (by omega)
      have hqQ : q = Q := by rw [HQ.out]; exact HFIN.out
      have hown := HI.out.own
      rw [HI.out.eq] at hown
      obtain ⟨Ad, cc, evo, hCQ⟩ := own_ints (l := q) hown
      subst evo
      subst hqQ
      have hv2 := hv.trans (HI.out.bel.mono hv.size)
      have HF : Aside0 (∀ er, RetL wr (.returned (.tuple #[.slice Ad q.length cc, .int .i64 er])) q er) := ⟨fun er => ⟨Ad, cc, rfl, hCQ⟩⟩
      have hl0 : q = [] ∨ q ≠ [] := by by_cases h : q = [] <;> simp [h]
      clear hown hCQ HI HQ HST
      rcases hl0 with hq0 | hne
      · have HE4 : Aside0 (er = 4) := ⟨by rw [← HER.out, if_pos hq0]⟩
        subst hq0
        go_wp2
        go_ret2
        exact ⟨by rw [HE4.out]; exact RetL_nil _ 4, hv2⟩
      · have hn : q.length ≠ 0 := fun h => hne (List.length_eq_zero_iff.1 h)
        have HE4 : Aside0 (er = 0) := ⟨by rw [← HER.out, if_neg hne]⟩
        have HF2 := Aside0.mk (HF.out 0)
        clear hne HF
        generalize q.length = n at *
        have q1 : ((n : Int) == 0) = false := beq_eq_false_iff_ne.2 (by omega)
        have q2 : (n == 0) = false := beq_eq_false_iff_ne.2 hn
        go_wp2
        go_ret2
        exact ⟨by rw [HE4.out]; exact HF2.out, hv2⟩
set_option maxHeartbeats 1000000 in
set_option maxRecDepth 100000 in
theorem rFromUnix_calls (b u : Int) (A : Option Addr) (c : Nat) (l : List (Int × Int)) (x : Int) (w : World) (hr : Kd.C kl w A l.length l) :
    Calls Try.prog 74 #[tabV b A l.length c u, .int .i64 x] w fun e w' => RetL w' e (fromUL b l u x) (fromUE b l u x) ∧ Below w.heap.size w w' := by
  unfold fromUL fromUE
  by_cases hk : checkF b l u = 0
  · rw [if_pos hk, if_pos hk]
    by_cases hx : 0 ≤ x ∧ x ≤ 10000000000
    · exact rFromUnix_main b u A c l x w hr hk hx
    · rw [secs_early hx, if_pos rfl]
      have HR := Aside0.mk hr
      have a53 := fun w h => rcheck_calls b u A c l w h
      have a104 := fun w => rin_calls x 0 10000000000 w
      rw [show (decide (0 ≤ x) && decide (x ≤ 10000000000)) = false by simp; omega] at a104
      rw [hk] at a53
      clear hr hk hx
      go_enter Try.func74, Try.ntmps74
      go_wp2_with fail
      refine (a53 _ (Kd.C_below HR.out ((Below.refl _ w).alloc (Nat.le_refl _) _))).mono ?_
      rintro en w1 ⟨rfl, hB⟩
      have hv : Below w.heap.size w w1 := ((Below.refl _ w).alloc (Nat.le_refl _) _).trans (hB.mono (by simp))
      clear hB a53
      go_wp2_with fail
      refine (a104 _).mono ?_
      rintro en w2 ⟨rfl, hB⟩
      go_wp2
      go_ret2
      exact ⟨RetL_nil _ _, hv.trans (hB.mono hv.size)⟩
  · rw [if_neg hk, if_neg hk]
    have HR := Aside0.mk hr
    have a53 := fun w h => rcheck_calls b u A c l w h
    have q1 : (checkF b l u == 0) = false := beq_eq_false_iff_ne.2 hk
    have q2 : (checkF b l u != 0) = true := bne_iff_ne.2 hk
    clear hr hk
    generalize checkF b l u = er at *
    go_enter Try.func74, Try.ntmps74
    go_wp2_with fail
    refine (a53 _ (Kd.C_below HR.out ((Below.refl _ w).alloc (Nat.le_refl _) _))).mono ?_
    rintro en w1 ⟨rfl, hB⟩
    have hv : Below w.heap.size w w1 := ((Below.refl _ w).alloc (Nat.le_refl _) _).trans (hB.mono (by simp))
    clear hB a53
    go_wp2
    go_ret2
    exact ⟨RetL_nil _ _, hv⟩
theorem info121 : (Try.prog.info? 121).map (·.size) = some 2 := by kernel_rfl
theorem info125 : (Try.prog.info? 125).map (·.size) = some 2 := by kernel_rfl
set_option maxHeartbeats 1000000 in
set_option maxRecDepth 100000 in
theorem rToNtp_err (b u : Int) (A : Option Addr) (c : Nat) (l : List (Int × Int)) (s : Int) (w : World) (hr : Kd.C kl w A l.length l) (hk : askE b l u s ≠ 0) :
    Calls Try.prog 75 #[tabV b A l.length c u, .int .i64 s] w fun e w' => e = .returned (.tuple #[.agg #[.int .i64 0, .int .i64 0], .int .i64 (askE b l u s)]) ∧ Below w.heap.size w w' := by
  have HR := Aside0.mk hr
  have a73 := fun w h => rUnix_err b u A c l s w h hk
  clear hr
  have q1 : (askE b l u s == 0) = false := beq_eq_false_iff_ne.2 hk
  have q2 : (askE b l u s != 0) = true := bne_iff_ne.2 hk
  clear hk
  generalize askE b l u s = q at *
  go_enter Try.func75, Try.ntmps75
  go_wp2_with fail
  refine (a73 _ (Kd.C_below HR.out (((Below.refl _ w).alloc (Nat.le_refl _) _).alloc (by simp) _))).mono ?_
  rintro en w1 ⟨rfl, hB⟩
  have hv : Below w.heap.size w w1 := (((Below.refl _ w).alloc (Nat.le_refl _) _).alloc (by simp) _).trans (hB.mono (by simp; omega))
  have kr : w1.heap[w.heap.size + 1]? = some (.cells #[.int .i64 0, .int .i64 0] 121 (0, 0)) := (hB.block _ (by simp)).trans (al_new _ _ _ (by simp))
  clear hB a73
  have r0 : w1.cell? ⟨w.heap.size + 1, 0, none⟩ = some (.int .i64 0) := blk_cell kr 0
  have r1 : w1.cell? ⟨w.heap.size + 1, 1, none⟩ = some (.int .i64 0) := blk_cell kr 1
  have z0 := blk_frozen kr 0
  have z1 := blk_frozen kr 1
  go_wp2
  exact bodyPost_ret (results_row_tmp rfl _ _ (w.heap.size + 1) 121 _ (0, 0) _ rfl (blk_put (blk_put kr 0 _ rfl) 1 _ rfl) Try.underlying121 rfl info121) rfl
    ⟨rfl, (hv.setCell (p := ⟨w.heap.size + 1, 0, none⟩) (by simp) _).setCell (p := ⟨w.heap.size + 1, 1, none⟩) (by simp) _⟩
set_option maxHeartbeats 1000000 in
set_option maxRecDepth 100000 in
theorem rToNtp_ok (b u : Int) (A : Option Addr) (c : Nat) (l : List (Int × Int)) (s D : Int) (w : World) (hr : Kd.C kl w A l.length l) (hk : askE b l u s = 0) (hD : IsDay l u s D) :
    Calls Try.prog 75 #[tabV b A l.length c u, .int .i64 s] w fun e w' => e = .returned (.tuple #[.agg #[.int .i64 ((unixF l s D + 2208988800) / 4294967296), .int .i64 ((unixF l s D + 2208988800) % 4294967296)], .int .i64 0]) ∧ Below w.heap.size w w' := by
  have HR := Aside0.mk hr
  have a73 := fun w h => rUnix_ok b u A c l s D w h hk hD
  have hub := unixF_bound (checkF_right (askE_zero hk).1).2.2.2.2.2 (checkF_right (askE_zero hk).1).2.2.2.1 hD
  clear hr hD hk
  generalize unixF l s D = n at *
  go_enter Try.func75, Try.ntmps75
  go_wp2_with fail
  refine (a73 _ (Kd.C_below HR.out (((Below.refl _ w).alloc (Nat.le_refl _) _).alloc (by simp) _))).mono ?_
  rintro en w1 ⟨rfl, hB⟩
  have hv : Below w.heap.size w w1 := (((Below.refl _ w).alloc (Nat.le_refl _) _).alloc (by simp) _).trans (hB.mono (by simp; omega))
  have kr : w1.heap[w.heap.size + 1]? = some (.cells #[.int .i64 0, .int .i64 0] 121 (0, 0)) := (hB.block _ (by simp)).trans (al_new _ _ _ (by simp))
  clear hB a73
  have r0 : w1.cell? ⟨w.heap.size + 1, 0, none⟩ = some (.int .i64 0) := blk_cell kr 0
  have r1 : w1.cell? ⟨w.heap.size + 1, 1, none⟩ = some (.int .i64 0) := blk_cell kr 1
  have z0 := blk_frozen kr 0
  have z1 := blk_frozen kr 1
  go_wp2
  exact bodyPost_ret (results_row_tmp rfl _ _ (w.heap.size + 1) 121 _ (0, 0) _ rfl (blk_put (blk_put kr 0 _ rfl) 1 _ rfl) Try.underlying121 rfl info121) rfl
    ⟨rfl, (hv.setCell (p := ⟨w.heap.size + 1, 0, none⟩) (by simp) _).setCell (p := ⟨w.heap.size + 1, 1, none⟩) (by simp) _⟩
set_option maxHeartbeats 2000000 in
set_option maxRecDepth 100000 in
theorem rFromNtp_calls (b u : Int) (A : Option Addr) (c : Nat) (l : List (Int × Int)) (x y : Int) (w : World) (hr : Kd.C kl w A l.length l) :
    Calls Try.prog 76 #[tabV b A l.length c u, .agg #[.int .i64 x, .int .i64 y]] w fun e w' => RetL w' e (fromNL b l u x y) (fromNE b l u x y) ∧ Below w.heap.size w w' := by
  have HR := Aside0.mk hr
  have a53 := fun w h => rcheck_calls b u A c l w h
  clear hr
  by_cases hk : checkF b l u = 0
  · have a81 := fun w => rin_calls y 0 4294967295 w
    have b81 := fun w => rin_calls x 0 1000 w
    rw [hk] at a53
    by_cases hy : 0 ≤ y ∧ y ≤ 4294967295
    rotate_left
    · have hL : fromNL b l u x y = [] := by unfold fromNL; rw [if_neg (by omega)]
      have hE : fromNE b l u x y = 6 := by unfold fromNE; rw [if_pos hk, if_neg (by omega)]
      rw [hL, hE]
      rw [show (decide (0 ≤ y) && decide (y ≤ 4294967295)) = false by simp; omega] at a81
      clear hk hL hE hy b81
      go_enter Try.func76, Try.ntmps76
      go_wp2_with fail
      refine (a53 _ (Kd.C_below HR.out (((Below.refl _ w).alloc (Nat.le_refl _) _).alloc (by simp) _))).mono ?_
      rintro en w1 ⟨rfl, hB⟩
      have hv : Below w.heap.size w w1 := (((Below.refl _ w).alloc (Nat.le_refl _) _).alloc (by simp) _).trans (hB.mono (by simp; omega))
      have kd : w1.heap[w.heap.size + 1]? = some (.cells #[.int .i64 x, .int .i64 y] 121 (0, 0)) := (hB.block _ (by simp)).trans (al_new _ _ _ (by simp))
      have x0 : w1.cell? ⟨w.heap.size + 1, 0, none⟩ = some (.int .i64 x) := blk_cell kd 0
      have x1 : w1.cell? ⟨w.heap.size + 1, 1, none⟩ = some (.int .i64 y) := blk_cell kd 1
      clear hB a53 kd
      go_wp2_with fail
      refine (a81 _).mono ?_
      rintro en w2 ⟨rfl, hB⟩
      go_wp2
      go_ret2
      exact ⟨RetL_nil _ _, hv.trans (hB.mono hv.size)⟩
    rw [show (decide (0 ≤ y) && decide (y ≤ 4294967295)) = true by simp; omega] at a81
    by_cases hx : 0 ≤ x ∧ x ≤ 1000
    rotate_left
    · have hL : fromNL b l u x y = [] := by unfold fromNL; rw [if_neg (by omega)]
      have hE : fromNE b l u x y = 6 := by unfold fromNE; rw [if_pos hk, if_neg (by omega)]
      rw [hL, hE]
      rw [show (decide (0 ≤ x) && decide (x ≤ 1000)) = false by simp; omega] at b81
      clear hk hL hE hy hx
      go_enter Try.func76, Try.ntmps76
      go_wp2_with fail
      refine (a53 _ (Kd.C_below HR.out (((Below.refl _ w).alloc (Nat.le_refl _) _).alloc (by simp) _))).mono ?_
      rintro en w1 ⟨rfl, hB⟩
      have hv : Below w.heap.size w w1 := (((Below.refl _ w).alloc (Nat.le_refl _) _).alloc (by simp) _).trans (hB.mono (by simp; omega))
      have kd : w1.heap[w.heap.size + 1]? = some (.cells #[.int .i64 x, .int .i64 y] 121 (0, 0)) := (hB.block _ (by simp)).trans (al_new _ _ _ (by simp))
      have x0 : w1.cell? ⟨w.heap.size + 1, 0, none⟩ = some (.int .i64 x) := blk_cell kd 0
      have x1 : w1.cell? ⟨w.heap.size + 1, 1, none⟩ = some (.int .i64 y) := blk_cell kd 1
      clear hB a53 kd
      go_wp2_with fail
      refine (a81 _).mono ?_
      rintro en w2 ⟨rfl, hB⟩
      replace x0 := cell_on hB x0
      replace hv := hv.trans (hB.mono hv.size)
      clear hB
      go_wp2_with fail
      refine (b81 _).mono ?_
      rintro en w3 ⟨rfl, hB⟩
      go_wp2
      go_ret2
      exact ⟨RetL_nil _ _, hv.trans (hB.mono hv.size)⟩
    rw [show (decide (0 ≤ x) && decide (x ≤ 1000)) = true by simp; omega] at b81
    have a74 := fun w h => rFromUnix_calls b u A c l (4294967296 * x + y - 2208988800) w h
    unfold fromUL fromUE at a74
    rw [if_pos hk, if_pos hk] at a74
    have hL : fromNL b l u x y = secsF l u (4294967296 * x + y - 2208988800) := by unfold fromNL; rw [if_pos ⟨hk, by omega⟩, Int.mul_comm]
    have hE : fromNE b l u x y = if secsF l u (4294967296 * x + y - 2208988800) = [] then 4 else 0 := by unfold fromNE; rw [if_pos hk, if_pos (by omega), Int.mul_comm]
    rw [hL, hE]
    generalize (if secsF l u (4294967296 * x + y - 2208988800) = [] then 4 else 0 : Int) = er at *
    generalize secsF l u (4294967296 * x + y - 2208988800) = q at *
    clear hk hL hE
    go_enter Try.func76, Try.ntmps76
    go_wp2_with fail
    obtain ⟨w0, hw0⟩ : ∃ w0, (w.alloc (.cells #[.int .i64 b, .slice A l.length c, .int .i64 u] 90)).alloc (.cells #[.int .i64 x, .int .i64 y] 121) = w0 := ⟨_, rfl⟩
    try rw [hw0]
    have hv : Below w.heap.size w w0 := by rw [← hw0]; exact ((Below.refl _ w).alloc (Nat.le_refl _) _).alloc (by simp) _
    have kx : w0.heap[w.heap.size]? = some (.cells #[.int .i64 b, .slice A l.length c, .int .i64 u] 90 (0, 0)) := by rw [← hw0]; exact al_old (al_new _ _ _ rfl)
    have kd : w0.heap[w.heap.size + 1]? = some (.cells #[.int .i64 x, .int .i64 y] 121 (0, 0)) := by rw [← hw0]; exact al_new _ _ _ (by simp)
    have o0 : w0.cell? ⟨w.heap.size, 0, none⟩ = some (.int .i64 b) := blk_cell kx 0
    have o1 : w0.cell? ⟨w.heap.size, 1, none⟩ = some (.slice A l.length c) := blk_cell kx 1
    have o2 : w0.cell? ⟨w.heap.size, 2, none⟩ = some (.int .i64 u) := blk_cell kx 2
    have x0 : w0.cell? ⟨w.heap.size + 1, 0, none⟩ = some (.int .i64 x) := blk_cell kd 0
    have x1 : w0.cell? ⟨w.heap.size + 1, 1, none⟩ = some (.int .i64 y) := blk_cell kd 1
    clear hw0 kx kd
    refine (a53 _ (Kd.C_below HR.out hv)).mono ?_
    rintro en w1 ⟨rfl, hB⟩
    replace o0 := cell_on hB o0
    replace o1 := cell_on hB o1
    replace o2 := cell_on hB o2
    replace x0 := cell_on hB x0
    replace x1 := cell_on hB x1
    replace hv := hv.trans (hB.mono hv.size)
    clear hB
    go_wp2_with fail
    refine (a81 _).mono ?_
    rintro en w2 ⟨rfl, hB⟩
    replace o0 := cell_on hB o0
    replace o1 := cell_on hB o1
    replace o2 := cell_on hB o2
    replace x0 := cell_on hB x0
    replace x1 := cell_on hB x1
    replace hv := hv.trans (hB.mono hv.size)
    clear hB
    go_wp2_with fail
    refine (b81 _).mono ?_
    rintro en w3 ⟨rfl, hB⟩
    replace o0 := cell_on hB o0
    replace o1 := cell_on hB o1
    replace o2 := cell_on hB o2
    replace x0 := cell_on hB x0
    replace x1 := cell_on hB x1
    replace hv := hv.trans (hB.mono hv.size)
    clear hB
    go_wp2_with fail
    refine (a74 _ (Kd.C_below HR.out hv)).mono ?_
    rintro en w4 ⟨⟨Ad, cc, rfl, hC⟩, hB⟩
    have hv2 := hv.trans (hB.mono hv.size)
    have HF : Aside0 (RetL w4 (.returned (.tuple #[.slice Ad q.length cc, .int .i64 er])) q er) := ⟨Ad, cc, rfl, hC⟩
    clear hC a53 a81 b81 a74
    generalize q.length = n at *
    go_wp2
    go_ret2
    exact ⟨HF.out, hv2⟩
  · have hL : fromNL b l u x y = [] := by unfold fromNL; rw [if_neg (fun h => hk h.1)]
    have hE : fromNE b l u x y = checkF b l u := by unfold fromNE; rw [if_neg hk]
    rw [hL, hE]
    have q1 : (checkF b l u == 0) = false := beq_eq_false_iff_ne.2 hk
    have q2 : (checkF b l u != 0) = true := bne_iff_ne.2 hk
    clear hk hL hE
    generalize checkF b l u = er at *
    go_enter Try.func76, Try.ntmps76
    go_wp2_with fail
    refine (a53 _ (Kd.C_below HR.out (((Below.refl _ w).alloc (Nat.le_refl _) _).alloc (by simp) _))).mono ?_
    rintro en w1 ⟨rfl, hB⟩
    have hv : Below w.heap.size w w1 := (((Below.refl _ w).alloc (Nat.le_refl _) _).alloc (by simp) _).trans (hB.mono (by simp; omega))
    clear hB a53
    go_wp2
    go_ret2
    exact ⟨RetL_nil _ _, hv⟩
end Go.Proofs.Ytleipbanadnchaa.C
