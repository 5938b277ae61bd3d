/- CalendarEncodes' function returns true for every input. -/
import Derived.OwnWalk
import Derived.Test.YtleipbanadnchaaGf
namespace Go.Proofs.Ytleipbanadnchaa.C
open Go.RowKit Go.Shelf Go.Maps Go.Proofs.YtleipbanadnchaaW.PrintWords Go.Proofs.YtleipbanadnchaaW.PrintLast Go.Proofs.YtleipbanadnchaaW.PrintMore
set_option linter.unusedVariables false
set_option linter.unusedSimpArgs false
set_option maxHeartbeats 8000000 in
set_option maxRecDepth 100000 in
theorem calendarEncodes_w.calls (A : Option Addr) (c : Nat) (l : List Int) (wh by_ aw : Int) (w : World) (hr : Kd.C (Kd.int .u8) w A l.length l) (hb : ∀ x ∈ l, 0 ≤ x ∧ x ≤ 255) (hlen : l.length ≤ 9223372036854775807) (hw0 : 0 ≤ wh) (hw1 : wh ≤ 255) (ha0 : 0 ≤ aw) (ha1 : aw ≤ 4294967295) :
    Calls Try.prog 9 #[.slice A l.length c, .int .u8 wh, .int .i64 by_, .int .u32 aw] w fun e w' => e = .returned (.bool true) ∧ Below w.heap.size w w' := by
  have a16 := fun w h => made_calls A c l w h hb hlen
  have HR := Aside0.mk hr
  clear hr hb hlen
  go_enter Try.func9, Try.ntmps9
  go_wp2_with fail
  refine (a16 _ HR.out).mono ?_
  rintro en w1 ⟨⟨b, u, A1, c1, L, rfl, hk, hL, hC⟩, hv⟩
  clear a16 HR
  have hld := last_day hk
  have hbu := beginU hk
  have a17 := fun w h => Total_calls b u A1 c1 L w h
  unfold totalR at a17
  rw [if_pos hk] at a17
  obtain ⟨tot, htot⟩ : ∃ tot, beginF L u = tot := ⟨_, rfl⟩
  rw [htot] at hld hbu a17
  have HK := Aside0.mk hk
  have HT := Aside0.mk htot
  have ht1 : 1 ≤ tot := hld.1
  have ht2 := hbu.2
  have ht3 : tot ≤ 4039372900 := by
    obtain ⟨h1, h2, h3, h4, h5, h6⟩ := checkF_right hk
    have hgb := h6.take L.length u
    rw [List.take_length] at hgb
    rw [← htot]
    unfold beginF; omega
  have a18 := fun by_ w h => near_calls b u A1 c1 L tot wh by_ w h hk ht1 ht2 hw0 hw1
  clear hk hbu htot hld
  simp only at a17
  go_wp2_with fail
  obtain ⟨w2, hw2⟩ : ∃ w2, w1.alloc (.cells #[.int .i64 b, .slice A1 L.length c1, .int .i64 u] 28) = w2 := ⟨_, rfl⟩
  try rw [hw2]
  have hB : Below w1.heap.size w1 w2 := by rw [← hw2]; exact (Below.refl _ w1).alloc (Nat.le_refl _) _
  have kx : w2.heap[w1.heap.size]? = some (.cells #[.int .i64 b, .slice A1 L.length c1, .int .i64 u] 28 (0, 0)) := by rw [← hw2]; exact al_new _ _ _ rfl
  have o0 : w2.cell? ⟨w1.heap.size, 0, none⟩ = some (.int .i64 b) := blk_cell kx 0
  have o1 : w2.cell? ⟨w1.heap.size, 1, none⟩ = some (.slice A1 L.length c1) := blk_cell kx 1
  have o2 : w2.cell? ⟨w1.heap.size, 2, none⟩ = some (.int .i64 u) := blk_cell kx 2
  replace hC := Kd.C_below hC hB
  replace hv := hv.trans (hB.mono hv.size)
  clear hB hw2 kx
  go_wp2_with fail
  refine (a17 _ hC).mono ?_
  rintro en w3 ⟨rfl, hB⟩
  replace o0 := cell_on hB o0
  replace o1 := cell_on hB o1
  replace o2 := cell_on hB o2
  replace hC := Kd.C_below hC hB
  replace hv := hv.trans (hB.mono hv.size)
  clear hB a17
  have dt : decide (tot < 1) = false := decide_eq_false (by omega)
  go_wp2_with fail
  refine (a18 by_ _ hC).mono ?_
  rintro en w4 ⟨⟨r, rfl, hr0, hr1⟩, hB⟩
  replace o0 := cell_on hB o0
  replace o1 := cell_on hB o1
  replace o2 := cell_on hB o2
  replace hC := Kd.C_below hC hB
  replace hv := hv.trans (hB.mono hv.size)
  clear hB a18 dt
  obtain ⟨eA, D, hD⟩ := askE_in (s := r) HK.out hr0 (by rw [HT.out]; omega)
  have hR := (checkF_right HK.out).2.2.2.2.2
  have hu := (checkF_right HK.out).2.2.2.1
  have hub := unixF_bound hR hu hD
  have a28 := fun w h => Unix_ok b u A1 c1 L r D w h eA hD
  obtain ⟨U, hU⟩ : ∃ U, unixF L r D = U := ⟨_, rfl⟩
  have hmem : r ∈ secsF L u U := (mem_secs hR hu hD).2 hU
  have hall : ∀ k E, IsDay L u k E → ((secsF L u U).contains k = (unixF L k E == U)) := fun k E hE => by
    rw [Bool.eq_iff_iff, List.contains_iff_mem, beq_iff_eq]
    exact mem_secs hR hu hE
  have hnone : ∀ k, ¬ (0 ≤ k ∧ k < tot) → (secsF L u U).contains k = false := fun k hk => by
    rw [Bool.eq_false_iff]
    intro h
    exact hk (by have := secs_known hR (by rw [hR.first]; decide) (List.contains_iff_mem.1 h); rw [HT.out] at this; exact this)
  have HALL := Aside0.mk hall
  have HNONE := Aside0.mk hnone
  have hQl := secs_len L u U
  have hqn : secsF L u U ≠ [] := List.ne_nil_of_mem hmem
  have hqc : (secsF L u U).contains r = true := List.contains_iff_mem.2 hmem
  have a32 := fun w h => FromUnix_calls b u A1 c1 L U w h
  have a33 := fun w h => ToNtp_ok b u A1 c1 L r D w h eA hD
  have a34 := fun x y w h => FromNtp_calls b u A1 c1 L x y w h
  unfold fromUL fromUE at a32
  rw [if_pos HK.out, if_pos HK.out, if_neg hqn] at a32
  rw [hU] at a28 a33 hub
  obtain ⟨era, hera⟩ : ∃ era, (U + 2208988800) / 4294967296 = era := ⟨_, rfl⟩
  obtain ⟨sec, hsec⟩ : ∃ sec, (U + 2208988800) % 4294967296 = sec := ⟨_, rfl⟩
  rw [hera, hsec] at a33
  have hes : era * 4294967296 + sec - 2208988800 = U ∧ 0 ≤ era ∧ era ≤ 1000 ∧ 0 ≤ sec ∧ sec ≤ 4294967295 := by omega
  replace a34 := a34 era sec
  unfold fromNL fromNE at a34
  rw [if_pos ⟨HK.out, by omega⟩, if_pos HK.out, if_pos (by omega), hes.1, if_neg hqn] at a34
  have a37 := fun w h => ToGps_calls b u A1 c1 L r w h
  have HEA := Aside0.mk eA
  have hgz := gps_early (s := r) HK.out (by rw [HT.out]; omega)
  have hgb : ∀ near, ¬ (gpsF L u < 0 ∨ r < gpsF L u) → -300000000 ≤ near - r → near - r ≤ 300000000 → fromGB L u ((r - gpsF L u) / 604800 % 1024) ((r - gpsF L u) % 604800) near = r := fun near hz h2 h3 => gps_back HK.out hz (by rw [HT.out]; omega) h2 h3 (by rw [HT.out]; omega)
  have HGB := Aside0.mk hgb
  have HGZ := Aside0.mk hgz
  clear hgb hgz hera hsec hmem hall hnone hqn hU eA hR
  generalize secsF L u U = Q at *
  have HQ := Aside0.mk hqc
  have HQl := Aside0.mk hQl
  clear hqc
  go_wp2_with fail
  refine (a28 _ hC).mono ?_
  rintro en w5 ⟨rfl, hB⟩
  replace o0 := cell_on hB o0
  replace o1 := cell_on hB o1
  replace o2 := cell_on hB o2
  replace hC := Kd.C_below hC hB
  replace hv := hv.trans (hB.mono hv.size)
  clear hB a28
  go_wp2_with fail
  refine (a32 _ hC).mono ?_
  rintro en w6 ⟨⟨Q1, cq1, rfl, hQ1⟩, hB⟩
  replace o0 := cell_on hB o0
  replace o1 := cell_on hB o1
  replace o2 := cell_on hB o2
  replace hC := Kd.C_below hC hB
  replace hv := hv.trans (hB.mono hv.size)
  clear hB a32
  go_wp2_with fail
  refine (a33 _ hC).mono ?_
  rintro en w7 ⟨rfl, hB⟩
  replace o0 := cell_on hB o0
  replace o1 := cell_on hB o1
  replace o2 := cell_on hB o2
  replace hC := Kd.C_below hC hB
  replace hQ1 := Kd.C_below hQ1 hB
  replace hv := hv.trans (hB.mono hv.size)
  clear hB a33
  have hz0 : w1.heap.size < w7.heap.size := World.block_lt_of_cell? _ _ o0
  go_wp2_with fail
  obtain ⟨w8, hw8⟩ : ∃ w8, w7.alloc (.cells #[.int .i64 era, .int .i64 sec] 52) = w8 := ⟨_, rfl⟩
  try rw [hw8]
  have hB : Below w7.heap.size w7 w8 := by rw [← hw8]; exact (Below.refl _ w7).alloc (Nat.le_refl _) _
  have kx : w8.heap[w7.heap.size]? = some (.cells #[.int .i64 era, .int .i64 sec] 52 (0, 0)) := by rw [← hw8]; exact al_new _ _ _ rfl
  replace o0 := cell_on hB o0
  replace o1 := cell_on hB o1
  replace o2 := cell_on hB o2
  replace hC := Kd.C_below hC hB
  replace hQ1 := Kd.C_below hQ1 hB
  replace hv := hv.trans (hB.mono hv.size)
  have x0 : w8.cell? ⟨w7.heap.size, 0, none⟩ = some (.int .i64 era) := blk_cell kx 0
  have x1 : w8.cell? ⟨w7.heap.size, 1, none⟩ = some (.int .i64 sec) := blk_cell kx 1
  clear hB hw8 kx hz0
  refine (a34 _ hC).mono ?_
  rintro en w9 ⟨⟨Q2, cq2, rfl, hQ2⟩, hB⟩
  replace o0 := cell_on hB o0
  replace o1 := cell_on hB o1
  replace o2 := cell_on hB o2
  replace x0 := cell_on hB x0
  replace x1 := cell_on hB x1
  replace hC := Kd.C_below hC hB
  replace hQ1 := Kd.C_below hQ1 hB
  replace hv := hv.trans (hB.mono hv.size)
  clear hB a34
  have q35 := equal_calls Q1 Q2 cq1 cq2 Q Q w9 hQ1 hQ2 (by omega) (by omega)
  rw [show decide (Q = Q) = true by simp] at q35
  have a36 := fun k w h => contains_calls Q1 cq1 Q k w h (by omega)
  clear hQ2
  have hes1 := hes.1
  have qe : (era * 4294967296 + sec - 2208988800 == U) = true := beq_iff_eq.2 hes.1
  have qe2 : (era * 4294967296 + sec - 2208988800 != U) = false := by rw [bne, qe]; rfl
  have hes2 := hes.2
  clear hes hes1
  go_wp2_with fail
  refine q35.mono ?_
  rintro en w10 ⟨rfl, hB⟩
  replace o0 := cell_on hB o0
  replace o1 := cell_on hB o1
  replace o2 := cell_on hB o2
  replace x0 := cell_on hB x0
  replace x1 := cell_on hB x1
  replace hC := Kd.C_below hC hB
  replace hQ1 := Kd.C_below hQ1 hB
  replace hv := hv.trans (hB.mono hv.size)
  clear hB q35
  have b36 := fun w h => a36 r w h
  rw [HQ.out] at b36
  go_wp2_with fail
  refine (b36 _ hQ1).mono ?_
  rintro en w11 ⟨rfl, hB⟩
  replace o0 := cell_on hB o0
  replace o1 := cell_on hB o1
  replace o2 := cell_on hB o2
  replace x0 := cell_on hB x0
  replace x1 := cell_on hB x1
  replace hC := Kd.C_below hC hB
  replace hQ1 := Kd.C_below hQ1 hB
  replace hv := hv.trans (hB.mono hv.size)
  clear hB b36
  go_wp2_with fail
  clear qe qe2
  go_loopw [20] (fun v20 wr => ∃ i : Nat, i ≤ 7 ∧ v20 = .int .i64 (r - 3 + i) ∧ Aside0 (Below w11.heap.size w11 wr)) (fun v _ => (r + 4 - intOf v).toNat)
  case atStart => exact ⟨0, by omega, by go_num, ⟨Below.refl _ _⟩⟩
  case round =>
    obtain ⟨i, hi, rfl, HW⟩ := hrel
    obtain ⟨k, hk⟩ : ∃ k, r - 3 + (i : Int) = k := ⟨_, rfl⟩
    rw [hk]
    have hB := HW.out
    replace o0 := cell_on hB o0
    replace o1 := cell_on hB o1
    replace o2 := cell_on hB o2
    replace x0 := cell_on hB x0
    replace x1 := cell_on hB x1
    replace hC := Kd.C_below hC hB
    replace hQ1 := Kd.C_below hQ1 hB
    replace hv := hv.trans (hB.mono hv.size)
    clear hB
    by_cases hi7 : i < 7
    · have d1 : decide (k ≤ r + 3) = true := decide_eq_true (by omega)
      have b36 := fun w h => a36 k w h
      by_cases hin : 0 ≤ k ∧ k < tot
      · obtain ⟨eK, E, hE⟩ := askE_in (s := k) HK.out hin.1 (by rw [HT.out]; omega)
        have b28 := Unix_ok b u A1 c1 L k E wr hC eK hE
        rw [HALL.out k E hE] at b36
        have hvb := unixF_bound (checkF_right HK.out).2.2.2.2.2 hu hE
        generalize unixF L k E = V at *
        clear hin eK hE
        cases hVU : (V == U)
        all_goals
          rw [hVU] at b36
          go_wp2_with fail
          refine (b28).mono ?_
          rintro en w20 ⟨rfl, hB⟩
          replace hQ1 := Kd.C_below hQ1 hB
          have hV := HW.out.trans (hB.mono HW.out.size)
          clear hB
          go_wp2_with fail
          refine (b36 _ hQ1).mono ?_
          rintro en w21 ⟨rfl, hB⟩
          have HV := Aside0.mk (hV.trans (hB.mono hV.size))
          clear hB hV b36 hQ1 o0 o1 o2 x0 x1 hC
          go_wp2
          go_roundw
          case rel => exact ⟨i + 1, by omega, by go_num, HV⟩
          case measure => simp [intOf]; omega
      · have hkn : askE b L u k ≠ 0 := fun h => hin (by have := knowsB_iff.1 (askE_zero h).2; rw [HT.out] at this; exact this)
        have b28 := Unix_err b u A1 c1 L k wr hC hkn
        rw [HNONE.out k hin] at b36
        have q1 : (askE b L u k == 0) = false := beq_eq_false_iff_ne.2 hkn
        generalize askE b L u k = er at *
        clear hin
        go_wp2_with fail
        refine (b28).mono ?_
        rintro en w20 ⟨rfl, hB⟩
        replace hQ1 := Kd.C_below hQ1 hB
        have hV := HW.out.trans (hB.mono HW.out.size)
        clear hB
        go_wp2_with fail
        refine (b36 _ hQ1).mono ?_
        rintro en w21 ⟨rfl, hB⟩
        have HV := Aside0.mk (hV.trans (hB.mono hV.size))
        clear hB hV b36 hQ1 o0 o1 o2 x0 x1 hC
        go_wp2
        go_roundw
        case rel => exact ⟨i + 1, by omega, by go_num, HV⟩
        case measure => simp [intOf]; omega
    · obtain rfl : i = 7 := by omega
      have d1 : decide (k ≤ r + 3) = false := decide_eq_false (by omega)
      have d2 : decide (2 < (Q.length : Int)) = false := decide_eq_false (by omega)
      have d3 : decide (2 < Q.length) = false := decide_eq_false (by omega)
      clear hQ1 HALL HNONE x0 x1
      by_cases hz : gpsF L u < 0 ∨ r < gpsF L u
      · have hE4 : gpsE b L u r = 4 := by unfold gpsE; rw [if_pos HEA.out, if_pos hz]
        rw [hE4, if_neg (by omega), if_neg (by omega)] at a37
        have hrl := HGZ.out hz
        have d4 : decide (r < 252892900) = true := decide_eq_true hrl
        clear hE4 hz
        go_wp2_with fail
        refine (a37 _ hC).mono ?_
        rintro en w20 ⟨rfl, hB⟩
        replace hv := hv.trans (hB.mono hv.size)
        clear hB o0 o1 o2
        go_wp2_with fail
        refine (awake_calls _).mono ?_
        rintro en w21 ⟨rfl, hB⟩
        go_wp2
        go_ret
        exact ⟨rfl, (hv.alloc hv.size _).trans (hB.mono (by have := hv.size; simp; omega))⟩
      · have hE4 : gpsE b L u r = 0 := by unfold gpsE; rw [if_pos HEA.out, if_neg hz]
        rw [hE4, if_pos rfl, if_pos rfl] at a37
        have hbk := HGB.out (r + aw % 600000000 - 300000000) hz (by omega) (by omega)
        have a38 := fun w h => FromGps_main b u A1 c1 L ((r - gpsF L u) / 604800 % 1024) ((r - gpsF L u) % 604800) (r + aw % 600000000 - 300000000) w h HK.out (by omega) (by omega) (by omega)
        rw [hbk, if_neg (by omega), if_neg (by omega)] at a38
        obtain ⟨gw, hgw⟩ : ∃ gw, (r - gpsF L u) / 604800 % 1024 = gw := ⟨_, rfl⟩
        obtain ⟨gs, hgs⟩ : ∃ gs, (r - gpsF L u) % 604800 = gs := ⟨_, rfl⟩
        rw [hgw, hgs] at a37 a38
        clear hE4 hz hgw hgs hbk
        go_wp2_with fail
        refine (a37 _ hC).mono ?_
        rintro en w20 ⟨rfl, hB⟩
        replace o0 := cell_on hB o0
        replace o1 := cell_on hB o1
        replace o2 := cell_on hB o2
        replace hC := Kd.C_below hC hB
        replace hv := hv.trans (hB.mono hv.size)
        clear hB a37
        have hz0 : w1.heap.size < w20.heap.size := World.block_lt_of_cell? _ _ o0
        go_wp2_with fail
        obtain ⟨w22, hw8⟩ : ∃ w8, w20.alloc (.cells #[.int .i64 gw, .int .i64 gs] 54) = w8 := ⟨_, rfl⟩
        try rw [hw8]
        have hB : Below w20.heap.size w20 w22 := by rw [← hw8]; exact (Below.refl _ w20).alloc (Nat.le_refl _) _
        have kx : w22.heap[w20.heap.size]? = some (.cells #[.int .i64 gw, .int .i64 gs] 54 (0, 0)) := by rw [← hw8]; exact al_new _ _ _ rfl
        replace o0 := cell_on hB o0
        replace o1 := cell_on hB o1
        replace o2 := cell_on hB o2
        replace hC := Kd.C_below hC hB
        replace hv := hv.trans (hB.mono hv.size)
        clear hB hw8 kx hz0
        refine (a38 _ hC).mono ?_
        rintro en w23 ⟨rfl, hB⟩
        replace hv := hv.trans (hB.mono hv.size)
        clear hB o0 o1 o2 a38
        go_wp2_with fail
        refine (awake_calls _).mono ?_
        rintro en w21 ⟨rfl, hB⟩
        go_wp2
        go_ret
        exact ⟨rfl, hv.trans (hB.mono hv.size)⟩
end Go.Proofs.Ytleipbanadnchaa.C
