/- CalendarOffsets' function returns true for every input. -/
import Derived.OwnWalk
import Derived.Test.YtleipbanadnchaaFf
import Derived.Test.YtleipbanadnchaaGa
namespace Go.Proofs.Ytleipbanadnchaa.C
open Go.RowKit Go.Shelf Go.Maps Go.Proofs.YtleipbanadnchaaW.PrintWords Go.Proofs.YtleipbanadnchaaW.PrintLast Go.Proofs.YtleipbanadnchaaW.PrintMore
set_option linter.unusedVariables false
set_option linter.unusedSimpArgs false
set_option maxHeartbeats 8000000 in
set_option maxRecDepth 100000 in
theorem calendarOffsets_w.calls (A : Option Addr) (c : Nat) (l : List Int) (wh by_ : Int) (w : World) (hr : Kd.C (Kd.int .u8) w A l.length l) (hb : ∀ x ∈ l, 0 ≤ x ∧ x ≤ 255) (hlen : l.length ≤ 9223372036854775807) (hw0 : 0 ≤ wh) (hw1 : wh ≤ 255) :
    Calls Try.prog 8 #[.slice A l.length c, .int .u8 wh, .int .i64 by_] w fun e w' => e = .returned (.bool true) ∧ Below w.heap.size w w' := by
  have a16 := fun w h => made_calls A c l w h hb hlen
  have HR := Aside0.mk hr
  clear hr hb hlen
  go_enter Try.func8, Try.ntmps8
  go_wp2_with fail
  refine (a16 _ HR.out).mono ?_
  rintro en w1 ⟨⟨b, u, A1, c1, L, rfl, hk, hL, hC⟩, hv⟩
  clear a16 HR
  have hld := last_day hk
  have hbu := beginU hk
  have a17 := fun w h => Total_calls b u A1 c1 L w h
  unfold totalR at a17
  rw [if_pos hk] at a17
  obtain ⟨tot, htot⟩ : ∃ tot, beginF L u = tot := ⟨_, rfl⟩
  rw [htot] at hld hbu a17
  have HK := Aside0.mk hk
  have HT := Aside0.mk htot
  have ht1 : 1 ≤ tot := hld.1
  have ht2 := hbu.2
  have a18 := fun by_ w h => near_calls b u A1 c1 L tot wh by_ w h hk ht1 ht2 hw0 hw1
  clear hk hbu htot hld
  simp only at a17
  go_wp2_with fail
  obtain ⟨w2, hw2⟩ : ∃ w2, w1.alloc (.cells #[.int .i64 b, .slice A1 L.length c1, .int .i64 u] 28) = w2 := ⟨_, rfl⟩
  try rw [hw2]
  have hB : Below w1.heap.size w1 w2 := by rw [← hw2]; exact (Below.refl _ w1).alloc (Nat.le_refl _) _
  have kx : w2.heap[w1.heap.size]? = some (.cells #[.int .i64 b, .slice A1 L.length c1, .int .i64 u] 28 (0, 0)) := by rw [← hw2]; exact al_new _ _ _ rfl
  have o0 : w2.cell? ⟨w1.heap.size, 0, none⟩ = some (.int .i64 b) := blk_cell kx 0
  have o1 : w2.cell? ⟨w1.heap.size, 1, none⟩ = some (.slice A1 L.length c1) := blk_cell kx 1
  have o2 : w2.cell? ⟨w1.heap.size, 2, none⟩ = some (.int .i64 u) := blk_cell kx 2
  replace hC := Kd.C_below hC hB
  replace hv := hv.trans (hB.mono hv.size)
  clear hB hw2 kx
  refine (a17 _ hC).mono ?_
  rintro en w3 ⟨rfl, hB⟩
  replace o0 := cell_on hB o0
  replace o1 := cell_on hB o1
  replace o2 := cell_on hB o2
  replace hC := Kd.C_below hC hB
  replace hv := hv.trans (hB.mono hv.size)
  clear hB a17
  have dt : decide (tot < 1) = false := decide_eq_false (by omega)
  go_wp2_with fail
  refine (a18 by_ _ hC).mono ?_
  rintro en w4 ⟨⟨r, rfl, hr0, hr1⟩, hB⟩
  replace o0 := cell_on hB o0
  replace o1 := cell_on hB o1
  replace o2 := cell_on hB o2
  replace hC := Kd.C_below hC hB
  replace hv := hv.trans (hB.mono hv.size)
  clear hB a18 dt
  obtain ⟨eA, D, hD⟩ := askE_in (s := r) HK.out hr0 (by rw [HT.out]; omega)
  have hR := (checkF_right HK.out).2.2.2.2.2
  have hu := (checkF_right HK.out).2.2.2.1
  have hu0 := (checkF_right HK.out).2.2.1
  have hb0 := (checkF_right HK.out).1
  have hb1 := (checkF_right HK.out).2.1
  have hD0 := hD.d0
  have hD1 := hD.d1
  have hok := hD.ok hu
  have a19 := fun w h => Dates_ok b u A1 c1 L r D w h eA hD
  have a26 := fun w => day_calls (cY D) (cM D) (cD D) w
  unfold dayV dayE at a26
  rw [hok.1, if_pos rfl, if_pos rfl, hok.2] at a26
  have a27 := fun w h => Offset_calls b u A1 c1 L D w h
  have b27 := fun w h => Offset_calls b u A1 c1 L (D + 1) w h
  have a31 := fun w h => Length_calls b u A1 c1 L D w h
  unfold lengthR at a31
  unfold offsetR at a27 b27
  rw [if_pos HK.out, if_pos ⟨hD0, by omega⟩] at a31
  rw [if_pos HK.out, if_pos ⟨hD0, by omega⟩] at a27
  rw [if_pos HK.out] at b27
  have a24 := fun w h => Atomic_calls b u A1 c1 L r w h
  unfold atomicR at a24
  rw [if_pos eA] at a24
  have a28 := fun w h => Unix_ok b u A1 c1 L r D w h eA hD
  have a29 := fun w h => Announced_ok b u A1 c1 L r D w h eA hD
  have hgs := grown_step (u := u) hR.rising D
  have hgb := hR.take L.length D
  rw [List.take_length] at hgb
  have hsb := step_bound D L (fun x hx => (hR.steps x hx).1)
  have hwant := lastP_month HK.out (check_me HK.out) hD0 (by omega)
  have hstep := lastP_day hR.rising D
  have HST := Aside0.mk hR.steps
  have hoff : r + b - (unixF L r D - 63072000) = b + grownF L D := by unfold unixF beginF; omega
  have hub : -100000000000000 ≤ unixF L r D ∧ unixF L r D ≤ 100000000000000 := by
    have hcl := hD.clock hR
    unfold unixF; omega
  clear hok hD eA hR
  simp only at a27 a31 a24
  rw [← hwant] at a29
  rw [← hstep] at a31
  rw [hgs, ← hstep] at b27
  rw [← hstep] at hsb
  generalize unixF L r D = U at *
  generalize grownF L D = g at *
  generalize ckH (r - beginF L D) = p3 at *
  generalize ckM (r - beginF L D) = p4 at *
  generalize ckS (r - beginF L D) = p5 at *
  have HW0 := Aside0.mk (show ∃ z, lastP (fun x => decide (cY x.1 = cY D) && decide (cM x.1 = cM D)) L = z from ⟨_, rfl⟩)
  obtain ⟨Pm, hPm⟩ : ∃ Pm : Int × Int → Bool, (fun x : Int × Int => decide (cY x.1 = cY D) && decide (cM x.1 = cM D)) = Pm := ⟨_, rfl⟩
  have HPm := Aside0.mk (show ∀ x : Int × Int, Pm x = (decide (cY x.1 = cY D) && decide (cM x.1 = cM D)) from fun x => by rw [← hPm])
  rw [hPm] at a29
  clear hPm HW0 hwant hstep hgs
  obtain ⟨Pd, hPd⟩ : ∃ Pd : Int × Int → Bool, (fun x : Int × Int => decide (x.1 = D)) = Pd := ⟨_, rfl⟩
  have HPd := Aside0.mk (show ∀ x : Int × Int, Pd x = decide (x.1 = D) from fun x => by rw [← hPd])
  rw [hPd] at a31 b27 hsb
  clear hPd
  obtain ⟨want, hw⟩ : ∃ want, lastP Pm L = want := ⟨_, rfl⟩
  obtain ⟨st, hs⟩ : ∃ st, lastP Pd L = st := ⟨_, rfl⟩
  rw [hw] at a29
  rw [hs] at a31 b27 hsb
  have HWW := Aside0.mk hw
  have HSS := Aside0.mk hs
  clear hw hs
  generalize cY D = p0 at *
  generalize cM D = p1 at *
  generalize cD D = p2 at *
  go_wp2_with fail
  refine (a19 _ hC).mono ?_
  rintro en w5 ⟨rfl, hB⟩
  replace o0 := cell_on hB o0
  replace o1 := cell_on hB o1
  replace o2 := cell_on hB o2
  replace hC := Kd.C_below hC hB
  replace hv := hv.trans (hB.mono hv.size)
  clear hB a19
  have hz0 : w1.heap.size < w5.heap.size := World.block_lt_of_cell? _ _ o0
  go_wp2_with fail
  obtain ⟨w6, hw6⟩ : ∃ w6, w5.alloc (.cells #[.int .i64 p0, .int .i64 p1, .int .i64 p2, .int .i64 p3, .int .i64 p4, .int .i64 p5] 30) = w6 := ⟨_, rfl⟩
  try rw [hw6]
  have hB : Below w5.heap.size w5 w6 := by rw [← hw6]; exact (Below.refl _ w5).alloc (Nat.le_refl _) _
  have kx : w6.heap[w5.heap.size]? = some (.cells #[.int .i64 p0, .int .i64 p1, .int .i64 p2, .int .i64 p3, .int .i64 p4, .int .i64 p5] 30 (0, 0)) := by rw [← hw6]; exact al_new _ _ _ rfl
  replace o0 := cell_on hB o0
  replace o1 := cell_on hB o1
  replace o2 := cell_on hB o2
  replace hC := Kd.C_below hC hB
  replace hv := hv.trans (hB.mono hv.size)
  have x0 : w6.cell? ⟨w5.heap.size, 0, none⟩ = some (.int .i64 p0) := blk_cell kx 0
  have x1 : w6.cell? ⟨w5.heap.size, 1, none⟩ = some (.int .i64 p1) := blk_cell kx 1
  have x2 : w6.cell? ⟨w5.heap.size, 2, none⟩ = some (.int .i64 p2) := blk_cell kx 2
  have x3 : w6.cell? ⟨w5.heap.size, 3, none⟩ = some (.int .i64 p3) := blk_cell kx 3
  have x4 : w6.cell? ⟨w5.heap.size, 4, none⟩ = some (.int .i64 p4) := blk_cell kx 4
  have x5 : w6.cell? ⟨w5.heap.size, 5, none⟩ = some (.int .i64 p5) := blk_cell kx 5
  clear hB hw6 kx hz0
  refine (a26 _).mono ?_
  rintro en w7 ⟨rfl, hB⟩
  replace o0 := cell_on hB o0
  replace o1 := cell_on hB o1
  replace o2 := cell_on hB o2
  replace x0 := cell_on hB x0
  replace x1 := cell_on hB x1
  replace x2 := cell_on hB x2
  replace x3 := cell_on hB x3
  replace x4 := cell_on hB x4
  replace x5 := cell_on hB x5
  replace hC := Kd.C_below hC hB
  replace hv := hv.trans (hB.mono hv.size)
  clear hB a26
  go_wp2_with fail
  refine (a27 _ hC).mono ?_
  rintro en w8 ⟨rfl, hB⟩
  replace o0 := cell_on hB o0
  replace o1 := cell_on hB o1
  replace o2 := cell_on hB o2
  replace x0 := cell_on hB x0
  replace x1 := cell_on hB x1
  replace x2 := cell_on hB x2
  replace x3 := cell_on hB x3
  replace x4 := cell_on hB x4
  replace x5 := cell_on hB x5
  replace hC := Kd.C_below hC hB
  replace hv := hv.trans (hB.mono hv.size)
  clear hB a27
  go_wp2_with fail
  refine (a24 _ hC).mono ?_
  rintro en w9 ⟨rfl, hB⟩
  replace o0 := cell_on hB o0
  replace o1 := cell_on hB o1
  replace o2 := cell_on hB o2
  replace x0 := cell_on hB x0
  replace x1 := cell_on hB x1
  replace x2 := cell_on hB x2
  replace x3 := cell_on hB x3
  replace x4 := cell_on hB x4
  replace x5 := cell_on hB x5
  replace hC := Kd.C_below hC hB
  replace hv := hv.trans (hB.mono hv.size)
  clear hB a24
  go_wp2_with fail
  refine (a28 _ hC).mono ?_
  rintro en w10 ⟨rfl, hB⟩
  replace o0 := cell_on hB o0
  replace o1 := cell_on hB o1
  replace o2 := cell_on hB o2
  replace x0 := cell_on hB x0
  replace x1 := cell_on hB x1
  replace x2 := cell_on hB x2
  replace x3 := cell_on hB x3
  replace x4 := cell_on hB x4
  replace x5 := cell_on hB x5
  replace hC := Kd.C_below hC hB
  replace hv := hv.trans (hB.mono hv.size)
  clear hB a28
  go_wp2_with fail
  refine (a29 _ hC).mono ?_
  rintro en w11 ⟨rfl, hB⟩
  replace o0 := cell_on hB o0
  replace o1 := cell_on hB o1
  replace o2 := cell_on hB o2
  replace x0 := cell_on hB x0
  replace x1 := cell_on hB x1
  replace x2 := cell_on hB x2
  replace x3 := cell_on hB x3
  replace x4 := cell_on hB x4
  replace x5 := cell_on hB x5
  replace hC := Kd.C_below hC hB
  replace hv := hv.trans (hB.mono hv.size)
  clear hB a29
  have q1 : ((r + b - (U - 63072000)) == (b + g)) = true := beq_iff_eq.2 hoff
  have q2 : ((r + b - (U - 63072000)) != (b + g)) = false := by rw [bne, q1]; rfl
  clear hoff
  go_wp2_with fail
  clear q1 q2
  go_loopw [125, 22] (fun v125 v22 wr => ∃ i : Nat, i ≤ L.length ∧ v125 = .int .i64 i ∧ v22 = .int .i64 (lastP Pm (L.take i)) ∧ Aside0 (Below w11.heap.size w11 wr)) (fun v _ _ => L.length - (intOf v).toNat)
  case atStart => exact ⟨0, by omega, rfl, rfl, ⟨Below.refl _ _⟩⟩
  case round =>
    obtain ⟨i, hi, rfl, rfl, HW⟩ := hrel
    have y0 := cell_on HW.out x0
    have y1 := cell_on HW.out x1
    by_cases hlt : i < L.length
    · obtain ⟨ad, rfl, hc0, hc1⟩ := C_leap (Kd.C_below hC HW.out) i hlt hlt
      have hst := HST.out L[i] (List.getElem_mem _)
      have HS := Aside0.mk (lastP_take Pm hlt)
      have HP := Aside0.mk (HPm.out L[i])
      generalize L[i] = x at *
      obtain ⟨xd, xs⟩ := x
      simp only at hst hc0 hc1 HS HP
      have d1 : decide ((i : Int) < (L.length : Int)) = true := decide_eq_true (by omega)
      have a30 := fun w => Civil_calls xd w
      unfold kv ke at a30
      rw [knownB_iff.2 ⟨hst.2.1, by omega⟩, if_pos rfl, if_pos rfl, if_pos rfl, if_pos rfl] at a30
      generalize cY xd = cy at *
      generalize cM xd = cm at *
      generalize cD xd = cd at *
      generalize lastP Pm (L.take i) = acc at *
      have hbe0 : ∀ bb, decide (cy = p0) = bb → ((cy == p0) : Bool) = bb := fun bb h => by rw [← h]; by_cases e : cy = p0 <;> simp [e]
      have hbe1 : ∀ bb, decide (cm = p1) = bb → ((cm == p1) : Bool) = bb := fun bb h => by rw [← h]; by_cases e : cm = p1 <;> simp [e]
      cases h0 : decide (cy = p0)
      · have e0 := hbe0 _ h0
        have HN : Aside0 (lastP Pm (L.take (i + 1)) = acc) := ⟨by rw [HS.out, HP.out, h0]; rfl⟩
        clear h0 hbe0 hbe1
        go_wp2_with fail
        refine (a30 _).mono ?_
        rintro en w20 ⟨rfl, hB⟩
        have hvB : Below w11.heap.size w11 w20 := (HW.out.alloc HW.out.size _).trans (hB.mono (by have := HW.out.size; simp; omega))
        have z0 := cell_on hvB x0
        have z1 := cell_on hvB x1
        have HV := Aside0.mk hvB
        clear hvB hB y0 y1
        go_wp2
        go_roundw
        case rel => exact ⟨i + 1, by omega, by go_num, by rw [HN.out], HV⟩
        case measure => simp [intOf]; omega
      · have e0 := hbe0 _ h0
        cases h1 : decide (cm = p1)
        · have e1 := hbe1 _ h1
          have HN : Aside0 (lastP Pm (L.take (i + 1)) = acc) := ⟨by rw [HS.out, HP.out, h0, h1]; rfl⟩
          clear h0 h1 hbe0 hbe1
          go_wp2_with fail
          refine (a30 _).mono ?_
          rintro en w20 ⟨rfl, hB⟩
          have hvB : Below w11.heap.size w11 w20 := (HW.out.alloc HW.out.size _).trans (hB.mono (by have := HW.out.size; simp; omega))
          have z0 := cell_on hvB x0
          have z1 := cell_on hvB x1
          have HV := Aside0.mk hvB
          clear hvB hB y0 y1
          go_wp2
          go_roundw
          case rel => exact ⟨i + 1, by omega, by go_num, by rw [HN.out], HV⟩
          case measure => simp [intOf]; omega
        · have e1 := hbe1 _ h1
          have HN : Aside0 (lastP Pm (L.take (i + 1)) = xs) := ⟨by rw [HS.out, HP.out, h0, h1]; rfl⟩
          clear h0 h1 hbe0 hbe1
          go_wp2_with fail
          refine (a30 _).mono ?_
          rintro en w20 ⟨rfl, hB⟩
          have hvB : Below w11.heap.size w11 w20 := (HW.out.alloc HW.out.size _).trans (hB.mono (by have := HW.out.size; simp; omega))
          have z0 := cell_on hvB x0
          have z1 := cell_on hvB x1
          have k24 : w20.heap[wr.heap.size]? = some (.cells #[.int .i64 xd, .int .i64 xs] 45 (0, 0)) := (hB.block _ (by simp)).trans (al_new _ _ _ rfl)
          have m1 : w20.cell? ⟨wr.heap.size, 1, none⟩ = some (.int .i64 xs) := blk_cell k24 1
          have HV := Aside0.mk hvB
          clear hvB hB y0 y1 k24
          go_wp2
          go_roundw
          case rel => exact ⟨i + 1, by omega, by go_num, by rw [HN.out], HV⟩
          case measure => simp [intOf]; omega
    · obtain rfl : i = L.length := by omega
      have hz : lastP Pm (L.take L.length) = want := by rw [List.take_length]; exact HWW.out
      rw [hz]
      have q1 : (want == want) = true := by simp
      have q2 : (want != want) = false := by simp
      have hB := HW.out
      replace o0 := cell_on hB o0
      replace o1 := cell_on hB o1
      replace o2 := cell_on hB o2
      replace x0 := cell_on hB x0
      replace x1 := cell_on hB x1
      replace x2 := cell_on hB x2
      replace x3 := cell_on hB x3
      replace x4 := cell_on hB x4
      replace x5 := cell_on hB x5
      replace hC := Kd.C_below hC hB
      replace hv := hv.trans (hB.mono hv.size)
      clear hB y0 y1 hz
      go_wp2_with fail
      refine (a31 _ hC).mono ?_
      rintro en w21 ⟨rfl, hB⟩
      replace o0 := cell_on hB o0
      replace o1 := cell_on hB o1
      replace o2 := cell_on hB o2
      replace x0 := cell_on hB x0
      replace x1 := cell_on hB x1
      replace x2 := cell_on hB x2
      replace x3 := cell_on hB x3
      replace x4 := cell_on hB x4
      replace x5 := cell_on hB x5
      replace hC := Kd.C_below hC hB
      replace hv := hv.trans (hB.mono hv.size)
      clear hB q1 q2
      go_wp2_with fail
      go_loopw [168, 30] (fun v168 v30 wr2 => ∃ i : Nat, i ≤ L.length ∧ v168 = .int .i64 i ∧ v30 = .int .i64 (lastP Pd (L.take i)) ∧ Aside0 (Below w21.heap.size w21 wr2)) (fun v _ _ => L.length - (intOf v).toNat)
      case atStart => exact ⟨0, by omega, rfl, rfl, ⟨Below.refl _ _⟩⟩
      case round =>
        obtain ⟨i, hi2, rfl, rfl, HW2⟩ := hrel
        by_cases hlt2 : i < L.length
        · obtain ⟨ad, rfl, hc0, hc1⟩ := C_leap (Kd.C_below hC HW2.out) i hlt2 hlt2
          have HS := Aside0.mk (lastP_take Pd hlt2)
          have HP := Aside0.mk (HPd.out L[i])
          generalize L[i] = x at *
          obtain ⟨xd, xs⟩ := x
          simp only at hc0 hc1 HS HP
          have d1 : decide ((i : Int) < (L.length : Int)) = true := decide_eq_true (by omega)
          generalize lastP Pd (L.take i) = acc at *
          by_cases hxd : xd = D
          · have e0 : (xd == D) = true := beq_iff_eq.2 hxd
            have HN : Aside0 (lastP Pd (L.take (i + 1)) = xs) := ⟨by rw [HS.out, HP.out, decide_eq_true hxd]; rfl⟩
            clear hxd
            go_wp2
            go_roundw
            case rel => exact ⟨i + 1, by omega, by go_num, by rw [HN.out], ⟨HW2.out.alloc HW2.out.size _⟩⟩
            case measure => simp [intOf]; omega
          · have e0 : (xd == D) = false := beq_eq_false_iff_ne.2 hxd
            have HN : Aside0 (lastP Pd (L.take (i + 1)) = acc) := ⟨by rw [HS.out, HP.out, decide_eq_false hxd]; rfl⟩
            clear hxd
            go_wp2
            go_roundw
            case rel => exact ⟨i + 1, by omega, by go_num, by rw [HN.out], ⟨HW2.out.alloc HW2.out.size _⟩⟩
            case measure => simp [intOf]; omega
        · obtain rfl : i = L.length := by omega
          have hz : lastP Pd (L.take L.length) = st := by rw [List.take_length]; exact HSS.out
          rw [hz]
          have hB := HW2.out
          replace o0 := cell_on hB o0
          replace o1 := cell_on hB o1
          replace o2 := cell_on hB o2
          replace x0 := cell_on hB x0
          replace x1 := cell_on hB x1
          replace x2 := cell_on hB x2
          replace x3 := cell_on hB x3
          replace x4 := cell_on hB x4
          replace x5 := cell_on hB x5
          replace hC := Kd.C_below hC hB
          replace hv := hv.trans (hB.mono hv.size)
          clear hB hz
          have q5 : ((86400 + st) == (86400 + st)) = true := by simp
          by_cases hDu : D + 1 = u
          · rw [if_neg (by omega)] at b27
            have q3 : ((D + 1) == u) = true := beq_iff_eq.2 hDu
            simp only at b27
            clear hDu
            go_wp2_with fail
            refine (b27 _ hC).mono ?_
            rintro en w22 ⟨rfl, hB⟩
            replace o0 := cell_on hB o0
            replace o1 := cell_on hB o1
            replace o2 := cell_on hB o2
            replace x0 := cell_on hB x0
            replace x1 := cell_on hB x1
            replace x2 := cell_on hB x2
            replace x3 := cell_on hB x3
            replace x4 := cell_on hB x4
            replace x5 := cell_on hB x5
            replace hC := Kd.C_below hC hB
            replace hv := hv.trans (hB.mono hv.size)
            clear hB
            go_wp2_with fail
            refine (awake_calls _).mono ?_
            rintro en w23 ⟨rfl, hB⟩
            go_wp2
            go_ret
            exact ⟨rfl, hv.trans (hB.mono hv.size)⟩
          · rw [if_pos ⟨by omega, by omega⟩] at b27
            have q3 : ((D + 1) == u) = false := beq_eq_false_iff_ne.2 hDu
            have q6 : ((b + (g + st)) == (b + g + st)) = true := beq_iff_eq.2 (by omega)
            simp only at b27
            clear hDu
            go_wp2_with fail
            refine (b27 _ hC).mono ?_
            rintro en w22 ⟨rfl, hB⟩
            replace o0 := cell_on hB o0
            replace o1 := cell_on hB o1
            replace o2 := cell_on hB o2
            replace x0 := cell_on hB x0
            replace x1 := cell_on hB x1
            replace x2 := cell_on hB x2
            replace x3 := cell_on hB x3
            replace x4 := cell_on hB x4
            replace x5 := cell_on hB x5
            replace hC := Kd.C_below hC hB
            replace hv := hv.trans (hB.mono hv.size)
            clear hB
            go_wp2_with fail
            refine (awake_calls _).mono ?_
            rintro en w23 ⟨rfl, hB⟩
            go_wp2
            go_ret
            exact ⟨rfl, hv.trans (hB.mono hv.size)⟩
end Go.Proofs.Ytleipbanadnchaa.C
