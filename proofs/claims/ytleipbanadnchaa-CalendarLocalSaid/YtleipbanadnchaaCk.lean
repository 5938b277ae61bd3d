/- Contracts of calendar.Check, by hand. -/
import Derived.OwnWalk
import Derived.Test.YtleipbanadnchaaCj
namespace Go.Proofs.Ytleipbanadnchaa.C
open Go.RowKit Go.Shelf Go.Proofs.YtleipbanadnchaaW.PrintWords Go.Proofs.YtleipbanadnchaaW.PrintLast Go.Proofs.YtleipbanadnchaaW.PrintMore
set_option linter.unusedVariables false
set_option linter.unusedSimpArgs false
set_option maxHeartbeats 8000000 in
set_option maxRecDepth 100000 in
theorem check_main (b u : Int) (A : Option Addr) (c : Nat) (l : List (Int × Int)) (w : World) (hr : Kd.C kl w A l.length l) (h1 : 0 ≤ b ∧ b ≤ 100) (h2 : 41318 ≤ u ∧ u ≤ 88069) (hlen : l.length ≤ 100) :
    Calls Try.prog 52 #[tabV b A l.length c u] w fun e w' => e = .returned (.int .i64 (leapsE u none l)) ∧ Below w.heap.size w w' := by
  have a81 := fun w => within_calls b 0 100 w
  have b81 := fun w => within_calls u 41318 88069 w
  rw [show (decide (0 ≤ b) && decide (b ≤ 100)) = true by simp; omega] at a81
  rw [show (decide (41318 ≤ u) && decide (u ≤ 88069)) = true by simp; omega] at b81
  have HR := Aside0.mk hr
  clear hr
  have dlen : decide (100 < (l.length : Int)) = false := decide_eq_false (by omega)
  go_enter Try.func52, Try.ntmps52
  go_wp2_with fail
  refine (a81 _).mono ?_
  rintro en w1 ⟨rfl, hB⟩
  have hv : Below w.heap.size w w1 := ((Below.refl _ w).alloc (Nat.le_refl _) _).trans (hB.mono (by simp))
  have kx : w1.heap[w.heap.size]? = some (.cells #[.int .i64 b, .slice A l.length c, .int .i64 u] 28 (0, 0)) := (hB.block _ (by simp)).trans (al_new _ _ _ rfl)
  have t2 : w1.cell? ⟨w.heap.size, 2, none⟩ = some (.int .i64 u) := blk_cell kx 2
  clear hB a81
  go_wp2_with fail
  refine (b81 _).mono ?_
  rintro en w2 ⟨rfl, hB⟩
  have HV : Aside0 (Below w.heap.size w w2 ∧ w2.heap[w.heap.size]? = some (.cells #[.int .i64 b, .slice A l.length c, .int .i64 u] 28 (0, 0))) := ⟨hv.trans (hB.mono hv.size), (hB.block _ (Array.getElem?_eq_some_iff.1 kx).1).trans kx⟩
  have t1 : w2.cell? ⟨w.heap.size, 1, none⟩ = some (.slice A l.length c) := blk_cell HV.out.2 1
  clear hB b81 kx t2 hv
  go_wp2_with fail
  clear t1
  go_loopw [22] (fun v22 wr => ∃ i : Nat, i ≤ l.length ∧ v22 = .int .i64 i ∧ Aside0 (leapsE u none l = leapsE u (prevF l i) (l.drop i)) ∧ Aside0 (Below w.heap.size w wr ∧ wr.heap[w.heap.size]? = some (.cells #[.int .i64 b, .slice A l.length c, .int .i64 u] 28 (0, 0))))
    (fun v _ => l.length - (intOf v).toNat)
  case atStart => exact ⟨0, by omega, rfl, ⟨by simp [prevF]⟩, HV⟩
  case round =>
    obtain ⟨i, hi, rfl, HL, HW⟩ := hrel
    by_cases hlt : i < l.length
    · obtain ⟨ad, rfl, hc0, hc1⟩ := C_leap (Kd.C_below HR.out HW.out.1) i hlt hlt
      have hdr : l.drop i = l[i] :: l.drop (i + 1) := List.drop_eq_getElem_cons hlt
      have hprev := prevF_succ hlt
      have hLL := HL.out
      rw [hdr, leapsE] at hLL
      generalize l[i] = x at *
      obtain ⟨xd, xs⟩ := x
      have HLL := Aside0.mk hLL
      clear hdr hLL
      have d1 : decide ((i : Int) < (l.length : Int)) = true := decide_eq_true (by omega)
      have hB0 := HW.out.1
      have hT := HW.out.2
      have hsz : w.heap.size < wr.heap.size := (Array.getElem?_eq_some_iff.1 hT).1
      by_cases hxs : xs = 1 ∨ xs = -1
      · have a108 := fun w => monthEnd_calls xd w
        cases hme : meF xd
        · have HE : Aside0 (leapE u (prevF l i) (xd, xs) = 91) := ⟨by unfold leapE; rw [if_pos (.inr hme)]⟩
          rw [hme] at a108
          clear hme
          rcases hxs with rfl | rfl
          all_goals
            go_wp2_with fail
            refine (a108 _).mono ?_
            rintro en w3 ⟨rfl, hB3⟩
            go_wp2
            go_ret
            exact ⟨by rw [HLL.out, HE.out]; rfl, (hB0.alloc (by omega) _).trans (hB3.mono (by simp; omega))⟩
        · rw [hme] at a108
          have c81 := fun w => within_calls xd 41317 (u - 1) w
          by_cases hrg : 41317 ≤ xd ∧ xd ≤ u - 1
          · rw [show (decide (41317 ≤ xd) && decide (xd ≤ u - 1)) = true by simp; omega] at c81
            by_cases hi0 : i = 0
            · have HE : Aside0 (leapE u (prevF l i) (xd, xs) = 0) := ⟨by unfold leapE prevF; rw [if_neg (by rw [hme]; simp; omega), if_neg (by simp; omega), if_pos hi0]⟩
              have hi1 : decide (0 < (i : Int)) = false := decide_eq_false (by omega)
              have hi2 : decide (0 < i) = false := decide_eq_false (by omega)
              clear hme hi0
              rcases hxs with rfl | rfl
              all_goals
                go_wp2_with fail
                refine (a108 _).mono ?_
                rintro en w3 ⟨rfl, hB3⟩
                have k5 : w3.heap[wr.heap.size]? = some (.cells #[.int .i64 xd, .int .i64 _] 45 (0, 0)) := (hB3.block _ (by simp)).trans (al_new _ _ _ rfl)
                have e0 : w3.cell? ⟨wr.heap.size, 0, none⟩ = some (.int .i64 xd) := blk_cell k5 0
                have kt : w3.heap[w.heap.size]? = some (.cells #[.int .i64 b, .slice (some ad) l.length c, .int .i64 u] 28 (0, 0)) := (hB3.block _ (by simp; omega)).trans (al_old hT)
                have e2 : w3.cell? ⟨w.heap.size, 2, none⟩ = some (.int .i64 u) := blk_cell kt 2
                have hv3 : Below w.heap.size w w3 := (hB0.alloc (by omega) _).trans (hB3.mono (by simp; omega))
                have HK3 := Aside0.mk (And.intro kt hv3)
                clear kt k5 hB3 hv3
                go_wp2_with fail
                refine (c81 _).mono ?_
                rintro en w4 ⟨rfl, hB4⟩
                have HK4 : Aside0 (Below w.heap.size w w4 ∧ w4.heap[w.heap.size]? = some (.cells #[.int .i64 b, .slice (some ad) l.length c, .int .i64 u] 28 (0, 0))) := ⟨HK3.out.2.trans (hB4.mono HK3.out.2.size), (hB4.block _ (Array.getElem?_eq_some_iff.1 HK3.out.1).1).trans HK3.out.1⟩
                clear hB4 e0 e2
                go_wp2
                go_quiet (fail)
                try go_wp2
                go_roundw
                case rel => exact ⟨i + 1, by omega, by go_num, ⟨by rw [HLL.out, if_pos HE.out, hprev]⟩, ⟨by first | exact HK4.out.1 | exact pw_below_drewN HK4.out.1 _ | exact below_drew1 HK4.out.1, HK4.out.2⟩⟩
                case measure => simp [intOf]; omega
            · skip
              obtain ⟨_, ead, p0, _⟩ := C_leap (Kd.C_below HR.out hB0) (i - 1) (by omega) (by omega)
              cases ead
              obtain ⟨pd, hpd⟩ : ∃ pd, (l[i - 1]'(by omega)).1 = pd := ⟨_, rfl⟩
              have hpv : prevF l i = some pd := by unfold prevF; rw [if_neg hi0, List.getElem?_eq_getElem (by omega)]; simp [hpd]
              rw [hpd] at p0
              have hi1 : decide (0 < (i : Int)) = true := decide_eq_true (by omega)
              have hi2 : decide (0 < i) = true := decide_eq_true (by omega)
              have pb := World.block_lt_of_cell? _ _ p0
              have HP0 : Aside0 (wr.cell? (ad.add ((i - 1) * 2)) = some (.int .i64 pd) ∧ (ad.add ((i - 1) * 2)).block < wr.heap.size) := ⟨p0, pb⟩
              have HWR : Aside0 (IntKind.i64.wrap ((i : Int) - 1) = (i : Int) - 1 ∧ (0 : Int) ≤ (i : Int) - 1 ∧ ((i : Int) - 1).toNat = i - 1 ∧ (i : Int) - 1 < (l.length : Int)) := ⟨by rw [show (i : Int) - 1 = ((i - 1 : Nat) : Int) by omega]; refine ⟨wrap_small _ (by omega) (by omega), by omega, by omega, by omega⟩⟩
              clear hpd hi0 p0 pb
              by_cases hle : xd ≤ pd
              · have HE : Aside0 (leapE u (prevF l i) (xd, xs) = 11) := ⟨by unfold leapE; rw [if_neg (by rw [hme]; simp; omega), if_neg (by simp; omega), hpv]; simp only; rw [if_pos hle]⟩
                have dle : decide (xd ≤ pd) = true := decide_eq_true hle
                clear hme hpv
                rcases hxs with rfl | rfl
                all_goals
                  go_wp2_with fail
                  refine (a108 _).mono ?_
                  rintro en w3 ⟨rfl, hB3⟩
                  have k5 : w3.heap[wr.heap.size]? = some (.cells #[.int .i64 xd, .int .i64 _] 45 (0, 0)) := (hB3.block _ (by simp)).trans (al_new _ _ _ rfl)
                  have e0 : w3.cell? ⟨wr.heap.size, 0, none⟩ = some (.int .i64 xd) := blk_cell k5 0
                  have kt : w3.heap[w.heap.size]? = some (.cells #[.int .i64 b, .slice (some ad) l.length c, .int .i64 u] 28 (0, 0)) := (hB3.block _ (by simp; omega)).trans (al_old hT)
                  have e2 : w3.cell? ⟨w.heap.size, 2, none⟩ = some (.int .i64 u) := blk_cell kt 2
                  have hv3 : Below w.heap.size w w3 := (hB0.alloc (by omega) _).trans (hB3.mono (by simp; omega))
                  have HK3 := Aside0.mk (And.intro kt hv3)
                  clear kt k5 hv3
                  go_wp2_with fail
                  refine (c81 _).mono ?_
                  rintro en w4 ⟨rfl, hB4⟩
                  have HK4 : Aside0 (Below w.heap.size w w4 ∧ w4.heap[w.heap.size]? = some (.cells #[.int .i64 b, .slice (some ad) l.length c, .int .i64 u] 28 (0, 0))) := ⟨HK3.out.2.trans (hB4.mono HK3.out.2.size), (hB4.block _ (Array.getElem?_eq_some_iff.1 HK3.out.1).1).trans HK3.out.1⟩
                  have p4 : w4.cell? (ad.add ((i - 1) * 2)) = some (.int .i64 pd) := by
                    have q1 := cell_on hB4 (cell_on hB3 (cell_on ((Below.refl _ wr).alloc (Nat.le_refl _) _) HP0.out.1))
                    exact q1
                  have e04 := cell_on hB4 e0
                  have t14 : w4.cell? ⟨w.heap.size, 1, none⟩ = some (.slice (some ad) l.length c) := blk_cell HK4.out.2 1
                  obtain ⟨wr1, wr2, wr3, wr4⟩ := HWR.out
                  clear hB4 e0 e2 hB3
                  go_wp2
                  go_quiet (fail)
                  clear wr1
                  try go_wp2
                  go_ret
                  exact ⟨by rw [HLL.out, HE.out]; rfl, by first | exact HK4.out.1 | exact pw_below_drewN HK4.out.1 _ | exact below_drew1 HK4.out.1⟩
              · have HE : Aside0 (leapE u (prevF l i) (xd, xs) = 0) := ⟨by unfold leapE; rw [if_neg (by rw [hme]; simp; omega), if_neg (by simp; omega), hpv]; simp only; rw [if_neg hle]⟩
                have dle : decide (xd ≤ pd) = false := decide_eq_false hle
                clear hme hpv
                rcases hxs with rfl | rfl
                all_goals
                  go_wp2_with fail
                  refine (a108 _).mono ?_
                  rintro en w3 ⟨rfl, hB3⟩
                  have k5 : w3.heap[wr.heap.size]? = some (.cells #[.int .i64 xd, .int .i64 _] 45 (0, 0)) := (hB3.block _ (by simp)).trans (al_new _ _ _ rfl)
                  have e0 : w3.cell? ⟨wr.heap.size, 0, none⟩ = some (.int .i64 xd) := blk_cell k5 0
                  have kt : w3.heap[w.heap.size]? = some (.cells #[.int .i64 b, .slice (some ad) l.length c, .int .i64 u] 28 (0, 0)) := (hB3.block _ (by simp; omega)).trans (al_old hT)
                  have e2 : w3.cell? ⟨w.heap.size, 2, none⟩ = some (.int .i64 u) := blk_cell kt 2
                  have hv3 : Below w.heap.size w w3 := (hB0.alloc (by omega) _).trans (hB3.mono (by simp; omega))
                  have HK3 := Aside0.mk (And.intro kt hv3)
                  clear kt k5 hv3
                  go_wp2_with fail
                  refine (c81 _).mono ?_
                  rintro en w4 ⟨rfl, hB4⟩
                  have HK4 : Aside0 (Below w.heap.size w w4 ∧ w4.heap[w.heap.size]? = some (.cells #[.int .i64 b, .slice (some ad) l.length c, .int .i64 u] 28 (0, 0))) := ⟨HK3.out.2.trans (hB4.mono HK3.out.2.size), (hB4.block _ (Array.getElem?_eq_some_iff.1 HK3.out.1).1).trans HK3.out.1⟩
                  have p4 : w4.cell? (ad.add ((i - 1) * 2)) = some (.int .i64 pd) := by
                    have q1 := cell_on hB4 (cell_on hB3 (cell_on ((Below.refl _ wr).alloc (Nat.le_refl _) _) HP0.out.1))
                    exact q1
                  have e04 := cell_on hB4 e0
                  have t14 : w4.cell? ⟨w.heap.size, 1, none⟩ = some (.slice (some ad) l.length c) := blk_cell HK4.out.2 1
                  obtain ⟨wr1, wr2, wr3, wr4⟩ := HWR.out
                  clear hB4 e0 e2 hB3
                  go_wp2
                  go_quiet (fail)
                  clear wr1
                  try go_wp2
                  go_roundw
                  case rel => exact ⟨i + 1, by omega, by go_num, ⟨by rw [HLL.out, if_pos HE.out, hprev]⟩, ⟨by first | exact HK4.out.1 | exact pw_below_drewN HK4.out.1 _ | exact below_drew1 HK4.out.1, HK4.out.2⟩⟩
                  case measure => simp [intOf]; omega
          · rw [show (decide (41317 ≤ xd) && decide (xd ≤ u - 1)) = false by simp; omega] at c81
            have HE : Aside0 (leapE u (prevF l i) (xd, xs) = 6) := ⟨by unfold leapE; rw [if_neg (by rw [hme]; simp; omega), if_pos (by simp; omega)]⟩
            clear hme
            rcases hxs with rfl | rfl
            all_goals
              go_wp2_with fail
              refine (a108 _).mono ?_
              rintro en w3 ⟨rfl, hB3⟩
              have k5 : w3.heap[wr.heap.size]? = some (.cells #[.int .i64 xd, .int .i64 _] 45 (0, 0)) := (hB3.block _ (by simp)).trans (al_new _ _ _ rfl)
              have e0 : w3.cell? ⟨wr.heap.size, 0, none⟩ = some (.int .i64 xd) := blk_cell k5 0
              have kt : w3.heap[w.heap.size]? = some (.cells #[.int .i64 b, .slice (some ad) l.length c, .int .i64 u] 28 (0, 0)) := (hB3.block _ (by simp; omega)).trans (al_old hT)
              have e2 : w3.cell? ⟨w.heap.size, 2, none⟩ = some (.int .i64 u) := blk_cell kt 2
              have hv3 : Below w.heap.size w w3 := (hB0.alloc (by omega) _).trans (hB3.mono (by simp; omega))
              have HK3 := Aside0.mk (And.intro kt hv3)
              clear kt k5 hB3 hv3
              go_wp2_with fail
              refine (c81 _).mono ?_
              rintro en w4 ⟨rfl, hB4⟩
              go_wp2
              go_ret
              exact ⟨by rw [HLL.out, HE.out]; rfl, HK3.out.2.trans (hB4.mono HK3.out.2.size)⟩
      · have HE : Aside0 (leapE u (prevF l i) (xd, xs) = 91) := ⟨by unfold leapE; rw [if_pos (.inl ⟨fun h => hxs (.inl h), fun h => hxs (.inr h)⟩)]⟩
        have q1 : (xs == 1) = false := beq_eq_false_iff_ne.2 (fun h => hxs (.inl h))
        have q2 : (xs == -1) = false := beq_eq_false_iff_ne.2 (fun h => hxs (.inr h))
        have q3 : (xs != 1) = true := bne_iff_ne.2 (fun h => hxs (.inl h))
        have q4 : (xs != -1) = true := bne_iff_ne.2 (fun h => hxs (.inr h))
        clear hxs
        go_wp2
        go_ret
        exact ⟨by rw [HLL.out, HE.out]; rfl, hB0.alloc (by omega) _⟩
    · obtain rfl : i = l.length := by omega
      have hz := HL.out
      rw [List.drop_length] at hz
      have HZ := Aside0.mk hz
      clear hz
      go_wp2
      go_ret
      exact ⟨by rw [HZ.out]; rfl, HW.out.1⟩
theorem check_calls (b u : Int) (A : Option Addr) (c : Nat) (l : List (Int × Int)) (w : World) (hr : Kd.C kl w A l.length l) :
    Calls Try.prog 52 #[tabV b A l.length c u] w fun e w' => e = .returned (.int .i64 (checkF b l u)) ∧ Below w.heap.size w w' := by
  have a81 := fun w => within_calls b 0 100 w
  have b81 := fun w => within_calls u 41318 88069 w
  by_cases h1 : 0 ≤ b ∧ b ≤ 100
  · by_cases h2 : 41318 ≤ u ∧ u ≤ 88069
    · by_cases h3 : l.length ≤ 100
      · have hc : checkF b l u = leapsE u none l := by unfold checkF; rw [if_neg (by omega), if_neg (by omega)]
        rw [hc]
        exact check_main b u A c l w hr h1 h2 h3
      · have hc : checkF b l u = 2 := by unfold checkF; rw [if_neg (by omega), if_pos (by omega)]
        rw [hc]
        rw [show (decide (0 ≤ b) && decide (b ≤ 100)) = true by simp; omega] at a81
        rw [show (decide (41318 ≤ u) && decide (u ≤ 88069)) = true by simp; omega] at b81
        have dlen : decide (100 < (l.length : Int)) = true := decide_eq_true (by omega)
        have dlen2 : decide (100 < l.length) = true := decide_eq_true (by omega)
        clear hr
        go_enter Try.func52, Try.ntmps52
        go_wp2_with fail
        refine (a81 _).mono ?_
        rintro en w1 ⟨rfl, hB⟩
        have hv : Below w.heap.size w w1 := ((Below.refl _ w).alloc (Nat.le_refl _) _).trans (hB.mono (by simp))
        have kx : w1.heap[w.heap.size]? = some (.cells #[.int .i64 b, .slice A l.length c, .int .i64 u] 28 (0, 0)) := (hB.block _ (by simp)).trans (al_new _ _ _ rfl)
        have t2 : w1.cell? ⟨w.heap.size, 2, none⟩ = some (.int .i64 u) := blk_cell kx 2
        clear hB a81
        go_wp2_with fail
        refine (b81 _).mono ?_
        rintro en w2 ⟨rfl, hB⟩
        have t1 : w2.cell? ⟨w.heap.size, 1, none⟩ = some (.slice A l.length c) := cell_on hB (blk_cell kx 1)
        go_wp2
        go_ret
        exact ⟨rfl, hv.trans (hB.mono hv.size)⟩
    · have hc : checkF b l u = 6 := by unfold checkF; rw [if_pos (by omega)]
      rw [hc]
      rw [show (decide (0 ≤ b) && decide (b ≤ 100)) = true by simp; omega] at a81
      rw [show (decide (41318 ≤ u) && decide (u ≤ 88069)) = false by simp; omega] at b81
      clear hr
      go_enter Try.func52, Try.ntmps52
      go_wp2_with fail
      refine (a81 _).mono ?_
      rintro en w1 ⟨rfl, hB⟩
      have hv : Below w.heap.size w w1 := ((Below.refl _ w).alloc (Nat.le_refl _) _).trans (hB.mono (by simp))
      have kx : w1.heap[w.heap.size]? = some (.cells #[.int .i64 b, .slice A l.length c, .int .i64 u] 28 (0, 0)) := (hB.block _ (by simp)).trans (al_new _ _ _ rfl)
      have t2 : w1.cell? ⟨w.heap.size, 2, none⟩ = some (.int .i64 u) := blk_cell kx 2
      clear hB a81
      go_wp2_with fail
      refine (b81 _).mono ?_
      rintro en w2 ⟨rfl, hB⟩
      go_wp2
      go_ret
      exact ⟨rfl, hv.trans (hB.mono hv.size)⟩
  · rw [show (decide (0 ≤ b) && decide (b ≤ 100)) = false by simp; omega] at a81
    have hc : checkF b l u = 6 := by unfold checkF; rw [if_pos (by omega)]
    rw [hc]
    clear hr
    go_enter Try.func52, Try.ntmps52
    go_wp2_with fail
    refine (a81 _).mono ?_
    rintro en w1 ⟨rfl, hB⟩
    go_wp2
    go_ret
    exact ⟨rfl, ((Below.refl _ w).alloc (Nat.le_refl _) _).trans (hB.mono (by simp))⟩
end Go.Proofs.Ytleipbanadnchaa.C
