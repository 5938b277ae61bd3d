/- Contracts of the reference's ToGps and FromGps, by hand. -/
import Derived.OwnWalk
import Derived.Test.YtleipbanadnchaaGi
namespace Go.Proofs.Ytleipbanadnchaa.C
open Go.RowKit Go.Shelf Go.Maps Go.Proofs.YtleipbanadnchaaW.PrintWords Go.Proofs.YtleipbanadnchaaW.PrintLast Go.Proofs.YtleipbanadnchaaW.PrintMore
set_option linter.unusedVariables false
set_option linter.unusedSimpArgs false
set_option maxHeartbeats 2000000 in
set_option maxRecDepth 100000 in
theorem rToGps_calls (b u : Int) (A : Option Addr) (c : Nat) (l : List (Int × Int)) (s : Int) (w : World) (hr : Kd.C kl w A l.length l) :
    Calls Try.prog 77 #[tabV b A l.length c u, .int .i64 s] w fun e w' => e = .returned (.tuple #[.agg #[.int .i64 (if gpsE b l u s = 0 then (s - gpsF l u) / 604800 % 1024 else 0), .int .i64 (if gpsE b l u s = 0 then (s - gpsF l u) % 604800 else 0)], .int .i64 (gpsE b l u s)]) ∧ Below w.heap.size w w' := by
  have HR := Aside0.mk hr
  have a112 := fun w h => rknownS_calls b u A c l s w h
  clear hr
  by_cases hk : askE b l u s = 0
  · have hkn := knowsB_iff.1 (askE_zero hk).2
    have hbu := beginU (askE_zero hk).1
    have hss : 0 ≤ s ∧ s ≤ 1000000000000 := by omega
    obtain ⟨h1, h2, h3, h4, h5, h6⟩ := checkF_right (askE_zero hk).1
    have a109 := fun w h => rbegin_calls b u u A c l 44244 (by omega) (by omega) w h h6 h5
    have hgb := gps_bound (askE_zero hk).1
    by_cases hu : u ≤ 44244
    · have hz : gpsF l u = -1 := by unfold gpsF; rw [if_pos hu]
      have hE : gpsE b l u s = 4 := by unfold gpsE; rw [if_pos hk, if_pos (Or.inl (by omega))]
      rw [hE, if_neg (by omega), if_neg (by omega)]
      rw [hk] at a112
      have d1 : decide (u ≤ 44244) = true := decide_eq_true hu
      clear hk h6 a109 hu
      go_enter Try.func77, Try.ntmps77
      go_wp2_with fail
      obtain ⟨w0, hw0⟩ : ∃ w0, (w.alloc (.cells #[.int .i64 b, .slice A l.length c, .int .i64 u] 90)).alloc (.cells #[.int .i64 0, .int .i64 0] 125) = w0 := ⟨_, rfl⟩
      try rw [hw0]
      have hv : Below w.heap.size w w0 := by rw [← hw0]; exact ((Below.refl _ w).alloc (Nat.le_refl _) _).alloc (by simp) _
      have kx : w0.heap[w.heap.size]? = some (.cells #[.int .i64 b, .slice A l.length c, .int .i64 u] 90 (0, 0)) := by rw [← hw0]; exact al_old (al_new _ _ _ rfl)
      have kr : w0.heap[w.heap.size + 1]? = some (.cells #[.int .i64 0, .int .i64 0] 125 (0, 0)) := by rw [← hw0]; exact al_new _ _ _ (by simp)
      have o0 : w0.cell? ⟨w.heap.size, 0, none⟩ = some (.int .i64 b) := blk_cell kx 0
      have o1 : w0.cell? ⟨w.heap.size, 1, none⟩ = some (.slice A l.length c) := blk_cell kx 1
      have o2 : w0.cell? ⟨w.heap.size, 2, none⟩ = some (.int .i64 u) := blk_cell kx 2
      clear hw0 kx
      refine (a112 _ (Kd.C_below HR.out hv)).mono ?_
      rintro en w1 ⟨rfl, hB⟩
      replace o0 := cell_on hB o0
      replace o1 := cell_on hB o1
      replace o2 := cell_on hB o2
      replace kr := (hB.block _ (Array.getElem?_eq_some_iff.1 kr).1).trans kr
      replace hv := hv.trans (hB.mono hv.size)
      clear hB
      have r0 : w1.cell? ⟨w.heap.size + 1, 0, none⟩ = some (.int .i64 0) := blk_cell kr 0
      have r1 : w1.cell? ⟨w.heap.size + 1, 1, none⟩ = some (.int .i64 0) := blk_cell kr 1
      have z0 := blk_frozen kr 0
      have z1 := blk_frozen kr 1
      go_wp2
      exact bodyPost_ret (results_row_tmp rfl _ _ (w.heap.size + 1) 125 _ (0, 0) _ rfl (blk_put (blk_put kr 0 _ rfl) 1 _ rfl) Try.underlying125 rfl info125) rfl
        ⟨rfl, (hv.setCell (p := ⟨w.heap.size + 1, 0, none⟩) (by simp) _).setCell (p := ⟨w.heap.size + 1, 1, none⟩) (by simp) _⟩
    · have hzz : gpsF l u = beginF l 44244 := by unfold gpsF; rw [if_neg hu]
      have d1 : decide (u ≤ 44244) = false := decide_eq_false hu
      rw [← hzz] at a109
      have hz0 : 0 ≤ gpsF l u := by
        rw [hzz]
        have := h6.mono (d := 41317) (e := 44244) (by omega)
        rw [h6.first] at this
        omega
      by_cases hsz : s < gpsF l u
      · have hE : gpsE b l u s = 4 := by unfold gpsE; rw [if_pos hk, if_pos (Or.inr hsz)]
        rw [hE, if_neg (by omega), if_neg (by omega)]
        rw [hk] at a112
        have d2 : decide (s < gpsF l u) = true := decide_eq_true hsz
        clear hk h6 hu hzz hE
        generalize gpsF l u = z at *
        go_enter Try.func77, Try.ntmps77
        go_wp2_with fail
        obtain ⟨w0, hw0⟩ : ∃ w0, (w.alloc (.cells #[.int .i64 b, .slice A l.length c, .int .i64 u] 90)).alloc (.cells #[.int .i64 0, .int .i64 0] 125) = w0 := ⟨_, rfl⟩
        try rw [hw0]
        have hv : Below w.heap.size w w0 := by rw [← hw0]; exact ((Below.refl _ w).alloc (Nat.le_refl _) _).alloc (by simp) _
        have kx : w0.heap[w.heap.size]? = some (.cells #[.int .i64 b, .slice A l.length c, .int .i64 u] 90 (0, 0)) := by rw [← hw0]; exact al_old (al_new _ _ _ rfl)
        have kr : w0.heap[w.heap.size + 1]? = some (.cells #[.int .i64 0, .int .i64 0] 125 (0, 0)) := by rw [← hw0]; exact al_new _ _ _ (by simp)
        have o0 : w0.cell? ⟨w.heap.size, 0, none⟩ = some (.int .i64 b) := blk_cell kx 0
        have o1 : w0.cell? ⟨w.heap.size, 1, none⟩ = some (.slice A l.length c) := blk_cell kx 1
        have o2 : w0.cell? ⟨w.heap.size, 2, none⟩ = some (.int .i64 u) := blk_cell kx 2
        clear hw0 kx
        refine (a112 _ (Kd.C_below HR.out hv)).mono ?_
        rintro en w1 ⟨rfl, hB⟩
        replace o0 := cell_on hB o0
        replace o1 := cell_on hB o1
        replace o2 := cell_on hB o2
        replace kr := (hB.block _ (Array.getElem?_eq_some_iff.1 kr).1).trans kr
        replace hv := hv.trans (hB.mono hv.size)
        clear hB
        go_wp2_with fail
        refine (a109 _ (Kd.C_below HR.out hv)).mono ?_
        rintro en w2 ⟨rfl, hB⟩
        replace o0 := cell_on hB o0
        replace o1 := cell_on hB o1
        replace o2 := cell_on hB o2
        replace kr := (hB.block _ (Array.getElem?_eq_some_iff.1 kr).1).trans kr
        replace hv := hv.trans (hB.mono hv.size)
        clear hB
        have r0 : w2.cell? ⟨w.heap.size + 1, 0, none⟩ = some (.int .i64 0) := blk_cell kr 0
        have r1 : w2.cell? ⟨w.heap.size + 1, 1, none⟩ = some (.int .i64 0) := blk_cell kr 1
        have z0 := blk_frozen kr 0
        have z1 := blk_frozen kr 1
        clear hsz
        go_wp2
        exact bodyPost_ret (results_row_tmp rfl _ _ (w.heap.size + 1) 125 _ (0, 0) _ rfl (blk_put (blk_put kr 0 _ rfl) 1 _ rfl) Try.underlying125 rfl info125) rfl
          ⟨rfl, (hv.setCell (p := ⟨w.heap.size + 1, 0, none⟩) (by simp) _).setCell (p := ⟨w.heap.size + 1, 1, none⟩) (by simp) _⟩
      · have hE : gpsE b l u s = 0 := by unfold gpsE; rw [if_pos hk, if_neg (by omega)]
        rw [hE, if_pos rfl, if_pos rfl]
        rw [hk] at a112
        have d2 : decide (s < gpsF l u) = false := decide_eq_false hsz
        clear hk h6 hu hzz hE
        generalize gpsF l u = z at *
        obtain ⟨n, hn⟩ : ∃ n, s - z = n := ⟨_, rfl⟩
        rw [hn]
        have hn1 : 0 ≤ n ∧ n ≤ 1000000000000 := by omega
        rw [show n / 604800 % 1024 = n % 619315200 / 604800 by omega]
        go_enter Try.func77, Try.ntmps77
        go_wp2_with fail
        obtain ⟨w0, hw0⟩ : ∃ w0, (w.alloc (.cells #[.int .i64 b, .slice A l.length c, .int .i64 u] 90)).alloc (.cells #[.int .i64 0, .int .i64 0] 125) = w0 := ⟨_, rfl⟩
        try rw [hw0]
        have hv : Below w.heap.size w w0 := by rw [← hw0]; exact ((Below.refl _ w).alloc (Nat.le_refl _) _).alloc (by simp) _
        have kx : w0.heap[w.heap.size]? = some (.cells #[.int .i64 b, .slice A l.length c, .int .i64 u] 90 (0, 0)) := by rw [← hw0]; exact al_old (al_new _ _ _ rfl)
        have kr : w0.heap[w.heap.size + 1]? = some (.cells #[.int .i64 0, .int .i64 0] 125 (0, 0)) := by rw [← hw0]; exact al_new _ _ _ (by simp)
        have o0 : w0.cell? ⟨w.heap.size, 0, none⟩ = some (.int .i64 b) := blk_cell kx 0
        have o1 : w0.cell? ⟨w.heap.size, 1, none⟩ = some (.slice A l.length c) := blk_cell kx 1
        have o2 : w0.cell? ⟨w.heap.size, 2, none⟩ = some (.int .i64 u) := blk_cell kx 2
        clear hw0 kx
        refine (a112 _ (Kd.C_below HR.out hv)).mono ?_
        rintro en w1 ⟨rfl, hB⟩
        replace o0 := cell_on hB o0
        replace o1 := cell_on hB o1
        replace o2 := cell_on hB o2
        replace kr := (hB.block _ (Array.getElem?_eq_some_iff.1 kr).1).trans kr
        replace hv := hv.trans (hB.mono hv.size)
        clear hB
        go_wp2_with fail
        refine (a109 _ (Kd.C_below HR.out hv)).mono ?_
        rintro en w2 ⟨rfl, hB⟩
        replace o0 := cell_on hB o0
        replace o1 := cell_on hB o1
        replace o2 := cell_on hB o2
        replace kr := (hB.block _ (Array.getElem?_eq_some_iff.1 kr).1).trans kr
        replace hv := hv.trans (hB.mono hv.size)
        clear hB
        clear hsz
        go_wp2_with fail
        refine (a109 _ (Kd.C_below HR.out hv)).mono ?_
        rintro en w3 ⟨rfl, hB⟩
        replace o0 := cell_on hB o0
        replace o1 := cell_on hB o1
        replace o2 := cell_on hB o2
        replace kr := (hB.block _ (Array.getElem?_eq_some_iff.1 kr).1).trans kr
        replace hv := hv.trans (hB.mono hv.size)
        clear hB
        have r0 : w3.cell? ⟨w.heap.size + 1, 0, none⟩ = some (.int .i64 0) := blk_cell kr 0
        have r1 : w3.cell? ⟨w.heap.size + 1, 1, none⟩ = some (.int .i64 0) := blk_cell kr 1
        have z0 := blk_frozen kr 0
        have z1 := blk_frozen kr 1
        go_wp2
        exact bodyPost_ret (results_row_tmp rfl _ _ (w.heap.size + 1) 125 _ (0, 0) _ rfl (blk_put (blk_put kr 0 _ rfl) 1 _ rfl) Try.underlying125 rfl info125) rfl
          ⟨rfl, (hv.setCell (p := ⟨w.heap.size + 1, 0, none⟩) (by simp) _).setCell (p := ⟨w.heap.size + 1, 1, none⟩) (by simp) _⟩
  · have hE : gpsE b l u s = askE b l u s := by unfold gpsE; rw [if_neg hk]
    rw [hE, if_neg hk, if_neg hk]
    have q1 : (askE b l u s == 0) = false := beq_eq_false_iff_ne.2 hk
    have q2 : (askE b l u s != 0) = true := bne_iff_ne.2 hk
    generalize askE b l u s = q at *
    clear hE hk
    go_enter Try.func77, Try.ntmps77
    go_wp2_with fail
    obtain ⟨w0, hw0⟩ : ∃ w0, (w.alloc (.cells #[.int .i64 b, .slice A l.length c, .int .i64 u] 90)).alloc (.cells #[.int .i64 0, .int .i64 0] 125) = w0 := ⟨_, rfl⟩
    try rw [hw0]
    have hv : Below w.heap.size w w0 := by rw [← hw0]; exact ((Below.refl _ w).alloc (Nat.le_refl _) _).alloc (by simp) _
    have kx : w0.heap[w.heap.size]? = some (.cells #[.int .i64 b, .slice A l.length c, .int .i64 u] 90 (0, 0)) := by rw [← hw0]; exact al_old (al_new _ _ _ rfl)
    have kr : w0.heap[w.heap.size + 1]? = some (.cells #[.int .i64 0, .int .i64 0] 125 (0, 0)) := by rw [← hw0]; exact al_new _ _ _ (by simp)
    have o0 : w0.cell? ⟨w.heap.size, 0, none⟩ = some (.int .i64 b) := blk_cell kx 0
    have o1 : w0.cell? ⟨w.heap.size, 1, none⟩ = some (.slice A l.length c) := blk_cell kx 1
    have o2 : w0.cell? ⟨w.heap.size, 2, none⟩ = some (.int .i64 u) := blk_cell kx 2
    clear hw0 kx
    refine (a112 _ (Kd.C_below HR.out hv)).mono ?_
    rintro en w1 ⟨rfl, hB⟩
    replace o0 := cell_on hB o0
    replace o1 := cell_on hB o1
    replace o2 := cell_on hB o2
    replace kr := (hB.block _ (Array.getElem?_eq_some_iff.1 kr).1).trans kr
    replace hv := hv.trans (hB.mono hv.size)
    clear hB
    have r0 : w1.cell? ⟨w.heap.size + 1, 0, none⟩ = some (.int .i64 0) := blk_cell kr 0
    have r1 : w1.cell? ⟨w.heap.size + 1, 1, none⟩ = some (.int .i64 0) := blk_cell kr 1
    have z0 := blk_frozen kr 0
    have z1 := blk_frozen kr 1
    go_wp2
    exact bodyPost_ret (results_row_tmp rfl _ _ (w.heap.size + 1) 125 _ (0, 0) _ rfl (blk_put (blk_put kr 0 _ rfl) 1 _ rfl) Try.underlying125 rfl info125) rfl
      ⟨rfl, (hv.setCell (p := ⟨w.heap.size + 1, 0, none⟩) (by simp) _).setCell (p := ⟨w.heap.size + 1, 1, none⟩) (by simp) _⟩
/-- The nearest of the seconds, as the reference says. -/
def refL (near tot : Int) : Nat → Int → Int → Int
  | 0, best, _ => best
  | k + 1, best, n => refL near tot k (if n < tot ∧ (best < 0 ∨ dF n near < dF best near) then n else best) (n + 619315200)
theorem refL_out {near tot : Int} : ∀ (k : Nat) (best n : Int), ¬ n < tot → refL near tot k best n = best
  | 0, _, _, _ => rfl
  | k + 1, best, n, h => by
    unfold refL
    rw [if_neg (fun hh => h hh.1)]
    exact refL_out k best _ (by omega)
theorem gpsL_ref {near tot : Int} : ∀ (k : Nat) (best n : Int), gpsL near tot k best n = refL near tot k best n
  | 0, _, _ => rfl
  | k + 1, best, n => by
    by_cases h : n < tot
    · rw [gpsL_in _ h, gpsL_ref k]
      show _ = refL near tot k (if n < tot ∧ (best < 0 ∨ dF n near < dF best near) then n else best) (n + 619315200)
      rw [ifc (p := best < 0 ∨ dF n near < dF best near) (q := n < tot ∧ (best < 0 ∨ dF n near < dF best near)) ⟨fun hh => ⟨h, hh⟩, fun hh => hh.2⟩ rfl]
    · rw [gpsL_out _ h, refL_out _ _ _ h]
theorem gpsL_fuel {near tot : Int} (j : Nat) : ∀ (k : Nat) (best n : Int), tot ≤ n + 619315200 * k → gpsL near tot (k + j) best n = gpsL near tot k best n
  | 0, best, n, h => by
    rw [Nat.zero_add]
    cases j with
    | zero => rfl
    | succ j => exact gpsL_out _ (by omega)
  | k + 1, best, n, h => by
    rw [show k + 1 + j = (k + j) + 1 by omega]
    by_cases hn : n < tot
    · rw [gpsL_in _ hn, gpsL_in _ hn]
      exact gpsL_fuel j k _ _ (by push_cast at h; omega)
    · rw [gpsL_out _ hn, gpsL_out _ hn]
theorem fromGB_ref {b u p q near : Int} {l : List (Int × Int)} (hk : checkF b l u = 0) (hz : 0 ≤ gpsF l u) (hp : 0 ≤ p) (hq : 0 ≤ q) (ht : beginF l u ≤ 4039372900) : fromGB l u p q near = refL near (beginF l u) 20 (-1) (gpsF l u + 604800 * p + q) := by
  unfold fromGB
  rw [if_neg (by omega), ← gpsL_ref, show (20 : Nat) = 10 + 10 from rfl, gpsL_fuel 10 10 _ _ (by have : ((10 : Nat) : Int) = 10 := rfl; omega)]
theorem tot_bound {b u : Int} {l : List (Int × Int)} (hk : checkF b l u = 0) : beginF l u ≤ 4039372900 := by
  obtain ⟨h1, h2, h3, h4, h5, h6⟩ := checkF_right hk
  have hgb := h6.take l.length u
  rw [List.take_length] at hgb
  unfold beginF; omega
set_option maxHeartbeats 4000000 in
set_option maxRecDepth 100000 in
theorem rFromGps_main (b u : Int) (A : Option Addr) (c : Nat) (l : List (Int × Int)) (p q near : Int) (w : World) (hr : Kd.C kl w A l.length l) (hk : checkF b l u = 0) (hp : 0 ≤ p ∧ p ≤ 1023) (hq : 0 ≤ q ∧ q ≤ 604799) (hn : -1000000000000 ≤ near ∧ near ≤ 1000000000000) :
    Calls Try.prog 78 #[tabV b A l.length c u, .agg #[.int .i64 p, .int .i64 q], .int .i64 near] w fun e w' => e = .returned (.tuple #[.int .i64 (if fromGB l u p q near < 0 then 0 else fromGB l u p q near), .int .i64 (if fromGB l u p q near < 0 then 4 else 0)]) ∧ Below w.heap.size w w' := by
  have HR := Aside0.mk hr
  have HK := Aside0.mk hk
  have a56 := fun w h => rTotal_calls b u A c l w h
  unfold totalR at a56
  rw [if_pos hk] at a56
  obtain ⟨h1, h2, h3, h4, h5, h6⟩ := checkF_right hk
  have a109 := fun w h => rbegin_calls b u u A c l 44244 (by omega) (by omega) w h h6 h5
  have hgb := gps_bound hk
  have hbu := beginU hk
  have htot := tot_bound hk
  have a81 := fun w => rin_calls p 0 1023 w
  have b81 := fun w => rin_calls q 0 604799 w
  have c81 := fun w => rin_calls near (-1000000000000) 1000000000000 w
  rw [show (decide (0 ≤ p) && decide (p ≤ 1023)) = true by simp; omega] at a81
  rw [show (decide (0 ≤ q) && decide (q ≤ 604799)) = true by simp; omega] at b81
  rw [show (decide (-1000000000000 ≤ near) && decide (near ≤ 1000000000000)) = true by simp; omega] at c81
  have HG1 : Aside0 (gpsF l u < 0 → fromGB l u p q near = -1) := ⟨fun h => by unfold fromGB; rw [if_pos h]⟩
  have HG2 : Aside0 (0 ≤ gpsF l u → fromGB l u p q near = refL near (beginF l u) 20 (-1) (gpsF l u + 604800 * p + q)) := ⟨fun h => fromGB_ref hk h hp.1 hq.1 htot⟩
  have HZ1 : Aside0 (u ≤ 44244 → gpsF l u = -1) := ⟨fun h => by unfold gpsF; rw [if_pos h]⟩
  have HZ2 : Aside0 (¬ u ≤ 44244 → gpsF l u = beginF l 44244 ∧ 0 ≤ gpsF l u) := ⟨fun h => by
    have e : gpsF l u = beginF l 44244 := by unfold gpsF; rw [if_neg h]
    rw [e]
    have := h6.mono (d := 41317) (e := 44244) (by omega)
    rw [h6.first] at this
    exact ⟨rfl, by omega⟩⟩
  simp only at a56
  clear hr hk h6
  generalize fromGB l u p q near = G at *
  generalize gpsF l u = z at *
  generalize beginF l u = tot at *
  go_enter Try.func78, Try.ntmps78
  go_wp2_with fail
  obtain ⟨w0, hw0⟩ : ∃ w0, (w.alloc (.cells #[.int .i64 b, .slice A l.length c, .int .i64 u] 90)).alloc (.cells #[.int .i64 p, .int .i64 q] 125) = w0 := ⟨_, rfl⟩
  try rw [hw0]
  have hv : Below w.heap.size w w0 := by rw [← hw0]; exact ((Below.refl _ w).alloc (Nat.le_refl _) _).alloc (by simp) _
  have kx : w0.heap[w.heap.size]? = some (.cells #[.int .i64 b, .slice A l.length c, .int .i64 u] 90 (0, 0)) := by rw [← hw0]; exact al_old (al_new _ _ _ rfl)
  have kd : w0.heap[w.heap.size + 1]? = some (.cells #[.int .i64 p, .int .i64 q] 125 (0, 0)) := by rw [← hw0]; exact al_new _ _ _ (by simp)
  have o0 : w0.cell? ⟨w.heap.size, 0, none⟩ = some (.int .i64 b) := blk_cell kx 0
  have o1 : w0.cell? ⟨w.heap.size, 1, none⟩ = some (.slice A l.length c) := blk_cell kx 1
  have o2 : w0.cell? ⟨w.heap.size, 2, none⟩ = some (.int .i64 u) := blk_cell kx 2
  have x0 : w0.cell? ⟨w.heap.size + 1, 0, none⟩ = some (.int .i64 p) := blk_cell kd 0
  have x1 : w0.cell? ⟨w.heap.size + 1, 1, none⟩ = some (.int .i64 q) := blk_cell kd 1
  clear hw0 kx kd
  refine (a56 _ (Kd.C_below HR.out hv)).mono ?_
  rintro en w1 ⟨rfl, hB⟩
  replace o0 := cell_on hB o0
  replace o1 := cell_on hB o1
  replace o2 := cell_on hB o2
  replace x0 := cell_on hB x0
  replace x1 := cell_on hB x1
  replace hv := hv.trans (hB.mono hv.size)
  clear hB
  clear a56
  go_wp2_with fail
  refine (a81 _).mono ?_
  rintro en w2 ⟨rfl, hB⟩
  replace o0 := cell_on hB o0
  replace o1 := cell_on hB o1
  replace o2 := cell_on hB o2
  replace x0 := cell_on hB x0
  replace x1 := cell_on hB x1
  replace hv := hv.trans (hB.mono hv.size)
  clear hB
  clear a81
  go_wp2_with fail
  refine (b81 _).mono ?_
  rintro en w3 ⟨rfl, hB⟩
  replace o0 := cell_on hB o0
  replace o1 := cell_on hB o1
  replace o2 := cell_on hB o2
  replace x0 := cell_on hB x0
  replace x1 := cell_on hB x1
  replace hv := hv.trans (hB.mono hv.size)
  clear hB
  clear b81
  go_wp2_with fail
  refine (c81 _).mono ?_
  rintro en w4 ⟨rfl, hB⟩
  replace o0 := cell_on hB o0
  replace o1 := cell_on hB o1
  replace o2 := cell_on hB o2
  replace x0 := cell_on hB x0
  replace x1 := cell_on hB x1
  replace hv := hv.trans (hB.mono hv.size)
  clear hB
  clear c81
  by_cases hu : u ≤ 44244
  · have d1 : decide (44244 < u) = false := decide_eq_false (by omega)
    have hG := HG1.out (by have := HZ1.out hu; omega)
    subst hG
    clear hu HG1 HG2 HZ1 HZ2
    go_wp2_with fail
    go_loopw [10, 11, 12] (fun v10 v11 v12 wr => v10 = .int .i64 (-1) ∧ v11 = .int .i64 0 ∧ v12 = .int .i64 0 ∧ Aside0 (wr = w4)) (fun _ _ _ _ => 0)
    case atStart => exact ⟨rfl, rfl, rfl, ⟨rfl⟩⟩
    case round =>
      obtain ⟨rfl, rfl, rfl, HW⟩ := hrel
      obtain rfl := HW.out
      go_wp2
      go_ret2
      exact ⟨rfl, hv⟩
  have d1 : decide (44244 < u) = true := decide_eq_true (by omega)
  obtain ⟨hze, hz0⟩ := HZ2.out (by omega)
  have hG := HG2.out hz0
  rw [← hze] at a109
  obtain ⟨n0, hn0⟩ : ∃ n0, z + 604800 * p + q = n0 := ⟨_, rfl⟩
  rw [hn0] at hG
  have hn1 : 0 ≤ n0 ∧ n0 ≤ 1000000000000 + 700000000 := by omega
  have HG3 := Aside0.mk hG
  clear hG HG1 HG2 HZ1 HZ2 hu hze
  go_wp2_with fail
  go_loopw [10, 11, 12] (fun v10 v11 v12 wr => ∃ (i : Nat) (best least : Int), i ≤ 20 ∧ v12 = .int .i64 i ∧ v10 = .int .i64 best ∧ v11 = .int .i64 least ∧ -1 ≤ best ∧ best ≤ 1000000000000 + 700000000 + 619315200 * 20 ∧ Aside0 (0 ≤ best → least = dF best near) ∧ Aside0 (G = refL near tot (20 - i) best (n0 + 619315200 * i)) ∧ Aside0 (Below w4.heap.size w4 wr)) (fun _ _ v _ => (20 - intOf v).toNat)
  case atStart => exact ⟨0, -1, 0, by omega, rfl, rfl, rfl, by omega, by omega, ⟨by omega⟩, ⟨by simpa using HG3.out⟩, ⟨Below.refl _ _⟩⟩
  case round =>
    obtain ⟨i, best, least, hi, rfl, rfl, rfl, hb0, hb1, HL, HE, HW⟩ := hrel
    have hB := HW.out
    replace o0 := cell_on hB o0
    replace o1 := cell_on hB o1
    replace o2 := cell_on hB o2
    replace x0 := cell_on hB x0
    replace x1 := cell_on hB x1
    replace hv := hv.trans (hB.mono hv.size)
    have hsz := hB.size
    clear hB
    by_cases hi7 : i < 20
    · have d2 : decide ((i : Int) < 20) = true := decide_eq_true (by omega)
      obtain ⟨i1, hi1⟩ : ∃ i1, 1024 * (i : Int) = i1 := ⟨_, rfl⟩
      obtain ⟨i2, hi2⟩ : ∃ i2, p + i1 = i2 := ⟨_, rfl⟩
      obtain ⟨i3, hi3⟩ : ∃ i3, 604800 * i2 = i3 := ⟨_, rfl⟩
      obtain ⟨m, hmm⟩ : ∃ m, z + i3 = m := ⟨_, rfl⟩
      obtain ⟨n, hnn⟩ : ∃ n, m + q = n := ⟨_, rfl⟩
      obtain ⟨d, hd⟩ : ∃ d, n - near = d := ⟨_, rfl⟩
      have hw1 : IntKind.i64.wrap (1024 * (i : Int)) = i1 := (iw _ (by omega) (by omega)).trans hi1
      have hw2 : IntKind.i64.wrap (p + i1) = i2 := (iw _ (by omega) (by omega)).trans hi2
      have hw3 : IntKind.i64.wrap (604800 * i2) = i3 := (iw _ (by omega) (by omega)).trans hi3
      have hw4 : IntKind.i64.wrap (z + i3) = m := (iw _ (by omega) (by omega)).trans hmm
      have hw5 : IntKind.i64.wrap (m + q) = n := (iw _ (by omega) (by omega)).trans hnn
      have hne : n = n0 + 619315200 * i := by omega
      have hnb : 0 ≤ n ∧ n ≤ 1000000000000 + 700000000 + 619315200 * 20 := by omega
      have HN : Aside0 (∀ b', (if n < tot ∧ (best < 0 ∨ dF n near < dF best near) then n else best) = b' → G = refL near tot (20 - (i + 1)) b' (n0 + 619315200 * ((i + 1 : Nat) : Int))) := ⟨fun b' hb' => by
        have h := HE.out
        rw [show 20 - i = (20 - (i + 1)) + 1 by omega, refL, ← hne, hb'] at h
        rw [h]
        congr 1
        push_cast; omega⟩
      have HD : Aside0 (∀ f, f = (if d < 0 then -d else d) → f = dF n near) := ⟨fun f hf => by rw [hf]; unfold dF; split <;> split <;> omega⟩
      clear HE hne hi1 hi2 hi3 hmm hnn
      have k109 := fun w h => a109 w h
      go_wp2_with fail
      have hS : ∀ w', Below wr.heap.size wr w' → ((w'.cell? ⟨w.heap.size, 0, none⟩ = some (.int .i64 b) ∧ w'.cell? ⟨w.heap.size, 1, none⟩ = some (.slice A l.length c) ∧ w'.cell? ⟨w.heap.size, 2, none⟩ = some (.int .i64 u) ∧ w'.cell? ⟨w.heap.size + 1, 0, none⟩ = some (.int .i64 p) ∧ w'.cell? ⟨w.heap.size + 1, 1, none⟩ = some (.int .i64 q)) ∧ Below wr.heap.size wr w') := fun w' hB => ⟨⟨cell_on hB o0, cell_on hB o1, cell_on hB o2, cell_on hB x0, cell_on hB x1⟩, hB⟩
      go_region_held3 (fun w' => (w'.cell? ⟨w.heap.size, 0, none⟩ = some (.int .i64 b) ∧ w'.cell? ⟨w.heap.size, 1, none⟩ = some (.slice A l.length c) ∧ w'.cell? ⟨w.heap.size, 2, none⟩ = some (.int .i64 u) ∧ w'.cell? ⟨w.heap.size + 1, 0, none⟩ = some (.int .i64 p) ∧ w'.cell? ⟨w.heap.size + 1, 1, none⟩ = some (.int .i64 q)) ∧ Below wr.heap.size wr w') (first | exact hS _ (Below.refl _ _).drew | assumption | (have hh := ‹(_ ∧ _ ∧ _ ∧ _ ∧ _) ∧ Below wr.heap.size wr _›; exact hS _ (hh.2.trans (hB.mono hh.2.size))))
        (first | (go_at_call 109; refine (k109 _ (by have hh := ‹(_ ∧ _ ∧ _ ∧ _ ∧ _) ∧ Below wr.heap.size wr _›; exact Kd.C_below HR.out (hv.trans (hh.2.mono hv.size)))).mono ?_; rintro e w' ⟨rfl, hB⟩))
      rename_i hHeld
      have hV := hHeld.2
      have HV := Aside0.mk (HW.out.trans (hV.mono hsz))
      clear hHeld hS hw1 hw2 hw3 hw4 hw5 k109 hV o0 o1 o2 x0 x1
      by_cases hd0 : d < 0
      all_goals
        have e1 := hd0
        first | rw [if_pos hd0] at HD | rw [if_neg hd0] at HD
        have hF := HD.out _ rfl
        have HF := Aside0.mk hF
        clear hF HD
        by_cases ht : n < tot
        · by_cases hbb : best < 0
          · have HB2 := Aside0.mk (HN.out n (if_pos ⟨ht, Or.inl hbb⟩))
            clear HN
            go_wp2
            go_roundw
            case rel => exact ⟨i + 1, n, _, by omega, by go_num, rfl, rfl, by omega, by omega, ⟨fun _ => HF.out⟩, HB2, HV⟩
            case measure => simp [intOf]; omega
          · have hle := HL.out (by omega)
            by_cases hfl : dF n near < dF best near
            · have HB2 := Aside0.mk (HN.out n (if_pos ⟨ht, Or.inr hfl⟩))
              rw [← hle, ← HF.out] at hfl
              clear HN hle
              go_wp2
              go_roundw
              case rel => exact ⟨i + 1, n, _, by omega, by go_num, rfl, rfl, by omega, by omega, ⟨fun _ => HF.out⟩, HB2, HV⟩
              case measure => simp [intOf]; omega
            · have HB2 := Aside0.mk (HN.out best (if_neg (fun h => h.2.elim hbb hfl)))
              rw [← hle, ← HF.out] at hfl
              clear HN hle
              go_wp2
              go_roundw
              case rel => exact ⟨i + 1, best, least, by omega, by go_num, rfl, rfl, by omega, by omega, HL, HB2, HV⟩
              case measure => simp [intOf]; omega
        · have HB2 := Aside0.mk (HN.out best (if_neg (fun h => ht h.1)))
          clear HN
          go_wp2
          go_roundw
          case rel => exact ⟨i + 1, best, least, by omega, by go_num, rfl, rfl, by omega, by omega, HL, HB2, HV⟩
          case measure => simp [intOf]; omega
    · obtain rfl : i = 20 := by omega
      have hG : G = best := by rw [HE.out]; rfl
      subst hG
      by_cases hbb : G < 0
      all_goals
        have e1 := hbb
        clear x0 x1 HE
        go_wp2
        go_ret2
        exact ⟨by simp [hbb], hv⟩
end Go.Proofs.Ytleipbanadnchaa.C
