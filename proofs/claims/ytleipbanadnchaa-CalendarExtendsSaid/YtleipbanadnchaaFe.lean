/- Contracts of midnight and near, by hand. -/
import Derived.OwnWalk
import Derived.Test.YtleipbanadnchaaFd
import Derived.Test.YtleipbanadnchaaEf
import Derived.Test.YtleipbanadnchaaDb
namespace Go.Proofs.Ytleipbanadnchaa.C
open Go.RowKit Go.Shelf Go.Maps Go.Proofs.YtleipbanadnchaaW.PrintWords Go.Proofs.YtleipbanadnchaaW.PrintLast Go.Proofs.YtleipbanadnchaaW.PrintMore
set_option linter.unusedVariables false
set_option linter.unusedSimpArgs false
attribute [local go_sem] max2_int min2_int max_two min_two
set_option maxHeartbeats 1000000 in
set_option maxRecDepth 100000 in
theorem midnight_calls (n : Int) (w : World) :
    Calls Try.prog 64 #[.int .i64 n] w fun e w' => e = .returned (dateV (kv n (cY n)) (kv n (cM n)) (kv n (cD n)) 0 0 0) ∧ Below w.heap.size w w' := by
  have a30 := fun w => Civil_calls n w
  generalize kv n (cY n) = Y at *
  generalize kv n (cM n) = M at *
  generalize kv n (cD n) = K at *
  generalize ke n = E at *
  go_enter Try.func64, Try.ntmps64
  go_wp2_with fail
  refine (a30 _).mono ?_
  rintro en w1 ⟨rfl, hB⟩
  have hv : Below w.heap.size w w1 := ((Below.refl _ w).alloc (Nat.le_refl _) _).trans (hB.mono (by simp))
  have kr : w1.heap[w.heap.size]? = some (.cells #[.int .i64 0, .int .i64 0, .int .i64 0, .int .i64 0, .int .i64 0, .int .i64 0] 30 (0, 0)) := (hB.block _ (by simp)).trans (al_new _ _ _ (by simp))
  clear hB a30
  have r0 : w1.cell? ⟨w.heap.size, 0, none⟩ = some (.int .i64 0) := blk_cell kr 0
  have r1 : w1.cell? ⟨w.heap.size, 1, none⟩ = some (.int .i64 0) := blk_cell kr 1
  have r2 : w1.cell? ⟨w.heap.size, 2, none⟩ = some (.int .i64 0) := blk_cell kr 2
  have r3 : w1.cell? ⟨w.heap.size, 3, none⟩ = some (.int .i64 0) := blk_cell kr 3
  have r4 : w1.cell? ⟨w.heap.size, 4, none⟩ = some (.int .i64 0) := blk_cell kr 4
  have r5 : w1.cell? ⟨w.heap.size, 5, none⟩ = some (.int .i64 0) := blk_cell kr 5
  have z0 := blk_frozen kr 0
  have z1 := blk_frozen kr 1
  have z2 := blk_frozen kr 2
  have z3 := blk_frozen kr 3
  have z4 := blk_frozen kr 4
  have z5 := blk_frozen kr 5
  go_wp2
  exact bodyPost_ret (results_cell_row rfl _ _ w.heap.size 30 _ (0, 0) _ rfl (blk_put (blk_put (blk_put (blk_put (blk_put (blk_put kr 0 _ rfl) 1 _ rfl) 2 _ rfl) 3 _ rfl) 4 _ rfl) 5 _ rfl) Try.underlying30 rfl info30) rfl
    ⟨rfl, (((((hv.setCell (by simp) _).setCell (by simp) _).setCell (by simp) _).setCell (by simp) _).setCell (by simp) _).setCell (by simp) _⟩
theorem seconds_bound {b u : Int} {l : List (Int × Int)} (hk : checkF b l u = 0) (y m d : Int) : -1000000000000 ≤ (secondsR b l u y m d 0 0 0).1 ∧ (secondsR b l u y m d 0 0 0).1 ≤ 1000000000000 := by
  obtain ⟨_, _, h3, h4, h5, hR⟩ := checkF_right hk
  unfold secondsR
  rw [if_pos hk]
  split
  · rename_i h
    unfold secOk at h
    simp only [Bool.and_eq_true, decide_eq_true_iff] at h
    have h' := okD_iff.1 h.1
    have c : IsCiv (dayN y m d) y m d := ⟨by omega, by omega, by omega, by omega, by omega, rfl⟩
    have h2 := c.in_year
    have h6 := ny_mono (y := 1972) (z := y) (by omega)
    have e1 : ny 1972 = 41316 := by decide
    have hg := hR.take l.length (dayN y m d)
    rw [List.take_length] at hg
    show _ ≤ beginF l (dayN y m d) + _ ∧ beginF l (dayN y m d) + _ ≤ _
    unfold beginF
    omega
  · exact ⟨by decide, by decide⟩
set_option maxHeartbeats 4000000 in
set_option maxRecDepth 100000 in
theorem near_calls (b u : Int) (A : Option Addr) (c : Nat) (l : List (Int × Int)) (tot wh by_ : Int) (w : World) (hr : Kd.C kl w A l.length l) (hk : checkF b l u = 0) (ht0 : 1 ≤ tot) (ht1 : tot ≤ 1000000000000) (hw0 : 0 ≤ wh) (hw1 : wh ≤ 255) :
    Calls Try.prog 18 #[tabV b A l.length c u, .int .i64 tot, .int .u8 wh, .int .i64 by_] w fun e w' => (∃ r, e = .returned (.int .i64 r) ∧ 0 ≤ r ∧ r ≤ tot - 1) ∧ Below w.heap.size w w' := by
  have HR := Aside0.mk hr
  have hlen := (checkF_right hk).2.2.2.2.1
  have HK := Aside0.mk hk
  have htm : -7 ≤ Int.tmod by_ 8 ∧ Int.tmod by_ 8 ≤ 7 := by
    have h1 := Int.tmod_lt_of_pos by_ (b := 8) (by decide)
    have h2 := Int.lt_tmod_of_pos by_ (b := 8) (by decide)
    omega
  clear hr hk
  have hmod : 0 ≤ wh % ((l.length : Int) + 1) ∧ wh % ((l.length : Int) + 1) < (l.length : Int) + 1 := ⟨Int.emod_nonneg _ (by omega), Int.emod_lt_of_pos _ (by omega)⟩
  by_cases hkl : wh % ((l.length : Int) + 1) < (l.length : Int)
  · obtain ⟨kk, hkk⟩ : ∃ kk : Nat, wh % ((l.length : Int) + 1) = (kk : Int) := ⟨(wh % ((l.length : Int) + 1)).toNat, by omega⟩
    rw [hkk] at hkl
    have hklt : kk < l.length := by omega
    have d1 : decide ((kk : Int) < (l.length : Int)) = true := decide_eq_true hkl
    obtain ⟨W0, hW0⟩ : ∃ W0, w.alloc (.cells #[.int .i64 b, .slice A l.length c, .int .i64 u] 28) = W0 := ⟨_, rfl⟩
    have hv : Below w.heap.size w W0 := by rw [← hW0]; exact (Below.refl _ w).alloc (Nat.le_refl _) _
    have kx : W0.heap[w.heap.size]? = some (.cells #[.int .i64 b, .slice A l.length c, .int .i64 u] 28 (0, 0)) := by rw [← hW0]; exact al_new _ _ _ rfl
    obtain ⟨ad, rfl, hc0, hc1⟩ := C_leap (Kd.C_below HR.out hv) kk hklt hklt
    have hst := (checkF_right HK.out).2.2.2.2.2.steps l[kk] (List.getElem_mem _)
    have hu := (checkF_right HK.out).2.2.2.1
    generalize l[kk] = x at *
    obtain ⟨xd, xs⟩ := x
    simp only at hc0 hst
    have t0 : W0.cell? ⟨w.heap.size, 0, none⟩ = some (.int .i64 b) := blk_cell kx 0
    have t1 : W0.cell? ⟨w.heap.size, 1, none⟩ = some (.slice (some ad) l.length c) := blk_cell kx 1
    have t2 : W0.cell? ⟨w.heap.size, 2, none⟩ = some (.int .i64 u) := blk_cell kx 2
    have hw : IntKind.i64.wrap (xd + 1) = xd + 1 := iw _ (by omega) (by omega)
    have a64 := fun w => midnight_calls (xd + 1) w
    have hsb := seconds_bound HK.out (kv (xd + 1) (cY (xd + 1))) (kv (xd + 1) (cM (xd + 1))) (kv (xd + 1) (cD (xd + 1)))
    have a20 := fun w h => Seconds_calls b u (some ad) c l (kv (xd + 1) (cY (xd + 1))) (kv (xd + 1) (cM (xd + 1))) (kv (xd + 1) (cD (xd + 1))) 0 0 0 w h
    generalize secondsR b l u (kv (xd + 1) (cY (xd + 1))) (kv (xd + 1) (cM (xd + 1))) (kv (xd + 1) (cD (xd + 1))) 0 0 0 = R at *
    generalize kv (xd + 1) (cY (xd + 1)) = Y at *
    generalize kv (xd + 1) (cM (xd + 1)) = M at *
    generalize kv (xd + 1) (cD (xd + 1)) = K at *
    obtain ⟨V, E⟩ := R
    simp only at hsb a20
    clear hc1 hmod hst hu kx
    go_enter Try.func18, Try.ntmps18
    go_wp2_with fail
    try rw [hW0]
    try simp only [hkk]
    clear hW0 d1
    have hS : ∀ w', Below W0.heap.size W0 w' → ((w'.cell? ⟨w.heap.size, 0, none⟩ = some (.int .i64 b) ∧ w'.cell? ⟨w.heap.size, 1, none⟩ = some (.slice (some ad) l.length c) ∧ w'.cell? ⟨w.heap.size, 2, none⟩ = some (.int .i64 u) ∧ w'.cell? (ad.add (kk * 2)) = some (.int .i64 xd)) ∧ Below W0.heap.size W0 w') := fun w' hB => ⟨⟨cell_on hB t0, cell_on hB t1, cell_on hB t2, cell_on hB hc0⟩, hB⟩
    have hkn : Int.toNat (kk : Int) = kk := Int.toNat_natCast kk
    have hk0 : (0 : Int) ≤ (kk : Int) := by omega
    go_region_held3 (fun w' => (w'.cell? ⟨w.heap.size, 0, none⟩ = some (.int .i64 b) ∧ w'.cell? ⟨w.heap.size, 1, none⟩ = some (.slice (some ad) l.length c) ∧ w'.cell? ⟨w.heap.size, 2, none⟩ = some (.int .i64 u) ∧ w'.cell? (ad.add (kk * 2)) = some (.int .i64 xd)) ∧ Below W0.heap.size W0 w') (first | exact hS _ (Below.refl _ _).drew | assumption | (have hh := ‹(_ ∧ _ ∧ _ ∧ _) ∧ Below W0.heap.size W0 _›; exact hS _ (hh.2.trans (hB.mono hh.2.size))))
      (first | (go_at_call 64; refine (a64 _).mono ?_; rintro e w' ⟨rfl, hB⟩) | (go_at_call 20; refine (a20 _ (by have hh := ‹(_ ∧ _ ∧ _ ∧ _) ∧ Below W0.heap.size W0 _›; exact Kd.C_below HR.out (hv.trans (hh.2.mono hv.size)))).mono ?_; rintro e w' ⟨rfl, hB⟩))
    rename_i hHeld
    have hV := hHeld.2
    clear hHeld hS hw a64 a20 hkn
    have hvf := hv.trans (hV.mono hv.size)
    clear hv hV t0 t1 t2 hc0
    by_cases hE : E = 0
    all_goals
      have qE := hE
      go_wp2
      all_goals
        go_ret
        refine ⟨⟨_, rfl, ?_, ?_⟩, hvf⟩ <;> first | omega | (split at * <;> omega) | ((repeat' split) <;> omega)
  · have d1 : decide (wh % ((l.length : Int) + 1) < (l.length : Int)) = false := decide_eq_false hkl
    go_enter Try.func18, Try.ntmps18
    go_wp2
    all_goals
      go_ret
      refine ⟨⟨_, rfl, ?_, ?_⟩, (Below.refl _ w).alloc (Nat.le_refl _) _⟩ <;> first | omega | (split at * <;> omega) | ((repeat' split) <;> omega)
end Go.Proofs.Ytleipbanadnchaa.C
