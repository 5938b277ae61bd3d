/- Contracts of the reference's split, Dates and Announced, by hand. -/
import Derived.OwnWalk
import Derived.Test.YtleipbanadnchaaEc
import Derived.Test.YtleipbanadnchaaDf
namespace Go.Proofs.Ytleipbanadnchaa.C
open Go.RowKit Go.Shelf Go.Maps Go.Proofs.YtleipbanadnchaaW.PrintWords Go.Proofs.YtleipbanadnchaaW.PrintLast Go.Proofs.YtleipbanadnchaaW.PrintMore
set_option linter.unusedVariables false
set_option linter.unusedSimpArgs false
attribute [local go_sem] max2_int min2_int max_two min_two
set_option maxHeartbeats 2000000 in
set_option maxRecDepth 100000 in
theorem rsplit_calls (b u : Int) (A : Option Addr) (c : Nat) (l : List (Int × Int)) (s D : Int) (w : World) (hr : Kd.C kl w A l.length l) (hk : checkF b l u = 0) (hD : IsDay l u s D) :
    Calls Try.prog 113 #[tabV b A l.length c u, .int .i64 s] w fun e w' => e = .returned (.tuple #[.int .i64 D, .int .i64 (s - beginF l D)]) ∧ Below w.heap.size w w' := by
  obtain ⟨h1, h2, h3, h4, h5, h6⟩ := checkF_right hk
  have HBX := Aside0.mk (show ∀ x, 0 ≤ x → x ≤ 100000 → ∀ w, Kd.C kl w A l.length l → Calls Try.prog 109 #[tabV b A l.length c u, .int .i64 x] w fun e w' => e = .returned (.int .i64 (beginF l x)) ∧ Below w.heap.size w w' from fun x h0 h1 w h => rbegin_calls b u u A c l x (by omega) (by omega) w h h6 h5)
  have HB := Aside0.mk (show ∀ z, (beginF l z ≤ s ↔ z ≤ D) from fun z => hD.begin_lt h6)
  have hkn := knowsB_iff.1 (hD.knows h6)
  have hbu := beginU hk
  have hD0 := hD.d0
  have hD1 := hD.d1
  have hbD : 0 ≤ beginF l D ∧ beginF l D ≤ s := by
    have := h6.mono hD.d0
    rw [h6.first] at this
    exact ⟨by omega, hD.lo⟩
  have hs0 := hkn.1
  have hs1 : s ≤ 1000000000000 := by omega
  have HR := Aside0.mk hr
  have hwu : IntKind.i64.wrap (u - 1) = u - 1 := iw _ (by omega) (by omega)
  clear hr hk hD hkn hbu h6
  go_enter Try.func113, Try.ntmps113
  go_wp2_with fail
  obtain ⟨W0, hW0⟩ : ∃ W0, w.alloc (.cells #[.int .i64 b, .slice A l.length c, .int .i64 u] 90) = W0 := ⟨_, rfl⟩
  rw [hW0]
  have HW0 : Aside0 (Below w.heap.size w W0 ∧ W0.heap[w.heap.size]? = some (.cells #[.int .i64 b, .slice A l.length c, .int .i64 u] 90 (0, 0))) := ⟨by rw [← hW0]; exact (Below.refl _ w).alloc (Nat.le_refl _) _, by rw [← hW0]; exact al_new _ _ _ rfl⟩
  have t2 : W0.cell? ⟨w.heap.size, 2, none⟩ = some (.int .i64 u) := blk_cell HW0.out.2 2
  clear hW0
  go_quiet (fail)
  clear t2 hwu
  try go_wp2_with fail
  go_loopw [6, 7] (fun v6 v7 wr => ∃ x y : Int, 41317 ≤ x ∧ x ≤ D ∧ D ≤ y ∧ y ≤ u - 1 ∧ v6 = .int .i64 x ∧ v7 = .int .i64 y ∧ Aside0 (Below w.heap.size w wr ∧ wr.heap[w.heap.size]? = some (.cells #[.int .i64 b, .slice A l.length c, .int .i64 u] 90 (0, 0)))) (fun v6 v7 _ => (intOf v7 - intOf v6).toNat)
  case atStart => exact ⟨41317, u - 1, by omega, by omega, by omega, by omega, rfl, rfl, ⟨by first | exact HW0.out.1 | exact pw_below_drewN HW0.out.1 _ | exact below_drew1 HW0.out.1, HW0.out.2⟩⟩
  case round =>
    obtain ⟨x, y, hx0, hx1, hy0, hy1, rfl, rfl, HW⟩ := hrel
    have t0 : wr.cell? ⟨w.heap.size, 0, none⟩ = some (.int .i64 b) := blk_cell HW.out.2 0
    have t1 : wr.cell? ⟨w.heap.size, 1, none⟩ = some (.slice A l.length c) := blk_cell HW.out.2 1
    have t2 : wr.cell? ⟨w.heap.size, 2, none⟩ = some (.int .i64 u) := blk_cell HW.out.2 2
    by_cases hlt : x < y
    · have d1 : decide (x < y) = true := decide_eq_true hlt
      have hmb : x < (x + y + 1) / 2 ∧ (x + y + 1) / 2 ≤ y := by omega
      obtain ⟨m, hm⟩ : ∃ m, (x + y + 1) / 2 = m := ⟨_, rfl⟩
      rw [hm] at hmb
      have hbm := HB.out m
      by_cases hle : m ≤ D
      · have d2 : decide (beginF l m ≤ s) = true := decide_eq_true (by omega)
        go_wp2_with fail
        refine (HBX.out m (by omega) (by omega) _ (Kd.C_below HR.out HW.out.1)).mono ?_
        rintro en w1 ⟨rfl, hB⟩
        have HW1 : Aside0 (Below w.heap.size w w1 ∧ w1.heap[w.heap.size]? = some (.cells #[.int .i64 b, .slice A l.length c, .int .i64 u] 90 (0, 0))) := ⟨HW.out.1.trans (hB.mono HW.out.1.size), (hB.block _ (Array.getElem?_eq_some_iff.1 HW.out.2).1).trans HW.out.2⟩
        clear hB
        go_wp2
        go_roundw
        case rel => exact ⟨m, y, by omega, by omega, by omega, by omega, rfl, rfl, HW1⟩
        case measure => simp [intOf]; omega
      · have d2 : decide (beginF l m ≤ s) = false := decide_eq_false (by omega)
        go_wp2_with fail
        refine (HBX.out m (by omega) (by omega) _ (Kd.C_below HR.out HW.out.1)).mono ?_
        rintro en w1 ⟨rfl, hB⟩
        have HW1 : Aside0 (Below w.heap.size w w1 ∧ w1.heap[w.heap.size]? = some (.cells #[.int .i64 b, .slice A l.length c, .int .i64 u] 90 (0, 0))) := ⟨HW.out.1.trans (hB.mono HW.out.1.size), (hB.block _ (Array.getElem?_eq_some_iff.1 HW.out.2).1).trans HW.out.2⟩
        clear hB
        go_wp2
        go_roundw
        case rel => exact ⟨x, m - 1, by omega, by omega, by omega, by omega, rfl, rfl, HW1⟩
        case measure => simp [intOf]; omega
    · have d1 : decide (x < y) = false := decide_eq_false hlt
      obtain rfl : x = D := by omega
      go_wp2_with fail
      refine (HBX.out x (by omega) (by omega) _ (Kd.C_below HR.out HW.out.1)).mono ?_
      rintro en w1 ⟨rfl, hB⟩
      go_wp2
      go_ret2
      exact ⟨rfl, HW.out.1.trans (hB.mono HW.out.1.size)⟩
theorem info98 : (Try.prog.info? 98).map (·.size) = some 6 := by kernel_rfl
theorem ck_eq {n : Int} (h0 : 0 ≤ n) (h1 : n ≤ 86400) : (1439 < n / 60 ∧ ckH n = 23 ∧ ckM n = 59 ∧ ckS n = n - 86340) ∨ (n / 60 ≤ 1439 ∧ ckH n = n / 60 / 60 ∧ ckM n = n / 60 % 60 ∧ ckS n = n - 60 * (n / 60)) := by
  unfold ckH ckM ckS
  by_cases h : 86400 ≤ n
  · rw [if_pos h, if_pos h, if_pos h]; omega
  · rw [if_neg h, if_neg h, if_neg h]; omega
set_option maxHeartbeats 1000000 in
set_option maxRecDepth 100000 in
theorem rDates_err (b u : Int) (A : Option Addr) (c : Nat) (l : List (Int × Int)) (s : Int) (w : World) (hr : Kd.C kl w A l.length l) (hk : askE b l u s ≠ 0) :
    Calls Try.prog 58 #[tabV b A l.length c u, .int .i64 s] w fun e w' => e = .returned (.tuple #[dateV 0 0 0 0 0 0, .int .i64 (askE b l u s)]) ∧ Below w.heap.size w w' := by
  have HR := Aside0.mk hr
  have a112 := fun w h => rknownS_calls b u A c l s w h
  clear hr
  have q1 : (askE b l u s == 0) = false := beq_eq_false_iff_ne.2 hk
  have q2 : (askE b l u s != 0) = true := bne_iff_ne.2 hk
  generalize askE b l u s = q at *
  go_enter Try.func58, Try.ntmps58
  go_wp2_with fail
  refine (a112 _ (Kd.C_below HR.out (((Below.refl _ w).alloc (Nat.le_refl _) _).alloc (by simp) _))).mono ?_
  rintro en w1 ⟨rfl, hB⟩
  have hv : Below w.heap.size w w1 := (((Below.refl _ w).alloc (Nat.le_refl _) _).alloc (by simp) _).trans (hB.mono (by simp; omega))
  have kr : w1.heap[w.heap.size + 1]? = some (.cells #[.int .i64 0, .int .i64 0, .int .i64 0, .int .i64 0, .int .i64 0, .int .i64 0] 98 (0, 0)) := (hB.block _ (by simp)).trans (al_new _ _ _ (by simp))
  clear hB a112
  have r0 : w1.cell? ⟨w.heap.size + 1, 0, none⟩ = some (.int .i64 0) := blk_cell kr 0
  have r1 : w1.cell? ⟨w.heap.size + 1, 1, none⟩ = some (.int .i64 0) := blk_cell kr 1
  have r2 : w1.cell? ⟨w.heap.size + 1, 2, none⟩ = some (.int .i64 0) := blk_cell kr 2
  have r3 : w1.cell? ⟨w.heap.size + 1, 3, none⟩ = some (.int .i64 0) := blk_cell kr 3
  have r4 : w1.cell? ⟨w.heap.size + 1, 4, none⟩ = some (.int .i64 0) := blk_cell kr 4
  have r5 : w1.cell? ⟨w.heap.size + 1, 5, none⟩ = some (.int .i64 0) := blk_cell kr 5
  have z0 := blk_frozen kr 0
  have z1 := blk_frozen kr 1
  have z2 := blk_frozen kr 2
  have z3 := blk_frozen kr 3
  have z4 := blk_frozen kr 4
  have z5 := blk_frozen kr 5
  go_wp2
  exact bodyPost_ret (results_row_tmp rfl _ _ (w.heap.size + 1) 98 _ (0, 0) _ rfl (blk_put (blk_put (blk_put (blk_put (blk_put (blk_put kr 0 _ rfl) 1 _ rfl) 2 _ rfl) 3 _ rfl) 4 _ rfl) 5 _ rfl) Try.underlying98 rfl info98) rfl
    ⟨rfl, (((((hv.setCell (by simp) _).setCell (by simp) _).setCell (by simp) _).setCell (by simp) _).setCell (by simp) _).setCell (by simp) _⟩
set_option maxHeartbeats 2000000 in
set_option maxRecDepth 100000 in
theorem rDates_ok (b u : Int) (A : Option Addr) (c : Nat) (l : List (Int × Int)) (s D : Int) (w : World) (hr : Kd.C kl w A l.length l) (hk : askE b l u s = 0) (hD : IsDay l u s D) :
    Calls Try.prog 58 #[tabV b A l.length c u, .int .i64 s] w fun e w' => e = .returned (.tuple #[dateV (cY D) (cM D) (cD D) (ckH (s - beginF l D)) (ckM (s - beginF l D)) (ckS (s - beginF l D)), .int .i64 0]) ∧ Below w.heap.size w w' := by
  have HR := Aside0.mk hr
  have hz := askE_zero hk
  obtain ⟨h1, h2, h3, h4, h5, h6⟩ := checkF_right hz.1
  have a112 := fun w h => rknownS_calls b u A c l s w h
  have a113 := fun w h => rsplit_calls b u A c l s D w h hz.1 hD
  have a45 := fun w => refCivil_calls D w
  unfold kv ke at a45
  rw [knownB_iff.2 ⟨hD.d0, by have := hD.d1; omega⟩, if_pos rfl, if_pos rfl, if_pos rfl, if_pos rfl] at a45
  have hn := h6.next D
  have hlo := hD.lo
  have hhi := hD.hi
  have hck := ck_eq (n := s - beginF l D) (by omega) (by omega)
  have hnb : 0 ≤ s - beginF l D ∧ s - beginF l D ≤ 86400 := by omega
  clear hr hD hz h6 hn hlo hhi
  generalize s - beginF l D = n at *
  generalize cY D = Y at *
  generalize cM D = M at *
  generalize cD D = K at *
  rw [hk] at a112
  clear hk
  rcases hck with ⟨hmm, e1, e2, e3⟩ | ⟨hmm, e1, e2, e3⟩
  all_goals
    rw [e1, e2, e3]
    clear e1 e2 e3
    go_enter Try.func58, Try.ntmps58
    go_wp2_with fail
    refine (a112 _ (Kd.C_below HR.out (((Below.refl _ w).alloc (Nat.le_refl _) _).alloc (by simp) _))).mono ?_
    rintro en w1 ⟨rfl, hB⟩
    have hv : Below w.heap.size w w1 := (((Below.refl _ w).alloc (Nat.le_refl _) _).alloc (by simp) _).trans (hB.mono (by simp; omega))
    have kr : w1.heap[w.heap.size + 1]? = some (.cells #[.int .i64 0, .int .i64 0, .int .i64 0, .int .i64 0, .int .i64 0, .int .i64 0] 98 (0, 0)) := (hB.block _ (by simp)).trans (al_new _ _ _ (by simp))
    have kx : w1.heap[w.heap.size]? = some (.cells #[.int .i64 b, .slice A l.length c, .int .i64 u] 90 (0, 0)) := (hB.block _ (by simp; omega)).trans (al_old (al_new _ _ _ rfl))
    have t0 : w1.cell? ⟨w.heap.size, 0, none⟩ = some (.int .i64 b) := blk_cell kx 0
    have t1 : w1.cell? ⟨w.heap.size, 1, none⟩ = some (.slice A l.length c) := blk_cell kx 1
    have t2 : w1.cell? ⟨w.heap.size, 2, none⟩ = some (.int .i64 u) := blk_cell kx 2
    clear hB a112 kx
    go_wp2_with fail
    refine (a113 _ (Kd.C_below HR.out hv)).mono ?_
    rintro en w2 ⟨rfl, hB⟩
    have hv2 := hv.trans (hB.mono hv.size)
    replace kr := (hB.block _ (Array.getElem?_eq_some_iff.1 kr).1).trans kr
    clear hB hv a113 t0 t1 t2
    go_wp2_with fail
    refine (a45 _).mono ?_
    rintro en w3 ⟨rfl, hB⟩
    have hv3 := hv2.trans (hB.mono hv2.size)
    replace kr := (hB.block _ (Array.getElem?_eq_some_iff.1 kr).1).trans kr
    clear hB hv2 a45
    have r0 : w3.cell? ⟨w.heap.size + 1, 0, none⟩ = some (.int .i64 0) := blk_cell kr 0
    have r1 : w3.cell? ⟨w.heap.size + 1, 1, none⟩ = some (.int .i64 0) := blk_cell kr 1
    have r2 : w3.cell? ⟨w.heap.size + 1, 2, none⟩ = some (.int .i64 0) := blk_cell kr 2
    have r3 : w3.cell? ⟨w.heap.size + 1, 3, none⟩ = some (.int .i64 0) := blk_cell kr 3
    have r4 : w3.cell? ⟨w.heap.size + 1, 4, none⟩ = some (.int .i64 0) := blk_cell kr 4
    have r5 : w3.cell? ⟨w.heap.size + 1, 5, none⟩ = some (.int .i64 0) := blk_cell kr 5
    have z0 := blk_frozen kr 0
    have z1 := blk_frozen kr 1
    have z2 := blk_frozen kr 2
    have z3 := blk_frozen kr 3
    have z4 := blk_frozen kr 4
    have z5 := blk_frozen kr 5
    go_wp2
    exact bodyPost_ret (results_row_tmp rfl _ _ (w.heap.size + 1) 98 _ (0, 0) _ rfl (blk_put (blk_put (blk_put (blk_put (blk_put (blk_put kr 0 _ rfl) 1 _ rfl) 2 _ rfl) 3 _ rfl) 4 _ rfl) 5 _ rfl) Try.underlying98 rfl info98) rfl
      ⟨rfl, (((((hv3.setCell (by simp) _).setCell (by simp) _).setCell (by simp) _).setCell (by simp) _).setCell (by simp) _).setCell (by simp) _⟩
end Go.Proofs.Ytleipbanadnchaa.C
