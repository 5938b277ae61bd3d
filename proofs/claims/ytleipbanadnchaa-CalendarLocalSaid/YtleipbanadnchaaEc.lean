/- Contracts of the reference's Length, Offset, Total, known and Atomic, by hand. -/
import Derived.OwnWalk
import Derived.Test.YtleipbanadnchaaEa
import Derived.Test.YtleipbanadnchaaEb
namespace Go.Proofs.Ytleipbanadnchaa.C
open Go.RowKit Go.Shelf Go.Maps Go.Proofs.YtleipbanadnchaaW.PrintWords Go.Proofs.YtleipbanadnchaaW.PrintLast Go.Proofs.YtleipbanadnchaaW.PrintMore
set_option linter.unusedVariables false
set_option linter.unusedSimpArgs false
set_option maxHeartbeats 1000000 in
set_option maxRecDepth 100000 in
theorem rLength_calls (b u : Int) (A : Option Addr) (c : Nat) (l : List (Int × Int)) (d : Int) (w : World) (hr : Kd.C kl w A l.length l) :
    Calls Try.prog 54 #[tabV b A l.length c u, .int .i64 d] w fun e w' => e = .returned (.tuple #[.int .i64 (lengthR b l u d).1, .int .i64 (lengthR b l u d).2]) ∧ Below w.heap.size w w' := by
  have HR := Aside0.mk hr
  have a53 := fun w h => rcheck_calls b u A c l w h
  clear hr
  unfold lengthR
  by_cases hk : checkF b l u = 0
  · rw [if_pos hk]
    obtain ⟨h1, h2, h3, h4, h5, h6⟩ := checkF_right hk
    have H6 := Aside0.mk h6
    have hgb := fun d => h6.take l.length d
    rw [List.take_length] at hgb
    rw [hk] at a53
    clear h6
    have c104 := fun w => rin_calls d 41317 (u - 1) w
    by_cases hd : 41317 ≤ d ∧ d ≤ u - 1
    · rw [if_pos hd]
      rw [show (decide (41317 ≤ d) && decide (d ≤ u - 1)) = true by simp; omega] at c104
      have hnx := H6.out.next d
      have HBX := Aside0.mk (show ∀ x, 0 ≤ x → x ≤ 100000 → ∀ w, Kd.C kl w A l.length l → Calls Try.prog 109 #[tabV b A l.length c u, .int .i64 x] w fun e w' => e = .returned (.int .i64 (beginF l x)) ∧ Below w.heap.size w w' from fun x h0 h1 w h => rbegin_calls b u u A c l x (by omega) (by omega) w h H6.out h5)
      obtain ⟨d1, hd1⟩ : ∃ d1, d + 1 = d1 := ⟨_, rfl⟩
      have hw1 : IntKind.i64.wrap (d + 1) = d1 := (iw _ (by omega) (by omega)).trans hd1
      have hw2 : Aside0 (IntKind.i64.wrap (beginF l d1 - beginF l d) = 86400 + stepF l d) := ⟨by rw [← hd1, hnx.1, show beginF l d + 86400 + stepF l d - beginF l d = 86400 + stepF l d by omega]; exact iw _ (by omega) (by omega)⟩
      have hb0 : 0 ≤ d ∧ d ≤ 100000 ∧ 0 ≤ d1 ∧ d1 ≤ 100000 := by omega
      clear hnx hd1 hk hgb
      go_enter Try.func54, Try.ntmps54
      go_wp2_with fail
      refine (a53 _ (Kd.C_below HR.out ((Below.refl _ w).alloc (Nat.le_refl _) _))).mono ?_
      rintro en w1 ⟨rfl, hB⟩
      have hv : Below w.heap.size w w1 := ((Below.refl _ w).alloc (Nat.le_refl _) _).trans (hB.mono (by simp))
      have kx : w1.heap[w.heap.size]? = some (.cells #[.int .i64 b, .slice A l.length c, .int .i64 u] 90 (0, 0)) := (hB.block _ (by simp)).trans (al_new _ _ _ rfl)
      have t0 : w1.cell? ⟨w.heap.size, 0, none⟩ = some (.int .i64 b) := blk_cell kx 0
      have t1 : w1.cell? ⟨w.heap.size, 1, none⟩ = some (.slice A l.length c) := blk_cell kx 1
      have t2 : w1.cell? ⟨w.heap.size, 2, none⟩ = some (.int .i64 u) := blk_cell kx 2
      clear hB a53
      go_wp2_with fail
      refine (c104 _).mono ?_
      rintro en w2 ⟨rfl, hB⟩
      have hv2 := hv.trans (hB.mono hv.size)
      replace t0 := cell_on hB t0
      replace t1 := cell_on hB t1
      replace t2 := cell_on hB t2
      clear hB hv c104 kx
      go_wp2_with fail
      have hS : ∀ w', Below w2.heap.size w2 w' → ((w'.cell? ⟨w.heap.size, 0, none⟩ = some (.int .i64 b) ∧ w'.cell? ⟨w.heap.size, 1, none⟩ = some (.slice A l.length c) ∧ w'.cell? ⟨w.heap.size, 2, none⟩ = some (.int .i64 u)) ∧ Below w2.heap.size w2 w') := fun w' hB => ⟨⟨cell_on hB t0, cell_on hB t1, cell_on hB t2⟩, hB⟩
      go_region_held3 (fun w' => (w'.cell? ⟨w.heap.size, 0, none⟩ = some (.int .i64 b) ∧ w'.cell? ⟨w.heap.size, 1, none⟩ = some (.slice A l.length c) ∧ w'.cell? ⟨w.heap.size, 2, none⟩ = some (.int .i64 u)) ∧ Below w2.heap.size w2 w') (first | exact hS _ (Below.refl _ _).drew | assumption | (have hh := ‹(_ ∧ _ ∧ _) ∧ Below w2.heap.size w2 _›; exact hS _ (hh.2.trans (hB.mono hh.2.size))))
        (first | (go_at_call 109; refine (HBX.out _ (by omega) (by omega) _ (by have hh := ‹(_ ∧ _ ∧ _) ∧ Below w2.heap.size w2 _›; exact Kd.C_below HR.out (hv2.trans (hh.2.mono hv2.size)))).mono ?_; rintro e w' ⟨rfl, hB⟩))
      rename_i hHeld
      have hV := hHeld.2
      clear hHeld hS hw1
      try go_wp2
      go_ret2
      exact ⟨by first | rfl | (rw [← hw2.out]; rfl), hv2.trans (hV.mono hv2.size)⟩
    · rw [if_neg hd]
      rw [show (decide (41317 ≤ d) && decide (d ≤ u - 1)) = false by simp; omega] at c104
      clear hk hgb hd
      go_enter Try.func54, Try.ntmps54
      go_wp2_with fail
      refine (a53 _ (Kd.C_below HR.out ((Below.refl _ w).alloc (Nat.le_refl _) _))).mono ?_
      rintro en w1 ⟨rfl, hB⟩
      have hv : Below w.heap.size w w1 := ((Below.refl _ w).alloc (Nat.le_refl _) _).trans (hB.mono (by simp))
      have kx : w1.heap[w.heap.size]? = some (.cells #[.int .i64 b, .slice A l.length c, .int .i64 u] 90 (0, 0)) := (hB.block _ (by simp)).trans (al_new _ _ _ rfl)
      have t0 : w1.cell? ⟨w.heap.size, 0, none⟩ = some (.int .i64 b) := blk_cell kx 0
      have t1 : w1.cell? ⟨w.heap.size, 1, none⟩ = some (.slice A l.length c) := blk_cell kx 1
      have t2 : w1.cell? ⟨w.heap.size, 2, none⟩ = some (.int .i64 u) := blk_cell kx 2
      clear hB a53
      go_wp2_with fail
      refine (c104 _).mono ?_
      rintro en w2 ⟨rfl, hB⟩
      have hv2 := hv.trans (hB.mono hv.size)
      go_wp2
      go_ret2
      exact ⟨rfl, hv2⟩
  · rw [if_neg hk]
    have q1 : (checkF b l u == 0) = false := beq_eq_false_iff_ne.2 hk
    have q2 : (checkF b l u != 0) = true := bne_iff_ne.2 hk
    generalize checkF b l u = q at *
    go_enter Try.func54, Try.ntmps54
    go_wp2_with fail
    refine (a53 _ (Kd.C_below HR.out ((Below.refl _ w).alloc (Nat.le_refl _) _))).mono ?_
    rintro en w1 ⟨rfl, hB⟩
    have hv : Below w.heap.size w w1 := ((Below.refl _ w).alloc (Nat.le_refl _) _).trans (hB.mono (by simp))
    go_wp2
    go_ret2
    exact ⟨rfl, hv⟩
set_option maxHeartbeats 1000000 in
set_option maxRecDepth 100000 in
theorem rOffset_calls (b u : Int) (A : Option Addr) (c : Nat) (l : List (Int × Int)) (d : Int) (w : World) (hr : Kd.C kl w A l.length l) :
    Calls Try.prog 55 #[tabV b A l.length c u, .int .i64 d] w fun e w' => e = .returned (.tuple #[.int .i64 (offsetR b l u d).1, .int .i64 (offsetR b l u d).2]) ∧ Below w.heap.size w w' := by
  have HR := Aside0.mk hr
  have a53 := fun w h => rcheck_calls b u A c l w h
  clear hr
  unfold offsetR
  by_cases hk : checkF b l u = 0
  · rw [if_pos hk]
    obtain ⟨h1, h2, h3, h4, h5, h6⟩ := checkF_right hk
    have H6 := Aside0.mk h6
    have hgb := fun d => h6.take l.length d
    rw [List.take_length] at hgb
    rw [hk] at a53
    clear h6
    have c104 := fun w => rin_calls d 41317 (u - 1) w
    by_cases hd : 41317 ≤ d ∧ d ≤ u - 1
    · rw [if_pos hd]
      rw [show (decide (41317 ≤ d) && decide (d ≤ u - 1)) = true by simp; omega] at c104
      have a110 := fun w h => rgrown_calls b u u A c l d w h H6.out h5
      have hgd := hgb d
      clear hk hgb
      generalize grownF l d = g at *
      have hw2 : IntKind.i64.wrap (b + g) = b + g := iw _ (by omega) (by omega)
      go_enter Try.func55, Try.ntmps55
      go_wp2_with fail
      refine (a53 _ (Kd.C_below HR.out ((Below.refl _ w).alloc (Nat.le_refl _) _))).mono ?_
      rintro en w1 ⟨rfl, hB⟩
      have hv : Below w.heap.size w w1 := ((Below.refl _ w).alloc (Nat.le_refl _) _).trans (hB.mono (by simp))
      have kx : w1.heap[w.heap.size]? = some (.cells #[.int .i64 b, .slice A l.length c, .int .i64 u] 90 (0, 0)) := (hB.block _ (by simp)).trans (al_new _ _ _ rfl)
      have t0 : w1.cell? ⟨w.heap.size, 0, none⟩ = some (.int .i64 b) := blk_cell kx 0
      have t1 : w1.cell? ⟨w.heap.size, 1, none⟩ = some (.slice A l.length c) := blk_cell kx 1
      have t2 : w1.cell? ⟨w.heap.size, 2, none⟩ = some (.int .i64 u) := blk_cell kx 2
      clear hB a53
      go_wp2_with fail
      refine (c104 _).mono ?_
      rintro en w2 ⟨rfl, hB⟩
      have hv2 := hv.trans (hB.mono hv.size)
      replace t0 := cell_on hB t0
      replace t1 := cell_on hB t1
      replace t2 := cell_on hB t2
      clear hB hv c104 kx
      go_wp2_with fail
      have hS : ∀ w', Below w2.heap.size w2 w' → ((w'.cell? ⟨w.heap.size, 0, none⟩ = some (.int .i64 b) ∧ w'.cell? ⟨w.heap.size, 1, none⟩ = some (.slice A l.length c) ∧ w'.cell? ⟨w.heap.size, 2, none⟩ = some (.int .i64 u)) ∧ Below w2.heap.size w2 w') := fun w' hB => ⟨⟨cell_on hB t0, cell_on hB t1, cell_on hB t2⟩, hB⟩
      go_region_held3 (fun w' => (w'.cell? ⟨w.heap.size, 0, none⟩ = some (.int .i64 b) ∧ w'.cell? ⟨w.heap.size, 1, none⟩ = some (.slice A l.length c) ∧ w'.cell? ⟨w.heap.size, 2, none⟩ = some (.int .i64 u)) ∧ Below w2.heap.size w2 w') (first | exact hS _ (Below.refl _ _).drew | assumption | (have hh := ‹(_ ∧ _ ∧ _) ∧ Below w2.heap.size w2 _›; exact hS _ (hh.2.trans (hB.mono hh.2.size))))
        (first | (go_at_call 110; refine (a110 _ (by have hh := ‹(_ ∧ _ ∧ _) ∧ Below w2.heap.size w2 _›; exact Kd.C_below HR.out (hv2.trans (hh.2.mono hv2.size)))).mono ?_; rintro e w' ⟨rfl, hB⟩))
      rename_i hHeld
      have hV := hHeld.2
      clear hHeld hS
      try go_wp2
      go_ret2
      exact ⟨by first | rfl | (rw [← hw2]; rfl), hv2.trans (hV.mono hv2.size)⟩
    · rw [if_neg hd]
      rw [show (decide (41317 ≤ d) && decide (d ≤ u - 1)) = false by simp; omega] at c104
      clear hk hgb hd
      go_enter Try.func55, Try.ntmps55
      go_wp2_with fail
      refine (a53 _ (Kd.C_below HR.out ((Below.refl _ w).alloc (Nat.le_refl _) _))).mono ?_
      rintro en w1 ⟨rfl, hB⟩
      have hv : Below w.heap.size w w1 := ((Below.refl _ w).alloc (Nat.le_refl _) _).trans (hB.mono (by simp))
      have kx : w1.heap[w.heap.size]? = some (.cells #[.int .i64 b, .slice A l.length c, .int .i64 u] 90 (0, 0)) := (hB.block _ (by simp)).trans (al_new _ _ _ rfl)
      have t0 : w1.cell? ⟨w.heap.size, 0, none⟩ = some (.int .i64 b) := blk_cell kx 0
      have t1 : w1.cell? ⟨w.heap.size, 1, none⟩ = some (.slice A l.length c) := blk_cell kx 1
      have t2 : w1.cell? ⟨w.heap.size, 2, none⟩ = some (.int .i64 u) := blk_cell kx 2
      clear hB a53
      go_wp2_with fail
      refine (c104 _).mono ?_
      rintro en w2 ⟨rfl, hB⟩
      have hv2 := hv.trans (hB.mono hv.size)
      go_wp2
      go_ret2
      exact ⟨rfl, hv2⟩
  · rw [if_neg hk]
    have q1 : (checkF b l u == 0) = false := beq_eq_false_iff_ne.2 hk
    have q2 : (checkF b l u != 0) = true := bne_iff_ne.2 hk
    generalize checkF b l u = q at *
    go_enter Try.func55, Try.ntmps55
    go_wp2_with fail
    refine (a53 _ (Kd.C_below HR.out ((Below.refl _ w).alloc (Nat.le_refl _) _))).mono ?_
    rintro en w1 ⟨rfl, hB⟩
    have hv : Below w.heap.size w w1 := ((Below.refl _ w).alloc (Nat.le_refl _) _).trans (hB.mono (by simp))
    go_wp2
    go_ret2
    exact ⟨rfl, hv⟩
set_option maxRecDepth 100000 in
theorem rTotal_calls (b u : Int) (A : Option Addr) (c : Nat) (l : List (Int × Int)) (w : World) (hr : Kd.C kl w A l.length l) :
    Calls Try.prog 56 #[tabV b A l.length c u] w fun e w' => e = .returned (.tuple #[.int .i64 (totalR b l u).1, .int .i64 (totalR b l u).2]) ∧ Below w.heap.size w w' := by
  have HR := Aside0.mk hr
  have a53 := fun w h => rcheck_calls b u A c l w h
  clear hr
  unfold totalR
  by_cases hk : checkF b l u = 0
  · rw [if_pos hk]
    obtain ⟨h1, h2, h3, h4, h5, h6⟩ := checkF_right hk
    have H6 := Aside0.mk h6
    have hgb := fun d => h6.take l.length d
    rw [List.take_length] at hgb
    rw [hk] at a53
    clear h6
    have a109 := fun w h => rbegin_calls b u u A c l u (by omega) (by omega) w h H6.out h5
    clear hk hgb
    go_enter Try.func56, Try.ntmps56
    go_wp2_with fail
    refine (a53 _ (Kd.C_below HR.out ((Below.refl _ w).alloc (Nat.le_refl _) _))).mono ?_
    rintro en w1 ⟨rfl, hB⟩
    have hv : Below w.heap.size w w1 := ((Below.refl _ w).alloc (Nat.le_refl _) _).trans (hB.mono (by simp))
    have kx : w1.heap[w.heap.size]? = some (.cells #[.int .i64 b, .slice A l.length c, .int .i64 u] 90 (0, 0)) := (hB.block _ (by simp)).trans (al_new _ _ _ rfl)
    have t0 : w1.cell? ⟨w.heap.size, 0, none⟩ = some (.int .i64 b) := blk_cell kx 0
    have t1 : w1.cell? ⟨w.heap.size, 1, none⟩ = some (.slice A l.length c) := blk_cell kx 1
    have t2 : w1.cell? ⟨w.heap.size, 2, none⟩ = some (.int .i64 u) := blk_cell kx 2
    clear hB a53
    go_wp2_with fail
    refine (a109 _ (Kd.C_below HR.out hv)).mono ?_
    rintro en w2 ⟨rfl, hB⟩
    go_wp2
    go_ret2
    exact ⟨rfl, hv.trans (hB.mono hv.size)⟩
  · rw [if_neg hk]
    have q1 : (checkF b l u == 0) = false := beq_eq_false_iff_ne.2 hk
    have q2 : (checkF b l u != 0) = true := bne_iff_ne.2 hk
    generalize checkF b l u = q at *
    go_enter Try.func56, Try.ntmps56
    go_wp2_with fail
    refine (a53 _ (Kd.C_below HR.out ((Below.refl _ w).alloc (Nat.le_refl _) _))).mono ?_
    rintro en w1 ⟨rfl, hB⟩
    have hv : Below w.heap.size w w1 := ((Below.refl _ w).alloc (Nat.le_refl _) _).trans (hB.mono (by simp))
    go_wp2
    go_ret2
    exact ⟨rfl, hv⟩
set_option maxRecDepth 100000 in
theorem rknownS_calls (b u : Int) (A : Option Addr) (c : Nat) (l : List (Int × Int)) (s : Int) (w : World) (hr : Kd.C kl w A l.length l) :
    Calls Try.prog 112 #[tabV b A l.length c u, .int .i64 s] w fun e w' => e = .returned (.int .i64 (askE b l u s)) ∧ Below w.heap.size w w' := by
  have HR := Aside0.mk hr
  have a56 := fun w h => rTotal_calls b u A c l w h
  clear hr
  unfold askE
  unfold totalR at a56
  by_cases hk : checkF b l u = 0
  · rw [if_pos hk]
    rw [if_pos hk] at a56
    have hb := beginU hk
    have c104 := fun w => rin_calls s 0 (beginF l u - 1) w
    have he : (decide (0 ≤ s) && decide (s ≤ beginF l u - 1)) = knowsB l u s := by unfold knowsB; congr 1; exact decide_eq_decide.2 (by omega)
    rw [he] at c104
    clear hk he
    simp only at a56
    cases hkn : knowsB l u s
    all_goals
      rw [hkn] at c104
      clear hkn
      generalize beginF l u = g at *
      go_enter Try.func112, Try.ntmps112
      go_wp2_with fail
      refine (a56 _ (Kd.C_below HR.out ((Below.refl _ w).alloc (Nat.le_refl _) _))).mono ?_
      rintro en w1 ⟨rfl, hB⟩
      have hv : Below w.heap.size w w1 := ((Below.refl _ w).alloc (Nat.le_refl _) _).trans (hB.mono (by simp))
      go_wp2_with fail
      refine (c104 _).mono ?_
      rintro en w2 ⟨rfl, hB2⟩
      go_wp2
      go_ret
      exact ⟨rfl, hv.trans (hB2.mono hv.size)⟩
  · rw [if_neg hk]
    rw [if_neg hk] at a56
    simp only at a56
    have q1 : (checkF b l u == 0) = false := beq_eq_false_iff_ne.2 hk
    have q2 : (checkF b l u != 0) = true := bne_iff_ne.2 hk
    generalize checkF b l u = q at *
    go_enter Try.func112, Try.ntmps112
    go_wp2_with fail
    refine (a56 _ (Kd.C_below HR.out ((Below.refl _ w).alloc (Nat.le_refl _) _))).mono ?_
    rintro en w1 ⟨rfl, hB⟩
    have hv : Below w.heap.size w w1 := ((Below.refl _ w).alloc (Nat.le_refl _) _).trans (hB.mono (by simp))
    go_wp2
    go_ret
    exact ⟨rfl, hv⟩
set_option maxRecDepth 100000 in
theorem rAtomic_calls (b u : Int) (A : Option Addr) (c : Nat) (l : List (Int × Int)) (s : Int) (w : World) (hr : Kd.C kl w A l.length l) :
    Calls Try.prog 59 #[tabV b A l.length c u, .int .i64 s] w fun e w' => e = .returned (.tuple #[.int .i64 (atomicR b l u s).1, .int .i64 (atomicR b l u s).2]) ∧ Below w.heap.size w w' := by
  have HR := Aside0.mk hr
  have a112 := fun w h => rknownS_calls b u A c l s w h
  clear hr
  unfold atomicR
  by_cases hk : askE b l u s = 0
  · rw [if_pos hk]
    have hz := askE_zero hk
    obtain ⟨h1, h2, h3, h4, h5, h6⟩ := checkF_right hz.1
    have hs := knowsB_iff.1 hz.2
    have hb := beginU hz.1
    rw [hk] at a112
    clear h6 hk hz
    go_enter Try.func59, Try.ntmps59
    go_wp2_with fail
    refine (a112 _ (Kd.C_below HR.out ((Below.refl _ w).alloc (Nat.le_refl _) _))).mono ?_
    rintro en w1 ⟨rfl, hB⟩
    have hv : Below w.heap.size w w1 := ((Below.refl _ w).alloc (Nat.le_refl _) _).trans (hB.mono (by simp))
    have kx : w1.heap[w.heap.size]? = some (.cells #[.int .i64 b, .slice A l.length c, .int .i64 u] 90 (0, 0)) := (hB.block _ (by simp)).trans (al_new _ _ _ rfl)
    have t0 : w1.cell? ⟨w.heap.size, 0, none⟩ = some (.int .i64 b) := blk_cell kx 0
    clear hB kx a112
    go_wp2
    go_ret2
    exact ⟨rfl, hv⟩
  · rw [if_neg hk]
    have q1 : (askE b l u s == 0) = false := beq_eq_false_iff_ne.2 hk
    have q2 : (askE b l u s != 0) = true := bne_iff_ne.2 hk
    generalize askE b l u s = q at *
    go_enter Try.func59, Try.ntmps59
    go_wp2_with fail
    refine (a112 _ (Kd.C_below HR.out ((Below.refl _ w).alloc (Nat.le_refl _) _))).mono ?_
    rintro en w1 ⟨rfl, hB⟩
    have hv : Below w.heap.size w w1 := ((Below.refl _ w).alloc (Nat.le_refl _) _).trans (hB.mono (by simp))
    go_wp2
    go_ret2
    exact ⟨rfl, hv⟩
end Go.Proofs.Ytleipbanadnchaa.C
