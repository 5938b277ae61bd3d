/- The walk of CalendarTables' comparison, by hand. -/
import Derived.OwnWalk
import Derived.Test.YtleipbanadnchaaDf
import Derived.Test.YtleipbanadnchaaEe
import Derived.Test.YtleipbanadnchaaEf
import Derived.Test.YtleipbanadnchaaEh
namespace Go.Proofs.Ytleipbanadnchaa.C
open Go.RowKit Go.Shelf Go.Maps Go.Proofs.YtleipbanadnchaaW.PrintWords Go.Proofs.YtleipbanadnchaaW.PrintLast Go.Proofs.YtleipbanadnchaaW.PrintMore
set_option linter.unusedVariables false
set_option linter.unusedSimpArgs false
theorem eqA98 (d : Nat) (w : World) (x0 x1 x2 x3 x4 x5 y0 y1 y2 y3 y4 y5 : Int) :
    (Op.equalIn (d + 2) 98 (dateV x0 x1 x2 x3 x4 x5) (dateV y0 y1 y2 y3 y4 y5)).run Try.prog w = .ok (x0 == y0 && (x1 == y1 && (x2 == y2 && (x3 == y3 && (x4 == y4 && (x5 == y5)))))) w := by
  refine eqA_of Try.underlying98 (by kernel_rfl) ?_
  refine eqf_cons (by rfl) (by go_simp; rfl) (by go_simp; rfl) (by go_simp) ?_
  refine eqf_cons (by rfl) (by go_simp; rfl) (by go_simp; rfl) (by go_simp) ?_
  refine eqf_cons (by rfl) (by go_simp; rfl) (by go_simp; rfl) (by go_simp) ?_
  refine eqf_cons (by rfl) (by go_simp; rfl) (by go_simp; rfl) (by go_simp) ?_
  refine eqf_cons (by rfl) (by go_simp; rfl) (by go_simp; rfl) (by go_simp) ?_
  exact eqf_last (by rfl) (by go_simp; rfl) (by go_simp; rfl) (by go_simp)
/-- The date of a second, and what is wrong with it. -/
structure DateR where
  y : Int
  m : Int
  d : Int
  h : Int
  i : Int
  s : Int
  e : Int
theorem dates_both (b u : Int) (l : List (Int × Int)) (s : Int) : ∃ R : DateR,
    (∀ (A : Option Addr) (c : Nat) (w : World), Kd.C kl w A l.length l → Calls Try.prog 19 #[tabV b A l.length c u, .int .i64 s] w fun e w' => e = .returned (.tuple #[dateV R.y R.m R.d R.h R.i R.s, .int .i64 R.e]) ∧ Below w.heap.size w w') ∧
    (∀ (A : Option Addr) (c : Nat) (w : World), Kd.C kl w A l.length l → Calls Try.prog 58 #[tabV b A l.length c u, .int .i64 s] w fun e w' => e = .returned (.tuple #[dateV R.y R.m R.d R.h R.i R.s, .int .i64 R.e]) ∧ Below w.heap.size w w') := by
  by_cases hk : askE b l u s = 0
  · obtain ⟨D, hD⟩ := IsDay.exists (checkF_right (askE_zero hk).1).2.2.2.2.2 (knowsB_iff.1 (askE_zero hk).2).1 (knowsB_iff.1 (askE_zero hk).2).2
    exact ⟨⟨_, _, _, _, _, _, _⟩, fun A c w h => Dates_ok b u A c l s D w h hk hD, fun A c w h => rDates_ok b u A c l s D w h hk hD⟩
  · exact ⟨⟨_, _, _, _, _, _, _⟩, fun A c w h => Dates_err b u A c l s w h hk, fun A c w h => rDates_err b u A c l s w h hk⟩
theorem announced_both (b u : Int) (l : List (Int × Int)) (s : Int) : ∃ R : Int × Int,
    (∀ (A : Option Addr) (c : Nat) (w : World), Kd.C kl w A l.length l → Calls Try.prog 29 #[tabV b A l.length c u, .int .i64 s] w fun e w' => e = .returned (.tuple #[.int .i64 R.1, .int .i64 R.2]) ∧ Below w.heap.size w w') ∧
    (∀ (A : Option Addr) (c : Nat) (w : World), Kd.C kl w A l.length l → Calls Try.prog 60 #[tabV b A l.length c u, .int .i64 s] w fun e w' => e = .returned (.tuple #[.int .i64 R.1, .int .i64 R.2]) ∧ Below w.heap.size w w') := by
  by_cases hk : askE b l u s = 0
  · obtain ⟨D, hD⟩ := IsDay.exists (checkF_right (askE_zero hk).1).2.2.2.2.2 (knowsB_iff.1 (askE_zero hk).2).1 (knowsB_iff.1 (askE_zero hk).2).2
    exact ⟨(_, _), fun A c w h => Announced_ok b u A c l s D w h hk hD, fun A c w h => rAnnounced_ok b u A c l s D w h hk hD⟩
  · exact ⟨(_, _), fun A c w h => Announced_err b u A c l s w h hk, fun A c w h => rAnnounced_err b u A c l s w h hk⟩
attribute [local go_sem high] eqA98
set_option maxHeartbeats 8000000 in
set_option maxRecDepth 100000 in
theorem tables_calls (b u : Int) (A : Option Addr) (c : Nat) (l : List (Int × Int)) (day y m d h i s sec : Int) (w : World) (hr : Kd.C kl w A l.length l) (hl : l.length ≤ 120) (hnil : A = none → l = [] ∧ c = 0) :
    Calls Try.prog 15 #[tabV b A l.length c u, .int .i64 day, dateV y m d h i s, .int .i64 sec] w fun e w' => e = .returned (.bool true) ∧ Below w.heap.size w w' := by
  have HR := Aside0.mk hr
  have a51 := fun w h => copied_calls b u A c l w h (by omega) hnil
  have HC52 := Aside0.mk (fun (A : Option Addr) (c : Nat) (w : World) h => check_calls b u A c l w h)
  have HC53 := Aside0.mk (fun (A : Option Addr) (c : Nat) (w : World) h => rcheck_calls b u A c l w h)
  have H31 := Aside0.mk (fun (A : Option Addr) (c : Nat) (w : World) h => Length_calls b u A c l day w h)
  have H54 := Aside0.mk (fun (A : Option Addr) (c : Nat) (w : World) h => rLength_calls b u A c l day w h)
  have H27 := Aside0.mk (fun (A : Option Addr) (c : Nat) (w : World) h => Offset_calls b u A c l day w h)
  have H55 := Aside0.mk (fun (A : Option Addr) (c : Nat) (w : World) h => rOffset_calls b u A c l day w h)
  have H17 := Aside0.mk (fun (A : Option Addr) (c : Nat) (w : World) h => Total_calls b u A c l w h)
  have H56 := Aside0.mk (fun (A : Option Addr) (c : Nat) (w : World) h => rTotal_calls b u A c l w h)
  have H20 := Aside0.mk (fun (A : Option Addr) (c : Nat) (w : World) h1 => Seconds_calls b u A c l y m d h i s w h1)
  have H57 := Aside0.mk (fun (A : Option Addr) (c : Nat) (w : World) h1 => rSeconds_calls b u A c l y m d h i s w h1)
  have H24 := Aside0.mk (fun (A : Option Addr) (c : Nat) (w : World) h => Atomic_calls b u A c l sec w h)
  have H59 := Aside0.mk (fun (A : Option Addr) (c : Nat) (w : World) h => rAtomic_calls b u A c l sec w h)
  obtain ⟨RD, hD1, hD2⟩ := dates_both b u l sec
  obtain ⟨RA, hA1, hA2⟩ := announced_both b u l sec
  have H19 := Aside0.mk hD1
  have H58 := Aside0.mk hD2
  have H29 := Aside0.mk hA1
  have H60 := Aside0.mk hA2
  clear hr hD1 hD2 hA1 hA2 hnil
  generalize checkF b l u = ck at *
  generalize lengthR b l u day = r31 at *
  generalize offsetR b l u day = r27 at *
  generalize totalR b l u = r17 at *
  generalize secondsR b l u y m d h i s = r20 at *
  generalize atomicR b l u sec = r24 at *
  obtain ⟨p31, e31⟩ := r31
  obtain ⟨p27, e27⟩ := r27
  obtain ⟨p17, e17⟩ := r17
  obtain ⟨p20, e20⟩ := r20
  obtain ⟨p24, e24⟩ := r24
  obtain ⟨pA, eA⟩ := RA
  obtain ⟨qy, qm, qd, qh, qi, qs, qe⟩ := RD
  simp only at H31 H54 H27 H55 H17 H56 H20 H57 H24 H59 H19 H58 H29 H60
  have hbeq : ∀ x : Int, (x == x) = true := fun x => by simp
  go_enter Try.func15, Try.ntmps15
  go_wp2_with fail
  refine (a51 _ (Kd.C_below HR.out (((Below.refl _ w).alloc (Nat.le_refl _) _).alloc (by simp) _))).mono ?_
  rintro en w1 ⟨⟨A1, c1, A2, c2, rfl, hC1, hC2⟩, hB⟩
  have hv1 : Below w.heap.size w w1 := (((Below.refl _ w).alloc (Nat.le_refl _) _).alloc (by simp) _).trans (hB.mono (by simp; omega))
  have kt : w1.heap[w.heap.size]? = some (.cells #[.int .i64 b, .slice A l.length c, .int .i64 u] 28 (0, 0)) := (hB.block _ (by simp; omega)).trans (al_old (al_new _ _ _ rfl))
  have kd : w1.heap[w.heap.size + 1]? = some (.cells #[.int .i64 y, .int .i64 m, .int .i64 d, .int .i64 h, .int .i64 i, .int .i64 s] 30 (0, 0)) := (hB.block _ (by simp)).trans (al_new _ _ _ (by simp))
  have t0 : w1.cell? ⟨w.heap.size, 0, none⟩ = some (.int .i64 b) := blk_cell kt 0
  have t1 : w1.cell? ⟨w.heap.size, 1, none⟩ = some (.slice A l.length c) := blk_cell kt 1
  have t2 : w1.cell? ⟨w.heap.size, 2, none⟩ = some (.int .i64 u) := blk_cell kt 2
  have d0 : w1.cell? ⟨w.heap.size + 1, 0, none⟩ = some (.int .i64 y) := blk_cell kd 0
  have d1 : w1.cell? ⟨w.heap.size + 1, 1, none⟩ = some (.int .i64 m) := blk_cell kd 1
  have d2 : w1.cell? ⟨w.heap.size + 1, 2, none⟩ = some (.int .i64 d) := blk_cell kd 2
  have d3 : w1.cell? ⟨w.heap.size + 1, 3, none⟩ = some (.int .i64 h) := blk_cell kd 3
  have d4 : w1.cell? ⟨w.heap.size + 1, 4, none⟩ = some (.int .i64 i) := blk_cell kd 4
  have d5 : w1.cell? ⟨w.heap.size + 1, 5, none⟩ = some (.int .i64 s) := blk_cell kd 5
  clear hB kt kd a51
  go_wp2_with fail
  obtain ⟨w2, hw2⟩ : ∃ w2, (w1.alloc (.cells #[.int .i64 b, .slice A1 l.length c1, .int .i64 u] 28)).alloc (.cells #[.int .i64 b, .slice A2 l.length c2, .int .i64 u] 90) = w2 := ⟨_, rfl⟩
  rw [hw2]
  have hB : Below w1.heap.size w1 w2 := by rw [← hw2]; exact ((Below.refl _ w1).alloc (Nat.le_refl _) _).alloc (by simp) _
  have ko : w2.heap[w1.heap.size]? = some (.cells #[.int .i64 b, .slice A1 l.length c1, .int .i64 u] 28 (0, 0)) := by rw [← hw2]; exact al_old (al_new _ _ _ rfl)
  have kf : w2.heap[w1.heap.size + 1]? = some (.cells #[.int .i64 b, .slice A2 l.length c2, .int .i64 u] 90 (0, 0)) := by rw [← hw2]; exact al_new _ _ _ (by simp)
  have o0 : w2.cell? ⟨w1.heap.size, 0, none⟩ = some (.int .i64 b) := blk_cell ko 0
  have o1 : w2.cell? ⟨w1.heap.size, 1, none⟩ = some (.slice A1 l.length c1) := blk_cell ko 1
  have o2 : w2.cell? ⟨w1.heap.size, 2, none⟩ = some (.int .i64 u) := blk_cell ko 2
  have f0 : w2.cell? ⟨w1.heap.size + 1, 0, none⟩ = some (.int .i64 b) := blk_cell kf 0
  have f1 : w2.cell? ⟨w1.heap.size + 1, 1, none⟩ = some (.slice A2 l.length c2) := blk_cell kf 1
  have f2 : w2.cell? ⟨w1.heap.size + 1, 2, none⟩ = some (.int .i64 u) := blk_cell kf 2
  clear hw2 ko kf
  replace t0 := cell_on hB t0
  replace t1 := cell_on hB t1
  replace t2 := cell_on hB t2
  replace d0 := cell_on hB d0
  replace d1 := cell_on hB d1
  replace d2 := cell_on hB d2
  replace d3 := cell_on hB d3
  replace d4 := cell_on hB d4
  replace d5 := cell_on hB d5
  replace hC1 := Kd.C_below hC1 hB
  replace hC2 := Kd.C_below hC2 hB
  have hv := hv1.trans (hB.mono hv1.size)
  clear hB hv1
  have hS : ∀ w', Below w2.heap.size w2 w' → ((w'.cell? ⟨w1.heap.size, 0, none⟩ = some (.int .i64 b) ∧ w'.cell? ⟨w1.heap.size, 1, none⟩ = some (.slice A1 l.length c1) ∧ w'.cell? ⟨w1.heap.size, 2, none⟩ = some (.int .i64 u) ∧ w'.cell? ⟨w1.heap.size + 1, 0, none⟩ = some (.int .i64 b) ∧ w'.cell? ⟨w1.heap.size + 1, 1, none⟩ = some (.slice A2 l.length c2) ∧ w'.cell? ⟨w1.heap.size + 1, 2, none⟩ = some (.int .i64 u)) ∧ Below w2.heap.size w2 w') := fun w' hB => ⟨⟨cell_on hB o0, cell_on hB o1, cell_on hB o2, cell_on hB f0, cell_on hB f1, cell_on hB f2⟩, hB⟩
  have hck : (ck != ck) = false := by simp
  go_region_held3 (fun w' => (w'.cell? ⟨w1.heap.size, 0, none⟩ = some (.int .i64 b) ∧ w'.cell? ⟨w1.heap.size, 1, none⟩ = some (.slice A1 l.length c1) ∧ w'.cell? ⟨w1.heap.size, 2, none⟩ = some (.int .i64 u) ∧ w'.cell? ⟨w1.heap.size + 1, 0, none⟩ = some (.int .i64 b) ∧ w'.cell? ⟨w1.heap.size + 1, 1, none⟩ = some (.slice A2 l.length c2) ∧ w'.cell? ⟨w1.heap.size + 1, 2, none⟩ = some (.int .i64 u)) ∧ Below w2.heap.size w2 w') (first | exact hS _ (Below.refl _ _).drew | assumption | (have hh := ‹(_ ∧ _ ∧ _ ∧ _ ∧ _ ∧ _) ∧ Below w2.heap.size w2 _›; exact hS _ (hh.2.trans (hB.mono hh.2.size))))
    (first | (go_at_call 52; refine (HC52.out _ _ _ (by have hh := ‹(_ ∧ _ ∧ _ ∧ _ ∧ _ ∧ _) ∧ Below w2.heap.size w2 _›; exact Kd.C_below hC1 hh.2)).mono ?_; rintro e w' ⟨rfl, hB⟩) | (go_at_call 53; refine (HC53.out _ _ _ (by have hh := ‹(_ ∧ _ ∧ _ ∧ _ ∧ _ ∧ _) ∧ Below w2.heap.size w2 _›; exact Kd.C_below hC2 hh.2)).mono ?_; rintro e w' ⟨rfl, hB⟩))
  rename_i hHeld
  have hB := hHeld.2
  clear hHeld hS
  rename World => w3
  replace t0 := cell_on hB t0
  replace t1 := cell_on hB t1
  replace t2 := cell_on hB t2
  replace d0 := cell_on hB d0
  replace d1 := cell_on hB d1
  replace d2 := cell_on hB d2
  replace d3 := cell_on hB d3
  replace d4 := cell_on hB d4
  replace d5 := cell_on hB d5
  replace o0 := cell_on hB o0
  replace o1 := cell_on hB o1
  replace o2 := cell_on hB o2
  replace f0 := cell_on hB f0
  replace f1 := cell_on hB f1
  replace f2 := cell_on hB f2
  replace hC1 := Kd.C_below hC1 hB
  replace hC2 := Kd.C_below hC2 hB
  replace hv := hv.trans (hB.mono hv.size)
  clear hB hck
  go_wp2_with fail
  refine (H31.out _ _ _ hC1).mono ?_
  rintro en w4 ⟨rfl, hB⟩
  replace t0 := cell_on hB t0
  replace t1 := cell_on hB t1
  replace t2 := cell_on hB t2
  replace d0 := cell_on hB d0
  replace d1 := cell_on hB d1
  replace d2 := cell_on hB d2
  replace d3 := cell_on hB d3
  replace d4 := cell_on hB d4
  replace d5 := cell_on hB d5
  replace o0 := cell_on hB o0
  replace o1 := cell_on hB o1
  replace o2 := cell_on hB o2
  replace f0 := cell_on hB f0
  replace f1 := cell_on hB f1
  replace f2 := cell_on hB f2
  replace hC1 := Kd.C_below hC1 hB
  replace hC2 := Kd.C_below hC2 hB
  replace hv := hv.trans (hB.mono hv.size)
  clear hB
  go_wp2_with fail
  refine (H54.out _ _ _ hC2).mono ?_
  rintro en w5 ⟨rfl, hB⟩
  replace t0 := cell_on hB t0
  replace t1 := cell_on hB t1
  replace t2 := cell_on hB t2
  replace d0 := cell_on hB d0
  replace d1 := cell_on hB d1
  replace d2 := cell_on hB d2
  replace d3 := cell_on hB d3
  replace d4 := cell_on hB d4
  replace d5 := cell_on hB d5
  replace o0 := cell_on hB o0
  replace o1 := cell_on hB o1
  replace o2 := cell_on hB o2
  replace f0 := cell_on hB f0
  replace f1 := cell_on hB f1
  replace f2 := cell_on hB f2
  replace hC1 := Kd.C_below hC1 hB
  replace hC2 := Kd.C_below hC2 hB
  replace hv := hv.trans (hB.mono hv.size)
  clear hB
  go_wp2_with fail
  refine (H27.out _ _ _ hC1).mono ?_
  rintro en w6 ⟨rfl, hB⟩
  replace t0 := cell_on hB t0
  replace t1 := cell_on hB t1
  replace t2 := cell_on hB t2
  replace d0 := cell_on hB d0
  replace d1 := cell_on hB d1
  replace d2 := cell_on hB d2
  replace d3 := cell_on hB d3
  replace d4 := cell_on hB d4
  replace d5 := cell_on hB d5
  replace o0 := cell_on hB o0
  replace o1 := cell_on hB o1
  replace o2 := cell_on hB o2
  replace f0 := cell_on hB f0
  replace f1 := cell_on hB f1
  replace f2 := cell_on hB f2
  replace hC1 := Kd.C_below hC1 hB
  replace hC2 := Kd.C_below hC2 hB
  replace hv := hv.trans (hB.mono hv.size)
  clear hB
  go_wp2_with fail
  refine (H55.out _ _ _ hC2).mono ?_
  rintro en w7 ⟨rfl, hB⟩
  replace t0 := cell_on hB t0
  replace t1 := cell_on hB t1
  replace t2 := cell_on hB t2
  replace d0 := cell_on hB d0
  replace d1 := cell_on hB d1
  replace d2 := cell_on hB d2
  replace d3 := cell_on hB d3
  replace d4 := cell_on hB d4
  replace d5 := cell_on hB d5
  replace o0 := cell_on hB o0
  replace o1 := cell_on hB o1
  replace o2 := cell_on hB o2
  replace f0 := cell_on hB f0
  replace f1 := cell_on hB f1
  replace f2 := cell_on hB f2
  replace hC1 := Kd.C_below hC1 hB
  replace hC2 := Kd.C_below hC2 hB
  replace hv := hv.trans (hB.mono hv.size)
  clear hB
  go_wp2_with fail
  refine (H17.out _ _ _ hC1).mono ?_
  rintro en w8 ⟨rfl, hB⟩
  replace t0 := cell_on hB t0
  replace t1 := cell_on hB t1
  replace t2 := cell_on hB t2
  replace d0 := cell_on hB d0
  replace d1 := cell_on hB d1
  replace d2 := cell_on hB d2
  replace d3 := cell_on hB d3
  replace d4 := cell_on hB d4
  replace d5 := cell_on hB d5
  replace o0 := cell_on hB o0
  replace o1 := cell_on hB o1
  replace o2 := cell_on hB o2
  replace f0 := cell_on hB f0
  replace f1 := cell_on hB f1
  replace f2 := cell_on hB f2
  replace hC1 := Kd.C_below hC1 hB
  replace hC2 := Kd.C_below hC2 hB
  replace hv := hv.trans (hB.mono hv.size)
  clear hB
  go_wp2_with fail
  refine (H56.out _ _ _ hC2).mono ?_
  rintro en w9 ⟨rfl, hB⟩
  replace t0 := cell_on hB t0
  replace t1 := cell_on hB t1
  replace t2 := cell_on hB t2
  replace d0 := cell_on hB d0
  replace d1 := cell_on hB d1
  replace d2 := cell_on hB d2
  replace d3 := cell_on hB d3
  replace d4 := cell_on hB d4
  replace d5 := cell_on hB d5
  replace o0 := cell_on hB o0
  replace o1 := cell_on hB o1
  replace o2 := cell_on hB o2
  replace f0 := cell_on hB f0
  replace f1 := cell_on hB f1
  replace f2 := cell_on hB f2
  replace hC1 := Kd.C_below hC1 hB
  replace hC2 := Kd.C_below hC2 hB
  replace hv := hv.trans (hB.mono hv.size)
  clear hB
  go_wp2_with fail
  refine (H20.out _ _ _ hC1).mono ?_
  rintro en w10 ⟨rfl, hB⟩
  replace t0 := cell_on hB t0
  replace t1 := cell_on hB t1
  replace t2 := cell_on hB t2
  replace d0 := cell_on hB d0
  replace d1 := cell_on hB d1
  replace d2 := cell_on hB d2
  replace d3 := cell_on hB d3
  replace d4 := cell_on hB d4
  replace d5 := cell_on hB d5
  replace o0 := cell_on hB o0
  replace o1 := cell_on hB o1
  replace o2 := cell_on hB o2
  replace f0 := cell_on hB f0
  replace f1 := cell_on hB f1
  replace f2 := cell_on hB f2
  replace hC1 := Kd.C_below hC1 hB
  replace hC2 := Kd.C_below hC2 hB
  replace hv := hv.trans (hB.mono hv.size)
  clear hB
  go_wp2_with fail
  refine (H57.out _ _ _ hC2).mono ?_
  rintro en w11 ⟨rfl, hB⟩
  replace t0 := cell_on hB t0
  replace t1 := cell_on hB t1
  replace t2 := cell_on hB t2
  replace d0 := cell_on hB d0
  replace d1 := cell_on hB d1
  replace d2 := cell_on hB d2
  replace d3 := cell_on hB d3
  replace d4 := cell_on hB d4
  replace d5 := cell_on hB d5
  replace o0 := cell_on hB o0
  replace o1 := cell_on hB o1
  replace o2 := cell_on hB o2
  replace f0 := cell_on hB f0
  replace f1 := cell_on hB f1
  replace f2 := cell_on hB f2
  replace hC1 := Kd.C_below hC1 hB
  replace hC2 := Kd.C_below hC2 hB
  replace hv := hv.trans (hB.mono hv.size)
  clear hB
  go_wp2_with fail
  refine (H19.out _ _ _ hC1).mono ?_
  rintro en w12 ⟨rfl, hB⟩
  replace t0 := cell_on hB t0
  replace t1 := cell_on hB t1
  replace t2 := cell_on hB t2
  replace d0 := cell_on hB d0
  replace d1 := cell_on hB d1
  replace d2 := cell_on hB d2
  replace d3 := cell_on hB d3
  replace d4 := cell_on hB d4
  replace d5 := cell_on hB d5
  replace o0 := cell_on hB o0
  replace o1 := cell_on hB o1
  replace o2 := cell_on hB o2
  replace f0 := cell_on hB f0
  replace f1 := cell_on hB f1
  replace f2 := cell_on hB f2
  replace hC1 := Kd.C_below hC1 hB
  replace hC2 := Kd.C_below hC2 hB
  replace hv := hv.trans (hB.mono hv.size)
  clear hB
  have hz0 : w1.heap.size + 1 < w12.heap.size := World.block_lt_of_cell? _ _ f0
  have hz1 : w1.heap.size < w12.heap.size := by omega
  have hz2 : w.heap.size + 1 < w12.heap.size := World.block_lt_of_cell? _ _ d0
  have hz3 : w.heap.size < w12.heap.size := by omega
  go_wp2_with fail
  obtain ⟨w13, hw13⟩ : ∃ w13, w12.alloc (.cells #[.int .i64 qy, .int .i64 qm, .int .i64 qd, .int .i64 qh, .int .i64 qi, .int .i64 qs] 30) = w13 := ⟨_, rfl⟩
  rw [hw13]
  have hB : Below w12.heap.size w12 w13 := by rw [← hw13]; exact (Below.refl _ w12).alloc (Nat.le_refl _) _
  have kx : w13.heap[w12.heap.size]? = some (.cells #[.int .i64 qy, .int .i64 qm, .int .i64 qd, .int .i64 qh, .int .i64 qi, .int .i64 qs] 30 (0, 0)) := by rw [← hw13]; exact al_new _ _ _ rfl
  have x0 : w13.cell? ⟨w12.heap.size, 0, none⟩ = some (.int .i64 qy) := blk_cell kx 0
  have x1 : w13.cell? ⟨w12.heap.size, 1, none⟩ = some (.int .i64 qm) := blk_cell kx 1
  have x2 : w13.cell? ⟨w12.heap.size, 2, none⟩ = some (.int .i64 qd) := blk_cell kx 2
  have x3 : w13.cell? ⟨w12.heap.size, 3, none⟩ = some (.int .i64 qh) := blk_cell kx 3
  have x4 : w13.cell? ⟨w12.heap.size, 4, none⟩ = some (.int .i64 qi) := blk_cell kx 4
  have x5 : w13.cell? ⟨w12.heap.size, 5, none⟩ = some (.int .i64 qs) := blk_cell kx 5
  replace t0 := cell_on hB t0
  replace t1 := cell_on hB t1
  replace t2 := cell_on hB t2
  replace d0 := cell_on hB d0
  replace d1 := cell_on hB d1
  replace d2 := cell_on hB d2
  replace d3 := cell_on hB d3
  replace d4 := cell_on hB d4
  replace d5 := cell_on hB d5
  replace o0 := cell_on hB o0
  replace o1 := cell_on hB o1
  replace o2 := cell_on hB o2
  replace f0 := cell_on hB f0
  replace f1 := cell_on hB f1
  replace f2 := cell_on hB f2
  replace hC1 := Kd.C_below hC1 hB
  replace hC2 := Kd.C_below hC2 hB
  replace hv := hv.trans (hB.mono hv.size)
  clear hB hw13 kx hz0 hz1 hz2 hz3
  refine (H58.out _ _ _ hC2).mono ?_
  rintro en w14 ⟨rfl, hB⟩
  replace t0 := cell_on hB t0
  replace t1 := cell_on hB t1
  replace t2 := cell_on hB t2
  replace d0 := cell_on hB d0
  replace d1 := cell_on hB d1
  replace d2 := cell_on hB d2
  replace d3 := cell_on hB d3
  replace d4 := cell_on hB d4
  replace d5 := cell_on hB d5
  replace o0 := cell_on hB o0
  replace o1 := cell_on hB o1
  replace o2 := cell_on hB o2
  replace f0 := cell_on hB f0
  replace f1 := cell_on hB f1
  replace f2 := cell_on hB f2
  replace x0 := cell_on hB x0
  replace x1 := cell_on hB x1
  replace x2 := cell_on hB x2
  replace x3 := cell_on hB x3
  replace x4 := cell_on hB x4
  replace x5 := cell_on hB x5
  replace hC1 := Kd.C_below hC1 hB
  replace hC2 := Kd.C_below hC2 hB
  replace hv := hv.trans (hB.mono hv.size)
  clear hB
  have hz0 : w1.heap.size + 1 < w14.heap.size := World.block_lt_of_cell? _ _ f0
  have hz1 : w1.heap.size < w14.heap.size := by omega
  have hz2 : w.heap.size + 1 < w14.heap.size := World.block_lt_of_cell? _ _ d0
  have hz3 : w.heap.size < w14.heap.size := by omega
  have hz4 : w12.heap.size < w14.heap.size := World.block_lt_of_cell? _ _ x0
  have hne : (qy == qy && (qm == qm && (qd == qd && (qh == qh && (qi == qi && qs == qs))))) = true := by simp
  go_wp2_with fail
  obtain ⟨w15, hw15⟩ : ∃ w15, w14.alloc (.cells #[.int .i64 qy, .int .i64 qm, .int .i64 qd, .int .i64 qh, .int .i64 qi, .int .i64 qs] 98) = w15 := ⟨_, rfl⟩
  rw [hw15]
  have hB : Below w14.heap.size w14 w15 := by rw [← hw15]; exact (Below.refl _ w14).alloc (Nat.le_refl _) _
  replace t0 := cell_on hB t0
  replace t1 := cell_on hB t1
  replace t2 := cell_on hB t2
  replace d0 := cell_on hB d0
  replace d1 := cell_on hB d1
  replace d2 := cell_on hB d2
  replace d3 := cell_on hB d3
  replace d4 := cell_on hB d4
  replace d5 := cell_on hB d5
  replace o0 := cell_on hB o0
  replace o1 := cell_on hB o1
  replace o2 := cell_on hB o2
  replace f0 := cell_on hB f0
  replace f1 := cell_on hB f1
  replace f2 := cell_on hB f2
  replace x0 := cell_on hB x0
  replace x1 := cell_on hB x1
  replace x2 := cell_on hB x2
  replace x3 := cell_on hB x3
  replace x4 := cell_on hB x4
  replace x5 := cell_on hB x5
  replace hC1 := Kd.C_below hC1 hB
  replace hC2 := Kd.C_below hC2 hB
  replace hv := hv.trans (hB.mono hv.size)
  clear hB hw15 hz0 hz1 hz2 hz3 hz4
  refine (H24.out _ _ _ hC1).mono ?_
  rintro en w16 ⟨rfl, hB⟩
  replace t0 := cell_on hB t0
  replace t1 := cell_on hB t1
  replace t2 := cell_on hB t2
  replace d0 := cell_on hB d0
  replace d1 := cell_on hB d1
  replace d2 := cell_on hB d2
  replace d3 := cell_on hB d3
  replace d4 := cell_on hB d4
  replace d5 := cell_on hB d5
  replace o0 := cell_on hB o0
  replace o1 := cell_on hB o1
  replace o2 := cell_on hB o2
  replace f0 := cell_on hB f0
  replace f1 := cell_on hB f1
  replace f2 := cell_on hB f2
  clear x0 x1 x2 x3 x4 x5
  replace hC1 := Kd.C_below hC1 hB
  replace hC2 := Kd.C_below hC2 hB
  replace hv := hv.trans (hB.mono hv.size)
  clear hB
  go_wp2_with fail
  refine (H59.out _ _ _ hC2).mono ?_
  rintro en w17 ⟨rfl, hB⟩
  replace t0 := cell_on hB t0
  replace t1 := cell_on hB t1
  replace t2 := cell_on hB t2
  replace d0 := cell_on hB d0
  replace d1 := cell_on hB d1
  replace d2 := cell_on hB d2
  replace d3 := cell_on hB d3
  replace d4 := cell_on hB d4
  replace d5 := cell_on hB d5
  replace o0 := cell_on hB o0
  replace o1 := cell_on hB o1
  replace o2 := cell_on hB o2
  replace f0 := cell_on hB f0
  replace f1 := cell_on hB f1
  replace f2 := cell_on hB f2
  replace hC1 := Kd.C_below hC1 hB
  replace hC2 := Kd.C_below hC2 hB
  replace hv := hv.trans (hB.mono hv.size)
  clear hB
  go_wp2_with fail
  refine (H29.out _ _ _ hC1).mono ?_
  rintro en w18 ⟨rfl, hB⟩
  replace t0 := cell_on hB t0
  replace t1 := cell_on hB t1
  replace t2 := cell_on hB t2
  replace d0 := cell_on hB d0
  replace d1 := cell_on hB d1
  replace d2 := cell_on hB d2
  replace d3 := cell_on hB d3
  replace d4 := cell_on hB d4
  replace d5 := cell_on hB d5
  replace o0 := cell_on hB o0
  replace o1 := cell_on hB o1
  replace o2 := cell_on hB o2
  replace f0 := cell_on hB f0
  replace f1 := cell_on hB f1
  replace f2 := cell_on hB f2
  replace hC1 := Kd.C_below hC1 hB
  replace hC2 := Kd.C_below hC2 hB
  replace hv := hv.trans (hB.mono hv.size)
  clear hB
  go_wp2_with fail
  refine (H60.out _ _ _ hC2).mono ?_
  rintro en w19 ⟨rfl, hB⟩
  replace t0 := cell_on hB t0
  replace t1 := cell_on hB t1
  replace t2 := cell_on hB t2
  replace d0 := cell_on hB d0
  replace d1 := cell_on hB d1
  replace d2 := cell_on hB d2
  replace d3 := cell_on hB d3
  replace d4 := cell_on hB d4
  replace d5 := cell_on hB d5
  replace o0 := cell_on hB o0
  replace o1 := cell_on hB o1
  replace o2 := cell_on hB o2
  replace f0 := cell_on hB f0
  replace f1 := cell_on hB f1
  replace f2 := cell_on hB f2
  replace hC1 := Kd.C_below hC1 hB
  replace hC2 := Kd.C_below hC2 hB
  replace hv := hv.trans (hB.mono hv.size)
  clear hB
  go_wp2_with fail
  refine (kept_calls b u A1 A c1 c l _ hC1 (Kd.C_below HR.out hv) (by omega)).mono ?_
  rintro en w20 ⟨rfl, hB⟩
  go_wp2
  go_ret
  exact ⟨rfl, hv.trans (hB.mono hv.size)⟩
end Go.Proofs.Ytleipbanadnchaa.C
