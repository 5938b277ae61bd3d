/- The walk of CalendarCodes' comparison, by hand. -/
import Derived.OwnWalk
import Derived.Test.YtleipbanadnchaaGk
import Derived.Test.YtleipbanadnchaaEh
namespace Go.Proofs.Ytleipbanadnchaa.C
open Go.RowKit Go.Shelf Go.Maps Go.Proofs.YtleipbanadnchaaW.PrintWords Go.Proofs.YtleipbanadnchaaW.PrintLast Go.Proofs.YtleipbanadnchaaW.PrintMore
set_option linter.unusedVariables false
set_option linter.unusedSimpArgs false
theorem eqA121 (d : Nat) (w : World) (x0 x1 y0 y1 : Int) : (Op.equalIn (d + 2) 121 (.agg #[.int .i64 x0, .int .i64 x1]) (.agg #[.int .i64 y0, .int .i64 y1])).run Try.prog w = .ok (x0 == y0 && (x1 == y1)) w := by
  refine eqA_of Try.underlying121 (by kernel_rfl) ?_
  refine eqf_cons (by rfl) (by go_simp; rfl) (by go_simp; rfl) (by go_simp) ?_
  exact eqf_last (by rfl) (by go_simp; rfl) (by go_simp; rfl) (by go_simp)
theorem eqA125 (d : Nat) (w : World) (x0 x1 y0 y1 : Int) : (Op.equalIn (d + 2) 125 (.agg #[.int .i64 x0, .int .i64 x1]) (.agg #[.int .i64 y0, .int .i64 y1])).run Try.prog w = .ok (x0 == y0 && (x1 == y1)) w := by
  refine eqA_of Try.underlying125 (by kernel_rfl) ?_
  refine eqf_cons (by rfl) (by go_simp; rfl) (by go_simp; rfl) (by go_simp) ?_
  exact eqf_last (by rfl) (by go_simp; rfl) (by go_simp; rfl) (by go_simp)
theorem unix_both (b u : Int) (l : List (Int × Int)) (s : Int) : ∃ R : Int × Int,
    (∀ (A : Option Addr) (c : Nat) (w : World), Kd.C kl w A l.length l → Calls Try.prog 28 #[tabV b A l.length c u, .int .i64 s] w fun e w' => e = .returned (.tuple #[.int .i64 R.1, .int .i64 R.2]) ∧ Below w.heap.size w w') ∧
    (∀ (A : Option Addr) (c : Nat) (w : World), Kd.C kl w A l.length l → Calls Try.prog 73 #[tabV b A l.length c u, .int .i64 s] w fun e w' => e = .returned (.tuple #[.int .i64 R.1, .int .i64 R.2]) ∧ Below w.heap.size w w') := by
  by_cases hk : askE b l u s = 0
  · obtain ⟨D, hD⟩ := IsDay.exists (checkF_right (askE_zero hk).1).2.2.2.2.2 (knowsB_iff.1 (askE_zero hk).2).1 (knowsB_iff.1 (askE_zero hk).2).2
    exact ⟨(_, _), fun A c w h => Unix_ok b u A c l s D w h hk hD, fun A c w h => rUnix_ok b u A c l s D w h hk hD⟩
  · exact ⟨(_, _), fun A c w h => Unix_err b u A c l s w h hk, fun A c w h => rUnix_err b u A c l s w h hk⟩
theorem ntp_both (b u : Int) (l : List (Int × Int)) (s : Int) : ∃ R : Int × Int × Int,
    (∀ (A : Option Addr) (c : Nat) (w : World), Kd.C kl w A l.length l → Calls Try.prog 33 #[tabV b A l.length c u, .int .i64 s] w fun e w' => e = .returned (.tuple #[.agg #[.int .i64 R.1, .int .i64 R.2.1], .int .i64 R.2.2]) ∧ Below w.heap.size w w') ∧
    (∀ (A : Option Addr) (c : Nat) (w : World), Kd.C kl w A l.length l → Calls Try.prog 75 #[tabV b A l.length c u, .int .i64 s] w fun e w' => e = .returned (.tuple #[.agg #[.int .i64 R.1, .int .i64 R.2.1], .int .i64 R.2.2]) ∧ Below w.heap.size w w') := by
  by_cases hk : askE b l u s = 0
  · obtain ⟨D, hD⟩ := IsDay.exists (checkF_right (askE_zero hk).1).2.2.2.2.2 (knowsB_iff.1 (askE_zero hk).2).1 (knowsB_iff.1 (askE_zero hk).2).2
    exact ⟨(_, _, _), fun A c w h => ToNtp_ok b u A c l s D w h hk hD, fun A c w h => rToNtp_ok b u A c l s D w h hk hD⟩
  · exact ⟨(_, _, _), fun A c w h => ToNtp_err b u A c l s w h hk, fun A c w h => rToNtp_err b u A c l s w h hk⟩
theorem fromUL_len (b : Int) (l : List (Int × Int)) (u x : Int) : (fromUL b l u x).length ≤ 2 := by
  unfold fromUL
  split
  · exact secs_len _ _ _
  · simp
theorem fromNL_len (b : Int) (l : List (Int × Int)) (u x y : Int) : (fromNL b l u x y).length ≤ 2 := by
  unfold fromNL
  split
  · exact secs_len _ _ _
  · simp
attribute [local go_sem high] eqA121 eqA125
set_option maxHeartbeats 8000000 in
set_option maxRecDepth 100000 in
theorem codes_calls (b u : Int) (A : Option Addr) (c : Nat) (l : List (Int × Int)) (sec unix x y p q : Int) (w : World) (hr : Kd.C kl w A l.length l) (hl : l.length ≤ 120) (hnil : A = none → l = [] ∧ c = 0) :
    Calls Try.prog 25 #[tabV b A l.length c u, .int .i64 sec, .int .i64 unix, .agg #[.int .i64 x, .int .i64 y], .agg #[.int .i64 p, .int .i64 q]] w fun e w' => e = .returned (.bool true) ∧ Below w.heap.size w w' := by
  have HR := Aside0.mk hr
  have a51 := fun w h => copied_calls b u A c l w h (by omega) hnil
  obtain ⟨R1, hu1, hu2⟩ := unix_both b u l sec
  obtain ⟨R2, hn1, hn2⟩ := ntp_both b u l sec
  have H28 := Aside0.mk hu1
  have H73 := Aside0.mk hu2
  have H33 := Aside0.mk hn1
  have H75 := Aside0.mk hn2
  have H32 := Aside0.mk (fun (A : Option Addr) (c : Nat) (w : World) h => FromUnix_calls b u A c l unix w h)
  have H74 := Aside0.mk (fun (A : Option Addr) (c : Nat) (w : World) h => rFromUnix_calls b u A c l unix w h)
  have H34 := Aside0.mk (fun (A : Option Addr) (c : Nat) (w : World) h => FromNtp_calls b u A c l x y w h)
  have H76 := Aside0.mk (fun (A : Option Addr) (c : Nat) (w : World) h => rFromNtp_calls b u A c l x y w h)
  have H37 := Aside0.mk (fun (A : Option Addr) (c : Nat) (w : World) h => ToGps_calls b u A c l sec w h)
  have H77 := Aside0.mk (fun (A : Option Addr) (c : Nat) (w : World) h => rToGps_calls b u A c l sec w h)
  have H38 := Aside0.mk (fun (A : Option Addr) (c : Nat) (w : World) h => FromGps_calls b u A c l p q sec w h)
  have H78 := Aside0.mk (fun (A : Option Addr) (c : Nat) (w : World) h => rFromGps_calls b u A c l p q sec w h)
  have hql := fromUL_len b l u unix
  have hml := fromNL_len b l u x y
  clear hr hu1 hu2 hn1 hn2 hnil
  generalize fromUL b l u unix = Q at *
  generalize fromUE b l u unix = e32 at *
  generalize fromNL b l u x y = M at *
  generalize fromNE b l u x y = e34 at *
  generalize (if gpsE b l u sec = 0 then (sec - gpsF l u) / 604800 % 1024 else 0) = g37 at *
  generalize (if gpsE b l u sec = 0 then (sec - gpsF l u) % 604800 else 0) = s37 at *
  generalize gpsE b l u sec = e37 at *
  generalize fromGV b l u p q sec = v38 at *
  generalize fromGE b l u p q sec = e38 at *
  obtain ⟨p28, e28⟩ := R1
  obtain ⟨a33, b33, e33⟩ := R2
  simp only at H28 H73 H33 H75
  have hbeq : ∀ x : Int, (x == x) = true := fun x => by simp
  go_enter Try.func25, Try.ntmps25
  go_wp2_with fail
  refine (a51 _ (Kd.C_below HR.out ((((Below.refl _ w).alloc (Nat.le_refl _) _).alloc (by simp) _).alloc (by simp <;> omega) _))).mono ?_
  rintro en w1 ⟨⟨A1, c1, A2, c2, rfl, hC1, hC2⟩, hB⟩
  have hv1 : Below w.heap.size w w1 := ((((Below.refl _ w).alloc (Nat.le_refl _) _).alloc (by simp) _).alloc (by simp <;> omega) _).trans (hB.mono (by simp <;> omega))
  have kt : w1.heap[w.heap.size]? = some (.cells #[.int .i64 b, .slice A l.length c, .int .i64 u] 28 (0, 0)) := (hB.block _ (by simp <;> omega)).trans (al_old (al_old (al_new _ _ _ rfl)))
  have kd : w1.heap[w.heap.size + 1]? = some (.cells #[.int .i64 x, .int .i64 y] 52 (0, 0)) := (hB.block _ (by simp <;> omega)).trans (al_old (al_new _ _ _ (by simp)))
  have kg : w1.heap[w.heap.size + 1 + 1]? = some (.cells #[.int .i64 p, .int .i64 q] 54 (0, 0)) := (hB.block _ (by simp)).trans (al_new _ _ _ (by simp))
  have t0 : w1.cell? ⟨w.heap.size, 0, none⟩ = some (.int .i64 b) := blk_cell kt 0
  have t1 : w1.cell? ⟨w.heap.size, 1, none⟩ = some (.slice A l.length c) := blk_cell kt 1
  have t2 : w1.cell? ⟨w.heap.size, 2, none⟩ = some (.int .i64 u) := blk_cell kt 2
  have d0 : w1.cell? ⟨w.heap.size + 1, 0, none⟩ = some (.int .i64 x) := blk_cell kd 0
  have d1 : w1.cell? ⟨w.heap.size + 1, 1, none⟩ = some (.int .i64 y) := blk_cell kd 1
  have g0 : w1.cell? ⟨w.heap.size + 1 + 1, 0, none⟩ = some (.int .i64 p) := blk_cell kg 0
  have g1 : w1.cell? ⟨w.heap.size + 1 + 1, 1, none⟩ = some (.int .i64 q) := blk_cell kg 1
  clear hB kt kd kg a51
  go_wp2_with fail
  obtain ⟨w2, hw2⟩ : ∃ w2, (w1.alloc (.cells #[.int .i64 b, .slice A1 l.length c1, .int .i64 u] 28)).alloc (.cells #[.int .i64 b, .slice A2 l.length c2, .int .i64 u] 90) = w2 := ⟨_, rfl⟩
  rw [hw2]
  have hB : Below w1.heap.size w1 w2 := by rw [← hw2]; exact ((Below.refl _ w1).alloc (Nat.le_refl _) _).alloc (by simp) _
  have ko : w2.heap[w1.heap.size]? = some (.cells #[.int .i64 b, .slice A1 l.length c1, .int .i64 u] 28 (0, 0)) := by rw [← hw2]; exact al_old (al_new _ _ _ rfl)
  have kf : w2.heap[w1.heap.size + 1]? = some (.cells #[.int .i64 b, .slice A2 l.length c2, .int .i64 u] 90 (0, 0)) := by rw [← hw2]; exact al_new _ _ _ (by simp)
  have o0 : w2.cell? ⟨w1.heap.size, 0, none⟩ = some (.int .i64 b) := blk_cell ko 0
  have o1 : w2.cell? ⟨w1.heap.size, 1, none⟩ = some (.slice A1 l.length c1) := blk_cell ko 1
  have o2 : w2.cell? ⟨w1.heap.size, 2, none⟩ = some (.int .i64 u) := blk_cell ko 2
  have f0 : w2.cell? ⟨w1.heap.size + 1, 0, none⟩ = some (.int .i64 b) := blk_cell kf 0
  have f1 : w2.cell? ⟨w1.heap.size + 1, 1, none⟩ = some (.slice A2 l.length c2) := blk_cell kf 1
  have f2 : w2.cell? ⟨w1.heap.size + 1, 2, none⟩ = some (.int .i64 u) := blk_cell kf 2
  clear hw2 ko kf
  have hv := hv1
  replace t0 := cell_on hB t0
  replace t1 := cell_on hB t1
  replace t2 := cell_on hB t2
  replace d0 := cell_on hB d0
  replace d1 := cell_on hB d1
  replace g0 := cell_on hB g0
  replace g1 := cell_on hB g1
  replace hC1 := Kd.C_below hC1 hB
  replace hC2 := Kd.C_below hC2 hB
  replace hv := hv.trans (hB.mono hv.size)
  clear hB
  clear hv1
  go_wp2_with fail
  refine (H28.out _ _ _ hC1).mono ?_
  rintro en w3 ⟨rfl, hB⟩
  replace t0 := cell_on hB t0
  replace t1 := cell_on hB t1
  replace t2 := cell_on hB t2
  replace d0 := cell_on hB d0
  replace d1 := cell_on hB d1
  replace g0 := cell_on hB g0
  replace g1 := cell_on hB g1
  replace o0 := cell_on hB o0
  replace o1 := cell_on hB o1
  replace o2 := cell_on hB o2
  replace f0 := cell_on hB f0
  replace f1 := cell_on hB f1
  replace f2 := cell_on hB f2
  replace hC1 := Kd.C_below hC1 hB
  replace hC2 := Kd.C_below hC2 hB
  replace hv := hv.trans (hB.mono hv.size)
  clear hB
  clear H28
  go_wp2_with fail
  refine (H73.out _ _ _ hC2).mono ?_
  rintro en w4 ⟨rfl, hB⟩
  replace t0 := cell_on hB t0
  replace t1 := cell_on hB t1
  replace t2 := cell_on hB t2
  replace d0 := cell_on hB d0
  replace d1 := cell_on hB d1
  replace g0 := cell_on hB g0
  replace g1 := cell_on hB g1
  replace o0 := cell_on hB o0
  replace o1 := cell_on hB o1
  replace o2 := cell_on hB o2
  replace f0 := cell_on hB f0
  replace f1 := cell_on hB f1
  replace f2 := cell_on hB f2
  replace hC1 := Kd.C_below hC1 hB
  replace hC2 := Kd.C_below hC2 hB
  replace hv := hv.trans (hB.mono hv.size)
  clear hB
  clear H73
  go_wp2_with fail
  refine (H32.out _ _ _ hC1).mono ?_
  rintro en w5 ⟨⟨Q1, cq1, rfl, hQ1⟩, hB⟩
  replace t0 := cell_on hB t0
  replace t1 := cell_on hB t1
  replace t2 := cell_on hB t2
  replace d0 := cell_on hB d0
  replace d1 := cell_on hB d1
  replace g0 := cell_on hB g0
  replace g1 := cell_on hB g1
  replace o0 := cell_on hB o0
  replace o1 := cell_on hB o1
  replace o2 := cell_on hB o2
  replace f0 := cell_on hB f0
  replace f1 := cell_on hB f1
  replace f2 := cell_on hB f2
  replace hC1 := Kd.C_below hC1 hB
  replace hC2 := Kd.C_below hC2 hB
  replace hv := hv.trans (hB.mono hv.size)
  clear hB
  clear H32
  go_wp2_with fail
  refine (H74.out _ _ _ hC2).mono ?_
  rintro en w6 ⟨⟨Q2, cq2, rfl, hQ2⟩, hB⟩
  replace t0 := cell_on hB t0
  replace t1 := cell_on hB t1
  replace t2 := cell_on hB t2
  replace d0 := cell_on hB d0
  replace d1 := cell_on hB d1
  replace g0 := cell_on hB g0
  replace g1 := cell_on hB g1
  replace o0 := cell_on hB o0
  replace o1 := cell_on hB o1
  replace o2 := cell_on hB o2
  replace f0 := cell_on hB f0
  replace f1 := cell_on hB f1
  replace f2 := cell_on hB f2
  replace hC1 := Kd.C_below hC1 hB
  replace hC2 := Kd.C_below hC2 hB
  replace hQ1 := Kd.C_below hQ1 hB
  replace hv := hv.trans (hB.mono hv.size)
  clear hB
  clear H74
  have q35 := equal_calls Q1 Q2 cq1 cq2 Q Q w6 hQ1 hQ2 (by omega) (by omega)
  rw [show decide (Q = Q) = true by simp] at q35
  go_wp2_with fail
  refine q35.mono ?_
  rintro en w7 ⟨rfl, hB⟩
  clear hQ1 hQ2 q35
  replace t0 := cell_on hB t0
  replace t1 := cell_on hB t1
  replace t2 := cell_on hB t2
  replace d0 := cell_on hB d0
  replace d1 := cell_on hB d1
  replace g0 := cell_on hB g0
  replace g1 := cell_on hB g1
  replace o0 := cell_on hB o0
  replace o1 := cell_on hB o1
  replace o2 := cell_on hB o2
  replace f0 := cell_on hB f0
  replace f1 := cell_on hB f1
  replace f2 := cell_on hB f2
  replace hC1 := Kd.C_below hC1 hB
  replace hC2 := Kd.C_below hC2 hB
  replace hv := hv.trans (hB.mono hv.size)
  clear hB
  go_wp2_with fail
  refine (H33.out _ _ _ hC1).mono ?_
  rintro en w8 ⟨rfl, hB⟩
  replace t0 := cell_on hB t0
  replace t1 := cell_on hB t1
  replace t2 := cell_on hB t2
  replace d0 := cell_on hB d0
  replace d1 := cell_on hB d1
  replace g0 := cell_on hB g0
  replace g1 := cell_on hB g1
  replace o0 := cell_on hB o0
  replace o1 := cell_on hB o1
  replace o2 := cell_on hB o2
  replace f0 := cell_on hB f0
  replace f1 := cell_on hB f1
  replace f2 := cell_on hB f2
  replace hC1 := Kd.C_below hC1 hB
  replace hC2 := Kd.C_below hC2 hB
  replace hv := hv.trans (hB.mono hv.size)
  clear hB
  clear H33
  have hz0 : w1.heap.size < w8.heap.size := World.block_lt_of_cell? _ _ o0
  have hz1 : w1.heap.size + 1 < w8.heap.size := World.block_lt_of_cell? _ _ f0
  have hz2 : w.heap.size < w8.heap.size := World.block_lt_of_cell? _ _ t0
  have hz3 : w.heap.size + 1 < w8.heap.size := World.block_lt_of_cell? _ _ d0
  have hz4 : w.heap.size + 1 + 1 < w8.heap.size := World.block_lt_of_cell? _ _ g0
  skip
  go_wp2_with fail
  obtain ⟨w9, hw8⟩ : ∃ wz0, w8.alloc (.cells #[.int .i64 a33, .int .i64 b33] 52) = wz0 := ⟨_, rfl⟩
  try rw [hw8]
  have hB : Below w8.heap.size w8 w9 := by rw [← hw8]; exact (Below.refl _ w8).alloc (Nat.le_refl _) _
  have kx : w9.heap[w8.heap.size]? = some (.cells #[.int .i64 a33, .int .i64 b33] 52 (0, 0)) := by rw [← hw8]; exact al_new _ _ _ rfl
  replace t0 := cell_on hB t0
  replace t1 := cell_on hB t1
  replace t2 := cell_on hB t2
  replace d0 := cell_on hB d0
  replace d1 := cell_on hB d1
  replace g0 := cell_on hB g0
  replace g1 := cell_on hB g1
  replace o0 := cell_on hB o0
  replace o1 := cell_on hB o1
  replace o2 := cell_on hB o2
  replace f0 := cell_on hB f0
  replace f1 := cell_on hB f1
  replace f2 := cell_on hB f2
  replace hC1 := Kd.C_below hC1 hB
  replace hC2 := Kd.C_below hC2 hB
  replace hv := hv.trans (hB.mono hv.size)
  clear hB
  have m0 : w9.cell? ⟨w8.heap.size, 0, none⟩ = some (.int .i64 a33) := blk_cell kx 0
  have m1 : w9.cell? ⟨w8.heap.size, 1, none⟩ = some (.int .i64 b33) := blk_cell kx 1
  clear hw8 kx hz0 hz1 hz2 hz3 hz4
  refine (H75.out _ _ _ hC2).mono ?_
  rintro en w10 ⟨rfl, hB⟩
  replace t0 := cell_on hB t0
  replace t1 := cell_on hB t1
  replace t2 := cell_on hB t2
  replace d0 := cell_on hB d0
  replace d1 := cell_on hB d1
  replace g0 := cell_on hB g0
  replace g1 := cell_on hB g1
  replace o0 := cell_on hB o0
  replace o1 := cell_on hB o1
  replace o2 := cell_on hB o2
  replace f0 := cell_on hB f0
  replace f1 := cell_on hB f1
  replace f2 := cell_on hB f2
  replace m0 := cell_on hB m0
  replace m1 := cell_on hB m1
  replace hC1 := Kd.C_below hC1 hB
  replace hC2 := Kd.C_below hC2 hB
  replace hv := hv.trans (hB.mono hv.size)
  clear hB
  clear H75
  have hz0 : w1.heap.size < w10.heap.size := World.block_lt_of_cell? _ _ o0
  have hz1 : w1.heap.size + 1 < w10.heap.size := World.block_lt_of_cell? _ _ f0
  have hz2 : w.heap.size < w10.heap.size := World.block_lt_of_cell? _ _ t0
  have hz3 : w.heap.size + 1 < w10.heap.size := World.block_lt_of_cell? _ _ d0
  have hz4 : w.heap.size + 1 + 1 < w10.heap.size := World.block_lt_of_cell? _ _ g0
  have hz5 := World.block_lt_of_cell? _ _ m0
  go_wp2_with fail
  obtain ⟨w11, hw8⟩ : ∃ wz0, w10.alloc (.cells #[.int .i64 a33, .int .i64 b33] 121) = wz0 := ⟨_, rfl⟩
  try rw [hw8]
  have hB : Below w10.heap.size w10 w11 := by rw [← hw8]; exact (Below.refl _ w10).alloc (Nat.le_refl _) _
  have kx : w11.heap[w10.heap.size]? = some (.cells #[.int .i64 a33, .int .i64 b33] 121 (0, 0)) := by rw [← hw8]; exact al_new _ _ _ rfl
  replace t0 := cell_on hB t0
  replace t1 := cell_on hB t1
  replace t2 := cell_on hB t2
  replace d0 := cell_on hB d0
  replace d1 := cell_on hB d1
  replace g0 := cell_on hB g0
  replace g1 := cell_on hB g1
  replace o0 := cell_on hB o0
  replace o1 := cell_on hB o1
  replace o2 := cell_on hB o2
  replace f0 := cell_on hB f0
  replace f1 := cell_on hB f1
  replace f2 := cell_on hB f2
  replace m0 := cell_on hB m0
  replace m1 := cell_on hB m1
  replace hC1 := Kd.C_below hC1 hB
  replace hC2 := Kd.C_below hC2 hB
  replace hv := hv.trans (hB.mono hv.size)
  clear hB
  have n0 : w11.cell? ⟨w10.heap.size, 0, none⟩ = some (.int .i64 a33) := blk_cell kx 0
  have n1 : w11.cell? ⟨w10.heap.size, 1, none⟩ = some (.int .i64 b33) := blk_cell kx 1
  clear hw8 kx hz0 hz1 hz2 hz3 hz4 hz5
  refine (H34.out _ _ _ hC1).mono ?_
  rintro en w12 ⟨⟨M1, cm1, rfl, hM1⟩, hB⟩
  replace t0 := cell_on hB t0
  replace t1 := cell_on hB t1
  replace t2 := cell_on hB t2
  replace d0 := cell_on hB d0
  replace d1 := cell_on hB d1
  replace g0 := cell_on hB g0
  replace g1 := cell_on hB g1
  replace o0 := cell_on hB o0
  replace o1 := cell_on hB o1
  replace o2 := cell_on hB o2
  replace f0 := cell_on hB f0
  replace f1 := cell_on hB f1
  replace f2 := cell_on hB f2
  replace m0 := cell_on hB m0
  replace m1 := cell_on hB m1
  replace n0 := cell_on hB n0
  replace n1 := cell_on hB n1
  replace hC1 := Kd.C_below hC1 hB
  replace hC2 := Kd.C_below hC2 hB
  replace hv := hv.trans (hB.mono hv.size)
  clear hB
  clear H34
  clear m0 m1 n0 n1
  go_wp2_with fail
  refine (H76.out _ _ _ hC2).mono ?_
  rintro en w13 ⟨⟨M2, cm2, rfl, hM2⟩, hB⟩
  replace t0 := cell_on hB t0
  replace t1 := cell_on hB t1
  replace t2 := cell_on hB t2
  replace d0 := cell_on hB d0
  replace d1 := cell_on hB d1
  replace g0 := cell_on hB g0
  replace g1 := cell_on hB g1
  replace o0 := cell_on hB o0
  replace o1 := cell_on hB o1
  replace o2 := cell_on hB o2
  replace f0 := cell_on hB f0
  replace f1 := cell_on hB f1
  replace f2 := cell_on hB f2
  replace hC1 := Kd.C_below hC1 hB
  replace hC2 := Kd.C_below hC2 hB
  replace hM1 := Kd.C_below hM1 hB
  replace hv := hv.trans (hB.mono hv.size)
  clear hB
  clear H76
  have q35 := equal_calls M1 M2 cm1 cm2 M M w13 hM1 hM2 (by omega) (by omega)
  rw [show decide (M = M) = true by simp] at q35
  go_wp2_with fail
  refine q35.mono ?_
  rintro en w14 ⟨rfl, hB⟩
  clear hM1 hM2 q35
  replace t0 := cell_on hB t0
  replace t1 := cell_on hB t1
  replace t2 := cell_on hB t2
  replace d0 := cell_on hB d0
  replace d1 := cell_on hB d1
  replace g0 := cell_on hB g0
  replace g1 := cell_on hB g1
  replace o0 := cell_on hB o0
  replace o1 := cell_on hB o1
  replace o2 := cell_on hB o2
  replace f0 := cell_on hB f0
  replace f1 := cell_on hB f1
  replace f2 := cell_on hB f2
  replace hC1 := Kd.C_below hC1 hB
  replace hC2 := Kd.C_below hC2 hB
  replace hv := hv.trans (hB.mono hv.size)
  clear hB
  go_wp2_with fail
  refine (H37.out _ _ _ hC1).mono ?_
  rintro en w15 ⟨rfl, hB⟩
  replace t0 := cell_on hB t0
  replace t1 := cell_on hB t1
  replace t2 := cell_on hB t2
  replace d0 := cell_on hB d0
  replace d1 := cell_on hB d1
  replace g0 := cell_on hB g0
  replace g1 := cell_on hB g1
  replace o0 := cell_on hB o0
  replace o1 := cell_on hB o1
  replace o2 := cell_on hB o2
  replace f0 := cell_on hB f0
  replace f1 := cell_on hB f1
  replace f2 := cell_on hB f2
  replace hC1 := Kd.C_below hC1 hB
  replace hC2 := Kd.C_below hC2 hB
  replace hv := hv.trans (hB.mono hv.size)
  clear hB
  clear H37
  have hz0 : w1.heap.size < w15.heap.size := World.block_lt_of_cell? _ _ o0
  have hz1 : w1.heap.size + 1 < w15.heap.size := World.block_lt_of_cell? _ _ f0
  have hz2 : w.heap.size < w15.heap.size := World.block_lt_of_cell? _ _ t0
  have hz3 : w.heap.size + 1 < w15.heap.size := World.block_lt_of_cell? _ _ d0
  have hz4 : w.heap.size + 1 + 1 < w15.heap.size := World.block_lt_of_cell? _ _ g0
  skip
  go_wp2_with fail
  obtain ⟨w16, hw8⟩ : ∃ wz0, w15.alloc (.cells #[.int .i64 g37, .int .i64 s37] 54) = wz0 := ⟨_, rfl⟩
  try rw [hw8]
  have hB : Below w15.heap.size w15 w16 := by rw [← hw8]; exact (Below.refl _ w15).alloc (Nat.le_refl _) _
  have kx : w16.heap[w15.heap.size]? = some (.cells #[.int .i64 g37, .int .i64 s37] 54 (0, 0)) := by rw [← hw8]; exact al_new _ _ _ rfl
  replace t0 := cell_on hB t0
  replace t1 := cell_on hB t1
  replace t2 := cell_on hB t2
  replace d0 := cell_on hB d0
  replace d1 := cell_on hB d1
  replace g0 := cell_on hB g0
  replace g1 := cell_on hB g1
  replace o0 := cell_on hB o0
  replace o1 := cell_on hB o1
  replace o2 := cell_on hB o2
  replace f0 := cell_on hB f0
  replace f1 := cell_on hB f1
  replace f2 := cell_on hB f2
  replace hC1 := Kd.C_below hC1 hB
  replace hC2 := Kd.C_below hC2 hB
  replace hv := hv.trans (hB.mono hv.size)
  clear hB
  have m0 : w16.cell? ⟨w15.heap.size, 0, none⟩ = some (.int .i64 g37) := blk_cell kx 0
  have m1 : w16.cell? ⟨w15.heap.size, 1, none⟩ = some (.int .i64 s37) := blk_cell kx 1
  clear hw8 kx hz0 hz1 hz2 hz3 hz4
  refine (H77.out _ _ _ hC2).mono ?_
  rintro en w17 ⟨rfl, hB⟩
  replace t0 := cell_on hB t0
  replace t1 := cell_on hB t1
  replace t2 := cell_on hB t2
  replace d0 := cell_on hB d0
  replace d1 := cell_on hB d1
  replace g0 := cell_on hB g0
  replace g1 := cell_on hB g1
  replace o0 := cell_on hB o0
  replace o1 := cell_on hB o1
  replace o2 := cell_on hB o2
  replace f0 := cell_on hB f0
  replace f1 := cell_on hB f1
  replace f2 := cell_on hB f2
  replace m0 := cell_on hB m0
  replace m1 := cell_on hB m1
  replace hC1 := Kd.C_below hC1 hB
  replace hC2 := Kd.C_below hC2 hB
  replace hv := hv.trans (hB.mono hv.size)
  clear hB
  clear H77
  have hz0 : w1.heap.size < w17.heap.size := World.block_lt_of_cell? _ _ o0
  have hz1 : w1.heap.size + 1 < w17.heap.size := World.block_lt_of_cell? _ _ f0
  have hz2 : w.heap.size < w17.heap.size := World.block_lt_of_cell? _ _ t0
  have hz3 : w.heap.size + 1 < w17.heap.size := World.block_lt_of_cell? _ _ d0
  have hz4 : w.heap.size + 1 + 1 < w17.heap.size := World.block_lt_of_cell? _ _ g0
  have hz5 := World.block_lt_of_cell? _ _ m0
  go_wp2_with fail
  obtain ⟨w18, hw8⟩ : ∃ wz0, w17.alloc (.cells #[.int .i64 g37, .int .i64 s37] 125) = wz0 := ⟨_, rfl⟩
  try rw [hw8]
  have hB : Below w17.heap.size w17 w18 := by rw [← hw8]; exact (Below.refl _ w17).alloc (Nat.le_refl _) _
  have kx : w18.heap[w17.heap.size]? = some (.cells #[.int .i64 g37, .int .i64 s37] 125 (0, 0)) := by rw [← hw8]; exact al_new _ _ _ rfl
  replace t0 := cell_on hB t0
  replace t1 := cell_on hB t1
  replace t2 := cell_on hB t2
  replace d0 := cell_on hB d0
  replace d1 := cell_on hB d1
  replace g0 := cell_on hB g0
  replace g1 := cell_on hB g1
  replace o0 := cell_on hB o0
  replace o1 := cell_on hB o1
  replace o2 := cell_on hB o2
  replace f0 := cell_on hB f0
  replace f1 := cell_on hB f1
  replace f2 := cell_on hB f2
  replace m0 := cell_on hB m0
  replace m1 := cell_on hB m1
  replace hC1 := Kd.C_below hC1 hB
  replace hC2 := Kd.C_below hC2 hB
  replace hv := hv.trans (hB.mono hv.size)
  clear hB
  have n0 : w18.cell? ⟨w17.heap.size, 0, none⟩ = some (.int .i64 g37) := blk_cell kx 0
  have n1 : w18.cell? ⟨w17.heap.size, 1, none⟩ = some (.int .i64 s37) := blk_cell kx 1
  clear hw8 kx hz0 hz1 hz2 hz3 hz4 hz5
  refine (H38.out _ _ _ hC1).mono ?_
  rintro en w19 ⟨rfl, hB⟩
  replace t0 := cell_on hB t0
  replace t1 := cell_on hB t1
  replace t2 := cell_on hB t2
  replace d0 := cell_on hB d0
  replace d1 := cell_on hB d1
  replace g0 := cell_on hB g0
  replace g1 := cell_on hB g1
  replace o0 := cell_on hB o0
  replace o1 := cell_on hB o1
  replace o2 := cell_on hB o2
  replace f0 := cell_on hB f0
  replace f1 := cell_on hB f1
  replace f2 := cell_on hB f2
  replace m0 := cell_on hB m0
  replace m1 := cell_on hB m1
  replace n0 := cell_on hB n0
  replace n1 := cell_on hB n1
  replace hC1 := Kd.C_below hC1 hB
  replace hC2 := Kd.C_below hC2 hB
  replace hv := hv.trans (hB.mono hv.size)
  clear hB
  clear H38
  clear m0 m1 n0 n1
  go_wp2_with fail
  refine (H78.out _ _ _ hC2).mono ?_
  rintro en w20 ⟨rfl, hB⟩
  replace t0 := cell_on hB t0
  replace t1 := cell_on hB t1
  replace t2 := cell_on hB t2
  replace d0 := cell_on hB d0
  replace d1 := cell_on hB d1
  replace g0 := cell_on hB g0
  replace g1 := cell_on hB g1
  replace o0 := cell_on hB o0
  replace o1 := cell_on hB o1
  replace o2 := cell_on hB o2
  replace f0 := cell_on hB f0
  replace f1 := cell_on hB f1
  replace f2 := cell_on hB f2
  replace hC1 := Kd.C_below hC1 hB
  replace hC2 := Kd.C_below hC2 hB
  replace hv := hv.trans (hB.mono hv.size)
  clear hB
  clear H78
  have k23 := kept_calls b u A1 A c1 c l w20 hC1 (Kd.C_below HR.out hv) (by omega)
  go_wp2_with fail
  refine k23.mono ?_
  rintro en wz ⟨rfl, hB⟩
  go_wp2
  go_ret
  exact ⟨rfl, hv.trans (hB.mono hv.size)⟩
end Go.Proofs.Ytleipbanadnchaa.C
