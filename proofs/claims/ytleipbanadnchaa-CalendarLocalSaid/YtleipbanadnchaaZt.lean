/- CalendarLocal's function returns true for every input. -/
import Derived.OwnWalk
import Derived.Test.YtleipbanadnchaaY1
import Derived.Test.YtleipbanadnchaaCk
import Derived.Test.YtleipbanadnchaaDa
import Derived.Deep.RegionHeld3
import Derived.Test.YtleipbanadnchaaY5
import Derived.Test.YtleipbanadnchaaY3
import Derived.Test.YtleipbanadnchaaY2
import Derived.Test.YtleipbanadnchaaY4
import Derived.Test.YtleipbanadnchaaGc
namespace Go.Proofs.Ytleipbanadnchaa.C
open Go.RowKit Go.Shelf Go.Maps Go.Proofs.YtleipbanadnchaaW.PrintWords Go.Proofs.YtleipbanadnchaaW.PrintLast Go.Proofs.YtleipbanadnchaaW.PrintMore
set_option linter.unusedVariables false
set_option linter.unusedSimpArgs false
theorem eqA30z (d : Nat) (w : World) (x0 x1 x2 x3 x4 x5 y0 y1 y2 y3 y4 y5 : Int) :
    (Op.equalIn (d + 2) 30 (dateV x0 x1 x2 x3 x4 x5) (dateV y0 y1 y2 y3 y4 y5)).run Try.prog w = .ok (x0 == y0 && (x1 == y1 && (x2 == y2 && (x3 == y3 && (x4 == y4 && (x5 == y5)))))) w := by
  refine eqA_of Try.underlying30 (by kernel_rfl) ?_
  refine eqf_cons (by rfl) (by go_simp; rfl) (by go_simp; rfl) (by go_simp) ?_
  refine eqf_cons (by rfl) (by go_simp; rfl) (by go_simp; rfl) (by go_simp) ?_
  refine eqf_cons (by rfl) (by go_simp; rfl) (by go_simp; rfl) (by go_simp) ?_
  refine eqf_cons (by rfl) (by go_simp; rfl) (by go_simp; rfl) (by go_simp) ?_
  refine eqf_cons (by rfl) (by go_simp; rfl) (by go_simp; rfl) (by go_simp) ?_
  exact eqf_last (by rfl) (by go_simp; rfl) (by go_simp; rfl) (by go_simp)
attribute [local go_sem high] eqA30z
theorem ckH_bound {L : List (Int × Int)} {u s D : Int} (hR : Right u L) (hD : IsDay L u s D) : 0 ≤ ckH (s - beginF L D) ∧ ckH (s - beginF L D) ≤ 23 ∧ 0 ≤ ckM (s - beginF L D) ∧ ckM (s - beginF L D) ≤ 59 ∧ 0 ≤ ckS (s - beginF L D) ∧ ckS (s - beginF L D) ≤ 60 := by
  have h := hD.clock hR
  have h2 := ck_time h.1 h.2.2
  exact ⟨h2.1, h2.2.1, h2.2.2.1, h2.2.2.2.1, h2.2.2.2.2.1, h2.2.2.2.2.2.1⟩
set_option maxHeartbeats 8000000 in
set_option maxRecDepth 100000 in
theorem calendarLocal_w.calls (A : Option Addr) (c : Nat) (l : List Int) (B : Option Addr) (cB : Nat) (zb : List Int) (wh by_ oth : Int) (w : World) (hr : Kd.C (Kd.int .u8) w A l.length l) (hb : ∀ x ∈ l, 0 ≤ x ∧ x ≤ 255) (hlen : l.length ≤ 9223372036854775807)
    (hr2 : Kd.C (Kd.int .u8) w B zb.length zb) (hb2 : ∀ x ∈ zb, 0 ≤ x ∧ x ≤ 255) (hlen2 : zb.length ≤ 9223372036854775807) (hw0 : 0 ≤ wh) (hw1 : wh ≤ 255) (ho0 : 0 ≤ oth) (ho1 : oth ≤ 65535) :
    Calls Try.prog 11 #[.slice A l.length c, .slice B zb.length cB, .int .u8 wh, .int .i64 by_, .int .u16 oth] w fun e w' => e = .returned (.bool true) ∧ Below w.heap.size w w' := by
  have a16 := fun w h => made_calls2 A c l w h hb hlen
  have HR := Aside0.mk hr
  have HR2 := Aside0.mk hr2
  have a40 := fun s w h h1 h2 => zoned_calls B cB zb s w h hb2 hlen2 h1 h2
  have a14 := fun w => awake_calls w
  clear hr hb hlen hr2 hb2 hlen2
  go_enter Try.func11, Try.ntmps11
  go_wp2_with fail
  refine (a16 _ HR.out).mono ?_
  rintro en w1 ⟨⟨b, u, A1, c1, L, rfl, hk, hL, hC, _⟩, hv⟩
  clear a16 HR
  have hld := last_day hk
  have hbu := beginU hk
  have a17 := fun w h => Total_calls b u A1 c1 L w h
  unfold totalR at a17
  rw [if_pos hk] at a17
  obtain ⟨tot, htot⟩ : ∃ tot, beginF L u = tot := ⟨_, rfl⟩
  rw [htot] at hld hbu a17
  have HK := Aside0.mk hk
  have HT := Aside0.mk htot
  have ht1 : 1 ≤ tot := hld.1
  have ht2 := hbu.2
  have a18 := fun w h => near_calls b u A1 c1 L tot wh by_ w h hk ht1 ht2 hw0 hw1
  have dt : decide (tot < 1) = false := decide_eq_false (by omega)
  have hR := (checkF_right hk).2.2.2.2.2
  have HRT := Aside0.mk hR
  have hB2 := Kd.C_below HR2.out hv
  clear hk hbu htot hld hR
  simp only at a17
  go_wp2_with fail
  obtain ⟨w2, hw2⟩ : ∃ w2, w1.alloc (.cells #[.int .i64 b, .slice A1 L.length c1, .int .i64 u] 28) = w2 := ⟨_, rfl⟩
  try rw [hw2]
  have hB : Below w1.heap.size w1 w2 := by rw [← hw2]; exact (Below.refl _ w1).alloc (by first | exact Nat.le_refl _ | (simp; done) | (simp; omega)) _
  have ko : w2.heap[w1.heap.size]? = some (.cells #[.int .i64 b, .slice A1 L.length c1, .int .i64 u] 28 (0, 0)) := by rw [← hw2]; exact al_new _ _ _ (by first | rfl | (simp; done) | (simp; omega))
  have o0 : w2.cell? ⟨w1.heap.size, 0, none⟩ = some (.int .i64 b) := blk_cell ko 0
  have o1 : w2.cell? ⟨w1.heap.size, 1, none⟩ = some (.slice A1 L.length c1) := blk_cell ko 1
  have o2 : w2.cell? ⟨w1.heap.size, 2, none⟩ = some (.int .i64 u) := blk_cell ko 2
  clear ko
  replace hC := Kd.C_below hC hB
  replace hB2 := Kd.C_below hB2 hB
  replace hv := hv.trans (hB.mono hv.size)
  clear hB hw2
  refine (a17 _ hC).mono ?_
  rintro en w3 ⟨rfl, hB⟩
  replace o0 := cell_on hB o0
  replace o1 := cell_on hB o1
  replace o2 := cell_on hB o2
  replace hC := Kd.C_below hC hB
  replace hB2 := Kd.C_below hB2 hB
  replace hv := hv.trans (hB.mono hv.size)
  clear hB a17
  go_wp2_with fail
  refine (a18 _ hC).mono ?_
  rintro en w4 ⟨⟨r, rfl, hr0, hr1⟩, hB⟩
  replace o0 := cell_on hB o0
  replace o1 := cell_on hB o1
  replace o2 := cell_on hB o2
  replace hC := Kd.C_below hC hB
  replace hB2 := Kd.C_below hB2 hB
  replace hv := hv.trans (hB.mono hv.size)
  clear hB a18
  clear dt
  go_wp2_with fail
  refine (a40 r _ hB2 hr0 (by omega)).mono ?_
  rintro en w5 ⟨⟨oz, Az, cz, zl, rfl, hzk, hZ⟩, hB⟩
  replace o0 := cell_on hB o0
  replace o1 := cell_on hB o1
  replace o2 := cell_on hB o2
  replace hC := Kd.C_below hC hB
  replace hv := hv.trans (hB.mono hv.size)
  clear hB a40 hB2
  have HZK := Aside0.mk hzk
  clear hzk
  obtain ⟨eA, D, hD⟩ := askE_in (s := r) HK.out hr0 (by rw [HT.out]; omega)
  have hkn := (askE_zero eA).2
  have a41 := fun w h1 h2 => lc_ok b u A1 c1 L oz Az cz zl r D w h1 h2 HK.out HZK.out hkn hD
  have a19 := fun w h => Dates_ok b u A1 c1 L r D w h eA hD
  have hoff := offL_bound HZK.out (holds_mem r zl oz)
  have hcb := ckH_bound HRT.out hD
  have HIN := Aside0.mk (fun h => local_in (o := oz) (zl := zl) HK.out HZK.out hD h)
  have HD := Aside0.mk hD
  have hu := (checkF_right HK.out).2.2.2.1
  have hDD := hD.ok hu
  have hT : locT L oz zl r D = 1440 * D + 60 * ckH (r - beginF L D) + ckM (r - beginF L D) + holdsF oz zl r := by unfold locT shN; rw [hDD.2]
  have hD0 := hD.d0
  have hD1 := hD.d1
  have a26 := fun w => day_calls (cY D) (cM D) (cD D) w
  unfold dayV dayE at a26
  rw [hDD.1, if_pos rfl, if_pos rfl, hDD.2] at a26
  clear hkn eA hD hDD
  unfold shiftV at a41
  have hTe : shN (cY D) (cM D) (cD D) (ckH (r - beginF L D)) (ckM (r - beginF L D)) (holdsF oz zl r) = locT L oz zl r D := rfl
  rw [hTe] at a41
  clear hTe
  obtain ⟨T, hTT⟩ : ∃ T, locT L oz zl r D = T := ⟨_, rfl⟩
  rw [hTT] at a41 hT HIN
  obtain ⟨n, hn⟩ : ∃ n, holdsF oz zl r = n := ⟨_, rfl⟩
  rw [hn] at a41 hT hoff
  generalize ckH (r - beginF L D) = H at *
  generalize ckM (r - beginF L D) = I at *
  generalize ckS (r - beginF L D) = S at *
  clear hn hTT
  have hs1 := World.block_lt_of_cell? _ _ o0
  go_wp2_with fail
  clear hs1
  obtain ⟨w6, hw6⟩ : ∃ w6, w5.alloc (.cells #[.int .i64 oz, .slice Az zl.length cz] 76) = w6 := ⟨_, rfl⟩
  try rw [hw6]
  have hB : Below w5.heap.size w5 w6 := by rw [← hw6]; exact (Below.refl _ w5).alloc (by first | exact Nat.le_refl _ | (simp; done) | (simp; omega)) _
  have kz : w6.heap[w5.heap.size]? = some (.cells #[.int .i64 oz, .slice Az zl.length cz] 76 (0, 0)) := by rw [← hw6]; exact al_new _ _ _ (by first | rfl | (simp; done) | (simp; omega))
  have z0 : w6.cell? ⟨w5.heap.size, 0, none⟩ = some (.int .i64 oz) := blk_cell kz 0
  have z1 : w6.cell? ⟨w5.heap.size, 1, none⟩ = some (.slice Az zl.length cz) := blk_cell kz 1
  clear kz
  replace o0 := cell_on hB o0
  replace o1 := cell_on hB o1
  replace o2 := cell_on hB o2
  replace hC := Kd.C_below hC hB
  replace hZ := Kd.C_below hZ hB
  replace hv := hv.trans (hB.mono hv.size)
  clear hB hw6
  cases hkn : knownD (T / 1440)
  · rw [hkn] at a41
    rw [if_neg (by simp), if_neg (by simp), if_neg (by simp)] at a41
    refine (a41 _ hC hZ).mono ?_
    rintro en w7 ⟨rfl, hB⟩
    replace o0 := cell_on hB o0
    replace o1 := cell_on hB o1
    replace o2 := cell_on hB o2
    replace z0 := cell_on hB z0
    replace z1 := cell_on hB z1
    replace hC := Kd.C_below hC hB
    replace hZ := Kd.C_below hZ hB
    replace hv := hv.trans (hB.mono hv.size)
    clear hB a41
    have hs1 := World.block_lt_of_cell? _ _ o0
    go_wp2_with fail
    obtain ⟨w8, hw8⟩ : ∃ w8, w7.alloc (.cells #[.int .i64 0, .int .i64 0, .int .i64 0, .int .i64 0, .int .i64 0, .int .i64 0] 30) = w8 := ⟨_, rfl⟩
    try rw [hw8]
    have hB : Below w7.heap.size w7 w8 := by rw [← hw8]; exact (Below.refl _ w7).alloc (by first | exact Nat.le_refl _ | (simp; done) | (simp; omega)) _
    replace o0 := cell_on hB o0
    replace o1 := cell_on hB o1
    replace o2 := cell_on hB o2
    replace z0 := cell_on hB z0
    replace z1 := cell_on hB z1
    replace hC := Kd.C_below hC hB
    replace hZ := Kd.C_below hZ hB
    replace hv := hv.trans (hB.mono hv.size)
    clear hB hw8
    refine (a14 _).mono ?_
    rintro en w9 ⟨rfl, hB⟩
    replace o0 := cell_on hB o0
    replace o1 := cell_on hB o1
    replace o2 := cell_on hB o2
    replace z0 := cell_on hB z0
    replace z1 := cell_on hB z1
    replace hC := Kd.C_below hC hB
    replace hZ := Kd.C_below hZ hB
    replace hv := hv.trans (hB.mono hv.size)
    clear hB a14
    go_wp2
    go_ret
    exact ⟨rfl, hv⟩
  · rw [hkn] at a41
    rw [if_pos rfl, if_pos rfl, if_pos rfl] at a41
    generalize hcy : cY (T / 1440) = y at *
    generalize hcm : cM (T / 1440) = m at *
    generalize hcd : cD (T / 1440) = d at *
    obtain ⟨h, hh⟩ : ∃ h, T / 60 % 24 = h := ⟨_, rfl⟩
    obtain ⟨i, hi⟩ : ∃ i, T % 60 = i := ⟨_, rfl⟩
    rw [hh, hi] at a41 HIN
    have hin := HIN.out hkn
    have hok := (known_ok hkn).1
    have hdn := (known_ok hkn).2
    rw [hcy, hcm, hcd] at hok hdn
    have b26 := fun w => day_calls y m d w
    unfold dayV dayE at b26
    rw [hok, if_pos rfl, if_pos rfl, hdn] at b26
    have hhb : 0 ≤ h ∧ h ≤ 23 ∧ 0 ≤ i ∧ i ≤ 59 := by omega
    have hck : clkOk h i S := ⟨hhb.1, hhb.2.1, hhb.2.2.1, hhb.2.2.2, hcb.2.2.2.2.1, hcb.2.2.2.2.2⟩
    have a42 := fun w h1 h2 => FromLocal_calls b u A1 c1 L oz Az cz zl y m d h i S w h1 h2
    have hfl : flL b u L oz zl y m d h i S = localL u L oz zl y m d h i S := if_pos ⟨HK.out, HZK.out, hok, hck⟩
    have hfe : flE b u L oz zl y m d h i S = 0 := by unfold flE; rw [if_neg (by simp [HK.out]), if_neg (by simp [HZK.out]), if_pos ⟨hok, hck⟩, if_neg (fun e => by rw [e] at hin; simp at hin)]
    rw [hfl, hfe] at a42
    have hsort := (localL_sorted HRT.out oz zl y m d h i S).imp (fun {a b} (h : a < b) => Int.le_of_lt h)
    have hll := local_len u L oz zl y m d h i S
    have HOF := Aside0.mk (fun k => local_of (b := b) (o := oz) (zl := zl) (s := S) (k := k) HK.out hok ⟨hhb.1, hhb.2.1⟩ ⟨hhb.2.2.1, hhb.2.2.2⟩)
    have HIN2 := Aside0.mk (fun k D => local_in (o := oz) (zl := zl) (k := k) (D := D) HK.out HZK.out)
    have hcont : (localL u L oz zl y m d h i S).contains r = true := by simpa using hin
    generalize hq : localL u L oz zl y m d h i S = q at *
    have HQ := Aside0.mk hq
    have HSO := Aside0.mk hsort
    have harith : 1440 * (T / 1440 - D) + 60 * (h - H) + i - I = n := by omega
    have hTb : 41316 ≤ T / 1440 ∧ T / 1440 ≤ 88070 := by omega
    clear hfl hfe hin hsort hq hcy hcm hcd HIN hok hdn hck hT hh hi
    have hqn : (1440 * (T / 1440 - D) + 60 * (h - H) + i - I != n) = false := by rw [harith]; simp
    have hqn2 : (1440 * (T / 1440 - D) + 60 * (h - H) + i - I == n) = true := by rw [harith]; simp
    have hSS : (S != S) = false := by simp
    have hSS2 : (S == S) = true := by simp
    generalize T / 1440 = TD at *
    refine (a41 _ hC hZ).mono ?_
    rintro en w7 ⟨rfl, hB⟩
    replace o0 := cell_on hB o0
    replace o1 := cell_on hB o1
    replace o2 := cell_on hB o2
    replace z0 := cell_on hB z0
    replace z1 := cell_on hB z1
    replace hC := Kd.C_below hC hB
    replace hZ := Kd.C_below hZ hB
    replace hv := hv.trans (hB.mono hv.size)
    clear hB a41
    have hs1 := World.block_lt_of_cell? _ _ o0
    have hs2 := World.block_lt_of_cell? _ _ z0
    go_wp2_with fail
    clear hs1 hs2
    obtain ⟨w8, hw8⟩ : ∃ w8, w7.alloc (.cells #[.int .i64 y, .int .i64 m, .int .i64 d, .int .i64 h, .int .i64 i, .int .i64 S] 30) = w8 := ⟨_, rfl⟩
    try rw [hw8]
    have hB : Below w7.heap.size w7 w8 := by rw [← hw8]; exact (Below.refl _ w7).alloc (by first | exact Nat.le_refl _ | (simp; done) | (simp; omega)) _
    have kx : w8.heap[w7.heap.size]? = some (.cells #[.int .i64 y, .int .i64 m, .int .i64 d, .int .i64 h, .int .i64 i, .int .i64 S] 30 (0, 0)) := by rw [← hw8]; exact al_new _ _ _ (by first | rfl | (simp; done) | (simp; omega))
    have x0 : w8.cell? ⟨w7.heap.size, 0, none⟩ = some (.int .i64 y) := blk_cell kx 0
    have x1 : w8.cell? ⟨w7.heap.size, 1, none⟩ = some (.int .i64 m) := blk_cell kx 1
    have x2 : w8.cell? ⟨w7.heap.size, 2, none⟩ = some (.int .i64 d) := blk_cell kx 2
    have x3 : w8.cell? ⟨w7.heap.size, 3, none⟩ = some (.int .i64 h) := blk_cell kx 3
    have x4 : w8.cell? ⟨w7.heap.size, 4, none⟩ = some (.int .i64 i) := blk_cell kx 4
    have x5 : w8.cell? ⟨w7.heap.size, 5, none⟩ = some (.int .i64 S) := blk_cell kx 5
    clear kx
    replace o0 := cell_on hB o0
    replace o1 := cell_on hB o1
    replace o2 := cell_on hB o2
    replace z0 := cell_on hB z0
    replace z1 := cell_on hB z1
    replace hC := Kd.C_below hC hB
    replace hZ := Kd.C_below hZ hB
    replace hv := hv.trans (hB.mono hv.size)
    clear hB hw8
    generalize cY D = uy at *
    generalize cM D = um at *
    generalize cD D = ud at *
    refine (a19 _ hC).mono ?_
    rintro en w9 ⟨rfl, hB⟩
    replace o0 := cell_on hB o0
    replace o1 := cell_on hB o1
    replace o2 := cell_on hB o2
    replace z0 := cell_on hB z0
    replace z1 := cell_on hB z1
    replace x0 := cell_on hB x0
    replace x1 := cell_on hB x1
    replace x2 := cell_on hB x2
    replace x3 := cell_on hB x3
    replace x4 := cell_on hB x4
    replace x5 := cell_on hB x5
    replace hC := Kd.C_below hC hB
    replace hZ := Kd.C_below hZ hB
    replace hv := hv.trans (hB.mono hv.size)
    clear hB a19
    have hs1 := World.block_lt_of_cell? _ _ o0
    have hs2 := World.block_lt_of_cell? _ _ z0
    have hs3 := World.block_lt_of_cell? _ _ x0
    go_wp2_with fail
    clear hs1 hs2 hs3
    obtain ⟨w10, hw10⟩ : ∃ w10, w9.alloc (.cells #[.int .i64 uy, .int .i64 um, .int .i64 ud, .int .i64 H, .int .i64 I, .int .i64 S] 30) = w10 := ⟨_, rfl⟩
    try rw [hw10]
    have hB : Below w9.heap.size w9 w10 := by rw [← hw10]; exact (Below.refl _ w9).alloc (by first | exact Nat.le_refl _ | (simp; done) | (simp; omega)) _
    have kv : w10.heap[w9.heap.size]? = some (.cells #[.int .i64 uy, .int .i64 um, .int .i64 ud, .int .i64 H, .int .i64 I, .int .i64 S] 30 (0, 0)) := by rw [← hw10]; exact al_new _ _ _ (by first | rfl | (simp; done) | (simp; omega))
    have v0 : w10.cell? ⟨w9.heap.size, 0, none⟩ = some (.int .i64 uy) := blk_cell kv 0
    have v1 : w10.cell? ⟨w9.heap.size, 1, none⟩ = some (.int .i64 um) := blk_cell kv 1
    have v2 : w10.cell? ⟨w9.heap.size, 2, none⟩ = some (.int .i64 ud) := blk_cell kv 2
    have v3 : w10.cell? ⟨w9.heap.size, 3, none⟩ = some (.int .i64 H) := blk_cell kv 3
    have v4 : w10.cell? ⟨w9.heap.size, 4, none⟩ = some (.int .i64 I) := blk_cell kv 4
    have v5 : w10.cell? ⟨w9.heap.size, 5, none⟩ = some (.int .i64 S) := blk_cell kv 5
    clear kv
    replace o0 := cell_on hB o0
    replace o1 := cell_on hB o1
    replace o2 := cell_on hB o2
    replace z0 := cell_on hB z0
    replace z1 := cell_on hB z1
    replace x0 := cell_on hB x0
    replace x1 := cell_on hB x1
    replace x2 := cell_on hB x2
    replace x3 := cell_on hB x3
    replace x4 := cell_on hB x4
    replace x5 := cell_on hB x5
    replace hC := Kd.C_below hC hB
    replace hZ := Kd.C_below hZ hB
    replace hv := hv.trans (hB.mono hv.size)
    clear hB hw10
    refine (a42 _ hC hZ).mono ?_
    rintro en w11 ⟨⟨F1, fc1, rfl, hF⟩, hB⟩
    replace o0 := cell_on hB o0
    replace o1 := cell_on hB o1
    replace o2 := cell_on hB o2
    replace z0 := cell_on hB z0
    replace z1 := cell_on hB z1
    replace x0 := cell_on hB x0
    replace x1 := cell_on hB x1
    replace x2 := cell_on hB x2
    replace x3 := cell_on hB x3
    replace x4 := cell_on hB x4
    replace x5 := cell_on hB x5
    replace v0 := cell_on hB v0
    replace v1 := cell_on hB v1
    replace v2 := cell_on hB v2
    replace v3 := cell_on hB v3
    replace v4 := cell_on hB v4
    replace v5 := cell_on hB v5
    replace hC := Kd.C_below hC hB
    replace hZ := Kd.C_below hZ hB
    replace hv := hv.trans (hB.mono hv.size)
    clear hB a42
    have a36 := fun W h => contains_calls F1 fc1 q r W h (by omega)
    rw [hcont] at a36
    have a43 := fun W h => isSorted_calls F1 fc1 q W h (by omega) HSO.out
    go_wp2_with fail
    refine (a36 _ hF).mono ?_
    rintro en w12 ⟨rfl, hB⟩
    replace o0 := cell_on hB o0
    replace o1 := cell_on hB o1
    replace o2 := cell_on hB o2
    replace z0 := cell_on hB z0
    replace z1 := cell_on hB z1
    replace x0 := cell_on hB x0
    replace x1 := cell_on hB x1
    replace x2 := cell_on hB x2
    replace x3 := cell_on hB x3
    replace x4 := cell_on hB x4
    replace x5 := cell_on hB x5
    replace v0 := cell_on hB v0
    replace v1 := cell_on hB v1
    replace v2 := cell_on hB v2
    replace v3 := cell_on hB v3
    replace v4 := cell_on hB v4
    replace v5 := cell_on hB v5
    replace hC := Kd.C_below hC hB
    replace hZ := Kd.C_below hZ hB
    replace hF := Kd.C_below hF hB
    replace hv := hv.trans (hB.mono hv.size)
    clear hB a36
    go_wp2_with fail
    refine (a43 _ hF).mono ?_
    rintro en w13 ⟨rfl, hB⟩
    replace o0 := cell_on hB o0
    replace o1 := cell_on hB o1
    replace o2 := cell_on hB o2
    replace z0 := cell_on hB z0
    replace z1 := cell_on hB z1
    replace x0 := cell_on hB x0
    replace x1 := cell_on hB x1
    replace x2 := cell_on hB x2
    replace x3 := cell_on hB x3
    replace x4 := cell_on hB x4
    replace x5 := cell_on hB x5
    replace v0 := cell_on hB v0
    replace v1 := cell_on hB v1
    replace v2 := cell_on hB v2
    replace v3 := cell_on hB v3
    replace v4 := cell_on hB v4
    replace v5 := cell_on hB v5
    replace hC := Kd.C_below hC hB
    replace hZ := Kd.C_below hZ hB
    replace hF := Kd.C_below hF hB
    replace hv := hv.trans (hB.mono hv.size)
    clear hB a43
    go_wp2_with fail
    refine (a26 _).mono ?_
    rintro en w14 ⟨rfl, hB⟩
    replace o0 := cell_on hB o0
    replace o1 := cell_on hB o1
    replace o2 := cell_on hB o2
    replace z0 := cell_on hB z0
    replace z1 := cell_on hB z1
    replace x0 := cell_on hB x0
    replace x1 := cell_on hB x1
    replace x2 := cell_on hB x2
    replace x3 := cell_on hB x3
    replace x4 := cell_on hB x4
    replace x5 := cell_on hB x5
    replace v0 := cell_on hB v0
    replace v1 := cell_on hB v1
    replace v2 := cell_on hB v2
    replace v3 := cell_on hB v3
    replace v4 := cell_on hB v4
    replace v5 := cell_on hB v5
    replace hC := Kd.C_below hC hB
    replace hZ := Kd.C_below hZ hB
    replace hF := Kd.C_below hF hB
    replace hv := hv.trans (hB.mono hv.size)
    clear hB a26
    go_wp2_with fail
    refine (b26 _).mono ?_
    rintro en w15 ⟨rfl, hB⟩
    replace o0 := cell_on hB o0
    replace o1 := cell_on hB o1
    replace o2 := cell_on hB o2
    replace z0 := cell_on hB z0
    replace z1 := cell_on hB z1
    replace x0 := cell_on hB x0
    replace x1 := cell_on hB x1
    replace x2 := cell_on hB x2
    replace x3 := cell_on hB x3
    replace x4 := cell_on hB x4
    replace x5 := cell_on hB x5
    replace v0 := cell_on hB v0
    replace v1 := cell_on hB v1
    replace v2 := cell_on hB v2
    replace v3 := cell_on hB v3
    replace v4 := cell_on hB v4
    replace v5 := cell_on hB v5
    replace hC := Kd.C_below hC hB
    replace hZ := Kd.C_below hZ hB
    replace hF := Kd.C_below hF hB
    replace hv := hv.trans (hB.mono hv.size)
    clear hB b26
    go_wp2_with fail
    obtain ⟨kk, hkk⟩ : ∃ kk, r + oth - 32768 = kk := ⟨_, rfl⟩
    try rw [hkk]
    clear hkk hcont hqn hqn2 harith hSS hSS2
    have b36 := fun W h => contains_calls F1 fc1 q kk W h (by omega)
    cases hk2 : knowsB L u kk
    · skip
      have c41 := fun w h1 h2 => lc_err3 b u A1 c1 L oz Az cz zl kk w h1 h2 HK.out HZK.out hk2
      have hcn : q.contains kk = false := by
        cases hc : q.contains kk
        · rfl
        · obtain ⟨D2, hD2, _⟩ := HOF.out kk (by simpa using hc)
          rw [hD2.knows HRT.out] at hk2; cases hk2
      rw [hcn] at b36
      clear hk2 hcn
      refine (c41 _ hC hZ).mono ?_
      rintro en w16 ⟨rfl, hB⟩
      replace o0 := cell_on hB o0
      replace o1 := cell_on hB o1
      replace o2 := cell_on hB o2
      replace z0 := cell_on hB z0
      replace z1 := cell_on hB z1
      replace x0 := cell_on hB x0
      replace x1 := cell_on hB x1
      replace x2 := cell_on hB x2
      replace x3 := cell_on hB x3
      replace x4 := cell_on hB x4
      replace x5 := cell_on hB x5
      replace v0 := cell_on hB v0
      replace v1 := cell_on hB v1
      replace v2 := cell_on hB v2
      replace v3 := cell_on hB v3
      replace v4 := cell_on hB v4
      replace v5 := cell_on hB v5
      replace hC := Kd.C_below hC hB
      replace hZ := Kd.C_below hZ hB
      replace hF := Kd.C_below hF hB
      replace hv := hv.trans (hB.mono hv.size)
      clear hB c41
      have hs1 := World.block_lt_of_cell? _ _ o0
      have hs2 := World.block_lt_of_cell? _ _ z0
      have hs3 := World.block_lt_of_cell? _ _ x0
      have hs4 := World.block_lt_of_cell? _ _ v0
      go_wp2_with fail
      clear hs1 hs2 hs3 hs4
      obtain ⟨w17, hw17⟩ : ∃ w17, w16.alloc (.cells #[.int .i64 0, .int .i64 0, .int .i64 0, .int .i64 0, .int .i64 0, .int .i64 0] 30) = w17 := ⟨_, rfl⟩
      try rw [hw17]
      have hB : Below w16.heap.size w16 w17 := by rw [← hw17]; exact (Below.refl _ w16).alloc (by first | exact Nat.le_refl _ | (simp; done) | (simp; omega)) _
      replace o0 := cell_on hB o0
      replace o1 := cell_on hB o1
      replace o2 := cell_on hB o2
      replace z0 := cell_on hB z0
      replace z1 := cell_on hB z1
      replace x0 := cell_on hB x0
      replace x1 := cell_on hB x1
      replace x2 := cell_on hB x2
      replace x3 := cell_on hB x3
      replace x4 := cell_on hB x4
      replace x5 := cell_on hB x5
      replace v0 := cell_on hB v0
      replace v1 := cell_on hB v1
      replace v2 := cell_on hB v2
      replace v3 := cell_on hB v3
      replace v4 := cell_on hB v4
      replace v5 := cell_on hB v5
      replace hC := Kd.C_below hC hB
      replace hZ := Kd.C_below hZ hB
      replace hF := Kd.C_below hF hB
      replace hv := hv.trans (hB.mono hv.size)
      clear hB hw17
      refine (b36 _ hF).mono ?_
      rintro en w18 ⟨rfl, hB⟩
      replace o0 := cell_on hB o0
      replace o1 := cell_on hB o1
      replace o2 := cell_on hB o2
      replace z0 := cell_on hB z0
      replace z1 := cell_on hB z1
      replace x0 := cell_on hB x0
      replace x1 := cell_on hB x1
      replace x2 := cell_on hB x2
      replace x3 := cell_on hB x3
      replace x4 := cell_on hB x4
      replace x5 := cell_on hB x5
      replace v0 := cell_on hB v0
      replace v1 := cell_on hB v1
      replace v2 := cell_on hB v2
      replace v3 := cell_on hB v3
      replace v4 := cell_on hB v4
      replace v5 := cell_on hB v5
      replace hC := Kd.C_below hC hB
      replace hZ := Kd.C_below hZ hB
      replace hF := Kd.C_below hF hB
      replace hv := hv.trans (hB.mono hv.size)
      clear hB b36
      go_wp2_with fail
      refine (a14 _).mono ?_
      rintro en w19 ⟨rfl, hB⟩
      replace o0 := cell_on hB o0
      replace o1 := cell_on hB o1
      replace o2 := cell_on hB o2
      replace z0 := cell_on hB z0
      replace z1 := cell_on hB z1
      replace x0 := cell_on hB x0
      replace x1 := cell_on hB x1
      replace x2 := cell_on hB x2
      replace x3 := cell_on hB x3
      replace x4 := cell_on hB x4
      replace x5 := cell_on hB x5
      replace v0 := cell_on hB v0
      replace v1 := cell_on hB v1
      replace v2 := cell_on hB v2
      replace v3 := cell_on hB v3
      replace v4 := cell_on hB v4
      replace v5 := cell_on hB v5
      replace hC := Kd.C_below hC hB
      replace hZ := Kd.C_below hZ hB
      replace hF := Kd.C_below hF hB
      replace hv := hv.trans (hB.mono hv.size)
      clear hB a14
      go_wp2
      go_ret
      exact ⟨rfl, hv⟩
    · skip
      obtain ⟨D2, hD2⟩ := IsDay.exists HRT.out (knowsB_iff.1 hk2).1 (knowsB_iff.1 hk2).2
      have c41 := fun w h1 h2 => lc_ok b u A1 c1 L oz Az cz zl kk D2 w h1 h2 HK.out HZK.out hk2 hD2
      unfold shiftV at c41
      have hTe : shN (cY D2) (cM D2) (cD D2) (ckH (kk - beginF L D2)) (ckM (kk - beginF L D2)) (holdsF oz zl kk) = locT L oz zl kk D2 := rfl
      rw [hTe] at c41
      clear hTe
      have HU := Aside0.mk (fun E hE => IsDay.unique HRT.out (s := kk) (D := D2) (E := E) hD2 hE)
      have HIN3 := Aside0.mk (fun hh => HIN2.out kk D2 hD2 hh)
      have HOF3 := Aside0.mk (HOF.out kk)
      cases hk3 : knownD (locT L oz zl kk D2 / 1440)
      · skip
        rw [hk3] at c41
        rw [if_neg (by simp), if_neg (by simp), if_neg (by simp)] at c41
        have hcn : q.contains kk = false := by
          cases hc : q.contains kk
          · rfl
          · obtain ⟨E, hE, hE2, _⟩ := HOF3.out (by simpa using hc)
            obtain rfl := HU.out E hE
            rw [hk3] at hE2; cases hE2
        rw [hcn] at b36
        clear hk3 hcn hk2 hD2
        refine (c41 _ hC hZ).mono ?_
        rintro en w16 ⟨rfl, hB⟩
        replace o0 := cell_on hB o0
        replace o1 := cell_on hB o1
        replace o2 := cell_on hB o2
        replace z0 := cell_on hB z0
        replace z1 := cell_on hB z1
        replace x0 := cell_on hB x0
        replace x1 := cell_on hB x1
        replace x2 := cell_on hB x2
        replace x3 := cell_on hB x3
        replace x4 := cell_on hB x4
        replace x5 := cell_on hB x5
        replace v0 := cell_on hB v0
        replace v1 := cell_on hB v1
        replace v2 := cell_on hB v2
        replace v3 := cell_on hB v3
        replace v4 := cell_on hB v4
        replace v5 := cell_on hB v5
        replace hC := Kd.C_below hC hB
        replace hZ := Kd.C_below hZ hB
        replace hF := Kd.C_below hF hB
        replace hv := hv.trans (hB.mono hv.size)
        clear hB c41
        have hs1 := World.block_lt_of_cell? _ _ o0
        have hs2 := World.block_lt_of_cell? _ _ z0
        have hs3 := World.block_lt_of_cell? _ _ x0
        have hs4 := World.block_lt_of_cell? _ _ v0
        go_wp2_with fail
        clear hs1 hs2 hs3 hs4
        obtain ⟨w17, hw17⟩ : ∃ w17, w16.alloc (.cells #[.int .i64 0, .int .i64 0, .int .i64 0, .int .i64 0, .int .i64 0, .int .i64 0] 30) = w17 := ⟨_, rfl⟩
        try rw [hw17]
        have hB : Below w16.heap.size w16 w17 := by rw [← hw17]; exact (Below.refl _ w16).alloc (by first | exact Nat.le_refl _ | (simp; done) | (simp; omega)) _
        replace o0 := cell_on hB o0
        replace o1 := cell_on hB o1
        replace o2 := cell_on hB o2
        replace z0 := cell_on hB z0
        replace z1 := cell_on hB z1
        replace x0 := cell_on hB x0
        replace x1 := cell_on hB x1
        replace x2 := cell_on hB x2
        replace x3 := cell_on hB x3
        replace x4 := cell_on hB x4
        replace x5 := cell_on hB x5
        replace v0 := cell_on hB v0
        replace v1 := cell_on hB v1
        replace v2 := cell_on hB v2
        replace v3 := cell_on hB v3
        replace v4 := cell_on hB v4
        replace v5 := cell_on hB v5
        replace hC := Kd.C_below hC hB
        replace hZ := Kd.C_below hZ hB
        replace hF := Kd.C_below hF hB
        replace hv := hv.trans (hB.mono hv.size)
        clear hB hw17
        refine (b36 _ hF).mono ?_
        rintro en w18 ⟨rfl, hB⟩
        replace o0 := cell_on hB o0
        replace o1 := cell_on hB o1
        replace o2 := cell_on hB o2
        replace z0 := cell_on hB z0
        replace z1 := cell_on hB z1
        replace x0 := cell_on hB x0
        replace x1 := cell_on hB x1
        replace x2 := cell_on hB x2
        replace x3 := cell_on hB x3
        replace x4 := cell_on hB x4
        replace x5 := cell_on hB x5
        replace v0 := cell_on hB v0
        replace v1 := cell_on hB v1
        replace v2 := cell_on hB v2
        replace v3 := cell_on hB v3
        replace v4 := cell_on hB v4
        replace v5 := cell_on hB v5
        replace hC := Kd.C_below hC hB
        replace hZ := Kd.C_below hZ hB
        replace hF := Kd.C_below hF hB
        replace hv := hv.trans (hB.mono hv.size)
        clear hB b36
        go_wp2_with fail
        refine (a14 _).mono ?_
        rintro en w19 ⟨rfl, hB⟩
        replace o0 := cell_on hB o0
        replace o1 := cell_on hB o1
        replace o2 := cell_on hB o2
        replace z0 := cell_on hB z0
        replace z1 := cell_on hB z1
        replace x0 := cell_on hB x0
        replace x1 := cell_on hB x1
        replace x2 := cell_on hB x2
        replace x3 := cell_on hB x3
        replace x4 := cell_on hB x4
        replace x5 := cell_on hB x5
        replace v0 := cell_on hB v0
        replace v1 := cell_on hB v1
        replace v2 := cell_on hB v2
        replace v3 := cell_on hB v3
        replace v4 := cell_on hB v4
        replace v5 := cell_on hB v5
        replace hC := Kd.C_below hC hB
        replace hZ := Kd.C_below hZ hB
        replace hF := Kd.C_below hF hB
        replace hv := hv.trans (hB.mono hv.size)
        clear hB a14
        go_wp2
        go_ret
        exact ⟨rfl, hv⟩
      · skip
        rw [hk3] at c41
        rw [if_pos rfl, if_pos rfl, if_pos rfl] at c41
        have hin3 := HIN3.out hk3
        have hiff : (cY (locT L oz zl kk D2 / 1440) == y && (cM (locT L oz zl kk D2 / 1440) == m && (cD (locT L oz zl kk D2 / 1440) == d && (locT L oz zl kk D2 / 60 % 24 == h && (locT L oz zl kk D2 % 60 == i && (ckS (kk - beginF L D2) == S)))))) = q.contains kk := by
          cases hc : q.contains kk
          · rw [Bool.eq_false_iff]
            intro he
            simp only [Bool.and_eq_true, beq_iff_eq] at he
            obtain ⟨e1, e2, e3, e4, e5, e6⟩ := he
            rw [e1, e2, e3, e4, e5, e6, HQ.out] at hin3
            have : q.contains kk = true := by simpa using hin3
            rw [hc] at this; cases this
          · obtain ⟨E, hE, _, e1, e2, e3, e4, e5, e6⟩ := HOF3.out (by simpa using hc)
            obtain rfl := HU.out E hE
            simp [← e1, ← e2, ← e3, ← e4, ← e5, ← e6]
        generalize cY (locT L oz zl kk D2 / 1440) = p0 at *
        generalize cM (locT L oz zl kk D2 / 1440) = p1 at *
        generalize cD (locT L oz zl kk D2 / 1440) = p2 at *
        generalize locT L oz zl kk D2 / 60 % 24 = p3 at *
        generalize locT L oz zl kk D2 % 60 = p4 at *
        generalize ckS (kk - beginF L D2) = p5 at *
        generalize holdsF oz zl kk = p6 at *
        obtain ⟨e0, he0⟩ : ∃ e0, (p0 == y) = e0 := ⟨_, rfl⟩
        obtain ⟨e1, he1⟩ : ∃ e1, (p1 == m) = e1 := ⟨_, rfl⟩
        obtain ⟨e2, he2⟩ : ∃ e2, (p2 == d) = e2 := ⟨_, rfl⟩
        obtain ⟨e3, he3⟩ : ∃ e3, (p3 == h) = e3 := ⟨_, rfl⟩
        obtain ⟨e4, he4⟩ : ∃ e4, (p4 == i) = e4 := ⟨_, rfl⟩
        obtain ⟨e5, he5⟩ : ∃ e5, (p5 == S) = e5 := ⟨_, rfl⟩
        rw [he0, he1, he2, he3, he4, he5] at hiff
        generalize q.contains kk = bc at *
        clear hk3 hin3 hk2 hD2 HIN3 HOF3 HU HQ HIN2 HOF
        refine (c41 _ hC hZ).mono ?_
        rintro en w16 ⟨rfl, hB⟩
        replace o0 := cell_on hB o0
        replace o1 := cell_on hB o1
        replace o2 := cell_on hB o2
        replace z0 := cell_on hB z0
        replace z1 := cell_on hB z1
        replace x0 := cell_on hB x0
        replace x1 := cell_on hB x1
        replace x2 := cell_on hB x2
        replace x3 := cell_on hB x3
        replace x4 := cell_on hB x4
        replace x5 := cell_on hB x5
        replace v0 := cell_on hB v0
        replace v1 := cell_on hB v1
        replace v2 := cell_on hB v2
        replace v3 := cell_on hB v3
        replace v4 := cell_on hB v4
        replace v5 := cell_on hB v5
        replace hC := Kd.C_below hC hB
        replace hZ := Kd.C_below hZ hB
        replace hF := Kd.C_below hF hB
        replace hv := hv.trans (hB.mono hv.size)
        clear hB c41
        have hs1 := World.block_lt_of_cell? _ _ o0
        have hs2 := World.block_lt_of_cell? _ _ z0
        have hs3 := World.block_lt_of_cell? _ _ x0
        have hs4 := World.block_lt_of_cell? _ _ v0
        go_wp2_with fail
        clear hs1 hs2 hs3 hs4
        obtain ⟨w17, hw17⟩ : ∃ w17, w16.alloc (.cells #[.int .i64 p0, .int .i64 p1, .int .i64 p2, .int .i64 p3, .int .i64 p4, .int .i64 p5] 30) = w17 := ⟨_, rfl⟩
        try rw [hw17]
        have hB : Below w16.heap.size w16 w17 := by rw [← hw17]; exact (Below.refl _ w16).alloc (by first | exact Nat.le_refl _ | (simp; done) | (simp; omega)) _
        have ky : w17.heap[w16.heap.size]? = some (.cells #[.int .i64 p0, .int .i64 p1, .int .i64 p2, .int .i64 p3, .int .i64 p4, .int .i64 p5] 30 (0, 0)) := by rw [← hw17]; exact al_new _ _ _ (by first | rfl | (simp; done) | (simp; omega))
        have y0 : w17.cell? ⟨w16.heap.size, 0, none⟩ = some (.int .i64 p0) := blk_cell ky 0
        have y1 : w17.cell? ⟨w16.heap.size, 1, none⟩ = some (.int .i64 p1) := blk_cell ky 1
        have y2 : w17.cell? ⟨w16.heap.size, 2, none⟩ = some (.int .i64 p2) := blk_cell ky 2
        have y3 : w17.cell? ⟨w16.heap.size, 3, none⟩ = some (.int .i64 p3) := blk_cell ky 3
        have y4 : w17.cell? ⟨w16.heap.size, 4, none⟩ = some (.int .i64 p4) := blk_cell ky 4
        have y5 : w17.cell? ⟨w16.heap.size, 5, none⟩ = some (.int .i64 p5) := blk_cell ky 5
        clear ky
        replace o0 := cell_on hB o0
        replace o1 := cell_on hB o1
        replace o2 := cell_on hB o2
        replace z0 := cell_on hB z0
        replace z1 := cell_on hB z1
        replace x0 := cell_on hB x0
        replace x1 := cell_on hB x1
        replace x2 := cell_on hB x2
        replace x3 := cell_on hB x3
        replace x4 := cell_on hB x4
        replace x5 := cell_on hB x5
        replace v0 := cell_on hB v0
        replace v1 := cell_on hB v1
        replace v2 := cell_on hB v2
        replace v3 := cell_on hB v3
        replace v4 := cell_on hB v4
        replace v5 := cell_on hB v5
        replace hC := Kd.C_below hC hB
        replace hZ := Kd.C_below hZ hB
        replace hF := Kd.C_below hF hB
        replace hv := hv.trans (hB.mono hv.size)
        clear hB hw17
        have hbb : (bc == bc) = true := by simp
        go_wp2_with fail
        have hS : ∀ w', Below w17.heap.size w17 w' → ((w'.cell? ⟨w16.heap.size, 0, none⟩ = some (.int .i64 p0) ∧ w'.cell? ⟨w16.heap.size, 1, none⟩ = some (.int .i64 p1) ∧ w'.cell? ⟨w16.heap.size, 2, none⟩ = some (.int .i64 p2) ∧ w'.cell? ⟨w16.heap.size, 3, none⟩ = some (.int .i64 p3) ∧ w'.cell? ⟨w16.heap.size, 4, none⟩ = some (.int .i64 p4) ∧ w'.cell? ⟨w16.heap.size, 5, none⟩ = some (.int .i64 p5) ∧ w'.cell? ⟨w7.heap.size, 0, none⟩ = some (.int .i64 y) ∧ w'.cell? ⟨w7.heap.size, 1, none⟩ = some (.int .i64 m) ∧ w'.cell? ⟨w7.heap.size, 2, none⟩ = some (.int .i64 d) ∧ w'.cell? ⟨w7.heap.size, 3, none⟩ = some (.int .i64 h) ∧ w'.cell? ⟨w7.heap.size, 4, none⟩ = some (.int .i64 i) ∧ w'.cell? ⟨w7.heap.size, 5, none⟩ = some (.int .i64 S)) ∧ Below w17.heap.size w17 w') := fun w' hB => ⟨⟨cell_on hB y0, cell_on hB y1, cell_on hB y2, cell_on hB y3, cell_on hB y4, cell_on hB y5, cell_on hB x0, cell_on hB x1, cell_on hB x2, cell_on hB x3, cell_on hB x4, cell_on hB x5⟩, hB⟩
        have HF2 := Aside0.mk hF
        go_region_held3 (fun w' => (w'.cell? ⟨w16.heap.size, 0, none⟩ = some (.int .i64 p0) ∧ w'.cell? ⟨w16.heap.size, 1, none⟩ = some (.int .i64 p1) ∧ w'.cell? ⟨w16.heap.size, 2, none⟩ = some (.int .i64 p2) ∧ w'.cell? ⟨w16.heap.size, 3, none⟩ = some (.int .i64 p3) ∧ w'.cell? ⟨w16.heap.size, 4, none⟩ = some (.int .i64 p4) ∧ w'.cell? ⟨w16.heap.size, 5, none⟩ = some (.int .i64 p5) ∧ w'.cell? ⟨w7.heap.size, 0, none⟩ = some (.int .i64 y) ∧ w'.cell? ⟨w7.heap.size, 1, none⟩ = some (.int .i64 m) ∧ w'.cell? ⟨w7.heap.size, 2, none⟩ = some (.int .i64 d) ∧ w'.cell? ⟨w7.heap.size, 3, none⟩ = some (.int .i64 h) ∧ w'.cell? ⟨w7.heap.size, 4, none⟩ = some (.int .i64 i) ∧ w'.cell? ⟨w7.heap.size, 5, none⟩ = some (.int .i64 S)) ∧ Below w17.heap.size w17 w') (first | exact hS _ (Below.refl _ _).drew | assumption | (have hh := ‹(_ ∧ _ ∧ _ ∧ _ ∧ _ ∧ _ ∧ _ ∧ _ ∧ _ ∧ _ ∧ _ ∧ _) ∧ Below w17.heap.size w17 _›; exact hS _ (hh.2.trans (hB.mono hh.2.size))))
          (first | (go_at_call 36; refine (b36 _ (by have hh := ‹(_ ∧ _ ∧ _ ∧ _ ∧ _ ∧ _ ∧ _ ∧ _ ∧ _ ∧ _ ∧ _ ∧ _) ∧ Below w17.heap.size w17 _›; exact Kd.C_below HF2.out hh.2)).mono ?_; rintro e w' ⟨rfl, hB⟩) | (go_at_call 14; refine (a14 _).mono ?_; rintro e w' ⟨rfl, hB⟩))
        rename_i hHeld
        have hB := hHeld.2
        clear hHeld hS
        rename World => w99
        have hvf := hv.trans (hB.mono hv.size)
        clear hB
        try go_wp2
        go_ret
        exact ⟨rfl, hvf⟩
end Go.Proofs.Ytleipbanadnchaa.C
