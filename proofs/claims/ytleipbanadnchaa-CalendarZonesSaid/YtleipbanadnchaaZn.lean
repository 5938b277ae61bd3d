/- CalendarZones' function returns true for every input. -/
import Derived.OwnWalk
import Derived.Test.YtleipbanadnchaaY1
import Derived.Test.YtleipbanadnchaaCk
import Derived.Test.YtleipbanadnchaaDa
import Derived.Test.YtleipbanadnchaaZm
import Derived.Test.YtleipbanadnchaaCq
namespace Go.Proofs.Ytleipbanadnchaa.C
open Go.RowKit Go.Shelf Go.Maps Go.Proofs.YtleipbanadnchaaW.PrintWords Go.Proofs.YtleipbanadnchaaW.PrintLast Go.Proofs.YtleipbanadnchaaW.PrintMore
set_option linter.unusedVariables false
set_option linter.unusedSimpArgs false
set_option maxHeartbeats 4000000 in
set_option maxRecDepth 100000 in
theorem calendarZones_w.calls (b u : Int) (A : Option Addr) (c : Nat) (L : List (Int × Int)) (o : Int) (zA : Option Addr) (zc : Nat) (zl : List (Int × Int)) (sec y m d h i s : Int) (w : World) (hr : Kd.C kl w A L.length L) (hnil : A = none → L = [] ∧ c = 0) (hz : Kd.C kl w zA zl.length zl) :
    Calls Try.prog 10 #[tabV b A L.length c u, zoneV o zA zl.length zc, .int .i64 sec, dateV y m d h i s] w fun e w' => e = .returned (.bool true) ∧ Below w.heap.size w w' := by
  have HR := Aside0.mk hr
  have HZ := Aside0.mk hz
  have hm := hr.2.1
  have hm2 := hz.2.1
  have a14 := fun w => awake_calls w
  have a39 := fun w h1 h2 hl hzl => zones_calls b u A c L o zA zc zl sec y m d h i s w h1 h2 hl hzl hnil
  clear hr hz hnil
  by_cases h1 : 120 < L.length
  · have d1 : decide (120 < (L.length : Int)) = true := decide_eq_true (by omega)
    have d1' : (120 : Int) < (L.length : Int) := by omega
    obtain ⟨w1, hw1⟩ : ∃ w1, ((w.alloc (.cells #[.int .i64 b, .slice A L.length c, .int .i64 u] 28)).alloc (.cells #[.int .i64 o, .slice zA zl.length zc] 76)).alloc (.cells #[.int .i64 y, .int .i64 m, .int .i64 d, .int .i64 h, .int .i64 i, .int .i64 s] 30) = w1 := ⟨_, rfl⟩
    have hv : Below w.heap.size w w1 := by rw [← hw1]; exact (((Below.refl _ w).alloc (Nat.le_refl _) _).alloc (by simp) _).alloc (by simp; omega) _
    have kt : w1.heap[w.heap.size]? = some (.cells #[.int .i64 b, .slice A L.length c, .int .i64 u] 28 (0, 0)) := by rw [← hw1]; exact al_old (al_old (al_new _ _ _ rfl))
    have kz : w1.heap[w.heap.size + 1]? = some (.cells #[.int .i64 o, .slice zA zl.length zc] 76 (0, 0)) := by rw [← hw1]; exact al_old (al_new _ _ _ (by simp))
    have kd : w1.heap[w.heap.size + 1 + 1]? = some (.cells #[.int .i64 y, .int .i64 m, .int .i64 d, .int .i64 h, .int .i64 i, .int .i64 s] 30 (0, 0)) := by rw [← hw1]; exact al_new _ _ _ (by simp)
    have t0 : w1.cell? ⟨w.heap.size, 0, none⟩ = some (.int .i64 b) := blk_cell kt 0
    have t1 : w1.cell? ⟨w.heap.size, 1, none⟩ = some (.slice A L.length c) := blk_cell kt 1
    have t2 : w1.cell? ⟨w.heap.size, 2, none⟩ = some (.int .i64 u) := blk_cell kt 2
    have z0 : w1.cell? ⟨w.heap.size + 1, 0, none⟩ = some (.int .i64 o) := blk_cell kz 0
    have z1 : w1.cell? ⟨w.heap.size + 1, 1, none⟩ = some (.slice zA zl.length zc) := blk_cell kz 1
    have d0 : w1.cell? ⟨w.heap.size + 1 + 1, 0, none⟩ = some (.int .i64 y) := blk_cell kd 0
    have d1 : w1.cell? ⟨w.heap.size + 1 + 1, 1, none⟩ = some (.int .i64 m) := blk_cell kd 1
    have d2 : w1.cell? ⟨w.heap.size + 1 + 1, 2, none⟩ = some (.int .i64 d) := blk_cell kd 2
    have d3 : w1.cell? ⟨w.heap.size + 1 + 1, 3, none⟩ = some (.int .i64 h) := blk_cell kd 3
    have d4 : w1.cell? ⟨w.heap.size + 1 + 1, 4, none⟩ = some (.int .i64 i) := blk_cell kd 4
    have d5 : w1.cell? ⟨w.heap.size + 1 + 1, 5, none⟩ = some (.int .i64 s) := blk_cell kd 5
    clear kt kz kd
    have hR1 := Kd.C_below HR.out hv
    have hZ1 := Kd.C_below HZ.out hv
    go_enter Try.func10, Try.ntmps10
    go_wp2_with fail
    try rw [hw1]
    clear hw1
    refine (a14 _).mono ?_
    rintro en w2 ⟨rfl, hB⟩
    replace t0 := cell_on hB t0
    replace t1 := cell_on hB t1
    replace t2 := cell_on hB t2
    replace z0 := cell_on hB z0
    replace z1 := cell_on hB z1
    replace d0 := cell_on hB d0
    replace d1 := cell_on hB d1
    replace d2 := cell_on hB d2
    replace d3 := cell_on hB d3
    replace d4 := cell_on hB d4
    replace d5 := cell_on hB d5
    replace hv := hv.trans (hB.mono hv.size)
    clear hB a14
    go_wp2
    go_ret
    exact ⟨rfl, hv⟩
  · have d1 : decide (120 < (L.length : Int)) = false := decide_eq_false (by omega)
    replace h1 : L.length ≤ 120 := by omega
    by_cases h2 : 220 < zl.length
    · have d2 : decide (220 < (zl.length : Int)) = true := decide_eq_true (by omega)
      obtain ⟨w1, hw1⟩ : ∃ w1, ((w.alloc (.cells #[.int .i64 b, .slice A L.length c, .int .i64 u] 28)).alloc (.cells #[.int .i64 o, .slice zA zl.length zc] 76)).alloc (.cells #[.int .i64 y, .int .i64 m, .int .i64 d, .int .i64 h, .int .i64 i, .int .i64 s] 30) = w1 := ⟨_, rfl⟩
      have hv : Below w.heap.size w w1 := by rw [← hw1]; exact (((Below.refl _ w).alloc (Nat.le_refl _) _).alloc (by simp) _).alloc (by simp; omega) _
      have kt : w1.heap[w.heap.size]? = some (.cells #[.int .i64 b, .slice A L.length c, .int .i64 u] 28 (0, 0)) := by rw [← hw1]; exact al_old (al_old (al_new _ _ _ rfl))
      have kz : w1.heap[w.heap.size + 1]? = some (.cells #[.int .i64 o, .slice zA zl.length zc] 76 (0, 0)) := by rw [← hw1]; exact al_old (al_new _ _ _ (by simp))
      have kd : w1.heap[w.heap.size + 1 + 1]? = some (.cells #[.int .i64 y, .int .i64 m, .int .i64 d, .int .i64 h, .int .i64 i, .int .i64 s] 30 (0, 0)) := by rw [← hw1]; exact al_new _ _ _ (by simp)
      have t0 : w1.cell? ⟨w.heap.size, 0, none⟩ = some (.int .i64 b) := blk_cell kt 0
      have t1 : w1.cell? ⟨w.heap.size, 1, none⟩ = some (.slice A L.length c) := blk_cell kt 1
      have t2 : w1.cell? ⟨w.heap.size, 2, none⟩ = some (.int .i64 u) := blk_cell kt 2
      have z0 : w1.cell? ⟨w.heap.size + 1, 0, none⟩ = some (.int .i64 o) := blk_cell kz 0
      have z1 : w1.cell? ⟨w.heap.size + 1, 1, none⟩ = some (.slice zA zl.length zc) := blk_cell kz 1
      have d0 : w1.cell? ⟨w.heap.size + 1 + 1, 0, none⟩ = some (.int .i64 y) := blk_cell kd 0
      have d1 : w1.cell? ⟨w.heap.size + 1 + 1, 1, none⟩ = some (.int .i64 m) := blk_cell kd 1
      have d2 : w1.cell? ⟨w.heap.size + 1 + 1, 2, none⟩ = some (.int .i64 d) := blk_cell kd 2
      have d3 : w1.cell? ⟨w.heap.size + 1 + 1, 3, none⟩ = some (.int .i64 h) := blk_cell kd 3
      have d4 : w1.cell? ⟨w.heap.size + 1 + 1, 4, none⟩ = some (.int .i64 i) := blk_cell kd 4
      have d5 : w1.cell? ⟨w.heap.size + 1 + 1, 5, none⟩ = some (.int .i64 s) := blk_cell kd 5
      clear kt kz kd
      have hR1 := Kd.C_below HR.out hv
      have hZ1 := Kd.C_below HZ.out hv
      go_enter Try.func10, Try.ntmps10
      go_wp2_with fail
      try rw [hw1]
      clear hw1
      refine (a14 _).mono ?_
      rintro en w2 ⟨rfl, hB⟩
      replace t0 := cell_on hB t0
      replace t1 := cell_on hB t1
      replace t2 := cell_on hB t2
      replace z0 := cell_on hB z0
      replace z1 := cell_on hB z1
      replace d0 := cell_on hB d0
      replace d1 := cell_on hB d1
      replace d2 := cell_on hB d2
      replace d3 := cell_on hB d3
      replace d4 := cell_on hB d4
      replace d5 := cell_on hB d5
      replace hv := hv.trans (hB.mono hv.size)
      clear hB a14
      go_wp2
      go_ret
      exact ⟨rfl, hv⟩
    · have d2 : decide (220 < (zl.length : Int)) = false := decide_eq_false (by omega)
      replace h2 : zl.length ≤ 220 := by omega
      obtain ⟨w1, hw1⟩ : ∃ w1, ((w.alloc (.cells #[.int .i64 b, .slice A L.length c, .int .i64 u] 28)).alloc (.cells #[.int .i64 o, .slice zA zl.length zc] 76)).alloc (.cells #[.int .i64 y, .int .i64 m, .int .i64 d, .int .i64 h, .int .i64 i, .int .i64 s] 30) = w1 := ⟨_, rfl⟩
      have hv : Below w.heap.size w w1 := by rw [← hw1]; exact (((Below.refl _ w).alloc (Nat.le_refl _) _).alloc (by simp) _).alloc (by simp; omega) _
      have kt : w1.heap[w.heap.size]? = some (.cells #[.int .i64 b, .slice A L.length c, .int .i64 u] 28 (0, 0)) := by rw [← hw1]; exact al_old (al_old (al_new _ _ _ rfl))
      have kz : w1.heap[w.heap.size + 1]? = some (.cells #[.int .i64 o, .slice zA zl.length zc] 76 (0, 0)) := by rw [← hw1]; exact al_old (al_new _ _ _ (by simp))
      have kd : w1.heap[w.heap.size + 1 + 1]? = some (.cells #[.int .i64 y, .int .i64 m, .int .i64 d, .int .i64 h, .int .i64 i, .int .i64 s] 30 (0, 0)) := by rw [← hw1]; exact al_new _ _ _ (by simp)
      have t0 : w1.cell? ⟨w.heap.size, 0, none⟩ = some (.int .i64 b) := blk_cell kt 0
      have t1 : w1.cell? ⟨w.heap.size, 1, none⟩ = some (.slice A L.length c) := blk_cell kt 1
      have t2 : w1.cell? ⟨w.heap.size, 2, none⟩ = some (.int .i64 u) := blk_cell kt 2
      have z0 : w1.cell? ⟨w.heap.size + 1, 0, none⟩ = some (.int .i64 o) := blk_cell kz 0
      have z1 : w1.cell? ⟨w.heap.size + 1, 1, none⟩ = some (.slice zA zl.length zc) := blk_cell kz 1
      have d0 : w1.cell? ⟨w.heap.size + 1 + 1, 0, none⟩ = some (.int .i64 y) := blk_cell kd 0
      have d1 : w1.cell? ⟨w.heap.size + 1 + 1, 1, none⟩ = some (.int .i64 m) := blk_cell kd 1
      have d2 : w1.cell? ⟨w.heap.size + 1 + 1, 2, none⟩ = some (.int .i64 d) := blk_cell kd 2
      have d3 : w1.cell? ⟨w.heap.size + 1 + 1, 3, none⟩ = some (.int .i64 h) := blk_cell kd 3
      have d4 : w1.cell? ⟨w.heap.size + 1 + 1, 4, none⟩ = some (.int .i64 i) := blk_cell kd 4
      have d5 : w1.cell? ⟨w.heap.size + 1 + 1, 5, none⟩ = some (.int .i64 s) := blk_cell kd 5
      clear kt kz kd
      have hR1 := Kd.C_below HR.out hv
      have hZ1 := Kd.C_below HZ.out hv
      go_enter Try.func10, Try.ntmps10
      go_wp2_with fail
      try rw [hw1]
      clear hw1
      refine (a39 _ hR1 hZ1 h1 h2).mono ?_
      rintro en w2 ⟨rfl, hB⟩
      replace t0 := cell_on hB t0
      replace t1 := cell_on hB t1
      replace t2 := cell_on hB t2
      replace z0 := cell_on hB z0
      replace z1 := cell_on hB z1
      replace d0 := cell_on hB d0
      replace d1 := cell_on hB d1
      replace d2 := cell_on hB d2
      replace d3 := cell_on hB d3
      replace d4 := cell_on hB d4
      replace d5 := cell_on hB d5
      replace hv := hv.trans (hB.mono hv.size)
      clear hB
      go_wp2_with fail
      refine (a14 _).mono ?_
      rintro en w3 ⟨rfl, hB⟩
      replace t0 := cell_on hB t0
      replace t1 := cell_on hB t1
      replace t2 := cell_on hB t2
      replace z0 := cell_on hB z0
      replace z1 := cell_on hB z1
      replace d0 := cell_on hB d0
      replace d1 := cell_on hB d1
      replace d2 := cell_on hB d2
      replace d3 := cell_on hB d3
      replace d4 := cell_on hB d4
      replace d5 := cell_on hB d5
      replace hv := hv.trans (hB.mono hv.size)
      clear hB a14
      go_wp2
      go_ret
      exact ⟨rfl, hv⟩
end Go.Proofs.Ytleipbanadnchaa.C
