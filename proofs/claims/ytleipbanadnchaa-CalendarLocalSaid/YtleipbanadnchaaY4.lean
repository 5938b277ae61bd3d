/- Fb, Fc, Fd, Fe, Ff: joined. -/
import Derived.OwnWalk
import Derived.Test.YtleipbanadnchaaFa
import Derived.Test.YtleipbanadnchaaDe
import Derived.Test.YtleipbanadnchaaCp
import Derived.Deep.RegionWith
import Derived.BigRegion
import Derived.Laws.AppendOwn
import Derived.Test.YtleipbanadnchaaEg
import Derived.Test.YtleipbanadnchaaCd
import Derived.Test.YtleipbanadnchaaEf
import Derived.Test.YtleipbanadnchaaDb
import Derived.Test.YtleipbanadnchaaCq
section
/- Contracts of slices.Compare and before, by hand. -/
namespace Go.Proofs.Ytleipbanadnchaa.C
open Go.RowKit Go.Shelf Go.Maps Go.Proofs.YtleipbanadnchaaW.PrintWords Go.Proofs.YtleipbanadnchaaW.PrintLast Go.Proofs.YtleipbanadnchaaW.PrintMore
set_option linter.unusedVariables false
set_option linter.unusedSimpArgs false
theorem isNaN_calls (x : Int) (w : World) : Calls Try.prog 121 #[.int .i64 x] w fun e w' => e = .returned (.bool false) ∧ w' = w := by
  have q1 : (x == x) = true := by simp
  have q2 : (x != x) = false := by simp
  go_enter Try.func121, Try.ntmps121
  go_wp2
  go_ret
  exact ⟨rfl, rfl⟩
/-- Two numbers compared. -/
def cmp1 (x y : Int) : Int := if x < y then -1 else if y < x then 1 else 0
theorem cmpCompare_calls (x y : Int) (w : World) : Calls Try.prog 117 #[.int .i64 x, .int .i64 y] w fun e w' => e = .returned (.int .i64 (cmp1 x y)) ∧ w' = w := by
  have a := fun w => isNaN_calls x w
  have b := fun w => isNaN_calls y w
  unfold cmp1
  by_cases h1 : x < y
  · have d1 : decide (x < y) = true := decide_eq_true h1
    rw [if_pos h1]
    go_enter Try.func117, Try.ntmps117
    go_wp2_with fail
    refine (a _).mono ?_
    rintro en w1 ⟨rfl, rfl⟩
    go_wp2_with fail
    refine (b _).mono ?_
    rintro en w2 ⟨rfl, rfl⟩
    go_wp2
    go_ret
    exact ⟨rfl, rfl⟩
  · rw [if_neg h1]
    have d1 : decide (x < y) = false := decide_eq_false h1
    by_cases h2 : y < x
    · have d2 : decide (y < x) = true := decide_eq_true h2
      rw [if_pos h2]
      go_enter Try.func117, Try.ntmps117
      go_wp2_with fail
      refine (a _).mono ?_
      rintro en w1 ⟨rfl, rfl⟩
      go_wp2_with fail
      refine (b _).mono ?_
      rintro en w2 ⟨rfl, rfl⟩
      go_wp2
      go_ret
      exact ⟨rfl, rfl⟩
    · have d2 : decide (y < x) = false := decide_eq_false h2
      rw [if_neg h2]
      go_enter Try.func117, Try.ntmps117
      go_wp2_with fail
      refine (a _).mono ?_
      rintro en w1 ⟨rfl, rfl⟩
      go_wp2_with fail
      refine (b _).mono ?_
      rintro en w2 ⟨rfl, rfl⟩
      go_wp2
      go_ret
      exact ⟨rfl, rfl⟩
theorem cmpF_step (x y : Int) (l m : List Int) : (cmp1 x y = 0 → cmpF (x :: l) (y :: m) = cmpF l m) ∧ (cmp1 x y ≠ 0 → cmpF (x :: l) (y :: m) = cmp1 x y) := by
  unfold cmp1
  simp only [cmpF]
  constructor
  · intro h
    split at h
    · cases h
    · rename_i h1
      split at h
      · cases h
      · rename_i h2; rw [if_neg h1, if_neg h2]
  · intro h
    split at h
    · rename_i h1; rw [if_pos h1, if_pos h1]
    · rename_i h1
      split at h
      · rename_i h2; rw [if_neg h1, if_pos h2, if_neg h1, if_pos h2]
      · exact absurd rfl h
set_option maxHeartbeats 2000000 in
set_option maxRecDepth 100000 in
theorem compare_calls (A B : Option Addr) (c c' : Nat) (l m : List Int) (w : World) (hl : Kd.C (Kd.int .i64) w A l.length l) (hm : Kd.C (Kd.int .i64) w B l.length m) (he : l.length = m.length) (hlen : l.length ≤ 1000000) :
    Calls Try.prog 68 #[.slice A l.length c, .slice B l.length c'] w fun e w' => e = .returned (.int .i64 (cmpF l m)) ∧ w' = w := by
  have HL := Aside0.mk hl
  have HM := Aside0.mk hm
  have HE := Aside0.mk he
  clear hl hm he
  have dz : decide ((l.length : Int) < (l.length : Int)) = false := by simp
  go_enter Try.func68, Try.ntmps68
  go_wp2_with fail
  go_loopw [11] (fun v11 wr => ∃ i : Nat, i ≤ l.length ∧ v11 = .int .i64 i ∧ Aside0 (cmpF l m = cmpF (l.drop i) (m.drop i)) ∧ wr = w) (fun v _ => l.length - (intOf v).toNat)
  case atStart => exact ⟨0, by omega, rfl, ⟨rfl⟩, rfl⟩
  case round =>
    obtain ⟨i, hi, rfl, HT, rfl⟩ := hrel
    by_cases hlt : i < l.length
    · have hlt' : i < m.length := by have := HE.out; omega
      obtain ⟨ad, rfl, hc0⟩ := C_i64 HL.out i hlt hlt
      obtain ⟨ad', rfl, hc1⟩ := C_i64 HM.out i hlt' hlt
      have d1 : decide ((i : Int) < (l.length : Int)) = true := decide_eq_true (by omega)
      have d2 : decide ((l.length : Int) ≤ (i : Int)) = false := decide_eq_false (by omega)
      have d3 : (i : Int) < (l.length : Int) := by omega
      have hdr : l.drop i = l[i] :: l.drop (i + 1) := List.drop_eq_getElem_cons hlt
      have hdr' : m.drop i = m[i] :: m.drop (i + 1) := List.drop_eq_getElem_cons hlt'
      have HS := Aside0.mk (cmpF_step l[i] m[i] (l.drop (i + 1)) (m.drop (i + 1)))
      rw [hdr, hdr'] at HT
      generalize l[i] = x at *
      generalize m[i] = y at *
      have a117 := fun w => cmpCompare_calls x y w
      clear hdr hdr'
      by_cases hz : cmp1 x y = 0
      · rw [hz] at a117
        have HN : Aside0 (cmpF l m = cmpF (l.drop (i + 1)) (m.drop (i + 1))) := ⟨by rw [HT.out, HS.out.1 hz]⟩
        clear hz
        go_wp2_with fail
        refine (a117 _).mono ?_
        rintro en w1 ⟨rfl, rfl⟩
        go_wp2
        go_roundw
        case rel => exact ⟨i + 1, by omega, by go_num, HN, trivial⟩
        case measure => simp [intOf]; omega
      · have q1 : (cmp1 x y == 0) = false := beq_eq_false_iff_ne.2 hz
        have q2 : (cmp1 x y != 0) = true := bne_iff_ne.2 hz
        have HN : Aside0 (cmpF l m = cmp1 x y) := ⟨by rw [HT.out, HS.out.2 hz]⟩
        clear hz
        go_wp2_with fail
        refine (a117 _).mono ?_
        rintro en w1 ⟨rfl, rfl⟩
        go_wp2
        go_ret
        exact ⟨by rw [HN.out]; rfl, rfl⟩
    · obtain rfl : i = l.length := by omega
      have HN : Aside0 (cmpF l m = 0) := ⟨by rw [HT.out, List.drop_length, HE.out, List.drop_length]; rfl⟩
      go_wp2
      go_ret
      exact ⟨by rw [HN.out]; rfl, rfl⟩
end Go.Proofs.Ytleipbanadnchaa.C
end

section
/- Contracts of before, by hand. -/
namespace Go.Proofs.Ytleipbanadnchaa.C
open Go.RowKit Go.Shelf Go.Maps Go.Proofs.YtleipbanadnchaaW.PrintWords Go.Proofs.YtleipbanadnchaaW.PrintLast Go.Proofs.YtleipbanadnchaaW.PrintMore
set_option linter.unusedVariables false
set_option linter.unusedSimpArgs false
theorem slice110 (b : Nat) (w : World) : (Instr.sliceAt 110 (.pointer (some ⟨b, 0, none⟩)) none none none).run Try.prog w = .ok (.slice (some ⟨b, 0, none⟩) 6 6) w := by
  have e : Try.prog.arrayLen 110 = 6 := by kernel_rfl
  have el : Try.prog.elem 110 = 3 := by kernel_rfl
  have ht : Try.prog.underlying 110 = some (.array (Try.prog.arrayLen 110) (Try.prog.elem 110)) := by rw [e, el]; exact Try.underlying110
  have := run_sliceAt_array_all (P := Try.prog) w 110 ⟨b, 0, none⟩ ht
  rw [this, e, el]
  simp [go_sem]
theorem C_six {w : World} {g : Nat} {x0 x1 x2 x3 x4 x5 : Int} (h : w.heap[g]? = some (.cells #[.int .i64 x0, .int .i64 x1, .int .i64 x2, .int .i64 x3, .int .i64 x4, .int .i64 x5] 110 (0, 0))) : Kd.C (Kd.int .i64) w (some ⟨g, 0, none⟩) 6 [x0, x1, x2, x3, x4, x5] := by
  refine ⟨rfl, by decide, fun _ => ⟨_, rfl, fun j p hj => ?_⟩⟩
  have hlt := (List.getElem?_eq_some_iff.1 hj).1
  have h2 : j = 0 ∨ j = 1 ∨ j = 2 ∨ j = 3 ∨ j = 4 ∨ j = 5 := by simp at hlt; omega
  refine ⟨[.int .i64 p], rfl, rfl, fun i u hu => ?_⟩
  have hi := (List.getElem?_eq_some_iff.1 hu).1
  obtain rfl : i = 0 := by simp at hi; omega
  obtain rfl := Option.some.inj hu
  rcases h2 with rfl | rfl | rfl | rfl | rfl | rfl
  · obtain rfl := Option.some.inj hj; exact blk_cell h 0
  · obtain rfl := Option.some.inj hj; exact blk_cell h 1
  · obtain rfl := Option.some.inj hj; exact blk_cell h 2
  · obtain rfl := Option.some.inj hj; exact blk_cell h 3
  · obtain rfl := Option.some.inj hj; exact blk_cell h 4
  · obtain rfl := Option.some.inj hj; exact blk_cell h 5
set_option maxHeartbeats 4000000 in
set_option maxRecDepth 100000 in
theorem before_calls (x0 x1 x2 x3 x4 x5 y0 y1 y2 y3 y4 y5 : Int) (w : World) :
    Calls Try.prog 21 #[dateV x0 x1 x2 x3 x4 x5, dateV y0 y1 y2 y3 y4 y5] w fun e w' => e = .returned (.bool (decide (cmpF [x0, x1, x2, x3, x4, x5] [y0, y1, y2, y3, y4, y5] < 0))) ∧ Below w.heap.size w w' := by
  go_enter Try.func21, Try.ntmps21
  go_wp2_with fail
  obtain ⟨w2, hw2⟩ : ∃ w2, (w.alloc (.cells #[.int .i64 x0, .int .i64 x1, .int .i64 x2, .int .i64 x3, .int .i64 x4, .int .i64 x5] 30)).alloc (.cells #[.int .i64 y0, .int .i64 y1, .int .i64 y2, .int .i64 y3, .int .i64 y4, .int .i64 y5] 30) = w2 := ⟨_, rfl⟩
  rw [hw2]
  have hv : Below w.heap.size w w2 := by rw [← hw2]; exact ((Below.refl _ w).alloc (Nat.le_refl _) _).alloc (by simp) _
  have kx : w2.heap[w.heap.size]? = some (.cells #[.int .i64 x0, .int .i64 x1, .int .i64 x2, .int .i64 x3, .int .i64 x4, .int .i64 x5] 30 (0, 0)) := by rw [← hw2]; exact al_old (al_new _ _ _ rfl)
  have ky : w2.heap[w.heap.size + 1]? = some (.cells #[.int .i64 y0, .int .i64 y1, .int .i64 y2, .int .i64 y3, .int .i64 y4, .int .i64 y5] 30 (0, 0)) := by rw [← hw2]; exact al_new _ _ _ (by simp)
  have a0 : w2.cell? ⟨w.heap.size, 0, none⟩ = some (.int .i64 x0) := blk_cell kx 0
  have a1 : w2.cell? ⟨w.heap.size, 1, none⟩ = some (.int .i64 x1) := blk_cell kx 1
  have a2 : w2.cell? ⟨w.heap.size, 2, none⟩ = some (.int .i64 x2) := blk_cell kx 2
  have a3 : w2.cell? ⟨w.heap.size, 3, none⟩ = some (.int .i64 x3) := blk_cell kx 3
  have a4 : w2.cell? ⟨w.heap.size, 4, none⟩ = some (.int .i64 x4) := blk_cell kx 4
  have a5 : w2.cell? ⟨w.heap.size, 5, none⟩ = some (.int .i64 x5) := blk_cell kx 5
  have b0 : w2.cell? ⟨w.heap.size + 1, 0, none⟩ = some (.int .i64 y0) := blk_cell ky 0
  have b1 : w2.cell? ⟨w.heap.size + 1, 1, none⟩ = some (.int .i64 y1) := blk_cell ky 1
  have b2 : w2.cell? ⟨w.heap.size + 1, 2, none⟩ = some (.int .i64 y2) := blk_cell ky 2
  have b3 : w2.cell? ⟨w.heap.size + 1, 3, none⟩ = some (.int .i64 y3) := blk_cell ky 3
  have b4 : w2.cell? ⟨w.heap.size + 1, 4, none⟩ = some (.int .i64 y4) := blk_cell ky 4
  have b5 : w2.cell? ⟨w.heap.size + 1, 5, none⟩ = some (.int .i64 y5) := blk_cell ky 5
  have hsz : w2.heap.size = w.heap.size + 2 := by rw [← hw2]; simp
  have hS : ∀ w', Below w2.heap.size w2 w' → ((w'.cell? ⟨w.heap.size, 0, none⟩ = some (.int .i64 x0) ∧ w'.cell? ⟨w.heap.size, 1, none⟩ = some (.int .i64 x1) ∧ w'.cell? ⟨w.heap.size, 2, none⟩ = some (.int .i64 x2) ∧ w'.cell? ⟨w.heap.size, 3, none⟩ = some (.int .i64 x3) ∧ w'.cell? ⟨w.heap.size, 4, none⟩ = some (.int .i64 x4) ∧ w'.cell? ⟨w.heap.size, 5, none⟩ = some (.int .i64 x5) ∧ w'.cell? ⟨w.heap.size + 1, 0, none⟩ = some (.int .i64 y0) ∧ w'.cell? ⟨w.heap.size + 1, 1, none⟩ = some (.int .i64 y1) ∧ w'.cell? ⟨w.heap.size + 1, 2, none⟩ = some (.int .i64 y2) ∧ w'.cell? ⟨w.heap.size + 1, 3, none⟩ = some (.int .i64 y3) ∧ w'.cell? ⟨w.heap.size + 1, 4, none⟩ = some (.int .i64 y4) ∧ w'.cell? ⟨w.heap.size + 1, 5, none⟩ = some (.int .i64 y5)) ∧ Below w2.heap.size w2 w') := fun w' hB => ⟨⟨cell_on hB a0, cell_on hB a1, cell_on hB a2, cell_on hB a3, cell_on hB a4, cell_on hB a5, cell_on hB b0, cell_on hB b1, cell_on hB b2, cell_on hB b3, cell_on hB b4, cell_on hB b5⟩, hB⟩
  clear hw2 kx ky
  go_region_held3 (fun w' => (w'.cell? ⟨w.heap.size, 0, none⟩ = some (.int .i64 x0) ∧ w'.cell? ⟨w.heap.size, 1, none⟩ = some (.int .i64 x1) ∧ w'.cell? ⟨w.heap.size, 2, none⟩ = some (.int .i64 x2) ∧ w'.cell? ⟨w.heap.size, 3, none⟩ = some (.int .i64 x3) ∧ w'.cell? ⟨w.heap.size, 4, none⟩ = some (.int .i64 x4) ∧ w'.cell? ⟨w.heap.size, 5, none⟩ = some (.int .i64 x5) ∧ w'.cell? ⟨w.heap.size + 1, 0, none⟩ = some (.int .i64 y0) ∧ w'.cell? ⟨w.heap.size + 1, 1, none⟩ = some (.int .i64 y1) ∧ w'.cell? ⟨w.heap.size + 1, 2, none⟩ = some (.int .i64 y2) ∧ w'.cell? ⟨w.heap.size + 1, 3, none⟩ = some (.int .i64 y3) ∧ w'.cell? ⟨w.heap.size + 1, 4, none⟩ = some (.int .i64 y4) ∧ w'.cell? ⟨w.heap.size + 1, 5, none⟩ = some (.int .i64 y5)) ∧ Below w2.heap.size w2 w') (first | (with_reducible exact hS _ (Below.refl _ _).drew) | (with_reducible assumption) | exact hS _ (by repeat (first | exact Below.refl _ _ | apply below_alloc | apply pw_below_drewN | apply below_drew1 | (refine below_set ?_ ?_; rotate_left; (simp; done)))))
    (fail)
  · obtain ⟨w3, hw3⟩ : ∃ w3, ((w2.alloc (.cells #[.int .i64 x0, .int .i64 x1, .int .i64 x2, .int .i64 x3, .int .i64 x4, .int .i64 x5] 110)).alloc (.cells #[.int .i64 y0, .int .i64 y1, .int .i64 y2, .int .i64 y3, .int .i64 y4, .int .i64 y5] 110)).drew = w3 := ⟨_, rfl⟩
    rw [hw3]
    have hv3 : Below w.heap.size w w3 := by rw [← hw3]; exact ((hv.alloc (by omega) _).alloc (by simp; omega) _).drew
    have k0 : w3.heap[w.heap.size + 2]? = some (.cells #[.int .i64 x0, .int .i64 x1, .int .i64 x2, .int .i64 x3, .int .i64 x4, .int .i64 x5] 110 (0, 0)) := by rw [← hw3]; exact al_old (al_new _ _ _ (by omega))
    have k1 : w3.heap[w.heap.size + 2 + 1]? = some (.cells #[.int .i64 y0, .int .i64 y1, .int .i64 y2, .int .i64 y3, .int .i64 y4, .int .i64 y5] 110 (0, 0)) := by rw [← hw3]; exact al_new _ _ _ (by simp; omega)
    have a68 := fun w' (h : Below w3.heap.size w3 w') => compare_calls (some ⟨w.heap.size + 2, 0, none⟩) (some ⟨w.heap.size + 2 + 1, 0, none⟩) 6 6 [x0, x1, x2, x3, x4, x5] [y0, y1, y2, y3, y4, y5] w' (Kd.C_below (C_six k0) h) (Kd.C_below (C_six k1) h) rfl (by simp)
    have hs0 := slice110 (w.heap.size + 2)
    have hs1 := slice110 (w.heap.size + 2 + 1)
    have g0 : w3.cell? ⟨w.heap.size + 2, 0, none⟩ = some (.int .i64 x0) := blk_cell k0 0
    have hS3 : ∀ w', Below w3.heap.size w3 w' → ((w'.cell? ⟨w.heap.size + 2, 0, none⟩ = some (.int .i64 x0) ∧ True) ∧ Below w3.heap.size w3 w') := fun w' hB => ⟨⟨cell_on hB g0, trivial⟩, hB⟩
    clear hw3 hS a0 a1 a2 a3 a4 a5 b0 b1 b2 b3 b4 b5
    go_wp2_with fail
    go_region_held3 (fun w' => (w'.cell? ⟨w.heap.size + 2, 0, none⟩ = some (.int .i64 x0) ∧ True) ∧ Below w3.heap.size w3 w') (first | exact hS3 _ (Below.refl _ _).drew | assumption)
      (first | (go_at_call 68; refine (a68 _ (by have hh := ‹(_ ∧ True) ∧ Below w3.heap.size w3 _›; exact hh.2)).mono ?_; rintro e w' ⟨rfl, rfl⟩))
    rename_i hHeld2
    have hV := hHeld2.2
    try go_wp2
    go_ret
    exact ⟨rfl, hv3.trans (hV.mono hv3.size)⟩
  · obtain ⟨w3, hw3⟩ : ∃ w3, ((w2.alloc (.cells #[.int .i64 y0, .int .i64 y1, .int .i64 y2, .int .i64 y3, .int .i64 y4, .int .i64 y5] 110)).alloc (.cells #[.int .i64 x0, .int .i64 x1, .int .i64 x2, .int .i64 x3, .int .i64 x4, .int .i64 x5] 110)).drew = w3 := ⟨_, rfl⟩
    rw [hw3]
    have hv3 : Below w.heap.size w w3 := by rw [← hw3]; exact ((hv.alloc (by omega) _).alloc (by simp; omega) _).drew
    have k0 : w3.heap[w.heap.size + 2]? = some (.cells #[.int .i64 y0, .int .i64 y1, .int .i64 y2, .int .i64 y3, .int .i64 y4, .int .i64 y5] 110 (0, 0)) := by rw [← hw3]; exact al_old (al_new _ _ _ (by omega))
    have k1 : w3.heap[w.heap.size + 2 + 1]? = some (.cells #[.int .i64 x0, .int .i64 x1, .int .i64 x2, .int .i64 x3, .int .i64 x4, .int .i64 x5] 110 (0, 0)) := by rw [← hw3]; exact al_new _ _ _ (by simp; omega)
    have a68 := fun w' (h : Below w3.heap.size w3 w') => compare_calls (some ⟨w.heap.size + 2 + 1, 0, none⟩) (some ⟨w.heap.size + 2, 0, none⟩) 6 6 [x0, x1, x2, x3, x4, x5] [y0, y1, y2, y3, y4, y5] w' (Kd.C_below (C_six k1) h) (Kd.C_below (C_six k0) h) rfl (by simp)
    have hs0 := slice110 (w.heap.size + 2)
    have hs1 := slice110 (w.heap.size + 2 + 1)
    have g0 : w3.cell? ⟨w.heap.size + 2, 0, none⟩ = some (.int .i64 y0) := blk_cell k0 0
    have hS3 : ∀ w', Below w3.heap.size w3 w' → ((w'.cell? ⟨w.heap.size + 2, 0, none⟩ = some (.int .i64 y0) ∧ True) ∧ Below w3.heap.size w3 w') := fun w' hB => ⟨⟨cell_on hB g0, trivial⟩, hB⟩
    clear hw3 hS a0 a1 a2 a3 a4 a5 b0 b1 b2 b3 b4 b5
    go_wp2_with fail
    go_region_held3 (fun w' => (w'.cell? ⟨w.heap.size + 2, 0, none⟩ = some (.int .i64 y0) ∧ True) ∧ Below w3.heap.size w3 w') (first | exact hS3 _ (Below.refl _ _).drew | assumption)
      (first | (go_at_call 68; refine (a68 _ (by have hh := ‹(_ ∧ True) ∧ Below w3.heap.size w3 _›; exact hh.2)).mono ?_; rintro e w' ⟨rfl, rfl⟩))
    rename_i hHeld2
    have hV := hHeld2.2
    try go_wp2
    go_ret
    exact ⟨rfl, hv3.trans (hV.mono hv3.size)⟩
end Go.Proofs.Ytleipbanadnchaa.C
end

section
/- The contract of Made, by hand. -/
namespace Go.Proofs.Ytleipbanadnchaa.C
open Go.RowKit Go.Shelf Go.Maps Go.Proofs.YtleipbanadnchaaW.PrintWords Go.Proofs.YtleipbanadnchaaW.PrintLast Go.Proofs.YtleipbanadnchaaW.PrintMore
set_option linter.unusedVariables false
set_option linter.unusedSimpArgs false
attribute [local go_sem] max2_int min2_int max_two min_two
/-- The last day of a month that is in the calendar; -1. -/
def endV (n : Int) : Int := if n < 1535 then endN n else -1
theorem lmonthEnd_calls (n : Int) (h0 : 0 ≤ n) (h1 : n ≤ 5000) (w : World) :
    Calls Try.prog 61 #[.int .i64 n] w fun e w' => e = .returned (.int .i64 (endV n)) ∧ Below w.heap.size w w' := by
  have a26 := fun w => day_calls (1972 + (n + 1) / 12) ((n + 1) % 12 + 1) 1 w
  unfold dayV dayE at a26
  unfold endV
  by_cases hn : n < 1535
  · have hok : okD (1972 + (n + 1) / 12) ((n + 1) % 12 + 1) 1 = true := okD_iff.2 ⟨by omega, by omega, by omega, by omega, by omega, by have := mlen_bound (1972 + (n + 1) / 12) ((n + 1) % 12 + 1); omega⟩
    have he := endN_next h0
    have hb := endN_me h0 (by omega)
    rw [hok, if_pos rfl, if_pos rfl, show dayN (1972 + (n + 1) / 12) ((n + 1) % 12 + 1) 1 = endN n + 1 by omega] at a26
    rw [if_pos hn]
    clear he hok
    generalize endN n = e at *
    go_enter Try.func61, Try.ntmps61
    go_wp2_with fail
    refine (a26 _).mono ?_
    rintro en w1 ⟨rfl, hB⟩
    go_wp2
    go_ret
    exact ⟨by first | rfl | (simp; omega), hB⟩
  · have hok : okD (1972 + (n + 1) / 12) ((n + 1) % 12 + 1) 1 = false := by
      cases h : okD (1972 + (n + 1) / 12) ((n + 1) % 12 + 1) 1
      · rfl
      · have := (okD_iff.1 h).2.1; omega
    rw [hok] at a26
    rw [if_neg hn]
    clear hok
    go_enter Try.func61, Try.ntmps61
    go_wp2_with fail
    refine (a26 _).mono ?_
    rintro en w1 ⟨rfl, hB⟩
    go_wp2
    go_ret
    exact ⟨rfl, hB⟩
theorem C_u8 {w : World} {A : Option Addr} {n : Nat} {l : List Int} (h : Kd.C (Kd.int .u8) w A n l) (k : Nat) (hk : k < l.length) (hn : k < n) : ∃ ad, A = some ad ∧ w.cell? (ad.add k) = some (.int .u8 l[k]) := by
  obtain ⟨ad, c, e, hs, hr, hc⟩ := ReadsRow.get_ h 0 k (by omega) (by omega)
  have hx : l.getD (Int.toNat (k : Int)) 0 = l[k] := by simp [List.getD_eq_getElem?_getD, hk]
  rw [hx] at hr
  obtain rfl : c = [.int .u8 l[k]] := hr
  have c0 := hc 0 _ rfl
  rw [show (Kd.int .u8).sz = 1 from rfl, show Int.toNat (k : Int) = k by simp] at c0
  exact ⟨ad, e, by simpa using c0⟩
/-- Leaps that Made has made. -/
structure MadeL (a u : Int) (L : List (Int × Int)) : Prop where
  all : ∀ x ∈ L, (x.2 = 1 ∨ x.2 = -1) ∧ meF x.1 = true ∧ 41317 ≤ x.1 ∧ x.1 < u ∧ x.1 ≤ endN a
  rising : L.Pairwise (fun x y => x.1 < y.1)
  u0 : 41318 ≤ u
  u1 : u ≤ 88069
theorem MadeL.nil (a : Int) : MadeL a 41357 [] := ⟨by simp, List.Pairwise.nil, by omega, by omega⟩
theorem MadeL.snoc {a a' u u' s : Int} {L : List (Int × Int)} (h : MadeL a u L) (h0 : 0 ≤ a) (ha : a < a') (h1 : a' < 1535) (hs : s = 1 ∨ s = -1) (hu : endN a' < u') (hu2 : u' ≤ 88069) : MadeL a' u' (L ++ [(endN a', s)]) := by
  have hlt := endN_lt h0 ha
  have hme := endN_me (n := a') (by omega) (by omega)
  refine ⟨fun x hx => ?_, List.pairwise_append.2 ⟨h.rising, List.pairwise_singleton _ _, fun x hx y hy => ?_⟩, by omega, hu2⟩
  · rcases List.mem_append.1 hx with hx | hx
    · have := h.all x hx
      exact ⟨this.1, this.2.1, this.2.2.1, by omega, by omega⟩
    · obtain rfl := List.mem_singleton.1 hx
      exact ⟨hs, hme.2.2, hme.1, hu, Int.le_refl _⟩
  · obtain rfl := List.mem_singleton.1 hy
    have := h.all x hx
    show x.1 < endN a'
    omega
theorem leapsE_good {u : Int} : ∀ (L : List (Int × Int)) (p : Option Int), (∀ x ∈ L, (x.2 = 1 ∨ x.2 = -1) ∧ meF x.1 = true ∧ 41317 ≤ x.1 ∧ x.1 < u) → L.Pairwise (fun x y => x.1 < y.1) → (∀ q, p = some q → ∀ x ∈ L, q < x.1) → leapsE u p L = 0
  | [], _, _, _, _ => rfl
  | x :: L, p, h, hp, hq => by
    obtain ⟨h1, h2⟩ := List.pairwise_cons.1 hp
    have hx := h x (List.mem_cons_self ..)
    have e : leapE u p x = 0 := by
      unfold leapE
      rw [if_neg (by rw [hx.2.1]; simp; omega), if_neg (by omega)]
      cases p with
      | none => rfl
      | some q =>
        have := hq q rfl x (List.mem_cons_self ..)
        show (if x.1 ≤ q then (11 : Int) else 0) = 0
        rw [if_neg (by omega)]
    unfold leapsE
    rw [if_pos e]
    exact leapsE_good L _ (fun z hz => h z (List.mem_cons_of_mem _ hz)) h2 (fun q hqq z hz => by cases hqq; exact h1 z hz)
theorem MadeL.check {a b u : Int} {L : List (Int × Int)} (h : MadeL a u L) (h0 : 0 ≤ b) (h1 : b ≤ 100) (hl : L.length ≤ 100) : checkF b L u = 0 := by
  unfold checkF
  rw [if_neg (by have := h.u0; have := h.u1; omega), if_neg (by omega)]
  exact leapsE_good L none (fun x hx => ⟨(h.all x hx).1, (h.all x hx).2.1, (h.all x hx).2.2.1, (h.all x hx).2.2.2.1⟩) h.rising (fun q hq => by cases hq)
/-- How far Made has come. -/
structure MInv (w wr : World) (i : Nat) (a u : Int) (L : List (Int × Int)) (vo : Value) : Prop where
  bel : Below w.heap.size w wr
  res : wr.heap[w.heap.size]? = some (.cells #[.int .i64 0, .slice none 0 0, .int .i64 0] 28 (0, 0))
  tab : wr.heap[w.heap.size + 1]? = some (.cells #[.int .i64 10, vo, .int .i64 u] 28 (0, 0))
  own : wr.ownsRow (w.heap.size + 2) 45 2 vo L.length (lcells L)
  len : L.length * 2 ≤ i
  made : MadeL a u L
theorem made_round {w w1 w2 : World} {i : Nat} {a u e sv : Int} {L : List (Int × Int)} {vo v2 : Value} (h : MInv w w1 i a u L vo) (hown : w2.ownsRow (w.heap.size + 2) 45 2 v2 (L.length + 1) (lcells L ++ [.int .i64 e, .int .i64 sv])) (hgrow : (w1.alloc (.cells #[.int .i64 e, .int .i64 sv] 45)).grownBy w2 vo.ownBlock) :
    ∃ Av cv, v2 = .slice Av (L.length + 1) cv ∧ w2.cell? ⟨w.heap.size + 1, 1, none⟩ = some vo ∧ w2.frozen? ⟨w.heap.size + 1, 1, none⟩ = false ∧ w2.cell? ⟨w.heap.size + 1, 2, none⟩ = some (.int .i64 u) ∧ w2.frozen? ⟨w.heap.size + 1, 2, none⟩ = false ∧ Below w.heap.size w w2 ∧
      ∀ a' u', MadeL a' u' (L ++ [(e, sv)]) → MInv w ((w2.setCell ⟨w.heap.size + 1, 1, none⟩ v2).setCell ⟨w.heap.size + 1, 2, none⟩ (.int .i64 u')) (i + 2) a' u' (L ++ [(e, sv)]) v2 := by
  have hsz : w.heap.size + 1 < w1.heap.size := (Array.getElem?_eq_some_iff.1 h.tab).1
  have hob : ∀ k, vo.ownBlock = some k → w.heap.size + 2 ≤ k := fun k hk => own_base h.own k hk
  have keep : ∀ (k : Nat) (o : Obj), k < w.heap.size + 2 → w1.heap[k]? = some o → w2.heap[k]? = some o := fun k o hk ho => by
    have h1 := (Array.getElem?_eq_some_iff.1 ho).1
    exact (hgrow.block k (by simp; omega) (fun e => by have := hob k e.symm; omega)).trans (al_old ho)
  have hbel : Below w.heap.size w w2 := (h.bel.alloc h.bel.size _).grown hgrow (by simp; omega) (fun k hk => by have := hob k hk; omega)
  have kt := keep _ _ (by omega) h.tab
  have hl : lcells (L ++ [(e, sv)]) = lcells L ++ [.int .i64 e, .int .i64 sv] := by rw [lcells_append]; rfl
  have hlen : (L ++ [(e, sv)]).length = L.length + 1 := by simp
  have hown2 : w2.ownsRow (w.heap.size + 2) 45 2 v2 (L ++ [(e, sv)]).length (lcells (L ++ [(e, sv)])) := by rw [hl, hlen]; exact hown
  obtain ⟨Av, cv, hv, _⟩ := own_leaps hown2
  rw [hlen] at hv
  refine ⟨Av, cv, hv, blk_cell kt 1, blk_frozen kt 1, blk_cell kt 2, blk_frozen kt 2, hbel, fun a' u' hm => ⟨(hbel.setCell (by simp) _).setCell (by simp) _, ?_, ?_, ?_, ?_, hm⟩⟩
  · exact blk_far (blk_far (keep _ _ (by omega) h.res) (by simp) _) (by simp) _
  · exact blk_put (blk_put kt 1 _ rfl) 2 _ rfl
  · exact own_move hown2 (fun k hk => by
      have := own_base hown2 k hk
      rw [Below.heap_setCell _ _ _ k (by simp; omega), Below.heap_setCell _ _ _ k (by simp; omega)])
  · rw [hlen]; have := h.len; omega
theorem made_end {w W : World} {b u : Int} {L : List (Int × Int)} {A1 : Option Addr} {c1 : Nat} (hbel : Below w.heap.size w W) (hres : W.heap[w.heap.size]? = some (.cells #[.int .i64 0, .slice none 0 0, .int .i64 0] 28 (0, 0)))
    (hown : W.ownsRow (w.heap.size + 2) 45 2 (.slice A1 L.length c1) L.length (lcells L)) :
    (((W.setCell ⟨w.heap.size, 0, none⟩ (.int .i64 b)).setCell ⟨w.heap.size, 1, none⟩ (.slice A1 L.length c1)).setCell ⟨w.heap.size, 2, none⟩ (.int .i64 u)).heap[w.heap.size]? = some (.cells #[.int .i64 b, .slice A1 L.length c1, .int .i64 u] 28 (0, 0)) ∧
    Kd.C kl (((W.setCell ⟨w.heap.size, 0, none⟩ (.int .i64 b)).setCell ⟨w.heap.size, 1, none⟩ (.slice A1 L.length c1)).setCell ⟨w.heap.size, 2, none⟩ (.int .i64 u)) A1 L.length L ∧
    Below w.heap.size w (((W.setCell ⟨w.heap.size, 0, none⟩ (.int .i64 b)).setCell ⟨w.heap.size, 1, none⟩ (.slice A1 L.length c1)).setCell ⟨w.heap.size, 2, none⟩ (.int .i64 u)) := by
  have o3 := own_move (w1 := (((W.setCell ⟨w.heap.size, 0, none⟩ (.int .i64 b)).setCell ⟨w.heap.size, 1, none⟩ (.slice A1 L.length c1)).setCell ⟨w.heap.size, 2, none⟩ (.int .i64 u))) hown (fun k hk => by
    have := own_base hown k hk
    rw [Below.heap_setCell _ _ _ k (by simp; omega), Below.heap_setCell _ _ _ k (by simp; omega), Below.heap_setCell _ _ _ k (by simp; omega)])
  obtain ⟨_, _, e, hC⟩ := own_leaps o3
  cases e
  exact ⟨blk_put (blk_put (blk_put hres 0 _ rfl) 1 _ rfl) 2 _ rfl, hC, ((hbel.setCell (by simp) _).setCell (by simp) _).setCell (by simp) _⟩
theorem own_cap {e : TypeId} {w : World} {base : Nat} {A : Option Addr} {n c : Nat} {l : List (Int × Int)} (h : w.ownsRow base e 2 (.slice A n c) l.length (lcells l)) : n ≤ c := by
  have hR : Kd.R kl e w base (fun _ => True) (.slice A n c) l := ⟨fun _ _ => trivial, _, h, lcells_len l, fun j x hx => by
    rw [show kl.sz = 2 from rfl, lcells_at l j x hx]
    exact ⟨[.int .i64 x.1], [.int .i64 x.2], rfl, rfl, rfl⟩⟩
  obtain ⟨A', c', e, hl, _⟩ := Kd.R_reads hR
  cases e
  exact hl
set_option maxHeartbeats 4000000 in
set_option maxRecDepth 100000 in
theorem made_calls2 (A : Option Addr) (c : Nat) (l : List Int) (w : World) (hr : Kd.C (Kd.int .u8) w A l.length l) (hb : ∀ x ∈ l, 0 ≤ x ∧ x ≤ 255) (hlen : l.length ≤ 9223372036854775807) :
    Calls Try.prog 16 #[.slice A l.length c] w fun e w' => (∃ b u A1 c1 L, e = .returned (tabV b A1 L.length c1 u) ∧ checkF b L u = 0 ∧ L.length ≤ 12 ∧ Kd.C kl w' A1 L.length L ∧ L.length ≤ c1) ∧ Below w.heap.size w w' := by
  obtain ⟨ii, hii, hz0, hz1, hz2⟩ := info_parts info45n
  have HR := Aside0.mk hr
  have HBy := Aside0.mk hb
  clear hr hb
  go_enter Try.func16, Try.ntmps16
  go_wp2_with fail
  obtain ⟨W0, hW0⟩ : ∃ W0, (w.alloc (.cells #[.int .i64 0, .slice none 0 0, .int .i64 0] 28)).alloc (.cells #[.int .i64 10, .slice none 0 0, .int .i64 41357] 28) = W0 := ⟨_, rfl⟩
  rw [hW0]
  have HI0 : Aside0 (MInv w W0 0 0 41357 [] (.slice none 0 0)) := ⟨by
    rw [← hW0]
    exact ⟨((Below.refl _ w).alloc (Nat.le_refl _) _).alloc (by simp) _, al_old (al_new _ _ _ rfl), al_new _ _ _ (by simp), own_nil _ _ _ _, by simp, MadeL.nil 0⟩⟩
  clear hW0
  go_loopw [5, 4] (fun v5 v4 wr => ∃ (i : Nat) (a u : Int) (L : List (Int × Int)) (vo : Value), i ≤ 25 ∧ 0 ≤ a ∧ a ≤ 20 * i ∧ v5 = .int .i64 i ∧ v4 = .int .i64 a ∧ Aside0 (MInv w wr i a u L vo)) (fun v _ _ => 28 - (intOf v).toNat)
  case atStart => exact ⟨0, 0, _, _, _, by omega, by omega, by omega, rfl, rfl, HI0⟩
  case round =>
    obtain ⟨i, a, u, L, vo, hi, ha0, ha1, rfl, rfl, HI⟩ := hrel
    have t0 : wr.cell? ⟨w.heap.size + 1, 0, none⟩ = some (.int .i64 10) := blk_cell HI.out.tab 0
    have t1 : wr.cell? ⟨w.heap.size + 1, 1, none⟩ = some vo := blk_cell HI.out.tab 1
    have t2 : wr.cell? ⟨w.heap.size + 1, 2, none⟩ = some (.int .i64 u) := blk_cell HI.out.tab 2
    by_cases hin : i + 1 < l.length ∧ i < 24
    · have d1 : decide ((i : Int) + 1 < (l.length : Int)) = true := decide_eq_true (by omega)
      have d2 : decide ((i : Int) < 24) = true := decide_eq_true (by omega)
      have hi1 := hin.1
      have hi2 := hin.2
      obtain ⟨ad, rfl, hc0⟩ := C_u8 (Kd.C_below HR.out HI.out.bel) i (by omega) (by omega)
      obtain ⟨ad', ead, hc1⟩ := C_u8 (Kd.C_below HR.out HI.out.bel) (i + 1) hin.1 hin.1
      cases ead
      have hb0 := HBy.out l[i] (List.getElem_mem _)
      have hb1 := HBy.out l[i + 1] (List.getElem_mem _)
      generalize l[i] = b0 at *
      generalize l[i + 1] = b1 at *
      obtain ⟨a', ha'⟩ : ∃ a', a + (1 + b0 % 40) = a' := ⟨_, rfl⟩
      have ha2 : a < a' ∧ a' ≤ 20 * ((i : Int) + 2) := by omega
      have he := endN_me (n := a') (by omega) (by omega)
      have a61 := fun w => lmonthEnd_calls a' (by omega) (by omega) w
      unfold endV at a61
      rw [if_pos (by omega)] at a61
      have HE := Aside0.mk he.2.2
      have hee := And.intro he.1 he.2.1
      have HME := Aside0.mk (show ∀ s u', (s = 1 ∨ s = -1) → endN a' < u' → u' ≤ 88069 → MadeL a' u' (L ++ [(endN a', s)]) from fun s u' h1 h2 h3 => HI.out.made.snoc ha0 ha2.1 (by omega) h1 h2 h3)
      clear he
      generalize endN a' = e at *
      have d3 : decide (e < 0) = false := decide_eq_false (by omega)
      go_wp2_with fail
      refine (a61 _).mono ?_
      rintro en w1 ⟨rfl, hB⟩
      have hC1' := Kd.C_below HR.out (HI.out.bel.trans (hB.mono HI.out.bel.size))
      replace t0 := cell_on hB t0
      replace t1 := cell_on hB t1
      replace t2 := cell_on hB t2
      replace hc1 := cell_on hB hc1
      have hbl : (ad.add (i + 1)).block < w.heap.size := by
        obtain ⟨ad2, ead2, hcc⟩ := C_u8 HR.out (i + 1) hin.1 hin.1
        cases ead2
        exact World.block_lt_of_cell? _ _ hcc
      have eadd : ad.add (i + 1) = ⟨ad.block, ad.off + (i + 1), none⟩ := by unfold Addr.add; rw [if_neg (by omega)]
      rw [eadd] at hc1 hbl
      replace hbl : ad.block < w.heap.size := hbl
      clear eadd
      have hbne : ad.block ≠ w.heap.size + 1 := by omega
      have hbne2 : w.heap.size + 1 ≠ ad.block := by omega
      have HI1 : Aside0 (MInv w w1 i a u L vo) := ⟨by
        have h := HI.out
        refine ⟨h.bel.trans (hB.mono h.bel.size), (hB.block _ (Array.getElem?_eq_some_iff.1 h.res).1).trans h.res, (hB.block _ (Array.getElem?_eq_some_iff.1 h.tab).1).trans h.tab, own_move h.own (fun k hk => hB.block k (own_lt h.own k hk)), h.len, h.made⟩⟩
      clear hB a61 hc0
      obtain ⟨sv, hsv, hsc⟩ : ∃ sv : Int, (sv = 1 ∨ sv = -1) ∧ sv = (if b1 % 4 = 0 then -1 else 1) := ⟨if b1 % 4 = 0 then -1 else 1, by split <;> simp, rfl⟩
      obtain ⟨u', hu', hu1, hu2⟩ : ∃ u' : Int, u' = (if 88069 < e + 1 + b1 then 88069 else e + 1 + b1) ∧ e < u' ∧ u' ≤ 88069 := ⟨_, rfl, by split <;> omega, by split <;> omega⟩
      have HM := Aside0.mk (HME.out sv u' hsv hu1 hu2)
      have hownD : (w1.alloc (.cells #[.int .i64 e, .int .i64 sv] 45)).ownsRow (w.heap.size + 2) 45 2 vo L.length (lcells L) := own_move HI1.out.own (fun k hk => Below.heap_alloc _ _ k (own_lt HI1.out.own k hk))
      clear HME HE HI hsv
      have hLlen : L.length ≤ 12 := by have := HI1.out.len; omega
      have hsz1 : w.heap.size + 1 < w1.heap.size := (Array.getElem?_eq_some_iff.1 HI1.out.tab).1
      have hcb2 : ∀ w2, Below w.heap.size w w2 → w2.cell? ⟨ad.block, ad.off + (i + 1), none⟩ = some (.int .u8 b1) := fun w2 hB2 => by
        have h := hB2.cell (p := ⟨ad.block, ad.off + (i + 1), none⟩) hbl
        rw [h]
        have h' := (HI1.out.bel).cell (p := ⟨ad.block, ad.off + (i + 1), none⟩) hbl
        rw [← h']
        exact hc1
      have HCB := Aside0.mk hcb2
      clear hcb2
      by_cases hm4 : b1 % 4 = 0
      · rw [if_pos hm4] at hsc
        subst hsc
        have qu : decide (88069 < e + 1 + b1) = (decide (88069 < e + 1 + b1)) := rfl
        by_cases hub : 88069 < e + 1 + b1
        all_goals
          first | rw [if_pos hub] at hu' | rw [if_neg hub] at hu'
          subst hu'
          clear qu
          go_wp2_with (at_builtin; refine wpList_append_own _ rfl _ _ 26 rfl (w.heap.size + 2) 45 ii (.agg #[.int .i64 0, .int .i64 0]) 2 16 Try.underlying26 hii hz0 hz1 hz2 rfl (by decide) _ _ _ rfl hownD ⟨w1.heap.size, 0, none⟩ 1 1 [.int .i64 e, .int .i64 (-1)] rfl rfl (World.news_of_block (cs := #[.int .i64 e, .int .i64 (-1)]) (t := 45) (fr := (0, 0)) (al_new _ _ _ rfl)) (by simp [Value.oneCell']) (by unfold maxLen; omega) (by omega) (by simp; omega) ?_; intro v2 w2 hown2 hgrow2 hnil2; obtain ⟨Av, cv, rfl, t1', f1', t2', f2', hbel2, hfin⟩ := made_round HI1.out hown2 hgrow2; have hcb := HCB.out _ hbel2; have HF := Aside0.mk (hfin _ _ HM.out); clear hown2 hgrow2 hnil2 hfin t0 t1 t2 hownD hbel2 hc1)
          go_roundw
          case rel => exact ⟨i + 2, a', _, _, _, by omega, by omega, by omega, by go_num, rfl, HF⟩
          case measure => simp [intOf]; omega
      · rw [if_neg hm4] at hsc
        subst hsc
        have q4 : ((b1 % 4) == 0) = false := beq_eq_false_iff_ne.2 hm4
        have qu : decide (88069 < e + 1 + b1) = (decide (88069 < e + 1 + b1)) := rfl
        by_cases hub : 88069 < e + 1 + b1
        all_goals
          first | rw [if_pos hub] at hu' | rw [if_neg hub] at hu'
          subst hu'
          clear qu
          go_wp2_with (at_builtin; refine wpList_append_own _ rfl _ _ 26 rfl (w.heap.size + 2) 45 ii (.agg #[.int .i64 0, .int .i64 0]) 2 16 Try.underlying26 hii hz0 hz1 hz2 rfl (by decide) _ _ _ rfl hownD ⟨w1.heap.size, 0, none⟩ 1 1 [.int .i64 e, .int .i64 (1)] rfl rfl (World.news_of_block (cs := #[.int .i64 e, .int .i64 (1)]) (t := 45) (fr := (0, 0)) (al_new _ _ _ rfl)) (by simp [Value.oneCell']) (by unfold maxLen; omega) (by omega) (by simp; omega) ?_; intro v2 w2 hown2 hgrow2 hnil2; obtain ⟨Av, cv, rfl, t1', f1', t2', f2', hbel2, hfin⟩ := made_round HI1.out hown2 hgrow2; have hcb := HCB.out _ hbel2; have HF := Aside0.mk (hfin _ _ HM.out); clear hown2 hgrow2 hnil2 hfin t0 t1 t2 hownD hbel2 hc1)
          go_roundw
          case rel => exact ⟨i + 2, a', _, _, _, by omega, by omega, by omega, by go_num, rfl, HF⟩
          case measure => simp [intOf]; omega
    · obtain ⟨A1, c1, hvo, _⟩ := own_leaps HI.out.own
      subst hvo
      have f0 := blk_frozen HI.out.tab 0
      have z0 : wr.cell? ⟨w.heap.size, 0, none⟩ = some (.int .i64 0) := blk_cell HI.out.res 0
      have z1 : wr.cell? ⟨w.heap.size, 1, none⟩ = some (.slice none 0 0) := blk_cell HI.out.res 1
      have z2 : wr.cell? ⟨w.heap.size, 2, none⟩ = some (.int .i64 0) := blk_cell HI.out.res 2
      have g0 := blk_frozen HI.out.res 0
      have g1 := blk_frozen HI.out.res 1
      have g2 := blk_frozen HI.out.res 2
      by_cases hl0 : l.length = 0
      · have d1 : decide ((i : Int) + 1 < (l.length : Int)) = false := decide_eq_false (by omega)
        have d5 : decide (0 < (l.length : Int)) = false := decide_eq_false (by omega)
        have d6 : decide (0 < l.length) = false := decide_eq_false (by omega)
        clear hin hl0
        go_wp2
        have hfin := made_end (b := 10) (u := u) HI.out.bel HI.out.res HI.out.own
        exact bodyPost_ret (results_cell_row rfl _ _ w.heap.size 28 _ (0, 0) _ rfl hfin.1 Try.underlying28 rfl info28) rfl ⟨⟨10, u, A1, c1, L, rfl, HI.out.made.check (by omega) (by omega) (by have := HI.out.len; omega), by have := HI.out.len; omega, hfin.2.1, own_cap HI.out.own⟩, hfin.2.2⟩
      · obtain ⟨ad, rfl, hc0⟩ := C_u8 (Kd.C_below HR.out HI.out.bel) 0 (by omega) (by omega)
        have hb0 := HBy.out (l[0]'(by omega)) (List.getElem_mem _)
        generalize (l[0]'(by omega)) = l0 at *
        have hc0' : wr.cell? ad = some (.int .u8 l0) := hc0
        have d5 : decide (0 < (l.length : Int)) = true := decide_eq_true (by omega)
        have d6 : decide (0 < l.length) = true := decide_eq_true (by omega)
        by_cases h1 : i + 1 < l.length
        · have d1 : decide ((i : Int) + 1 < (l.length : Int)) = true := decide_eq_true (by omega)
          have d2 : decide ((i : Int) < 24) = false := decide_eq_false (by omega)
          clear hin
          have hown2 := own_move (w1 := wr.setCell ⟨w.heap.size + 1, 0, none⟩ (.int .i64 (l0 % 100))) HI.out.own (fun k hk => Below.heap_setCell _ _ _ k (by have := own_base HI.out.own k hk; simp; omega))
          have hfin := Aside0.mk (made_end (b := l0 % 100) (u := u) (HI.out.bel.setCell (p := ⟨w.heap.size + 1, 0, none⟩) (by simp) (.int .i64 (l0 % 100))) (blk_far HI.out.res (by simp) _) hown2)
          clear hown2
          go_wp2
          exact bodyPost_ret (results_cell_row rfl _ _ w.heap.size 28 _ (0, 0) _ rfl hfin.out.1 Try.underlying28 rfl info28) rfl ⟨⟨l0 % 100, u, A1, c1, L, rfl, HI.out.made.check (by omega) (by omega) (by have := HI.out.len; omega), by have := HI.out.len; omega, hfin.out.2.1, own_cap HI.out.own⟩, hfin.out.2.2⟩
        · have d1 : decide ((i : Int) + 1 < (l.length : Int)) = false := decide_eq_false (by omega)
          clear hin
          have hown2 := own_move (w1 := wr.setCell ⟨w.heap.size + 1, 0, none⟩ (.int .i64 (l0 % 100))) HI.out.own (fun k hk => Below.heap_setCell _ _ _ k (by have := own_base HI.out.own k hk; simp; omega))
          have hfin := Aside0.mk (made_end (b := l0 % 100) (u := u) (HI.out.bel.setCell (p := ⟨w.heap.size + 1, 0, none⟩) (by simp) (.int .i64 (l0 % 100))) (blk_far HI.out.res (by simp) _) hown2)
          clear hown2
          go_wp2
          exact bodyPost_ret (results_cell_row rfl _ _ w.heap.size 28 _ (0, 0) _ rfl hfin.out.1 Try.underlying28 rfl info28) rfl ⟨⟨l0 % 100, u, A1, c1, L, rfl, HI.out.made.check (by omega) (by omega) (by have := HI.out.len; omega), by have := HI.out.len; omega, hfin.out.2.1, own_cap HI.out.own⟩, hfin.out.2.2⟩
theorem made_calls (A : Option Addr) (c : Nat) (l : List Int) (w : World) (hr : Kd.C (Kd.int .u8) w A l.length l) (hb : ∀ x ∈ l, 0 ≤ x ∧ x ≤ 255) (hlen : l.length ≤ 9223372036854775807) :
    Calls Try.prog 16 #[.slice A l.length c] w fun e w' => (∃ b u A1 c1 L, e = .returned (tabV b A1 L.length c1 u) ∧ checkF b L u = 0 ∧ L.length ≤ 12 ∧ Kd.C kl w' A1 L.length L) ∧ Below w.heap.size w w' :=
  (made_calls2 A c l w hr hb hlen).mono fun _ _ ⟨⟨b, u, A1, c1, L, h1, h2, h3, h4, _⟩, h⟩ => ⟨⟨b, u, A1, c1, L, h1, h2, h3, h4⟩, h⟩
end Go.Proofs.Ytleipbanadnchaa.C
end

section
/- Contracts of midnight and near, by hand. -/
namespace Go.Proofs.Ytleipbanadnchaa.C
open Go.RowKit Go.Shelf Go.Maps Go.Proofs.YtleipbanadnchaaW.PrintWords Go.Proofs.YtleipbanadnchaaW.PrintLast Go.Proofs.YtleipbanadnchaaW.PrintMore
set_option linter.unusedVariables false
set_option linter.unusedSimpArgs false
attribute [local go_sem] max2_int min2_int max_two min_two
set_option maxHeartbeats 1000000 in
set_option maxRecDepth 100000 in
theorem midnight_calls (n : Int) (w : World) :
    Calls Try.prog 64 #[.int .i64 n] w fun e w' => e = .returned (dateV (kv n (cY n)) (kv n (cM n)) (kv n (cD n)) 0 0 0) ∧ Below w.heap.size w w' := by
  have a30 := fun w => Civil_calls n w
  generalize kv n (cY n) = Y at *
  generalize kv n (cM n) = M at *
  generalize kv n (cD n) = K at *
  generalize ke n = E at *
  go_enter Try.func64, Try.ntmps64
  go_wp2_with fail
  refine (a30 _).mono ?_
  rintro en w1 ⟨rfl, hB⟩
  have hv : Below w.heap.size w w1 := ((Below.refl _ w).alloc (Nat.le_refl _) _).trans (hB.mono (by simp))
  have kr : w1.heap[w.heap.size]? = some (.cells #[.int .i64 0, .int .i64 0, .int .i64 0, .int .i64 0, .int .i64 0, .int .i64 0] 30 (0, 0)) := (hB.block _ (by simp)).trans (al_new _ _ _ (by simp))
  clear hB a30
  have r0 : w1.cell? ⟨w.heap.size, 0, none⟩ = some (.int .i64 0) := blk_cell kr 0
  have r1 : w1.cell? ⟨w.heap.size, 1, none⟩ = some (.int .i64 0) := blk_cell kr 1
  have r2 : w1.cell? ⟨w.heap.size, 2, none⟩ = some (.int .i64 0) := blk_cell kr 2
  have r3 : w1.cell? ⟨w.heap.size, 3, none⟩ = some (.int .i64 0) := blk_cell kr 3
  have r4 : w1.cell? ⟨w.heap.size, 4, none⟩ = some (.int .i64 0) := blk_cell kr 4
  have r5 : w1.cell? ⟨w.heap.size, 5, none⟩ = some (.int .i64 0) := blk_cell kr 5
  have z0 := blk_frozen kr 0
  have z1 := blk_frozen kr 1
  have z2 := blk_frozen kr 2
  have z3 := blk_frozen kr 3
  have z4 := blk_frozen kr 4
  have z5 := blk_frozen kr 5
  go_wp2
  exact bodyPost_ret (results_cell_row rfl _ _ w.heap.size 30 _ (0, 0) _ rfl (blk_put (blk_put (blk_put (blk_put (blk_put (blk_put kr 0 _ rfl) 1 _ rfl) 2 _ rfl) 3 _ rfl) 4 _ rfl) 5 _ rfl) Try.underlying30 rfl info30) rfl
    ⟨rfl, (((((hv.setCell (by simp) _).setCell (by simp) _).setCell (by simp) _).setCell (by simp) _).setCell (by simp) _).setCell (by simp) _⟩
theorem seconds_bound {b u : Int} {l : List (Int × Int)} (hk : checkF b l u = 0) (y m d : Int) : -1000000000000 ≤ (secondsR b l u y m d 0 0 0).1 ∧ (secondsR b l u y m d 0 0 0).1 ≤ 1000000000000 := by
  obtain ⟨_, _, h3, h4, h5, hR⟩ := checkF_right hk
  unfold secondsR
  rw [if_pos hk]
  split
  · rename_i h
    unfold secOk at h
    simp only [Bool.and_eq_true, decide_eq_true_iff] at h
    have h' := okD_iff.1 h.1
    have c : IsCiv (dayN y m d) y m d := ⟨by omega, by omega, by omega, by omega, by omega, rfl⟩
    have h2 := c.in_year
    have h6 := ny_mono (y := 1972) (z := y) (by omega)
    have e1 : ny 1972 = 41316 := by decide
    have hg := hR.take l.length (dayN y m d)
    rw [List.take_length] at hg
    show _ ≤ beginF l (dayN y m d) + _ ∧ beginF l (dayN y m d) + _ ≤ _
    unfold beginF
    omega
  · exact ⟨by decide, by decide⟩
set_option maxHeartbeats 4000000 in
set_option maxRecDepth 100000 in
theorem near_calls (b u : Int) (A : Option Addr) (c : Nat) (l : List (Int × Int)) (tot wh by_ : Int) (w : World) (hr : Kd.C kl w A l.length l) (hk : checkF b l u = 0) (ht0 : 1 ≤ tot) (ht1 : tot ≤ 1000000000000) (hw0 : 0 ≤ wh) (hw1 : wh ≤ 255) :
    Calls Try.prog 18 #[tabV b A l.length c u, .int .i64 tot, .int .u8 wh, .int .i64 by_] w fun e w' => (∃ r, e = .returned (.int .i64 r) ∧ 0 ≤ r ∧ r ≤ tot - 1) ∧ Below w.heap.size w w' := by
  have HR := Aside0.mk hr
  have hlen := (checkF_right hk).2.2.2.2.1
  have HK := Aside0.mk hk
  have htm : -7 ≤ Int.tmod by_ 8 ∧ Int.tmod by_ 8 ≤ 7 := by
    have h1 := Int.tmod_lt_of_pos by_ (b := 8) (by decide)
    have h2 := Int.lt_tmod_of_pos by_ (b := 8) (by decide)
    omega
  clear hr hk
  have hmod : 0 ≤ wh % ((l.length : Int) + 1) ∧ wh % ((l.length : Int) + 1) < (l.length : Int) + 1 := ⟨Int.emod_nonneg _ (by omega), Int.emod_lt_of_pos _ (by omega)⟩
  by_cases hkl : wh % ((l.length : Int) + 1) < (l.length : Int)
  · obtain ⟨kk, hkk⟩ : ∃ kk : Nat, wh % ((l.length : Int) + 1) = (kk : Int) := ⟨(wh % ((l.length : Int) + 1)).toNat, by omega⟩
    rw [hkk] at hkl
    have hklt : kk < l.length := by omega
    have d1 : decide ((kk : Int) < (l.length : Int)) = true := decide_eq_true hkl
    obtain ⟨W0, hW0⟩ : ∃ W0, w.alloc (.cells #[.int .i64 b, .slice A l.length c, .int .i64 u] 28) = W0 := ⟨_, rfl⟩
    have hv : Below w.heap.size w W0 := by rw [← hW0]; exact (Below.refl _ w).alloc (Nat.le_refl _) _
    have kx : W0.heap[w.heap.size]? = some (.cells #[.int .i64 b, .slice A l.length c, .int .i64 u] 28 (0, 0)) := by rw [← hW0]; exact al_new _ _ _ rfl
    obtain ⟨ad, rfl, hc0, hc1⟩ := C_leap (Kd.C_below HR.out hv) kk hklt hklt
    have hst := (checkF_right HK.out).2.2.2.2.2.steps l[kk] (List.getElem_mem _)
    have hu := (checkF_right HK.out).2.2.2.1
    generalize l[kk] = x at *
    obtain ⟨xd, xs⟩ := x
    simp only at hc0 hst
    have t0 : W0.cell? ⟨w.heap.size, 0, none⟩ = some (.int .i64 b) := blk_cell kx 0
    have t1 : W0.cell? ⟨w.heap.size, 1, none⟩ = some (.slice (some ad) l.length c) := blk_cell kx 1
    have t2 : W0.cell? ⟨w.heap.size, 2, none⟩ = some (.int .i64 u) := blk_cell kx 2
    have hw : IntKind.i64.wrap (xd + 1) = xd + 1 := iw _ (by omega) (by omega)
    have a64 := fun w => midnight_calls (xd + 1) w
    have hsb := seconds_bound HK.out (kv (xd + 1) (cY (xd + 1))) (kv (xd + 1) (cM (xd + 1))) (kv (xd + 1) (cD (xd + 1)))
    have a20 := fun w h => Seconds_calls b u (some ad) c l (kv (xd + 1) (cY (xd + 1))) (kv (xd + 1) (cM (xd + 1))) (kv (xd + 1) (cD (xd + 1))) 0 0 0 w h
    generalize secondsR b l u (kv (xd + 1) (cY (xd + 1))) (kv (xd + 1) (cM (xd + 1))) (kv (xd + 1) (cD (xd + 1))) 0 0 0 = R at *
    generalize kv (xd + 1) (cY (xd + 1)) = Y at *
    generalize kv (xd + 1) (cM (xd + 1)) = M at *
    generalize kv (xd + 1) (cD (xd + 1)) = K at *
    obtain ⟨V, E⟩ := R
    simp only at hsb a20
    clear hc1 hmod hst hu kx
    go_enter Try.func18, Try.ntmps18
    go_wp2_with fail
    try rw [hW0]
    try simp only [hkk]
    clear hW0 d1
    have hS : ∀ w', Below W0.heap.size W0 w' → ((w'.cell? ⟨w.heap.size, 0, none⟩ = some (.int .i64 b) ∧ w'.cell? ⟨w.heap.size, 1, none⟩ = some (.slice (some ad) l.length c) ∧ w'.cell? ⟨w.heap.size, 2, none⟩ = some (.int .i64 u) ∧ w'.cell? (ad.add (kk * 2)) = some (.int .i64 xd)) ∧ Below W0.heap.size W0 w') := fun w' hB => ⟨⟨cell_on hB t0, cell_on hB t1, cell_on hB t2, cell_on hB hc0⟩, hB⟩
    have hkn : Int.toNat (kk : Int) = kk := Int.toNat_natCast kk
    have hk0 : (0 : Int) ≤ (kk : Int) := by omega
    go_region_held3 (fun w' => (w'.cell? ⟨w.heap.size, 0, none⟩ = some (.int .i64 b) ∧ w'.cell? ⟨w.heap.size, 1, none⟩ = some (.slice (some ad) l.length c) ∧ w'.cell? ⟨w.heap.size, 2, none⟩ = some (.int .i64 u) ∧ w'.cell? (ad.add (kk * 2)) = some (.int .i64 xd)) ∧ Below W0.heap.size W0 w') (first | exact hS _ (Below.refl _ _).drew | assumption | (have hh := ‹(_ ∧ _ ∧ _ ∧ _) ∧ Below W0.heap.size W0 _›; exact hS _ (hh.2.trans (hB.mono hh.2.size))))
      (first | (go_at_call 64; refine (a64 _).mono ?_; rintro e w' ⟨rfl, hB⟩) | (go_at_call 20; refine (a20 _ (by have hh := ‹(_ ∧ _ ∧ _ ∧ _) ∧ Below W0.heap.size W0 _›; exact Kd.C_below HR.out (hv.trans (hh.2.mono hv.size)))).mono ?_; rintro e w' ⟨rfl, hB⟩))
    rename_i hHeld
    have hV := hHeld.2
    clear hHeld hS hw a64 a20 hkn
    have hvf := hv.trans (hV.mono hv.size)
    clear hv hV t0 t1 t2 hc0
    by_cases hE : E = 0
    all_goals
      have qE := hE
      go_wp2
      all_goals
        go_ret
        refine ⟨⟨_, rfl, ?_, ?_⟩, hvf⟩ <;> first | omega | (split at * <;> omega) | ((repeat' split) <;> omega)
  · have d1 : decide (wh % ((l.length : Int) + 1) < (l.length : Int)) = false := decide_eq_false hkl
    go_enter Try.func18, Try.ntmps18
    go_wp2
    all_goals
      go_ret
      refine ⟨⟨_, rfl, ?_, ?_⟩, (Below.refl _ w).alloc (Nat.le_refl _) _⟩ <;> first | omega | (split at * <;> omega) | ((repeat' split) <;> omega)
end Go.Proofs.Ytleipbanadnchaa.C
end

section
/- CalendarInverse's function returns true for every input. -/
namespace Go.Proofs.Ytleipbanadnchaa.C
open Go.RowKit Go.Shelf Go.Maps Go.Proofs.YtleipbanadnchaaW.PrintWords Go.Proofs.YtleipbanadnchaaW.PrintLast Go.Proofs.YtleipbanadnchaaW.PrintMore
set_option linter.unusedVariables false
set_option linter.unusedSimpArgs false
theorem askE_in {b u s : Int} {l : List (Int × Int)} (hk : checkF b l u = 0) (h0 : 0 ≤ s) (h1 : s < beginF l u) : askE b l u s = 0 ∧ ∃ D, IsDay l u s D := by
  refine ⟨?_, IsDay.exists (checkF_right hk).2.2.2.2.2 h0 h1⟩
  unfold askE
  rw [if_pos hk, if_pos (knowsB_iff.2 ⟨h0, h1⟩)]
theorem askE_out {b u : Int} {l : List (Int × Int)} (hk : checkF b l u = 0) : askE b l u (beginF l u) = 6 := by
  unfold askE
  rw [if_pos hk, if_neg]
  intro h
  have := (knowsB_iff.1 h).2
  omega
set_option maxHeartbeats 8000000 in
set_option maxRecDepth 100000 in
theorem calendarInverse_w.calls (A : Option Addr) (c : Nat) (l : List Int) (wh by_ other : Int) (w : World) (hr : Kd.C (Kd.int .u8) w A l.length l) (hb : ∀ x ∈ l, 0 ≤ x ∧ x ≤ 255) (hlen : l.length ≤ 9223372036854775807) (hw0 : 0 ≤ wh) (hw1 : wh ≤ 255) :
    Calls Try.prog 5 #[.slice A l.length c, .int .u8 wh, .int .i64 by_, .int .i64 other] w fun e w' => e = .returned (.bool true) ∧ Below w.heap.size w w' := by
  have a16 := fun w h => made_calls A c l w h hb hlen
  have HR := Aside0.mk hr
  clear hr hb hlen
  go_enter Try.func5, Try.ntmps5
  go_wp2_with fail
  refine (a16 _ HR.out).mono ?_
  rintro en w1 ⟨⟨b, u, A1, c1, L, rfl, hk, hL, hC⟩, hv⟩
  clear a16 HR
  have hld := last_day hk
  have hbu := beginU hk
  have a17 := fun w h => Total_calls b u A1 c1 L w h
  unfold totalR at a17
  rw [if_pos hk] at a17
  obtain ⟨tot, htot⟩ : ∃ tot, beginF L u = tot := ⟨_, rfl⟩
  rw [htot] at hld hbu a17
  have HK := Aside0.mk hk
  have HT := Aside0.mk htot
  have HLD := Aside0.mk hld
  have ht1 : 1 ≤ tot := hld.1
  have ht2 := hbu.2
  have a18 := fun by_ w h => near_calls b u A1 c1 L tot wh by_ w h hk ht1 ht2 hw0 hw1
  clear hk hld hbu htot
  simp only at a17
  go_wp2_with fail
  obtain ⟨w2, hw2⟩ : ∃ w2, w1.alloc (.cells #[.int .i64 b, .slice A1 L.length c1, .int .i64 u] 28) = w2 := ⟨_, rfl⟩
  try rw [hw2]
  have hB : Below w1.heap.size w1 w2 := by rw [← hw2]; exact (Below.refl _ w1).alloc (Nat.le_refl _) _
  have kx : w2.heap[w1.heap.size]? = some (.cells #[.int .i64 b, .slice A1 L.length c1, .int .i64 u] 28 (0, 0)) := by rw [← hw2]; exact al_new _ _ _ rfl
  have o0 : w2.cell? ⟨w1.heap.size, 0, none⟩ = some (.int .i64 b) := blk_cell kx 0
  have o1 : w2.cell? ⟨w1.heap.size, 1, none⟩ = some (.slice A1 L.length c1) := blk_cell kx 1
  have o2 : w2.cell? ⟨w1.heap.size, 2, none⟩ = some (.int .i64 u) := blk_cell kx 2
  replace hC := Kd.C_below hC hB
  replace hv := hv.trans (hB.mono hv.size)
  clear hB hw2 kx
  refine (a17 _ hC).mono ?_
  rintro en w3 ⟨rfl, hB⟩
  replace o0 := cell_on hB o0
  replace o1 := cell_on hB o1
  replace o2 := cell_on hB o2
  replace hC := Kd.C_below hC hB
  replace hv := hv.trans (hB.mono hv.size)
  clear hB a17
  have dt : decide (tot < 1) = false := decide_eq_false (by omega)
  go_wp2_with fail
  have hS : ∀ w', Below w3.heap.size w3 w' → ((w'.cell? ⟨w1.heap.size, 0, none⟩ = some (.int .i64 b) ∧ w'.cell? ⟨w1.heap.size, 1, none⟩ = some (.slice A1 L.length c1) ∧ w'.cell? ⟨w1.heap.size, 2, none⟩ = some (.int .i64 u)) ∧ Below w3.heap.size w3 w') := fun w' hB => ⟨⟨cell_on hB o0, cell_on hB o1, cell_on hB o2⟩, hB⟩
  go_region_held3 (fun w' => (w'.cell? ⟨w1.heap.size, 0, none⟩ = some (.int .i64 b) ∧ w'.cell? ⟨w1.heap.size, 1, none⟩ = some (.slice A1 L.length c1) ∧ w'.cell? ⟨w1.heap.size, 2, none⟩ = some (.int .i64 u)) ∧ Below w3.heap.size w3 w') (first | exact hS _ (Below.refl _ _).drew | assumption | (have hh := ‹(_ ∧ _ ∧ _) ∧ Below w3.heap.size w3 _›; exact hS _ (hh.2.trans (hB.mono hh.2.size))))
    (first | (go_at_call 18; refine (a18 _ _ (by have hh := ‹(_ ∧ _ ∧ _) ∧ Below w3.heap.size w3 _›; exact Kd.C_below hC hh.2)).mono ?_; rintro e w' ⟨⟨r, rfl, hr0, hr1⟩, hB⟩))
  rename_i wq hBq ra ha0 ha1 hHeld
  have hB' := hHeld.2
  clear hHeld hS hB hBq a18
  replace o0 := cell_on hB' o0
  replace o1 := cell_on hB' o1
  replace o2 := cell_on hB' o2
  replace hC := Kd.C_below hC hB'
  replace hv := hv.trans (hB'.mono hv.size)
  clear hB' dt
  obtain ⟨eA, D, hD⟩ := askE_in (s := ra) HK.out ha0 (by rw [HT.out]; omega)
  obtain ⟨eB, E, hE⟩ := askE_in (s := r) HK.out hr0 (by rw [HT.out]; omega)
  obtain ⟨eL, _⟩ := askE_in (s := tot - 1) HK.out (by omega) (by rw [HT.out]; omega)
  have eT := askE_out HK.out
  rw [HT.out] at eT
  have hR := (checkF_right HK.out).2.2.2.2.2
  have hu := (checkF_right HK.out).2.2.2.1
  have a19 := fun w h => Dates_ok b u A1 c1 L ra D w h eA hD
  have b19 := fun w h => Dates_ok b u A1 c1 L r E w h eB hE
  have c19 := fun w h => Dates_err b u A1 c1 L tot w h (by rw [eT]; decide)
  have hLD := HLD.out.2
  have d19 := fun w h => Dates_ok b u A1 c1 L (tot - 1) (u - 1) w h eL hLD.1
  rw [eT] at c19
  rw [hLD.2.1, hLD.2.2] at d19
  have a20 := fun w h => Seconds_calls b u A1 c1 L (cY D) (cM D) (cD D) (ckH (ra - beginF L D)) (ckM (ra - beginF L D)) (ckS (ra - beginF L D)) w h
  rw [seconds_of_date HK.out hD] at a20
  have a21 := fun w => before_calls (cY D) (cM D) (cD D) (ckH (ra - beginF L D)) (ckM (ra - beginF L D)) (ckS (ra - beginF L D)) (cY E) (cM E) (cD E) (ckH (r - beginF L E)) (ckM (r - beginF L E)) (ckS (r - beginF L E)) w
  have hord := order_of_dates hu hR hD hE
  unfold dateL at hord
  rw [hord] at a21
  clear hord hR hD hE eA eB eL eT hLD hu
  simp only at a20
  generalize ckH (ra - beginF L D) = p3 at *
  generalize ckM (ra - beginF L D) = p4 at *
  generalize ckS (ra - beginF L D) = p5 at *
  generalize ckH (r - beginF L E) = q3 at *
  generalize ckM (r - beginF L E) = q4 at *
  generalize ckS (r - beginF L E) = q5 at *
  generalize ckS (tot - 1 - beginF L (u - 1)) = l5 at *
  generalize cY D = p0 at *
  generalize cM D = p1 at *
  generalize cD D = p2 at *
  generalize cY E = q0 at *
  generalize cM E = q1 at *
  generalize cD E = q2 at *
  generalize cY (u - 1) = l0 at *
  generalize cM (u - 1) = l1 at *
  generalize cD (u - 1) = l2 at *
  have hself : (ra == ra) = true := by simp
  rename World => w4
  go_wp2_with fail
  refine (a19 _ hC).mono ?_
  rintro en w5 ⟨rfl, hB⟩
  replace o0 := cell_on hB o0
  replace o1 := cell_on hB o1
  replace o2 := cell_on hB o2
  replace hC := Kd.C_below hC hB
  replace hv := hv.trans (hB.mono hv.size)
  clear hB
  have hzo0 := World.block_lt_of_cell? _ _ o0
  simp only at hzo0
  go_wp2_with fail
  obtain ⟨w6, hw6⟩ : ∃ w6, w5.alloc (.cells #[.int .i64 p0, .int .i64 p1, .int .i64 p2, .int .i64 p3, .int .i64 p4, .int .i64 p5] 30) = w6 := ⟨_, rfl⟩
  try rw [hw6]
  have hB : Below w5.heap.size w5 w6 := by rw [← hw6]; exact (Below.refl _ w5).alloc (Nat.le_refl _) _
  have kx : w6.heap[w5.heap.size]? = some (.cells #[.int .i64 p0, .int .i64 p1, .int .i64 p2, .int .i64 p3, .int .i64 p4, .int .i64 p5] 30 (0, 0)) := by rw [← hw6]; exact al_new _ _ _ rfl
  replace o0 := cell_on hB o0
  replace o1 := cell_on hB o1
  replace o2 := cell_on hB o2
  replace hC := Kd.C_below hC hB
  replace hv := hv.trans (hB.mono hv.size)
  have x0 : w6.cell? ⟨w5.heap.size, 0, none⟩ = some (.int .i64 p0) := blk_cell kx 0
  have x1 : w6.cell? ⟨w5.heap.size, 1, none⟩ = some (.int .i64 p1) := blk_cell kx 1
  have x2 : w6.cell? ⟨w5.heap.size, 2, none⟩ = some (.int .i64 p2) := blk_cell kx 2
  have x3 : w6.cell? ⟨w5.heap.size, 3, none⟩ = some (.int .i64 p3) := blk_cell kx 3
  have x4 : w6.cell? ⟨w5.heap.size, 4, none⟩ = some (.int .i64 p4) := blk_cell kx 4
  have x5 : w6.cell? ⟨w5.heap.size, 5, none⟩ = some (.int .i64 p5) := blk_cell kx 5
  clear hB hw6 kx hzo0
  refine (b19 _ hC).mono ?_
  rintro en w7 ⟨rfl, hB⟩
  replace o0 := cell_on hB o0
  replace o1 := cell_on hB o1
  replace o2 := cell_on hB o2
  replace x0 := cell_on hB x0
  replace x1 := cell_on hB x1
  replace x2 := cell_on hB x2
  replace x3 := cell_on hB x3
  replace x4 := cell_on hB x4
  replace x5 := cell_on hB x5
  replace hC := Kd.C_below hC hB
  replace hv := hv.trans (hB.mono hv.size)
  clear hB
  have hzo0 := World.block_lt_of_cell? _ _ o0
  have hzx0 := World.block_lt_of_cell? _ _ x0
  simp only at hzo0 hzx0
  go_wp2_with fail
  obtain ⟨w8, hw8⟩ : ∃ w8, w7.alloc (.cells #[.int .i64 q0, .int .i64 q1, .int .i64 q2, .int .i64 q3, .int .i64 q4, .int .i64 q5] 30) = w8 := ⟨_, rfl⟩
  try rw [hw8]
  have hB : Below w7.heap.size w7 w8 := by rw [← hw8]; exact (Below.refl _ w7).alloc (Nat.le_refl _) _
  have kx : w8.heap[w7.heap.size]? = some (.cells #[.int .i64 q0, .int .i64 q1, .int .i64 q2, .int .i64 q3, .int .i64 q4, .int .i64 q5] 30 (0, 0)) := by rw [← hw8]; exact al_new _ _ _ rfl
  replace o0 := cell_on hB o0
  replace o1 := cell_on hB o1
  replace o2 := cell_on hB o2
  replace x0 := cell_on hB x0
  replace x1 := cell_on hB x1
  replace x2 := cell_on hB x2
  replace x3 := cell_on hB x3
  replace x4 := cell_on hB x4
  replace x5 := cell_on hB x5
  replace hC := Kd.C_below hC hB
  replace hv := hv.trans (hB.mono hv.size)
  have y0 : w8.cell? ⟨w7.heap.size, 0, none⟩ = some (.int .i64 q0) := blk_cell kx 0
  have y1 : w8.cell? ⟨w7.heap.size, 1, none⟩ = some (.int .i64 q1) := blk_cell kx 1
  have y2 : w8.cell? ⟨w7.heap.size, 2, none⟩ = some (.int .i64 q2) := blk_cell kx 2
  have y3 : w8.cell? ⟨w7.heap.size, 3, none⟩ = some (.int .i64 q3) := blk_cell kx 3
  have y4 : w8.cell? ⟨w7.heap.size, 4, none⟩ = some (.int .i64 q4) := blk_cell kx 4
  have y5 : w8.cell? ⟨w7.heap.size, 5, none⟩ = some (.int .i64 q5) := blk_cell kx 5
  clear hB hw8 kx hzo0 hzx0
  refine (a20 _ hC).mono ?_
  rintro en w9 ⟨rfl, hB⟩
  replace o0 := cell_on hB o0
  replace o1 := cell_on hB o1
  replace o2 := cell_on hB o2
  replace x0 := cell_on hB x0
  replace x1 := cell_on hB x1
  replace x2 := cell_on hB x2
  replace x3 := cell_on hB x3
  replace x4 := cell_on hB x4
  replace x5 := cell_on hB x5
  replace y0 := cell_on hB y0
  replace y1 := cell_on hB y1
  replace y2 := cell_on hB y2
  replace y3 := cell_on hB y3
  replace y4 := cell_on hB y4
  replace y5 := cell_on hB y5
  replace hC := Kd.C_below hC hB
  replace hv := hv.trans (hB.mono hv.size)
  clear hB
  go_wp2_with fail
  refine (a21 _).mono ?_
  rintro en w10 ⟨rfl, hB⟩
  replace o0 := cell_on hB o0
  replace o1 := cell_on hB o1
  replace o2 := cell_on hB o2
  replace x0 := cell_on hB x0
  replace x1 := cell_on hB x1
  replace x2 := cell_on hB x2
  replace x3 := cell_on hB x3
  replace x4 := cell_on hB x4
  replace x5 := cell_on hB x5
  replace y0 := cell_on hB y0
  replace y1 := cell_on hB y1
  replace y2 := cell_on hB y2
  replace y3 := cell_on hB y3
  replace y4 := cell_on hB y4
  replace y5 := cell_on hB y5
  replace hC := Kd.C_below hC hB
  replace hv := hv.trans (hB.mono hv.size)
  clear hB
  go_wp2_with fail
  refine (c19 _ hC).mono ?_
  rintro en w11 ⟨rfl, hB⟩
  replace o0 := cell_on hB o0
  replace o1 := cell_on hB o1
  replace o2 := cell_on hB o2
  replace x0 := cell_on hB x0
  replace x1 := cell_on hB x1
  replace x2 := cell_on hB x2
  replace x3 := cell_on hB x3
  replace x4 := cell_on hB x4
  replace x5 := cell_on hB x5
  replace y0 := cell_on hB y0
  replace y1 := cell_on hB y1
  replace y2 := cell_on hB y2
  replace y3 := cell_on hB y3
  replace y4 := cell_on hB y4
  replace y5 := cell_on hB y5
  replace hC := Kd.C_below hC hB
  replace hv := hv.trans (hB.mono hv.size)
  clear hB
  go_wp2_with fail
  refine (d19 _ hC).mono ?_
  rintro en w12 ⟨rfl, hB⟩
  replace o0 := cell_on hB o0
  replace o1 := cell_on hB o1
  replace o2 := cell_on hB o2
  replace x0 := cell_on hB x0
  replace x1 := cell_on hB x1
  replace x2 := cell_on hB x2
  replace x3 := cell_on hB x3
  replace x4 := cell_on hB x4
  replace x5 := cell_on hB x5
  replace y0 := cell_on hB y0
  replace y1 := cell_on hB y1
  replace y2 := cell_on hB y2
  replace y3 := cell_on hB y3
  replace y4 := cell_on hB y4
  replace y5 := cell_on hB y5
  replace hC := Kd.C_below hC hB
  replace hv := hv.trans (hB.mono hv.size)
  clear hB
  have hzo0 := World.block_lt_of_cell? _ _ o0
  have hzx0 := World.block_lt_of_cell? _ _ x0
  have hzy0 := World.block_lt_of_cell? _ _ y0
  simp only at hzo0 hzx0 hzy0
  go_wp2_with fail
  have hv13 := hv.alloc hv.size (.cells #[.int .i64 l0, .int .i64 l1, .int .i64 l2, .int .i64 23, .int .i64 59, .int .i64 l5] 30)
  refine (awake_calls _).mono ?_
  rintro en w13 ⟨rfl, hB⟩
  go_wp2
  go_ret
  exact ⟨rfl, hv13.trans (hB.mono (by have := hv.size; simp; omega))⟩
end Go.Proofs.Ytleipbanadnchaa.C
end
