/- Contracts of slices.Equal, example and awake, by hand. -/
import Derived.OwnWalk
import Derived.Test.YtleipbanadnchaaCo
import Derived.Test.YtleipbanadnchaaCe
namespace Go.Proofs.Ytleipbanadnchaa.C
open Go.RowKit Go.Shelf Go.Maps Go.Proofs.YtleipbanadnchaaW.PrintWords Go.Proofs.YtleipbanadnchaaW.PrintLast Go.Proofs.YtleipbanadnchaaW.PrintMore
set_option linter.unusedVariables false
set_option linter.unusedSimpArgs false
theorem C_i64 {w : World} {A : Option Addr} {n : Nat} {l : List Int} (h : Kd.C (Kd.int .i64) w A n l) (k : Nat) (hk : k < l.length) (hn : k < n) : ∃ ad, A = some ad ∧ w.cell? (ad.add k) = some (.int .i64 l[k]) := by
  obtain ⟨ad, c, e, hs, hr, hc⟩ := ReadsRow.get_ h 0 k (by omega) (by omega)
  have hx : l.getD (Int.toNat (k : Int)) 0 = l[k] := by simp [List.getD_eq_getElem?_getD, hk]
  rw [hx] at hr
  obtain rfl : c = [.int .i64 l[k]] := hr
  have c0 := hc 0 _ rfl
  rw [show (Kd.int .i64).sz = 1 from rfl, show Int.toNat (k : Int) = k by simp] at c0
  exact ⟨ad, e, by simpa using c0⟩
set_option maxHeartbeats 4000000 in
set_option maxRecDepth 100000 in
theorem equal_calls (A B : Option Addr) (c c' : Nat) (l m : List Int) (w : World) (hl : Kd.C (Kd.int .i64) w A l.length l) (hm : Kd.C (Kd.int .i64) w B m.length m) (hlen : l.length ≤ 1000000000) (hlen' : m.length ≤ 1000000000) :
    Calls Try.prog 35 #[.slice A l.length c, .slice B m.length c'] w fun e w' => e = .returned (.bool (decide (l = m))) ∧ Below w.heap.size w w' := by
  have HL := Aside0.mk hl
  have HM := Aside0.mk hm
  clear hl hm
  by_cases he : l.length = m.length
  · have q1 : ((l.length : Int) == (m.length : Int)) = true := beq_iff_eq.2 (by omega)
    have q2 : ((l.length : Int) != (m.length : Int)) = false := by rw [bne, q1]; rfl
    have q3 : (l.length == m.length) = true := beq_iff_eq.2 he
    have q4 : (l.length != m.length) = false := by rw [bne, q3]; rfl
    have HE := Aside0.mk he
    clear he
    go_enter Try.func35, Try.ntmps35
    go_wp2
    go_loopw [13] (fun v13 wr => ∃ i : Nat, i ≤ l.length ∧ v13 = .int .i64 i ∧ Aside0 (l.take i = m.take i) ∧ Aside0 (Below w.heap.size w wr)) (fun v _ => l.length - (intOf v).toNat)
    case atStart => exact ⟨0, by omega, rfl, ⟨rfl⟩, ⟨Below.refl _ _⟩⟩
    case round =>
      obtain ⟨i, hi, rfl, HT, HW⟩ := hrel
      by_cases hlt : i < l.length
      · have hlt' : i < m.length := by have := HE.out; omega
        obtain ⟨ad, rfl, hc0⟩ := C_i64 (Kd.C_below HL.out HW.out) i hlt hlt
        obtain ⟨ad', rfl, hc1⟩ := C_i64 (Kd.C_below HM.out HW.out) i hlt' hlt'
        have d1 : decide ((i : Int) < (l.length : Int)) = true := decide_eq_true (by omega)
        have d2 : (i : Int) < (l.length : Int) := by omega
        have d3 : (i : Int) < (m.length : Int) := by omega
        by_cases hx : l[i] = m[i]
        · have HN : Aside0 (l.take (i + 1) = m.take (i + 1)) := ⟨by rw [List.take_add_one, List.take_add_one, HT.out, List.getElem?_eq_getElem hlt, List.getElem?_eq_getElem hlt', hx]⟩
          have q5 : (l[i] == m[i]) = true := beq_iff_eq.2 hx
          have q6 : (l[i] != m[i]) = false := by rw [bne, q5]; rfl
          generalize l[i] = x at *
          generalize m[i] = y at *
          clear hx
          go_wp2
          go_quiet (fail)
          try go_wp2
          go_roundw
          case rel => exact ⟨i + 1, by omega, by go_num, HN, ⟨by first | exact HW.out | exact pw_below_drewN HW.out _ | exact below_drew1 HW.out⟩⟩
          case measure => simp [intOf]; omega
        · have HN : Aside0 (decide (l = m) = false) := ⟨decide_eq_false (fun e => by subst e; exact hx rfl)⟩
          have q5 : (l[i] == m[i]) = false := beq_eq_false_iff_ne.2 hx
          have q6 : (l[i] != m[i]) = true := by rw [bne, q5]; rfl
          generalize l[i] = x at *
          generalize m[i] = y at *
          clear hx
          go_wp2
          go_quiet (fail)
          try go_wp2
          go_ret
          exact ⟨by rw [HN.out]; rfl, by first | exact HW.out | exact pw_below_drewN HW.out _ | exact below_drew1 HW.out⟩
      · obtain rfl : i = l.length := by omega
        have HN : Aside0 (decide (l = m) = true) := ⟨decide_eq_true (by have := HT.out; rw [List.take_length, HE.out, List.take_length] at this; exact this)⟩
        go_wp2
        go_ret
        exact ⟨by rw [HN.out]; rfl, HW.out⟩
  · have q1 : ((l.length : Int) == (m.length : Int)) = false := beq_eq_false_iff_ne.2 (by omega)
    have q2 : ((l.length : Int) != (m.length : Int)) = true := by rw [bne, q1]; rfl
    have q3 : (l.length == m.length) = false := beq_eq_false_iff_ne.2 he
    have q4 : (l.length != m.length) = true := by rw [bne, q3]; rfl
    have HN : Aside0 (decide (l = m) = false) := ⟨decide_eq_false (fun e => he (by rw [e]))⟩
    clear he
    go_enter Try.func35, Try.ntmps35
    go_wp2
    go_ret
    exact ⟨by rw [HN.out]; rfl, Below.refl _ _⟩
/-- The example's leaps. -/
def exL : List (Int × Int) := [(41498, 1), (41682, 1)]
theorem C_exL {w : World} {g : Nat} (h : w.heap[g]? = some (.cells #[.int .i64 41498, .int .i64 1, .int .i64 41682, .int .i64 1] 45 (0, 0))) : Kd.C kl w (some ⟨g, 0, none⟩) exL.length exL := by
  refine ⟨rfl, by decide, fun _ => ⟨_, rfl, fun j p hj => ?_⟩⟩
  have hk : ∀ x : Int × Int, kl.K w x [.int .i64 x.1, .int .i64 x.2] := fun x => ⟨[.int .i64 x.1], [.int .i64 x.2], rfl, rfl, rfl⟩
  have hlt := (List.getElem?_eq_some_iff.1 hj).1
  have h2 : j = 0 ∨ j = 1 := by simp [exL] at hlt; omega
  rcases h2 with rfl | rfl
  · obtain rfl : (41498, 1) = p := by simpa [exL] using hj
    refine ⟨_, rfl, hk _, fun i u hu => ?_⟩
    have hi := (List.getElem?_eq_some_iff.1 hu).1
    have h3 : i = 0 ∨ i = 1 := by simp at hi; omega
    rcases h3 with rfl | rfl
    · obtain rfl := Option.some.inj hu; exact blk_cell h 0
    · obtain rfl := Option.some.inj hu; exact blk_cell h 1
  · obtain rfl : (41682, 1) = p := by simpa [exL] using hj
    refine ⟨_, rfl, hk _, fun i u hu => ?_⟩
    have hi := (List.getElem?_eq_some_iff.1 hu).1
    have h3 : i = 0 ∨ i = 1 := by simp at hi; omega
    rcases h3 with rfl | rfl
    · obtain rfl := Option.some.inj hu; exact blk_cell h 2
    · obtain rfl := Option.some.inj hu; exact blk_cell h 3
theorem info28 : (Try.prog.info? 28).map (·.size) = some 3 := by kernel_rfl
theorem example_calls (w : World) :
    Calls Try.prog 50 #[] w fun e w' => ∃ A, e = .returned (tabV 10 A exL.length 2 42000) ∧ Kd.C kl w' A exL.length exL ∧ Below w.heap.size w w' := by
  go_enter Try.func50, Try.ntmps50
  go_wp2
  exact bodyPost_ret (results_cell_row rfl _ _ w.heap.size 28 _ (0, 0) _ rfl (al_old (al_new _ _ _ rfl)) Try.underlying28 rfl info28) rfl ⟨_, rfl, C_exL (al_new _ _ _ (by simp)), ((Below.refl _ _).alloc (Nat.le_refl _) _).alloc (by simp) _⟩
end Go.Proofs.Ytleipbanadnchaa.C
