/- Contracts of slices.Compare and before, by hand. -/
import Derived.OwnWalk
import Derived.Test.YtleipbanadnchaaFa
import Derived.Test.YtleipbanadnchaaDe
import Derived.Test.YtleipbanadnchaaCp
namespace Go.Proofs.Ytleipbanadnchaa.C
open Go.RowKit Go.Shelf Go.Maps Go.Proofs.YtleipbanadnchaaW.PrintWords Go.Proofs.YtleipbanadnchaaW.PrintLast Go.Proofs.YtleipbanadnchaaW.PrintMore
set_option linter.unusedVariables false
set_option linter.unusedSimpArgs false
theorem isNaN_calls (x : Int) (w : World) : Calls Try.prog 121 #[.int .i64 x] w fun e w' => e = .returned (.bool false) ∧ w' = w := by
  have q1 : (x == x) = true := by simp
  have q2 : (x != x) = false := by simp
  go_enter Try.func121, Try.ntmps121
  go_wp2
  go_ret
  exact ⟨rfl, rfl⟩
/-- Two numbers compared. -/
def cmp1 (x y : Int) : Int := if x < y then -1 else if y < x then 1 else 0
theorem cmpCompare_calls (x y : Int) (w : World) : Calls Try.prog 117 #[.int .i64 x, .int .i64 y] w fun e w' => e = .returned (.int .i64 (cmp1 x y)) ∧ w' = w := by
  have a := fun w => isNaN_calls x w
  have b := fun w => isNaN_calls y w
  unfold cmp1
  by_cases h1 : x < y
  · have d1 : decide (x < y) = true := decide_eq_true h1
    rw [if_pos h1]
    go_enter Try.func117, Try.ntmps117
    go_wp2_with fail
    refine (a _).mono ?_
    rintro en w1 ⟨rfl, rfl⟩
    go_wp2_with fail
    refine (b _).mono ?_
    rintro en w2 ⟨rfl, rfl⟩
    go_wp2
    go_ret
    exact ⟨rfl, rfl⟩
  · rw [if_neg h1]
    have d1 : decide (x < y) = false := decide_eq_false h1
    by_cases h2 : y < x
    · have d2 : decide (y < x) = true := decide_eq_true h2
      rw [if_pos h2]
      go_enter Try.func117, Try.ntmps117
      go_wp2_with fail
      refine (a _).mono ?_
      rintro en w1 ⟨rfl, rfl⟩
      go_wp2_with fail
      refine (b _).mono ?_
      rintro en w2 ⟨rfl, rfl⟩
      go_wp2
      go_ret
      exact ⟨rfl, rfl⟩
    · have d2 : decide (y < x) = false := decide_eq_false h2
      rw [if_neg h2]
      go_enter Try.func117, Try.ntmps117
      go_wp2_with fail
      refine (a _).mono ?_
      rintro en w1 ⟨rfl, rfl⟩
      go_wp2_with fail
      refine (b _).mono ?_
      rintro en w2 ⟨rfl, rfl⟩
      go_wp2
      go_ret
      exact ⟨rfl, rfl⟩
theorem cmpF_step (x y : Int) (l m : List Int) : (cmp1 x y = 0 → cmpF (x :: l) (y :: m) = cmpF l m) ∧ (cmp1 x y ≠ 0 → cmpF (x :: l) (y :: m) = cmp1 x y) := by
  unfold cmp1
  simp only [cmpF]
  constructor
  · intro h
    split at h
    · cases h
    · rename_i h1
      split at h
      · cases h
      · rename_i h2; rw [if_neg h1, if_neg h2]
  · intro h
    split at h
    · rename_i h1; rw [if_pos h1, if_pos h1]
    · rename_i h1
      split at h
      · rename_i h2; rw [if_neg h1, if_pos h2, if_neg h1, if_pos h2]
      · exact absurd rfl h
set_option maxHeartbeats 2000000 in
set_option maxRecDepth 100000 in
theorem compare_calls (A B : Option Addr) (c c' : Nat) (l m : List Int) (w : World) (hl : Kd.C (Kd.int .i64) w A l.length l) (hm : Kd.C (Kd.int .i64) w B l.length m) (he : l.length = m.length) (hlen : l.length ≤ 1000000) :
    Calls Try.prog 68 #[.slice A l.length c, .slice B l.length c'] w fun e w' => e = .returned (.int .i64 (cmpF l m)) ∧ w' = w := by
  have HL := Aside0.mk hl
  have HM := Aside0.mk hm
  have HE := Aside0.mk he
  clear hl hm he
  have dz : decide ((l.length : Int) < (l.length : Int)) = false := by simp
  go_enter Try.func68, Try.ntmps68
  go_wp2_with fail
  go_loopw [11] (fun v11 wr => ∃ i : Nat, i ≤ l.length ∧ v11 = .int .i64 i ∧ Aside0 (cmpF l m = cmpF (l.drop i) (m.drop i)) ∧ wr = w) (fun v _ => l.length - (intOf v).toNat)
  case atStart => exact ⟨0, by omega, rfl, ⟨rfl⟩, rfl⟩
  case round =>
    obtain ⟨i, hi, rfl, HT, rfl⟩ := hrel
    by_cases hlt : i < l.length
    · have hlt' : i < m.length := by have := HE.out; omega
      obtain ⟨ad, rfl, hc0⟩ := C_i64 HL.out i hlt hlt
      obtain ⟨ad', rfl, hc1⟩ := C_i64 HM.out i hlt' hlt
      have d1 : decide ((i : Int) < (l.length : Int)) = true := decide_eq_true (by omega)
      have d2 : decide ((l.length : Int) ≤ (i : Int)) = false := decide_eq_false (by omega)
      have d3 : (i : Int) < (l.length : Int) := by omega
      have hdr : l.drop i = l[i] :: l.drop (i + 1) := List.drop_eq_getElem_cons hlt
      have hdr' : m.drop i = m[i] :: m.drop (i + 1) := List.drop_eq_getElem_cons hlt'
      have HS := Aside0.mk (cmpF_step l[i] m[i] (l.drop (i + 1)) (m.drop (i + 1)))
      rw [hdr, hdr'] at HT
      generalize l[i] = x at *
      generalize m[i] = y at *
      have a117 := fun w => cmpCompare_calls x y w
      clear hdr hdr'
      by_cases hz : cmp1 x y = 0
      · rw [hz] at a117
        have HN : Aside0 (cmpF l m = cmpF (l.drop (i + 1)) (m.drop (i + 1))) := ⟨by rw [HT.out, HS.out.1 hz]⟩
        clear hz
        go_wp2_with fail
        refine (a117 _).mono ?_
        rintro en w1 ⟨rfl, rfl⟩
        go_wp2
        go_roundw
        case rel => exact ⟨i + 1, by omega, by go_num, HN, trivial⟩
        case measure => simp [intOf]; omega
      · have q1 : (cmp1 x y == 0) = false := beq_eq_false_iff_ne.2 hz
        have q2 : (cmp1 x y != 0) = true := bne_iff_ne.2 hz
        have HN : Aside0 (cmpF l m = cmp1 x y) := ⟨by rw [HT.out, HS.out.2 hz]⟩
        clear hz
        go_wp2_with fail
        refine (a117 _).mono ?_
        rintro en w1 ⟨rfl, rfl⟩
        go_wp2
        go_ret
        exact ⟨by rw [HN.out]; rfl, rfl⟩
    · obtain rfl : i = l.length := by omega
      have HN : Aside0 (cmpF l m = 0) := ⟨by rw [HT.out, List.drop_length, HE.out, List.drop_length]; rfl⟩
      go_wp2
      go_ret
      exact ⟨by rw [HN.out]; rfl, rfl⟩
end Go.Proofs.Ytleipbanadnchaa.C
