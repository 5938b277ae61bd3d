/- Numbers made of any numbers. -/
import Derived.OwnWalk
import Derived.BigRegion
import Derived.Deep.RegionHeld3
import Derived.Test.YtlfnnalepdjagaaDoorAc
namespace Go.Proofs.YtlfnnalepdjagaaDoor.C
open Go.RowKit Go.Shelf Go.Maps Go.Proofs.YtlfnnalepdjagaaDoorW.PrintWords Go.Proofs.YtlfnnalepdjagaaDoorW.PrintLast Go.Proofs.YtlfnnalepdjagaaDoorW.PrintMore
set_option linter.unusedVariables false
set_option linter.unusedSimpArgs false
/-- A second, made of any number. -/
def posF (n : Int) : Int := ((n.tmod 1000001).natAbs : Int)
theorem posF_b (n : Int) : 0 ≤ posF n ∧ posF n ≤ 1000000 := by
  unfold posF
  have h1 := Int.tmod_lt_of_pos n (b := 1000001) (by omega)
  have h2 := Int.lt_tmod_of_pos n (b := 1000001) (by omega)
  omega
theorem tmod_b {n m : Int} (hm : 0 ≤ m) : -m ≤ n.tmod (m + 1) ∧ n.tmod (m + 1) ≤ m := by
  have h1 := Int.tmod_lt_of_pos n (b := m + 1) (by omega)
  have h2 := Int.lt_tmod_of_pos n (b := m + 1) (by omega)
  omega
set_option maxHeartbeats 4000000 in
set_option maxRecDepth 100000 in
theorem pos_calls (n : Int) (w : World) : Calls Tryd.prog 17 #[.int .i64 n] w fun e w' => e = .returned (.int .i64 (posF n)) ∧ Below w.heap.size w w' := by
  have hv := Below.refl w.heap.size w
  have h1 := Int.tmod_lt_of_pos n (b := 1000001) (by omega)
  have h2 := Int.lt_tmod_of_pos n (b := 1000001) (by omega)
  unfold posF
  generalize hr : n.tmod 1000001 = r at *
  have e1 := wr r (by omega) (by omega)
  have e2 := wr (-r) (by omega) (by omega)
  by_cases h : r < 0
  · have d : decide (r < 0) = true := decide_eq_true h
    rw [show ((r.natAbs : Nat) : Int) = -r by omega]
    clear h1 h2 h
    go_enter Tryd.func17, Tryd.ntmps17
    go_wp2
    go_ret
    exact ⟨rfl, hv⟩
  · have d : decide (r < 0) = false := decide_eq_false h
    rw [show ((r.natAbs : Nat) : Int) = r by omega]
    clear h1 h2 h
    go_enter Tryd.func17, Tryd.ntmps17
    go_wp2
    go_ret
    exact ⟨rfl, hv⟩
set_option maxHeartbeats 4000000 in
set_option maxRecDepth 100000 in
theorem bounded_calls (n m : Int) (w : World) (hm : 0 ≤ m ∧ m ≤ 1000000000000000) : Calls Tryd.prog 16 #[.int .i64 n, .int .i64 m] w fun e w' => e = .returned (.int .i64 (n.tmod (m + 1))) ∧ Below w.heap.size w w' := by
  have hv := Below.refl w.heap.size w
  have hb := tmod_b (n := n) hm.1
  have e0 := wr (m + 1) (by omega) (by omega)
  have d0 : m + 1 ≠ 0 := by omega
  have e1 := wr (n.tmod (m + 1)) (by omega) (by omega)
  generalize hr : n.tmod (m + 1) = r at *
  clear hb hm
  go_enter Tryd.func16, Tryd.ntmps16
  go_wp2
  all_goals first | (rename_i h0; exact absurd h0 d0) | skip
  go_ret
  exact ⟨rfl, hv⟩
set_option maxHeartbeats 4000000 in
set_option maxRecDepth 100000 in
theorem lower_calls (n : Int) (w : World) (hn : -9000000000000000000 ≤ n ∧ n ≤ 9000000000000000000) : Calls Tryd.prog 19 #[.int .i64 n] w fun e w' => e = .returned (.int .i64 (n / 1000)) ∧ Below w.heap.size w w' := by
  have hv := Below.refl w.heap.size w
  have h1 := tdiv_floor (a := n) (b := 1000) (by omega)
  have h3 := Int.tmod_add_mul_tdiv n 1000
  have h4 := Int.tmod_lt_of_pos n (b := 1000) (by omega)
  have h5 := Int.lt_tmod_of_pos n (b := 1000) (by omega)
  generalize hq : n.tdiv 1000 = q at *
  generalize n.tmod 1000 = r at *
  have e1 := wr q (by omega) (by omega)
  have e2 := wr (q * 1000) (by omega) (by omega)
  have e3 := wr (q - 1) (by omega) (by omega)
  by_cases h : q * 1000 > n
  · have d : decide (q * 1000 > n) = true := decide_eq_true h
    have d' : decide (n < q * 1000) = true := decide_eq_true h
    rw [show n / 1000 = q - 1 by omega]
    clear h1 h3 h4 h5 h hn
    go_enter Tryd.func19, Tryd.ntmps19
    go_wp2
    go_ret
    exact ⟨rfl, hv⟩
  · have d : decide (q * 1000 > n) = false := decide_eq_false h
    have d' : decide (n < q * 1000) = false := decide_eq_false h
    rw [show n / 1000 = q by omega]
    clear h1 h3 h4 h5 h hn
    go_enter Tryd.func19, Tryd.ntmps19
    go_wp2
    go_ret
    exact ⟨rfl, hv⟩
end Go.Proofs.YtlfnnalepdjagaaDoor.C
