/- SameInts of equal lists. -/
import Derived.OwnWalk
import Derived.BigRegion
import Derived.BigQuiet
import Derived.Deep.QuietTactic
import Derived.WalkKit
import Derived.WalkSmall
import Derived.Deep.RegionHeld3
import Derived.Test.YtlfnnalepdjagaaDoorAh
namespace Go.Proofs.YtlfnnalepdjagaaDoor.C
open Go.RowKit Go.Shelf Go.Maps Go.Proofs.YtlfnnalepdjagaaDoorW.PrintWords Go.Proofs.YtlfnnalepdjagaaDoorW.PrintLast Go.Proofs.YtlfnnalepdjagaaDoorW.PrintMore
set_option linter.unusedVariables false
set_option linter.unusedSimpArgs false
abbrev kI : Kd Int := Kd.int .i64
theorem C_int {w : World} {A : Option Addr} {n : Nat} {l : List Int} (h : Kd.C kI w A n l) (k : Nat) (hk : k < l.length) (hn : k < n) :
    ∃ ad, A = some ad ∧ w.cell? (ad.add k) = some (.int .i64 l[k]) := by
  obtain ⟨ad, c, e, hs, hr, hc⟩ := ReadsRow.get_ h (0 : Int) k (by omega) (by omega)
  have hx : l.getD (Int.toNat (k : Int)) 0 = l[k] := by simp [List.getD_eq_getElem?_getD, hk]
  rw [hx] at hr
  obtain rfl : c = [.int .i64 l[k]] := hr
  have := hc 0 _ rfl
  refine ⟨ad, e, ?_⟩
  have e1 : kI.sz = 1 := rfl
  rw [e1] at this
  simpa using this
set_option maxHeartbeats 4000000 in
set_option maxRecDepth 100000 in
theorem sameInts_eq (A1 A2 : Option Addr) (c1 c2 : Nat) (l : List Int) (w : World) (h1 : Kd.C kI w A1 l.length l) (h2 : Kd.C kI w A2 l.length l) :
    Calls Tryd.prog 37 #[.slice A1 l.length c1, .slice A2 l.length c2] w fun e w' => e = .returned (.bool true) ∧ Below w.heap.size w w' := by
  have hll : l.length ≤ 9223372036854775807 := h1.2.1
  have H1 := Aside0.mk h1
  have H2 := Aside0.mk h2
  clear h1 h2
  go_enter Tryd.func37, Tryd.ntmps37
  go_wp2
  go_loopw [5] (fun v wr => ∃ i : Nat, i ≤ l.length ∧ v = .int .i64 i ∧ Aside0 (Below w.heap.size w wr)) (fun v _ => l.length - (intOf v).toNat)
  case atStart => exact ⟨0, Nat.zero_le _, rfl, ⟨Below.refl _ _⟩⟩
  case round =>
    obtain ⟨i, hi, rfl, HB⟩ := hrel
    by_cases hlt : i < l.length
    · have dlt : (i : Int) < (l.length : Int) := by omega
      obtain ⟨a1, rfl, x1⟩ := C_int (Kd.C_below H1.out HB.out) i hlt hlt
      obtain ⟨a2, rfl, x2⟩ := C_int (Kd.C_below H2.out HB.out) i hlt hlt
      obtain ⟨v, hv⟩ : ∃ v, l[i] = v := ⟨_, rfl⟩
      rw [hv] at x1 x2
      clear hv
      go_wp2_with fail
      go_quiet (fail)
      go_wp2
      go_roundw
      case rel => exact ⟨i + 1, by omega, by go_num, ⟨below_drewN HB.out _⟩⟩
      case measure => simp [intOf]; omega
    · have d1 : ¬ (i : Int) < (l.length : Int) := by omega
      go_wp2
      go_ret
      exact ⟨rfl, HB.out⟩
end Go.Proofs.YtlfnnalepdjagaaDoor.C
