/- Copies and comparisons of rows of numbers, for the walks of the steering chapter. -/
import Derived.Test.YtcaekmalkbaldaaPm
import Derived.Test.YtcaekmalkbaldaaMsc
namespace Go.Proofs.Ytcaekmalkbaldaa.M
open Go.RowKit Go.Shelf Go.Proofs.YtcaekmalkbaldaaW.PrintWords Go.Proofs.YtcaekmalkbaldaaW.PrintLast Go.Proofs.YtcaekmalkbaldaaW.PrintMore
set_option linter.unusedVariables false
set_option linter.unusedSimpArgs false
theorem same_l0 (l : List Int) (hl : l.length ≤ 1000000) : ∀ (d i : Nat), i + d = l.length → ∀ k, d < k → meridiankit_SameInts.l0 k l l (i : Int) = some true
  | 0, i, hd, k, hk => by
    obtain ⟨k, rfl⟩ : ∃ j, k = j + 1 := ⟨k - 1, by omega⟩
    unfold meridiankit_SameInts.l0
    rw [if_neg (by omega)]
  | d + 1, i, hd, k, hk => by
    obtain ⟨k, rfl⟩ : ∃ j, k = j + 1 := ⟨k - 1, by omega⟩
    have ih := same_l0 l hl d (i + 1) (by omega) k (by omega)
    unfold meridiankit_SameInts.l0
    rw [if_pos (by omega), if_pos (by omega), if_pos (by omega), if_pos rfl, wrap_small _ (by omega) (by omega)]
    exact ih
theorem same_f (l : List Int) (hl : l.length ≤ 1000000) : ∀ k, l.length < k → meridiankit_SameInts.f k l l = some true := fun k hk => by
  unfold meridiankit_SameInts.f
  rw [if_pos rfl]
  exact same_l0 l hl l.length 0 (by omega) k hk
theorem copy_f (l : List Int) (hl : l.length ≤ 1000000) : meridiankit_CopyInts.f l = some l := by
  have h : ([] : List Int).length + l.length < 17592186044416 := by rw [List.length_nil]; omega
  unfold meridiankit_CopyInts.f
  rw [if_pos h, List.nil_append]
abbrev pl (L R S N : Int) : Value := .agg #[.int .i64 L, .int .i64 R, .int .i64 S, .int .i64 N]
theorem cw_copy (A : Option Addr) (cap : Nat) (l : List Int) (hl : l.length ≤ 1000000) (W : World) (hr : Kd.C (Kd.int .i64) W A l.length l) (hc : l.length ≤ cap) : Calls Try.prog 22 #[.slice A l.length cap] W fun e w' => ∃ (A : Option Addr) (cap : Nat), e = .returned (.slice A l.length cap) ∧ (l.length ≤ cap ∧ Kd.C (Kd.int .i64) w' A l.length l) ∧ Below W.heap.size W w' := by
  refine (meridiankit_CopyInts.calls A cap l l W hr hc (copy_f l hl)).mono ?_
  rintro e w' ⟨v0, rfl, hR, hB⟩
  obtain ⟨A, cap, rfl, h1, h2⟩ := Kd.R_reads hR
  exact ⟨A, cap, rfl, ⟨h1, h2⟩, hB⟩
theorem cw_same (A B : Option Addr) (ca cb : Nat) (l : List Int) (hl : l.length ≤ 1000000) (W : World) (ha : Kd.C (Kd.int .i64) W A l.length l) (hca : l.length ≤ ca) (hb : Kd.C (Kd.int .i64) W B l.length l) (hcb : l.length ≤ cb) :
    Calls Try.prog 18 #[.slice A l.length ca, .slice B l.length cb] W fun e w' => e = .returned (.bool true) ∧ Below W.heap.size W w' := by
  refine (meridiankit_SameInts.calls (l.length + 1) A ca l B cb l true W ha hca hb hcb (same_f l hl _ (by omega))).mono ?_
  rintro e w' ⟨rfl, h⟩
  exact ⟨rfl, h.below⟩
end Go.Proofs.Ytcaekmalkbaldaa.M
