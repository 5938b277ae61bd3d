/- Contracts of Extend's closure, slices.IndexFunc and Extend, by hand. -/
import Derived.OwnWalk
import Derived.Test.YtleipbanadnchaaFd
import Derived.Test.YtleipbanadnchaaEg
namespace Go.Proofs.Ytleipbanadnchaa.C
open Go.RowKit Go.Shelf Go.Maps Go.Proofs.YtleipbanadnchaaW.PrintWords Go.Proofs.YtleipbanadnchaaW.PrintLast Go.Proofs.YtleipbanadnchaaW.PrintMore
set_option linter.unusedVariables false
set_option linter.unusedSimpArgs false
theorem clone_calls2 (A : Option Addr) (c : Nat) (l : List (Int × Int)) (w : World) (hr : Kd.C kl w A l.length l) (hl : l.length ≤ 1000000) :
    Calls Try.prog 72 #[.slice A l.length c] w fun e w' => ∃ v', e = .returned v' ∧ w'.ownsRow w.heap.size 45 2 v' l.length (lcells l) ∧ Below w.heap.size w w' := by
  have q26 : ∀ (w : World) (a : Option Addr) (n c n' c' : Nat), (binOp .eql 26 (.slice a n c) (.slice none n' c')).run Try.prog w = .ok (.bool a.isNone) w := fun w a n c n' c' => Lib.run_eql_slice_nil w _ _ a n c n' c' Try.underlying26
  cases A with
  | none =>
    have hl0 : l = [] := by
      cases l with
      | nil => rfl
      | cons x l =>
        obtain ⟨ad, e, _⟩ := C_leap hr 0 (by simp) (by simp)
        cases e
    subst hl0
    clear hr
    go_enter Try.func72, Try.ntmps72
    go_wp2
    go_ret
    exact ⟨_, rfl, own_nil _ _ _ _, Below.refl _ _⟩
  | some ad => exact clone_calls (some ad) c l w hr hl (fun h => by cases h)
theorem later_calls (xd xs u : Int) (kb : Nat) (w : World) (hu : w.cell? ⟨kb, 2, none⟩ = some (.int .i64 u)) :
    Calls Try.prog 70 #[.agg #[.int .i64 xd, .int .i64 xs], .pointer (some ⟨kb, 0, none⟩)] w fun e w' => e = .returned (.bool (decide (u ≤ xd))) ∧ Below w.heap.size w w' := by
  have hlt : kb < w.heap.size := World.block_lt_of_cell? _ _ hu
  go_enter Try.func70, Try.ntmps70
  go_wp2
  go_ret
  exact ⟨rfl, (Below.refl _ w).alloc (Nat.le_refl _) _⟩
/-- The index of the first leap from a day on; -1. -/
def idxG (u : Int) : List (Int × Int) → Nat → Int
  | [], _ => -1
  | y :: l, i => if u ≤ y.1 then (i : Int) else idxG u l (i + 1)
set_option maxHeartbeats 1000000 in
set_option maxRecDepth 100000 in
theorem indexFunc_calls (A : Option Addr) (c : Nat) (l : List (Int × Int)) (u : Int) (kb : Nat) (w : World) (hl : Kd.C kl w A l.length l) (hlen : l.length ≤ 1000000) (hu : w.cell? ⟨kb, 2, none⟩ = some (.int .i64 u)) :
    Calls Try.prog 69 #[.slice A l.length c, .func (.func 70) #[] #[.pointer (some ⟨kb, 0, none⟩)]] w fun e w' => e = .returned (.int .i64 (idxG u l 0)) ∧ Below w.heap.size w w' := by
  have HL := Aside0.mk hl
  have HU := Aside0.mk hu
  have eg := enters_of (P := Try.prog) Try.func70 (by kernel_rfl) rfl
  clear hl hu
  go_enter Try.func69, Try.ntmps69
  go_wp2_with fail
  go_loopw [8] (fun v8 wr => ∃ i : Nat, i ≤ l.length ∧ v8 = .int .i64 i ∧ Aside0 (idxG u l 0 = idxG u (l.drop i) i) ∧ Aside0 (Below w.heap.size w wr)) (fun v _ => l.length - (intOf v).toNat)
  case atStart => exact ⟨0, by omega, rfl, ⟨rfl⟩, ⟨Below.refl _ _⟩⟩
  case round =>
    obtain ⟨i, hi, rfl, HT, HW⟩ := hrel
    by_cases hlt : i < l.length
    · obtain ⟨ad, rfl, hc0, hc1⟩ := C_leap (Kd.C_below HL.out HW.out) i hlt hlt
      have hdr : l.drop i = l[i] :: l.drop (i + 1) := List.drop_eq_getElem_cons hlt
      have hTT := HT.out
      rw [hdr] at hTT
      generalize l[i] = y at *
      obtain ⟨yd, ys⟩ := y
      simp only at hc0 hc1
      have d1 : decide ((i : Int) < (l.length : Int)) = true := decide_eq_true (by omega)
      have d2 : (i : Int) < (l.length : Int) := by omega
      have a70 := later_calls yd ys u kb wr (cell_on HW.out HU.out)
      by_cases hxy : u ≤ yd
      · have HN : Aside0 (idxG u l 0 = (i : Int)) := ⟨by rw [hTT]; unfold idxG; rw [if_pos hxy]⟩
        rw [decide_eq_true hxy] at a70
        clear hxy hdr hTT
        go_wp2_with fail
        refine a70.mono ?_
        rintro en w2 ⟨rfl, hB⟩
        have hv := HW.out.trans (hB.mono HW.out.size)
        clear hB
        go_wp2
        go_ret
        exact ⟨by rw [HN.out]; rfl, hv⟩
      · have HN : Aside0 (idxG u l 0 = idxG u (l.drop (i + 1)) (i + 1)) := ⟨by rw [hTT]; rw [idxG, if_neg hxy]⟩
        rw [decide_eq_false hxy] at a70
        clear hxy hdr hTT
        go_wp2_with fail
        refine a70.mono ?_
        rintro en w2 ⟨rfl, hB⟩
        have HV := Aside0.mk (HW.out.trans (hB.mono HW.out.size))
        clear hB
        go_wp2
        go_roundw
        case rel => exact ⟨i + 1, by omega, by go_num, HN, HV⟩
        case measure => simp [intOf]; omega
    · obtain rfl : i = l.length := by omega
      have HN : Aside0 (idxG u l 0 = -1) := ⟨by rw [HT.out, List.drop_length]; rfl⟩
      go_wp2
      go_ret
      exact ⟨by rw [HN.out]; rfl, HW.out⟩
end Go.Proofs.Ytleipbanadnchaa.C
