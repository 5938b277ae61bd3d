/- Lists of lists compared, by hand. -/
import Derived.OwnWalk
import Derived.BigRegion
import Derived.Deep.CutRange
import Derived.Deep.RegionHeld3
import Derived.Test.YtjgnadighdbjlaaDc
namespace Go.Proofs.Ytjgnadighdbjlaa.C
open Go.RowKit Go.Shelf Go.Maps Go.Proofs.YtjgnadighdbjlaaW.PrintWords Go.Proofs.YtjgnadighdbjlaaW.PrintLast Go.Proofs.YtjgnadighdbjlaaW.PrintMore
set_option linter.unusedVariables false
set_option linter.unusedSimpArgs false
set_option maxHeartbeats 2000000 in
set_option maxRecDepth 100000 in
theorem sameInts_calls (A1 A2 : Option Addr) (c1 c2 : Nat) (l1 l2 : List Int) (w : World) (h1 : Kd.C (Kd.int .i64) w A1 l1.length l1) (h2 : Kd.C (Kd.int .i64) w A2 l2.length l2) (hl : l1.length ≤ 1000000) :
    Calls Try.prog 28 #[.slice A1 l1.length c1, .slice A2 l2.length c2] w fun e w' => e = .returned (.bool (decide (l1 = l2))) ∧ Below w.heap.size w w' := by
  have H1 := Aside0.mk h1
  have H2 := Aside0.mk h2
  clear h1 h2
  by_cases hlen : l1.length = l2.length
  · have hq : ((l1.length : Int) == (l2.length : Int)) = true := beq_iff_eq.2 (by omega)
    have HLE := Aside0.mk hlen
    obtain ⟨n2, hn2⟩ : ∃ n2, l2.length = n2 := ⟨_, rfl⟩
    have HN2 := Aside0.mk hn2
    rw [hn2] at hq hlen H2 ⊢
    clear hn2
    have HB0 : Aside0 (Below w.heap.size w w) := ⟨Below.refl _ _⟩
    have hle2 : l1.length ≤ n2 := by omega
    clear hlen
    go_enter Try.func28, Try.ntmps28
    go_wp2_with fail
    go_loopw [5] (fun v5 wr => ∃ i : Nat, i ≤ l1.length ∧ v5 = .int .i64 i ∧ Aside0 (l1.take i = l2.take i) ∧ Aside0 (Below w.heap.size w wr)) (fun v5 _ => l1.length - (intOf v5).toNat)
    case atStart => exact ⟨0, by omega, by simp, ⟨by simp⟩, HB0⟩
    case round =>
      clear HB0
      obtain ⟨i, hi, rfl, HT, HB⟩ := hrel
      by_cases hlt : i < l1.length
      · have hlt2 : i < l2.length := by rw [HN2.out]; omega
        obtain ⟨a1, rfl, x1⟩ := C_int (Kd.C_below H1.out HB.out) i hlt
        obtain ⟨a2, rfl, x2⟩ := C_int (by have := Kd.C_below H2.out HB.out; rw [HN2.out]; exact this) i hlt2
        have hd1 : (i : Int) < (l1.length : Int) := by omega
        have hd2 : (i : Int) < (n2 : Int) := by omega
        have hi0 : (0 : Int) ≤ (i : Int) := by omega
        have hwi := wrp ((i : Int) + 1) (by omega) (by omega)
        have HTN : Aside0 ((l1[i] = l2[i] → l1.take (i + 1) = l2.take (i + 1)) ∧ (l1[i] ≠ l2[i] → l1 ≠ l2)) := ⟨fun h => by
          rw [List.take_add_one, List.take_add_one, List.getElem?_eq_getElem hlt, List.getElem?_eq_getElem hlt2, h, HT.out], fun h e => h (by subst e; rfl)⟩
        obtain ⟨v1, hv1⟩ : ∃ v, l1[i] = v := ⟨_, rfl⟩
        obtain ⟨v2, hv2⟩ : ∃ v, l2[i] = v := ⟨_, rfl⟩
        rw [hv1, hv2] at HTN
        rw [hv1] at x1
        rw [hv2] at x2
        clear hv1 hv2 HT hlt2
        by_cases heq : v1 = v2
        · have hqv : (v1 == v2) = true := beq_iff_eq.2 heq
          have HT2 := Aside0.mk (HTN.out.1 heq)
          clear heq HTN
          go_wp2_with fail
          go_region
          all_goals
            go_wp2
            go_roundw
            case rel => exact ⟨i + 1, by omega, by go_num, HT2, ⟨by first | exact HB.out.drew | exact HB.out⟩⟩
            case measure => simp [intOf]; omega
        · have hqv : (v1 == v2) = false := beq_eq_false_iff_ne.2 heq
          have HNE := Aside0.mk (HTN.out.2 heq)
          clear heq HTN
          go_wp2_with fail
          go_region
          all_goals
            go_wp2
            go_ret
            exact ⟨by rw [decide_eq_false HNE.out]; rfl, by first | exact HB.out.drew | exact HB.out⟩
      · have hd1 : ¬ (i : Int) < (l1.length : Int) := by omega
        have HEQ : Aside0 (l1 = l2) := ⟨by
          have h := HT.out
          rw [List.take_of_length_le (by omega), List.take_of_length_le (by rw [HN2.out]; have := HLE.out; have := HN2.out; omega)] at h
          exact h⟩
        go_wp2
        go_ret
        exact ⟨by rw [decide_eq_true HEQ.out]; rfl, HB.out⟩
  · have hq : ((l1.length : Int) == (l2.length : Int)) = false := beq_eq_false_iff_ne.2 (by omega)
    have HNE : Aside0 (l1 ≠ l2) := ⟨fun e => hlen (by rw [e])⟩
    clear hlen
    go_enter Try.func28, Try.ntmps28
    go_wp2
    go_ret
    exact ⟨by rw [decide_eq_false HNE.out]; rfl, Below.refl _ _⟩
theorem sameList_calls (A1 A2 : Option Addr) (c1 c2 : Nat) (l1 l2 : List Int) (w : World) (h1 : Kd.C (Kd.int .i64) w A1 l1.length l1) (h2 : Kd.C (Kd.int .i64) w A2 l2.length l2) (hl : l1.length ≤ 1000000) :
    Calls Try.prog 34 #[.slice A1 l1.length c1, .slice A2 l2.length c2] w fun e w' => e = .returned (.bool (decide (l1 = l2))) ∧ Below w.heap.size w w' := by
  have c1 := sameInts_calls A1 A2 c1 c2 l1 l2 w h1 h2 hl
  clear h1 h2
  generalize decide (l1 = l2) = b at *
  go_enter Try.func34, Try.ntmps34
  go_wp2_with fail
  refine c1.mono ?_
  rintro en w1 ⟨rfl, hB⟩
  go_wp2
  go_ret
  exact ⟨rfl, hB⟩
/-- A list of lists in memory. -/
structure LLm (W : World) (A : Option Addr) (L : List (List Int)) : Prop where
  cell : ∀ (i : Nat) (l : List Int), L[i]? = some l → ∃ ad B c, A = some ad ∧ W.cell? (ad.add i) = some (.slice B l.length c) ∧ Kd.C (Kd.int .i64) W B l.length l
theorem LLm.below {W X : World} {A : Option Addr} {L : List (List Int)} (h : LLm W A L) (hB : Below W.heap.size W X) : LLm X A L :=
  ⟨fun i l hl => by obtain ⟨ad, B, c, e, h1, h2⟩ := h.cell i l hl; exact ⟨ad, B, c, e, cell_on hB h1, Kd.C_below h2 hB⟩⟩
set_option maxHeartbeats 2000000 in
set_option maxRecDepth 100000 in
theorem sameLists_calls (A1 A2 : Option Addr) (c1 c2 : Nat) (L1 L2 : List (List Int)) (w : World) (h1 : LLm w A1 L1) (h2 : LLm w A2 L2) (hl : L1.length ≤ 1000) (hl2 : L2.length ≤ 1000) (hls : ∀ l ∈ L1, l.length ≤ 1000) :
    Calls Try.prog 13 #[.slice A1 L1.length c1, .slice A2 L2.length c2] w fun e w' => e = .returned (.bool (decide (L1 = L2))) ∧ Below w.heap.size w w' := by
  have H1 := Aside0.mk h1
  have H2 := Aside0.mk h2
  have HLS := Aside0.mk hls
  clear h1 h2 hls
  by_cases hlen : L1.length = L2.length
  · have hq : ((L1.length : Int) == (L2.length : Int)) = true := beq_iff_eq.2 (by omega)
    have HLE := Aside0.mk hlen
    obtain ⟨n2, hn2⟩ : ∃ n2, L2.length = n2 := ⟨_, rfl⟩
    have HN2 := Aside0.mk hn2
    rw [hn2] at hq hlen hl2 ⊢
    clear hn2
    have HB0 : Aside0 (Below w.heap.size w w) := ⟨Below.refl _ _⟩
    have hle2 : L1.length ≤ n2 := by omega
    clear hlen
    go_enter Try.func13, Try.ntmps13
    go_wp2_with fail
    generalize ((L1.length : Int) != (n2 : Int)) = bb
    clear hq
    go_loopw [5] (fun v5 wr => ∃ i : Nat, i ≤ L1.length ∧ v5 = .int .i64 i ∧ Aside0 (L1.take i = L2.take i) ∧ Aside0 (Below w.heap.size w wr)) (fun v5 _ => L1.length - (intOf v5).toNat)
    case atStart => exact ⟨0, by omega, by simp, ⟨by simp⟩, HB0⟩
    case round =>
      clear HB0
      obtain ⟨i, hi, rfl, HT, HB⟩ := hrel
      by_cases hlt : i < L1.length
      · have hlt2 : i < L2.length := by rw [HN2.out]; omega
        obtain ⟨a1, B1, k1, rfl, x1, C1⟩ := (H1.out.below HB.out).cell i _ (List.getElem?_eq_getElem hlt)
        obtain ⟨a2, B2, k2, rfl, x2, C2⟩ := (H2.out.below HB.out).cell i _ (List.getElem?_eq_getElem hlt2)
        have hd1 : (i : Int) < (L1.length : Int) := by omega
        have hd2 : (i : Int) < (n2 : Int) := by omega
        have hi0 : (0 : Int) ≤ (i : Int) := by omega
        have hwi := wrp ((i : Int) + 1) (by omega) (by omega)
        have hls1 := HLS.out _ (List.getElem_mem hlt)
        have HTN : Aside0 ((L1[i] = L2[i] → L1.take (i + 1) = L2.take (i + 1)) ∧ (L1[i] ≠ L2[i] → L1 ≠ L2)) := ⟨fun h => by
          rw [List.take_add_one, List.take_add_one, List.getElem?_eq_getElem hlt, List.getElem?_eq_getElem hlt2, h, HT.out], fun h e => h (by subst e; rfl)⟩
        obtain ⟨v1, hv1⟩ : ∃ v, L1[i] = v := ⟨_, rfl⟩
        obtain ⟨v2, hv2⟩ : ∃ v, L2[i] = v := ⟨_, rfl⟩
        rw [hv1, hv2] at HTN
        rw [hv1] at x1 C1 hls1
        rw [hv2] at x2 C2
        have c3 := fun (W : World) (hB : Below wr.heap.size wr W) => sameList_calls B1 B2 k1 k2 v1 v2 W (Kd.C_below C1 hB) (Kd.C_below C2 hB) (by omega)
        obtain ⟨m1, hm1⟩ : ∃ m, v1.length = m := ⟨_, rfl⟩
        obtain ⟨m2, hm2⟩ : ∃ m, v2.length = m := ⟨_, rfl⟩
        rw [hm1] at x1
        rw [hm2] at x2
        rw [hm1, hm2] at c3
        clear hv1 hv2 HT hlt2 C1 C2 hm1 hm2 hls1
        by_cases heq : v1 = v2
        · rw [decide_eq_true heq] at c3
          have HT2 := Aside0.mk (HTN.out.1 heq)
          clear heq HTN
          go_wp2_with fail
          have hS : ∀ w', Below wr.heap.size wr w' → ((w'.cell? (a1.add i) = some (.slice B1 m1 k1) ∧ w'.cell? (a2.add i) = some (.slice B2 m2 k2)) ∧ Below wr.heap.size wr w') := fun w' hB => ⟨⟨cell_on hB x1, cell_on hB x2⟩, hB⟩
          go_region_held3 (fun w' => (w'.cell? (a1.add i) = some (.slice B1 m1 k1) ∧ w'.cell? (a2.add i) = some (.slice B2 m2 k2)) ∧ Below wr.heap.size wr w') (first | exact hS _ (Below.refl _ _).drew | assumption | (have hh := ‹(_ ∧ _) ∧ Below wr.heap.size wr _›; exact hS _ (hh.2.trans (hB.mono hh.2.size))))
            (first | (go_at_call 34; with_reducible refine (c3 _ (by have hh := ‹(_ ∧ _) ∧ Below wr.heap.size wr _›; exact hh.2)).mono ?_; rintro e w' ⟨rfl, hB⟩))
          all_goals
            rename_i hHeld
            have HB2 := Aside0.mk (HB.out.trans (hHeld.2.mono HB.out.size))
            clear hHeld
            go_wp2
            go_roundw
            case rel => first | exact ⟨i + 1, by omega, by go_num, HT2, HB2⟩ | ((repeat apply Exists.intro); exact ⟨⟨i + 1, by omega, by go_num, HT2, HB2⟩, rfl⟩)
            case measure => simp [intOf]; omega
        · rw [decide_eq_false heq] at c3
          have HNE := Aside0.mk (HTN.out.2 heq)
          clear heq HTN
          go_wp2_with fail
          have hS : ∀ w', Below wr.heap.size wr w' → ((w'.cell? (a1.add i) = some (.slice B1 m1 k1) ∧ w'.cell? (a2.add i) = some (.slice B2 m2 k2)) ∧ Below wr.heap.size wr w') := fun w' hB => ⟨⟨cell_on hB x1, cell_on hB x2⟩, hB⟩
          go_region_held3 (fun w' => (w'.cell? (a1.add i) = some (.slice B1 m1 k1) ∧ w'.cell? (a2.add i) = some (.slice B2 m2 k2)) ∧ Below wr.heap.size wr w') (first | exact hS _ (Below.refl _ _).drew | assumption | (have hh := ‹(_ ∧ _) ∧ Below wr.heap.size wr _›; exact hS _ (hh.2.trans (hB.mono hh.2.size))))
            (first | (go_at_call 34; with_reducible refine (c3 _ (by have hh := ‹(_ ∧ _) ∧ Below wr.heap.size wr _›; exact hh.2)).mono ?_; rintro e w' ⟨rfl, hB⟩))
          all_goals
            rename_i hHeld
            have HB2 := Aside0.mk (HB.out.trans (hHeld.2.mono HB.out.size))
            clear hHeld
            go_wp2
            go_ret
            exact ⟨by rw [decide_eq_false HNE.out]; rfl, HB2.out⟩
      · have hd1 : ¬ (i : Int) < (L1.length : Int) := by omega
        have HEQ : Aside0 (L1 = L2) := ⟨by
          have h := HT.out
          rw [List.take_of_length_le (by omega), List.take_of_length_le (by rw [HN2.out]; have := HLE.out; have := HN2.out; omega)] at h
          exact h⟩
        go_wp2
        go_ret
        exact ⟨by rw [decide_eq_true HEQ.out]; rfl, HB.out⟩
  · have hq : ((L1.length : Int) == (L2.length : Int)) = false := beq_eq_false_iff_ne.2 (by omega)
    have HNE : Aside0 (L1 ≠ L2) := ⟨fun e => hlen (by rw [e])⟩
    clear hlen
    go_enter Try.func13, Try.ntmps13
    go_wp2
    go_ret
    exact ⟨by rw [decide_eq_false HNE.out]; rfl, Below.refl _ _⟩
end Go.Proofs.Ytjgnadighdbjlaa.C
