/- What Narrow and Contradict answer for a net that is not right; all ways of Refute; the law's bounds and uses. -/
import Derived.OwnWalk
import Derived.Laws.AppendOwn
import Derived.Deep.RegionHeld3
import Derived.Test.YtjgnadighdbjlaaDf
import Derived.Test.YtjgnadighdbjlaaEc
namespace Go.Proofs.Ytjgnadighdbjlaa.C
open Go.RowKit Go.Shelf Go.Maps Go.Proofs.YtjgnadighdbjlaaW.PrintWords Go.Proofs.YtjgnadighdbjlaaW.PrintLast Go.Proofs.YtjgnadighdbjlaaW.PrintMore
set_option linter.unusedVariables false
set_option linter.unusedSimpArgs false
set_option maxHeartbeats 1000000 in
theorem narrow_fail (n : Int) (A : Option Addr) (c : Nat) (l : List Bd) (w : World) (hr : Kd.C kb w A l.length l) (hck : checkedF n l ≠ 0) :
    Calls Try.prog 11 #[.int .i64 n, .slice A l.length c] w fun e w' => e = .returned (.tuple #[.slice none 0 0, .int .i64 (checkedF n l)]) ∧ Below w.heap.size w w' := by
  have HR := Aside0.mk hr
  clear hr
  have c1 := fun w hC => checked_calls n A c l w hC
  obtain ⟨E, hE⟩ : ∃ E, checkedF n l = E := ⟨_, rfl⟩
  rw [hE] at hck c1 ⊢
  have hq : (E == 0) = false := beq_eq_false_iff_ne.2 hck
  clear hE
  go_enter Try.func11, Try.ntmps11
  go_wp2_with fail
  refine (c1 _ (by first | exact HR.out | exact Kd.C_below HR.out ((Below.refl _ _).alloc (Nat.le_refl _) _) | exact Kd.C_below HR.out (((Below.refl _ _).alloc (Nat.le_refl _) _).alloc (by simp) _))).mono ?_
  rintro en w1 ⟨rfl, hB⟩
  go_wp2
  go_ret2
  exact ⟨rfl, by first | exact hB | exact ((Below.refl _ _).alloc (Nat.le_refl _) _).trans (hB.mono (by simp)) | exact (((Below.refl _ _).alloc (Nat.le_refl _) _).alloc (by simp) _).trans (hB.mono (by simp; omega))⟩
set_option maxHeartbeats 1000000 in
theorem rnarrow_fail (n : Int) (A : Option Addr) (c : Nat) (l : List Bd) (w : World) (hr : Kd.C kb w A l.length l) (hck : checkedF n l ≠ 0) :
    Calls Try.prog 12 #[.int .i64 n, .slice A l.length c] w fun e w' => e = .returned (.tuple #[.slice none 0 0, .int .i64 (checkedF n l)]) ∧ Below w.heap.size w w' := by
  have HR := Aside0.mk hr
  clear hr
  have c1 := fun w hC => rchecked_calls n A c l w hC
  obtain ⟨E, hE⟩ : ∃ E, checkedF n l = E := ⟨_, rfl⟩
  rw [hE] at hck c1 ⊢
  have hq : (E == 0) = false := beq_eq_false_iff_ne.2 hck
  clear hE
  go_enter Try.func12, Try.ntmps12
  go_wp2_with fail
  refine (c1 _ (by first | exact HR.out | exact Kd.C_below HR.out ((Below.refl _ _).alloc (Nat.le_refl _) _) | exact Kd.C_below HR.out (((Below.refl _ _).alloc (Nat.le_refl _) _).alloc (by simp) _))).mono ?_
  rintro en w1 ⟨rfl, hB⟩
  go_wp2
  go_ret2
  exact ⟨rfl, by first | exact hB | exact ((Below.refl _ _).alloc (Nat.le_refl _) _).trans (hB.mono (by simp)) | exact (((Below.refl _ _).alloc (Nat.le_refl _) _).alloc (by simp) _).trans (hB.mono (by simp; omega))⟩
set_option maxHeartbeats 1000000 in
theorem contradict_fail (n : Int) (A : Option Addr) (c : Nat) (l : List Bd) (w : World) (hr : Kd.C kb w A l.length l) (hck : checkedF n l ≠ 0) :
    Calls Try.prog 17 #[.int .i64 n, .slice A l.length c] w fun e w' => e = .returned (.tuple #[.slice none 0 0, .int .i64 (checkedF n l)]) ∧ Below w.heap.size w w' := by
  have HR := Aside0.mk hr
  clear hr
  have c1 := fun w hC => checked_calls n A c l w hC
  obtain ⟨E, hE⟩ : ∃ E, checkedF n l = E := ⟨_, rfl⟩
  rw [hE] at hck c1 ⊢
  have hq : (E == 0) = false := beq_eq_false_iff_ne.2 hck
  clear hE
  go_enter Try.func17, Try.ntmps17
  go_wp2_with fail
  refine wp_scope_straight ?_
  go_wp2_with fail
  refine (c1 _ (by first | exact HR.out | exact Kd.C_below HR.out ((Below.refl _ _).alloc (Nat.le_refl _) _) | exact Kd.C_below HR.out (((Below.refl _ _).alloc (Nat.le_refl _) _).alloc (by simp) _))).mono ?_
  rintro en w1 ⟨rfl, hB⟩
  go_wp2
  rw [Exit.noGoto_ret]
  go_ret2
  exact ⟨rfl, by first | exact hB | exact ((Below.refl _ _).alloc (Nat.le_refl _) _).trans (hB.mono (by simp)) | exact (((Below.refl _ _).alloc (Nat.le_refl _) _).alloc (by simp) _).trans (hB.mono (by simp; omega))⟩
set_option maxHeartbeats 1000000 in
theorem refute_all (n : Int) (A : Option Addr) (c : Nat) (l : List Bd) (Au : Option Addr) (cu : Nat) (u : List Us) (w : World) (hr : Kd.C kb w A l.length l) (hu : Kd.C ku w Au u.length u) :
    Calls Try.prog 14 #[.int .i64 n, .slice A l.length c, .slice Au u.length cu] w fun e w' => e = .returned (.int .i64 (refuteF n l u)) ∧ Below w.heap.size w w' := by
  by_cases hck : checkedF n l = 0
  · obtain ⟨N, rfl, hn⟩ := netOk_of hck
    exact refute_main N A c l Au cu u w hr hu hck hn.len hn.sp
  · have HE : Aside0 (refuteF n l u = checkedF n l) := ⟨by unfold refuteF; rw [if_pos hck]⟩
    rw [HE.out]
    have HR := Aside0.mk hr
    clear hr hu
    have c1 := fun w hC => checked_calls n A c l w hC
    obtain ⟨E, hE⟩ : ∃ E, checkedF n l = E := ⟨_, rfl⟩
    rw [hE] at hck c1 ⊢
    have hq : (E == 0) = false := beq_eq_false_iff_ne.2 hck
    clear hE HE
    go_enter Try.func14, Try.ntmps14
    go_wp2_with fail
    refine (c1 _ (by first | exact HR.out | exact Kd.C_below HR.out ((Below.refl _ _).alloc (Nat.le_refl _) _) | exact Kd.C_below HR.out (((Below.refl _ _).alloc (Nat.le_refl _) _).alloc (by simp) _))).mono ?_
    rintro en w1 ⟨rfl, hB⟩
    go_wp2
    go_ret
    exact ⟨rfl, by first | exact hB | exact ((Below.refl _ _).alloc (Nat.le_refl _) _).trans (hB.mono (by simp)) | exact (((Below.refl _ _).alloc (Nat.le_refl _) _).alloc (by simp) _).trans (hB.mono (by simp; omega))⟩
set_option maxHeartbeats 1000000 in
theorem rrefute_all (n : Int) (A : Option Addr) (c : Nat) (l : List Bd) (Au : Option Addr) (cu : Nat) (u : List Us) (w : World) (hr : Kd.C kb w A l.length l) (hu : Kd.C ku w Au u.length u) :
    Calls Try.prog 16 #[.int .i64 n, .slice A l.length c, .slice Au u.length cu] w fun e w' => e = .returned (.int .i64 (refuteF n l u)) ∧ Below w.heap.size w w' := by
  by_cases hck : checkedF n l = 0
  · obtain ⟨N, rfl, hn⟩ := netOk_of hck
    exact rrefute_main N A c l Au cu u w hr hu hck hn.len hn.sp
  · have HE : Aside0 (refuteF n l u = checkedF n l) := ⟨by unfold refuteF; rw [if_pos hck]⟩
    rw [HE.out]
    have HR := Aside0.mk hr
    clear hr hu
    have c1 := fun w hC => rchecked_calls n A c l w hC
    obtain ⟨E, hE⟩ : ∃ E, checkedF n l = E := ⟨_, rfl⟩
    rw [hE] at hck c1 ⊢
    have hq : (E == 0) = false := beq_eq_false_iff_ne.2 hck
    clear hE HE
    go_enter Try.func16, Try.ntmps16
    go_wp2_with fail
    refine (c1 _ (by first | exact HR.out | exact Kd.C_below HR.out ((Below.refl _ _).alloc (Nat.le_refl _) _) | exact Kd.C_below HR.out (((Below.refl _ _).alloc (Nat.le_refl _) _).alloc (by simp) _))).mono ?_
    rintro en w1 ⟨rfl, hB⟩
    go_wp2
    go_ret
    exact ⟨rfl, by first | exact hB | exact ((Below.refl _ _).alloc (Nat.le_refl _) _).trans (hB.mono (by simp)) | exact (((Below.refl _ _).alloc (Nat.le_refl _) _).alloc (by simp) _).trans (hB.mono (by simp; omega))⟩
theorem info46n : (Try.prog.info? 46).map (fun i => (i.zero, i.size, i.bytes)) = some (some (.agg #[.int .i64 0, .int .i64 0, .int .i64 0, .int .i64 0]), 4, 32) := by kernel_rfl
set_option maxHeartbeats 2000000 in
set_option maxRecDepth 100000 in
/-- The law's bounds. -/
theorem lbounds_calls (A : Option Addr) (c : Nat) (l : List Bd) (w : World) (hr : Kd.C kb w A l.length l) (hn : l.length ≤ 1000) :
    Calls Try.prog 10 #[.slice A l.length c] w fun e w' => ∃ v', e = .returned v' ∧ w'.ownsRow w.heap.size 46 4 v' l.length (bcells l) ∧ Below w.heap.size w w' := by
  obtain ⟨i0, hi0, hz0, hz1, hz2⟩ := info_parts info46n
  have HR := Aside0.mk hr
  clear hr
  go_enter Try.func10, Try.ntmps10
  go_wp2_with fail
  go_loopw [3, 4] (fun v3 v4 wr => ∃ (i : Nat) (vo : Value), i ≤ l.length ∧ v4 = .int .i64 i ∧ vo = v3 ∧ Aside0 (wr.ownsRow w.heap.size 46 4 vo i (bcells (l.take i)) ∧ Below w.heap.size w wr)) (fun _ v4 _ => l.length - (intOf v4).toNat)
  case atStart => exact ⟨0, _, by omega, by simp, rfl, ⟨own_nil _ _ _ _, Below.refl _ _⟩⟩
  case round =>
    obtain ⟨i, vo, hi, rfl, rfl, HI⟩ := hrel
    by_cases hlt : i < l.length
    · have hd1 : (i : Int) < (l.length : Int) := by omega
      have hwi := wrp ((i : Int) + 1) (by omega) (by omega)
      have hi0' : (0 : Int) ≤ (i : Int) := by omega
      obtain ⟨ad, rfl, hx⟩ := C_bd (Kd.C_below HR.out HI.out.2) i hlt hlt
      have HT : Aside0 (bcells (l.take (i + 1)) = bcells (l.take i) ++ bcells [l[i]]) := ⟨by rw [List.take_add_one, List.getElem?_eq_getElem hlt, bcells_append]; rfl⟩
      generalize l[i] = x at *
      obtain ⟨xa, xb, lo, hi⟩ := x
      simp only at hx
      obtain ⟨hc0, hc1, hc2, hc3⟩ := hx
      have hs0 := World.block_lt_of_cell? _ _ hc0
      have hsz := HI.out.2.size
      have hown0 := HI.out.1
      have hownA : (wr.alloc (.cells #[.int .i64 xa, .int .i64 xb, .int .i64 lo, .int .i64 hi] 46)).ownsRow w.heap.size 46 4 vo i (bcells (l.take i)) := own_move hown0 (fun k hk => Below.heap_alloc _ _ k (own_lt hown0 k hk))
      have HB0 := Aside0.mk HI.out.2
      clear HI hown0
      go_wp2_with (at_builtin; refine wpList_append_own _ rfl _ _ 25 rfl w.heap.size 46 i0 (.agg #[.int .i64 0, .int .i64 0, .int .i64 0, .int .i64 0]) 4 32 Try.underlying25 hi0 hz0 hz1 hz2 rfl (by decide) _ _ _ rfl hownA ⟨wr.heap.size, 0, none⟩ 1 1 [.int .i64 xa, .int .i64 xb, .int .i64 lo, .int .i64 hi] rfl ?qc1 ?qc2 ?qc3 ?qc4 ?qc5 ?qc6 ?_)
      try (case qc1 => rfl)
      try (case qc2 => exact World.news_of_block (cs := #[.int .i64 xa, .int .i64 xb, .int .i64 lo, .int .i64 hi]) (t := 46) (fr := (0, 0)) (al_new _ _ _ rfl))
      try (case qc3 => simp [Value.oneCell'])
      try (case qc4 => unfold maxLen; omega)
      try (case qc5 => omega)
      try (case qc6 => first | omega | (simp; omega))
      intro v2 wz hown2 hg2 hnil2
      have HN : Aside0 (wz.ownsRow w.heap.size 46 4 v2 (i + 1) (bcells (l.take (i + 1))) ∧ Below w.heap.size w wz) := ⟨by
        rw [HT.out]; exact hown2, (HB0.out.alloc hsz _).grown hg2 (by simp; omega) (fun k e => own_base hownA k e)⟩
      clear hown2 hg2 hnil2 hownA HB0
      go_wp2
      go_roundw
      case rel => exact ⟨i + 1, _, by omega, by go_num, rfl, HN⟩
      case measure => simp [intOf]; omega
    · obtain rfl : i = l.length := by omega
      have hd1 : ¬ (l.length : Int) < (l.length : Int) := by omega
      have HE : Aside0 (wr.ownsRow w.heap.size 46 4 vo l.length (bcells l) ∧ Below w.heap.size w wr) := ⟨by have := HI.out.1; rwa [List.take_length] at this, HI.out.2⟩
      clear HI
      go_wp2
      go_ret
      exact ⟨_, rfl, HE.out.1, HE.out.2⟩
set_option maxHeartbeats 2000000 in
set_option maxRecDepth 100000 in
/-- The law's uses. -/
theorem luses_calls (A : Option Addr) (c : Nat) (l : List Us) (w : World) (hr : Kd.C ku w A l.length l) (hn : l.length ≤ 1000) :
    Calls Try.prog 15 #[.slice A l.length c] w fun e w' => ∃ v', e = .returned v' ∧ w'.ownsRow w.heap.size 41 2 v' l.length (ucells l) ∧ Below w.heap.size w w' := by
  obtain ⟨i0, hi0, hz0, hz1, hz2⟩ := info_parts info41n
  have HR := Aside0.mk hr
  clear hr
  go_enter Try.func15, Try.ntmps15
  go_wp2_with fail
  go_loopw [3, 4] (fun v3 v4 wr => ∃ (i : Nat) (vo : Value), i ≤ l.length ∧ v4 = .int .i64 i ∧ vo = v3 ∧ Aside0 (wr.ownsRow w.heap.size 41 2 vo i (ucells (l.take i)) ∧ Below w.heap.size w wr)) (fun _ v4 _ => l.length - (intOf v4).toNat)
  case atStart => exact ⟨0, _, by omega, by simp, rfl, ⟨own_nil _ _ _ _, Below.refl _ _⟩⟩
  case round =>
    obtain ⟨i, vo, hi, rfl, rfl, HI⟩ := hrel
    by_cases hlt : i < l.length
    · have hd1 : (i : Int) < (l.length : Int) := by omega
      have hwi := wrp ((i : Int) + 1) (by omega) (by omega)
      have hi0' : (0 : Int) ≤ (i : Int) := by omega
      obtain ⟨ad, rfl, hx⟩ := C_us (Kd.C_below HR.out HI.out.2) i hlt hlt
      have HT : Aside0 (ucells (l.take (i + 1)) = ucells (l.take i) ++ ucells [l[i]]) := ⟨by rw [List.take_add_one, List.getElem?_eq_getElem hlt, ucells_append]; rfl⟩
      generalize l[i] = x at *
      obtain ⟨xk, xu⟩ := x
      simp only at hx
      obtain ⟨hc0, hc1⟩ := hx
      have hs0 := World.block_lt_of_cell? _ _ hc0
      have hsz := HI.out.2.size
      have hown0 := HI.out.1
      have hownA : (wr.alloc (.cells #[.int .i64 xk, .bool xu] 41)).ownsRow w.heap.size 41 2 vo i (ucells (l.take i)) := own_move hown0 (fun k hk => Below.heap_alloc _ _ k (own_lt hown0 k hk))
      have HB0 := Aside0.mk HI.out.2
      clear HI hown0
      go_wp2_with (at_builtin; refine wpList_append_own _ rfl _ _ 34 rfl w.heap.size 41 i0 (.agg #[.int .i64 0, .bool false]) 2 16 Try.underlying34 hi0 hz0 hz1 hz2 rfl (by decide) _ _ _ rfl hownA ⟨wr.heap.size, 0, none⟩ 1 1 [.int .i64 xk, .bool xu] rfl ?qc1 ?qc2 ?qc3 ?qc4 ?qc5 ?qc6 ?_)
      try (case qc1 => rfl)
      try (case qc2 => exact World.news_of_block (cs := #[.int .i64 xk, .bool xu]) (t := 41) (fr := (0, 0)) (al_new _ _ _ rfl))
      try (case qc3 => simp [Value.oneCell'])
      try (case qc4 => unfold maxLen; omega)
      try (case qc5 => omega)
      try (case qc6 => first | omega | (simp; omega))
      intro v2 wz hown2 hg2 hnil2
      have HN : Aside0 (wz.ownsRow w.heap.size 41 2 v2 (i + 1) (ucells (l.take (i + 1))) ∧ Below w.heap.size w wz) := ⟨by
        rw [HT.out]; exact hown2, (HB0.out.alloc hsz _).grown hg2 (by simp; omega) (fun k e => own_base hownA k e)⟩
      clear hown2 hg2 hnil2 hownA HB0
      go_wp2
      go_roundw
      case rel => exact ⟨i + 1, _, by omega, by go_num, rfl, HN⟩
      case measure => simp [intOf]; omega
    · obtain rfl : i = l.length := by omega
      have hd1 : ¬ (l.length : Int) < (l.length : Int) := by omega
      have HE : Aside0 (wr.ownsRow w.heap.size 41 2 vo l.length (ucells l) ∧ Below w.heap.size w wr) := ⟨by have := HI.out.1; rwa [List.take_length] at this, HI.out.2⟩
      clear HI
      go_wp2
      go_ret
      exact ⟨_, rfl, HE.out.1, HE.out.2⟩
end Go.Proofs.Ytjgnadighdbjlaa.C
