/- The contract of Refute, by hand. -/
import Derived.OwnWalk
import Derived.Deep.CutRange
import Derived.Deep.RegionHeld3
import Derived.Test.YtjgnadighdbjlaaCx
namespace Go.Proofs.Ytjgnadighdbjlaa.C
open Go.RowKit Go.Shelf Go.Maps Go.Proofs.YtjgnadighdbjlaaW.PrintWords Go.Proofs.YtjgnadighdbjlaaW.PrintLast Go.Proofs.YtjgnadighdbjlaaW.PrintMore
set_option linter.unusedVariables false
set_option linter.unusedSimpArgs false
/-- A use names no bound. -/
def outU (m : Nat) (x : Us) : Bool := !(decide (0 ≤ x.1) && decide (x.1 ≤ (m : Int) - 1))
/-- The k-th use's side. -/
def uAt (l : List Bd) (u : List Us) (k : Nat) : Int × Int × Int := sideF l (u.getD k (0, false))
def chainTo (l : List Bd) (u : List Us) (k : Nat) : Prop := ∀ i, i < k → (uAt l u i).2.1 = (uAt l u ((i + 1) % u.length)).1
def totalTo (l : List Bd) (u : List Us) : Nat → Int
  | 0 => 0
  | k + 1 => totalTo l u k + (uAt l u k).2.2
open Classical in
/-- What Refute answers. -/
noncomputable def refuteF (n : Int) (l : List Bd) (u : List Us) : Int :=
  if checkedF n l ≠ 0 then checkedF n l else if 240 < u.length then 2 else if u.length = 0 ∨ u.any (outU l.length) = true then 7 else if chainTo l u u.length then if 0 ≤ totalTo l u u.length then 7 else 0 else 7
theorem sideF_bound {l : List Bd} {x : Us} (hsp : SpanOk l) (h : outU l.length x = false) : 0 ≤ x.1 ∧ x.1 < l.length ∧ -1000000000000000 ≤ (sideF l x).2.2 ∧ (sideF l x).2.2 ≤ 1000000000000000 := by
  unfold outU at h
  simp at h
  obtain ⟨k, b⟩ := x
  simp only at h
  obtain ⟨j, rfl⟩ := Int.eq_ofNat_of_zero_le h.1
  have hj : j < l.length := by omega
  refine ⟨by simp only; omega, by simp only; omega, ?_⟩
  rw [sideF_at hj]
  have := hsp _ (List.getElem_mem hj)
  unfold sideB
  split <;> simp only <;> omega
set_option maxHeartbeats 1000000 in
set_option maxRecDepth 100000 in
theorem refute1_calls (k : Int) (b : Bool) (A : Option Addr) (m c B : Nat) (w : World) (hm : m ≤ 1000) (hB : w.heap[B]? = some (.cells #[.slice A m c] 25 (0, 0))) :
    Calls Try.prog 36 #[usV (k, b), .pointer (some ⟨B, 0, none⟩)] w fun e w' => e = .returned (.bool (outU m (k, b))) ∧ Below w.heap.size w w' := by
  have hv := Below.refl w.heap.size w
  have c1 := fun w => in_calls k 0 ((m : Int) - 1) w
  have hw := wrp ((m : Int) - 1) (by omega) (by omega)
  have hb : w.cell? ⟨B, 0, none⟩ = some (.slice A m c) := blk_cell hB 0
  have hbl := World.block_lt_of_cell? _ _ hb
  clear hB
  unfold outU
  simp only
  cases hc : (decide (0 ≤ k) && decide (k ≤ (m : Int) - 1)) <;> rw [hc] at c1 <;> clear hc
  · go_enter Try.func36, Try.ntmps36
    go_wp2_with fail
    refine (c1 _).mono ?_
    rintro en w1 ⟨rfl, hB⟩
    go_wp2
    go_ret
    exact ⟨rfl, ((Below.refl _ _).alloc (Nat.le_refl _) _).trans (hB.mono (by simp))⟩
  · go_enter Try.func36, Try.ntmps36
    go_wp2_with fail
    refine (c1 _).mono ?_
    rintro en w1 ⟨rfl, hB⟩
    go_wp2
    go_ret
    exact ⟨rfl, ((Below.refl _ _).alloc (Nat.le_refl _) _).trans (hB.mono (by simp))⟩
set_option maxHeartbeats 4000000 in
set_option maxRecDepth 100000 in
theorem refute_main (n : Int) (A : Option Addr) (c : Nat) (l : List Bd) (Au : Option Addr) (cu : Nat) (u : List Us) (w : World) (hr : Kd.C kb w A l.length l) (hu : Kd.C ku w Au u.length u) (hck : checkedF n l = 0) (hll : l.length ≤ 240) (hsp : SpanOk l) :
    Calls Try.prog 14 #[.int .i64 n, .slice A l.length c, .slice Au u.length cu] w fun e w' => e = .returned (.int .i64 (refuteF n l u)) ∧ Below w.heap.size w w' := by
  have HR := Aside0.mk hr
  have HU := Aside0.mk hu
  have HSP := Aside0.mk hsp
  have hul : u.length ≤ 9223372036854775807 := hu.2.1
  have c1 := fun w hC => checked_calls n A c l w hC
  rw [hck] at c1
  have HCK := Aside0.mk hck
  clear hr hu hsp hck
  by_cases hlen : 240 < u.length
  · have HE : Aside0 (refuteF n l u = 2) := ⟨by unfold refuteF; rw [if_neg (by rw [HCK.out]; simp), if_pos hlen]⟩
    have hl2 : (240 : Int) < (u.length : Int) := by omega
    have hv : Below w.heap.size w (w.alloc (.cells #[.slice A l.length c] 25)) := (Below.refl _ _).alloc (Nat.le_refl _) _
    go_enter Try.func14, Try.ntmps14
    go_wp2_with fail
    refine (c1 _ (Kd.C_below HR.out hv)).mono ?_
    rintro en w1 ⟨rfl, hB⟩
    go_wp2
    go_ret
    exact ⟨by rw [HE.out]; rfl, hv.trans (hB.mono (by simp))⟩
  have hl2 : ¬ (240 : Int) < (u.length : Int) := by omega
  by_cases hnil : u.length = 0
  · have HE : Aside0 (refuteF n l u = 7) := ⟨by unfold refuteF; rw [if_neg (by rw [HCK.out]; simp), if_neg hlen, if_pos (Or.inl hnil)]⟩
    have hl3 : ((u.length : Int) == 0) = true := beq_iff_eq.2 (by omega)
    have hv : Below w.heap.size w (w.alloc (.cells #[.slice A l.length c] 25)) := (Below.refl _ _).alloc (Nat.le_refl _) _
    go_enter Try.func14, Try.ntmps14
    go_wp2_with fail
    refine (c1 _ (Kd.C_below HR.out hv)).mono ?_
    rintro en w1 ⟨rfl, hB⟩
    clear hnil
    go_wp2
    go_ret
    exact ⟨by rw [HE.out]; rfl, hv.trans (hB.mono (by simp))⟩
  have hl3 : ((u.length : Int) == 0) = false := beq_eq_false_iff_ne.2 (by omega)
  have hl4 : 1 ≤ u.length := by omega
  have c2 := fun (W : World) (B : Nat) (hC : Kd.C ku W Au u.length u) (hB : W.heap[B]? = some (.cells #[.slice A l.length c] 25 (0, 0))) =>
    containsFuncU_calls Au cu u 36 #[.pointer (some ⟨B, 0, none⟩)] (enters_of Try.func36 (by kernel_rfl) rfl) (outU l.length) W hC (fun W' x _ hW => refute1_calls x.1 x.2 A l.length c B W' (by omega) (blk_on hW hB))
  cases hany : u.any (outU l.length)
  rotate_left
  · have HE : Aside0 (refuteF n l u = 7) := ⟨by unfold refuteF; rw [if_neg (by rw [HCK.out]; simp), if_neg hlen, if_pos (Or.inr hany)]⟩
    rw [hany] at c2
    clear hany hnil
    have hv : Below w.heap.size w (w.alloc (.cells #[.slice A l.length c] 25)) := (Below.refl _ _).alloc (Nat.le_refl _) _
    go_enter Try.func14, Try.ntmps14
    go_wp2_with fail
    refine (c1 _ (Kd.C_below HR.out hv)).mono ?_
    rintro en w1 ⟨rfl, hB⟩
    have hk1 : w1.heap[w.heap.size]? = some (.cells #[.slice A l.length c] 25 (0, 0)) := blk_on hB (al_new _ _ _ rfl)
    have hv1 := hv.trans (hB.mono (by simp))
    clear hB c1 hv
    go_wp2_with fail
    refine (c2 _ _ (Kd.C_below HU.out hv1) hk1).mono ?_
    rintro en w2 ⟨rfl, hB⟩
    go_wp2
    go_ret
    exact ⟨by rw [HE.out]; rfl, hv1.trans (hB.mono hv1.size)⟩
  open Classical in
  have HE : Aside0 (refuteF n l u = if chainTo l u u.length then if 0 ≤ totalTo l u u.length then 7 else 0 else 7) := ⟨by unfold refuteF; rw [if_neg (by rw [HCK.out]; simp), if_neg hlen, if_neg (by rw [hany]; simp; intro h; rw [h] at hnil; simp at hnil)]⟩
  have HIN : Aside0 (∀ k, k < u.length → 0 ≤ (u.getD k (0, false)).1 ∧ (u.getD k (0, false)).1 < l.length ∧ -1000000000000000 ≤ (uAt l u k).2.2 ∧ (uAt l u k).2.2 ≤ 1000000000000000) := ⟨fun k hk => by
    have := List.any_eq_false.1 hany _ (List.getElem_mem hk)
    unfold uAt
    rw [List.getD_eq_getElem?_getD, List.getElem?_eq_getElem hk]
    exact sideF_bound HSP.out (by simpa using this)⟩
  rw [hany] at c2
  clear hany hnil
  have hv : Below w.heap.size w (w.alloc (.cells #[.slice A l.length c] 25)) := (Below.refl _ _).alloc (Nat.le_refl _) _
  go_enter Try.func14, Try.ntmps14
  go_wp2_with fail
  refine (c1 _ (Kd.C_below HR.out hv)).mono ?_
  rintro en w1 ⟨rfl, hB⟩
  have hk1 : w1.heap[w.heap.size]? = some (.cells #[.slice A l.length c] 25 (0, 0)) := blk_on hB (al_new _ _ _ rfl)
  have hv1 := hv.trans (hB.mono (by simp))
  clear hB c1 hv
  go_wp2_with fail
  refine (c2 _ _ (Kd.C_below HU.out hv1) hk1).mono ?_
  rintro en w2 ⟨rfl, hB⟩
  have HK0 : Aside0 (w2.heap[w.heap.size]? = some (.cells #[.slice A l.length c] 25 (0, 0)) ∧ Below w.heap.size w w2) := ⟨blk_on hB hk1, hv1.trans (hB.mono hv1.size)⟩
  clear hB hk1 hv1 c2
  go_wp2_with fail
  go_loopw [8, 38] (fun v8 v38 wr => ∃ i : Nat, i ≤ u.length ∧ v38 = .int .i64 i ∧ v8 = .int .i64 (totalTo l u i) ∧ -(1000000000000000 * (i : Int)) ≤ totalTo l u i ∧ totalTo l u i ≤ 1000000000000000 * (i : Int) ∧ Aside0 (chainTo l u i) ∧ Aside0 (wr.heap[w.heap.size]? = some (.cells #[.slice A l.length c] 25 (0, 0)) ∧ Below w.heap.size w wr)) (fun _ v38 _ => u.length - (intOf v38).toNat)
  case atStart => exact ⟨0, by omega, by simp, rfl, by simp [totalTo], by simp [totalTo], ⟨fun i hi => absurd hi (by omega)⟩, HK0⟩
  case round =>
    clear HK0
    obtain ⟨i, hi, rfl, rfl, ht1, ht2, HCH, HK⟩ := hrel
    by_cases hlt : i < u.length
    · have hd1 : (i : Int) < (u.length : Int) := by omega
      have hwi := wrp ((i : Int) + 1) (by omega) (by omega)
      obtain ⟨j, hj⟩ : ∃ j, (i + 1) % u.length = j := ⟨_, rfl⟩
      have hjl : j < u.length := by rw [← hj]; exact Nat.mod_lt _ (by omega)
      have hrem : ((i : Int) + 1).tmod (u.length : Int) = (j : Int) := by
        rw [← hj]; push_cast
        exact Int.tmod_eq_emod_of_nonneg (by omega)
      obtain ⟨ad, rfl, ui0, ui1⟩ := C_us (Kd.C_below HU.out HK.out.2) i hlt hlt
      obtain ⟨ad2, e, uj0, uj1⟩ := C_us (Kd.C_below HU.out HK.out.2) j hjl hjl
      cases e
      have hbi := HIN.out i hlt
      have hbj := HIN.out j hjl
      have HSTEP : Aside0 (((uAt l u i).2.1 = (uAt l u j).1 → chainTo l u (i + 1)) ∧ ((uAt l u i).2.1 ≠ (uAt l u j).1 → ¬ chainTo l u u.length) ∧ totalTo l u (i + 1) = totalTo l u i + (uAt l u i).2.2) := ⟨fun h k hk => by
        by_cases e : k = i
        · subst e; rw [hj]; exact h
        · exact HCH.out k (by omega), fun h hc => h (by have := hc i hlt; rwa [hj] at this), rfl⟩
      have c4 := fun w hC => side_calls (u.getD i (0, false)).1 (u.getD i (0, false)).2 (A) c l w hC HSP.out hbi.1 hbi.2.1
      have d4 := fun w hC => side_calls (u.getD j (0, false)).1 (u.getD j (0, false)).2 (A) c l w hC HSP.out hbj.1 hbj.2.1
      have hgi : u[i] = u.getD i (0, false) := by rw [List.getD_eq_getElem?_getD, List.getElem?_eq_getElem hlt]; rfl
      have hgj : u[j] = u.getD j (0, false) := by rw [List.getD_eq_getElem?_getD, List.getElem?_eq_getElem hjl]; rfl
      rw [hgi] at ui0 ui1
      rw [hgj] at uj0 uj1
      clear hgi hgj hj
      unfold uAt at hbi hbj HSTEP
      obtain ⟨⟨ki, bi⟩, hki⟩ : ∃ z, u.getD i (0, false) = z := ⟨_, rfl⟩
      obtain ⟨⟨kj, bj⟩, hkj⟩ : ∃ z, u.getD j (0, false) = z := ⟨_, rfl⟩
      rw [hki] at ui0 ui1 c4 hbi HSTEP
      rw [hkj] at uj0 uj1 d4 hbj HSTEP
      obtain ⟨⟨s1, s2, s3⟩, hs⟩ : ∃ z, sideF l (ki, bi) = z := ⟨_, rfl⟩
      obtain ⟨⟨t1, t2, t3⟩, ht⟩ : ∃ z, sideF l (kj, bj) = z := ⟨_, rfl⟩
      simp only [hs, ht] at c4 d4 hbi hbj HSTEP
      simp only at ui0 ui1 uj0 uj1
      unfold sideV at c4 d4
      simp only at c4 d4
      obtain ⟨T, hT⟩ : ∃ T, totalTo l u i = T := ⟨_, rfl⟩
      rw [hT] at HSTEP ht1 ht2
      have hTb : -1000000000000000000 ≤ T ∧ T ≤ 1000000000000000000 := by omega
      have hwT := wrp (T + s3) (by omega) (by omega)
      have hwj := wrp (j : Int) (by omega) (by omega)
      have hne1 : ¬ (u.length : Int) = 0 := by omega
      have hne2 : ¬ u = [] := fun h => by rw [h] at hlt; simp at hlt
      have hj0 : (0 : Int) ≤ (j : Int) := by omega
      have hj1 : (j : Int) < (u.length : Int) := by omega
      have HB1 := Aside0.mk HK.out.2
      have hk0 : wr.cell? ⟨w.heap.size, 0, none⟩ = some (.slice A l.length c) := blk_cell HK.out.1 0
      have hkl := World.block_lt_of_cell? _ _ hk0
      rw [hT]
      have HTT := Aside0.mk hT
      clear hT hki hkj hs ht
      go_wp2_with fail
      have hBA : Below wr.heap.size wr (wr.alloc (.cells #[.int .i64 ki, .bool bi] 41)) := (Below.refl _ _).alloc (Nat.le_refl _) _
      refine (c4 _ (Kd.C_below HR.out (HB1.out.trans (hBA.mono HB1.out.size)))).mono ?_
      rintro en w4 ⟨rfl, hB⟩
      have hB4 : Below wr.heap.size wr w4 := hBA.trans (hB.mono (by simp))
      replace uj0 := cell_on hB4 uj0
      replace uj1 := cell_on hB4 uj1
      replace hk0 := cell_on hB4 hk0
      have HK4 : Aside0 (w4.heap[w.heap.size]? = some (.cells #[.slice A l.length c] 25 (0, 0)) ∧ Below w.heap.size w w4) := ⟨blk_on hB4 HK.out.1, HK.out.2.trans (hB4.mono HK.out.2.size)⟩
      have HL4 := Aside0.mk (Kd.C_below HR.out HK4.out.2)
      clear hBA hB hB4 c4 HK HB1 ui0 ui1 hkl
      go_wp2_with fail
      go_cut [14] from 51 to 63 (fun s14 wx => s14 = .int .i64 t1 ∧ Below w4.heap.size w4 wx)
      case first =>
        have hS : ∀ w', Below w4.heap.size w4 w' → ((w'.cell? (ad.add (j * 2)) = some (.int .i64 kj) ∧ w'.cell? ⟨(ad.add (j * 2)).block, (ad.add (j * 2)).off + 1, none⟩ = some (.bool bj) ∧ w'.cell? ⟨w.heap.size, 0, none⟩ = some (.slice A l.length c)) ∧ Below w4.heap.size w4 w') := fun w' hB => ⟨⟨cell_on hB uj0, cell_on hB uj1, cell_on hB hk0⟩, hB⟩
        go_region_held3 (fun w' => (w'.cell? (ad.add (j * 2)) = some (.int .i64 kj) ∧ w'.cell? ⟨(ad.add (j * 2)).block, (ad.add (j * 2)).off + 1, none⟩ = some (.bool bj) ∧ w'.cell? ⟨w.heap.size, 0, none⟩ = some (.slice A l.length c)) ∧ Below w4.heap.size w4 w') (first | exact hS _ (Below.refl _ _).drew | assumption | (have hh := ‹(_ ∧ _ ∧ _) ∧ Below w4.heap.size w4 _›; exact hS _ (hh.2.trans (hB.mono hh.2.size))))
          (first | (go_at_call 32; with_reducible refine (d4 _ (by have hh := ‹(_ ∧ _ ∧ _) ∧ Below w4.heap.size w4 _›; exact Kd.C_below HL4.out hh.2)).mono ?_; rintro e w' ⟨rfl, hB⟩))
        all_goals
          rename_i hHeld
          go_wp2
          go_meet
          exact ⟨rfl, hHeld.2⟩
      case rest =>
        obtain ⟨rfl, hB⟩ := hcut
        have HKc : Aside0 (wc.heap[w.heap.size]? = some (.cells #[.slice A l.length c] 25 (0, 0)) ∧ Below w.heap.size w wc) := ⟨blk_on hB HK4.out.1, HK4.out.2.trans (hB.mono HK4.out.2.size)⟩
        clear hB d4 uj0 uj1 hk0 HK4 HL4
        by_cases heq : s2 = t1
        · have hq : (t1 == s2) = true := beq_iff_eq.2 heq.symm
          have HCH2 := Aside0.mk (HSTEP.out.1 heq)
          have HT2 : Aside0 (totalTo l u (i + 1) = T + s3) := ⟨HSTEP.out.2.2⟩
          have hb1 : -(1000000000000000 * ((i : Int) + 1)) ≤ T + s3 := by omega
          have hb2 : T + s3 ≤ 1000000000000000 * ((i : Int) + 1) := by omega
          clear heq HSTEP HCH
          go_wp2
          go_roundw
          case rel => exact ⟨i + 1, by omega, by go_num, by rw [HT2.out], by rw [HT2.out]; push_cast; exact hb1, by rw [HT2.out]; push_cast; exact hb2, HCH2, HKc⟩
          case measure => simp [intOf]; omega
        · have hq : (t1 == s2) = false := beq_eq_false_iff_ne.2 (fun h => heq h.symm)
          have HNO := Aside0.mk (HSTEP.out.2.1 heq)
          clear heq HSTEP HCH
          go_wp2
          go_ret
          exact ⟨by rw [HE.out, if_neg HNO.out]; rfl, HKc.out.2⟩
    · have hiu : i = u.length := by omega
      have hd1 : ¬ (i : Int) < (u.length : Int) := by omega
      have HT : Aside0 (chainTo l u u.length ∧ totalTo l u i = totalTo l u u.length) := ⟨by have := HCH.out; rwa [hiu] at this, by rw [hiu]⟩
      obtain ⟨T, hT⟩ : ∃ T, totalTo l u i = T := ⟨_, rfl⟩
      rw [hT] at HT ht1 ht2 ⊢
      clear hT hiu HCH
      by_cases hge : 0 ≤ T
      · go_wp2
        go_ret
        exact ⟨by rw [HE.out, if_pos HT.out.1, ← HT.out.2, if_pos hge]; rfl, HK.out.2⟩
      · go_wp2
        go_ret
        exact ⟨by rw [HE.out, if_pos HT.out.1, ← HT.out.2, if_neg (by omega)]; rfl, HK.out.2⟩
end Go.Proofs.Ytjgnadighdbjlaa.C
