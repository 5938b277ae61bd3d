/- The contract of the reference's Refute, by hand. -/
import Derived.OwnWalk
import Derived.Deep.CutRange
import Derived.Deep.RegionHeld3
import Derived.Test.YtjgnadighdbjlaaCy
namespace Go.Proofs.Ytjgnadighdbjlaa.C
open Go.RowKit Go.Shelf Go.Maps Go.Proofs.YtjgnadighdbjlaaW.PrintWords Go.Proofs.YtjgnadighdbjlaaW.PrintLast Go.Proofs.YtjgnadighdbjlaaW.PrintMore
set_option linter.unusedVariables false
set_option linter.unusedSimpArgs false
def prevU (m i : Nat) : Nat := if i = 0 then m - 1 else i - 1
def rchainTo (l : List Bd) (u : List Us) (k : Nat) : Prop := ∀ i, i < k → (uAt l u i).1 = (uAt l u (prevU u.length i)).2.1
theorem chain_iff {l : List Bd} {u : List Us} : rchainTo l u u.length ↔ chainTo l u u.length := by
  constructor
  · intro h i hi
    by_cases e : i + 1 = u.length
    · have := h 0 (by omega)
      unfold prevU at this
      rw [if_pos rfl] at this
      rw [e, Nat.mod_self, this, show u.length - 1 = i by omega]
    · have := h (i + 1) (by omega)
      unfold prevU at this
      rw [if_neg (by omega)] at this
      rw [Nat.mod_eq_of_lt (by omega), this, Nat.add_sub_cancel]
  · intro h i hi
    unfold prevU
    by_cases e : i = 0
    · subst e
      have := h (u.length - 1) (by omega)
      rw [show u.length - 1 + 1 = u.length by omega, Nat.mod_self] at this
      rw [if_pos rfl, this]
    · have := h (i - 1) (by omega)
      rw [show i - 1 + 1 = i by omega, Nat.mod_eq_of_lt hi] at this
      rw [if_neg e, this]
set_option maxHeartbeats 4000000 in
set_option maxRecDepth 100000 in
theorem rrefute_main (n : Int) (A : Option Addr) (c : Nat) (l : List Bd) (Au : Option Addr) (cu : Nat) (u : List Us) (w : World) (hr : Kd.C kb w A l.length l) (hu : Kd.C ku w Au u.length u) (hck : checkedF n l = 0) (hll : l.length ≤ 240) (hsp : SpanOk l) :
    Calls Try.prog 16 #[.int .i64 n, .slice A l.length c, .slice Au u.length cu] w fun e w' => e = .returned (.int .i64 (refuteF n l u)) ∧ Below w.heap.size w w' := by
  have HR := Aside0.mk hr
  have HU := Aside0.mk hu
  have HSP := Aside0.mk hsp
  have hul : u.length ≤ 9223372036854775807 := hu.2.1
  have c1 := fun w hC => rchecked_calls n A c l w hC
  rw [hck] at c1
  have HCK := Aside0.mk hck
  clear hr hu hsp hck
  by_cases hlen : 240 < u.length
  · have HE : Aside0 (refuteF n l u = 2) := ⟨by unfold refuteF; rw [if_neg (by rw [HCK.out]; simp), if_pos hlen]⟩
    have hl2 : (240 : Int) < (u.length : Int) := by omega
    go_enter Try.func16, Try.ntmps16
    go_wp2_with fail
    refine (c1 _ HR.out).mono ?_
    rintro en w1 ⟨rfl, hB⟩
    go_wp2
    go_ret
    exact ⟨by rw [HE.out]; rfl, hB⟩
  have hl2 : ¬ (240 : Int) < (u.length : Int) := by omega
  have hl3 : u.length ≤ 240 := by omega
  open Classical in
  have HE : Aside0 (refuteF n l u = if u.length = 0 ∨ u.any (outU l.length) = true then 7 else if chainTo l u u.length then if 0 ≤ totalTo l u u.length then 7 else 0 else 7) := ⟨by unfold refuteF; rw [if_neg (by rw [HCK.out]; simp), if_neg hlen]⟩
  clear hlen
  go_enter Try.func16, Try.ntmps16
  go_wp2_with fail
  refine (c1 _ HR.out).mono ?_
  rintro en w1 ⟨rfl, hB⟩
  have HB0 := Aside0.mk hB
  clear hB c1
  go_wp2_with fail
  go_loopw [9] (fun v9 wr => ∃ i : Nat, i ≤ u.length ∧ v9 = .int .i64 i ∧ Aside0 (∀ j (hj : j < u.length), j < i → outU l.length u[j] = false) ∧ Aside0 (Below w.heap.size w wr)) (fun v9 _ => u.length - (intOf v9).toNat)
  case atStart => exact ⟨0, by omega, by simp, ⟨fun j _ h => absurd h (by omega)⟩, HB0⟩
  case round =>
    clear HB0
    obtain ⟨i, hi, rfl, HN, HB⟩ := hrel
    by_cases hlt : i < u.length
    · have hd1 : (i : Int) < (u.length : Int) := by omega
      have hwi := wrp ((i : Int) + 1) (by omega) (by omega)
      obtain ⟨ad, rfl, ui0, ui1⟩ := C_us (Kd.C_below HU.out HB.out) i hlt hlt
      have HG : Aside0 (outU l.length u[i] = false → ∀ j (hj : j < u.length), j < i + 1 → outU l.length u[j] = false) := ⟨fun hb j hj hji => by
        by_cases e : j = i
        · subst e; exact hb
        · exact HN.out j hj (by omega)⟩
      have HX : Aside0 (outU l.length u[i] = true → refuteF n l u = 7) := ⟨fun hb => by rw [HE.out, if_pos (Or.inr (List.any_eq_true.2 ⟨_, List.getElem_mem hlt, hb⟩))]⟩
      generalize u[i] = x at *
      obtain ⟨k, b⟩ := x
      simp only at ui0 ui1
      have HOUT : Aside0 (outU l.length (k, b) = true ↔ k < 0 ∨ (l.length : Int) ≤ k) := ⟨by unfold outU; simp; omega⟩
      by_cases h1 : k < 0
      · have HX2 := Aside0.mk (HX.out (HOUT.out.2 (Or.inl h1)))
        go_wp2
        go_ret
        exact ⟨by rw [HX2.out]; rfl, HB.out⟩
      · by_cases h2 : (l.length : Int) ≤ k
        · have HX2 := Aside0.mk (HX.out (HOUT.out.2 (Or.inr h2)))
          go_wp2
          go_ret
          exact ⟨by rw [HX2.out]; rfl, HB.out⟩
        · have HG2 := Aside0.mk (HG.out (by
            cases h : outU l.length (k, b) with
            | false => rfl
            | true => have := HOUT.out.1 h; omega))
          go_wp2
          go_roundw
          case rel => exact ⟨i + 1, by omega, by go_num, HG2, HB⟩
          case measure => simp [intOf]; omega
    · have hiu : i = u.length := by omega
      have hd1 : ¬ (i : Int) < (u.length : Int) := by omega
      have hany : u.any (outU l.length) = false := by
        rw [List.any_eq_false]
        intro x hx
        obtain ⟨j, hj, rfl⟩ := List.getElem_of_mem hx
        rw [HN.out j hj (by omega)]; simp
      have HIN : Aside0 (∀ k, k < u.length → 0 ≤ (u.getD k (0, false)).1 ∧ (u.getD k (0, false)).1 < l.length ∧ -1000000000000000 ≤ (uAt l u k).2.2 ∧ (uAt l u k).2.2 ≤ 1000000000000000) := ⟨fun k hk => by
        have := List.any_eq_false.1 hany _ (List.getElem_mem hk)
        unfold uAt
        rw [List.getD_eq_getElem?_getD, List.getElem?_eq_getElem hk]
        exact sideF_bound HSP.out (by simpa using this)⟩
      open Classical in
      have HE2 : Aside0 (refuteF n l u = if rchainTo l u u.length then if 0 ≤ totalTo l u u.length then 7 else 0 else 7) := ⟨by
        by_cases h0 : u.length = 0
        · rw [HE.out, if_pos (Or.inl h0), h0]
          have ht : totalTo l u 0 = 0 := rfl
          rw [ht]
          simp
        · rw [HE.out, if_neg (by rw [hany]; simp; intro h; rw [h] at h0; simp at h0)]
          by_cases hc : chainTo l u u.length
          · rw [if_pos hc, if_pos (chain_iff.2 hc)]
          · rw [if_neg hc, if_neg (fun h => hc (chain_iff.1 h))]⟩
      have HB1 := Aside0.mk HB.out
      clear hany hiu HE HN HB
      go_wp2_with fail
      go_loopw [8, 10] (fun v8 v10 wr => ∃ i : Nat, i ≤ u.length ∧ v10 = .int .i64 i ∧ v8 = .int .i64 (totalTo l u i) ∧ -(1000000000000000 * (i : Int)) ≤ totalTo l u i ∧ totalTo l u i ≤ 1000000000000000 * (i : Int) ∧ Aside0 (rchainTo l u i) ∧ Aside0 (Below w.heap.size w wr)) (fun _ v10 _ => u.length - (intOf v10).toNat)
      case atStart => exact ⟨0, by omega, by simp, rfl, by simp [totalTo], by simp [totalTo], ⟨fun i hi => absurd hi (by omega)⟩, HB1⟩
      case round =>
        clear HB1
        obtain ⟨i, hi, rfl, rfl, ht1, ht2, HCH, HB⟩ := hrel
        by_cases hlt : i < u.length
        · have hd1 : (i : Int) < (u.length : Int) := by omega
          have hwi := wrp ((i : Int) + 1) (by omega) (by omega)
          obtain ⟨j, hj⟩ : ∃ j, prevU u.length i = j := ⟨_, rfl⟩
          have hjl : j < u.length := by rw [← hj]; unfold prevU; split <;> omega
          obtain ⟨ad, rfl, ui0, ui1⟩ := C_us (Kd.C_below HU.out HB.out) i hlt hlt
          obtain ⟨ad2, e, uj0, uj1⟩ := C_us (Kd.C_below HU.out HB.out) j hjl hjl
          cases e
          obtain ⟨ad3, e, ul0, ul1⟩ := C_us (Kd.C_below HU.out HB.out) (u.length - 1) (by omega) (by omega)
          cases e
          have hbi := HIN.out i hlt
          have hbj := HIN.out j hjl
          have HSTEP : Aside0 (((uAt l u i).1 = (uAt l u j).2.1 → rchainTo l u (i + 1)) ∧ ((uAt l u i).1 ≠ (uAt l u j).2.1 → ¬ rchainTo l u u.length) ∧ totalTo l u (i + 1) = totalTo l u i + (uAt l u i).2.2) := ⟨fun h k hk => by
            by_cases e : k = i
            · subst e; rw [hj]; exact h
            · exact HCH.out k (by omega), fun h hc => h (by have := hc i hlt; rwa [hj] at this), rfl⟩
          have c4 := fun w hC => ends_calls (u.getD i (0, false)).1 (u.getD i (0, false)).2 A c l w hC HSP.out hbi.1 hbi.2.1
          have d4 := fun w hC => ends_calls (u.getD j (0, false)).1 (u.getD j (0, false)).2 A c l w hC HSP.out hbj.1 hbj.2.1
          have hgi : u[i] = u.getD i (0, false) := by rw [List.getD_eq_getElem?_getD, List.getElem?_eq_getElem hlt]; rfl
          have hgj : u[j] = u.getD j (0, false) := by rw [List.getD_eq_getElem?_getD, List.getElem?_eq_getElem hjl]; rfl
          rw [hgi] at ui0 ui1
          rw [hgj] at uj0 uj1
          have hji0 : i = 0 → j = u.length - 1 := fun h => by rw [← hj]; unfold prevU; rw [if_pos h]
          have hji1 : i ≠ 0 → (i : Int) - 1 = (j : Int) := fun h => by rw [← hj]; unfold prevU; rw [if_neg h]; omega
          obtain ⟨xl, hxl⟩ : ∃ z, u[u.length - 1]'(by omega) = z := ⟨_, rfl⟩
          rw [hxl] at ul0 ul1
          have hxlj : i = 0 → xl = u.getD j (0, false) := fun h => by rw [← hxl, ← hgj]; congr 1; exact (hji0 h).symm
          clear hgi hgj hj hxl
          unfold uAt at hbi hbj HSTEP
          obtain ⟨⟨ki, bi⟩, hki⟩ : ∃ z, u.getD i (0, false) = z := ⟨_, rfl⟩
          obtain ⟨⟨kj, bj⟩, hkj⟩ : ∃ z, u.getD j (0, false) = z := ⟨_, rfl⟩
          rw [hki] at ui0 ui1 c4 hbi HSTEP
          rw [hkj] at uj0 uj1 d4 hbj HSTEP hxlj
          obtain ⟨⟨s1, s2, s3⟩, hs⟩ : ∃ z, sideF l (ki, bi) = z := ⟨_, rfl⟩
          obtain ⟨⟨t1, t2, t3⟩, ht⟩ : ∃ z, sideF l (kj, bj) = z := ⟨_, rfl⟩
          simp only [hs, ht] at c4 d4 hbi hbj HSTEP
          simp only at ui0 ui1 uj0 uj1
          unfold sideV at c4 d4
          simp only at c4 d4
          obtain ⟨T, hT⟩ : ∃ T, totalTo l u i = T := ⟨_, rfl⟩
          rw [hT] at HSTEP ht1 ht2
          have hTb : -1000000000000000000 ≤ T ∧ T ≤ 1000000000000000000 := by omega
          have hwT := wrp (T + s3) (by omega) (by omega)
          have hj0 : (0 : Int) ≤ (j : Int) := by omega
          have hj1 : (j : Int) < (u.length : Int) := by omega
          have hwl : IntKind.i64.wrap ((u.length : Int) - 1) = ((u.length - 1 : Nat) : Int) := by rw [show (u.length : Int) - 1 = ((u.length - 1 : Nat) : Int) by omega]; exact wrp _ (by omega) (by omega)
          obtain ⟨m1, hm1⟩ : ∃ m1, u.length - 1 = m1 := ⟨_, rfl⟩
          rw [hm1] at hwl ul0 ul1
          have hm1l : (m1 : Int) < (u.length : Int) := by omega
          obtain ⟨kl', bl'⟩ := xl
          simp only at ul0 ul1
          rw [hT]
          clear hT hki hkj hs ht hji0 hm1
          by_cases hi0 : i = 0
          · have hx := hxlj hi0
            cases hx
            have hi1 : ¬ (0 : Int) < (i : Int) := by omega
            clear hi0 hxlj hji1
            have hsu0 := World.block_lt_of_cell? _ _ ui0
            have hsu1 := World.block_lt_of_cell? _ _ ui1
            have hsu2 := World.block_lt_of_cell? _ _ uj0
            have hsu3 := World.block_lt_of_cell? _ _ uj1
            go_wp2_with fail
            clear hsu0 hsu1 hsu2 hsu3
            have hBA : Below wr.heap.size wr (wr.alloc (.cells #[.int .i64 kj, .bool bj] 40)) := (Below.refl _ _).alloc (Nat.le_refl _) _
            have kx : (wr.alloc (.cells #[.int .i64 kj, .bool bj] 40)).heap[wr.heap.size]? = some (.cells #[.int .i64 kj, .bool bj] 40 (0, 0)) := al_new _ _ _ rfl
            refine (c4 _ (Kd.C_below HR.out (HB.out.trans (hBA.mono HB.out.size)))).mono ?_
            rintro en w4 ⟨rfl, hB⟩
            have hB4 : Below wr.heap.size wr w4 := hBA.trans (hB.mono (by simp))
            have kx4 := blk_on hB kx
            have x0 : w4.cell? ⟨wr.heap.size, 0, none⟩ = some (.int .i64 kj) := blk_cell kx4 0
            have x1 : w4.cell? ⟨wr.heap.size, 1, none⟩ = some (.bool bj) := blk_cell kx4 1
            have HB4 := Aside0.mk (HB.out.trans (hB4.mono HB.out.size))
            clear kx kx4 hBA hB hB4 c4 HB ui0 ui1 uj0 uj1 ul0 ul1
            go_wp2_with fail
            refine (d4 _ (Kd.C_below HR.out HB4.out)).mono ?_
            rintro en w5 ⟨rfl, hB⟩
            have HB5 := Aside0.mk (HB4.out.trans (hB.mono HB4.out.size))
            clear hB HB4 d4 x0 x1
            by_cases heq : s1 = t2
            · have hq : (s1 == t2) = true := beq_iff_eq.2 heq
              have HCH2 := Aside0.mk (HSTEP.out.1 heq)
              have HT2 : Aside0 (totalTo l u (i + 1) = T + s3) := ⟨HSTEP.out.2.2⟩
              have hb1 : -(1000000000000000 * ((i : Int) + 1)) ≤ T + s3 := by omega
              have hb2 : T + s3 ≤ 1000000000000000 * ((i : Int) + 1) := by omega
              clear heq HSTEP HCH
              go_wp2
              go_roundw
              case rel => exact ⟨i + 1, by omega, by go_num, by rw [HT2.out], by rw [HT2.out]; push_cast; exact hb1, by rw [HT2.out]; push_cast; exact hb2, HCH2, HB5⟩
              case measure => simp [intOf]; omega
            · have hq : (s1 == t2) = false := beq_eq_false_iff_ne.2 heq
              have HNO := Aside0.mk (HSTEP.out.2.1 heq)
              clear heq HSTEP HCH
              go_wp2
              go_ret
              exact ⟨by rw [HE2.out, if_neg HNO.out]; rfl, HB5.out⟩
          · have hwj : IntKind.i64.wrap ((i : Int) - 1) = (j : Int) := by rw [hji1 hi0]; exact wrp _ (by omega) (by omega)
            have hi1 : (0 : Int) < (i : Int) := by omega
            clear hi0 hxlj hji1
            have hsu0 := World.block_lt_of_cell? _ _ ui0
            have hsu1 := World.block_lt_of_cell? _ _ ui1
            have hsu2 := World.block_lt_of_cell? _ _ uj0
            have hsu3 := World.block_lt_of_cell? _ _ uj1
            go_wp2_with fail
            clear hsu0 hsu1 hsu2 hsu3
            have hBA : Below wr.heap.size wr (wr.alloc (.cells #[.int .i64 kj, .bool bj] 40)) := (Below.refl _ _).alloc (Nat.le_refl _) _
            have kx : (wr.alloc (.cells #[.int .i64 kj, .bool bj] 40)).heap[wr.heap.size]? = some (.cells #[.int .i64 kj, .bool bj] 40 (0, 0)) := al_new _ _ _ rfl
            refine (c4 _ (Kd.C_below HR.out (HB.out.trans (hBA.mono HB.out.size)))).mono ?_
            rintro en w4 ⟨rfl, hB⟩
            have hB4 : Below wr.heap.size wr w4 := hBA.trans (hB.mono (by simp))
            have kx4 := blk_on hB kx
            have x0 : w4.cell? ⟨wr.heap.size, 0, none⟩ = some (.int .i64 kj) := blk_cell kx4 0
            have x1 : w4.cell? ⟨wr.heap.size, 1, none⟩ = some (.bool bj) := blk_cell kx4 1
            have HB4 := Aside0.mk (HB.out.trans (hB4.mono HB.out.size))
            clear kx kx4 hBA hB hB4 c4 HB ui0 ui1 uj0 uj1 ul0 ul1
            go_wp2_with fail
            refine (d4 _ (Kd.C_below HR.out HB4.out)).mono ?_
            rintro en w5 ⟨rfl, hB⟩
            have HB5 := Aside0.mk (HB4.out.trans (hB.mono HB4.out.size))
            clear hB HB4 d4 x0 x1
            by_cases heq : s1 = t2
            · have hq : (s1 == t2) = true := beq_iff_eq.2 heq
              have HCH2 := Aside0.mk (HSTEP.out.1 heq)
              have HT2 : Aside0 (totalTo l u (i + 1) = T + s3) := ⟨HSTEP.out.2.2⟩
              have hb1 : -(1000000000000000 * ((i : Int) + 1)) ≤ T + s3 := by omega
              have hb2 : T + s3 ≤ 1000000000000000 * ((i : Int) + 1) := by omega
              clear heq HSTEP HCH
              go_wp2
              go_roundw
              case rel => exact ⟨i + 1, by omega, by go_num, by rw [HT2.out], by rw [HT2.out]; push_cast; exact hb1, by rw [HT2.out]; push_cast; exact hb2, HCH2, HB5⟩
              case measure => simp [intOf]; omega
            · have hq : (s1 == t2) = false := beq_eq_false_iff_ne.2 heq
              have HNO := Aside0.mk (HSTEP.out.2.1 heq)
              clear heq HSTEP HCH
              go_wp2
              go_ret
              exact ⟨by rw [HE2.out, if_neg HNO.out]; rfl, HB5.out⟩
        · have hiu : i = u.length := by omega
          have hd1 : ¬ (i : Int) < (u.length : Int) := by omega
          have HT : Aside0 (rchainTo l u u.length ∧ totalTo l u i = totalTo l u u.length) := ⟨by have := HCH.out; rwa [hiu] at this, by rw [hiu]⟩
          obtain ⟨T, hT⟩ : ∃ T, totalTo l u i = T := ⟨_, rfl⟩
          rw [hT] at HT ht1 ht2 ⊢
          clear hT hiu HCH
          by_cases hge : 0 ≤ T
          · go_wp2
            go_ret
            exact ⟨by rw [HE2.out, if_pos HT.out.1, ← HT.out.2, if_pos hge]; rfl, HB.out⟩
          · go_wp2
            go_ret
            exact ⟨by rw [HE2.out, if_pos HT.out.1, ← HT.out.2, if_neg (by omega)]; rfl, HB.out⟩
end Go.Proofs.Ytjgnadighdbjlaa.C
