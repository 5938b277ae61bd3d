/- CounterSolves: a net with a contradiction; the law. -/
import Derived.OwnWalk
import Derived.LoopN
import Derived.Laws.AppendOwn
import Derived.Deep.RegionHeld3
import Derived.Test.YtjgnadighdbjlaaEh
namespace Go.Proofs.Ytjgnadighdbjlaa.C
open Go.RowKit Go.Shelf Go.Maps Go.Proofs.YtjgnadighdbjlaaW.PrintWords Go.Proofs.YtjgnadighdbjlaaW.PrintLast Go.Proofs.YtjgnadighdbjlaaW.PrintMore
set_option linter.unusedVariables false
set_option linter.unusedSimpArgs false
theorem C_ucells {w : World} {A : Option Addr} {n : Nat} {x : List Us} {ad : Addr} (h : Kd.C ku w A n x) (hA : A = some ad) : ∀ j u, (ucells x)[j]? = some u → w.cell? (ad.add j) = some u := by
  intro j u hj
  have hjl := (List.getElem?_eq_some_iff.1 hj).1
  rw [ucells_len] at hjl
  have hn : x.length = n := h.1
  have key : ∀ k, k < x.length → (j = k * 2 ∨ j = k * 2 + 1) → w.cell? (ad.add j) = some u := by
    intro k hk hjk
    obtain ⟨ad', e, h0, h1⟩ := C_us h k hk (by omega)
    rw [hA] at e
    cases e
    have hg := ucells_get x k hk
    rcases hjk with rfl | rfl
    · rw [hg.1] at hj
      cases hj
      exact h0
    · rw [hg.2] at hj
      cases hj
      rw [addr_succ]
      exact h1
  exact key (j / 2) (by omega) (by omega)
theorem ucells_take : ∀ (x : List Us) (i : Nat), ucells (x.take i) = (ucells x).take (2 * i)
  | [], i => by simp [ucells]
  | y :: x, 0 => by simp [ucells]
  | y :: x, i + 1 => by
    rw [List.take_succ_cons, ucells, ucells, ucells_take x i, show 2 * (i + 1) = 2 * i + 1 + 1 by omega]
    simp
theorem ucells_drop : ∀ (x : List Us) (i : Nat), ucells (x.drop i) = (ucells x).drop (2 * i)
  | [], i => by simp [ucells]
  | y :: x, 0 => by simp [ucells]
  | y :: x, i + 1 => by
    rw [List.drop_succ_cons, ucells, ucells_drop x i, show 2 * (i + 1) = 2 * i + 1 + 1 by omega]
    simp
theorem ucells_one (x : List Us) : ∀ u ∈ ucells x, u.oneCell' = true := by
  induction x with
  | nil => intro u h; cases h
  | cons y x ih =>
    intro u h
    rcases List.mem_cons.1 h with rfl | h
    · rfl
    · rcases List.mem_cons.1 h with rfl | h
      · rfl
      · exact ih u h
set_option maxHeartbeats 8000000 in
set_option maxRecDepth 100000 in
theorem solves_bad (N : Nat) (A : Option Addr) (c : Nat) (l : List Bd) (w : World) (hr : Kd.C kb w A l.length l) (hl : l.length ≤ 40) (hN1 : 1 ≤ N) (hN2 : N ≤ 16) (h12 : matE N l = 12) :
    Calls Try.prog 6 #[.int .i64 N, .slice A l.length c] w fun e w' => e = .returned (.bool true) ∧ Below w.heap.size w w' := by
  have k11 := fun A' c' w hC => narrow_all N A' c' l w hC
  simp only [h12] at k11
  obtain ⟨L, hL⟩ : ∃ L, matL N l = L := ⟨_, rfl⟩
  simp only [hL] at k11
  have HZ := Aside0.mk h12
  clear hL h12
  have HR := Aside0.mk hr
  clear hr
  have caw := fun w => awake_calls w
  have hd1 : ¬ (40 : Int) < (l.length : Int) := by omega
  have hd2 : ¬ (N : Int) < 1 := by omega
  have hd3 : ¬ (16 : Int) < (N : Int) := by omega
  have c10 := fun w hC => lbounds_calls A c l w hC (by omega)
  have c11 := fun A' c' w hC => k11 A' c' w hC
  have c17 := fun A' c' w hC => contradict_bad N A' c' l w hC HZ.out
  go_enter Try.func6, Try.ntmps6
  go_wp2_with fail
  refine (c10 _ HR.out).mono ?_
  rintro en w1 ⟨v1, rfl, hown, hB⟩
  obtain ⟨Ao, co, rfl, hCo⟩ := own_bounds hown
  have HO := Aside0.mk hCo
  have HB := Aside0.mk hB
  clear hown hB hCo c10
  go_wp2_with fail
  refine (c11 _ _ _ HO.out).mono ?_
  rintro en w2 ⟨A2, c2, rfl, _, hB⟩
  replace HO := Aside0.mk (Kd.C_below HO.out hB)
  replace HB := Aside0.mk (HB.out.trans (hB.mono HB.out.size))
  clear hB c11
  go_wp2_with fail
  refine (c17 _ _ _ HO.out).mono ?_
  rintro en w3 ⟨A3, c3, x, rfl, hCx, hx0, hxc, hB⟩
  replace HO := Aside0.mk (Kd.C_below HO.out hB)
  replace HB := Aside0.mk (HB.out.trans (hB.mono HB.out.size))
  have HX := Aside0.mk hCx
  have HX0 := Aside0.mk hx0
  have hx240 : x.length ≤ 240 := (ref_parts hx0).2.1
  clear hCx hx0
  clear hB c17
  clear k11 HZ
  have c14 := fun Au cu u w h1 h2 => refute_all N Ao co l Au cu u w h1 h2
  have c14x := fun w h1 h2 => refute_all N Ao co l A3 c3 x w h1 h2
  simp only [HX0.out] at c14x
  obtain ⟨i0, hi0, hz0, hz1, hz2⟩ := info_parts info41n
  go_wp2_with fail
  refine (c14x _ HO.out HX.out).mono ?_
  rintro en w4 ⟨rfl, hB⟩
  replace HO := Aside0.mk (Kd.C_below HO.out hB)
  replace HX := Aside0.mk (Kd.C_below HX.out hB)
  replace HB := Aside0.mk (HB.out.trans (hB.mono HB.out.size))
  clear hB c14x
  go_wp2_with fail
  go_loopw [10] (fun v10 wr => ∃ (i : Nat), i ≤ x.length ∧ v10 = .int .i64 i ∧ Aside0 (Below w4.heap.size w4 wr)) (fun v10 _ => x.length - (intOf v10).toNat)
  case atStart => exact ⟨0, by omega, by simp, ⟨Below.refl _ _⟩⟩
  case round =>
    obtain ⟨i, hi, rfl, HI⟩ := hrel
    by_cases hlt : i < x.length ∧ 1 < x.length
    · have hd4 : (i : Int) < (x.length : Int) := by omega
      have hd5 : (1 : Int) < (x.length : Int) := by omega
      have hwi := wrp ((i : Int) + 1) (by omega) (by omega)
      have hi0' : (0 : Int) ≤ (i : Int) := by omega
      have hcs : (x.length : Int) ≤ (c3 : Int) := by omega
      have hic : (i : Int) ≤ (c3 : Int) := by omega
      have hi1 : (i : Int) + 1 ≤ (x.length : Int) := by omega
      have HRL := Aside0.mk (ref_less HX0.out hlt.1 hlt.2)
      have HXr := Aside0.mk (Kd.C_below HX.out HI.out)
      have HOr := Aside0.mk (Kd.C_below HO.out HI.out)
      obtain ⟨hl1, hl2⟩ := hlt
      obtain ⟨ad, rfl, -⟩ := C_us HXr.out i hl1 hl1
      have HCE := Aside0.mk (C_ucells HXr.out rfl)
      have HTK := Aside0.mk (ucells_take x i)
      have HDR := Aside0.mk (ucells_drop x (i + 1))
      have htl : (x.take i).length = i := by rw [List.length_take]; omega
      have hdl : (x.drop (i + 1)).length = x.length - (i + 1) := List.length_drop
      have HTL := Aside0.mk htl
      have HDL := Aside0.mk hdl
      have hbi : (i + (x.length - (i + 1))) * 16 ≤ 140737488355328 := by omega
      have hbj : i * 16 ≤ 140737488355328 := by omega
      clear hl1 hl2 htl hdl
      go_wp2_with (at_builtin; refine wpList_append_own _ rfl _ _ 34 rfl wr.heap.size 41 i0 (.agg #[.int .i64 0, .bool false]) 2 16 Try.underlying34 hi0 hz0 hz1 hz2 rfl (by decide) (.slice none 0 0) 0 [] rfl (own_nil _ _ _ _) ad i c3 (ucells (x.take i)) rfl ?qa1 ?qa2 ?qa3 ?qa4 ?qa5 ?qa6 ?_)
      try (case qa1 => rw [ucells_len, HTL.out])
      try (case qa2 => exact fun j u h => HCE.out j u (by rw [HTK.out, List.getElem?_take] at h; split at h; exact h; cases h))
      try (case qa3 => exact ucells_one _)
      try (case qa4 => unfold maxLen; omega)
      try (case qa5 => omega)
      try (case qa6 => exact Nat.le_refl _)
      intro v2 wz hown2 hg2 hnil2
      have hBz : Below wr.heap.size wr wz := (Below.refl _ _).grown hg2 (Nat.le_refl _) (fun k e => by cases e)
      have HCZ := Aside0.mk (C_ucells (Kd.C_below HXr.out hBz) rfl)
      have hszz := hBz.size
      have HBZ := Aside0.mk hBz
      clear hg2 hnil2 hBz
      have HNEWS : Aside0 (c3 ≠ i + 1 → ∀ j u, (ucells (x.drop (i + 1)))[j]? = some u → wz.cell? ((ad.add ((i + 1) * 2)).add j) = some u) := ⟨fun _ j u h => by
        rw [HDR.out, List.getElem?_drop] at h
        rw [Addr.add_add, show (i + 1) * 2 + j = 2 * (i + 1) + j by omega]
        exact HCZ.out _ _ h⟩
      by_cases hce : c3 = i + 1
      · have hxl : x.length - (i + 1) = 0 := by omega
        have HXL := Aside0.mk hxl
        subst hce
        clear hxl
        go_wp2_with (at_builtin; refine wpList_append_own _ rfl _ _ 34 rfl wr.heap.size 41 i0 (.agg #[.int .i64 0, .bool false]) 2 16 Try.underlying34 hi0 hz0 hz1 hz2 rfl (by decide) v2 i (ucells (x.take i)) rfl hown2 _ 0 _ (ucells (x.drop (i + 1))) rfl ?qb1 ?qb2 ?qb3 ?qb4 ?qb5 ?qb6 ?_)
        try (case qb1 => rw [ucells_len, HDL.out, HXL.out])
        try (case qb2 => exact fun j u h => by rw [HDR.out, List.drop_of_length_le (by rw [ucells_len]; have := HXL.out; omega)] at h; cases h)
        try (case qb3 => exact ucells_one _)
        try (case qb4 => unfold maxLen; omega)
        try (case qb5 => omega)
        try (case qb6 => exact hszz)
        intro v3 wy hown3 hg3 hnil3
        have hBy : Below wr.heap.size wr wy := HBZ.out.trans ((Below.refl wr.heap.size wz).grown hg3 hszz (fun k e => own_base hown2 k e))
        have hown4 : wy.ownsRow wr.heap.size 41 2 v3 (x.take i ++ x.drop (i + 1)).length (ucells (x.take i ++ x.drop (i + 1))) := by
          rw [ucells_append, List.length_append, HTL.out, HDL.out, HXL.out]
          simpa using hown3
        obtain ⟨y, hy⟩ : ∃ y, x.take i ++ x.drop (i + 1) = y := ⟨_, rfl⟩
        rw [hy] at hown4
        have HRY : refuteF N l y = 7 := by rw [← hy]; exact HRL.out
        obtain ⟨A4, c4, rfl, hCy⟩ := own_uses hown4
        have HCY := Aside0.mk hCy
        have HBY := Aside0.mk (HI.out.trans (hBy.mono HI.out.size))
        have c14y := fun w h1 h2 => c14 A4 c4 y w h1 h2
        simp only [HRY] at c14y
        clear hown2 hown3 hown4 hg3 hnil3 hBy hCy hy HRY HRL HBZ HCZ HNEWS
        go_wp2_with fail
        refine (c14y _ (Kd.C_below HO.out HBY.out) HCY.out).mono ?_
        rintro en w6 ⟨rfl, hB⟩
        have HB6 := Aside0.mk (HBY.out.trans (hB.mono HBY.out.size))
        clear hB c14y HCY HBY
        go_wp2
        go_roundw
        case rel => exact ⟨i + 1, by omega, by go_num, HB6⟩
        case measure => simp [intOf]; omega
      · have hcf : ¬ c3 - (i + 1) = 0 := by omega
        have HNW := Aside0.mk (HNEWS.out hce)
        go_wp2_with (at_builtin; refine wpList_append_own _ rfl _ _ 34 rfl wr.heap.size 41 i0 (.agg #[.int .i64 0, .bool false]) 2 16 Try.underlying34 hi0 hz0 hz1 hz2 rfl (by decide) v2 i (ucells (x.take i)) rfl hown2 _ (x.length - (i + 1)) _ (ucells (x.drop (i + 1))) rfl ?qb1 ?qb2 ?qb3 ?qb4 ?qb5 ?qb6 ?_)
        try (case qb1 => rw [ucells_len, HDL.out])
        try (case qb2 => exact HNW.out)
        try (case qb3 => exact ucells_one _)
        try (case qb4 => unfold maxLen; omega)
        try (case qb5 => omega)
        try (case qb6 => exact hszz)
        intro v3 wy hown3 hg3 hnil3
        have hBy : Below wr.heap.size wr wy := HBZ.out.trans ((Below.refl wr.heap.size wz).grown hg3 hszz (fun k e => own_base hown2 k e))
        have hown4 : wy.ownsRow wr.heap.size 41 2 v3 (x.take i ++ x.drop (i + 1)).length (ucells (x.take i ++ x.drop (i + 1))) := by
          rw [ucells_append, List.length_append, HTL.out, HDL.out]
          simpa using hown3
        obtain ⟨y, hy⟩ : ∃ y, x.take i ++ x.drop (i + 1) = y := ⟨_, rfl⟩
        rw [hy] at hown4
        have HRY : refuteF N l y = 7 := by rw [← hy]; exact HRL.out
        obtain ⟨A4, c4, rfl, hCy⟩ := own_uses hown4
        have HCY := Aside0.mk hCy
        have HBY := Aside0.mk (HI.out.trans (hBy.mono HI.out.size))
        have c14y := fun w h1 h2 => c14 A4 c4 y w h1 h2
        simp only [HRY] at c14y
        clear hown2 hown3 hown4 hg3 hnil3 hBy hCy hy HRY HRL HBZ HCZ HNEWS
        go_wp2_with fail
        refine (c14y _ (Kd.C_below HO.out HBY.out) HCY.out).mono ?_
        rintro en w6 ⟨rfl, hB⟩
        have HB6 := Aside0.mk (HBY.out.trans (hB.mono HBY.out.size))
        clear hB c14y HCY HBY
        go_wp2
        go_roundw
        case rel => exact ⟨i + 1, by omega, by go_num, HB6⟩
        case measure => simp [intOf]; omega
    · have HE4 := Aside0.mk (HB.out.trans (HI.out.mono HB.out.size))
      by_cases hd4 : (i : Int) < (x.length : Int)
      · have hd5 : ¬ (1 : Int) < (x.length : Int) := by omega
        clear hlt
        go_wp2_with fail
        refine (caw _).mono ?_
        rintro en w7 ⟨rfl, hB⟩
        have HE := Aside0.mk (HE4.out.trans (hB.mono HE4.out.size))
        clear hB
        go_wp2_with fail
        go_ret
        exact ⟨rfl, HE.out⟩
      · clear hlt
        go_wp2_with fail
        refine (caw _).mono ?_
        rintro en w7 ⟨rfl, hB⟩
        have HE := Aside0.mk (HE4.out.trans (hB.mono HE4.out.size))
        clear hB
        go_wp2_with fail
        go_ret
        exact ⟨rfl, HE.out⟩
set_option maxHeartbeats 4000000 in
set_option maxRecDepth 100000 in
theorem counterSolves_w.calls (n : Int) (A : Option Addr) (c : Nat) (l : List Bd) (w : World) (hr : Kd.C kb w A l.length l) :
    Calls Try.prog 6 #[.int .i64 n, .slice A l.length c] w fun e w' => e = .returned (.bool true) ∧ Below w.heap.size w w' := by
  by_cases hg : l.length ≤ 40 ∧ 1 ≤ n ∧ n ≤ 16
  · obtain ⟨N, rfl⟩ := Int.eq_ofNat_of_zero_le (show 0 ≤ n by omega)
    by_cases h0 : matE N l = 0
    · exact solves_good N A c l w hr hg.1 (by omega) (by omega) h0
    · by_cases h12 : matE N l = 12
      · exact solves_bad N A c l w hr hg.1 (by omega) (by omega) h12
      · exact solves_err N A c l w hr hg.1 (by omega) (by omega) h0 h12
  · have caw := fun w => awake_calls w
    have hlm : l.length ≤ 9223372036854775807 := hr.2.1
    clear hr
    by_cases h1 : (40 : Int) < (l.length : Int)
    · clear hg
      go_enter Try.func6, Try.ntmps6
      go_wp2_with fail
      refine (caw _).mono ?_
      rintro en w1 ⟨rfl, hB⟩
      go_wp2_with fail
      go_ret
      exact ⟨rfl, hB⟩
    · by_cases h2 : n < 1
      · clear hg
        go_enter Try.func6, Try.ntmps6
        go_wp2_with fail
        refine (caw _).mono ?_
        rintro en w1 ⟨rfl, hB⟩
        go_wp2_with fail
        go_ret
        exact ⟨rfl, hB⟩
      · have h3 : (16 : Int) < n := by omega
        clear hg
        go_enter Try.func6, Try.ntmps6
        go_wp2_with fail
        refine (caw _).mono ?_
        rintro en w1 ⟨rfl, hB⟩
        go_wp2_with fail
        go_ret
        exact ⟨rfl, hB⟩
end Go.Proofs.Ytjgnadighdbjlaa.C
