/- CounterTurns: the law's walk. -/
import Derived.OwnWalk
import Derived.BigRegion
import Derived.Deep.CutRange
import Derived.Deep.Cut
import Derived.Maps.AppendAt
import Derived.Deep.RegionHeld3
import Derived.Test.YtjgnadighdbjlaaEi
namespace Go.Proofs.Ytjgnadighdbjlaa.C
open Go.RowKit Go.Shelf Go.Maps Go.Proofs.YtjgnadighdbjlaaW.PrintWords Go.Proofs.YtjgnadighdbjlaaW.PrintLast Go.Proofs.YtjgnadighdbjlaaW.PrintMore
set_option linter.unusedVariables false
set_option linter.unusedSimpArgs false
attribute [local go_sem high] max2_m min2_m
/-- Two rows that are owned, in blocks of their own. -/
structure Two (W : World) (B : Nat) (vd vl : Value) (n m : Nat) (xs ys : List Value) : Prop where
  d : W.ownsRow B 3 1 vd n xs
  l : W.ownsRow B 3 1 vl m ys
  ne : ∀ k, vd.ownBlock = some k → vl.ownBlock ≠ some k
theorem Two.keep {W X : World} {B n m : Nat} {vd vl : Value} {xs ys : List Value} (h : Two W B vd vl n m xs ys) (hB : Below W.heap.size W X) : Two X B vd vl n m xs ys := ⟨own_keep h.d hB, own_keep h.l hB, h.ne⟩
theorem Two.left {W Y : World} {ob : Obj} {B n m n' : Nat} {vd vl v2 : Value} {xs ys xs' : List Value} (h : Two W B vd vl n m xs ys) (hown : Y.ownsRow B 3 1 v2 n' xs') (hg : (W.alloc ob).grownBy Y vd.ownBlock) (hat : v2.ownBlock = vd.ownBlock ∨ v2.ownBlock = some (W.heap.size + 1)) : Two Y B v2 vl n' m xs' ys :=
  ⟨hown, own_move h.l (fun k hk => (hg.block k (by have := own_lt h.l k hk; simp; omega) (fun e => h.ne k e.symm hk)).trans (Below.heap_alloc _ _ _ (own_lt h.l k hk))), fun k hk hk2 => by
    rcases hat with e | e
    · rw [e] at hk; exact h.ne k hk hk2
    · rw [e] at hk; cases hk; have := own_lt h.l _ hk2; omega⟩
theorem Two.right {W Y : World} {ob : Obj} {B n m m' : Nat} {vd vl v2 : Value} {xs ys ys' : List Value} (h : Two W B vd vl n m xs ys) (hown : Y.ownsRow B 3 1 v2 m' ys') (hg : (W.alloc ob).grownBy Y vl.ownBlock) (hat : v2.ownBlock = vl.ownBlock ∨ v2.ownBlock = some (W.heap.size + 1)) : Two Y B vd v2 n m' xs ys' :=
  ⟨own_move h.d (fun k hk => (hg.block k (by have := own_lt h.d k hk; simp; omega) (fun e => h.ne k hk e.symm)).trans (Below.heap_alloc _ _ _ (own_lt h.d k hk))), hown, fun k hk hk2 => by
    rcases hat with e | e
    · rw [e] at hk2; exact h.ne k hk hk2
    · rw [e] at hk2; cases hk2; have := own_lt h.d _ hk; omega⟩
theorem map_next (f : Nat → Int) (i : Nat) : icells ((List.range (i + 1)).map f) = icells ((List.range i).map f) ++ [.int .i64 (f i)] := by
  rw [List.range_succ, List.map_append]; simp
set_option maxHeartbeats 16000000 in
set_option maxRecDepth 100000 in
theorem turns_main (F O J G R D I seed bg : Int) (A : Option Addr) (c : Nat) (ch : List Int) (w : World) (hr : Kd.C (Kd.int .i64) w A ch.length ch) (hk : okC F O J G R D I = true) (hlen : ch.length ≤ 40) (hX : 0 ≤ R / 2 - 2 * (J + G / 2) - 1) :
    Calls Try.prog 5 #[.agg #[.int .i64 F, .int .i64 O, .int .i64 J, .int .i64 G, .int .i64 R, .int .i64 D, .int .i64 I], .int .u64 seed, .int .i64 bg, .slice A ch.length c] w fun e w' => e = .returned (.bool true) ∧ Below w.heap.size w w' := by
  have HR := Aside0.mk hr
  clear hr
  have hv := Below.refl w.heap.size w
  have caw := fun w => awake_calls w
  have c1 := fun w => Check_calls F O J G R D I w
  rw [hk, if_pos rfl] at c1
  have HK := CtrOk.of hk
  have HKK := Aside0.mk HK
  have HOK := Aside0.mk hk
  have hfr := HK.f; have hor := HK.o; have hjr := HK.j; have hgr := HK.g; have hrr := HK.r; have hdr := HK.d
  have hF1 : decide (F < 1) = false := decide_eq_false (by omega)
  have hD1 : decide (D < 1) = false := decide_eq_false (by omega)
  have h40 : ¬ (40 : Int) < (ch.length : Int) := by omega
  obtain ⟨i0, hi0, hz0, hz1, hz2⟩ := info_parts info3n
  have hDz : D ≠ 0 := by omega
  have hDz2 : (D == 0) = false := beq_eq_false_iff_ne.2 hDz
  have hFz : F ≠ 0 := by omega
  have hFz2 : (F == 0) = false := beq_eq_false_iff_ne.2 hFz
  have hRz : R ≠ 0 := by omega
  have hRz2 : (R == 0) = false := beq_eq_false_iff_ne.2 hRz
  have tG := Int.tdiv_eq_ediv_of_nonneg (a := G) (by omega) (b := 2)
  have tR := Int.tdiv_eq_ediv_of_nonneg (a := R) (by omega) (b := 2)
  have wG2 := wr (G / 2) (by omega) (by omega)
  have wR2 := wr (R / 2) (by omega) (by omega)
  have wf1 := wr (J + G / 2) (by omega) (by omega)
  obtain ⟨f, hf⟩ : ∃ f, J + G / 2 = f := ⟨_, rfl⟩
  have hf0 : 0 ≤ f ∧ f ≤ 1500000000 := by omega
  rw [hf] at hX wf1
  have wf2 := wr (2 * f) (by omega) (by omega)
  have wf3 := wr (-2 * f) (by omega) (by omega)
  have wf4 := wr (R / 2 - 2 * f) (by omega) (by omega)
  have wf5 := wr (R / 2 - 2 * f - 1) (by omega) (by omega)
  obtain ⟨X, hXX⟩ : ∃ X, R / 2 - 2 * f - 1 = X := ⟨_, rfl⟩
  rw [hXX] at hX wf5
  have tX := Int.tdiv_eq_ediv_of_nonneg (a := X) hX (b := F)
  have q1 := Int.mul_ediv_add_emod X F
  have q2 := Int.emod_nonneg X (b := F) (by omega)
  have q3 : 0 ≤ X / F := Int.ediv_nonneg hX (by omega)
  have q4 : X / F ≤ X := Int.ediv_le_self _ hX
  obtain ⟨Y, hY⟩ : ∃ Y, X / F = Y := ⟨_, rfl⟩
  rw [hY] at tX q1 q3 q4
  have wY := wr Y (by omega) (by omega)
  have hX0 : decide (X < 0) = false := decide_eq_false (by omega)
  have hY0 : decide (Y < 0) = false := decide_eq_false (by omega)
  obtain ⟨far, hfar⟩ : ∃ far, min Y 1000000000000 = far := ⟨_, rfl⟩
  have hfar2 : (if 1000000000000 < Y then (1000000000000 : Int) else Y) = far := by split <;> omega
  have hfa : 0 ≤ far ∧ far ≤ 1000000000000 ∧ far ≤ Y := by omega
  have hFf : F * far ≤ F * Y := Int.mul_le_mul_of_nonneg_left hfa.2.2 (by omega)
  have hjj : F * far + 2 * (J + G / 2) < R / 2 := by rw [hf]; omega
  have wa1 := wr (2 * far) (by omega) (by omega)
  have wa2 := wr (2 * far + 1) (by omega) (by omega)
  have td1 := Int.tmod_lt_of_pos bg (show (0 : Int) < 100000000000000 by omega)
  have td2 : -100000000000000 < bg.tmod 100000000000000 := by
    have h2 := Int.tmod_lt_of_pos (-bg) (show (0 : Int) < 100000000000000 by omega)
    rw [Int.neg_tmod] at h2
    omega
  obtain ⟨δ, hδ⟩ : ∃ δ, bg.tmod 100000000000000 = δ := ⟨_, rfl⟩
  rw [hδ] at td1 td2
  have wδ := wr δ (by omega) (by omega)
  have HUNW := Aside0.mk (turns_unw (seed := seed) (d0 := δ) (far := far) hk hfa.1 hfa.2.1 hjj ch (ch.length + 1) (by omega))
  have HTWO := Aside0.mk (turns_two (seed := seed) (d0 := δ) (far := far) HK hfa.1 hfa.2.1 ⟨by omega, by omega⟩ hjj ch (ch.length + 1) (by omega))
  have HDB : Aside0 (∀ i : Nat, i ≤ 41 → -150000000000000 ≤ dAt δ far ch i ∧ dAt δ far ch i ≤ 150000000000000) := ⟨fun i hi => by
    have := dAt_bound (d0 := δ) (M := 1000000000000) hfa.1 hfa.2.1 ⟨by omega, by omega⟩ ch i
    omega⟩
  rw [hf] at HTWO
  have tD := Int.tdiv_eq_ediv_of_nonneg (a := 1000000) (by omega) (b := D)
  have HSEC : Aside0 (∀ i : Int, 0 ≤ i → 0 ≤ i * D % ((1000000 / D + 1) * D) ∧ i * D % ((1000000 / D + 1) * D) ≤ 1000000 ∧ i * D % ((1000000 / D + 1) * D) % D = 0) := ⟨fun i hi => sec_ok (by omega) hi⟩
  obtain ⟨K, hK⟩ : ∃ K, (1000000 : Int) / D = K := ⟨_, rfl⟩
  have hK0 : 0 ≤ K := by rw [← hK]; exact Int.ediv_nonneg (by omega) (by omega)
  have hK1 : K ≤ 1000000 := by rw [← hK]; exact Int.ediv_le_self _ (by omega)
  have m1 : 0 ≤ K * D := Int.mul_nonneg hK0 (by omega)
  have m2 : K * D ≤ 1000000 * 100000 := Int.mul_le_mul hK1 hdr.2 (by omega) (by omega)
  have HKE : Aside0 ((1000000 / D + 1) * D = K * D + D) := ⟨by rw [hK, Int.add_mul, Int.one_mul]⟩
  rw [hK] at tD
  have wK := wr K (by omega) (by omega)
  obtain ⟨KD, hKD⟩ : ∃ x, K * D = x := ⟨_, rfl⟩
  rw [hKD] at m1 m2
  have HKD := Aside0.mk hKD
  have wKD := wr KD (by omega) (by omega)
  have wKD1 := wr (KD + D) (by omega) (by omega)
  have hMz : KD + D ≠ 0 := by omega
  have hMz2 : (KD + D == 0) = false := beq_eq_false_iff_ne.2 hMz
  have HF := Aside0.mk hf
  have HFAR := Aside0.mk hfa
  clear hK q1 q2 q4 hY hFf hjj hk HK hor hjr hgr hK0 hK1 hX
  go_enter Try.func5, Try.ntmps5
  go_wp2_with fail
  obtain ⟨w100, hw100⟩ : ∃ w100, (w.alloc (.cells #[.int .i64 F, .int .i64 O, .int .i64 J, .int .i64 G, .int .i64 R, .int .i64 D, .int .i64 I] 49)).alloc (.cells #[.int .i64 F, .int .i64 O, .int .i64 J, .int .i64 G, .int .i64 R, .int .i64 D, .int .i64 I] 51) = w100 := ⟨_, rfl⟩
  try rw [hw100]
  have hB : Below w.heap.size w w100 := by rw [← hw100]; exact ((Below.refl _ w).alloc (by first | exact Nat.le_refl _ | (simp; done) | (simp; omega)) _).alloc (by first | exact Nat.le_refl _ | (simp; done) | (simp; omega)) _
  have kx : w100.heap[w.heap.size]? = some (.cells #[.int .i64 F, .int .i64 O, .int .i64 J, .int .i64 G, .int .i64 R, .int .i64 D, .int .i64 I] 49 (0, 0)) := by rw [← hw100]; exact al_old (al_new _ _ _ (by first | rfl | (simp; done) | (simp; omega)))
  have x0 : w100.cell? ⟨w.heap.size, 0, none⟩ = some (.int .i64 F) := blk_cell kx 0
  have x1 : w100.cell? ⟨w.heap.size, 1, none⟩ = some (.int .i64 O) := blk_cell kx 1
  have x2 : w100.cell? ⟨w.heap.size, 2, none⟩ = some (.int .i64 J) := blk_cell kx 2
  have x3 : w100.cell? ⟨w.heap.size, 3, none⟩ = some (.int .i64 G) := blk_cell kx 3
  have x4 : w100.cell? ⟨w.heap.size, 4, none⟩ = some (.int .i64 R) := blk_cell kx 4
  have x5 : w100.cell? ⟨w.heap.size, 5, none⟩ = some (.int .i64 D) := blk_cell kx 5
  have x6 : w100.cell? ⟨w.heap.size, 6, none⟩ = some (.int .i64 I) := blk_cell kx 6
  have ky : w100.heap[w.heap.size + 1]? = some (.cells #[.int .i64 F, .int .i64 O, .int .i64 J, .int .i64 G, .int .i64 R, .int .i64 D, .int .i64 I] 51 (0, 0)) := by rw [← hw100]; exact al_new _ _ _ (by first | rfl | (simp; done) | (simp; omega))
  have y0 : w100.cell? ⟨w.heap.size + 1, 0, none⟩ = some (.int .i64 F) := blk_cell ky 0
  have y1 : w100.cell? ⟨w.heap.size + 1, 1, none⟩ = some (.int .i64 O) := blk_cell ky 1
  have y2 : w100.cell? ⟨w.heap.size + 1, 2, none⟩ = some (.int .i64 J) := blk_cell ky 2
  have y3 : w100.cell? ⟨w.heap.size + 1, 3, none⟩ = some (.int .i64 G) := blk_cell ky 3
  have y4 : w100.cell? ⟨w.heap.size + 1, 4, none⟩ = some (.int .i64 R) := blk_cell ky 4
  have y5 : w100.cell? ⟨w.heap.size + 1, 5, none⟩ = some (.int .i64 D) := blk_cell ky 5
  have y6 : w100.cell? ⟨w.heap.size + 1, 6, none⟩ = some (.int .i64 I) := blk_cell ky 6
  replace hv := hv.trans (hB.mono hv.size)
  clear hB hw100
  have hx := World.block_lt_of_cell? _ _ x0
  have hy := World.block_lt_of_cell? _ _ y0
  refine (c1 _).mono ?_
  rintro en w101 ⟨rfl, hB⟩
  replace x0 := cell_on hB x0
  replace x1 := cell_on hB x1
  replace x2 := cell_on hB x2
  replace x3 := cell_on hB x3
  replace x4 := cell_on hB x4
  replace x5 := cell_on hB x5
  replace x6 := cell_on hB x6
  replace y0 := cell_on hB y0
  replace y1 := cell_on hB y1
  replace y2 := cell_on hB y2
  replace y3 := cell_on hB y3
  replace y4 := cell_on hB y4
  replace y5 := cell_on hB y5
  replace y6 := cell_on hB y6
  replace hv := hv.trans (hB.mono hv.size)
  clear hB c1
  go_wp2_with fail
  clear hx hy
  have HBW : Aside0 (Below w.heap.size w w101) := ⟨hv⟩
  go_loopw [14, 15, 16, 17] (fun v14 v15 v16 v17 wr => ∃ (i : Nat) (dv : Int) (vd vl : Value), i ≤ ch.length + 1 ∧ v17 = .int .i64 i ∧ v14 = .int .i64 dv ∧ vd = v15 ∧ vl = v16 ∧ Aside0 (dv = dAt δ far ch (i - 1)) ∧ Aside0 (Two wr w101.heap.size vd vl i i (icells ((List.range i).map (dAt δ far ch))) (icells (mList F O J G R D I seed δ far ch i)) ∧ Below w101.heap.size w101 wr)) (fun _ _ _ v17 _ => ch.length + 1 - (intOf v17).toNat)
  case atStart => exact ⟨0, δ, _, _, by omega, by simp, rfl, rfl, rfl, ⟨rfl⟩, ⟨⟨own_nil _ _ _ _, own_nil _ _ _ _, fun k h => by cases h⟩, Below.refl _ _⟩⟩
  case round =>
    clear hv
    obtain ⟨i, dv, vd, vl, hi, rfl, rfl, rfl, rfl, HDV, HI⟩ := hrel
    have hx0 := World.block_lt_of_cell? _ _ x0
    have hy0 := World.block_lt_of_cell? _ _ y0
    by_cases hlt : i ≤ ch.length
    · have hd1 : (i : Int) ≤ (ch.length : Int) := by omega
      have hwi := wrp ((i : Int) + 1) (by omega) (by omega)
      have hdvb : -150000000000000 ≤ dv ∧ dv ≤ 150000000000000 := by rw [HDV.out]; exact HDB.out _ (by omega)
      replace x0 := cell_on HI.out.2 x0
      replace x1 := cell_on HI.out.2 x1
      replace x2 := cell_on HI.out.2 x2
      replace x3 := cell_on HI.out.2 x3
      replace x4 := cell_on HI.out.2 x4
      replace x5 := cell_on HI.out.2 x5
      replace x6 := cell_on HI.out.2 x6
      replace y0 := cell_on HI.out.2 y0
      replace y1 := cell_on HI.out.2 y1
      replace y2 := cell_on HI.out.2 y2
      replace y3 := cell_on HI.out.2 y3
      replace y4 := cell_on HI.out.2 y4
      replace y5 := cell_on HI.out.2 y5
      replace y6 := cell_on HI.out.2 y6
      obtain ⟨d, hd⟩ : ∃ d, dAt δ far ch i = d := ⟨_, rfl⟩
      have hdb : -150000000000000 ≤ d ∧ d ≤ 150000000000000 := by rw [← hd]; exact HDB.out _ (by omega)
      have HD := Aside0.mk hd
      clear hd
      go_upto_if 94 with fail
      go_cut [14] from 87 to 138 (fun s14 wx => s14 = .int .i64 d ∧ Below wr.heap.size wr wx)
      case first =>
        by_cases h0 : i = 0
        · have hi0f : ¬ (0 : Int) < (i : Int) := by omega
          have hdf : decide ((0 : Int) < (i : Int)) = false := decide_eq_false hi0f
          have HE : Aside0 (dv = d) := ⟨by rw [HDV.out, ← HD.out, h0]⟩
          clear h0
          go_wp2
          go_meet
          exact ⟨by rw [HE.out], Below.refl _ _⟩
        · have hi0t : (0 : Int) < (i : Int) := by omega
          have hi01 : 0 < i := by omega
          have hdt : decide ((0 : Int) < (i : Int)) = true := decide_eq_true hi0t
          obtain ⟨j, hj1, hj2⟩ : ∃ j : Nat, i ≤ j + 1 ∧ j + 1 ≤ i := ⟨i - 1, by omega, by omega⟩
          have hij : (i : Int) - 1 = (j : Int) := by omega
          have hwj := wrp (j : Int) (by omega) (by omega)
          have hjl : j < ch.length := by omega
          have hj0 : (0 : Int) ≤ (j : Int) := by omega
          have hjl2 : (j : Int) < (ch.length : Int) := by omega
          obtain ⟨ad, rfl, hcj⟩ := C_int (Kd.C_below HR.out (HBW.out.trans (HI.out.2.mono HBW.out.size))) j hjl
          have HG : Aside0 (ch.getD j 0 = ch[j]) := ⟨by rw [List.getD_eq_getElem?_getD, List.getElem?_eq_getElem hjl]; rfl⟩
          obtain ⟨cv, hcv⟩ : ∃ cv, ch[j] = cv := ⟨_, rfl⟩
          rw [hcv] at hcj HG
          have cpk := fun w => pick_calls cv (2 * far + 1) w (by omega) (by omega)
          have p1 := Int.emod_nonneg cv (b := 2 * far + 1) (by omega)
          have p2 := Int.emod_lt_of_pos cv (show 0 < 2 * far + 1 by omega)
          have HE : Aside0 (d = dv + (cv % (2 * far + 1) - far)) := ⟨by
            rw [← HD.out, HDV.out, show i = j + 1 by omega, show j + 1 - 1 = j by omega, dAt, HG.out]⟩
          obtain ⟨p, hp⟩ : ∃ p, cv % (2 * far + 1) = p := ⟨_, rfl⟩
          rw [hp] at cpk p1 p2 HE
          have wp1 := C.wr (p - far) (by omega) (by omega)
          have wp2 := C.wr (dv + (p - far)) (by omega) (by omega)
          clear hcv hp h0 hj1 hj2 hjl
          go_wp2_with fail
          refine (cpk _).mono ?_
          rintro en wp ⟨rfl, hB⟩
          clear cpk
          go_wp2
          go_meet
          exact ⟨by rw [HE.out], hB⟩
      case rest =>
        obtain ⟨rfl, hB⟩ := hcut
        have HT : Aside0 (Two wc w101.heap.size vd vl i i (icells ((List.range i).map (dAt δ far ch))) (icells (mList F O J G R D I seed δ far ch i)) ∧ Below w101.heap.size w101 wc) := ⟨HI.out.1.keep hB, HI.out.2.trans (hB.mono HI.out.2.size)⟩
        replace x0 := cell_on hB x0
        replace x1 := cell_on hB x1
        replace x2 := cell_on hB x2
        replace x3 := cell_on hB x3
        replace x4 := cell_on hB x4
        replace x5 := cell_on hB x5
        replace x6 := cell_on hB x6
        replace y0 := cell_on hB y0
        replace y1 := cell_on hB y1
        replace y2 := cell_on hB y2
        replace y3 := cell_on hB y3
        replace y4 := cell_on hB y4
        replace y5 := cell_on hB y5
        replace y6 := cell_on hB y6
        clear hB HI HDV hdvb hx0 hy0
        have hiD : (i : Int) * D ≤ 41 * 100000 := Int.mul_le_mul (by omega) hdr.2 (by omega) (by omega)
        have hiD0 : 0 ≤ (i : Int) * D := Int.mul_nonneg (by omega) (by omega)
        have hsec := HSEC.out (i : Int) (by omega)
        have tS := Int.tmod_eq_emod_of_nonneg hiD0 (b := KD + D)
        have HSE : Aside0 ((i : Int) * D % ((1000000 / D + 1) * D) = (i : Int) * D % (KD + D)) := ⟨by rw [HKE.out, HKD.out]⟩
        rw [HSE.out] at hsec
        obtain ⟨S, hS⟩ : ∃ S, (i : Int) * D % (KD + D) = S := ⟨_, rfl⟩
        have HML : Aside0 (mL F O J G R D I seed δ far ch i = showF F O J G R I seed S d) := ⟨by unfold mL; rw [HSE.out, hS, HD.out]⟩
        rw [hS] at tS hsec
        have wiD := C.wr ((i : Int) * D) (by omega) (by omega)
        have wS := C.wr S (by omega) (by omega)
        obtain ⟨iD, hiDD⟩ : ∃ x, (i : Int) * D = x := ⟨_, rfl⟩
        rw [hiDD] at wiD tS
        have csh := fun w => Show_calls F O J G R D I seed S d w
        rw [turns_show HOK.out hsec ⟨by omega, by omega⟩] at csh
        simp only at csh
        obtain ⟨M, hM⟩ : ∃ M, showF F O J G R I seed S d = M := ⟨_, rfl⟩
        rw [hM] at csh HML
        clear hM hS hsec hiD hiD0 HSE
        have hx0 := World.block_lt_of_cell? _ _ x0
        have hy0 := World.block_lt_of_cell? _ _ y0
        have hvc := Below.refl wc.heap.size wc
        go_wp2_with fail
        have hS : ∀ w', Below wc.heap.size wc w' → ((w'.cell? ⟨w.heap.size, 0, none⟩ = some (.int .i64 F) ∧ w'.cell? ⟨w.heap.size, 1, none⟩ = some (.int .i64 O) ∧ w'.cell? ⟨w.heap.size, 2, none⟩ = some (.int .i64 J) ∧ w'.cell? ⟨w.heap.size, 3, none⟩ = some (.int .i64 G) ∧ w'.cell? ⟨w.heap.size, 4, none⟩ = some (.int .i64 R) ∧ w'.cell? ⟨w.heap.size, 5, none⟩ = some (.int .i64 D) ∧ w'.cell? ⟨w.heap.size, 6, none⟩ = some (.int .i64 I) ∧ w'.cell? ⟨w.heap.size + 1, 0, none⟩ = some (.int .i64 F) ∧ w'.cell? ⟨w.heap.size + 1, 1, none⟩ = some (.int .i64 O) ∧ w'.cell? ⟨w.heap.size + 1, 2, none⟩ = some (.int .i64 J) ∧ w'.cell? ⟨w.heap.size + 1, 3, none⟩ = some (.int .i64 G) ∧ w'.cell? ⟨w.heap.size + 1, 4, none⟩ = some (.int .i64 R) ∧ w'.cell? ⟨w.heap.size + 1, 5, none⟩ = some (.int .i64 D) ∧ w'.cell? ⟨w.heap.size + 1, 6, none⟩ = some (.int .i64 I)) ∧ Below wc.heap.size wc w') := fun w' hB => ⟨⟨cell_on hB x0, cell_on hB x1, cell_on hB x2, cell_on hB x3, cell_on hB x4, cell_on hB x5, cell_on hB x6, cell_on hB y0, cell_on hB y1, cell_on hB y2, cell_on hB y3, cell_on hB y4, cell_on hB y5, cell_on hB y6⟩, hB⟩
        go_region_held3 (fun w' => (w'.cell? ⟨w.heap.size, 0, none⟩ = some (.int .i64 F) ∧ w'.cell? ⟨w.heap.size, 1, none⟩ = some (.int .i64 O) ∧ w'.cell? ⟨w.heap.size, 2, none⟩ = some (.int .i64 J) ∧ w'.cell? ⟨w.heap.size, 3, none⟩ = some (.int .i64 G) ∧ w'.cell? ⟨w.heap.size, 4, none⟩ = some (.int .i64 R) ∧ w'.cell? ⟨w.heap.size, 5, none⟩ = some (.int .i64 D) ∧ w'.cell? ⟨w.heap.size, 6, none⟩ = some (.int .i64 I) ∧ w'.cell? ⟨w.heap.size + 1, 0, none⟩ = some (.int .i64 F) ∧ w'.cell? ⟨w.heap.size + 1, 1, none⟩ = some (.int .i64 O) ∧ w'.cell? ⟨w.heap.size + 1, 2, none⟩ = some (.int .i64 J) ∧ w'.cell? ⟨w.heap.size + 1, 3, none⟩ = some (.int .i64 G) ∧ w'.cell? ⟨w.heap.size + 1, 4, none⟩ = some (.int .i64 R) ∧ w'.cell? ⟨w.heap.size + 1, 5, none⟩ = some (.int .i64 D) ∧ w'.cell? ⟨w.heap.size + 1, 6, none⟩ = some (.int .i64 I)) ∧ Below wc.heap.size wc w') (first | exact hS _ (Below.refl _ _).drew | assumption | (have hh := ‹(_ ∧ _ ∧ _ ∧ _ ∧ _ ∧ _ ∧ _ ∧ _ ∧ _ ∧ _ ∧ _ ∧ _ ∧ _ ∧ _) ∧ Below wc.heap.size wc _›; exact hS _ (hh.2.trans (hB.mono hh.2.size))))
          (first | (go_at_call 20; refine (csh _).mono ?_; rintro e w' ⟨rfl, hB⟩))
        rename_i hHeld
        have hB := hHeld.2
        clear hHeld hS csh
        rename World => w99
        replace x0 := cell_on hB x0
        replace x1 := cell_on hB x1
        replace x2 := cell_on hB x2
        replace x3 := cell_on hB x3
        replace x4 := cell_on hB x4
        replace x5 := cell_on hB x5
        replace x6 := cell_on hB x6
        replace y0 := cell_on hB y0
        replace y1 := cell_on hB y1
        replace y2 := cell_on hB y2
        replace y3 := cell_on hB y3
        replace y4 := cell_on hB y4
        replace y5 := cell_on hB y5
        replace y6 := cell_on hB y6
        replace hvc := hvc.trans (hB.mono hvc.size)
        clear hB
        have hB99 := Aside0.mk hvc
        clear hvc hx0 hy0
        replace HT := Aside0.mk (⟨HT.out.1.keep hB99.out, HT.out.2.trans (hB99.out.mono HT.out.2.size)⟩ : Two w99 _ _ _ _ _ _ _ ∧ Below w101.heap.size w101 w99)
        clear hB99
        have hownA : (w99.alloc (.cells #[.int .i64 d] 3)).ownsRow w101.heap.size 3 1 vd i (icells ((List.range i).map (dAt δ far ch))) := own_move HT.out.1.d (fun k hk => Below.heap_alloc _ _ k (own_lt HT.out.1.d k hk))
        have hs9 := HT.out.2.size
        go_wp2_with (at_builtin; refine wpList_append_own_at _ rfl _ _ 59 rfl w101.heap.size 3 i0 (.int .i64 0) 1 8 Try.underlying59 hi0 hz0 hz1 hz2 rfl (by decide) vd i (icells ((List.range i).map (dAt δ far ch))) rfl hownA ⟨w99.heap.size, 0, none⟩ 1 1 [.int .i64 d] rfl ?qa1 ?qa2 ?qa3 ?qa4 ?qa5 ?qa6 ?_)
        try (case qa1 => rfl)
        try (case qa2 => exact World.news_of_block (cs := #[.int .i64 d]) (t := 3) (fr := (0, 0)) (al_new _ _ _ rfl))
        try (case qa3 => first | rfl | simp [Value.oneCell'])
        try (case qa4 => unfold maxLen; omega)
        try (case qa5 => omega)
        try (case qa6 => first | omega | (simp; omega))
        intro v2 wz hown2 hg2 hnil2 hat2
        have HT2 : Aside0 (Two wz w101.heap.size v2 vl (i + 1) i (icells ((List.range (i + 1)).map (dAt δ far ch))) (icells (mList F O J G R D I seed δ far ch i)) ∧ Below w101.heap.size w101 wz) := ⟨HT.out.1.left (by have e := hown2; rw [← List.map_map] at e; rw [map_next, HD.out]; exact e) hg2 hat2, (HT.out.2.alloc hs9 _).grown hg2 (by simp; omega) (fun k e => own_base hownA k e)⟩
        clear hown2 hg2 hnil2 hat2 hownA HT hs9
        have hownB : (wz.alloc (.cells #[.int .i64 M] 3)).ownsRow w101.heap.size 3 1 vl i (icells (mList F O J G R D I seed δ far ch i)) := own_move HT2.out.1.l (fun k hk => Below.heap_alloc _ _ k (own_lt HT2.out.1.l k hk))
        have hs9 := HT2.out.2.size
        go_wp2_with (at_builtin; refine wpList_append_own_at _ rfl _ _ 59 rfl w101.heap.size 3 i0 (.int .i64 0) 1 8 Try.underlying59 hi0 hz0 hz1 hz2 rfl (by decide) vl i (icells (mList F O J G R D I seed δ far ch i)) rfl hownB ⟨wz.heap.size, 0, none⟩ 1 1 [.int .i64 M] rfl ?qb1 ?qb2 ?qb3 ?qb4 ?qb5 ?qb6 ?_)
        try (case qb1 => rfl)
        try (case qb2 => exact World.news_of_block (cs := #[.int .i64 M]) (t := 3) (fr := (0, 0)) (al_new _ _ _ rfl))
        try (case qb3 => first | rfl | simp [Value.oneCell'])
        try (case qb4 => unfold maxLen; omega)
        try (case qb5 => omega)
        try (case qb6 => first | omega | (simp; omega))
        intro v3 wy hown3 hg3 hnil3 hat3
        have HN : Aside0 (Two wy w101.heap.size v2 v3 (i + 1) (i + 1) (icells ((List.range (i + 1)).map (dAt δ far ch))) (icells (mList F O J G R D I seed δ far ch (i + 1))) ∧ Below w101.heap.size w101 wy) := ⟨HT2.out.1.right (by unfold mList; rw [map_next, HML.out]; exact hown3) hg3 hat3, (HT2.out.2.alloc hs9 _).grown hg3 (by simp; omega) (fun k e => own_base hownB k e)⟩
        have HDN : Aside0 (d = dAt δ far ch (i + 1 - 1)) := ⟨by rw [show i + 1 - 1 = i by omega, HD.out]⟩
        clear hown3 hg3 hnil3 hat3 hownB HT2 hs9
        go_wp2
        go_roundw
        case rel => exact ⟨i + 1, d, v2, v3, by omega, by go_num, rfl, rfl, rfl, HDN, HN⟩
        case measure => simp [intOf]; omega
    · have hin : i = ch.length + 1 := by omega
      have hd1 : ¬ (i : Int) ≤ (ch.length : Int) := by omega
      obtain ⟨n, hn⟩ : ∃ n, ch.length + 1 = n := ⟨_, rfl⟩
      have hn41 : n ≤ 41 := by omega
      have hi1 : i = n := by omega
      have HN1 := Aside0.mk hi1
      have HT := HI.out.1
      rw [hi1] at HT
      rw [hn] at HUNW HTWO
      obtain ⟨DL, hDL⟩ : ∃ DL, (List.range n).map (dAt δ far ch) = DL := ⟨_, rfl⟩
      obtain ⟨ML, hML⟩ : ∃ ML, mList F O J G R D I seed δ far ch n = ML := ⟨_, rfl⟩
      have hDLl : DL.length = n := by rw [← hDL]; simp
      have hMLl : ML.length = n := by rw [← hML]; simp [mList]
      have HDG : Aside0 (∀ j (h : j < DL.length), DL[j] = dAt δ far ch j) := ⟨fun j h => by subst hDL; simp⟩
      have HMG : Aside0 (∀ j (h : j < ML.length), ML[j] = mL F O J G R D I seed δ far ch j) := ⟨fun j h => by subst hML; simp [mList]⟩
      rw [hDL, hML] at HT
      rw [hML] at HUNW HTWO
      obtain ⟨Ad, cd, e1, hCd⟩ := own_ints (l := DL) (by rw [hDLl]; exact HT.d)
      obtain ⟨Al, cl, e2, hCl⟩ := own_ints (l := ML) (by rw [hMLl]; exact HT.l)
      subst e1 e2
      have cU := fun w hC => Unwrap_calls F O J G R D I Al cl ML far w hC
      simp only [HUNW.out.1, HUNW.out.2] at cU
      obtain ⟨U, hU⟩ : ∃ U, unwL R ML = U := ⟨_, rfl⟩
      have hUl : U.length = n := by rw [← hU]; simp [unwL, hMLl]
      have HUG : Aside0 (∀ j (h : j < U.length), U[j] = unwAt R ML j) := ⟨fun j h => by subst hU; simp [unwL]⟩
      simp only [hU, hMLl, hUl] at cU
      rw [hDLl] at hCd
      rw [hMLl] at hCl
      have HCd := Aside0.mk hCd
      have HCl := Aside0.mk hCl
      have HDLl := Aside0.mk hDLl
      have HMLl := Aside0.mk hMLl
      have HUl := Aside0.mk hUl
      have HBE := Aside0.mk (HBW.out.trans (HI.out.2.mono HBW.out.size))
      rw [hDLl, hMLl]
      replace x0 := cell_on HI.out.2 x0
      replace x1 := cell_on HI.out.2 x1
      replace x2 := cell_on HI.out.2 x2
      replace x3 := cell_on HI.out.2 x3
      replace x4 := cell_on HI.out.2 x4
      replace x5 := cell_on HI.out.2 x5
      replace x6 := cell_on HI.out.2 x6
      replace y0 := cell_on HI.out.2 y0
      replace y1 := cell_on HI.out.2 y1
      replace y2 := cell_on HI.out.2 y2
      replace y3 := cell_on HI.out.2 y3
      replace y4 := cell_on HI.out.2 y4
      replace y5 := cell_on HI.out.2 y5
      replace y6 := cell_on HI.out.2 y6
      clear hn hin hlt hDL hML hCd hCl hU HT HI hDLl hMLl hUl HUNW hi HDV
      have hx0 := World.block_lt_of_cell? _ _ x0
      have hy0 := World.block_lt_of_cell? _ _ y0
      go_wp2_with fail
      refine (cU _ HCl.out).mono ?_
      rintro en wU ⟨A', c', rfl, hCU, hB⟩
      replace x0 := cell_on hB x0
      replace x1 := cell_on hB x1
      replace x2 := cell_on hB x2
      replace x3 := cell_on hB x3
      replace x4 := cell_on hB x4
      replace x5 := cell_on hB x5
      replace x6 := cell_on hB x6
      replace y0 := cell_on hB y0
      replace y1 := cell_on hB y1
      replace y2 := cell_on hB y2
      replace y3 := cell_on hB y3
      replace y4 := cell_on hB y4
      replace y5 := cell_on hB y5
      replace y6 := cell_on hB y6
      replace HCd := Aside0.mk (Kd.C_below HCd.out hB)
      replace HCl := Aside0.mk (Kd.C_below HCl.out hB)
      have HCU := Aside0.mk hCU
      replace HBE := Aside0.mk (HBE.out.trans (hB.mono HBE.out.size))
      clear hB hCU cU
      go_wp2_with fail
      go_loopw [22] (fun v22 wr => ∃ (b : Nat), b ≤ n ∧ v22 = .int .i64 b ∧ Aside0 (Below wU.heap.size wU wr)) (fun v22 _ => n - (intOf v22).toNat)
      case atStart => exact ⟨0, by omega, by simp, ⟨Below.refl _ _⟩⟩
      case round =>
        obtain ⟨p, hp, rfl, HP⟩ := hrel
        by_cases hpl : p < n
        · have hdp : (p : Int) < (n : Int) := by omega
          have hwp := wrp ((p : Int) + 1) (by omega) (by omega)
          have hp0 : (0 : Int) ≤ (p : Int) := by omega
          have hpp := HTWO.out.1 p hpl
          obtain ⟨up, hup⟩ : ∃ u, unwAt R ML p = u := ⟨_, rfl⟩
          obtain ⟨dp, hdpp⟩ : ∃ u, dAt δ far ch p = u := ⟨_, rfl⟩
          obtain ⟨mp, hmp⟩ : ∃ u, mL F O J G R D I seed δ far ch p = u := ⟨_, rfl⟩
          have hmr := mL_range (seed := seed) (d0 := δ) (far := far) HKK.out ch p
          rw [hup, hmp, hdpp] at hpp
          rw [hmp] at hmr
          have HUP := Aside0.mk hup
          have HDP := Aside0.mk hdpp
          have HMP := Aside0.mk hmp
          clear hup hdpp hmp
          go_wp2_with fail
          go_loopw [23] (fun v23 wr => ∃ (b : Nat), b ≤ p ∧ v23 = .int .i64 b ∧ Aside0 (Below wU.heap.size wU wr)) (fun v23 _ => p - (intOf v23).toNat)
          case atStart => exact ⟨0, by omega, by simp, HP⟩
          case round =>
            clear HP
            obtain ⟨q, hq, rfl, HQ⟩ := hrel
            by_cases hql : q < p
            · have hdq : (q : Int) < (p : Int) := by omega
              have hdq2 : (q : Int) < (n : Int) := by omega
              have hwq := wrp ((q : Int) + 1) (by omega) (by omega)
              have hq0 : (0 : Int) ≤ (q : Int) := by omega
              have hqq := HTWO.out.1 q (by omega)
              have hpq := HTWO.out.2 p q hpl (by omega)
              rw [HUP.out, HDP.out] at hpq
              obtain ⟨au, rfl, u1⟩ := C_int (by rw [HUl.out]; exact Kd.C_below HCU.out HQ.out) p (by rw [HUl.out]; exact hpl)
              obtain ⟨au', e, u2⟩ := C_int (by rw [HUl.out]; exact Kd.C_below HCU.out HQ.out) q (by rw [HUl.out]; omega)
              cases e
              obtain ⟨ad, rfl, d1⟩ := C_int (by rw [HDLl.out]; exact Kd.C_below HCd.out HQ.out) p (by rw [HDLl.out]; exact hpl)
              obtain ⟨ad', e, d2⟩ := C_int (by rw [HDLl.out]; exact Kd.C_below HCd.out HQ.out) q (by rw [HDLl.out]; omega)
              cases e
              rw [HUG.out] at u1 u2
              rw [HDG.out] at d1 d2
              rw [HUP.out] at u1
              rw [HDP.out] at d1
              obtain ⟨uq, hup⟩ : ∃ u, unwAt R ML q = u := ⟨_, rfl⟩
              obtain ⟨dq, hdpp⟩ : ∃ u, dAt δ far ch q = u := ⟨_, rfl⟩
              rw [hup, hdpp] at hpq
              rw [hup, hdpp] at hqq
              rw [hup] at u2
              rw [hdpp] at d2
              have v1 := cell_on HQ.out x0
              have b1 := C.wr (up - uq) (by omega) (by omega)
              have b2 := C.wr (dp - dq) (by omega) (by omega)
              have b3 := C.wr (F * (dp - dq)) (by omega) (by omega)
              have b4 := C.wr (up - uq - F * (dp - dq)) (by omega) (by omega)
              have t1 : decide (up - uq - F * (dp - dq) < -2 * f) = false := decide_eq_false (by omega)
              have t2 : decide (2 * f < up - uq - F * (dp - dq)) = false := decide_eq_false (by omega)
              clear hup hdpp hqq hpq
              go_wp2_with fail
              go_region
              all_goals
                go_wp2
                go_roundw
                case rel => exact ⟨q + 1, by omega, by go_num, ⟨by first | exact HQ.out.drew | exact HQ.out⟩⟩
                case measure => simp [intOf]; omega
            · obtain rfl : q = p := by omega
              have hdq : ¬ (q : Int) < (q : Int) := by omega
              obtain ⟨au, rfl, u1⟩ := C_int (by rw [HUl.out]; exact Kd.C_below HCU.out HQ.out) q (by rw [HUl.out]; exact hpl)
              obtain ⟨al, rfl, l1⟩ := C_int (by rw [HMLl.out]; exact Kd.C_below HCl.out HQ.out) q (by rw [HMLl.out]; exact hpl)
              rw [HUG.out, HUP.out] at u1
              rw [HMG.out, HMP.out] at l1
              have v1 := cell_on HQ.out x4
              have b1 := C.wr (up - mp) (by omega) (by omega)
              have b2 := hpp.2.2.1
              go_wp2_with fail
              go_region
              all_goals
                go_wp2
                go_roundw
                case rel => exact ⟨q + 1, by omega, by go_num, ⟨by first | exact HQ.out.drew | exact HQ.out⟩⟩
                case measure => simp [intOf]; omega
        · obtain rfl : p = n := by omega
          have hdp : ¬ (p : Int) < (p : Int) := by omega
          go_wp2_with fail
          refine (caw _).mono ?_
          rintro en w9 ⟨rfl, hB⟩
          have HE := Aside0.mk (HBE.out.trans ((HP.out.trans (hB.mono HP.out.size)).mono HBE.out.size))
          clear hB
          go_wp2_with fail
          go_ret
          exact ⟨rfl, HE.out⟩
end Go.Proofs.Ytjgnadighdbjlaa.C
