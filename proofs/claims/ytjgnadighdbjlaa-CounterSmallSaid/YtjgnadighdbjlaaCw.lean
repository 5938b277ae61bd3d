/- The contract of Narrow, by hand. -/
import Derived.OwnWalk
import Derived.Deep.CutRange
import Derived.StillTailTactics
import Derived.Deep.RegionHeld3
import Derived.Test.YtjgnadighdbjlaaCv
namespace Go.Proofs.Ytjgnadighdbjlaa.C
open Go.RowKit Go.Shelf Go.Maps Go.Proofs.YtjgnadighdbjlaaW.PrintWords Go.Proofs.YtjgnadighdbjlaaW.PrintLast Go.Proofs.YtjgnadighdbjlaaW.PrintMore
set_option linter.unusedVariables false
set_option linter.unusedSimpArgs false
theorem nodup_inj {l : List Nat} (h : l.Nodup) {a b r : Nat} (ha : l[a]? = some r) (hb : l[b]? = some r) : a = b := by
  obtain ⟨ha1, ha2⟩ := List.getElem?_eq_some_iff.1 ha
  obtain ⟨hb1, hb2⟩ := List.getElem?_eq_some_iff.1 hb
  have hp := List.pairwise_iff_getElem.1 h
  rcases Nat.lt_trichotomy a b with hlt | e | hlt
  · exact absurd (ha2.trans hb2.symm) (hp a b ha1 hb1 hlt)
  · exact e
  · exact absurd (hb2.trans ha2.symm) (hp b a hb1 ha1 hlt)
theorem Mx.at {W : World} {base g cap n N : Nat} {rs : List Nat} {D : Nat → Nat → Int} (h : Mx W base (.slice (some ⟨g, 0, none⟩) N cap) n rs D) (hl : rs.length = N) {a : Nat} (ha : a < N) :
    ∃ r, rs[a]? = some r ∧ W.cell? ⟨g, a, none⟩ = some (.slice (some ⟨r, 0, none⟩) n n) ∧ (∀ b, b < n → W.cell? ⟨r, b, none⟩ = some (.int .i64 (D a b))) ∧ (∀ b, W.frozen? ⟨r, b, none⟩ = false) ∧ base ≤ r := by
  subst hl
  refine ⟨rs[a], List.getElem?_eq_getElem ha, ?_, fun b hb => ?_, fun b => blk_frozen (h.row a _ (List.getElem?_eq_getElem ha)) b, h.ge _ (List.getElem_mem ha)⟩
  · have hc := h.own.cells (g := g) rfl a (.slice (some ⟨rs[a], 0, none⟩) n n) (by simp [refV, ha])
    rwa [show (⟨g, 0, none⟩ : Addr).add a = ⟨g, a, none⟩ by unfold Addr.add; split <;> simp_all] at hc
  · have := blk_cell (h.row a _ (List.getElem?_eq_getElem ha)) b
    rw [this]
    simpa using rowV_get (f := D a) hb
theorem Mx.congr {W : World} {base n : Nat} {v : Value} {rs : List Nat} {D E : Nat → Nat → Int} (h : Mx W base v n rs D) (he : ∀ a b, a < rs.length → b < n → E a b = D a b) : Mx W base v n rs E :=
  ⟨h.own, fun a r hr => by
    rw [h.row a r hr]
    have : rowV n (D a) = rowV n (E a) := List.map_congr_left fun b hb => by rw [he a b (List.getElem?_eq_some_iff.1 hr).1 (by simpa using hb)]
    rw [this], h.nd, h.ge⟩
theorem Mx.put {W : World} {base n : Nat} {v : Value} {rs : List Nat} {D E : Nat → Nat → Int} (h : Mx W base v n rs D) {a b r : Nat} {x : Int} (hr : rs[a]? = some r) (hb : b < n) (he : ∀ a' b', a' < rs.length → b' < n → E a' b' = if a' = a ∧ b' = b then x else D a' b') :
    Mx (W.setCell ⟨r, b, none⟩ (.int .i64 x)) base v n rs E := by
  have hrow := h.row a r hr
  refine ⟨own_move h.own (fun k hk => Below.heap_setCell _ _ _ k (fun e => ?_)), fun a' r' hr' => ?_, h.nd, h.ge⟩
  · obtain ⟨cells, hc⟩ := own_typed h.own k hk
    simp at e
    subst e
    rw [hc] at hrow; cases hrow
  · have ha' := (List.getElem?_eq_some_iff.1 hr').1
    by_cases e : a' = a
    · subst e
      rw [hr] at hr'
      cases hr'
      exact blk_put hrow b _ (rowV_set hb (fun c hc => by rw [he a' c ha' hc]; simp))
    · have hne : r' ≠ r := fun e' => e (by subst e'; exact nodup_inj h.nd hr' hr)
      rw [blk_far (h.row a' r' hr') (by simpa using hne) _]
      have : rowV n (D a') = rowV n (E a') := List.map_congr_left fun c hc => by rw [he a' c ha' (by simpa using hc), if_neg (fun h => e h.1)]
      rw [this]
/-- A use narrows. -/
def useStep (D : Nat → Nat → Int) (s : Int × Int × Int) : Nat → Nat → Int := fun a b => if a = s.1.toNat ∧ b = s.2.1.toNat then min (D a b) s.2.2 else D a b
def mat0 (i : Nat) : Nat → Nat → Int := fun a b => if a = b ∧ a < i then 0 else 100000000000000000
def mat1 (l : List Bd) (n i : Nat) : Nat → Nat → Int := ((usesL l.length).take i).foldl (fun D u => useStep D (sideF l u)) (mat0 n)
/-- A round of the shortest ways. -/
def fwStep (k : Nat) (D : Nat → Nat → Int) : Nat → Nat → Int := fun a b => if D a k < 100000000000000000 ∧ D k b < 100000000000000000 then min (D a b) (D a k + D k b) else D a b
def fwIt (D : Nat → Nat → Int) : Nat → Nat → Nat → Int
  | 0 => D
  | k + 1 => fwStep k (fwIt D k)
def mixB (k a b : Nat) (D : Nat → Nat → Int) : Nat → Nat → Int := fun a' b' => if a' < a ∨ (a' = a ∧ b' < b) then fwStep k D a' b' else D a' b'
theorem fwStep_col {k a : Nat} {D : Nat → Nat → Int} (h : D k k = 0) : fwStep k D a k = D a k := by unfold fwStep; rw [h]; split <;> omega
theorem fwStep_row {k b : Nat} {D : Nat → Nat → Int} (h : D k k = 0) : fwStep k D k b = D k b := by unfold fwStep; rw [h]; split <;> omega
theorem mixB_at {k a b : Nat} {D : Nat → Nat → Int} : mixB k a b D a b = D a b := by unfold mixB; rw [if_neg (by omega)]
theorem mixB_col {k a b : Nat} {D : Nat → Nat → Int} (h : D k k = 0) : mixB k a b D a k = D a k := by unfold mixB; split; exact fwStep_col h; rfl
theorem mixB_row {k a b c : Nat} {D : Nat → Nat → Int} (h : D k k = 0) : mixB k a b D k c = D k c := by unfold mixB; split; exact fwStep_row h; rfl
theorem mixB_next {k a b : Nat} {D : Nat → Nat → Int} (a' b' : Nat) : mixB k a (b + 1) D a' b' = if a' = a ∧ b' = b then fwStep k D a b else mixB k a b D a' b' := by
  unfold mixB
  by_cases h : a' = a ∧ b' = b
  · obtain ⟨rfl, rfl⟩ := h; rw [if_pos (by omega), if_pos ⟨rfl, rfl⟩]
  · rw [if_neg h]
    by_cases h2 : a' < a ∨ (a' = a ∧ b' < b)
    · rw [if_pos (by omega), if_pos h2]
    · rw [if_neg (by omega), if_neg h2]
/-- All rounds leave the diagonal at 0 or above. -/
def okFw (N : Nat) (D : Nat → Nat → Int) : Prop := ∀ k, k ≤ N → ∀ a, a < N → 0 ≤ fwIt D k a a
theorem mat1_succ {l : List Bd} {n i : Nat} {u : Us} (h : (usesL l.length)[i]? = some u) : mat1 l n (i + 1) = useStep (mat1 l n i) (sideF l u) := by
  unfold mat1
  obtain ⟨hi, rfl⟩ := List.getElem?_eq_some_iff.1 h
  rw [List.take_add_one, List.getElem?_eq_getElem hi, List.foldl_append]
  rfl
theorem usesL_get (m i : Nat) (h : i < 2 * m) : (usesL m)[i]? = some (((i / 2 : Nat) : Int), decide (i % 2 = 0)) := by
  induction m with
  | zero => omega
  | succ m ih =>
    rw [usesL_succ, List.getElem?_append, usesL_len]
    split
    · rename_i hlt; exact ih hlt
    · rename_i hlt
      have : i = 2 * m ∨ i = 2 * m + 1 := by omega
      rcases this with rfl | rfl
      · simp
      · rw [show 2 * m + 1 - 2 * m = 1 by omega]
        simp
        omega
theorem side_ok {l : List Bd} {N i : Nat} {u : Us} (hcl : ∀ x ∈ l, 0 ≤ x.1 ∧ x.1 < N ∧ 0 ≤ x.2.1 ∧ x.2.1 < N) (hsp : SpanOk l) (hi : i < 2 * l.length) (hu : (usesL l.length)[i]? = some u) :
    0 ≤ u.1 ∧ u.1 < l.length ∧ ∃ (p q : Nat) (L : Int), sideF l u = ((p : Int), (q : Int), L) ∧ p < N ∧ q < N ∧ -1000000000000000 ≤ L ∧ L ≤ 1000000000000000 := by
  rw [usesL_get _ _ hi] at hu
  cases hu
  have hlt : i / 2 < l.length := by omega
  refine ⟨by simp only; omega, by simp only; omega, ?_⟩
  rw [sideF_at hlt]
  have h1 := hcl _ (List.getElem_mem hlt)
  have h2 := hsp _ (List.getElem_mem hlt)
  generalize l[i / 2] = x at *
  unfold sideB
  split
  · exact ⟨x.1.toNat, x.2.1.toNat, x.2.2.2, by rw [Int.toNat_of_nonneg (by omega), Int.toNat_of_nonneg (by omega)], by omega, by omega, by omega, by omega⟩
  · exact ⟨x.2.1.toNat, x.1.toNat, -x.2.2.1, by rw [Int.toNat_of_nonneg (by omega), Int.toNat_of_nonneg (by omega)], by omega, by omega, by omega, by omega⟩
theorem own_cell {w : World} {base : Nat} {e : TypeId} {size n : Nat} {v : Value} {xs : List Value} (h : w.ownsRow base e size v n xs) {r b : Nat} {cs : Array Value} {t : TypeId} (hr : w.heap[r]? = some (.cells cs t (0, 0))) (ht : e ≠ t) (u : Value) : (w.setCell ⟨r, b, none⟩ u).ownsRow base e size v n xs :=
  own_move h (fun k hk => Below.heap_setCell _ _ _ k (fun e' => by
    obtain ⟨cells, hc⟩ := own_typed h k hk
    simp at e'
    subst e'
    rw [hc] at hr
    injection hr with hr
    injection hr with _ hr
    exact ht hr))
set_option maxHeartbeats 4000000 in
set_option maxRecDepth 100000 in
theorem narrow_main (N : Nat) (A : Option Addr) (c : Nat) (l : List Bd) (w : World) (hr : Kd.C kb w A l.length l) (hck : checkedF N l = 0) (hN1 : 1 ≤ N) (hN2 : N ≤ 16) (hll : l.length ≤ 240) (hsp : SpanOk l)
    (M : Nat) (hM : 2 * l.length = M) (D1 : Nat → Nat → Int) (hD1 : mat1 l N M = D1) (hcl : ∀ x ∈ l, 0 ≤ x.1 ∧ x.1 < N ∧ 0 ≤ x.2.1 ∧ x.2.1 < N) (hbd : ∀ i a b, a < N → b < N → mat1 l N i a b ≤ 100000000000000000 ∧ -100000000000000000 ≤ mat1 l N i a b)
    (hd0 : ∀ a, a < N → 0 ≤ D1 a a)
    (hfw : ∀ k, k < N → (∀ j, j ≤ k → ∀ a, a < N → 0 ≤ fwIt (D1) j a a) → (∀ a b, a < N → b < N → fwIt (D1) k a b < 100000000000000000 → -20000000000000000 ≤ fwIt (D1) k a b ∧ fwIt (D1) k a b ≤ 20000000000000000) ∧ fwIt (D1) k k k = 0) :
    Calls Try.prog 11 #[.int .i64 N, .slice A l.length c] w fun e w' => ∃ v E, e = .returned (.tuple #[v, .int .i64 E]) ∧ (okFw N (D1) → E = 0 ∧ ∃ base rs, w.heap.size ≤ base ∧ rs.length = N ∧ Mx w' base v N rs (fwIt (D1) N)) ∧ (¬ okFw N (D1) → E = 12 ∧ v = .slice none 0 0) ∧ Below w.heap.size w w' := by
  have hv := Below.refl w.heap.size w
  have HR := Aside0.mk hr
  have HCL := Aside0.mk hcl
  have HSP := Aside0.mk hsp
  have HBD := Aside0.mk hbd
  have HD0 := Aside0.mk hd0
  have HFW := Aside0.mk hfw
  have HMM := Aside0.mk hM
  have HDD := Aside0.mk hD1
  have hM480 : M ≤ 480 := by omega
  have hulen : (usesL l.length).length = M := by rw [usesL_len, hM]
  have c1 := fun w hC => checked_calls N A c l w hC
  rw [hck] at c1
  have c2 := fun w => filled_calls N 100000000000000000 w hN1 hN2
  have c3 := fun w => uses_calls A c l.length w (by omega)
  rw [hM] at c3
  clear hr hcl hsp hbd hd0 hfw hck hM hD1
  go_enter Try.func11, Try.ntmps11
  go_wp2_with fail
  refine (c1 _ HR.out).mono ?_
  rintro en w1 ⟨rfl, hB⟩
  replace hv := hv.trans hB
  clear hB c1
  go_wp2_with fail
  refine (c2 _).mono ?_
  rintro en w2 ⟨v, rs, rfl, hrs, hM, hB⟩
  obtain ⟨base, hbase⟩ : ∃ base, w1.heap.size = base := ⟨_, rfl⟩
  rw [hbase] at hM
  have hbw : w.heap.size ≤ base := by have := hv.size; omega
  replace hv := hv.trans (hB.mono hv.size)
  obtain ⟨g, cap, rfl⟩ : ∃ g cap, v = .slice (some ⟨g, 0, none⟩) N cap := by
    rcases hM.own.2 with ⟨_, h0⟩ | ⟨g, cap, cur, e, h1, _⟩
    · omega
    · exact ⟨g, cap, by rw [e, hrs]⟩
  have HM0 : Aside0 (Mx w2 base (.slice (some ⟨g, 0, none⟩) N cap) N rs (mat0 0)) := ⟨hM.congr (fun a b _ _ => by unfold mat0; rw [if_neg (by omega)])⟩
  have HV0 := Aside0.mk hv
  have HRS := Aside0.mk hrs
  clear hB c2 hM hbase hv hrs
  go_wp2_with fail
  go_loopw [27] (fun v27 wr => ∃ i : Nat, i ≤ N ∧ v27 = .int .i64 i ∧ Aside0 (Mx wr base (.slice (some ⟨g, 0, none⟩) N cap) N rs (mat0 i)) ∧ Aside0 (Below w.heap.size w wr)) (fun v27 _ => N - (intOf v27).toNat)
  case atStart => exact ⟨0, by omega, by simp, HM0, HV0⟩
  case round =>
    clear HM0 HV0
    obtain ⟨i, hi, rfl, HM, HV⟩ := hrel
    by_cases hlt : i < N
    · have hd1 : (i : Int) < (N : Int) := by omega
      have hwi := wrp ((i : Int) + 1) (by omega) (by omega)
      obtain ⟨r, hr1, hc1, hc2, hc3, hge⟩ := HM.out.at HRS.out hlt
      have hc2' := hc2 i hlt
      have hc3' := hc3 i
      have HN : Aside0 (Mx (wr.setCell ⟨r, i, none⟩ (.int .i64 0)) base (.slice (some ⟨g, 0, none⟩) N cap) N rs (mat0 (i + 1))) := ⟨HM.out.put hr1 hlt (fun a b ha hb => by
        unfold mat0
        by_cases h1 : a = i ∧ b = i
        · rw [if_pos (by omega), if_pos h1]
        · rw [if_neg h1]
          by_cases h2 : a = b ∧ a < i
          · rw [if_pos (by omega), if_pos h2]
          · rw [if_neg (by omega), if_neg h2])⟩
      have HV2 : Aside0 (Below w.heap.size w (wr.setCell ⟨r, i, none⟩ (.int .i64 0))) := ⟨HV.out.setCell (by simp; omega) _⟩
      clear hc2 hc3 HM HV hr1
      go_wp2
      go_roundw
      case rel => exact ⟨i + 1, by omega, by go_num, HN, HV2⟩
      case measure => simp [intOf]; omega
    · have hiN : N = i := by omega
      subst hiN
      have hd1 : ¬ (N : Int) < (N : Int) := by omega
      go_wp2_with fail
      refine (c3 _).mono ?_
      rintro en w3 ⟨vu, rfl, hown, hB⟩
      obtain ⟨bu, hbu⟩ : ∃ bu, wr.heap.size = bu := ⟨_, rfl⟩
      rw [hbu] at hown
      obtain ⟨Au, cu, e, hU⟩ := own_uses (l := usesL l.length) (by rw [hulen]; exact hown)
      rw [hulen] at e
      subst e
      have HOU0 := Aside0.mk hown
      have HV3 := Aside0.mk (HV.out.trans (hB.mono HV.out.size))
      have HM3 : Aside0 (Mx w3 base (.slice (some ⟨g, 0, none⟩) N cap) N rs (mat1 l N 0)) := ⟨HM.out.below hB⟩
      have HUL := Aside0.mk hulen
      clear hown hU HM HV hB c3 hbu hulen
      go_wp2_with fail
      go_loopw [40] (fun v40 wr => ∃ i : Nat, i ≤ M ∧ v40 = .int .i64 i ∧ Aside0 (Mx wr base (.slice (some ⟨g, 0, none⟩) N cap) N rs (mat1 l N i)) ∧ Aside0 (Below w.heap.size w wr) ∧ Aside0 (wr.ownsRow bu 41 2 (.slice Au M cu) M (ucells (usesL l.length)))) (fun v40 _ => M - (intOf v40).toNat)
      case atStart => exact ⟨0, by omega, by simp, HM3, HV3, HOU0⟩
      case round =>
        clear HM3 HV3 HOU0
        obtain ⟨i, hi', rfl, HM, HV, HOU⟩ := hrel
        by_cases hltM : i < M
        · have hd1 : (i : Int) < (M : Int) := by omega
          have hwi := wrp ((i : Int) + 1) (by omega) (by omega)
          obtain ⟨A2, c2', e, hU⟩ := own_uses (l := usesL l.length) (by rw [HUL.out]; exact HOU.out)
          rw [HUL.out] at e
          cases e
          obtain ⟨u, hu⟩ : ∃ u, (usesL l.length)[i]? = some u := ⟨_, List.getElem?_eq_getElem (by rw [HUL.out]; exact hltM)⟩
          obtain ⟨ad, rfl, hu1, hu2⟩ := C_us hU i (by rw [HUL.out]; exact hltM) (by rw [HUL.out]; exact hltM)
          rw [show (usesL l.length)[i]'(by rw [HUL.out]; exact hltM) = u from (List.getElem?_eq_some_iff.1 hu).2] at hu1 hu2
          obtain ⟨k0, k1, p, q, L, hs, hp, hq, hL1, hL2⟩ := side_ok HCL.out HSP.out (by rw [HMM.out]; exact hltM) hu
          have HSU := Aside0.mk (mat1_succ (n := N) hu)
          obtain ⟨k, b⟩ := u
          simp only at hu1 hu2 k0 k1
          have c4 := fun w hC => side_calls k b A c l w hC HSP.out k0 k1
          rw [hs] at c4 HSU
          unfold sideV at c4
          simp only at c4
          have hsz := HV.out.size
          obtain ⟨rp, hrp, hop, hcp, hfp, hge⟩ := HM.out.at HRS.out hp
          have hcq := hcp q hq
          have hfq := hfp q
          have hbq := HBD.out i p q hp hq
          have HRP := Aside0.mk hrp
          have HROW := Aside0.mk (HM.out.row p rp hrp)
          obtain ⟨x, hx⟩ : ∃ x, mat1 l N i p q = x := ⟨_, rfl⟩
          rw [hx] at hcq hbq
          obtain ⟨y, hy⟩ : ∃ y, min x L = y := ⟨_, rfl⟩
          have hmn : (if L < x then L else x) = y := by rw [← hy]; split <;> omega
          have HY : Aside0 (min (mat1 l N i p q) L = y) := ⟨by rw [hx]; exact hy⟩
          have HCW := Aside0.mk (Kd.C_below HR.out HV.out)
          have hrl := (Array.getElem?_eq_some_iff.1 HROW.out).1
          have hgl := World.block_lt_of_cell? _ _ hop
          clear hcp hfp hrp hs hx hy hu hU k0 k1
          go_wp2_with fail
          have hBA : Below wr.heap.size wr (wr.alloc (.cells #[.int .i64 k, .bool b] 41)) := (Below.refl _ _).alloc (Nat.le_refl _) _
          refine (c4 _ (Kd.C_below HCW.out hBA)).mono ?_
          rintro en w4 ⟨rfl, hB⟩
          have hB4 := hBA.trans (hB.mono (by simp))
          replace hop := cell_on hB4 hop
          replace hcq := cell_on hB4 hcq
          have hfq4 : w4.frozen? ⟨rp, q, none⟩ = false := blk_frozen (blk_on hB4 HROW.out) q
          have HM4 := Aside0.mk (HM.out.below hB4)
          have HV4 := Aside0.mk (HV.out.trans (hB4.mono hsz))
          have HOU4 := Aside0.mk (own_keep HOU.out hB4)
          have HROW4 := Aside0.mk (blk_on hB4 HROW.out)
          clear hfq hB hB4 hBA c4 HM HV HOU HROW HCW hu1 hu2 hrl hgl
          go_wp2_with fail
          have hcd : w4.drew.cell? ⟨rp, q, none⟩ = some (.int .i64 x) := hcq
          have hfd : w4.drew.frozen? ⟨rp, q, none⟩ = false := hfq4
          go_still_tail 15, (by kernel_rfl)
          change wpList _ _ _ _ _ w4.drew
          have HW5 : Aside0 (Mx (w4.drew.setCell ⟨rp, q, none⟩ (.int .i64 y)) base (.slice (some ⟨g, 0, none⟩) N cap) N rs (mat1 l N (i + 1))) := ⟨(HM4.out.below (Below.refl _ _).drew).put HRP.out hq (fun a' b' _ _ => by
            rw [HSU.out]
            unfold useStep
            simp only [Int.toNat_natCast]
            by_cases h : a' = p ∧ b' = q
            · rw [if_pos h, if_pos h, h.1, h.2, HY.out]
            · rw [if_neg h, if_neg h])⟩
          have HV5 : Aside0 (Below w.heap.size w (w4.drew.setCell ⟨rp, q, none⟩ (.int .i64 y))) := ⟨HV4.out.drew.setCell (by simp; omega) _⟩
          have HOU5 : Aside0 ((w4.drew.setCell ⟨rp, q, none⟩ (.int .i64 y)).ownsRow bu 41 2 (.slice (some ad) M cu) M (ucells (usesL l.length))) := ⟨own_cell (own_keep HOU4.out (Below.refl _ _).drew) (by exact HROW4.out) (by decide) _⟩
          go_wp2
          go_roundw
          case rel => exact ⟨i + 1, by omega, by go_num, HW5, HV5, HOU5⟩
          case measure => simp [intOf]; omega
        · have hiM : M = i := by omega
          subst hiM
          have hd1 : ¬ (M : Int) < (M : Int) := by omega
          have HM0 : Aside0 (Mx wr base (.slice (some ⟨g, 0, none⟩) N cap) N rs (fwIt D1 0)) := ⟨by have := HM.out; rwa [HDD.out] at this⟩
          have HG0 : Aside0 (∀ j, j ≤ 0 → ∀ a, a < N → 0 ≤ fwIt D1 j a a) := ⟨fun j hj a ha => by
            have hj0 : j = 0 := by omega
            subst hj0
            exact HD0.out a ha⟩
          have HV0 := Aside0.mk HV.out
          clear HM HV HOU
          go_wp2_with fail
          go_loopw [68] (fun v68 wr => ∃ k : Nat, k ≤ N ∧ v68 = .int .i64 k ∧ Aside0 (Mx wr base (.slice (some ⟨g, 0, none⟩) N cap) N rs (fwIt D1 k)) ∧ Aside0 (Below w.heap.size w wr) ∧ Aside0 (∀ j, j ≤ k → ∀ a, a < N → 0 ≤ fwIt D1 j a a)) (fun v68 _ => N - (intOf v68).toNat)
          case atStart => exact ⟨0, by omega, by simp, HM0, HV0, HG0⟩
          case round =>
            clear HM0 HV0 HG0
            obtain ⟨k, hk, rfl, HM, HV, HG⟩ := hrel
            by_cases hltk : k < N
            · have hd1 : (k : Int) < (N : Int) := by omega
              have hwk := wrp ((k : Int) + 1) (by omega) (by omega)
              have HNX : Aside0 (fwStep k (fwIt D1 k) = fwIt D1 (k + 1)) := ⟨rfl⟩
              have HFK := Aside0.mk (HFW.out k hltk HG.out)
              obtain ⟨Dk, hDk⟩ : ∃ Dk, fwIt D1 k = Dk := ⟨_, rfl⟩
              rw [hDk] at HM HNX HFK
              clear hDk
              have HMA : Aside0 (Mx wr base (.slice (some ⟨g, 0, none⟩) N cap) N rs (mixB k 0 0 Dk)) := ⟨HM.out.congr (fun a b _ _ => by unfold mixB; rw [if_neg (by omega)])⟩
              have HVA := Aside0.mk HV.out
              clear HM HV
              go_wp2_with fail
              go_loopw [72] (fun v72 wr => ∃ a : Nat, a ≤ N ∧ v72 = .int .i64 a ∧ Aside0 (Mx wr base (.slice (some ⟨g, 0, none⟩) N cap) N rs (mixB k a 0 Dk)) ∧ Aside0 (Below w.heap.size w wr)) (fun v72 _ => N - (intOf v72).toNat)
              case atStart => exact ⟨0, by omega, by simp, HMA, HVA⟩
              case round =>
                clear HMA HVA
                obtain ⟨a, ha, rfl, HM, HV⟩ := hrel
                by_cases hlta : a < N
                · have hd2 : (a : Int) < (N : Int) := by omega
                  have hwa := wrp ((a : Int) + 1) (by omega) (by omega)
                  have HMB := Aside0.mk HM.out
                  have HVB := Aside0.mk HV.out
                  clear HM HV
                  go_wp2_with fail
                  go_loopw [76] (fun v76 wr => ∃ b : Nat, b ≤ N ∧ v76 = .int .i64 b ∧ Aside0 (Mx wr base (.slice (some ⟨g, 0, none⟩) N cap) N rs (mixB k a b Dk)) ∧ Aside0 (Below w.heap.size w wr)) (fun v76 _ => N - (intOf v76).toNat)
                  case atStart => exact ⟨0, by omega, by simp, HMB, HVB⟩
                  case round =>
                    clear HMB HVB
                    obtain ⟨b, hb, rfl, HM, HV⟩ := hrel
                    by_cases hltb : b < N
                    · have hd3 : (b : Int) < (N : Int) := by omega
                      have hwb := wrp ((b : Int) + 1) (by omega) (by omega)
                      obtain ⟨ra, hra, hoa, hca, hfa, hga⟩ := HM.out.at HRS.out hlta
                      obtain ⟨rk, hrk, hok, hck, _, _⟩ := HM.out.at HRS.out hltk
                      have h1 := hca k hltk
                      have h2 := hck b hltb
                      have h3 := hca b hltb
                      have h3f := hfa b
                      rw [mixB_col HFK.out.2] at h1
                      rw [mixB_row HFK.out.2] at h2
                      rw [mixB_at] at h3
                      have HST : Aside0 (fwStep k Dk a b = if Dk a k < 100000000000000000 ∧ Dk k b < 100000000000000000 then min (Dk a b) (Dk a k + Dk k b) else Dk a b) := ⟨rfl⟩
                      have b1 := HFK.out.1 a k hlta hltk
                      have b2 := HFK.out.1 k b hltk hltb
                      obtain ⟨x1, hx1⟩ : ∃ x1, Dk a k = x1 := ⟨_, rfl⟩
                      obtain ⟨x2, hx2⟩ : ∃ x2, Dk k b = x2 := ⟨_, rfl⟩
                      obtain ⟨x3, hx3⟩ : ∃ x3, Dk a b = x3 := ⟨_, rfl⟩
                      rw [hx1] at h1 b1
                      rw [hx2] at h2 b2
                      rw [hx3] at h3
                      rw [hx1, hx2, hx3] at HST
                      have HX3 := Aside0.mk hx3
                      have HRA := Aside0.mk hra
                      clear hca hck hfa hra hrk hx1 hx2 hx3
                      by_cases hop : x1 < 100000000000000000 ∧ x2 < 100000000000000000
                      · obtain ⟨hp1, hp2⟩ := hop
                        rw [if_pos ⟨hp1, hp2⟩] at HST
                        obtain ⟨s, hs⟩ : ∃ s, x1 + x2 = s := ⟨_, rfl⟩
                        have hws : IntKind.i64.wrap (x1 + x2) = s := by rw [hs]; exact wrp s (by have := b1 hp1; have := b2 hp2; omega) (by have := b1 hp1; have := b2 hp2; omega)
                        obtain ⟨y, hy⟩ : ∃ y, min x3 s = y := ⟨_, rfl⟩
                        have hmn : (if s < x3 then s else x3) = y := by rw [← hy]; split <;> omega
                        rw [hs, hy] at HST
                        clear hs hy b1 b2
                        go_wp2_with fail
                        have h3d : wr.drew.cell? ⟨ra, b, none⟩ = some (.int .i64 x3) := h3
                        have h3e : wr.drew.frozen? ⟨ra, b, none⟩ = false := h3f
                        have HMN : Aside0 (Mx (wr.drew.setCell ⟨ra, b, none⟩ (.int .i64 y)) base (.slice (some ⟨g, 0, none⟩) N cap) N rs (mixB k a (b + 1) Dk)) := ⟨(HM.out.below (Below.refl _ _).drew).put HRA.out hltb (fun a' b' _ _ => by rw [mixB_next, HST.out])⟩
                        have HVN : Aside0 (Below w.heap.size w (wr.drew.setCell ⟨ra, b, none⟩ (.int .i64 y))) := ⟨HV.out.drew.setCell (by simp; omega) _⟩
                        clear HM HV
                        go_still_tail 29, (by kernel_rfl)
                        change wpList _ _ _ _ _ wr.drew
                        go_wp2
                        go_roundw
                        case rel => exact ⟨b + 1, by omega, by go_num, HMN, HVN⟩
                        case measure => simp [intOf]; omega
                      · rw [if_neg hop] at HST
                        have HMN : Aside0 (Mx wr base (.slice (some ⟨g, 0, none⟩) N cap) N rs (mixB k a (b + 1) Dk)) := ⟨HM.out.congr (fun a' b' _ _ => by
                          rw [mixB_next]
                          by_cases h : a' = a ∧ b' = b
                          · rw [if_pos h, h.1, h.2, mixB_at, HST.out, HX3.out]
                          · rw [if_neg h])⟩
                        clear HM b1 b2 h3 h3f
                        by_cases hp1 : x1 < 100000000000000000
                        · have hp2 : ¬ x2 < 100000000000000000 := fun h => hop ⟨hp1, h⟩
                          clear hop
                          go_wp2
                          go_roundw
                          case rel => exact ⟨b + 1, by omega, by go_num, HMN, HV⟩
                          case measure => simp [intOf]; omega
                        · clear hop
                          go_wp2
                          go_roundw
                          case rel => exact ⟨b + 1, by omega, by go_num, HMN, HV⟩
                          case measure => simp [intOf]; omega
                    · have hbN : N = b := by omega
                      have hd3 : ¬ (b : Int) < (N : Int) := by omega
                      have HMN : Aside0 (Mx wr base (.slice (some ⟨g, 0, none⟩) N cap) N rs (mixB k (a + 1) 0 Dk)) := ⟨HM.out.congr (fun a' b' _ hb' => by
                        unfold mixB
                        by_cases h : a' < a ∨ (a' = a ∧ b' < b)
                        · rw [if_pos (by omega), if_pos h]
                        · rw [if_neg (by omega), if_neg h])⟩
                      clear HM hbN
                      go_wp2
                      go_roundw
                      case rel => exact ⟨a + 1, by omega, by go_num, HMN, HV⟩
                      case measure => simp [intOf]; omega
                · have hd2 : ¬ (a : Int) < (N : Int) := by omega
                  have HMN : Aside0 (Mx wr base (.slice (some ⟨g, 0, none⟩) N cap) N rs (fwIt D1 (k + 1))) := ⟨HM.out.congr (fun a' b' ha' hb' => by
                    rw [← HNX.out]
                    unfold mixB
                    rw [if_pos (by rw [HRS.out] at ha'; omega)])⟩
                  have HVN := Aside0.mk HV.out
                  clear HM HV
                  go_wp2_with fail
                  go_loopw [129] (fun v129 wr => ∃ d : Nat, d ≤ N ∧ v129 = .int .i64 d ∧ Aside0 (Mx wr base (.slice (some ⟨g, 0, none⟩) N cap) N rs (fwIt D1 (k + 1))) ∧ Aside0 (Below w.heap.size w wr) ∧ Aside0 (∀ e, e < d → 0 ≤ fwIt D1 (k + 1) e e)) (fun v129 _ => N - (intOf v129).toNat)
                  case atStart => exact ⟨0, by omega, by simp, HMN, HVN, ⟨fun e he => absurd he (by omega)⟩⟩
                  case round =>
                    clear HMN HVN
                    obtain ⟨d, hd, rfl, HM, HV, HDG⟩ := hrel
                    by_cases hltd : d < N
                    · have hd4 : (d : Int) < (N : Int) := by omega
                      have hwd := wrp ((d : Int) + 1) (by omega) (by omega)
                      obtain ⟨rd', hrd, hod, hcd, hfd, hgd⟩ := HM.out.at HRS.out hltd
                      have h1 := hcd d hltd
                      have HNEG : Aside0 (fwIt D1 (k + 1) d d < 0 → ¬ okFw N D1) := ⟨fun h ho => by have := ho (k + 1) (by omega) d hltd; omega⟩
                      have HDN : Aside0 (¬ fwIt D1 (k + 1) d d < 0 → ∀ e, e < d + 1 → 0 ≤ fwIt D1 (k + 1) e e) := ⟨fun h e he => by
                        by_cases e1 : e = d
                        · subst e1; omega
                        · exact HDG.out e (by omega)⟩
                      obtain ⟨x, hx⟩ : ∃ x, fwIt D1 (k + 1) d d = x := ⟨_, rfl⟩
                      rw [hx] at h1 HNEG HDN
                      clear hcd hfd hrd hx
                      by_cases hneg : x < 0
                      · have HNO := Aside0.mk (HNEG.out hneg)
                        clear HNEG HDN
                        go_wp2
                        go_ret2
                        exact ⟨_, _, rfl, fun h => absurd h HNO.out, fun _ => ⟨rfl, rfl⟩, HV.out⟩
                      · have HOK := Aside0.mk (HDN.out hneg)
                        clear HNEG HDN
                        go_wp2
                        go_roundw
                        case rel => exact ⟨d + 1, by omega, by go_num, HM, HV, HOK⟩
                        case measure => simp [intOf]; omega
                    · have hd4 : ¬ (d : Int) < (N : Int) := by omega
                      have HGN : Aside0 (∀ j, j ≤ k + 1 → ∀ a, a < N → 0 ≤ fwIt D1 j a a) := ⟨fun j hj a ha => by
                        by_cases e : j = k + 1
                        · subst e; exact HDG.out a (by omega)
                        · exact HG.out j (by omega) a ha⟩
                      go_wp2
                      go_roundw
                      case rel => exact ⟨k + 1, by omega, by go_num, HM, HV, HGN⟩
                      case measure => simp [intOf]; omega
            · have hkN : k = N := by omega
              have hd1 : ¬ (k : Int) < (N : Int) := by omega
              have HOKF : Aside0 (okFw N D1) := ⟨fun j hj a ha => HG.out j (by omega) a ha⟩
              have HMK : Aside0 (Mx wr base (.slice (some ⟨g, 0, none⟩) N cap) N rs (fwIt D1 N)) := ⟨by have := HM.out; rwa [hkN] at this⟩
              clear hkN HM
              go_wp2
              go_ret2
              exact ⟨_, _, rfl, fun _ => ⟨rfl, base, hbw, rs, HRS.out, HMK.out⟩, fun h => absurd HOKF.out h, HV.out⟩
end Go.Proofs.Ytjgnadighdbjlaa.C
