/- The contract of Contradict, by hand. -/
import Derived.OwnWalk
import Derived.Deep.CutRange
import Derived.Deep.CutBlock
import Derived.BigRegion
import Derived.BigQuiet
import Derived.Laws.OwnMore
import Derived.Deep.AppendLies
import Derived.Laws.AppendOwn
import Derived.StillTailTactics
import Derived.Deep.RegionLaw
import Derived.Deep.RegionHeld3
import Derived.Test.YtjgnadighdbjlaaDb
namespace Go.Proofs.Ytjgnadighdbjlaa.C
open Go.RowKit Go.Shelf Go.Maps Go.Proofs.YtjgnadighdbjlaaW.PrintWords Go.Proofs.YtjgnadighdbjlaaW.PrintLast Go.Proofs.YtjgnadighdbjlaaW.PrintMore
set_option linter.unusedVariables false
set_option linter.unusedSimpArgs false
def slN (v : Value) : Nat := match v with | .slice _ n _ => n | _ => 0
theorem slN_own {w : World} {base : Nat} {e : TypeId} {size n : Nat} {v : Value} {xs : List Value} (h : w.ownsRow base e size v n xs) : slN v = n := by
  rcases h.2 with ⟨rfl, h0⟩ | ⟨g, cap, cur, rfl, _⟩
  · exact h0.symm
  · rfl
theorem dr_heap {w : World} {k : Nat} {o : Option Obj} (h : w.heap[k]? = o) : w.drew.heap[k]? = o := h
def backF (l : List Bd) (s : Ct) (b : Nat) : Nat := (sAt l (s.B b)).1.toNat
def backN (l : List Bd) (s : Ct) (b : Nat) : Nat → Nat
  | 0 => b
  | k + 1 => backF l s (backN l s b k)
/-- The uses on the way back from a clock. -/
def wayL (l : List Bd) (s : Ct) (b : Nat) : Nat → List Us
  | 0 => []
  | k + 1 => wayL l s b k ++ [(usesL l.length).getD (s.B (backN l s b k)) (0, false)]
theorem wayL_len (l : List Bd) (s : Ct) (b : Nat) : ∀ k, (wayL l s b k).length = k
  | 0 => rfl
  | k + 1 => by rw [wayL, List.length_append, wayL_len l s b k]; rfl
/-- Some bounds of what a state says. -/
structure CtB (l : List Bd) (N M : Nat) (s : Ct) (T : Nat) : Prop where
  d : ∀ b, b < N → -(1000000000000000 * (T : Int)) ≤ s.D b ∧ s.D b ≤ 0
  b : ∀ b, b < N → 0 < M → s.B b < M
  L : s.L = -1 ∨ ∃ q : Nat, s.L = q ∧ q < N
theorem CtB.mono {l : List Bd} {N M : Nat} {s : Ct} {T T' : Nat} (h : CtB l N M s T) (hT : T ≤ T') : CtB l N M s T' :=
  ⟨fun b hb => by have := h.d b hb; omega, h.b, h.L⟩
theorem CtB.step {l : List Bd} {N M : Nat} {s : Ct} {T i : Nat} (h : CtB l N M s T) (hcl : ∀ x ∈ l, 0 ≤ x.1 ∧ x.1 < N ∧ 0 ≤ x.2.1 ∧ x.2.1 < N) (hsp : SpanOk l) (hM : 2 * l.length = M) (hi : i < M) : CtB l N M (ctStep l s i) (T + 1) := by
  obtain ⟨p, q, L, hs, hp, hq, hL1, hL2⟩ := sAt_ok hcl hsp (i := i) (by omega)
  unfold ctStep
  rw [hs]
  simp only [Int.toNat_natCast]
  split
  · rename_i hlt
    have hdp := h.d p hp
    have hdq := h.d q hq
    refine ⟨fun b hb => ?_, fun b hb h0 => ?_, Or.inr ⟨q, rfl, hq⟩⟩
    · simp only
      split
      · push_cast; omega
      · have := h.d b hb; push_cast; omega
    · simp only
      split
      · exact hi
      · exact h.b b hb h0
  · exact ⟨fun b hb => by have := h.d b hb; push_cast; omega, h.b, h.L⟩
theorem sAt_nn {l : List Bd} {i : Nat} (hcl : ∀ x ∈ l, 0 ≤ x.1 ∧ 0 ≤ x.2.1) (hi : i < 2 * l.length) : 0 ≤ (sAt l i).2.1 := by
  unfold sAt
  rw [List.getD_eq_getElem?_getD, usesL_get _ _ hi, Option.getD_some, sideF_at (by omega)]
  have := hcl _ (List.getElem_mem (show i / 2 < l.length by omega))
  unfold sideB
  split <;> simp only <;> omega
theorem sAt_ne {l : List Bd} {i p q : Nat} {L : Int} (hne : ∀ x ∈ l, x.1 ≠ x.2.1) (hi : i < 2 * l.length) (h : sAt l i = ((p : Int), (q : Int), L)) : p ≠ q := by
  unfold sAt at h
  rw [List.getD_eq_getElem?_getD, usesL_get _ _ hi, Option.getD_some, sideF_at (by omega)] at h
  have := hne _ (List.getElem_mem (show i / 2 < l.length by omega))
  unfold sideB at h
  split at h <;> (simp only [Prod.mk.injEq] at h; omega)
theorem ctFold_still {l : List Bd} {s : Ct} (hcl : ∀ x ∈ l, 0 ≤ x.1 ∧ 0 ≤ x.2.1) (hs : s.L = -1) : ∀ k, k ≤ 2 * l.length → (ctFold l s k).L = -1 → ctFold l s k = s
  | 0, _, _ => rfl
  | k + 1, hk, h => by
    have hnn := sAt_nn hcl (i := k) (by omega)
    rw [ctFold] at h ⊢
    unfold ctStep at h ⊢
    split
    · rename_i hlt
      rw [if_pos hlt] at h
      simp only at h
      omega
    · rename_i hlt
      rw [if_neg hlt] at h
      exact ctFold_still hcl hs k (by omega) h
theorem ctRun_still {l : List Bd} (hcl : ∀ x ∈ l, 0 ≤ x.1 ∧ 0 ≤ x.2.1) {r : Nat} (h : (ctRun l (r + 1)).L = -1) : ∀ d, ctRun l (r + 1 + d) = ctRun l (r + 1)
  | 0 => rfl
  | d + 1 => by
    have h1 : ctRun l (r + 1) = ⟨(ctRun l r).D, (ctRun l r).B, -1⟩ := ctFold_still hcl rfl _ (Nat.le_refl _) h
    show ctRound l (ctRun l (r + 1 + d)) = _
    rw [ctRun_still hcl h d]
    unfold ctRound
    rw [h1]
    exact h1
set_option maxHeartbeats 4000000 in
set_option maxRecDepth 100000 in
theorem contradict_main (N : Nat) (A : Option Addr) (c : Nat) (l : List Bd) (w : World) (hr : Kd.C kb w A l.length l) (hck : checkedF N l = 0) (hN1 : 1 ≤ N) (hN2 : N ≤ 16) (hll : l.length ≤ 240) (hsp : SpanOk l)
    (M : Nat) (hM : 2 * l.length = M) (hcl : ∀ x ∈ l, 0 ≤ x.1 ∧ x.1 < N ∧ 0 ≤ x.2.1 ∧ x.2.1 < N) (hne : ∀ x ∈ l, x.1 ≠ x.2.1) (hcyc : ∀ q : Nat, (ctRun l N).L = q → ∃ k, 1 ≤ k ∧ k ≤ N ∧ backN l (ctRun l N) (backN l (ctRun l N) q N) k = backN l (ctRun l N) q N ∧ ∀ j, 1 ≤ j → j < k → backN l (ctRun l N) (backN l (ctRun l N) q N) j ≠ backN l (ctRun l N) q N) :
    Calls Try.prog 17 #[.int .i64 N, .slice A l.length c] w fun e w' => ((ctRun l N).L = -1 → e = .returned (.tuple #[.slice none 0 0, .int .i64 4])) ∧
      (∀ q : Nat, (ctRun l N).L = q → ∃ k v base, 1 ≤ k ∧ k ≤ N ∧ backN l (ctRun l N) (backN l (ctRun l N) q N) k = backN l (ctRun l N) q N ∧ (∀ j, 1 ≤ j → j < k → backN l (ctRun l N) (backN l (ctRun l N) q N) j ≠ backN l (ctRun l N) q N) ∧ e = .returned (.tuple #[v, .int .i64 0]) ∧ w'.ownsRow base 41 2 v k (ucells (wayL l (ctRun l N) (backN l (ctRun l N) q N) k).reverse)) ∧ Below w.heap.size w w' := by
  have HR := Aside0.mk hr
  have HSP := Aside0.mk hsp
  have HCL := Aside0.mk hcl
  have HMM := Aside0.mk hM
  have HCYC := Aside0.mk hcyc
  have HNE := Aside0.mk hne
  have hM480 : M ≤ 480 := by omega
  have c1 := fun w hC => checked_calls N A c l w hC
  rw [hck] at c1
  have c3 := fun w => uses_calls A c l.length w (by omega)
  rw [hM] at c3
  have hulen : Aside0 ((usesL l.length).length = M) := ⟨by rw [usesL_len, hM]⟩
  have hmk : ∀ W : World, (Instr.makeSlice 59 (.int .i64 N) (.int .i64 N)).run Try.prog W = .ok (.slice (some ⟨W.heap.size, 0, none⟩) N N) (W.alloc (.cells (rowV N (fun _ => 0)).toArray 3)) := by
    intro W
    have := print_make (P := Try.prog) 59 3 .i64 8 Try.underlying59 info3n (by decide) N (by omega) W
    rw [this, show madeCells #[Value.int .i64 0] N = (rowV N (fun _ => 0)).toArray by rw [rowV_const, ← toList_madeCells_one]]
  clear hr hsp hcl hM hck hcyc hne
  have hv : Below w.heap.size w (w.alloc (.cells #[.slice A l.length c] 25)) := (Below.refl _ _).alloc (Nat.le_refl _) _
  go_enter Try.func17, Try.ntmps17
  go_wp2_with fail
  refine wp_scope_straight ?_
  go_wp2_with fail
  refine (c1 _ (Kd.C_below HR.out hv)).mono ?_
  rintro en w1 ⟨rfl, hB⟩
  have K3 := blk_on hB (al_new w (.cells #[.slice A l.length c] 25) _ rfl)
  have hv1 := hv.trans (hB.mono (by simp))
  clear hB c1 hv
  go_wp2_with fail
  go_cut [7, 8] from 19 (fun s7 s8 wx => ∃ gd gb g8 : Nat, s7 = .slice (some ⟨gd, 0, none⟩) N N ∧ s8 = .pointer (some ⟨g8, 0, none⟩) ∧ wx.heap[g8]? = some (.cells #[.slice (some ⟨gb, 0, none⟩) N N] 59 (0, 0)) ∧ wx.heap[gd]? = some (.cells (rowV N (fun _ => 0)).toArray 3 (0, 0)) ∧ wx.heap[gb]? = some (.cells (rowV N (fun _ => 0)).toArray 3 (0, 0)) ∧ gd ≠ gb ∧ w1.heap.size ≤ gd ∧ w1.heap.size ≤ gb ∧ Below w1.heap.size w1 wx)
  case first =>
    have hv2 := Below.refl w1.heap.size w1
    go_region
    all_goals
      go_wp2
      go_meet
      exact ⟨_, _, _, rfl, rfl, dr_heap (by repeat (first | (refine al_new _ _ _ ?_; first | rfl | (simp; done)) | refine al_old ?_)), dr_heap (by repeat (first | (refine al_new _ _ _ ?_; first | rfl | (simp; done)) | refine al_old ?_)), dr_heap (by repeat (first | (refine al_new _ _ _ ?_; first | rfl | (simp; done)) | refine al_old ?_)), by first | omega | (simp; done) | (simp; omega), by first | omega | (simp; done) | (simp; omega), by first | omega | (simp; done) | (simp; omega), (((hv2.alloc (Nat.le_refl _) _).alloc (by simp) _).alloc (by simp; try omega) _).drew⟩
  case rest =>
  obtain ⟨gd, gb, g8, rfl, rfl, K8, Kd0, Kb0, hne, hgd, hgb, hB⟩ := hcut
  rename World => w2
  replace K3 := blk_on hB K3
  have hv2 := hv1.trans (hB.mono hv1.size)
  have hws := hv1.size
  have HG := Aside0.mk (And.intro hne (And.intro (show w.heap.size ≤ gd by omega) (show w.heap.size ≤ gb by omega)))
  clear hB hgd hgb hne hv1 hmk
  have k3c : w2.cell? ⟨w.heap.size, 0, none⟩ = some (.slice A l.length c) := blk_cell K3 0
  go_wp2_with fail
  refine (c3 _).mono ?_
  rintro en w3 ⟨vu, rfl, hown, hB⟩
  obtain ⟨bu, hbu⟩ : ∃ bu, w2.heap.size = bu := ⟨_, rfl⟩
  rw [hbu] at hown
  obtain ⟨Au, cu, e, hU⟩ := own_uses (l := usesL l.length) (by rw [hulen.out]; exact hown)
  rw [hulen.out] at e
  subst e
  replace K3 := blk_on hB K3
  replace Kd0 := blk_on hB Kd0
  replace Kb0 := blk_on hB Kb0
  replace K8 := blk_on hB K8
  have hv3 := hv2.trans (hB.mono hv2.size)
  clear hB hU c3 hbu hv2 k3c
  obtain ⟨w4, hw4⟩ : ∃ w4, w3.alloc (.cells #[.slice Au M cu] 34) = w4 := ⟨_, rfl⟩
  have hB : Below w3.heap.size w3 w4 := by rw [← hw4]; exact (Below.refl _ _).alloc (Nat.le_refl _) _
  have K9 : w4.heap[w3.heap.size]? = some (.cells #[.slice Au M cu] 34 (0, 0)) := by rw [← hw4]; exact al_new _ _ _ rfl
  obtain ⟨g9, hg9⟩ : ∃ g9, w3.heap.size = g9 := ⟨_, rfl⟩
  rw [hg9] at K9
  have HM0 : Aside0 (CtM w A c l N M Au cu bu w.heap.size g8 g9 gd gb w4 (ctRun l 0)) := ⟨⟨blk_on hB Kd0, blk_on hB Kb0, blk_on hB K8, K9, blk_on hB K3, own_keep hown hB, hv3.trans (hB.mono hv3.size), HG.out.1, HG.out.2.1, HG.out.2.2⟩⟩
  have HB0 : Aside0 (CtB l N M (ctRun l 0) 0) := ⟨⟨fun b _ => by simp [ctRun], fun b _ h => h, Or.inl rfl⟩⟩
  clear hB K9 Kd0 Kb0 K8 K3 hown hv3
  go_wp2_with fail
  try rw [hw4]
  try rw [hg9]
  clear hw4 hg9
  refine wp_label ?_
  go_upto_block 0 with fail
  go_cut [10] from 19 (fun s10 wx => s10 = .int .i64 (ctRun l N).L ∧ Aside0 (CtM w A c l N M Au cu bu w.heap.size g8 g9 gd gb wx (ctRun l N)) ∧ Aside0 (CtB l N M (ctRun l N) (N * M)))
  case first =>
    go_wp2_with fail
    go_loopw [10, 32] (fun v10 v32 wr => ∃ r : Nat, r ≤ N ∧ v32 = .int .i64 r ∧ v10 = .int .i64 (ctRun l r).L ∧ Aside0 (CtM w A c l N M Au cu bu w.heap.size g8 g9 gd gb wr (ctRun l r)) ∧ Aside0 (CtB l N M (ctRun l r) (r * M))) (fun _ v32 _ => N - (intOf v32).toNat)
    case atStart => exact ⟨0, by omega, by simp, rfl, HM0, ⟨by rw [Nat.zero_mul]; exact HB0.out⟩⟩
    case round =>
      clear HM0 HB0
      obtain ⟨r, hr, rfl, rfl, HM, HB⟩ := hrel
      by_cases hltr : r < N
      · have hd1 : (r : Int) < (N : Int) := by omega
        have hwr := wrp ((r : Int) + 1) (by omega) (by omega)
        have HNX : Aside0 (ctFold l ⟨(ctRun l r).D, (ctRun l r).B, -1⟩ M = ctRun l (r + 1)) := ⟨by rw [← HMM.out]; rfl⟩
        have HMI : Aside0 (CtM w A c l N M Au cu bu w.heap.size g8 g9 gd gb wr (ctFold l ⟨(ctRun l r).D, (ctRun l r).B, -1⟩ 0)) := ⟨HM.out.congr rfl rfl⟩
        have HBI : Aside0 (CtB l N M (ctFold l ⟨(ctRun l r).D, (ctRun l r).B, -1⟩ 0) (r * M + 0)) := ⟨⟨HB.out.d, HB.out.b, Or.inl rfl⟩⟩
        obtain ⟨s0, hs0⟩ : ∃ s0, (⟨(ctRun l r).D, (ctRun l r).B, -1⟩ : Ct) = s0 := ⟨_, rfl⟩
        have hsL : (ctFold l s0 0).L = -1 := by rw [← hs0]; rfl
        rw [hs0] at HNX HMI HBI
        have HSL := Aside0.mk hsL
        have a9 : wr.cell? ⟨g9, 0, none⟩ = some (.slice Au M cu) := blk_cell HMI.out.k9 0
        have hrM : r * M ≤ 15 * 480 := Nat.mul_le_mul (by omega) hM480
        obtain ⟨rM, hrm⟩ : ∃ rM, r * M = rM := ⟨_, rfl⟩
        rw [hrm] at HBI hrM
        have HRM := Aside0.mk hrm
        clear HM HB hs0 hsL hrm
        go_wp2_with fail
        clear a9
        go_loopw [10, 36] (fun v10 v36 wr => ∃ i : Nat, i ≤ M ∧ v36 = .int .i64 i ∧ v10 = .int .i64 (ctFold l s0 i).L ∧ Aside0 (CtM w A c l N M Au cu bu w.heap.size g8 g9 gd gb wr (ctFold l s0 i)) ∧ Aside0 (CtB l N M (ctFold l s0 i) (rM + i))) (fun _ v36 _ => M - (intOf v36).toNat)
        case atStart => exact ⟨0, by omega, by simp, by rw [HSL.out], HMI, HBI⟩
        case round =>
          clear HMI HBI
          obtain ⟨i, hi, rfl, rfl, HM, HB⟩ := hrel
          by_cases hlti : i < M
          · have hd2 : (i : Int) < (M : Int) := by omega
            have hwi := wrp ((i : Int) + 1) (by omega) (by omega)
            obtain ⟨p, q, L, hs, hp, hq, hL1, hL2⟩ := sAt_ok HCL.out HSP.out (i := i) (by have := HMM.out; omega)
            have hpq := sAt_ne HNE.out (by have := HMM.out; omega) hs
            have hqp : q ≠ p := fun e => hpq e.symm
            obtain ⟨ad, rfl, u0, u1, hu0, hu1⟩ := HM.out.use HMM.out hlti
            have HBN := Aside0.mk (HB.out.step HCL.out HSP.out HMM.out hlti)
            have HST : Aside0 (ctFold l s0 (i + 1) = ctStep l (ctFold l s0 i) i) := ⟨rfl⟩
            unfold ctStep at HST
            rw [hs] at HST
            simp only [Int.toNat_natCast] at HST
            have bdp := HB.out.d p hp
            have bdq := HB.out.d q hq
            unfold sAt at hs
            obtain ⟨⟨uk, ub⟩, hu⟩ : ∃ z, (usesL l.length).getD i (0, false) = z := ⟨_, rfl⟩
            rw [hu] at u0 u1 hu0 hu1 hs
            simp only at u0 u1 hu0 hu1
            have c4 := fun w hC => side_calls uk ub A c l w hC HSP.out hu0 hu1
            simp only [hs] at c4
            unfold sideV at c4
            simp only at c4
            have d0 := (HM.out.dist hp).1
            have d1 := (HM.out.dist hq).1
            obtain ⟨s, hss⟩ : ∃ s, ctFold l s0 i = s := ⟨_, rfl⟩
            have HSS := Aside0.mk hss
            rw [hss] at HM HB HST bdp bdq d0 d1 ⊢
            have HBS : Aside0 (ctStep l s i = ctFold l s0 (i + 1)) := ⟨by rw [← hss]; rfl⟩
            rw [hss] at HBN
            rw [HBS.out] at HBN
            obtain ⟨x, hx⟩ : ∃ x, s.D p = x := ⟨_, rfl⟩
            obtain ⟨y, hy⟩ : ∃ y, s.D q = y := ⟨_, rfl⟩
            rw [hx] at d0 bdp HST
            rw [hy] at d1 bdq HST
            have hT : rM + i ≤ 7680 := by omega
            have hxb : -7680000000000000000 ≤ x ∧ x ≤ 0 := by omega
            obtain ⟨z, hz⟩ : ∃ z, x + L = z := ⟨_, rfl⟩
            rw [hz] at HST
            have hwz : IntKind.i64.wrap (x + L) = z := by rw [hz]; exact wrp z (by omega) (by omega)
            have hsz := HM.out.bel.size
            have k3 : wr.cell? ⟨w.heap.size, 0, none⟩ = some (.slice A l.length c) := blk_cell HM.out.k3 0
            have k3l := World.block_lt_of_cell? _ _ k3
            have hp0 : (p : Int) < (N : Int) := by omega
            have hq0 : (q : Int) < (N : Int) := by omega
            have hp1 : (0 : Int) ≤ (p : Int) := by omega
            have hq1 : (0 : Int) ≤ (q : Int) := by omega
            clear hu hs hss hx hy bdp bdq hz hL1 hL2
            go_wp2_with fail
            have hBA : Below wr.heap.size wr (wr.alloc (.cells #[.int .i64 uk, .bool ub] 41)) := (Below.refl _ _).alloc (Nat.le_refl _) _
            refine (c4 _ (Kd.C_below HR.out (HM.out.bel.trans (hBA.mono hsz)))).mono ?_
            rintro en w4 ⟨rfl, hB⟩
            have hB4 : Below wr.heap.size wr w4 := hBA.trans (hB.mono (by simp))
            replace d0 := cell_on hB4 d0
            replace d1 := cell_on hB4 d1
            replace HM := Aside0.mk (HM.out.below hB4)
            clear hB hB4 hBA c4 u0 u1 k3 k3l
            go_wp2_with fail
            have hS : ∀ w', Below w4.heap.size w4 w' → ((w'.cell? ⟨gd, p, none⟩ = some (.int .i64 x) ∧ w'.cell? ⟨gd, q, none⟩ = some (.int .i64 y)) ∧ Below w4.heap.size w4 w') := fun w' hB => ⟨⟨cell_on hB d0, cell_on hB d1⟩, hB⟩
            go_region_held3 (fun w' => (w'.cell? ⟨gd, p, none⟩ = some (.int .i64 x) ∧ w'.cell? ⟨gd, q, none⟩ = some (.int .i64 y)) ∧ Below w4.heap.size w4 w') (first | exact hS _ (Below.refl _ _).drew | assumption | (have hh := ‹(_ ∧ _) ∧ Below w4.heap.size w4 _›; exact hS _ (hh.2.trans (hB.mono hh.2.size)))) (fail)
            rename_i hHeld
            have hB := hHeld.2
            obtain ⟨w5, hw5⟩ : ∃ w5, w4.drew = w5 := ⟨_, rfl⟩
            rw [hw5] at hB
            try rw [hw5]
            clear hHeld hS hw5
            replace d0 := cell_on hB d0
            replace d1 := cell_on hB d1
            replace HM := Aside0.mk (HM.out.below hB)
            clear hB
            by_cases hfire : z < y
            · rw [if_pos hfire] at HST
              have d1f := (HM.out.dist hq).2
              obtain ⟨b0, b0f⟩ := HM.out.by_ hq
              obtain ⟨bq, hbq⟩ : ∃ bq : Int, (s.B q : Int) = bq := ⟨_, rfl⟩
              rw [hbq] at b0
              have k8 : w5.cell? ⟨g8, 0, none⟩ = some (.slice (some ⟨gb, 0, none⟩) N N) := blk_cell HM.out.k8 0
              have n1 : gd ≠ gb := HM.out.ne
              have n2 : gb ≠ gd := fun e => n1 e.symm
              have n3 : g8 ≠ gd := blk_ty HM.out.k8 HM.out.kd (by decide)
              have n4 : g8 ≠ gb := blk_ty HM.out.k8 HM.out.kb (by decide)
              have n5 : gd ≠ g8 := fun e => n3 e.symm
              have n6 : gb ≠ g8 := fun e => n4 e.symm
              have HMN : Aside0 (CtM w A c l N M (some ad) cu bu w.heap.size g8 g9 gd gb ((w5.setCell ⟨gd, q, none⟩ (.int .i64 z)).setCell ⟨gb, q, none⟩ (.int .i64 i)) (ctFold l s0 (i + 1))) := ⟨by rw [HST.out]; exact HM.out.put (s' := ⟨fun c => if c = q then z else s.D c, fun c => if c = q then i else s.B c, (q : Int)⟩) (x := z) (k := i) hq (fun _ _ => rfl) (fun _ _ => rfl)⟩
              have HLN : Aside0 ((ctFold l s0 (i + 1)).L = (q : Int)) := ⟨by rw [HST.out]⟩
              clear hbq HM HB HST HSS HBS
              go_wp2_with fail
              go_region
              all_goals
                go_wp2
                go_roundw
                case rel => exact ⟨i + 1, by omega, by go_num, by rw [HLN.out], ⟨by first | exact HMN.out | exact HMN.out.below (Below.refl _ _).drew⟩, HBN⟩
                case measure => simp [intOf]; omega
            · rw [if_neg hfire] at HST
              have HMN : Aside0 (CtM w A c l N M (some ad) cu bu w.heap.size g8 g9 gd gb w5 (ctFold l s0 (i + 1))) := ⟨by rw [HST.out]; exact HM.out⟩
              have HLN : Aside0 ((ctFold l s0 (i + 1)).L = s.L) := ⟨by rw [HST.out]⟩
              clear HM HB HST HSS HBS
              go_wp2
              go_roundw
              case rel => exact ⟨i + 1, by omega, by go_num, by rw [HLN.out], HMN, HBN⟩
              case measure => simp [intOf]; omega
          · have hiM : i = M := by omega
            have hd2 : ¬ (i : Int) < (M : Int) := by omega
            have hst : ctFold l s0 i = ctRun l (r + 1) := by rw [hiM]; exact HNX.out
            rw [hst] at HM HB ⊢
            have HB2 : Aside0 (CtB l N M (ctRun l (r + 1)) ((r + 1) * M)) := ⟨by have := HB.out; rwa [hiM, ← HRM.out, show r * M + M = (r + 1) * M by rw [Nat.add_mul, Nat.one_mul]] at this⟩
            have hL := HB.out.L
            have HFIN : Aside0 ((ctRun l (r + 1)).L = -1 → ctRun l N = ctRun l (r + 1)) := ⟨fun h => by
              obtain ⟨d, hd⟩ : ∃ d, N = r + 1 + d := ⟨N - (r + 1), by omega⟩
              rw [hd]
              exact ctRun_still (fun x hx => ⟨(HCL.out x hx).1, (HCL.out x hx).2.2.1⟩) h d⟩
            have HMONO : Aside0 (CtB l N M (ctRun l (r + 1)) (N * M)) := ⟨HB2.out.mono (Nat.mul_le_mul_right M (by omega))⟩
            clear hst hiM HB
            rcases hL with hL | ⟨q, hL, hq⟩
            · have HF := Aside0.mk (HFIN.out hL)
              rw [hL]
              have HLL := Aside0.mk hL
              clear hL HFIN
              go_wp2
              go_meet
              exact ⟨by rw [HF.out, HLL.out], by rw [HF.out]; exact HM, by rw [HF.out]; exact HMONO⟩
            · have HLL := Aside0.mk hL
              rw [hL]
              have hq0 : ¬ (q : Int) < 0 := by omega
              clear hL HFIN
              go_wp2
              go_roundw
              case rel => exact ⟨r + 1, by omega, by go_num, by rw [HLL.out], HM, HB2⟩
              case measure => simp [intOf]; omega
      · have hrN : r = N := by omega
        have hd1 : ¬ (r : Int) < (N : Int) := by omega
        have HE : Aside0 ((ctRun l r).L = (ctRun l N).L) := ⟨by rw [hrN]⟩
        rw [hrN] at HM HB
        clear hrN
        go_wp2
        go_meet
        exact ⟨by rw [HE.out], HM, HB⟩
  case rest =>
  obtain ⟨rfl, HM, HB⟩ := hcut
  clear HM0 HB0
  have hL := HB.out.L
  rcases hL with hL | ⟨q, hL, hq⟩
  · rw [hL]
    have HLL := Aside0.mk hL
    clear hL
    go_wp2
    rw [Exit.noGoto_ret]
    go_ret2
    exact ⟨fun _ => rfl, fun q h => by rw [HLL.out] at h; omega, HM.out.bel⟩
  · rw [hL]
    have HLL := Aside0.mk hL
    have hq0 : ¬ (q : Int) < 0 := by omega
    clear hL
    have hM0 : 0 < M := by
      rcases Nat.eq_zero_or_pos M with h | h
      · exfalso
        have hl0 : 2 * l.length = 0 := by rw [HMM.out]; exact h
        obtain ⟨n', hn'⟩ : ∃ n', N = n' + 1 := ⟨N - 1, by omega⟩
        have h1 := HLL.out
        rw [hn'] at h1
        have h2 : (ctRun l (n' + 1)).L = -1 := by show (ctFold l _ (2 * l.length)).L = -1; rw [hl0]; rfl
        omega
      · exact h
    obtain ⟨S, hS⟩ : ∃ S, ctRun l N = S := ⟨_, rfl⟩
    have HSS := Aside0.mk hS
    rw [hS] at HM HB HLL HCYC
    clear hS
    have HBK : Aside0 (∀ b, b < N → ((backF l S b : Nat) : Int) = (sAt l (S.B b)).1 ∧ backF l S b < N) := ⟨fun b hb => by
      obtain ⟨p, q', L, hs, hp, _⟩ := sAt_ok HCL.out HSP.out (i := S.B b) (by have := HB.out.b b hb hM0; have := HMM.out; omega)
      unfold backF
      rw [hs]
      simp only [Int.toNat_natCast]
      exact ⟨trivial, hp⟩⟩
    have c39 := fun (W : World) (b : Nat) (hm : CtM w A c l N M Au cu bu w.heap.size g8 g9 gd gb W S) (hb : b < N) => back_calls b HMM.out HR.out HSP.out hm hb (HB.out.b b hb hM0) hM480
    have eg := enters_of (P := Try.prog) Try.func39 (by kernel_rfl) rfl
    have HM0 : Aside0 (CtM w A c l N M Au cu bu w.heap.size g8 g9 gd gb wc S) := HM
    clear HM
    go_wp2_with fail
    go_loopw [10, 81] (fun v10 v81 wr => ∃ j : Nat, j ≤ N ∧ v81 = .int .i64 j ∧ v10 = .int .i64 (backN l S q j : Nat) ∧ backN l S q j < N ∧ Aside0 (CtM w A c l N M Au cu bu w.heap.size g8 g9 gd gb wr S)) (fun _ v81 _ => N - (intOf v81).toNat)
    case atStart => exact ⟨0, by omega, by simp, rfl, hq, HM0⟩
    case round =>
      clear HM0
      obtain ⟨j, hj, rfl, rfl, hbn, HM⟩ := hrel
      by_cases hltj : j < N
      · have hd1 : (j : Int) < (N : Int) := by omega
        have hwj := wrp ((j : Int) + 1) (by omega) (by omega)
        have hc := c39 wr _ HM.out hbn
        rw [← (HBK.out _ hbn).1] at hc
        have HNX : Aside0 (backF l S (backN l S q j) = backN l S q (j + 1) ∧ backN l S q (j + 1) < N) := ⟨rfl, (HBK.out _ hbn).2⟩
        rw [HNX.out.1] at hc
        obtain ⟨bn, hbnn⟩ : ∃ bn, backN l S q j = bn := ⟨_, rfl⟩
        obtain ⟨bm, hbmm⟩ : ∃ bm, backN l S q (j + 1) = bm := ⟨_, rfl⟩
        rw [hbnn] at hc ⊢
        rw [hbmm] at hc
        have HBM := Aside0.mk hbmm
        clear hbnn hbmm
        go_wp2_with fail
        refine hc.mono ?_
        rintro e w' ⟨rfl, hB⟩
        go_wp2
        go_roundw
        case rel => exact ⟨j + 1, by omega, by go_num, by rw [HBM.out], HNX.out.2, ⟨HM.out.below hB⟩⟩
        case measure => simp [intOf]; omega
      · have hjN : j = N := by omega
        have hd1 : ¬ (j : Int) < (N : Int) := by omega
        rw [hjN] at hbn ⊢
        clear hjN
        obtain ⟨K, hK1, hK2, hKe, hKm⟩ := HCYC.out q HLL.out
        have HKK := Aside0.mk (And.intro hK1 (And.intro hK2 (And.intro hKe hKm)))
        obtain ⟨z0, hz0⟩ : ∃ z0, backN l S q N = z0 := ⟨_, rfl⟩
        have HZ := Aside0.mk hz0
        rw [hz0] at hbn ⊢ HKK
        clear hz0 hK1 hK2 hKe hKm HCYC
        obtain ⟨i1, hi1, hy0, hy1, hy2⟩ := info_parts info41n
        have hws := HM.out.bel.size
        rename World => w6
        have hK16 : K ≤ 16 := by have := HKK.out.2.1; omega
        have HN0 : Aside0 (w6.ownsRow w6.heap.size 41 2 (.slice none 0 0) 0 (ucells (wayL l S z0 0))) := ⟨own_nil _ _ _ _⟩
        have HB0 : Aside0 (Below w6.heap.size w6 w6) := ⟨Below.refl _ _⟩
        have hK0 : 0 < K := HKK.out.1
        go_wp2_with fail
        go_loopw [17, 18] (fun v17 v18 wr => ∃ (k : Nat) (vo : Value), k < K ∧ v18 = .int .i64 (backN l S z0 k : Nat) ∧ vo = v17 ∧ backN l S z0 k < N ∧ Aside0 (wr.ownsRow w6.heap.size 41 2 vo k (ucells (wayL l S z0 k))) ∧ Aside0 (Below w6.heap.size w6 wr)) (fun v17 _ _ => K - slN v17)
        case atStart => exact ⟨0, _, hK0, rfl, rfl, hbn, HN0, HB0⟩
        case round =>
          clear HN0 HB0
          obtain ⟨k, vo, hk, rfl, rfl, hbk, HO, HB6⟩ := hrel
          have HVO : Aside0 (slN vo = k) := ⟨slN_own HO.out⟩
          have hm := HM.out.below HB6.out
          have hsB := HB.out.b _ hbk hM0
          obtain ⟨ad, rfl, u0, u1, hu0, hu1⟩ := hm.use HMM.out hsB
          have b0 := (hm.by_ hbk).1
          obtain ⟨bk, hbkk⟩ : ∃ bk, backN l S z0 k = bk := ⟨_, rfl⟩
          have HWAY : Aside0 (wayL l S z0 (k + 1) = wayL l S z0 k ++ [(usesL l.length).getD (S.B (backN l S z0 k)) (0, false)] ∧ backN l S z0 (k + 1) = backF l S (backN l S z0 k) ∧ ((backF l S (backN l S z0 k) : Nat) : Int) = (sAt l (S.B (backN l S z0 k))).1 ∧ backF l S (backN l S z0 k) < N) := ⟨rfl, rfl, HBK.out _ hbk⟩
          rw [hbkk] at u0 u1 hu0 hu1 b0 hbk hsB HWAY ⊢
          have hc := fun (W : World) (hB : Below w6.heap.size w6 W) => c39 W bk (HM.out.below hB) hbk
          rw [← HWAY.out.2.2.1] at hc
          obtain ⟨bm, hbm⟩ : ∃ bm, backF l S bk = bm := ⟨_, rfl⟩
          rw [hbm] at hc HWAY
          obtain ⟨m, hmm⟩ : ∃ m, S.B bk = m := ⟨_, rfl⟩
          rw [hmm] at u0 u1 hu0 hu1 b0 hsB HWAY
          obtain ⟨⟨uk, ub⟩, hu⟩ : ∃ z, (usesL l.length).getD m (0, false) = z := ⟨_, rfl⟩
          rw [hu] at u0 u1 HWAY
          simp only at u0 u1
          have a8 : wr.cell? ⟨g8, 0, none⟩ = some (.slice (some ⟨gb, 0, none⟩) N N) := blk_cell hm.k8 0
          have a9 : wr.cell? ⟨g9, 0, none⟩ = some (.slice (some ad) M cu) := blk_cell hm.k9 0
          have hk0 : (0 : Int) ≤ (bk : Int) := by omega
          have hk1 : (bk : Int) < (N : Int) := by omega
          have hm0 : (0 : Int) ≤ (m : Int) := by omega
          have hm1 : (m : Int) < (M : Int) := by omega
          have hownA : (wr.drew.alloc (.cells #[.int .i64 uk, .bool ub] 41)).ownsRow w6.heap.size 41 2 vo k (ucells (wayL l S z0 k)) := own_move HO.out (fun j hj => Below.heap_alloc _ _ j (own_lt HO.out j hj))
          have hs6 := HB6.out.size
          have HBA : Aside0 (Below w6.heap.size w6 (wr.drew.alloc (.cells #[.int .i64 uk, .bool ub] 41))) := ⟨HB6.out.drew.alloc (by exact hs6) _⟩
          have HBB := Aside0.mk (fun j hj => own_base HO.out j hj)
          have HBKK := Aside0.mk hbkk
          clear hu hmm hbm hm HO hu0 hu1 hbkk
          go_wp2_with fail
          have u0' : wr.drew.cell? (ad.add (m * 2)) = some (.int .i64 uk) := u0
          have u1' : wr.drew.cell? ⟨(ad.add (m * 2)).block, (ad.add (m * 2)).off + 1, none⟩ = some (.bool ub) := u1
          go_cut [17] from 88 to 103 (fun s17 wx => ∃ g cap : Nat, s17 = .slice (some ⟨g, 0, none⟩) (k + 1) cap ∧ Aside0 (wx.ownsRow w6.heap.size 41 2 (.slice (some ⟨g, 0, none⟩) (k + 1) cap) (k + 1) (ucells (wayL l S z0 (k + 1)))) ∧ Aside0 (Below w6.heap.size w6 wx))
          case first =>
            go_region_law (refine step_append_lies _ rfl _ _ 34 rfl w6.heap.size 41 i1 (.agg #[.int .i64 0, .bool false]) 2 16 Try.underlying34 hi1 hy0 hy1 hy2 rfl (by decide) vo k (ucells (wayL l S z0 k)) rfl hownA ⟨wr.heap.size, 0, none⟩ 1 1 [.int .i64 uk, .bool ub] rfl rfl (World.news_of_block (cs := #[.int .i64 uk, .bool ub]) (t := 41) (fr := (0, 0)) (al_new _ _ _ rfl)) (by simp [Value.oneCell']) (by decide) (by unfold maxLen; omega) (by omega) (by simp; omega) _ rfl ?_; intro g cap W2 hown2 hg2 hat2 hlt2)
            all_goals
              have HO2 : Aside0 (W2.ownsRow w6.heap.size 41 2 (.slice (some ⟨g, 0, none⟩) (k + 1) cap) (k + 1) (ucells (wayL l S z0 (k + 1)))) := ⟨by rw [HWAY.out.1, ucells_append]; exact hown2⟩
              have HB2 : Aside0 (Below w6.heap.size w6 W2) := ⟨HBA.out.grown hg2 HBA.out.size (fun j e => HBB.out j e)⟩
              clear hown2 hg2 hat2 hlt2
              go_wp2
              go_meet
              exact ⟨g, cap, rfl, HO2, HB2⟩
          case rest =>
          obtain ⟨g, cap, rfl, HO2, HB2⟩ := hcut
          rename World => W2
          have hc2 := hc W2 HB2.out
          clear hc u0 u1 u0' u1' b0 a8 a9 HB6 hownA HBA HBB c39
          go_wp2_with fail
          refine hc2.mono ?_
          rintro en W3 ⟨rfl, hB⟩
          have HO3 := Aside0.mk (own_keep HO2.out hB)
          have HB3 := Aside0.mk (HB2.out.trans (hB.mono HB2.out.size))
          have HK1 : Aside0 (bm = backN l S z0 (k + 1)) := ⟨HWAY.out.2.1.symm⟩
          clear hB hc2 HO2 HB2
          by_cases hback : bm = z0
          · have hq1 : ((bm : Int) == (z0 : Int)) = true := beq_iff_eq.2 (by omega)
            have hkK : k + 1 = K := by
              rcases Nat.lt_or_ge (k + 1) K with h | h
              · exact absurd (by rw [← HK1.out]; exact hback) (HKK.out.2.2.2 (k + 1) (by omega) h)
              · omega
            have HKK2 := Aside0.mk hkK
            clear hback hkK
            have hlen : (wayL l S z0 (k + 1)).length = k + 1 := wayL_len l S z0 (k + 1)
            have hcr := reverse_calls w6.heap.size g cap (wayL l S z0 (k + 1)) W3 (by rw [hlen]; exact HO3.out) (by rw [hlen]; omega) HB3.out.size
            rw [hlen] at hcr
            clear hlen
            go_wp2_with fail
            refine hcr.mono ?_
            rintro en W4 ⟨rfl, hown4, hB⟩
            have HF := Aside0.mk hown4
            have HB4 := Aside0.mk (HM.out.bel.trans ((HB3.out.trans hB).mono hws))
            clear hown4 hB hcr
            go_wp2
            rw [Exit.noGoto_ret]
            go_ret2
            refine ⟨fun h => by rw [HSS.out, HLL.out] at h; omega, fun q' h => ?_, HB4.out⟩
            rw [HSS.out] at h ⊢
            have hqq : q' = q := by rw [HLL.out] at h; omega
            subst hqq
            rw [HZ.out]
            refine ⟨K, _, w6.heap.size, HKK.out.1, HKK.out.2.1, HKK.out.2.2.1, HKK.out.2.2.2, rfl, ?_⟩
            rw [← HKK2.out]
            exact HF.out
          · have hq1 : ((bm : Int) == (z0 : Int)) = false := beq_eq_false_iff_ne.2 (by omega)
            have hkK : k + 1 < K := by
              rcases Nat.lt_or_ge (k + 1) K with h | h
              · exact h
              · exfalso
                have h1 : k + 1 = K := by omega
                apply hback
                rw [HK1.out, h1]
                exact HKK.out.2.2.1
            have hbm2 : bm < N := HWAY.out.2.2.2
            clear hback
            go_wp2
            go_roundw
            case rel => exact ⟨k + 1, _, hkK, by rw [← HK1.out], rfl, by rw [← HK1.out]; exact hbm2, HO3, HB3⟩
            case measure =>
              have h1 := HVO.out
              show K - (k + 1) < K - slN vo
              rw [h1]
              omega
end Go.Proofs.Ytjgnadighdbjlaa.C
