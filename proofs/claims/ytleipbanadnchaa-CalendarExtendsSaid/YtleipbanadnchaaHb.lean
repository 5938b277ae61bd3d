/- The contract of calendar.Extend, by hand. -/
import Derived.OwnWalk
import Derived.Test.YtleipbanadnchaaHa
import Derived.Test.YtleipbanadnchaaDe
namespace Go.Proofs.Ytleipbanadnchaa.C
open Go.RowKit Go.Shelf Go.Maps Go.Proofs.YtleipbanadnchaaW.PrintWords Go.Proofs.YtleipbanadnchaaW.PrintLast Go.Proofs.YtleipbanadnchaaW.PrintMore
set_option linter.unusedVariables false
set_option linter.unusedSimpArgs false
/-- How many leaps of the later table lie before the end of the first one. -/
def cutN (u : Int) (l : List (Int × Int)) : Nat := if idxG u l 0 < 0 then l.length else (idxG u l 0).toNat
theorem idxG_bound (u : Int) : ∀ (l : List (Int × Int)) (i : Nat), idxG u l i = -1 ∨ ((i : Int) ≤ idxG u l i ∧ idxG u l i < i + l.length)
  | [], i => .inl rfl
  | y :: l, i => by
    unfold idxG
    split
    · right; simp; omega
    · rcases idxG_bound u l (i + 1) with h | h
      · exact .inl h
      · right; simp at h ⊢; omega
theorem cutN_le (u : Int) (l : List (Int × Int)) : cutN u l ≤ l.length := by
  unfold cutN
  have := idxG_bound u l 0
  split <;> omega
/-- Extend's error. -/
def extE (ba : Int) (la : List (Int × Int)) (ua bb : Int) (lb : List (Int × Int)) (ub : Int) : Int :=
  if checkF ba la ua ≠ 0 then checkF ba la ua else if checkF bb lb ub ≠ 0 then checkF bb lb ub else if ub < ua then 9 else if ba = bb ∧ la = lb.take (cutN ua lb) then 0 else 91
theorem C_take {w : World} {A : Option Addr} {l : List (Int × Int)} (h : Kd.C kl w A l.length l) {k : Nat} (hk : k ≤ l.length) : Kd.C kl w A (l.take k).length (l.take k) := by
  obtain ⟨_, h1, h2⟩ := h
  refine ⟨rfl, by simp; omega, fun h0 => ?_⟩
  obtain ⟨ad, e, hc⟩ := h2 (by simp at h0; omega)
  refine ⟨ad, e, fun j p hj => hc j p ?_⟩
  rw [List.getElem?_take] at hj
  split at hj
  · exact hj
  · cases hj
/-- The blocks of Extend. -/
structure EInv (w wr : World) (ba ua bb ub : Int) (A B : Option Addr) (ca cb na nb : Nat) : Prop where
  bel : Below w.heap.size w wr
  ka : wr.heap[w.heap.size]? = some (.cells #[.int .i64 ba, .slice A na ca, .int .i64 ua] 28 (0, 0))
  kb : wr.heap[w.heap.size + 1]? = some (.cells #[.int .i64 bb, .slice B nb cb, .int .i64 ub] 28 (0, 0))
  kr : wr.heap[w.heap.size + 1 + 1]? = some (.cells #[.int .i64 0, .slice none 0 0, .int .i64 0] 28 (0, 0))
  kx : wr.heap[w.heap.size + 1 + 1 + 1]? = some (.cells #[.int .i64 ba, .slice A na ca, .int .i64 ua, .int .i64 bb, .slice B nb cb, .int .i64 ub] 28 (0, 0))
theorem EInv.below {w wr wx : World} {ba ua bb ub : Int} {A B : Option Addr} {ca cb na nb : Nat} (h : EInv w wr ba ua bb ub A B ca cb na nb) (hB : Below wr.heap.size wr wx) : EInv w wx ba ua bb ub A B ca cb na nb :=
  ⟨h.bel.trans (hB.mono h.bel.size), (hB.block _ (Array.getElem?_eq_some_iff.1 h.ka).1).trans h.ka, (hB.block _ (Array.getElem?_eq_some_iff.1 h.kb).1).trans h.kb, (hB.block _ (Array.getElem?_eq_some_iff.1 h.kr).1).trans h.kr, (hB.block _ (Array.getElem?_eq_some_iff.1 h.kx).1).trans h.kx⟩
theorem own_down {w : World} {b b' : Nat} {e : TypeId} {size n : Nat} {v : Value} {xs : List Value} (h : w.ownsRow b e size v n xs) (hb : b' ≤ b) : w.ownsRow b' e size v n xs := by
  obtain ⟨h1, h2⟩ := h
  refine ⟨h1, ?_⟩
  rcases h2 with h2 | ⟨g, cap, cur, a1, a2, a3⟩
  · exact .inl h2
  · exact .inr ⟨g, cap, cur, a1, by omega, a3⟩
theorem ext_close {w w3 w' : World} {ba ua bb ub : Int} {A B : Option Addr} {ca cb na : Nat} {lb : List (Int × Int)} {E : Int} {v' : Value} (hE : E = 0) (hI : EInv w w3 ba ua bb ub A B ca cb na lb.length) (hown : w'.ownsRow w3.heap.size 45 2 v' lb.length (lcells lb)) (hB : Below w3.heap.size w3 w') :
    (E ≠ 0 → (Ending.returned (.tuple #[.agg #[.int .i64 bb, v', .int .i64 ub], .int .i64 0]) : Ending) = .returned (.tuple #[tabV 0 none 0 0 0, .int .i64 E])) ∧
    (E = 0 → 
      (((w'.setCell ⟨w.heap.size + 1 + 1, 0, none⟩ (.int .i64 bb)).setCell ⟨w.heap.size + 1 + 1, 1, none⟩ v').setCell ⟨w.heap.size + 1 + 1, 2, none⟩ (.int .i64 ub)).ownsRow w.heap.size 45 2 v' lb.length (lcells lb)) ∧
    Below w.heap.size w (((w'.setCell ⟨w.heap.size + 1 + 1, 0, none⟩ (.int .i64 bb)).setCell ⟨w.heap.size + 1 + 1, 1, none⟩ v').setCell ⟨w.heap.size + 1 + 1, 2, none⟩ (.int .i64 ub)) := by
  have hsz := (Array.getElem?_eq_some_iff.1 hI.kx).1
  refine ⟨fun h => absurd hE h, fun _ => own_down (own_move hown (fun k hk => ?_)) hI.bel.size, ?_⟩
  · have := own_base hown k hk
    rw [Below.heap_setCell _ _ _ k (by simp; omega), Below.heap_setCell _ _ _ k (by simp; omega), Below.heap_setCell _ _ _ k (by simp; omega)]
  · exact (((hI.bel.trans (hB.mono hI.bel.size)).setCell (by simp; omega) _).setCell (by simp; omega) _).setCell (by simp; omega) _
set_option maxHeartbeats 4000000 in
set_option maxRecDepth 100000 in
theorem Extend_calls (ba ua bb ub : Int) (A B : Option Addr) (ca cb : Nat) (la lb : List (Int × Int)) (w : World) (hA : Kd.C kl w A la.length la) (hB : Kd.C kl w B lb.length lb) (hcb : lb.length ≤ cb) :
    Calls Try.prog 22 #[tabV ba A la.length ca ua, tabV bb B lb.length cb ub] w fun e w' => (extE ba la ua bb lb ub ≠ 0 → e = .returned (.tuple #[tabV 0 none 0 0 0, .int .i64 (extE ba la ua bb lb ub)])) ∧
      (extE ba la ua bb lb ub = 0 → ∃ v', e = .returned (.tuple #[.agg #[.int .i64 bb, v', .int .i64 ub], .int .i64 0]) ∧ w'.ownsRow w.heap.size 45 2 v' lb.length (lcells lb)) ∧ Below w.heap.size w w' := by
  have HA := Aside0.mk hA
  have HB := Aside0.mk hB
  clear hA hB
  have a52 := fun w h => check_calls ba ua A ca la w h
  have b52 := fun w h => check_calls bb ub B cb lb w h
  go_enter Try.func22, Try.ntmps22
  go_wp2_with fail
  obtain ⟨W0, hW0⟩ : ∃ W0, ((((w.alloc (.cells #[.int .i64 ba, .slice A la.length ca, .int .i64 ua] 28)).alloc (.cells #[.int .i64 bb, .slice B lb.length cb, .int .i64 ub] 28)).alloc (.cells #[.int .i64 0, .slice none 0 0, .int .i64 0] 28)).alloc (.cells #[.int .i64 ba, .slice A la.length ca, .int .i64 ua, .int .i64 bb, .slice B lb.length cb, .int .i64 ub] 28)) = W0 := ⟨_, rfl⟩
  rw [hW0]
  have HI : Aside0 (EInv w W0 ba ua bb ub A B ca cb la.length lb.length) := ⟨by
    rw [← hW0]
    exact ⟨((((Below.refl _ w).alloc (Nat.le_refl _) _).alloc (by simp) _).alloc (by simp; omega) _).alloc (by simp; omega) _, al_old (al_old (al_old (al_new _ _ _ rfl))), al_old (al_old (al_new _ _ _ (by simp))), al_old (al_new _ _ _ (by simp)), al_new _ _ _ (by simp)⟩⟩
  clear hW0
  go_loopw [14] (fun v14 wr => ((v14 = .int .i64 0) ∨ (v14 = .int .i64 1 ∧ checkF ba la ua = 0) ∨ (v14 = .int .i64 2 ∧ checkF ba la ua = 0 ∧ checkF bb lb ub = 0)) ∧ Aside0 (EInv w wr ba ua bb ub A B ca cb la.length lb.length)) (fun v _ => 2 - (intOf v).toNat)
  case atStart => exact ⟨.inl rfl, HI⟩
  case round =>
    obtain ⟨hcase, HW⟩ := hrel
    rcases hcase with rfl | ⟨rfl, h1⟩ | ⟨rfl, h1, h2⟩
    · skip
      have x0 : wr.cell? ⟨w.heap.size + 1 + 1 + 1, 0, none⟩ = some (.int .i64 ba) := blk_cell HW.out.kx 0
      have x1 : wr.cell? ⟨w.heap.size + 1 + 1 + 1, 1, none⟩ = some (.slice A la.length ca) := blk_cell HW.out.kx 1
      have x2 : wr.cell? ⟨w.heap.size + 1 + 1 + 1, 2, none⟩ = some (.int .i64 ua) := blk_cell HW.out.kx 2
      have x3 : wr.cell? ⟨w.heap.size + 1 + 1 + 1, 3, none⟩ = some (.int .i64 bb) := blk_cell HW.out.kx 3
      have x4 : wr.cell? ⟨w.heap.size + 1 + 1 + 1, 4, none⟩ = some (.slice B lb.length cb) := blk_cell HW.out.kx 4
      have x5 : wr.cell? ⟨w.heap.size + 1 + 1 + 1, 5, none⟩ = some (.int .i64 ub) := blk_cell HW.out.kx 5
      have hv0 : EInv w (wr.alloc (.cells #[.int .i64 ba, .slice A la.length ca, .int .i64 ua] 28)) ba ua bb ub A B ca cb la.length lb.length := HW.out.below ((Below.refl _ wr).alloc (Nat.le_refl _) _)
      have HE0 := Aside0.mk hv0
      have hal : (wr.alloc (.cells #[.int .i64 ba, .slice A la.length ca, .int .i64 ua] 28)).heap[wr.heap.size]? = some (.cells #[.int .i64 ba, .slice A la.length ca, .int .i64 ua] 28 (0, 0)) := al_new _ _ _ rfl
      clear hv0
      have c52 := a52 _ (Kd.C_below HA.out HE0.out.bel)
      by_cases hk : checkF ba la ua = 0
      · rw [hk] at c52
        go_wp2_with fail
        refine c52.mono ?_
        rintro en w1 ⟨rfl, hB⟩
        have HE1 := Aside0.mk (HE0.out.below hB)
        clear hB c52 hal
        go_wp2
        go_roundw
        case rel => exact ⟨.inr (.inl ⟨by go_num, hk⟩), HE1⟩
        case measure => simp [intOf]
      · have hEx : extE ba la ua bb lb ub = checkF ba la ua := by unfold extE; rw [if_pos hk]
        have HEx := Aside0.mk hEx
        have q2 : (checkF ba la ua != 0) = true := bne_iff_ne.2 hk
        have HQ := Aside0.mk hk
        generalize checkF ba la ua = q at *
        clear hEx hk
        go_wp2_with fail
        refine c52.mono ?_
        rintro en w1 ⟨rfl, hB⟩
        have hv := HE0.out.below hB
        have kr := hv.kr
        have hv2 := hv.bel
        clear hB c52 hal hv
        have r0 : w1.cell? ⟨w.heap.size + 1 + 1, 0, none⟩ = some (.int .i64 0) := blk_cell kr 0
        have r1 : w1.cell? ⟨w.heap.size + 1 + 1, 1, none⟩ = some (.slice none 0 0) := blk_cell kr 1
        have r2 : w1.cell? ⟨w.heap.size + 1 + 1, 2, none⟩ = some (.int .i64 0) := blk_cell kr 2
        have z0 := blk_frozen kr 0
        have z1 := blk_frozen kr 1
        have z2 := blk_frozen kr 2
        go_wp2
        exact bodyPost_ret (results_row_tmp rfl _ _ (w.heap.size + 1 + 1) 28 _ (0, 0) _ rfl (blk_put (blk_put (blk_put kr 0 _ rfl) 1 _ rfl) 2 _ rfl) Try.underlying28 rfl info28) rfl
          ⟨fun _ => by rw [HEx.out]; rfl, fun h => absurd (HEx.out.symm.trans h) HQ.out, ((hv2.setCell (by simp; omega) _).setCell (by simp; omega) _).setCell (by simp; omega) _⟩
    · skip
      have x0 : wr.cell? ⟨w.heap.size + 1 + 1 + 1, 0, none⟩ = some (.int .i64 ba) := blk_cell HW.out.kx 0
      have x1 : wr.cell? ⟨w.heap.size + 1 + 1 + 1, 1, none⟩ = some (.slice A la.length ca) := blk_cell HW.out.kx 1
      have x2 : wr.cell? ⟨w.heap.size + 1 + 1 + 1, 2, none⟩ = some (.int .i64 ua) := blk_cell HW.out.kx 2
      have x3 : wr.cell? ⟨w.heap.size + 1 + 1 + 1, 3, none⟩ = some (.int .i64 bb) := blk_cell HW.out.kx 3
      have x4 : wr.cell? ⟨w.heap.size + 1 + 1 + 1, 4, none⟩ = some (.slice B lb.length cb) := blk_cell HW.out.kx 4
      have x5 : wr.cell? ⟨w.heap.size + 1 + 1 + 1, 5, none⟩ = some (.int .i64 ub) := blk_cell HW.out.kx 5
      have hv0 : EInv w (wr.alloc (.cells #[.int .i64 bb, .slice B lb.length cb, .int .i64 ub] 28)) ba ua bb ub A B ca cb la.length lb.length := HW.out.below ((Below.refl _ wr).alloc (Nat.le_refl _) _)
      have HE0 := Aside0.mk hv0
      have hal : (wr.alloc (.cells #[.int .i64 bb, .slice B lb.length cb, .int .i64 ub] 28)).heap[wr.heap.size]? = some (.cells #[.int .i64 bb, .slice B lb.length cb, .int .i64 ub] 28 (0, 0)) := al_new _ _ _ rfl
      clear hv0
      have c52 := b52 _ (Kd.C_below HB.out HE0.out.bel)
      by_cases hk : checkF bb lb ub = 0
      · rw [hk] at c52
        go_wp2_with fail
        refine c52.mono ?_
        rintro en w1 ⟨rfl, hB⟩
        have HE1 := Aside0.mk (HE0.out.below hB)
        clear hB c52 hal
        go_wp2
        go_roundw
        case rel => exact ⟨.inr (.inr ⟨by go_num, h1, hk⟩), HE1⟩
        case measure => simp [intOf]
      · have hEx : extE ba la ua bb lb ub = checkF bb lb ub := by unfold extE; rw [if_neg (by simp [h1]), if_pos hk]
        have HEx := Aside0.mk hEx
        have q2 : (checkF bb lb ub != 0) = true := bne_iff_ne.2 hk
        have HQ := Aside0.mk hk
        generalize checkF bb lb ub = q at *
        clear hEx hk
        go_wp2_with fail
        refine c52.mono ?_
        rintro en w1 ⟨rfl, hB⟩
        have hv := HE0.out.below hB
        have kr := hv.kr
        have hv2 := hv.bel
        clear hB c52 hal hv
        have r0 : w1.cell? ⟨w.heap.size + 1 + 1, 0, none⟩ = some (.int .i64 0) := blk_cell kr 0
        have r1 : w1.cell? ⟨w.heap.size + 1 + 1, 1, none⟩ = some (.slice none 0 0) := blk_cell kr 1
        have r2 : w1.cell? ⟨w.heap.size + 1 + 1, 2, none⟩ = some (.int .i64 0) := blk_cell kr 2
        have z0 := blk_frozen kr 0
        have z1 := blk_frozen kr 1
        have z2 := blk_frozen kr 2
        go_wp2
        exact bodyPost_ret (results_row_tmp rfl _ _ (w.heap.size + 1 + 1) 28 _ (0, 0) _ rfl (blk_put (blk_put (blk_put kr 0 _ rfl) 1 _ rfl) 2 _ rfl) Try.underlying28 rfl info28) rfl
          ⟨fun _ => by rw [HEx.out]; rfl, fun h => absurd (HEx.out.symm.trans h) HQ.out, ((hv2.setCell (by simp; omega) _).setCell (by simp; omega) _).setCell (by simp; omega) _⟩
    · skip
      have HK1 := Aside0.mk h1
      have HK2 := Aside0.mk h2
      have hra := checkF_right h1
      have hrb := checkF_right h2
      have hla := hra.2.2.2.2.1
      have hlb := hrb.2.2.2.2.1
      clear h1 h2 hra hrb a52 b52
      have x0 : wr.cell? ⟨w.heap.size, 0, none⟩ = some (.int .i64 ba) := blk_cell HW.out.ka 0
      have x1 : wr.cell? ⟨w.heap.size, 1, none⟩ = some (.slice A la.length ca) := blk_cell HW.out.ka 1
      have x2 : wr.cell? ⟨w.heap.size, 2, none⟩ = some (.int .i64 ua) := blk_cell HW.out.ka 2
      have y0 : wr.cell? ⟨w.heap.size + 1, 0, none⟩ = some (.int .i64 bb) := blk_cell HW.out.kb 0
      have y1 : wr.cell? ⟨w.heap.size + 1, 1, none⟩ = some (.slice B lb.length cb) := blk_cell HW.out.kb 1
      have y2 : wr.cell? ⟨w.heap.size + 1, 2, none⟩ = some (.int .i64 ub) := blk_cell HW.out.kb 2
      by_cases hu : ub < ua
      · have HEx : Aside0 (extE ba la ua bb lb ub = 9) := ⟨by unfold extE; rw [if_neg (by simp [HK1.out]), if_neg (by simp [HK2.out]), if_pos hu]⟩
        have d0 : decide (ub < ua) = true := decide_eq_true hu
        have kr := HW.out.kr
        have hv2 := HW.out.bel
        have HQ : Aside0 (¬ ((9 : Int) = 0)) := ⟨by decide⟩
        have r0 : wr.cell? ⟨w.heap.size + 1 + 1, 0, none⟩ = some (.int .i64 0) := blk_cell kr 0
        have r1 : wr.cell? ⟨w.heap.size + 1 + 1, 1, none⟩ = some (.slice none 0 0) := blk_cell kr 1
        have r2 : wr.cell? ⟨w.heap.size + 1 + 1, 2, none⟩ = some (.int .i64 0) := blk_cell kr 2
        have z0 := blk_frozen kr 0
        have z1 := blk_frozen kr 1
        have z2 := blk_frozen kr 2
        go_wp2
        exact bodyPost_ret (results_row_tmp rfl _ _ (w.heap.size + 1 + 1) 28 _ (0, 0) _ rfl (blk_put (blk_put (blk_put kr 0 _ rfl) 1 _ rfl) 2 _ rfl) Try.underlying28 rfl info28) rfl
          ⟨fun _ => by rw [HEx.out]; rfl, fun h => absurd (HEx.out.symm.trans h) HQ.out, ((hv2.setCell (by simp; omega) _).setCell (by simp; omega) _).setCell (by simp; omega) _⟩
      · have HEx : Aside0 (extE ba la ua bb lb ub = if ba = bb ∧ la = lb.take (cutN ua lb) then 0 else 91) := ⟨by unfold extE; rw [if_neg (by simp [HK1.out]), if_neg (by simp [HK2.out]), if_neg hu]⟩
        have d0 : decide (ub < ua) = false := decide_eq_false hu
        have a69 := indexFunc_calls B cb lb ua w.heap.size wr (Kd.C_below HB.out HW.out.bel) (by omega) x2
        have hib := idxG_bound ua lb 0
        have HCN : Aside0 (cutN ua lb = if idxG ua lb 0 < 0 then lb.length else (idxG ua lb 0).toNat) := ⟨rfl⟩
        have hcn := cutN_le ua lb
        obtain ⟨k, hk⟩ : ∃ k, cutN ua lb = k := ⟨_, rfl⟩
        rw [hk] at hcn HEx HCN
        generalize idxG ua lb 0 = ix at *
        clear hk hu
        go_wp2_with fail
        refine a69.mono ?_
        rintro en w1 ⟨rfl, hB⟩
        have HW1 := Aside0.mk (HW.out.below hB)
        clear hB a69 x0 x1 x2 y0 y1 y2
        have x0 : w1.cell? ⟨w.heap.size, 0, none⟩ = some (.int .i64 ba) := blk_cell HW1.out.ka 0
        have x1 : w1.cell? ⟨w.heap.size, 1, none⟩ = some (.slice A la.length ca) := blk_cell HW1.out.ka 1
        have x2 : w1.cell? ⟨w.heap.size, 2, none⟩ = some (.int .i64 ua) := blk_cell HW1.out.ka 2
        have y0 : w1.cell? ⟨w.heap.size + 1, 0, none⟩ = some (.int .i64 bb) := blk_cell HW1.out.kb 0
        have y1 : w1.cell? ⟨w.heap.size + 1, 1, none⟩ = some (.slice B lb.length cb) := blk_cell HW1.out.kb 1
        have y2 : w1.cell? ⟨w.heap.size + 1, 2, none⟩ = some (.int .i64 ub) := blk_cell HW1.out.kb 2
        have hC1 : Kd.C kl w1 A la.length la := Kd.C_below HA.out HW1.out.bel
        have hC2 : Kd.C kl w1 B (lb.take k).length (lb.take k) := C_take (Kd.C_below HB.out HW1.out.bel) hcn
        have hlt : (lb.take k).length = k := by simp; omega
        have HC1 := Aside0.mk hC1
        have HC2 := Aside0.mk hC2
        have HLT := Aside0.mk hlt
        clear hC1 hC2 hlt
        by_cases hi : ix < 0
        · have hkl : k = lb.length := by rw [HCN.out, if_pos hi]
          have dix : decide (ix < 0) = true := decide_eq_true hi
          subst hkl
          have hk0 : (0 : Int) ≤ (lb.length : Int) := by omega
          have hk1 : (lb.length : Int) ≤ (cb : Int) := by omega
          clear hi
          by_cases hb : ba = bb
          · have q1 : (ba == bb) = true := beq_iff_eq.2 hb
            have q2 : (ba != bb) = false := by rw [bne, q1]; rfl
            have a71 := fun w h1 h2 => equalL_calls A B ca cb la (lb.take lb.length) w h1 h2 (by omega) (by rw [HLT.out]; omega)
            rw [HLT.out] at a71
            have HC2' : Aside0 (kl.C w1 B lb.length (lb.take lb.length)) := ⟨by have := HC2.out; rwa [HLT.out] at this⟩
            obtain ⟨be, hbe⟩ : ∃ be, decide (la = lb.take lb.length) = be := ⟨_, rfl⟩
            rw [hbe] at a71
            have HBE := Aside0.mk hbe
            clear hbe
            go_wp2_with fail
            have hS : ∀ w', Below w1.heap.size w1 w' → ((w'.cell? ⟨w.heap.size, 0, none⟩ = some (.int .i64 ba) ∧ w'.cell? ⟨w.heap.size, 1, none⟩ = some (.slice A la.length ca) ∧ w'.cell? ⟨w.heap.size + 1, 0, none⟩ = some (.int .i64 bb) ∧ w'.cell? ⟨w.heap.size + 1, 1, none⟩ = some (.slice B lb.length cb)) ∧ Below w1.heap.size w1 w') := fun w' hB => ⟨⟨cell_on hB x0, cell_on hB x1, cell_on hB y0, cell_on hB y1⟩, hB⟩
            go_region_held3 (fun w' => (w'.cell? ⟨w.heap.size, 0, none⟩ = some (.int .i64 ba) ∧ w'.cell? ⟨w.heap.size, 1, none⟩ = some (.slice A la.length ca) ∧ w'.cell? ⟨w.heap.size + 1, 0, none⟩ = some (.int .i64 bb) ∧ w'.cell? ⟨w.heap.size + 1, 1, none⟩ = some (.slice B lb.length cb)) ∧ Below w1.heap.size w1 w') (first | exact hS _ (Below.refl _ _).drew | assumption | (have hh := ‹(_ ∧ _ ∧ _ ∧ _) ∧ Below w1.heap.size w1 _›; exact hS _ (hh.2.trans (hB.mono hh.2.size))))
              (first | (go_at_call 71; refine (a71 _ (by have hh := ‹(_ ∧ _ ∧ _ ∧ _) ∧ Below w1.heap.size w1 _›; exact Kd.C_below HC1.out hh.2) (by have hh := ‹(_ ∧ _ ∧ _ ∧ _) ∧ Below w1.heap.size w1 _›; exact Kd.C_below HC2'.out hh.2)).mono ?_; rintro e w' ⟨rfl, hB⟩))
            rename_i hHeld
            have hB := hHeld.2
            clear hHeld hS
            rename World => w3
            cases be
            · have HE2 : Aside0 (extE ba la ua bb lb ub = 91) := ⟨by rw [HEx.out, if_neg (fun h => by have := of_decide_eq_false HBE.out; exact this h.2)]⟩
              have HQ : Aside0 (¬ ((91 : Int) = 0)) := ⟨by decide⟩
              have HW3 := Aside0.mk (HW1.out.below hB)
              clear hB x0 x1 x2 y0 y1 y2
              have x0 : w3.cell? ⟨w.heap.size, 0, none⟩ = some (.int .i64 ba) := blk_cell HW3.out.ka 0
              have x1 : w3.cell? ⟨w.heap.size, 1, none⟩ = some (.slice A la.length ca) := blk_cell HW3.out.ka 1
              have x2 : w3.cell? ⟨w.heap.size, 2, none⟩ = some (.int .i64 ua) := blk_cell HW3.out.ka 2
              have y0 : w3.cell? ⟨w.heap.size + 1, 0, none⟩ = some (.int .i64 bb) := blk_cell HW3.out.kb 0
              have y1 : w3.cell? ⟨w.heap.size + 1, 1, none⟩ = some (.slice B lb.length cb) := blk_cell HW3.out.kb 1
              have y2 : w3.cell? ⟨w.heap.size + 1, 2, none⟩ = some (.int .i64 ub) := blk_cell HW3.out.kb 2
              have kr := HW3.out.kr
              have hv2 := HW3.out.bel
              have r0 : w3.cell? ⟨w.heap.size + 1 + 1, 0, none⟩ = some (.int .i64 0) := blk_cell kr 0
              have r1 : w3.cell? ⟨w.heap.size + 1 + 1, 1, none⟩ = some (.slice none 0 0) := blk_cell kr 1
              have r2 : w3.cell? ⟨w.heap.size + 1 + 1, 2, none⟩ = some (.int .i64 0) := blk_cell kr 2
              have z0 := blk_frozen kr 0
              have z1 := blk_frozen kr 1
              have z2 := blk_frozen kr 2
              go_wp2
              exact bodyPost_ret (results_row_tmp rfl _ _ (w.heap.size + 1 + 1) 28 _ (0, 0) _ rfl (blk_put (blk_put (blk_put kr 0 _ rfl) 1 _ rfl) 2 _ rfl) Try.underlying28 rfl info28) rfl
                ⟨fun _ => by rw [HE2.out]; rfl, fun h => absurd (HE2.out.symm.trans h) HQ.out, ((hv2.setCell (by simp; omega) _).setCell (by simp; omega) _).setCell (by simp; omega) _⟩
            · have HE2 : Aside0 (extE ba la ua bb lb ub = 0) := ⟨by rw [HEx.out, if_pos ⟨hb, of_decide_eq_true HBE.out⟩]⟩
              have HW3 := Aside0.mk (HW1.out.below hB)
              clear hB x0 x1 x2 y0 y1 y2
              have x0 : w3.cell? ⟨w.heap.size, 0, none⟩ = some (.int .i64 ba) := blk_cell HW3.out.ka 0
              have x1 : w3.cell? ⟨w.heap.size, 1, none⟩ = some (.slice A la.length ca) := blk_cell HW3.out.ka 1
              have x2 : w3.cell? ⟨w.heap.size, 2, none⟩ = some (.int .i64 ua) := blk_cell HW3.out.ka 2
              have y0 : w3.cell? ⟨w.heap.size + 1, 0, none⟩ = some (.int .i64 bb) := blk_cell HW3.out.kb 0
              have y1 : w3.cell? ⟨w.heap.size + 1, 1, none⟩ = some (.slice B lb.length cb) := blk_cell HW3.out.kb 1
              have y2 : w3.cell? ⟨w.heap.size + 1, 2, none⟩ = some (.int .i64 ub) := blk_cell HW3.out.kb 2
              have kr := HW3.out.kr
              have hv2 := HW3.out.bel
              have hcl := Aside0.mk (fun W (hW : Below w3.heap.size w3 W) => clone_calls2 B cb lb W (Kd.C_below HB.out (HW3.out.bel.trans (hW.mono HW3.out.bel.size))) (by omega))
              go_wp2_with fail
              have r0 : w3.cell? ⟨w.heap.size + 1 + 1, 0, none⟩ = some (.int .i64 0) := blk_cell kr 0
              have r1 : w3.cell? ⟨w.heap.size + 1 + 1, 1, none⟩ = some (.slice none 0 0) := blk_cell kr 1
              have r2 : w3.cell? ⟨w.heap.size + 1 + 1, 2, none⟩ = some (.int .i64 0) := blk_cell kr 2
              go_region_with (go_at_call 72; refine (hcl.out _ (by first | exact Below.refl _ _ | exact (Below.refl _ _).drew)).mono ?_; rintro e w' ⟨v', rfl, hown, hB⟩; have y0' := cell_on hB y0; have y1' := cell_on hB y1; have y2' := cell_on hB y2; have r0' := cell_on hB r0; have r1' := cell_on hB r1; have r2' := cell_on hB r2; have kq := (hB.block _ (Array.getElem?_eq_some_iff.1 HW3.out.kr).1).trans HW3.out.kr; have z0 := blk_frozen kq 0; have z1 := blk_frozen kq 1; have z2 := blk_frozen kq 2; obtain ⟨A1, c1, rfl, _⟩ := own_leaps (e := 45) hown; have hown9 : Aside0 (w'.ownsRow w3.heap.size 45 2 (.slice A1 lb.length c1) lb.length (lcells lb) ∧ w'.heap[w.heap.size + 1 + 1]? = some (.cells #[.int .i64 0, .slice none 0 0, .int .i64 0] 28 (0, 0)) ∧ Below w3.heap.size w3 w') := ⟨hown, kq, (Below.refl w3.heap.size w3).drew.trans hB⟩; clear hown hB kq)
              all_goals
                go_wp2
                exact bodyPost_ret (results_row_tmp rfl _ _ (w.heap.size + 1 + 1) 28 _ (0, 0) _ rfl (blk_put (blk_put (blk_put hown9.out.2.1 0 _ rfl) 1 _ rfl) 2 _ rfl) Try.underlying28 rfl info28) rfl ⟨fun h => absurd HE2.out h, fun _ => ⟨_, (by first | rfl | (go_simp; done) | (simp; done)), ((ext_close HE2.out HW3.out hown9.out.1 hown9.out.2.2).2.1 HE2.out)⟩, (ext_close HE2.out HW3.out hown9.out.1 hown9.out.2.2).2.2⟩
          · have q1 : (ba == bb) = false := beq_eq_false_iff_ne.2 hb
            have q2 : (ba != bb) = true := bne_iff_ne.2 hb
            have HE2 : Aside0 (extE ba la ua bb lb ub = 91) := ⟨by rw [HEx.out, if_neg (fun h => hb h.1)]⟩
            have HQ : Aside0 (¬ ((91 : Int) = 0)) := ⟨by decide⟩
            clear hb
            go_wp2_with fail
            go_quiet (fail)
            have kr := HW1.out.kr
            have hv2 := HW1.out.bel
            have r0 : w1.cell? ⟨w.heap.size + 1 + 1, 0, none⟩ = some (.int .i64 0) := blk_cell kr 0
            have r1 : w1.cell? ⟨w.heap.size + 1 + 1, 1, none⟩ = some (.slice none 0 0) := blk_cell kr 1
            have r2 : w1.cell? ⟨w.heap.size + 1 + 1, 2, none⟩ = some (.int .i64 0) := blk_cell kr 2
            have z0 := blk_frozen kr 0
            have z1 := blk_frozen kr 1
            have z2 := blk_frozen kr 2
            try go_wp2
            exact bodyPost_ret (results_row_tmp rfl _ _ (w.heap.size + 1 + 1) 28 _ (0, 0) _ rfl (blk_put (blk_put (blk_put kr 0 _ rfl) 1 _ rfl) 2 _ rfl) Try.underlying28 rfl info28) rfl
              ⟨fun _ => by rw [HE2.out]; rfl, fun h => absurd (HE2.out.symm.trans h) HQ.out, (((by first | exact hv2 | exact pw_below_drewN hv2 _ | exact below_drew1 hv2 : Below w.heap.size w _).setCell (by simp; omega) _).setCell (by simp; omega) _).setCell (by simp; omega) _⟩
        · have hkl : ix = (k : Int) := by rw [HCN.out, if_neg hi]; omega
          subst hkl
          have hk0 : (0 : Int) ≤ (k : Int) := by omega
          have hk1 : (k : Int) ≤ (cb : Int) := by omega
          clear hi HCN
          by_cases hb : ba = bb
          · have q1 : (ba == bb) = true := beq_iff_eq.2 hb
            have q2 : (ba != bb) = false := by rw [bne, q1]; rfl
            have a71 := fun w h1 h2 => equalL_calls A B ca cb la (lb.take k) w h1 h2 (by omega) (by rw [HLT.out]; omega)
            rw [HLT.out] at a71
            have HC2' : Aside0 (kl.C w1 B k (lb.take k)) := ⟨by have := HC2.out; rwa [HLT.out] at this⟩
            obtain ⟨be, hbe⟩ : ∃ be, decide (la = lb.take k) = be := ⟨_, rfl⟩
            rw [hbe] at a71
            have HBE := Aside0.mk hbe
            clear hbe
            go_wp2_with fail
            have hS : ∀ w', Below w1.heap.size w1 w' → ((w'.cell? ⟨w.heap.size, 0, none⟩ = some (.int .i64 ba) ∧ w'.cell? ⟨w.heap.size, 1, none⟩ = some (.slice A la.length ca) ∧ w'.cell? ⟨w.heap.size + 1, 0, none⟩ = some (.int .i64 bb) ∧ w'.cell? ⟨w.heap.size + 1, 1, none⟩ = some (.slice B lb.length cb)) ∧ Below w1.heap.size w1 w') := fun w' hB => ⟨⟨cell_on hB x0, cell_on hB x1, cell_on hB y0, cell_on hB y1⟩, hB⟩
            go_region_held3 (fun w' => (w'.cell? ⟨w.heap.size, 0, none⟩ = some (.int .i64 ba) ∧ w'.cell? ⟨w.heap.size, 1, none⟩ = some (.slice A la.length ca) ∧ w'.cell? ⟨w.heap.size + 1, 0, none⟩ = some (.int .i64 bb) ∧ w'.cell? ⟨w.heap.size + 1, 1, none⟩ = some (.slice B lb.length cb)) ∧ Below w1.heap.size w1 w') (first | exact hS _ (Below.refl _ _).drew | assumption | (have hh := ‹(_ ∧ _ ∧ _ ∧ _) ∧ Below w1.heap.size w1 _›; exact hS _ (hh.2.trans (hB.mono hh.2.size))))
              (first | (go_at_call 71; refine (a71 _ (by have hh := ‹(_ ∧ _ ∧ _ ∧ _) ∧ Below w1.heap.size w1 _›; exact Kd.C_below HC1.out hh.2) (by have hh := ‹(_ ∧ _ ∧ _ ∧ _) ∧ Below w1.heap.size w1 _›; exact Kd.C_below HC2'.out hh.2)).mono ?_; rintro e w' ⟨rfl, hB⟩))
            rename_i hHeld
            have hB := hHeld.2
            clear hHeld hS
            rename World => w3
            cases be
            · have HE2 : Aside0 (extE ba la ua bb lb ub = 91) := ⟨by rw [HEx.out, if_neg (fun h => by have := of_decide_eq_false HBE.out; exact this h.2)]⟩
              have HQ : Aside0 (¬ ((91 : Int) = 0)) := ⟨by decide⟩
              have HW3 := Aside0.mk (HW1.out.below hB)
              clear hB x0 x1 x2 y0 y1 y2
              have x0 : w3.cell? ⟨w.heap.size, 0, none⟩ = some (.int .i64 ba) := blk_cell HW3.out.ka 0
              have x1 : w3.cell? ⟨w.heap.size, 1, none⟩ = some (.slice A la.length ca) := blk_cell HW3.out.ka 1
              have x2 : w3.cell? ⟨w.heap.size, 2, none⟩ = some (.int .i64 ua) := blk_cell HW3.out.ka 2
              have y0 : w3.cell? ⟨w.heap.size + 1, 0, none⟩ = some (.int .i64 bb) := blk_cell HW3.out.kb 0
              have y1 : w3.cell? ⟨w.heap.size + 1, 1, none⟩ = some (.slice B lb.length cb) := blk_cell HW3.out.kb 1
              have y2 : w3.cell? ⟨w.heap.size + 1, 2, none⟩ = some (.int .i64 ub) := blk_cell HW3.out.kb 2
              have kr := HW3.out.kr
              have hv2 := HW3.out.bel
              have r0 : w3.cell? ⟨w.heap.size + 1 + 1, 0, none⟩ = some (.int .i64 0) := blk_cell kr 0
              have r1 : w3.cell? ⟨w.heap.size + 1 + 1, 1, none⟩ = some (.slice none 0 0) := blk_cell kr 1
              have r2 : w3.cell? ⟨w.heap.size + 1 + 1, 2, none⟩ = some (.int .i64 0) := blk_cell kr 2
              have z0 := blk_frozen kr 0
              have z1 := blk_frozen kr 1
              have z2 := blk_frozen kr 2
              go_wp2
              exact bodyPost_ret (results_row_tmp rfl _ _ (w.heap.size + 1 + 1) 28 _ (0, 0) _ rfl (blk_put (blk_put (blk_put kr 0 _ rfl) 1 _ rfl) 2 _ rfl) Try.underlying28 rfl info28) rfl
                ⟨fun _ => by rw [HE2.out]; rfl, fun h => absurd (HE2.out.symm.trans h) HQ.out, ((hv2.setCell (by simp; omega) _).setCell (by simp; omega) _).setCell (by simp; omega) _⟩
            · have HE2 : Aside0 (extE ba la ua bb lb ub = 0) := ⟨by rw [HEx.out, if_pos ⟨hb, of_decide_eq_true HBE.out⟩]⟩
              have HW3 := Aside0.mk (HW1.out.below hB)
              clear hB x0 x1 x2 y0 y1 y2
              have x0 : w3.cell? ⟨w.heap.size, 0, none⟩ = some (.int .i64 ba) := blk_cell HW3.out.ka 0
              have x1 : w3.cell? ⟨w.heap.size, 1, none⟩ = some (.slice A la.length ca) := blk_cell HW3.out.ka 1
              have x2 : w3.cell? ⟨w.heap.size, 2, none⟩ = some (.int .i64 ua) := blk_cell HW3.out.ka 2
              have y0 : w3.cell? ⟨w.heap.size + 1, 0, none⟩ = some (.int .i64 bb) := blk_cell HW3.out.kb 0
              have y1 : w3.cell? ⟨w.heap.size + 1, 1, none⟩ = some (.slice B lb.length cb) := blk_cell HW3.out.kb 1
              have y2 : w3.cell? ⟨w.heap.size + 1, 2, none⟩ = some (.int .i64 ub) := blk_cell HW3.out.kb 2
              have kr := HW3.out.kr
              have hv2 := HW3.out.bel
              have hcl := Aside0.mk (fun W (hW : Below w3.heap.size w3 W) => clone_calls2 B cb lb W (Kd.C_below HB.out (HW3.out.bel.trans (hW.mono HW3.out.bel.size))) (by omega))
              go_wp2_with fail
              have r0 : w3.cell? ⟨w.heap.size + 1 + 1, 0, none⟩ = some (.int .i64 0) := blk_cell kr 0
              have r1 : w3.cell? ⟨w.heap.size + 1 + 1, 1, none⟩ = some (.slice none 0 0) := blk_cell kr 1
              have r2 : w3.cell? ⟨w.heap.size + 1 + 1, 2, none⟩ = some (.int .i64 0) := blk_cell kr 2
              go_region_with (go_at_call 72; refine (hcl.out _ (by first | exact Below.refl _ _ | exact (Below.refl _ _).drew)).mono ?_; rintro e w' ⟨v', rfl, hown, hB⟩; have y0' := cell_on hB y0; have y1' := cell_on hB y1; have y2' := cell_on hB y2; have r0' := cell_on hB r0; have r1' := cell_on hB r1; have r2' := cell_on hB r2; have kq := (hB.block _ (Array.getElem?_eq_some_iff.1 HW3.out.kr).1).trans HW3.out.kr; have z0 := blk_frozen kq 0; have z1 := blk_frozen kq 1; have z2 := blk_frozen kq 2; obtain ⟨A1, c1, rfl, _⟩ := own_leaps (e := 45) hown; have hown9 : Aside0 (w'.ownsRow w3.heap.size 45 2 (.slice A1 lb.length c1) lb.length (lcells lb) ∧ w'.heap[w.heap.size + 1 + 1]? = some (.cells #[.int .i64 0, .slice none 0 0, .int .i64 0] 28 (0, 0)) ∧ Below w3.heap.size w3 w') := ⟨hown, kq, (Below.refl w3.heap.size w3).drew.trans hB⟩; clear hown hB kq)
              all_goals
                go_wp2
                exact bodyPost_ret (results_row_tmp rfl _ _ (w.heap.size + 1 + 1) 28 _ (0, 0) _ rfl (blk_put (blk_put (blk_put hown9.out.2.1 0 _ rfl) 1 _ rfl) 2 _ rfl) Try.underlying28 rfl info28) rfl ⟨fun h => absurd HE2.out h, fun _ => ⟨_, (by first | rfl | (go_simp; done) | (simp; done)), ((ext_close HE2.out HW3.out hown9.out.1 hown9.out.2.2).2.1 HE2.out)⟩, (ext_close HE2.out HW3.out hown9.out.1 hown9.out.2.2).2.2⟩
          · have q1 : (ba == bb) = false := beq_eq_false_iff_ne.2 hb
            have q2 : (ba != bb) = true := bne_iff_ne.2 hb
            have HE2 : Aside0 (extE ba la ua bb lb ub = 91) := ⟨by rw [HEx.out, if_neg (fun h => hb h.1)]⟩
            have HQ : Aside0 (¬ ((91 : Int) = 0)) := ⟨by decide⟩
            clear hb
            go_wp2_with fail
            go_quiet (fail)
            have kr := HW1.out.kr
            have hv2 := HW1.out.bel
            have r0 : w1.cell? ⟨w.heap.size + 1 + 1, 0, none⟩ = some (.int .i64 0) := blk_cell kr 0
            have r1 : w1.cell? ⟨w.heap.size + 1 + 1, 1, none⟩ = some (.slice none 0 0) := blk_cell kr 1
            have r2 : w1.cell? ⟨w.heap.size + 1 + 1, 2, none⟩ = some (.int .i64 0) := blk_cell kr 2
            have z0 := blk_frozen kr 0
            have z1 := blk_frozen kr 1
            have z2 := blk_frozen kr 2
            try go_wp2
            exact bodyPost_ret (results_row_tmp rfl _ _ (w.heap.size + 1 + 1) 28 _ (0, 0) _ rfl (blk_put (blk_put (blk_put kr 0 _ rfl) 1 _ rfl) 2 _ rfl) Try.underlying28 rfl info28) rfl
              ⟨fun _ => by rw [HE2.out]; rfl, fun h => absurd (HE2.out.symm.trans h) HQ.out, (((by first | exact hv2 | exact pw_below_drewN hv2 _ | exact below_drew1 hv2 : Below w.heap.size w _).setCell (by simp; omega) _).setCell (by simp; omega) _).setCell (by simp; omega) _⟩
end Go.Proofs.Ytleipbanadnchaa.C
