/- Zo, Zq, Zr: joined. -/
import Derived.OwnWalk
import Derived.Test.YtleipbanadnchaaY1
import Derived.Test.YtleipbanadnchaaCk
import Derived.Test.YtleipbanadnchaaDa
import Derived.Laws.AppendOwn
import Derived.Deep.RegionHeld3
import Derived.BigRegion
import Derived.Test.YtleipbanadnchaaZe
import Derived.Test.YtleipbanadnchaaY2
import Derived.Test.YtleipbanadnchaaFa
import Derived.Deep.RegionLaw
import Derived.Deep.AppendLies
import Derived.Test.YtleipbanadnchaaY4
section
/- Contracts of slices.IsSorted and of zoned, by hand. -/
namespace Go.Proofs.Ytleipbanadnchaa.C
open Go.RowKit Go.Shelf Go.Maps Go.Proofs.YtleipbanadnchaaW.PrintWords Go.Proofs.YtleipbanadnchaaW.PrintLast Go.Proofs.YtleipbanadnchaaW.PrintMore
set_option linter.unusedVariables false
set_option linter.unusedSimpArgs false
theorem zisNaN_calls (x : Int) (w : World) : Calls Try.prog 121 #[.int .i64 x] w fun e w' => e = .returned (.bool false) ∧ Below w.heap.size w w' := by
  have h1 : (x == x) = true := by simp
  have h2 : (x != x) = false := by rw [bne, h1]; rfl
  go_enter Try.func121, Try.ntmps121
  go_wp2
  go_ret
  exact ⟨rfl, Below.refl _ _⟩
theorem zless_calls (x y : Int) (w : World) : Calls Try.prog 103 #[.int .i64 x, .int .i64 y] w fun e w' => e = .returned (.bool (decide (x < y))) ∧ Below w.heap.size w w' := by
  have a121 := fun x w => zisNaN_calls x w
  go_enter Try.func103, Try.ntmps103
  go_wp2_with fail
  refine (a121 _ _).mono ?_
  rintro en w1 ⟨rfl, hB⟩
  cases hd : decide (x < y)
  all_goals
    go_wp2_with fail
    first
      | (refine (a121 _ _).mono ?_
         rintro en w2 ⟨rfl, hB2⟩
         go_wp2
         go_ret
         exact ⟨rfl, hB.trans (hB2.mono hB.size)⟩)
      | (go_ret
         exact ⟨by rw [hd]; rfl, hB⟩)
set_option maxHeartbeats 4000000 in
set_option maxRecDepth 100000 in
theorem isSorted_calls (A : Option Addr) (c : Nat) (l : List Int) (w : World) (hl : Kd.C (Kd.int .i64) w A l.length l) (hlen : l.length ≤ 1000000) (hs : l.Pairwise (· ≤ ·)) :
    Calls Try.prog 43 #[.slice A l.length c] w fun e w' => e = .returned (.bool true) ∧ Below w.heap.size w w' := by
  have HL := Aside0.mk hl
  have HS := Aside0.mk hs
  clear hl hs
  have hw0 : IntKind.i64.wrap ((l.length : Int) - 1) = (l.length : Int) - 1 := iw _ (by omega) (by omega)
  go_enter Try.func43, Try.ntmps43
  go_wp2_with fail
  clear hw0
  go_loopw [3] (fun v3 wr => ∃ i : Nat, i ≤ l.length ∧ v3 = .int .i64 ((i : Int) - 1) ∧ Aside0 (Below w.heap.size w wr)) (fun v _ => (intOf v + 1).toNat)
  case atStart => exact ⟨l.length, by omega, rfl, ⟨Below.refl _ _⟩⟩
  case round =>
    obtain ⟨i, hi, rfl, HW⟩ := hrel
    by_cases h1 : i ≤ 1
    · have d0 : decide ((0 : Int) < (i : Int) - 1) = false := decide_eq_false (by omega)
      have d1 : ¬ ((0 : Int) < (i : Int) - 1) := by omega
      go_wp2
      go_ret
      exact ⟨rfl, HW.out⟩
    · obtain ⟨j, rfl⟩ : ∃ j, i = j + 2 := ⟨i - 2, by omega⟩
      have e1 : ((j + 2 : Nat) : Int) - 1 = (j : Int) + 1 := by omega
      rw [e1]
      obtain ⟨ad, rfl, hc1⟩ := C_i64 (Kd.C_below HL.out HW.out) (j + 1) (by omega) (by omega)
      obtain ⟨_, ead, hc0⟩ := C_i64 (Kd.C_below HL.out HW.out) j (by omega) (by omega)
      cases ead
      have eadd : ad.add (j + 1) = ⟨ad.block, ad.off + (j + 1), none⟩ := by unfold Addr.add; rw [if_neg (by omega)]
      rw [eadd] at hc1
      clear eadd
      have hle : l[j]'(by omega) ≤ l[j + 1]'(by omega) := List.pairwise_iff_getElem.1 HS.out j (j + 1) (by omega) (by omega) (by omega)
      generalize (l[j]'(by omega)) = x at *
      generalize (l[j + 1]'(by omega)) = y at *
      have d0 : decide ((0 : Int) < (j : Int) + 1) = true := decide_eq_true (by omega)
      have d1 : (0 : Int) ≤ (j : Int) + 1 := by omega
      have d2 : (j : Int) + 1 < (l.length : Int) := by omega
      have d3 : (j : Int) < (l.length : Int) := by omega
      have d4 : (0 : Int) ≤ (j : Int) := by omega
      have hw : IntKind.i64.wrap ((j : Int) + 1 - 1) = (j : Int) := by rw [show (j : Int) + 1 - 1 = (j : Int) by omega]; exact iw _ (by omega) (by omega)
      have hw2 : IntKind.i64.wrap (j : Int) = (j : Int) := iw _ (by omega) (by omega)
      have ht1 : ((j : Int) + 1).toNat = j + 1 := by omega
      have ht2 : ((j : Int)).toNat = j := by omega
      have a103 := fun w => zless_calls y x w
      rw [decide_eq_false (by omega : ¬ y < x)] at a103
      go_wp2_with fail
      have hS : ∀ w', Below wr.heap.size wr w' → ((w'.cell? (ad.add j) = some (.int .i64 x) ∧ w'.cell? ⟨ad.block, ad.off + (j + 1), none⟩ = some (.int .i64 y)) ∧ Below wr.heap.size wr w') := fun w' hB => ⟨⟨cell_on hB hc0, cell_on hB hc1⟩, hB⟩
      go_region_held3 (fun w' => (w'.cell? (ad.add j) = some (.int .i64 x) ∧ w'.cell? ⟨ad.block, ad.off + (j + 1), none⟩ = some (.int .i64 y)) ∧ Below wr.heap.size wr w') (first | exact hS _ (Below.refl _ _).drew | assumption | (have hh := ‹(_ ∧ _) ∧ Below wr.heap.size wr _›; exact hS _ (hh.2.trans (hB.mono hh.2.size))))
        (first | (go_at_call 103; refine (a103 _).mono ?_; rintro e w' ⟨rfl, hB⟩))
      rename_i hHeld
      have hB := hHeld.2
      clear hHeld hS
      have HW2 := Aside0.mk (HW.out.trans (hB.mono HW.out.size))
      clear hB
      go_wp2
      go_roundw
      case rel => exact ⟨j + 1, by omega, by go_num, HW2⟩
      case measure => simp [intOf]; omega
end Go.Proofs.Ytleipbanadnchaa.C
end

section
/- The seconds of a local date are those whose local date it is; in plain Lean. -/
namespace Go.Proofs.Ytleipbanadnchaa.C
/-- The minutes of a second's local date, in a day. -/
def locT (L : List (Int × Int)) (o : Int) (zl : List (Int × Int)) (k D : Int) : Int := shN (cY D) (cM D) (cD D) (ckH (k - beginF L D)) (ckM (k - beginF L D)) (holdsF o zl k)
theorem okD_known {y m d : Int} (hok : okD y m d = true) : knownD (dayN y m d) = true ∧ cY (dayN y m d) = y ∧ cM (dayN y m d) = m ∧ cD (dayN y m d) = d := by
  have hp := okD_iff.1 hok
  have hc : IsCiv (dayN y m d) y m d := ⟨hp.1, hp.2.2.1, hp.2.2.2.1, hp.2.2.2.2.1, hp.2.2.2.2.2, rfl⟩
  have h1 := hc.in_year
  have h2 := ny_mono (y := 1972) (z := y) hp.1
  have h3 := ny_mono (y := y + 1) (z := 2100) (by omega)
  have e1 : ny 1972 = 41316 := by decide
  have e2 : ny 2100 = 88068 := by decide
  have hk : 41317 ≤ dayN y m d ∧ dayN y m d ≤ 88068 := by omega
  have hu := hc.unique (civ_is hk.1 (by omega))
  exact ⟨by unfold knownD; simp; exact hk, hu.1, hu.2.1, hu.2.2⟩
theorem known_ok {D : Int} (h : knownD D = true) : okD (cY D) (cM D) (cD D) = true ∧ dayN (cY D) (cM D) (cD D) = D := by
  unfold knownD at h
  simp at h
  have hc := civ_is h.1 (by omega)
  exact ⟨okD_iff.2 ⟨hc.y0, hc.y2 h.2, hc.m0, hc.m1, hc.d0, hc.d1⟩, hc.eq⟩
theorem ck_time {r : Int} (h0 : 0 ≤ r) (h1 : r ≤ 86400) : 0 ≤ ckH r ∧ ckH r ≤ 23 ∧ 0 ≤ ckM r ∧ ckM r ≤ 59 ∧ 0 ≤ ckS r ∧ ckS r ≤ 60 ∧ 3600 * ckH r + 60 * ckM r + ckS r = r ∧ (ckS r = 60 → r = 86400) := by
  unfold ckH ckM ckS
  split <;> omega
theorem ck_of {h i s : Int} (hh : 0 ≤ h ∧ h ≤ 23) (hi : 0 ≤ i ∧ i ≤ 59) (hs : 0 ≤ s ∧ s ≤ 60) (h60 : s = 60 → 3600 * h + 60 * i + s = 86400) : ckH (3600 * h + 60 * i + s) = h ∧ ckM (3600 * h + 60 * i + s) = i ∧ ckS (3600 * h + 60 * i + s) = s := by
  unfold ckH ckM ckS
  split <;> omega
theorem local_of {b u : Int} {L : List (Int × Int)} (hk : checkF b L u = 0) {o : Int} {zl : List (Int × Int)} {y m d h i s k : Int} (hok : okD y m d = true) (hh : 0 ≤ h ∧ h ≤ 23) (hi : 0 ≤ i ∧ i ≤ 59) (hm : k ∈ localL u L o zl y m d h i s) :
    ∃ D, IsDay L u k D ∧ knownD (locT L o zl k D / 1440) = true ∧ y = cY (locT L o zl k D / 1440) ∧ m = cM (locT L o zl k D / 1440) ∧ d = cD (locT L o zl k D / 1440) ∧ h = locT L o zl k D / 60 % 24 ∧ i = locT L o zl k D % 60 ∧ s = ckS (k - beginF L D) := by
  unfold localL at hm
  obtain ⟨q, hq, hx⟩ := List.mem_filterMap.1 hm
  obtain ⟨hu, hhold⟩ := secF_some hx
  obtain ⟨a1, a2, a3⟩ := secU_some hu
  have a4 := secOk_parts a1 a2
  obtain ⟨n, hn⟩ : ∃ n, shN y m d h i (-q) = n := ⟨_, rfl⟩
  rw [hn] at a1 a2 a3 a4
  obtain ⟨b1, b2⟩ := known_ok a1
  unfold secOk at a2
  rw [b2] at a2
  simp at a2
  obtain ⟨_, c1, c2, c3, c4, c5, c6, c7, c8, c9⟩ := a2
  have hR := (checkF_right hk).2.2.2.2.2
  have hnx := hR.next (n / 1440)
  have hkn := a1
  unfold knownD at hkn
  simp at hkn
  have hD : IsDay L u k (n / 1440) := ⟨hkn.1, c7, by omega, by omega⟩
  have hr : k - beginF L (n / 1440) = 3600 * (n / 60 % 24) + 60 * (n % 60) + s := by omega
  have hck := ck_of (h := n / 60 % 24) (i := n % 60) (s := s) ⟨c1, c2⟩ ⟨c3, c4⟩ ⟨c5, c6⟩ (by omega)
  have hT : locT L o zl k (n / 1440) = 1440 * dayN y m d + 60 * h + i := by
    unfold locT
    rw [hr, hck.1, hck.2.1, hhold]
    unfold shN at hn ⊢
    rw [b2]
    omega
  have e1 : locT L o zl k (n / 1440) / 1440 = dayN y m d := by omega
  obtain ⟨f1, f2, f3, f4⟩ := okD_known hok
  refine ⟨n / 1440, hD, ?_, ?_, ?_, ?_, by omega, by omega, ?_⟩
  · rw [e1]; exact f1
  · rw [e1, f2]
  · rw [e1, f3]
  · rw [e1, f4]
  · rw [hr, hck.2.2]
theorem local_in {b u : Int} {L : List (Int × Int)} (hk : checkF b L u = 0) {o : Int} {zl : List (Int × Int)} (hz : zcheckF o zl = 0) {k D : Int} (hD : IsDay L u k D) (hkn : knownD (locT L o zl k D / 1440) = true) :
    k ∈ localL u L o zl (cY (locT L o zl k D / 1440)) (cM (locT L o zl k D / 1440)) (cD (locT L o zl k D / 1440)) (locT L o zl k D / 60 % 24) (locT L o zl k D % 60) (ckS (k - beginF L D)) := by
  have hR := (checkF_right hk).2.2.2.2.2
  have hu := (checkF_right hk).2.2.2.1
  have hcl := hD.clock hR
  have hck := ck_time hcl.1 hcl.2.2
  have hDk : knownD D = true := by unfold knownD; simp; exact ⟨hD.d0, by have := hD.d1; omega⟩
  obtain ⟨b1, b2⟩ := known_ok hDk
  obtain ⟨b3, b4⟩ := known_ok hkn
  have hmem := holds_mem k zl o
  have hnb := offL_bound hz hmem
  have hT : locT L o zl k D = 1440 * D + 60 * ckH (k - beginF L D) + ckM (k - beginF L D) + holdsF o zl k := by unfold locT shN; rw [b2]
  obtain ⟨T, hTT⟩ : ∃ T, locT L o zl k D = T := ⟨_, rfl⟩
  rw [hTT] at hT hkn b3 b4 ⊢
  unfold localL
  refine List.mem_filterMap.2 ⟨holdsF o zl k, List.mem_filter.2 ⟨(downF_mem _ _ _).2 ⟨by omega, by omega⟩, by simpa using hmem⟩, ?_⟩
  have hn : shN (cY (T / 1440)) (cM (T / 1440)) (cD (T / 1440)) (T / 60 % 24) (T % 60) (-(holdsF o zl k)) = 1440 * D + 60 * ckH (k - beginF L D) + ckM (k - beginF L D) := by
    unfold shN
    rw [b4]
    omega
  have e1 : (1440 * D + 60 * ckH (k - beginF L D) + ckM (k - beginF L D)) / 1440 = D := by omega
  have e2 : (1440 * D + 60 * ckH (k - beginF L D) + ckM (k - beginF L D)) / 60 % 24 = ckH (k - beginF L D) := by omega
  have e3 : (1440 * D + 60 * ckH (k - beginF L D) + ckM (k - beginF L D)) % 60 = ckM (k - beginF L D) := by omega
  have hU : secU u L (cY (T / 1440)) (cM (T / 1440)) (cD (T / 1440)) (T / 60 % 24) (T % 60) (ckS (k - beginF L D)) (holdsF o zl k) = some k := by
    unfold secU
    simp only
    rw [hn, e1, e2, e3, if_pos]
    · congr 1; omega
    · refine ⟨hDk, ?_⟩
      unfold secOk
      rw [b1, b2]
      simp
      have := hD.d1
      omega
  unfold secF
  rw [hU]
  simp
end Go.Proofs.Ytleipbanadnchaa.C
end

section
/- The contract of zoned, by hand. -/
namespace Go.Proofs.Ytleipbanadnchaa.C
open Go.RowKit Go.Shelf Go.Maps Go.Proofs.YtleipbanadnchaaW.PrintWords Go.Proofs.YtleipbanadnchaaW.PrintLast Go.Proofs.YtleipbanadnchaaW.PrintMore
set_option linter.unusedVariables false
set_option linter.unusedSimpArgs false
attribute [local go_sem] max2_int max_two
/-- Changes that zoned has made. -/
structure MadeZ (at_ : Int) (l : List (Int × Int)) : Prop where
  all : ∀ x ∈ l, 0 ≤ x.1 ∧ x.1 < at_ ∧ -1440 ≤ x.2 ∧ x.2 ≤ 1440
  rising : l.Pairwise (fun x y => x.1 < y.1)
theorem MadeZ.snoc {a a' s : Int} {l : List (Int × Int)} (h : MadeZ a l) (h0 : 0 ≤ a) (h1 : a < a') (hs : -1440 ≤ s ∧ s ≤ 1440) : MadeZ a' (l ++ [(a, s)]) := by
  refine ⟨fun x hx => ?_, List.pairwise_append.2 ⟨h.rising, List.pairwise_singleton _ _, fun x hx y hy => ?_⟩⟩
  · rcases List.mem_append.1 hx with hx | hx
    · have := h.all x hx; omega
    · obtain rfl := List.mem_singleton.1 hx; exact ⟨h0, h1, hs.1, hs.2⟩
  · obtain rfl := List.mem_singleton.1 hy
    exact (h.all x hx).2.1
theorem zlE_good : ∀ (l : List (Int × Int)) (p : Option Int), (∀ x ∈ l, 0 ≤ x.1 ∧ -1440 ≤ x.2 ∧ x.2 ≤ 1440) → l.Pairwise (fun x y => x.1 < y.1) → (∀ q, p = some q → ∀ x ∈ l, q < x.1) → zlE p l = 0
  | [], _, _, _, _ => rfl
  | x :: l, p, h, hp, hq => by
    obtain ⟨h1, h2⟩ := List.pairwise_cons.1 hp
    have hx := h x (List.mem_cons_self ..)
    have e : zleapE p x = 0 := by
      unfold zleapE
      rw [if_neg (by omega)]
      cases p with
      | none => rfl
      | some q =>
        have := hq q rfl x (List.mem_cons_self ..)
        show (if x.1 ≤ q then (11 : Int) else 0) = 0
        rw [if_neg (by omega)]
    unfold zlE
    rw [if_pos e]
    exact zlE_good l _ (fun z hz => h z (List.mem_cons_of_mem _ hz)) h2 (fun q hqq z hz => by cases hqq; exact h1 z hz)
theorem MadeZ.check {a o : Int} {l : List (Int × Int)} (h : MadeZ a l) (ho : -1440 ≤ o ∧ o ≤ 1440) (hl : l.length ≤ 200) : zcheckF o l = 0 := by
  unfold zcheckF
  rw [if_neg (by omega), if_neg (by omega)]
  exact zlE_good l none (fun x hx => ⟨(h.all x hx).1, (h.all x hx).2.2.1, (h.all x hx).2.2.2⟩) h.rising (fun q hq => by cases hq)
/-- How far zoned has come. -/
structure ZdInv (w wr : World) (i : Nat) (at_ o : Int) (L : List (Int × Int)) (vo : Value) : Prop where
  bel : Below w.heap.size w wr
  res : wr.heap[w.heap.size]? = some (.cells #[.int .i64 0, .slice none 0 0] 76 (0, 0))
  tab : wr.heap[w.heap.size + 1]? = some (.cells #[.int .i64 o, vo] 76 (0, 0))
  own : wr.ownsRow (w.heap.size + 2) 140 2 vo L.length (lcells L)
  len : L.length * 2 + 1 ≤ i
  made : MadeZ at_ L
theorem zd_round {w w1 w2 : World} {i : Nat} {a a' o sv : Int} {L : List (Int × Int)} {vo v2 : Value} (h : ZdInv w w1 i a o L vo) (hown : w2.ownsRow (w.heap.size + 2) 140 2 v2 (L.length + 1) (lcells L ++ [.int .i64 a, .int .i64 sv])) (hgrow : (w1.drew.alloc (.cells #[.int .i64 a, .int .i64 sv] 140)).grownBy w2 vo.ownBlock) (hm : MadeZ a' (L ++ [(a, sv)])) :
    ∃ Av cv, v2 = .slice Av (L.length + 1) cv ∧ w2.cell? ⟨w.heap.size + 1, 1, none⟩ = some vo ∧ w2.frozen? ⟨w.heap.size + 1, 1, none⟩ = false ∧ Below w.heap.size w w2 ∧
      ZdInv w (w2.setCell ⟨w.heap.size + 1, 1, none⟩ v2) (i + 2) a' o (L ++ [(a, sv)]) v2 := by
  have hsz : w.heap.size + 1 < w1.heap.size := (Array.getElem?_eq_some_iff.1 h.tab).1
  have hob : ∀ k, vo.ownBlock = some k → w.heap.size + 2 ≤ k := fun k hk => own_base h.own k hk
  have keep : ∀ (k : Nat) (ob : Obj), k < w.heap.size + 2 → w1.heap[k]? = some ob → w2.heap[k]? = some ob := fun k ob hk ho => by
    have h1 := (Array.getElem?_eq_some_iff.1 ho).1
    exact (hgrow.block k (by simp; omega) (fun e => by have := hob k e.symm; omega)).trans (al_old (w := w1.drew) ho)
  have hbel : Below w.heap.size w w2 := ((h.bel.drew).alloc (by have := h.bel.size; simpa using this) _).grown hgrow (by simp; omega) (fun k hk => by have := hob k hk; omega)
  have kt := keep _ _ (by omega) h.tab
  have hl : lcells (L ++ [(a, sv)]) = lcells L ++ [.int .i64 a, .int .i64 sv] := by rw [lcells_append]; rfl
  have hlen : (L ++ [(a, sv)]).length = L.length + 1 := by simp
  have hown2 : w2.ownsRow (w.heap.size + 2) 140 2 v2 (L ++ [(a, sv)]).length (lcells (L ++ [(a, sv)])) := by rw [hl, hlen]; exact hown
  obtain ⟨Av, cv, hv, _⟩ := own_leaps (e := 140) hown2
  rw [hlen] at hv
  refine ⟨Av, cv, hv, blk_cell kt 1, blk_frozen kt 1, hbel, ⟨hbel.setCell (by simp) _, ?_, ?_, ?_, ?_, hm⟩⟩
  · exact blk_far (keep _ _ (by omega) h.res) (by simp) _
  · exact blk_put kt 1 _ rfl
  · exact own_move hown2 (fun k hk => by
      have := own_base hown2 k hk
      rw [Below.heap_setCell _ _ _ k (by simp; omega)])
  · rw [hlen]; have := h.len; omega
theorem zd_end {w W : World} {i : Nat} {a o : Int} {L : List (Int × Int)} {A1 : Option Addr} {c1 : Nat} (h : ZdInv w W i a o L (.slice A1 L.length c1)) (ho : -1440 ≤ o ∧ o ≤ 1440) (hl : L.length ≤ 200 := by omega) :
    ((W.setCell ⟨w.heap.size, 0, none⟩ (.int .i64 o)).setCell ⟨w.heap.size, 1, none⟩ (.slice A1 L.length c1)).heap[w.heap.size]? = some (.cells #[.int .i64 o, .slice A1 L.length c1] 76 (0, 0)) ∧ zcheckF o L = 0 ∧
    Kd.C kl ((W.setCell ⟨w.heap.size, 0, none⟩ (.int .i64 o)).setCell ⟨w.heap.size, 1, none⟩ (.slice A1 L.length c1)) A1 L.length L ∧
    Below w.heap.size w ((W.setCell ⟨w.heap.size, 0, none⟩ (.int .i64 o)).setCell ⟨w.heap.size, 1, none⟩ (.slice A1 L.length c1)) := by
  have o3 := own_move (w1 := ((W.setCell ⟨w.heap.size, 0, none⟩ (.int .i64 o)).setCell ⟨w.heap.size, 1, none⟩ (.slice A1 L.length c1))) h.own (fun k hk => by
    have := own_base h.own k hk
    rw [Below.heap_setCell _ _ _ k (by simp; omega), Below.heap_setCell _ _ _ k (by simp; omega)])
  obtain ⟨_, _, e, hC⟩ := own_leaps (e := 140) o3
  cases e
  exact ⟨blk_put (blk_put h.res 0 _ rfl) 1 _ rfl, h.made.check ho hl, hC, ((h.bel.setCell (by simp) _).setCell (by simp) _)⟩
theorem info140z : (Try.prog.info? 140).map (fun i => (i.zero, i.size, i.bytes)) = some (some (.agg #[.int .i64 0, .int .i64 0]), 2, 16) := by kernel_rfl
theorem info76 : (Try.prog.info? 76).map (·.size) = some 2 := by kernel_rfl
set_option maxHeartbeats 4000000 in
set_option maxRecDepth 100000 in
theorem zoned_calls (A : Option Addr) (c : Nat) (l : List Int) (s : Int) (w : World) (hr : Kd.C (Kd.int .u8) w A l.length l) (hb : ∀ x ∈ l, 0 ≤ x ∧ x ≤ 255) (hlen : l.length ≤ 9223372036854775807) (hs0 : 0 ≤ s) (hs1 : s ≤ 2000000000000) :
    Calls Try.prog 40 #[.slice A l.length c, .int .i64 s] w fun e w' => (∃ o A1 c1 L, e = .returned (.agg #[.int .i64 o, .slice A1 L.length c1]) ∧ zcheckF o L = 0 ∧ Kd.C kl w' A1 L.length L) ∧ Below w.heap.size w w' := by
  obtain ⟨ii, hii, hz0, hz1, hz2⟩ := info_parts info140z
  have HR := Aside0.mk hr
  have HBy := Aside0.mk hb
  clear hr hb
  obtain ⟨W0, hW0⟩ : ∃ W0, (w.alloc (.cells #[.int .i64 0, .slice none 0 0] 76)).alloc (.cells #[.int .i64 0, .slice none 0 0] 76) = W0 := ⟨_, rfl⟩
  have hv : Below w.heap.size w W0 := by rw [← hW0]; exact ((Below.refl _ w).alloc (Nat.le_refl _) _).alloc (by simp) _
  have kr : W0.heap[w.heap.size]? = some (.cells #[.int .i64 0, .slice none 0 0] 76 (0, 0)) := by rw [← hW0]; exact al_old (al_new _ _ _ rfl)
  have kz : W0.heap[w.heap.size + 1]? = some (.cells #[.int .i64 0, .slice none 0 0] 76 (0, 0)) := by rw [← hW0]; exact al_new _ _ _ (by simp)
  have z0 : W0.cell? ⟨w.heap.size + 1, 0, none⟩ = some (.int .i64 0) := blk_cell kz 0
  have f0 := blk_frozen kz 0
  obtain ⟨a0, ha0⟩ : ∃ a0, (if s - 20000 < 0 then 0 else s - 20000) = a0 := ⟨_, rfl⟩
  have hwm : IntKind.i64.wrap (s - 20000) = s - 20000 := iw _ (by omega) (by omega)
  go_enter Try.func40, Try.ntmps40
  by_cases hl0 : 0 < l.length
  · obtain ⟨ad, rfl, hc0⟩ := C_u8 (Kd.C_below HR.out hv) 0 hl0 hl0
    have hb0 := HBy.out (l[0]'hl0) (List.getElem_mem _)
    generalize (l[0]'hl0) = l0 at *
    have hc0' : W0.cell? ad = some (.int .u8 l0) := hc0
    have d5 : decide (0 < (l.length : Int)) = true := decide_eq_true (by omega)
    have d6 : decide (0 < l.length) = true := decide_eq_true hl0
    go_wp2_with fail
    obtain ⟨oz, hoz⟩ : ∃ oz, 15 * (l0 % 97) - 720 = oz := ⟨_, rfl⟩
    have hob : -1440 ≤ oz ∧ oz ≤ 1440 := by omega
    have ha1 : 0 ≤ a0 ∧ a0 ≤ 2000000000000 := by rw [← ha0]; split <;> omega
    try rw [hoz]
    have HI0 : Aside0 (ZdInv w (W0.setCell ⟨w.heap.size + 1, 0, none⟩ (.int .i64 oz)) 1 a0 oz [] (.slice none 0 0)) := ⟨hv.setCell (by simp) _, blk_far kr (by simp) _, blk_put kz 0 _ rfl, own_nil _ _ _ _, by simp, ⟨by simp, List.Pairwise.nil⟩⟩
    generalize W0.setCell ⟨w.heap.size + 1, 0, none⟩ (.int .i64 oz) = W1 at *
    clear hW0 hv kr kz z0 f0 ha0 hwm hc0 hc0' d5 d6 hoz hb0
    go_loopw [7, 6] (fun v7 v6 wr => ∃ (i : Nat) (a : Int) (L : List (Int × Int)) (vo : Value), i ≤ 22 ∧ 0 ≤ a ∧ a ≤ 2000000000000 + 20000 * i ∧ v7 = .int .i64 i ∧ v6 = .int .i64 a ∧ Aside0 (ZdInv w wr i a oz L vo)) (fun v _ _ => 28 - (intOf v).toNat)
    case atStart => exact ⟨1, a0, [], _, by omega, ha1.1, by omega, rfl, rfl, HI0⟩
    case round =>
      obtain ⟨i, a, L, vo, hi, ha0, ha1, rfl, rfl, HI⟩ := hrel
      have t0 : wr.cell? ⟨w.heap.size + 1, 0, none⟩ = some (.int .i64 oz) := blk_cell HI.out.tab 0
      have t1 : wr.cell? ⟨w.heap.size + 1, 1, none⟩ = some vo := blk_cell HI.out.tab 1
      by_cases hin : i + 1 < l.length ∧ i < 21
      · have d1 : decide ((i : Int) + 1 < (l.length : Int)) = true := decide_eq_true (by omega)
        have d2 : decide ((i : Int) < 21) = true := decide_eq_true (by omega)
        obtain ⟨_, ead, hc0⟩ := C_u8 (Kd.C_below HR.out HI.out.bel) i (by omega) (by omega)
        cases ead
        obtain ⟨_, ead, hc1⟩ := C_u8 (Kd.C_below HR.out HI.out.bel) (i + 1) hin.1 hin.1
        cases ead
        have hbl : ad.block < w.heap.size := by
          obtain ⟨ad2, ead2, hcc⟩ := C_u8 HR.out (i + 1) hin.1 hin.1
          cases ead2
          have := World.block_lt_of_cell? _ _ hcc
          rwa [add_block] at this
        have eadd : ad.add (i + 1) = ⟨ad.block, ad.off + (i + 1), none⟩ := by unfold Addr.add; rw [if_neg (by omega)]
        rw [eadd] at hc1
        have hb0 := HBy.out l[i] (List.getElem_mem _)
        have hb1 := HBy.out l[i + 1] (List.getElem_mem _)
        generalize l[i] = b0 at *
        generalize l[i + 1] = b1 at *
        obtain ⟨sv, hsv⟩ : ∃ sv, 15 * (b0 % 97) - 720 = sv := ⟨_, rfl⟩
        obtain ⟨a', ha'⟩ : ∃ a', a + (1 + 40 * b1) = a' := ⟨_, rfl⟩
        have ha2 : a < a' ∧ a' ≤ 2000000000000 + 20000 * ((i : Int) + 2) := by omega
        have hsb : -1440 ≤ sv ∧ sv ≤ 1440 := by omega
        have HM := Aside0.mk (HI.out.made.snoc ha0 ha2.1 hsb)
        have hLlen : L.length ≤ 12 := by have := HI.out.len; omega
        have hsz1 : w.heap.size + 1 < wr.heap.size := (Array.getElem?_eq_some_iff.1 HI.out.tab).1
        have hownD : (wr.drew.alloc (.cells #[.int .i64 a, .int .i64 sv] 140)).ownsRow (w.heap.size + 2) 140 2 vo L.length (lcells L) := own_move HI.out.own (fun k hk => Below.heap_alloc (w := wr.drew) _ k (own_lt HI.out.own k hk))
        have hcb2 : ∀ w2, Below w.heap.size w w2 → w2.cell? ⟨ad.block, ad.off + (i + 1), none⟩ = some (.int .u8 b1) := fun w2 hB2 => by
          have h := hB2.cell (p := ⟨ad.block, ad.off + (i + 1), none⟩) hbl
          rw [h]
          have h' := (HI.out.bel).cell (p := ⟨ad.block, ad.off + (i + 1), none⟩) hbl
          rw [← h']
          exact hc1
        have HCB := Aside0.mk hcb2
        have hbne : ad.block ≠ w.heap.size + 1 := by omega
        have hbne2 : w.heap.size + 1 ≠ ad.block := by omega
        have hi0 : (0 : Int) ≤ (i : Int) := by omega
        have hi1 : (i : Int) < (l.length : Int) := by omega
        clear hcb2 eadd hsb
        have htm : b0.tmod 97 = b0 % 97 := Int.tmod_eq_emod_of_nonneg hb0.1
        have hw1 : IntKind.i64.wrap (b0 % 97) = b0 % 97 := iw _ (by omega) (by omega)
        have hw2 : IntKind.i64.wrap (15 * (b0 % 97)) = 15 * (b0 % 97) := iw _ (by omega) (by omega)
        have hw3 : IntKind.i64.wrap (15 * (b0 % 97) - 720) = sv := by rw [← hsv]; exact iw _ (by omega) (by omega)
        have hw4 : IntKind.i64.wrap (40 * b1) = 40 * b1 := iw _ (by omega) (by omega)
        have hw5 : IntKind.i64.wrap (1 + 40 * b1) = 1 + 40 * b1 := iw _ (by omega) (by omega)
        have hw6 : IntKind.i64.wrap (a + (1 + 40 * b1)) = a + (1 + 40 * b1) := iw _ (by omega) (by omega)
        have hszA : w.heap.size + 2 ≤ wr.heap.size := by omega
        clear hsv
        go_wp2_with fail
        go_region_law (refine step_append_lies _ rfl _ _ 74 rfl (w.heap.size + 2) 140 ii (.agg #[.int .i64 0, .int .i64 0]) 2 16 Try.underlying74 hii hz0 hz1 hz2 rfl (by decide) vo L.length (lcells L) rfl hownD ⟨wr.heap.size, 0, none⟩ 1 1 [.int .i64 a, .int .i64 sv] rfl rfl (World.news_of_block (cs := #[.int .i64 a, .int .i64 sv]) (t := 140) (fr := (0, 0)) (al_new _ _ _ rfl)) (by simp [Value.oneCell']) (by decide) (by unfold maxLen; omega) (by omega) (by simp; omega) _ rfl ?_; intro g2 cap2 w2 hown2 hgrow2 hat2 hlt2; obtain ⟨_, _, _, t1', f1', hbel2, HF9⟩ := zd_round HI.out hown2 hgrow2 HM.out; have HF := Aside0.mk HF9; have hcb := HCB.out _ hbel2; clear HF9 hown2 hgrow2 hbel2)
        all_goals
          go_wp2
          go_roundw
          case rel => exact ⟨i + 2, a', _, _, by omega, by omega, by omega, by go_num, by rw [← ha'], HF⟩
          case measure => simp [intOf]; omega
      · have hcond : decide ((i : Int) + 1 < (l.length : Int)) = true ∧ decide ((i : Int) < 21) = false ∨ decide ((i : Int) + 1 < (l.length : Int)) = false := by
          by_cases h1 : i + 1 < l.length
          · exact .inl ⟨decide_eq_true (by omega), decide_eq_false (by omega)⟩
          · exact .inr (decide_eq_false (by omega))
        obtain ⟨A1, c1, hvo, _⟩ := own_leaps (e := 140) HI.out.own
        subst hvo
        have z0 : wr.cell? ⟨w.heap.size, 0, none⟩ = some (.int .i64 0) := blk_cell HI.out.res 0
        have z1 : wr.cell? ⟨w.heap.size, 1, none⟩ = some (.slice none 0 0) := blk_cell HI.out.res 1
        have g0 := blk_frozen HI.out.res 0
        have g1 := blk_frozen HI.out.res 1
        have HFI := Aside0.mk (zd_end HI.out hob (by have := HI.out.len; omega))
        clear hin
        rcases hcond with ⟨d1, d2⟩ | d1
        all_goals
          go_wp2
          exact bodyPost_ret (results_cell_row rfl _ _ w.heap.size 76 _ (0, 0) _ rfl HFI.out.1 Try.underlying76 rfl info76) rfl ⟨⟨oz, A1, c1, L, rfl, HFI.out.2.1, HFI.out.2.2.1⟩, HFI.out.2.2.2⟩
  · have d5 : decide (0 < (l.length : Int)) = false := decide_eq_false (by omega)
    have d6 : decide (0 < l.length) = false := decide_eq_false (by omega)
    have hl1 : l.length = 0 := by omega
    have HI0 : Aside0 (ZdInv w W0 1 a0 0 [] (.slice none 0 0)) := ⟨hv, kr, kz, own_nil _ _ _ _, by simp, ⟨by simp, List.Pairwise.nil⟩⟩
    have z0' : W0.cell? ⟨w.heap.size, 0, none⟩ = some (.int .i64 0) := blk_cell kr 0
    have z1' : W0.cell? ⟨w.heap.size, 1, none⟩ = some (.slice none 0 0) := blk_cell kr 1
    have y1 : W0.cell? ⟨w.heap.size + 1, 1, none⟩ = some (.slice none 0 0) := blk_cell kz 1
    have g0 := blk_frozen kr 0
    have g1 := blk_frozen kr 1
    have HFI := Aside0.mk (zd_end (A1 := none) (c1 := 0) HI0.out ⟨by omega, by omega⟩ (by simp))
    go_wp2_with fail
    go_loopw [7] (fun v7 wr => v7 = .int .i64 1 ∧ wr = W0) (fun v _ => 1)
    case atStart => exact ⟨rfl, by first | rfl | trivial⟩
    case round =>
      obtain ⟨rfl, rfl⟩ := hrel
      have d1 : decide ((1 : Int) + 1 < (l.length : Int)) = false := decide_eq_false (by omega)
      have d1' : ¬ ((2 : Int) < (l.length : Int)) := by omega
      have d1'' : decide ((2 : Int) < (l.length : Int)) = false := decide_eq_false (by omega)
      go_wp2
      exact bodyPost_ret (results_cell_row rfl _ _ w.heap.size 76 _ (0, 0) _ rfl HFI.out.1 Try.underlying76 rfl info76) rfl ⟨⟨0, none, 0, [], rfl, HFI.out.2.1, HFI.out.2.2.1⟩, HFI.out.2.2.2⟩
end Go.Proofs.Ytleipbanadnchaa.C
end
