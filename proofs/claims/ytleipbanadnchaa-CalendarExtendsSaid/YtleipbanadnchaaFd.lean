/- The contract of Made, by hand. -/
import Derived.OwnWalk
import Derived.Laws.AppendOwn
import Derived.Test.YtleipbanadnchaaFa
import Derived.Test.YtleipbanadnchaaEg
import Derived.Test.YtleipbanadnchaaCd
import Derived.Test.YtleipbanadnchaaCp
namespace Go.Proofs.Ytleipbanadnchaa.C
open Go.RowKit Go.Shelf Go.Maps Go.Proofs.YtleipbanadnchaaW.PrintWords Go.Proofs.YtleipbanadnchaaW.PrintLast Go.Proofs.YtleipbanadnchaaW.PrintMore
set_option linter.unusedVariables false
set_option linter.unusedSimpArgs false
attribute [local go_sem] max2_int min2_int max_two min_two
/-- The last day of a month that is in the calendar; -1. -/
def endV (n : Int) : Int := if n < 1535 then endN n else -1
theorem lmonthEnd_calls (n : Int) (h0 : 0 ≤ n) (h1 : n ≤ 5000) (w : World) :
    Calls Try.prog 61 #[.int .i64 n] w fun e w' => e = .returned (.int .i64 (endV n)) ∧ Below w.heap.size w w' := by
  have a26 := fun w => day_calls (1972 + (n + 1) / 12) ((n + 1) % 12 + 1) 1 w
  unfold dayV dayE at a26
  unfold endV
  by_cases hn : n < 1535
  · have hok : okD (1972 + (n + 1) / 12) ((n + 1) % 12 + 1) 1 = true := okD_iff.2 ⟨by omega, by omega, by omega, by omega, by omega, by have := mlen_bound (1972 + (n + 1) / 12) ((n + 1) % 12 + 1); omega⟩
    have he := endN_next h0
    have hb := endN_me h0 (by omega)
    rw [hok, if_pos rfl, if_pos rfl, show dayN (1972 + (n + 1) / 12) ((n + 1) % 12 + 1) 1 = endN n + 1 by omega] at a26
    rw [if_pos hn]
    clear he hok
    generalize endN n = e at *
    go_enter Try.func61, Try.ntmps61
    go_wp2_with fail
    refine (a26 _).mono ?_
    rintro en w1 ⟨rfl, hB⟩
    go_wp2
    go_ret
    exact ⟨by first | rfl | (simp; omega), hB⟩
  · have hok : okD (1972 + (n + 1) / 12) ((n + 1) % 12 + 1) 1 = false := by
      cases h : okD (1972 + (n + 1) / 12) ((n + 1) % 12 + 1) 1
      · rfl
      · have := (okD_iff.1 h).2.1; omega
    rw [hok] at a26
    rw [if_neg hn]
    clear hok
    go_enter Try.func61, Try.ntmps61
    go_wp2_with fail
    refine (a26 _).mono ?_
    rintro en w1 ⟨rfl, hB⟩
    go_wp2
    go_ret
    exact ⟨rfl, hB⟩
theorem C_u8 {w : World} {A : Option Addr} {n : Nat} {l : List Int} (h : Kd.C (Kd.int .u8) w A n l) (k : Nat) (hk : k < l.length) (hn : k < n) : ∃ ad, A = some ad ∧ w.cell? (ad.add k) = some (.int .u8 l[k]) := by
  obtain ⟨ad, c, e, hs, hr, hc⟩ := ReadsRow.get_ h 0 k (by omega) (by omega)
  have hx : l.getD (Int.toNat (k : Int)) 0 = l[k] := by simp [List.getD_eq_getElem?_getD, hk]
  rw [hx] at hr
  obtain rfl : c = [.int .u8 l[k]] := hr
  have c0 := hc 0 _ rfl
  rw [show (Kd.int .u8).sz = 1 from rfl, show Int.toNat (k : Int) = k by simp] at c0
  exact ⟨ad, e, by simpa using c0⟩
/-- Leaps that Made has made. -/
structure MadeL (a u : Int) (L : List (Int × Int)) : Prop where
  all : ∀ x ∈ L, (x.2 = 1 ∨ x.2 = -1) ∧ meF x.1 = true ∧ 41317 ≤ x.1 ∧ x.1 < u ∧ x.1 ≤ endN a
  rising : L.Pairwise (fun x y => x.1 < y.1)
  u0 : 41318 ≤ u
  u1 : u ≤ 88069
theorem MadeL.nil (a : Int) : MadeL a 41357 [] := ⟨by simp, List.Pairwise.nil, by omega, by omega⟩
theorem MadeL.snoc {a a' u u' s : Int} {L : List (Int × Int)} (h : MadeL a u L) (h0 : 0 ≤ a) (ha : a < a') (h1 : a' < 1535) (hs : s = 1 ∨ s = -1) (hu : endN a' < u') (hu2 : u' ≤ 88069) : MadeL a' u' (L ++ [(endN a', s)]) := by
  have hlt := endN_lt h0 ha
  have hme := endN_me (n := a') (by omega) (by omega)
  refine ⟨fun x hx => ?_, List.pairwise_append.2 ⟨h.rising, List.pairwise_singleton _ _, fun x hx y hy => ?_⟩, by omega, hu2⟩
  · rcases List.mem_append.1 hx with hx | hx
    · have := h.all x hx
      exact ⟨this.1, this.2.1, this.2.2.1, by omega, by omega⟩
    · obtain rfl := List.mem_singleton.1 hx
      exact ⟨hs, hme.2.2, hme.1, hu, Int.le_refl _⟩
  · obtain rfl := List.mem_singleton.1 hy
    have := h.all x hx
    show x.1 < endN a'
    omega
theorem leapsE_good {u : Int} : ∀ (L : List (Int × Int)) (p : Option Int), (∀ x ∈ L, (x.2 = 1 ∨ x.2 = -1) ∧ meF x.1 = true ∧ 41317 ≤ x.1 ∧ x.1 < u) → L.Pairwise (fun x y => x.1 < y.1) → (∀ q, p = some q → ∀ x ∈ L, q < x.1) → leapsE u p L = 0
  | [], _, _, _, _ => rfl
  | x :: L, p, h, hp, hq => by
    obtain ⟨h1, h2⟩ := List.pairwise_cons.1 hp
    have hx := h x (List.mem_cons_self ..)
    have e : leapE u p x = 0 := by
      unfold leapE
      rw [if_neg (by rw [hx.2.1]; simp; omega), if_neg (by omega)]
      cases p with
      | none => rfl
      | some q =>
        have := hq q rfl x (List.mem_cons_self ..)
        show (if x.1 ≤ q then (11 : Int) else 0) = 0
        rw [if_neg (by omega)]
    unfold leapsE
    rw [if_pos e]
    exact leapsE_good L _ (fun z hz => h z (List.mem_cons_of_mem _ hz)) h2 (fun q hqq z hz => by cases hqq; exact h1 z hz)
theorem MadeL.check {a b u : Int} {L : List (Int × Int)} (h : MadeL a u L) (h0 : 0 ≤ b) (h1 : b ≤ 100) (hl : L.length ≤ 100) : checkF b L u = 0 := by
  unfold checkF
  rw [if_neg (by have := h.u0; have := h.u1; omega), if_neg (by omega)]
  exact leapsE_good L none (fun x hx => ⟨(h.all x hx).1, (h.all x hx).2.1, (h.all x hx).2.2.1, (h.all x hx).2.2.2.1⟩) h.rising (fun q hq => by cases hq)
/-- How far Made has come. -/
structure MInv (w wr : World) (i : Nat) (a u : Int) (L : List (Int × Int)) (vo : Value) : Prop where
  bel : Below w.heap.size w wr
  res : wr.heap[w.heap.size]? = some (.cells #[.int .i64 0, .slice none 0 0, .int .i64 0] 28 (0, 0))
  tab : wr.heap[w.heap.size + 1]? = some (.cells #[.int .i64 10, vo, .int .i64 u] 28 (0, 0))
  own : wr.ownsRow (w.heap.size + 2) 45 2 vo L.length (lcells L)
  len : L.length * 2 ≤ i
  made : MadeL a u L
theorem made_round {w w1 w2 : World} {i : Nat} {a u e sv : Int} {L : List (Int × Int)} {vo v2 : Value} (h : MInv w w1 i a u L vo) (hown : w2.ownsRow (w.heap.size + 2) 45 2 v2 (L.length + 1) (lcells L ++ [.int .i64 e, .int .i64 sv])) (hgrow : (w1.alloc (.cells #[.int .i64 e, .int .i64 sv] 45)).grownBy w2 vo.ownBlock) :
    ∃ Av cv, v2 = .slice Av (L.length + 1) cv ∧ w2.cell? ⟨w.heap.size + 1, 1, none⟩ = some vo ∧ w2.frozen? ⟨w.heap.size + 1, 1, none⟩ = false ∧ w2.cell? ⟨w.heap.size + 1, 2, none⟩ = some (.int .i64 u) ∧ w2.frozen? ⟨w.heap.size + 1, 2, none⟩ = false ∧ Below w.heap.size w w2 ∧
      ∀ a' u', MadeL a' u' (L ++ [(e, sv)]) → MInv w ((w2.setCell ⟨w.heap.size + 1, 1, none⟩ v2).setCell ⟨w.heap.size + 1, 2, none⟩ (.int .i64 u')) (i + 2) a' u' (L ++ [(e, sv)]) v2 := by
  have hsz : w.heap.size + 1 < w1.heap.size := (Array.getElem?_eq_some_iff.1 h.tab).1
  have hob : ∀ k, vo.ownBlock = some k → w.heap.size + 2 ≤ k := fun k hk => own_base h.own k hk
  have keep : ∀ (k : Nat) (o : Obj), k < w.heap.size + 2 → w1.heap[k]? = some o → w2.heap[k]? = some o := fun k o hk ho => by
    have h1 := (Array.getElem?_eq_some_iff.1 ho).1
    exact (hgrow.block k (by simp; omega) (fun e => by have := hob k e.symm; omega)).trans (al_old ho)
  have hbel : Below w.heap.size w w2 := (h.bel.alloc h.bel.size _).grown hgrow (by simp; omega) (fun k hk => by have := hob k hk; omega)
  have kt := keep _ _ (by omega) h.tab
  have hl : lcells (L ++ [(e, sv)]) = lcells L ++ [.int .i64 e, .int .i64 sv] := by rw [lcells_append]; rfl
  have hlen : (L ++ [(e, sv)]).length = L.length + 1 := by simp
  have hown2 : w2.ownsRow (w.heap.size + 2) 45 2 v2 (L ++ [(e, sv)]).length (lcells (L ++ [(e, sv)])) := by rw [hl, hlen]; exact hown
  obtain ⟨Av, cv, hv, _⟩ := own_leaps hown2
  rw [hlen] at hv
  refine ⟨Av, cv, hv, blk_cell kt 1, blk_frozen kt 1, blk_cell kt 2, blk_frozen kt 2, hbel, fun a' u' hm => ⟨(hbel.setCell (by simp) _).setCell (by simp) _, ?_, ?_, ?_, ?_, hm⟩⟩
  · exact blk_far (blk_far (keep _ _ (by omega) h.res) (by simp) _) (by simp) _
  · exact blk_put (blk_put kt 1 _ rfl) 2 _ rfl
  · exact own_move hown2 (fun k hk => by
      have := own_base hown2 k hk
      rw [Below.heap_setCell _ _ _ k (by simp; omega), Below.heap_setCell _ _ _ k (by simp; omega)])
  · rw [hlen]; have := h.len; omega
theorem made_end {w W : World} {b u : Int} {L : List (Int × Int)} {A1 : Option Addr} {c1 : Nat} (hbel : Below w.heap.size w W) (hres : W.heap[w.heap.size]? = some (.cells #[.int .i64 0, .slice none 0 0, .int .i64 0] 28 (0, 0)))
    (hown : W.ownsRow (w.heap.size + 2) 45 2 (.slice A1 L.length c1) L.length (lcells L)) :
    (((W.setCell ⟨w.heap.size, 0, none⟩ (.int .i64 b)).setCell ⟨w.heap.size, 1, none⟩ (.slice A1 L.length c1)).setCell ⟨w.heap.size, 2, none⟩ (.int .i64 u)).heap[w.heap.size]? = some (.cells #[.int .i64 b, .slice A1 L.length c1, .int .i64 u] 28 (0, 0)) ∧
    Kd.C kl (((W.setCell ⟨w.heap.size, 0, none⟩ (.int .i64 b)).setCell ⟨w.heap.size, 1, none⟩ (.slice A1 L.length c1)).setCell ⟨w.heap.size, 2, none⟩ (.int .i64 u)) A1 L.length L ∧
    Below w.heap.size w (((W.setCell ⟨w.heap.size, 0, none⟩ (.int .i64 b)).setCell ⟨w.heap.size, 1, none⟩ (.slice A1 L.length c1)).setCell ⟨w.heap.size, 2, none⟩ (.int .i64 u)) := by
  have o3 := own_move (w1 := (((W.setCell ⟨w.heap.size, 0, none⟩ (.int .i64 b)).setCell ⟨w.heap.size, 1, none⟩ (.slice A1 L.length c1)).setCell ⟨w.heap.size, 2, none⟩ (.int .i64 u))) hown (fun k hk => by
    have := own_base hown k hk
    rw [Below.heap_setCell _ _ _ k (by simp; omega), Below.heap_setCell _ _ _ k (by simp; omega), Below.heap_setCell _ _ _ k (by simp; omega)])
  obtain ⟨_, _, e, hC⟩ := own_leaps o3
  cases e
  exact ⟨blk_put (blk_put (blk_put hres 0 _ rfl) 1 _ rfl) 2 _ rfl, hC, ((hbel.setCell (by simp) _).setCell (by simp) _).setCell (by simp) _⟩
theorem own_cap {e : TypeId} {w : World} {base : Nat} {A : Option Addr} {n c : Nat} {l : List (Int × Int)} (h : w.ownsRow base e 2 (.slice A n c) l.length (lcells l)) : n ≤ c := by
  have hR : Kd.R kl e w base (fun _ => True) (.slice A n c) l := ⟨fun _ _ => trivial, _, h, lcells_len l, fun j x hx => by
    rw [show kl.sz = 2 from rfl, lcells_at l j x hx]
    exact ⟨[.int .i64 x.1], [.int .i64 x.2], rfl, rfl, rfl⟩⟩
  obtain ⟨A', c', e, hl, _⟩ := Kd.R_reads hR
  cases e
  exact hl
set_option maxHeartbeats 4000000 in
set_option maxRecDepth 100000 in
theorem made_calls2 (A : Option Addr) (c : Nat) (l : List Int) (w : World) (hr : Kd.C (Kd.int .u8) w A l.length l) (hb : ∀ x ∈ l, 0 ≤ x ∧ x ≤ 255) (hlen : l.length ≤ 9223372036854775807) :
    Calls Try.prog 16 #[.slice A l.length c] w fun e w' => (∃ b u A1 c1 L, e = .returned (tabV b A1 L.length c1 u) ∧ checkF b L u = 0 ∧ L.length ≤ 12 ∧ Kd.C kl w' A1 L.length L ∧ L.length ≤ c1) ∧ Below w.heap.size w w' := by
  obtain ⟨ii, hii, hz0, hz1, hz2⟩ := info_parts info45n
  have HR := Aside0.mk hr
  have HBy := Aside0.mk hb
  clear hr hb
  go_enter Try.func16, Try.ntmps16
  go_wp2_with fail
  obtain ⟨W0, hW0⟩ : ∃ W0, (w.alloc (.cells #[.int .i64 0, .slice none 0 0, .int .i64 0] 28)).alloc (.cells #[.int .i64 10, .slice none 0 0, .int .i64 41357] 28) = W0 := ⟨_, rfl⟩
  rw [hW0]
  have HI0 : Aside0 (MInv w W0 0 0 41357 [] (.slice none 0 0)) := ⟨by
    rw [← hW0]
    exact ⟨((Below.refl _ w).alloc (Nat.le_refl _) _).alloc (by simp) _, al_old (al_new _ _ _ rfl), al_new _ _ _ (by simp), own_nil _ _ _ _, by simp, MadeL.nil 0⟩⟩
  clear hW0
  go_loopw [5, 4] (fun v5 v4 wr => ∃ (i : Nat) (a u : Int) (L : List (Int × Int)) (vo : Value), i ≤ 25 ∧ 0 ≤ a ∧ a ≤ 20 * i ∧ v5 = .int .i64 i ∧ v4 = .int .i64 a ∧ Aside0 (MInv w wr i a u L vo)) (fun v _ _ => 28 - (intOf v).toNat)
  case atStart => exact ⟨0, 0, _, _, _, by omega, by omega, by omega, rfl, rfl, HI0⟩
  case round =>
    obtain ⟨i, a, u, L, vo, hi, ha0, ha1, rfl, rfl, HI⟩ := hrel
    have t0 : wr.cell? ⟨w.heap.size + 1, 0, none⟩ = some (.int .i64 10) := blk_cell HI.out.tab 0
    have t1 : wr.cell? ⟨w.heap.size + 1, 1, none⟩ = some vo := blk_cell HI.out.tab 1
    have t2 : wr.cell? ⟨w.heap.size + 1, 2, none⟩ = some (.int .i64 u) := blk_cell HI.out.tab 2
    by_cases hin : i + 1 < l.length ∧ i < 24
    · have d1 : decide ((i : Int) + 1 < (l.length : Int)) = true := decide_eq_true (by omega)
      have d2 : decide ((i : Int) < 24) = true := decide_eq_true (by omega)
      have hi1 := hin.1
      have hi2 := hin.2
      obtain ⟨ad, rfl, hc0⟩ := C_u8 (Kd.C_below HR.out HI.out.bel) i (by omega) (by omega)
      obtain ⟨ad', ead, hc1⟩ := C_u8 (Kd.C_below HR.out HI.out.bel) (i + 1) hin.1 hin.1
      cases ead
      have hb0 := HBy.out l[i] (List.getElem_mem _)
      have hb1 := HBy.out l[i + 1] (List.getElem_mem _)
      generalize l[i] = b0 at *
      generalize l[i + 1] = b1 at *
      obtain ⟨a', ha'⟩ : ∃ a', a + (1 + b0 % 40) = a' := ⟨_, rfl⟩
      have ha2 : a < a' ∧ a' ≤ 20 * ((i : Int) + 2) := by omega
      have he := endN_me (n := a') (by omega) (by omega)
      have a61 := fun w => lmonthEnd_calls a' (by omega) (by omega) w
      unfold endV at a61
      rw [if_pos (by omega)] at a61
      have HE := Aside0.mk he.2.2
      have hee := And.intro he.1 he.2.1
      have HME := Aside0.mk (show ∀ s u', (s = 1 ∨ s = -1) → endN a' < u' → u' ≤ 88069 → MadeL a' u' (L ++ [(endN a', s)]) from fun s u' h1 h2 h3 => HI.out.made.snoc ha0 ha2.1 (by omega) h1 h2 h3)
      clear he
      generalize endN a' = e at *
      have d3 : decide (e < 0) = false := decide_eq_false (by omega)
      go_wp2_with fail
      refine (a61 _).mono ?_
      rintro en w1 ⟨rfl, hB⟩
      have hC1' := Kd.C_below HR.out (HI.out.bel.trans (hB.mono HI.out.bel.size))
      replace t0 := cell_on hB t0
      replace t1 := cell_on hB t1
      replace t2 := cell_on hB t2
      replace hc1 := cell_on hB hc1
      have hbl : (ad.add (i + 1)).block < w.heap.size := by
        obtain ⟨ad2, ead2, hcc⟩ := C_u8 HR.out (i + 1) hin.1 hin.1
        cases ead2
        exact World.block_lt_of_cell? _ _ hcc
      have eadd : ad.add (i + 1) = ⟨ad.block, ad.off + (i + 1), none⟩ := by unfold Addr.add; rw [if_neg (by omega)]
      rw [eadd] at hc1 hbl
      replace hbl : ad.block < w.heap.size := hbl
      clear eadd
      have hbne : ad.block ≠ w.heap.size + 1 := by omega
      have hbne2 : w.heap.size + 1 ≠ ad.block := by omega
      have HI1 : Aside0 (MInv w w1 i a u L vo) := ⟨by
        have h := HI.out
        refine ⟨h.bel.trans (hB.mono h.bel.size), (hB.block _ (Array.getElem?_eq_some_iff.1 h.res).1).trans h.res, (hB.block _ (Array.getElem?_eq_some_iff.1 h.tab).1).trans h.tab, own_move h.own (fun k hk => hB.block k (own_lt h.own k hk)), h.len, h.made⟩⟩
      clear hB a61 hc0
      obtain ⟨sv, hsv, hsc⟩ : ∃ sv : Int, (sv = 1 ∨ sv = -1) ∧ sv = (if b1 % 4 = 0 then -1 else 1) := ⟨if b1 % 4 = 0 then -1 else 1, by split <;> simp, rfl⟩
      obtain ⟨u', hu', hu1, hu2⟩ : ∃ u' : Int, u' = (if 88069 < e + 1 + b1 then 88069 else e + 1 + b1) ∧ e < u' ∧ u' ≤ 88069 := ⟨_, rfl, by split <;> omega, by split <;> omega⟩
      have HM := Aside0.mk (HME.out sv u' hsv hu1 hu2)
      have hownD : (w1.alloc (.cells #[.int .i64 e, .int .i64 sv] 45)).ownsRow (w.heap.size + 2) 45 2 vo L.length (lcells L) := own_move HI1.out.own (fun k hk => Below.heap_alloc _ _ k (own_lt HI1.out.own k hk))
      clear HME HE HI hsv
      have hLlen : L.length ≤ 12 := by have := HI1.out.len; omega
      have hsz1 : w.heap.size + 1 < w1.heap.size := (Array.getElem?_eq_some_iff.1 HI1.out.tab).1
      have hcb2 : ∀ w2, Below w.heap.size w w2 → w2.cell? ⟨ad.block, ad.off + (i + 1), none⟩ = some (.int .u8 b1) := fun w2 hB2 => by
        have h := hB2.cell (p := ⟨ad.block, ad.off + (i + 1), none⟩) hbl
        rw [h]
        have h' := (HI1.out.bel).cell (p := ⟨ad.block, ad.off + (i + 1), none⟩) hbl
        rw [← h']
        exact hc1
      have HCB := Aside0.mk hcb2
      clear hcb2
      by_cases hm4 : b1 % 4 = 0
      · rw [if_pos hm4] at hsc
        subst hsc
        have qu : decide (88069 < e + 1 + b1) = (decide (88069 < e + 1 + b1)) := rfl
        by_cases hub : 88069 < e + 1 + b1
        all_goals
          first | rw [if_pos hub] at hu' | rw [if_neg hub] at hu'
          subst hu'
          clear qu
          go_wp2_with (at_builtin; refine wpList_append_own _ rfl _ _ 26 rfl (w.heap.size + 2) 45 ii (.agg #[.int .i64 0, .int .i64 0]) 2 16 Try.underlying26 hii hz0 hz1 hz2 rfl (by decide) _ _ _ rfl hownD ⟨w1.heap.size, 0, none⟩ 1 1 [.int .i64 e, .int .i64 (-1)] rfl rfl (World.news_of_block (cs := #[.int .i64 e, .int .i64 (-1)]) (t := 45) (fr := (0, 0)) (al_new _ _ _ rfl)) (by simp [Value.oneCell']) (by unfold maxLen; omega) (by omega) (by simp; omega) ?_; intro v2 w2 hown2 hgrow2 hnil2; obtain ⟨Av, cv, rfl, t1', f1', t2', f2', hbel2, hfin⟩ := made_round HI1.out hown2 hgrow2; have hcb := HCB.out _ hbel2; have HF := Aside0.mk (hfin _ _ HM.out); clear hown2 hgrow2 hnil2 hfin t0 t1 t2 hownD hbel2 hc1)
          go_roundw
          case rel => exact ⟨i + 2, a', _, _, _, by omega, by omega, by omega, by go_num, rfl, HF⟩
          case measure => simp [intOf]; omega
      · rw [if_neg hm4] at hsc
        subst hsc
        have q4 : ((b1 % 4) == 0) = false := beq_eq_false_iff_ne.2 hm4
        have qu : decide (88069 < e + 1 + b1) = (decide (88069 < e + 1 + b1)) := rfl
        by_cases hub : 88069 < e + 1 + b1
        all_goals
          first | rw [if_pos hub] at hu' | rw [if_neg hub] at hu'
          subst hu'
          clear qu
          go_wp2_with (at_builtin; refine wpList_append_own _ rfl _ _ 26 rfl (w.heap.size + 2) 45 ii (.agg #[.int .i64 0, .int .i64 0]) 2 16 Try.underlying26 hii hz0 hz1 hz2 rfl (by decide) _ _ _ rfl hownD ⟨w1.heap.size, 0, none⟩ 1 1 [.int .i64 e, .int .i64 (1)] rfl rfl (World.news_of_block (cs := #[.int .i64 e, .int .i64 (1)]) (t := 45) (fr := (0, 0)) (al_new _ _ _ rfl)) (by simp [Value.oneCell']) (by unfold maxLen; omega) (by omega) (by simp; omega) ?_; intro v2 w2 hown2 hgrow2 hnil2; obtain ⟨Av, cv, rfl, t1', f1', t2', f2', hbel2, hfin⟩ := made_round HI1.out hown2 hgrow2; have hcb := HCB.out _ hbel2; have HF := Aside0.mk (hfin _ _ HM.out); clear hown2 hgrow2 hnil2 hfin t0 t1 t2 hownD hbel2 hc1)
          go_roundw
          case rel => exact ⟨i + 2, a', _, _, _, by omega, by omega, by omega, by go_num, rfl, HF⟩
          case measure => simp [intOf]; omega
    · obtain ⟨A1, c1, hvo, _⟩ := own_leaps HI.out.own
      subst hvo
      have f0 := blk_frozen HI.out.tab 0
      have z0 : wr.cell? ⟨w.heap.size, 0, none⟩ = some (.int .i64 0) := blk_cell HI.out.res 0
      have z1 : wr.cell? ⟨w.heap.size, 1, none⟩ = some (.slice none 0 0) := blk_cell HI.out.res 1
      have z2 : wr.cell? ⟨w.heap.size, 2, none⟩ = some (.int .i64 0) := blk_cell HI.out.res 2
      have g0 := blk_frozen HI.out.res 0
      have g1 := blk_frozen HI.out.res 1
      have g2 := blk_frozen HI.out.res 2
      by_cases hl0 : l.length = 0
      · have d1 : decide ((i : Int) + 1 < (l.length : Int)) = false := decide_eq_false (by omega)
        have d5 : decide (0 < (l.length : Int)) = false := decide_eq_false (by omega)
        have d6 : decide (0 < l.length) = false := decide_eq_false (by omega)
        clear hin hl0
        go_wp2
        have hfin := made_end (b := 10) (u := u) HI.out.bel HI.out.res HI.out.own
        exact bodyPost_ret (results_cell_row rfl _ _ w.heap.size 28 _ (0, 0) _ rfl hfin.1 Try.underlying28 rfl info28) rfl ⟨⟨10, u, A1, c1, L, rfl, HI.out.made.check (by omega) (by omega) (by have := HI.out.len; omega), by have := HI.out.len; omega, hfin.2.1, own_cap HI.out.own⟩, hfin.2.2⟩
      · obtain ⟨ad, rfl, hc0⟩ := C_u8 (Kd.C_below HR.out HI.out.bel) 0 (by omega) (by omega)
        have hb0 := HBy.out (l[0]'(by omega)) (List.getElem_mem _)
        generalize (l[0]'(by omega)) = l0 at *
        have hc0' : wr.cell? ad = some (.int .u8 l0) := hc0
        have d5 : decide (0 < (l.length : Int)) = true := decide_eq_true (by omega)
        have d6 : decide (0 < l.length) = true := decide_eq_true (by omega)
        by_cases h1 : i + 1 < l.length
        · have d1 : decide ((i : Int) + 1 < (l.length : Int)) = true := decide_eq_true (by omega)
          have d2 : decide ((i : Int) < 24) = false := decide_eq_false (by omega)
          clear hin
          have hown2 := own_move (w1 := wr.setCell ⟨w.heap.size + 1, 0, none⟩ (.int .i64 (l0 % 100))) HI.out.own (fun k hk => Below.heap_setCell _ _ _ k (by have := own_base HI.out.own k hk; simp; omega))
          have hfin := Aside0.mk (made_end (b := l0 % 100) (u := u) (HI.out.bel.setCell (p := ⟨w.heap.size + 1, 0, none⟩) (by simp) (.int .i64 (l0 % 100))) (blk_far HI.out.res (by simp) _) hown2)
          clear hown2
          go_wp2
          exact bodyPost_ret (results_cell_row rfl _ _ w.heap.size 28 _ (0, 0) _ rfl hfin.out.1 Try.underlying28 rfl info28) rfl ⟨⟨l0 % 100, u, A1, c1, L, rfl, HI.out.made.check (by omega) (by omega) (by have := HI.out.len; omega), by have := HI.out.len; omega, hfin.out.2.1, own_cap HI.out.own⟩, hfin.out.2.2⟩
        · have d1 : decide ((i : Int) + 1 < (l.length : Int)) = false := decide_eq_false (by omega)
          clear hin
          have hown2 := own_move (w1 := wr.setCell ⟨w.heap.size + 1, 0, none⟩ (.int .i64 (l0 % 100))) HI.out.own (fun k hk => Below.heap_setCell _ _ _ k (by have := own_base HI.out.own k hk; simp; omega))
          have hfin := Aside0.mk (made_end (b := l0 % 100) (u := u) (HI.out.bel.setCell (p := ⟨w.heap.size + 1, 0, none⟩) (by simp) (.int .i64 (l0 % 100))) (blk_far HI.out.res (by simp) _) hown2)
          clear hown2
          go_wp2
          exact bodyPost_ret (results_cell_row rfl _ _ w.heap.size 28 _ (0, 0) _ rfl hfin.out.1 Try.underlying28 rfl info28) rfl ⟨⟨l0 % 100, u, A1, c1, L, rfl, HI.out.made.check (by omega) (by omega) (by have := HI.out.len; omega), by have := HI.out.len; omega, hfin.out.2.1, own_cap HI.out.own⟩, hfin.out.2.2⟩
theorem made_calls (A : Option Addr) (c : Nat) (l : List Int) (w : World) (hr : Kd.C (Kd.int .u8) w A l.length l) (hb : ∀ x ∈ l, 0 ≤ x ∧ x ≤ 255) (hlen : l.length ≤ 9223372036854775807) :
    Calls Try.prog 16 #[.slice A l.length c] w fun e w' => (∃ b u A1 c1 L, e = .returned (tabV b A1 L.length c1 u) ∧ checkF b L u = 0 ∧ L.length ≤ 12 ∧ Kd.C kl w' A1 L.length L) ∧ Below w.heap.size w w' :=
  (made_calls2 A c l w hr hb hlen).mono fun _ _ ⟨⟨b, u, A1, c1, L, h1, h2, h3, h4, _⟩, h⟩ => ⟨⟨b, u, A1, c1, L, h1, h2, h3, h4⟩, h⟩
end Go.Proofs.Ytleipbanadnchaa.C
