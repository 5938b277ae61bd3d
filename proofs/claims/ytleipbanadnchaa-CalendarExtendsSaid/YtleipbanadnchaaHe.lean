/- CalendarExtends' function returns true for every input. -/
import Derived.OwnWalk
import Derived.Laws.AppendOwn
import Derived.BigRegion
import Derived.Test.YtleipbanadnchaaHd
import Derived.Test.YtleipbanadnchaaFf
import Derived.Test.YtleipbanadnchaaGa
namespace Go.Proofs.Ytleipbanadnchaa.C
open Go.RowKit Go.Shelf Go.Maps Go.Proofs.YtleipbanadnchaaW.PrintWords Go.Proofs.YtleipbanadnchaaW.PrintLast Go.Proofs.YtleipbanadnchaaW.PrintMore
set_option linter.unusedVariables false
set_option linter.unusedSimpArgs false
/-- How far the beginning of the table is made. -/
structure XInv (w1 wr : World) (b u au : Int) (A1 : Option Addr) (c1 n : Nat) (vo : Value) (la : List (Int × Int)) : Prop where
  bel : Below w1.heap.size w1 wr
  kb : wr.heap[w1.heap.size]? = some (.cells #[.int .i64 b, .slice A1 n c1, .int .i64 u] 28 (0, 0))
  ka : wr.heap[w1.heap.size + 1]? = some (.cells #[.int .i64 b, vo, .int .i64 au] 28 (0, 0))
  own : wr.ownsRow (w1.heap.size + 2) 45 2 vo la.length (lcells la)
theorem XInv.below {w1 wr wx : World} {b u au : Int} {A1 : Option Addr} {c1 n : Nat} {vo : Value} {la : List (Int × Int)} (h : XInv w1 wr b u au A1 c1 n vo la) (hB : Below wr.heap.size wr wx) : XInv w1 wx b u au A1 c1 n vo la :=
  ⟨h.bel.trans (hB.mono h.bel.size), (hB.block _ (Array.getElem?_eq_some_iff.1 h.kb).1).trans h.kb, (hB.block _ (Array.getElem?_eq_some_iff.1 h.ka).1).trans h.ka, own_move h.own (fun k hk => hB.block k (own_lt h.own k hk))⟩
theorem xinv_next {w1 wr w2 : World} {b u au : Int} {A1 : Option Addr} {c1 n : Nat} {vo v2 : Value} {la : List (Int × Int)} {xd xs : Int} (h : XInv w1 wr b u au A1 c1 n vo la)
    (hown : w2.ownsRow (w1.heap.size + 2) 45 2 v2 (la.length + 1) (lcells la ++ [.int .i64 xd, .int .i64 xs])) (hgrow : ((wr.alloc (.cells #[.int .i64 xd, .int .i64 xs] 45)).alloc (.cells #[.int .i64 xd, .int .i64 xs] 45)).grownBy w2 vo.ownBlock) :
    w2.cell? ⟨w1.heap.size + 1, 1, none⟩ = some vo ∧ w2.frozen? ⟨w1.heap.size + 1, 1, none⟩ = false ∧ (∃ Av cv, v2 = .slice Av (la.length + 1) cv) ∧ XInv w1 (w2.setCell ⟨w1.heap.size + 1, 1, none⟩ v2) b u au A1 c1 n v2 (la ++ [(xd, xs)]) := by
  have hsz : w1.heap.size + 1 < wr.heap.size := (Array.getElem?_eq_some_iff.1 h.ka).1
  have hob : ∀ k, vo.ownBlock = some k → w1.heap.size + 2 ≤ k := fun k hk => own_base h.own k hk
  have keep : ∀ (k : Nat) (o : Obj), k < w1.heap.size + 2 → wr.heap[k]? = some o → w2.heap[k]? = some o := fun k o hk ho => by
    have h1 := (Array.getElem?_eq_some_iff.1 ho).1
    exact (hgrow.block k (by simp; omega) (fun e => by have := hob k e.symm; omega)).trans (al_old (al_old ho))
  have hbel : Below w1.heap.size w1 w2 := ((h.bel.alloc h.bel.size _).alloc (by simp; have := h.bel.size; omega) _).grown hgrow (by simp; omega) (fun k hk => by have := hob k hk; omega)
  have kt := keep _ _ (by omega) h.ka
  have hl : lcells (la ++ [(xd, xs)]) = lcells la ++ [.int .i64 xd, .int .i64 xs] := by rw [lcells_append]; rfl
  have hlen : (la ++ [(xd, xs)]).length = la.length + 1 := by simp
  have hown2 : w2.ownsRow (w1.heap.size + 2) 45 2 v2 (la ++ [(xd, xs)]).length (lcells (la ++ [(xd, xs)])) := by rw [hl, hlen]; exact hown
  obtain ⟨Av, cv, hv, _⟩ := own_leaps hown2
  rw [hlen] at hv
  refine ⟨blk_cell kt 1, blk_frozen kt 1, ⟨Av, cv, hv⟩, ⟨hbel.setCell (by simp) _, ?_, ?_, ?_⟩⟩
  · exact blk_far (keep _ _ (by omega) h.kb) (by simp) _
  · exact blk_put kt 1 _ rfl
  · exact own_move hown2 (fun k hk => by
      have := own_base hown2 k hk
      rw [Below.heap_setCell _ _ _ k (by simp; omega)])
theorem own_keep {w w' : World} {base : Nat} {e : TypeId} {size n : Nat} {v : Value} {xs : List Value} (h : w.ownsRow base e size v n xs) (hB : Below w.heap.size w w') : w'.ownsRow base e size v n xs := own_move h (fun k hk => hB.block k (own_lt h k hk))
theorem lcells_set : ∀ (l : List (Int × Int)) (n : Nat) (d s : Int), l[n]?.map (·.1) = some d → (lcells l).set (n * 2 + 1) (.int .i64 s) = lcells (l.set n (d, s))
  | [], n, d, s, h => by simp at h
  | y :: l, 0, d, s, h => by simp at h; subst h; rfl
  | y :: l, n + 1, d, s, h => by
    have ih := lcells_set l n d s (by simpa using h)
    rw [show (n + 1) * 2 + 1 = (n * 2 + 1) + 1 + 1 by omega]
    simp only [lcells, List.set_cons_succ, ih]
theorem eqA30 (d : Nat) (w : World) (x0 x1 x2 x3 x4 x5 y0 y1 y2 y3 y4 y5 : Int) :
    (Op.equalIn (d + 2) 30 (dateV x0 x1 x2 x3 x4 x5) (dateV y0 y1 y2 y3 y4 y5)).run Try.prog w = .ok (x0 == y0 && (x1 == y1 && (x2 == y2 && (x3 == y3 && (x4 == y4 && (x5 == y5)))))) w := by
  refine eqA_of Try.underlying30 (by kernel_rfl) ?_
  refine eqf_cons (by rfl) (by go_simp; rfl) (by go_simp; rfl) (by go_simp) ?_
  refine eqf_cons (by rfl) (by go_simp; rfl) (by go_simp; rfl) (by go_simp) ?_
  refine eqf_cons (by rfl) (by go_simp; rfl) (by go_simp; rfl) (by go_simp) ?_
  refine eqf_cons (by rfl) (by go_simp; rfl) (by go_simp; rfl) (by go_simp) ?_
  refine eqf_cons (by rfl) (by go_simp; rfl) (by go_simp; rfl) (by go_simp) ?_
  exact eqf_last (by rfl) (by go_simp; rfl) (by go_simp; rfl) (by go_simp)
attribute [local go_sem high] eqA30
set_option maxHeartbeats 8000000 in
set_option maxRecDepth 100000 in
theorem calendarExtends_w.calls (A : Option Addr) (c : Nat) (l : List Int) (cu by_ wh : Int) (w : World) (hr : Kd.C (Kd.int .u8) w A l.length l) (hb : ∀ x ∈ l, 0 ≤ x ∧ x ≤ 255) (hlen : l.length ≤ 9223372036854775807) (hc0 : 0 ≤ cu) (hc1 : cu ≤ 65535) (hw0 : 0 ≤ wh) (hw1 : wh ≤ 255) :
    Calls Try.prog 6 #[.slice A l.length c, .int .u16 cu, .int .i64 by_, .int .u8 wh] w fun e w' => e = .returned (.bool true) ∧ Below w.heap.size w w' := by
  have a16 := fun w h => made_calls2 A c l w h hb hlen
  have HR := Aside0.mk hr
  obtain ⟨ii, hii, hz0, hz1, hz2⟩ := info_parts info45n
  clear hr hb hlen
  go_enter Try.func6, Try.ntmps6
  go_wp2_with fail
  refine (a16 _ HR.out).mono ?_
  rintro en w1 ⟨⟨b, u, A1, c1, L, rfl, hk, hL, hC, hcap⟩, hv⟩
  clear a16 HR
  have hu0 := (checkF_right hk).2.2.1
  have hu1 := (checkF_right hk).2.2.2.1
  have hb0 := (checkF_right hk).1
  have hb1 := (checkF_right hk).2.1
  have HK := Aside0.mk hk
  have HC := Aside0.mk hC
  have HCAP := Aside0.mk hcap
  have HV := Aside0.mk hv
  clear hk hC hcap hv
  go_wp2_with fail
  have hu2 : (u - 41317 == 0) = false := beq_eq_false_iff_ne.2 (by omega)
  have hmod : 0 ≤ cu % (u - 41317) ∧ cu % (u - 41317) < u - 41317 := ⟨Int.emod_nonneg _ (by omega), Int.emod_lt_of_pos _ (by omega)⟩
  obtain ⟨w2, hw2⟩ : ∃ w2, w1.alloc (.cells #[.int .i64 b, .slice A1 L.length c1, .int .i64 u] 28) = w2 := ⟨_, rfl⟩
  rw [hw2]
  have kx : w2.heap[w1.heap.size]? = some (.cells #[.int .i64 b, .slice A1 L.length c1, .int .i64 u] 28 (0, 0)) := by rw [← hw2]; exact al_new _ _ _ rfl
  have o0 : w2.cell? ⟨w1.heap.size, 0, none⟩ = some (.int .i64 b) := blk_cell kx 0
  have o2 : w2.cell? ⟨w1.heap.size, 2, none⟩ = some (.int .i64 u) := blk_cell kx 2
  have hw : IntKind.i64.wrap (u - 41317) = u - 41317 := iw _ (by omega) (by omega)
  have hw' : IntKind.i64.wrap (41318 + cu % (u - 41317)) = 41318 + cu % (u - 41317) := iw _ (by omega) (by omega)
  have hw3 : IntKind.i64.wrap cu = cu := iw _ (by omega) (by omega)
  have hT : cu.tmod (u - 41317) = cu % (u - 41317) := Int.tmod_eq_emod_of_nonneg hc0
  have hne : ¬ (u - 41317 = 0) := by omega
  have hsz : w1.heap.size < w2.heap.size := by rw [← hw2]; simp
  go_region
  have hau : 41318 ≤ 41318 + cu % (u - 41317) ∧ 41318 + cu % (u - 41317) ≤ u := by omega
  have hs2 : w2.heap.size = w1.heap.size + 1 := by rw [← hw2]; simp
  rw [hs2]
  obtain ⟨w3, hw3⟩ : ∃ w3, (w2.alloc (.cells #[.int .i64 b, .slice none 0 0, .int .i64 (41318 + cu % (u - 41317))] 28)).drew = w3 := ⟨_, rfl⟩
  rw [hw3]
  obtain ⟨au, hau2⟩ : ∃ au, 41318 + cu % (u - 41317) = au := ⟨_, rfl⟩
  rw [hau2] at hau hw3
  try rw [hau2]
  have HI0 : Aside0 (XInv w1 w3 b u au A1 c1 L.length (.slice none 0 0) (preL au (L.take 0))) := ⟨by
    rw [← hw3]
    refine ⟨?_, ?_, ?_, own_nil _ _ _ _⟩
    · have h1 : Below w1.heap.size w1 w2 := by rw [← hw2]; exact (Below.refl _ w1).alloc (Nat.le_refl _) _
      exact (h1.alloc (by omega) _).drew
    · exact al_old kx
    · exact al_new _ _ _ (by omega)⟩
  have HAU := Aside0.mk hau
  clear hw2 kx o0 o2 hw hw' hw3 hT hne hsz hmod hs2 hau2 hu2 hau
  have q0 : w3.cell? ⟨w1.heap.size, 1, none⟩ = some (.slice A1 L.length c1) := blk_cell HI0.out.kb 1
  go_wp2_with fail
  clear q0
  go_loopw [40] (fun v40 wr => ∃ (i : Nat) (vo : Value), i ≤ L.length ∧ v40 = .int .i64 i ∧ Aside0 (XInv w1 wr b u au A1 c1 L.length vo (preL au (L.take i)))) (fun v _ => L.length - (intOf v).toNat)
  case atStart => exact ⟨0, _, by omega, rfl, HI0⟩
  case round =>
    obtain ⟨i, vo, hi, rfl, HI⟩ := hrel
    by_cases hlt : i < L.length
    · obtain ⟨ad, rfl, hc0, hc1⟩ := C_leap (Kd.C_below HC.out HI.out.bel) i hlt hlt
      have HS := Aside0.mk (pre_take au hlt)
      have hpl : (preL au (L.take i)).length ≤ 12 := by have := pre_len au (L.take i); simp at this; omega
      generalize L[i] = x at *
      obtain ⟨xd, xs⟩ := x
      simp only at hc0 hc1 HS
      have d1 : decide ((i : Int) < (L.length : Int)) = true := decide_eq_true (by omega)
      have t1 : wr.cell? ⟨w1.heap.size + 1, 1, none⟩ = some vo := blk_cell HI.out.ka 1
      have t2 : wr.cell? ⟨w1.heap.size + 1, 2, none⟩ = some (.int .i64 au) := blk_cell HI.out.ka 2
      have hsz : w1.heap.size + 1 < wr.heap.size := (Array.getElem?_eq_some_iff.1 HI.out.ka).1
      by_cases hx : xd < au
      · have d2 : decide (xd < au) = true := decide_eq_true hx
        have HN : Aside0 (preL au (L.take (i + 1)) = preL au (L.take i) ++ [(xd, xs)]) := ⟨by rw [HS.out, if_pos hx]⟩
        clear HS hx
        generalize preL au (L.take i) = la at *
        have hownD : ((wr.alloc (.cells #[.int .i64 xd, .int .i64 xs] 45)).alloc (.cells #[.int .i64 xd, .int .i64 xs] 45)).ownsRow (w1.heap.size + 2) 45 2 vo la.length (lcells la) := own_move HI.out.own (fun k hk => by
          have hlt := own_lt HI.out.own k hk
          exact (Below.heap_alloc _ _ k (by simp; omega)).trans (Below.heap_alloc _ _ k hlt))
        go_wp2_with (at_builtin; refine wpList_append_own _ rfl _ _ 26 rfl (w1.heap.size + 2) 45 ii (.agg #[.int .i64 0, .int .i64 0]) 2 16 Try.underlying26 hii hz0 hz1 hz2 rfl (by decide) _ _ _ rfl hownD ⟨wr.heap.size + 1, 0, none⟩ 1 1 [.int .i64 xd, .int .i64 xs] rfl ?qc1 ?qc2 ?qc3 ?qc4 ?qc5 ?qc6 ?_)
        case qc1 => rfl
        case qc2 => exact World.news_of_block (cs := #[.int .i64 xd, .int .i64 xs]) (t := 45) (fr := (0, 0)) (al_new _ _ _ (by simp))
        case qc3 => simp [Value.oneCell']
        case qc4 => unfold maxLen; omega
        case qc5 => omega
        case qc6 => simp; omega
        intro v1 wz hown1 hgrow1 hnil1
        have HX := Aside0.mk (xinv_next HI.out hown1 hgrow1)
        have t1' := HX.out.1
        have f1' := HX.out.2.1
        obtain ⟨Av, cv, rfl⟩ := HX.out.2.2.1
        have HX2 := Aside0.mk HX.out.2.2.2
        clear hown1 hgrow1 hnil1 hownD t1 t2 HI HX
        go_wp2
        go_roundw
        case rel => exact ⟨i + 1, _, by omega, by go_num, by rw [HN.out]; exact HX2⟩
        case measure => simp [intOf]; omega
      · have d2 : decide (xd < au) = false := decide_eq_false hx
        have HN : Aside0 (preL au (L.take (i + 1)) = preL au (L.take i)) := ⟨by rw [HS.out, if_neg hx]⟩
        clear HS hx
        have HX2 : Aside0 (XInv w1 (wr.alloc (.cells #[.int .i64 xd, .int .i64 xs] 45)) b u au (some ad) c1 L.length vo (preL au (L.take (i + 1)))) := ⟨by rw [HN.out]; exact HI.out.below ((Below.refl _ wr).alloc (Nat.le_refl _) _)⟩
        go_wp2
        go_roundw
        case rel => exact ⟨i + 1, _, by omega, by go_num, HX2⟩
        case measure => simp [intOf]; omega
    · obtain rfl : i = L.length := by omega
      have hpre : preL au (L.take L.length) = preL au L := by rw [List.take_length]
      have HP := Aside0.mk (pre_check HK.out HAU.out.1 HAU.out.2)
      have HE := Aside0.mk (ext_ok HK.out HAU.out.1 HAU.out.2)
      have hle : (preL au L).length ≤ 12 := by have := pre_len au L; omega
      have HF := Aside0.mk (fun n hn => ext_flip (n := n) HK.out HAU.out.1 HAU.out.2 hn)
      have HDY := Aside0.mk (fun s D => pre_day (l := L) (s := s) (D := D) HAU.out.2)
      rw [hpre] at HI
      clear hpre
      generalize preL au L = la at *
      obtain ⟨A2, c2, rfl, hA⟩ := own_leaps HI.out.own
      have hO := HI.out.own
      have hv := HI.out.bel
      have y0 : wr.cell? ⟨w1.heap.size, 0, none⟩ = some (.int .i64 b) := blk_cell HI.out.kb 0
      have y1 : wr.cell? ⟨w1.heap.size, 1, none⟩ = some (.slice A1 L.length c1) := blk_cell HI.out.kb 1
      have y2 : wr.cell? ⟨w1.heap.size, 2, none⟩ = some (.int .i64 u) := blk_cell HI.out.kb 2
      have x0 : wr.cell? ⟨w1.heap.size + 1, 0, none⟩ = some (.int .i64 b) := blk_cell HI.out.ka 0
      have x1 : wr.cell? ⟨w1.heap.size + 1, 1, none⟩ = some (.slice A2 la.length c2) := blk_cell HI.out.ka 1
      have x2 : wr.cell? ⟨w1.heap.size + 1, 2, none⟩ = some (.int .i64 au) := blk_cell HI.out.ka 2
      have hC := Kd.C_below HC.out hv
      have a22 := fun w h1 h2 => Extend_calls b au b u A2 A1 c2 c1 la L w h1 h2 HCAP.out
      rw [HE.out] at a22
      clear HI
      go_wp2_with fail
      refine (a22 _ hA hC).mono ?_
      rintro en w5 ⟨_, hEx, hB⟩
      replace y0 := cell_on hB y0
      replace y1 := cell_on hB y1
      replace y2 := cell_on hB y2
      replace x0 := cell_on hB x0
      replace x1 := cell_on hB x1
      replace x2 := cell_on hB x2
      replace hA := Kd.C_below hA hB
      replace hC := Kd.C_below hC hB
      replace hO := own_keep hO hB
      replace hv := hv.trans (hB.mono hv.size)
      obtain ⟨v', rfl, hown⟩ := hEx (by first | rfl | trivial)
      obtain ⟨A3, c3, rfl, hT⟩ := own_leaps hown
      clear hEx hown
      clear hB a22
      have hP := HP.out
      have hld := last_day hP
      have hbu := beginU hP
      have a17 := fun w h => Total_calls b au A2 c2 la w h
      unfold totalR at a17
      rw [if_pos hP] at a17
      obtain ⟨tot, htot⟩ : ∃ tot, beginF la au = tot := ⟨_, rfl⟩
      rw [htot] at hld hbu a17
      have HTT := Aside0.mk htot
      have ht1 : 1 ≤ tot := hld.1
      have ht2 := hbu.2
      have a18 := fun w h => near_calls b au A2 c2 la tot wh by_ w h HP.out ht1 ht2 hw0 hw1
      have dt : decide (tot < 1) = false := decide_eq_false (by omega)
      have a23 := fun w h1 h2 => kept_calls b u A3 A1 c3 c1 L w h1 h2 (by omega)
      clear hP hld hbu htot
      simp only at a17
      have hz0 := World.block_lt_of_cell? _ _ y0
      have hz1 := World.block_lt_of_cell? _ _ x0
      go_wp2_with fail
      clear hz0 hz1
      obtain ⟨w6, hw6⟩ : ∃ w6, w5.alloc (.cells #[.int .i64 b, .slice A3 L.length c3, .int .i64 u] 28) = w6 := ⟨_, rfl⟩
      try rw [hw6]
      have hB : Below w5.heap.size w5 w6 := by rw [← hw6]; exact (Below.refl _ w5).alloc (by first | exact Nat.le_refl _ | (simp; done) | (simp; omega)) _
      have kz : w6.heap[w5.heap.size]? = some (.cells #[.int .i64 b, .slice A3 L.length c3, .int .i64 u] 28 (0, 0)) := by rw [← hw6]; exact al_new _ _ _ (by first | rfl | (simp; done) | (simp; omega))
      have z0 : w6.cell? ⟨w5.heap.size, 0, none⟩ = some (.int .i64 b) := blk_cell kz 0
      have z1 : w6.cell? ⟨w5.heap.size, 1, none⟩ = some (.slice A3 L.length c3) := blk_cell kz 1
      have z2 : w6.cell? ⟨w5.heap.size, 2, none⟩ = some (.int .i64 u) := blk_cell kz 2
      clear kz
      replace y0 := cell_on hB y0
      replace y1 := cell_on hB y1
      replace y2 := cell_on hB y2
      replace x0 := cell_on hB x0
      replace x1 := cell_on hB x1
      replace x2 := cell_on hB x2
      replace hA := Kd.C_below hA hB
      replace hC := Kd.C_below hC hB
      replace hT := Kd.C_below hT hB
      replace hO := own_keep hO hB
      replace hv := hv.trans (hB.mono hv.size)
      clear hB hw6
      refine (a17 _ hA).mono ?_
      rintro en w7 ⟨rfl, hB⟩
      replace y0 := cell_on hB y0
      replace y1 := cell_on hB y1
      replace y2 := cell_on hB y2
      replace x0 := cell_on hB x0
      replace x1 := cell_on hB x1
      replace x2 := cell_on hB x2
      replace z0 := cell_on hB z0
      replace z1 := cell_on hB z1
      replace z2 := cell_on hB z2
      replace hA := Kd.C_below hA hB
      replace hC := Kd.C_below hC hB
      replace hT := Kd.C_below hT hB
      replace hO := own_keep hO hB
      replace hv := hv.trans (hB.mono hv.size)
      clear hB a17
      go_wp2_with fail
      refine (a23 _ hT hC).mono ?_
      rintro en w8 ⟨rfl, hB⟩
      replace y0 := cell_on hB y0
      replace y1 := cell_on hB y1
      replace y2 := cell_on hB y2
      replace x0 := cell_on hB x0
      replace x1 := cell_on hB x1
      replace x2 := cell_on hB x2
      replace z0 := cell_on hB z0
      replace z1 := cell_on hB z1
      replace z2 := cell_on hB z2
      replace hA := Kd.C_below hA hB
      replace hC := Kd.C_below hC hB
      replace hT := Kd.C_below hT hB
      replace hO := own_keep hO hB
      replace hv := hv.trans (hB.mono hv.size)
      clear hB a23
      go_wp2_with fail
      refine (a18 _ hA).mono ?_
      rintro en w9 ⟨⟨r, rfl, hr0, hr1⟩, hB⟩
      replace y0 := cell_on hB y0
      replace y1 := cell_on hB y1
      replace y2 := cell_on hB y2
      replace x0 := cell_on hB x0
      replace x1 := cell_on hB x1
      replace x2 := cell_on hB x2
      replace z0 := cell_on hB z0
      replace z1 := cell_on hB z1
      replace z2 := cell_on hB z2
      replace hA := Kd.C_below hA hB
      replace hC := Kd.C_below hC hB
      replace hT := Kd.C_below hT hB
      replace hO := own_keep hO hB
      replace hv := hv.trans (hB.mono hv.size)
      clear hB a18
      obtain ⟨eA, D, hD⟩ := askE_in (s := r) HP.out hr0 (by rw [HTT.out]; omega)
      obtain ⟨hDL, hbe⟩ := HDY.out r D hD
      have hE2 : askE b L u r = 0 := by unfold askE; rw [if_pos HK.out, if_pos (hDL.knows (checkF_right HK.out).2.2.2.2.2)]
      have a19 := fun w h => Dates_ok b au A2 c2 la r D w h eA hD
      have b19 := fun w h => Dates_ok b u A3 c3 L r D w h hE2 hDL
      have a24 := fun w h => Atomic_calls b au A2 c2 la r w h
      have b24 := fun w h => Atomic_calls b u A3 c3 L r w h
      unfold atomicR at a24 b24
      rw [if_pos eA] at a24
      rw [if_pos hE2] at b24
      simp only at a24 b24
      rw [hbe] at a19
      have hr2 : r ≤ 2000000000000 := by omega
      clear eA hD hDL hbe hE2 HDY dt
      generalize ckH (r - beginF L D) = p3 at *
      generalize ckM (r - beginF L D) = p4 at *
      generalize ckS (r - beginF L D) = p5 at *
      generalize cY D = p0 at *
      generalize cM D = p1 at *
      generalize cD D = p2 at *
      go_wp2_with fail
      refine (a19 _ hA).mono ?_
      rintro en w10 ⟨rfl, hB⟩
      replace y0 := cell_on hB y0
      replace y1 := cell_on hB y1
      replace y2 := cell_on hB y2
      replace x0 := cell_on hB x0
      replace x1 := cell_on hB x1
      replace x2 := cell_on hB x2
      replace z0 := cell_on hB z0
      replace z1 := cell_on hB z1
      replace z2 := cell_on hB z2
      replace hA := Kd.C_below hA hB
      replace hC := Kd.C_below hC hB
      replace hT := Kd.C_below hT hB
      replace hO := own_keep hO hB
      replace hv := hv.trans (hB.mono hv.size)
      clear hB a19
      have hz0 := World.block_lt_of_cell? _ _ y0
      have hz1 := World.block_lt_of_cell? _ _ x0
      have hz2 := World.block_lt_of_cell? _ _ z0
      go_wp2_with fail
      clear hz0 hz1 hz2
      obtain ⟨w11, hw11⟩ : ∃ w11, w10.alloc (.cells #[.int .i64 p0, .int .i64 p1, .int .i64 p2, .int .i64 p3, .int .i64 p4, .int .i64 p5] 30) = w11 := ⟨_, rfl⟩
      try rw [hw11]
      have hB : Below w10.heap.size w10 w11 := by rw [← hw11]; exact (Below.refl _ w10).alloc (by first | exact Nat.le_refl _ | (simp; done) | (simp; omega)) _
      have kd : w11.heap[w10.heap.size]? = some (.cells #[.int .i64 p0, .int .i64 p1, .int .i64 p2, .int .i64 p3, .int .i64 p4, .int .i64 p5] 30 (0, 0)) := by rw [← hw11]; exact al_new _ _ _ (by first | rfl | (simp; done) | (simp; omega))
      have d0 : w11.cell? ⟨w10.heap.size, 0, none⟩ = some (.int .i64 p0) := blk_cell kd 0
      have d1 : w11.cell? ⟨w10.heap.size, 1, none⟩ = some (.int .i64 p1) := blk_cell kd 1
      have d2 : w11.cell? ⟨w10.heap.size, 2, none⟩ = some (.int .i64 p2) := blk_cell kd 2
      have d3 : w11.cell? ⟨w10.heap.size, 3, none⟩ = some (.int .i64 p3) := blk_cell kd 3
      have d4 : w11.cell? ⟨w10.heap.size, 4, none⟩ = some (.int .i64 p4) := blk_cell kd 4
      have d5 : w11.cell? ⟨w10.heap.size, 5, none⟩ = some (.int .i64 p5) := blk_cell kd 5
      clear kd
      replace y0 := cell_on hB y0
      replace y1 := cell_on hB y1
      replace y2 := cell_on hB y2
      replace x0 := cell_on hB x0
      replace x1 := cell_on hB x1
      replace x2 := cell_on hB x2
      replace z0 := cell_on hB z0
      replace z1 := cell_on hB z1
      replace z2 := cell_on hB z2
      replace hA := Kd.C_below hA hB
      replace hC := Kd.C_below hC hB
      replace hT := Kd.C_below hT hB
      replace hO := own_keep hO hB
      replace hv := hv.trans (hB.mono hv.size)
      clear hB hw11
      refine (b19 _ hT).mono ?_
      rintro en w12 ⟨rfl, hB⟩
      replace y0 := cell_on hB y0
      replace y1 := cell_on hB y1
      replace y2 := cell_on hB y2
      replace x0 := cell_on hB x0
      replace x1 := cell_on hB x1
      replace x2 := cell_on hB x2
      replace z0 := cell_on hB z0
      replace z1 := cell_on hB z1
      replace z2 := cell_on hB z2
      replace d0 := cell_on hB d0
      replace d1 := cell_on hB d1
      replace d2 := cell_on hB d2
      replace d3 := cell_on hB d3
      replace d4 := cell_on hB d4
      replace d5 := cell_on hB d5
      replace hA := Kd.C_below hA hB
      replace hC := Kd.C_below hC hB
      replace hT := Kd.C_below hT hB
      replace hO := own_keep hO hB
      replace hv := hv.trans (hB.mono hv.size)
      clear hB b19
      have hz0 := World.block_lt_of_cell? _ _ y0
      have hz1 := World.block_lt_of_cell? _ _ x0
      have hz2 := World.block_lt_of_cell? _ _ z0
      have hz3 := World.block_lt_of_cell? _ _ d0
      go_wp2_with fail
      clear hz0 hz1 hz2 hz3
      obtain ⟨w13, hw13⟩ : ∃ w13, w12.alloc (.cells #[.int .i64 p0, .int .i64 p1, .int .i64 p2, .int .i64 p3, .int .i64 p4, .int .i64 p5] 30) = w13 := ⟨_, rfl⟩
      try rw [hw13]
      have hB : Below w12.heap.size w12 w13 := by rw [← hw13]; exact (Below.refl _ w12).alloc (by first | exact Nat.le_refl _ | (simp; done) | (simp; omega)) _
      have ke : w13.heap[w12.heap.size]? = some (.cells #[.int .i64 p0, .int .i64 p1, .int .i64 p2, .int .i64 p3, .int .i64 p4, .int .i64 p5] 30 (0, 0)) := by rw [← hw13]; exact al_new _ _ _ (by first | rfl | (simp; done) | (simp; omega))
      have e0 : w13.cell? ⟨w12.heap.size, 0, none⟩ = some (.int .i64 p0) := blk_cell ke 0
      have e1 : w13.cell? ⟨w12.heap.size, 1, none⟩ = some (.int .i64 p1) := blk_cell ke 1
      have e2 : w13.cell? ⟨w12.heap.size, 2, none⟩ = some (.int .i64 p2) := blk_cell ke 2
      have e3 : w13.cell? ⟨w12.heap.size, 3, none⟩ = some (.int .i64 p3) := blk_cell ke 3
      have e4 : w13.cell? ⟨w12.heap.size, 4, none⟩ = some (.int .i64 p4) := blk_cell ke 4
      have e5 : w13.cell? ⟨w12.heap.size, 5, none⟩ = some (.int .i64 p5) := blk_cell ke 5
      clear ke
      replace y0 := cell_on hB y0
      replace y1 := cell_on hB y1
      replace y2 := cell_on hB y2
      replace x0 := cell_on hB x0
      replace x1 := cell_on hB x1
      replace x2 := cell_on hB x2
      replace z0 := cell_on hB z0
      replace z1 := cell_on hB z1
      replace z2 := cell_on hB z2
      replace d0 := cell_on hB d0
      replace d1 := cell_on hB d1
      replace d2 := cell_on hB d2
      replace d3 := cell_on hB d3
      replace d4 := cell_on hB d4
      replace d5 := cell_on hB d5
      replace hA := Kd.C_below hA hB
      replace hC := Kd.C_below hC hB
      replace hT := Kd.C_below hT hB
      replace hO := own_keep hO hB
      replace hv := hv.trans (hB.mono hv.size)
      clear hB hw13
      refine (a24 _ hA).mono ?_
      rintro en w14 ⟨rfl, hB⟩
      replace y0 := cell_on hB y0
      replace y1 := cell_on hB y1
      replace y2 := cell_on hB y2
      replace x0 := cell_on hB x0
      replace x1 := cell_on hB x1
      replace x2 := cell_on hB x2
      replace z0 := cell_on hB z0
      replace z1 := cell_on hB z1
      replace z2 := cell_on hB z2
      replace d0 := cell_on hB d0
      replace d1 := cell_on hB d1
      replace d2 := cell_on hB d2
      replace d3 := cell_on hB d3
      replace d4 := cell_on hB d4
      replace d5 := cell_on hB d5
      replace e0 := cell_on hB e0
      replace e1 := cell_on hB e1
      replace e2 := cell_on hB e2
      replace e3 := cell_on hB e3
      replace e4 := cell_on hB e4
      replace e5 := cell_on hB e5
      replace hA := Kd.C_below hA hB
      replace hC := Kd.C_below hC hB
      replace hT := Kd.C_below hT hB
      replace hO := own_keep hO hB
      replace hv := hv.trans (hB.mono hv.size)
      clear hB a24
      go_wp2_with fail
      refine (b24 _ hT).mono ?_
      rintro en w15 ⟨rfl, hB⟩
      replace y0 := cell_on hB y0
      replace y1 := cell_on hB y1
      replace y2 := cell_on hB y2
      replace x0 := cell_on hB x0
      replace x1 := cell_on hB x1
      replace x2 := cell_on hB x2
      replace z0 := cell_on hB z0
      replace z1 := cell_on hB z1
      replace z2 := cell_on hB z2
      replace d0 := cell_on hB d0
      replace d1 := cell_on hB d1
      replace d2 := cell_on hB d2
      replace d3 := cell_on hB d3
      replace d4 := cell_on hB d4
      replace d5 := cell_on hB d5
      replace e0 := cell_on hB e0
      replace e1 := cell_on hB e1
      replace e2 := cell_on hB e2
      replace e3 := cell_on hB e3
      replace e4 := cell_on hB e4
      replace e5 := cell_on hB e5
      replace hA := Kd.C_below hA hB
      replace hC := Kd.C_below hC hB
      replace hT := Kd.C_below hT hB
      replace hO := own_keep hO hB
      replace hv := hv.trans (hB.mono hv.size)
      clear hB b24
      have qs : (r + b == r + b) = true := by simp
      have qp0 : (p0 == p0) = true := by simp
      have qp1 : (p1 == p1) = true := by simp
      have qp2 : (p2 == p2) = true := by simp
      have qp3 : (p3 == p3) = true := by simp
      have qp4 : (p4 == p4) = true := by simp
      have qp5 : (p5 == p5) = true := by simp
      have a14 := fun w => awake_calls w
      by_cases hz : la.length = 0
      · skip
        have ql : ((la.length : Int) == 0) = true := beq_iff_eq.2 (by omega)
        clear hz
        go_wp2_with fail
        refine (a14 _).mono ?_
        rintro en w16 ⟨rfl, hB⟩
        replace hv := hv.trans (hB.mono hv.size)
        clear hB a14
        go_wp2
        go_ret
        exact ⟨rfl, HV.out.trans (hv.mono HV.out.size)⟩
      · skip
        have ql : ((la.length : Int) == 0) = false := beq_eq_false_iff_ne.2 (by omega)
        have hmod : 0 ≤ wh % (la.length : Int) ∧ wh % (la.length : Int) < (la.length : Int) := ⟨Int.emod_nonneg _ (by omega), Int.emod_lt_of_pos _ (by omega)⟩
        obtain ⟨n, hn⟩ : ∃ n : Nat, wh % (la.length : Int) = (n : Int) := ⟨(wh % (la.length : Int)).toNat, by omega⟩
        rw [hn] at hmod
        have hnl : n < la.length := by omega
        have hst := ((checkF_right HP.out).2.2.2.2.2.steps _ (List.getElem_mem hnl)).1
        have HF2 := Aside0.mk (HF.out n hnl)
        have HG := Aside0.mk (lcells_get la n hnl)
        have HS := Aside0.mk (lcells_set la n la[n].1 (-la[n].2) (by rw [List.getElem?_eq_getElem hnl]; rfl))
        obtain ⟨g, hg⟩ : ∃ g, A2 = some ⟨g, 0, none⟩ ∧ w1.heap.size + 2 ≤ g := by
          rcases hO.2 with ⟨e, h0⟩ | ⟨g, cap, cur, e, h1, _⟩
          · omega
          · injection e with e; exact ⟨g, e, h1⟩
        obtain ⟨rfl, hg2⟩ := hg
        have hcell : w15.cell? ⟨g, n * 2 + 1, none⟩ = some (.int .i64 la[n].2) := by rw [World.ownsRow.cellAt hO _ (by omega)]; exact HG.out.2
        have hfz : w15.frozen? ⟨g, n * 2 + 1, none⟩ = false := World.ownsRow.frozenAt hO _
        have hO2 := World.ownsRow.stored hO (n * 2 + 1) (.int .i64 (-la[n].2))
        rw [HS.out] at hO2
        generalize la[n].1 = xd at *
        generalize la[n].2 = xs at *
        have hwx : IntKind.i64.wrap (-xs) = -xs := iw _ (by omega) (by omega)
        have hn0 : (0 : Int) ≤ (n : Int) := by omega
        have hn1 : (n : Int) < (la.length : Int) := by omega
        clear hz hA hnl HG HS HF
        go_wp2_with fail
        try rw [hn]
        go_region
        obtain ⟨w16, hq⟩ : ∃ w16, (w15.setCell ⟨g, n * 2 + 1, none⟩ (.int .i64 (-xs))).drew = w16 := ⟨_, rfl⟩
        rw [hq]
        have hBg : Below g w15 w16 := by rw [← hq]; exact ((Below.refl g w15).setCell (by simp) _).drew
        have hO3 : w16.ownsRow (w1.heap.size + 2) 45 2 (.slice (some ⟨g, 0, none⟩) la.length c2) la.length (lcells (la.set n (xd, -xs))) := by rw [← hq]; exact hO2.1
        replace y0 := (hBg.cell (p := ⟨w1.heap.size, 0, none⟩) (by simp; omega)).trans y0
        replace y1 := (hBg.cell (p := ⟨w1.heap.size, 1, none⟩) (by simp; omega)).trans y1
        replace y2 := (hBg.cell (p := ⟨w1.heap.size, 2, none⟩) (by simp; omega)).trans y2
        replace x0 := (hBg.cell (p := ⟨w1.heap.size + 1, 0, none⟩) (by simp; omega)).trans x0
        replace x1 := (hBg.cell (p := ⟨w1.heap.size + 1, 1, none⟩) (by simp; omega)).trans x1
        replace x2 := (hBg.cell (p := ⟨w1.heap.size + 1, 2, none⟩) (by simp; omega)).trans x2
        replace hv := hv.trans (hBg.mono (by omega))
        replace hC := Kd.C_below HC.out hv
        obtain ⟨la', hla⟩ : ∃ la', la.set n (xd, -xs) = la' := ⟨_, rfl⟩
        have hlen : la'.length = la.length := by rw [← hla]; simp
        rw [hla] at HF2 hO3
        rw [← hlen] at hO3 x1
        obtain ⟨_, _, eqq, hA⟩ := own_leaps hO3
        cases eqq
        have a22 := fun w h1 h2 => Extend_calls b au b u (some ⟨g, 0, none⟩) A1 c2 c1 la' L w h1 h2 HCAP.out
        rw [HF2.out] at a22
        clear hq hBg hO hO2 hO3 hcell hfz hn hmod hwx hst hla hlen
        go_wp2_with fail
        refine (a22 _ hA hC).mono ?_
        rintro en w17 ⟨hEx, _, hB⟩
        replace y0 := cell_on hB y0
        replace y1 := cell_on hB y1
        replace y2 := cell_on hB y2
        replace x0 := cell_on hB x0
        replace x1 := cell_on hB x1
        replace x2 := cell_on hB x2
        replace hC := Kd.C_below hC hB
        replace hA := Kd.C_below hA hB
        replace hv := hv.trans (hB.mono hv.size)
        obtain rfl := hEx (by decide)
        clear hEx
        clear hB a22
        go_wp2_with fail
        refine (a14 _).mono ?_
        rintro en w18 ⟨rfl, hB⟩
        replace y0 := cell_on hB y0
        replace y1 := cell_on hB y1
        replace y2 := cell_on hB y2
        replace x0 := cell_on hB x0
        replace x1 := cell_on hB x1
        replace x2 := cell_on hB x2
        replace hC := Kd.C_below hC hB
        replace hA := Kd.C_below hA hB
        replace hv := hv.trans (hB.mono hv.size)
        clear hB a14
        go_wp2
        go_ret
        exact ⟨rfl, HV.out.trans (hv.mono HV.out.size)⟩
end Go.Proofs.Ytleipbanadnchaa.C
