/- Em, En: joined. -/
import Derived.OwnWalk
import Derived.Deep.RegionHeld3
import Derived.Test.YtjgnadighdbjlaaEg
import Derived.BigRegion
import Derived.LoopN
import Derived.Deep.CutBlock
import Derived.Deep.CutRange
import Derived.Deep.Cut
import Derived.Laws.AppendOwn
import Derived.Test.YtjgnadighdbjlaaDi
section
/- CounterSmall: the nets of the greatest size, and turns without numbers. -/
namespace Go.Proofs.Ytjgnadighdbjlaa.C
open Go.RowKit Go.Shelf Go.Maps Go.Proofs.YtjgnadighdbjlaaW.PrintWords Go.Proofs.YtjgnadighdbjlaaW.PrintLast Go.Proofs.YtjgnadighdbjlaaW.PrintMore
set_option linter.unusedVariables false
set_option linter.unusedSimpArgs false
theorem sm_r1 : resolveR 1000 0 0 1 2 1 0 (-1) (-1000000000000000) 1000000000000000 = .tuple #[.agg #[.int .i64 0, .int .i64 0], .int .i64 12] := by kernel_rfl
theorem sm_r2 : resolveR 1000 0 0 1 2 1 0 0 (-1000000000000000) 1000000000000000 = .tuple #[.agg #[.int .i64 0, .int .i64 0], .int .i64 8] := by kernel_rfl
theorem sm_r3 : resolveR 1000 0 0 1 2 1 0 0 1000000000000000 1000000000000000 = .tuple #[.agg #[.int .i64 1000000000000000, .int .i64 1000000000000000], .int .i64 0] := by kernel_rfl
def sB (i : Nat) : Bd := (((i % 16 : Nat) : Int), (((i + 1) % 16 : Nat) : Int), -1000000000000000, 1000000000000000 - (i : Int))
def sL (n : Nat) : List Bd := (List.range n).map sB
theorem sL_len (n : Nat) : (sL n).length = n := by simp [sL]
theorem sL_succ (n : Nat) : sL (n + 1) = sL n ++ [sB n] := by unfold sL; rw [List.range_succ, List.map_append]; rfl
theorem sL_ck : checkedF 16 (sL 240) = 0 := by decide +kernel
theorem sL_ok : NetOk (sL 240) 16 := by
  obtain ⟨N, h, hn⟩ := netOk_of sL_ck
  obtain rfl : N = 16 := by omega
  exact hn
theorem sL_Ed {p q : Nat} {L : Int} (h : Ed (sL 240) p q L) : 999999999999761 ≤ L ∧ (p = 0 → q = 1 → 999999999999776 ≤ L) := by
  obtain ⟨x, hx, h⟩ := Ed_cases h
  obtain ⟨i, hi, rfl⟩ := List.mem_map.1 hx
  rw [List.mem_range] at hi
  unfold sB at h
  simp only at h
  rcases h with ⟨h1, h2, h3⟩ | ⟨h1, h2, h3⟩
  · refine ⟨by omega, fun e1 e2 => ?_⟩
    omega
  · exact ⟨by omega, fun e1 e2 => by omega⟩
theorem sL_way : ∀ (t : List (Nat × Int)) (a b : Nat), IsWay (Ed (sL 240)) a t b → 999999999999761 * (t.length : Int) ≤ wsum t
  | [], a, b, h => by simp [wsum]
  | x :: t, a, b, h => by
    have h1 := (sL_Ed h.1).1
    have h2 := sL_way t _ _ h.2
    rw [wsum, List.length_cons]
    push_cast
    omega
theorem sL_fw : okFw 16 (mat1 (sL 240) 16 (2 * (sL 240).length)) := (okFw_iff (mat1_base sL_ok)).2 fun t v _ hw => by
  have := sL_way t v v hw
  omega
theorem sL_E : matE 16 (sL 240) = 0 := by
  unfold matE
  rw [if_neg (by rw [sL_ck]; simp), if_pos]
  exact sL_fw
theorem sL_01 : fwIt (mat1 (sL 240) 16 (2 * (sL 240).length)) 16 0 1 = 999999999999776 := by
  have hB := mat1_base sL_ok
  have h1 : fwIt (mat1 (sL 240) 16 (2 * (sL 240).length)) 16 0 1 ≤ 999999999999776 := by
    have he : Ed (sL 240) 0 1 999999999999776 := Ed_up (x := sB 224) (List.mem_map.2 ⟨224, by simp, rfl⟩) rfl rfl
    have := fw_le hB 16 (Nat.le_refl _) (fun j hj => sL_fw j (by omega) j hj) [(1, 999999999999776)] 0 1 (by omega) (by omega) ⟨he, rfl⟩ (fun x hx => by cases hx) (by simp)
    simpa [wsum] using this
  obtain ⟨t, hw, _, _, hs⟩ := fw_way hB 16 (Nat.le_refl _) sL_fw 0 1 (by omega) (by omega) (by omega)
  rw [← hs] at h1 ⊢
  match t, hw with
  | [], hw => exact absurd hw (by simp [IsWay])
  | [x], hw =>
    have h2 := (sL_Ed hw.1).2 rfl hw.2
    simp only [wsum] at h1 ⊢
    omega
  | x :: y :: r, hw =>
    have h2 := sL_way _ _ _ hw
    simp only [List.length_cons] at h2
    push_cast at h2
    omega
theorem sL_241 : matE 16 (sL 240 ++ [sB 0]) = 2 ∧ matL 16 (sL 240 ++ [sB 0]) = [] := by
  have h : checkedF 16 (sL 240 ++ [sB 0]) = 2 := by
    unfold checkedF
    rw [if_neg (by omega), if_pos (by rw [List.length_append, sL_len]; decide)]
  have h2 : matE 16 (sL 240 ++ [sB 0]) = 2 := by
    unfold matE
    rw [if_pos (by rw [h]; decide), h]
  exact ⟨h2, by unfold matL; rw [if_neg (by rw [h2]; decide)]⟩
theorem checked17 (A : Option Addr) (m c : Nat) (w : World) :
    Calls Try.prog 29 #[.int .i64 17, .slice A m c] w fun e w' => e = .returned (.int .i64 1) ∧ Below w.heap.size w w' := by
  have hv := Below.refl w.heap.size w
  have c1 := fun w => in_calls 17 1 16 w
  rw [show (decide ((1 : Int) ≤ 17) && decide ((17 : Int) ≤ 16)) = false by decide] at c1
  go_enter Try.func29, Try.ntmps29
  go_wp2_with fail
  obtain ⟨w1, hw1⟩ : ∃ w1, w.alloc (.cells #[.int .i64 17] 3) = w1 := ⟨_, rfl⟩
  try rw [hw1]
  have hB : Below w.heap.size w w1 := by rw [← hw1]; exact (Below.refl _ w).alloc (by first | exact Nat.le_refl _ | (simp; done) | (simp; omega)) _
  have kx : w1.heap[w.heap.size]? = some (.cells #[.int .i64 17] 3 (0, 0)) := by rw [← hw1]; exact al_new _ _ _ (by first | rfl | (simp; done) | (simp; omega))
  have x0 : w1.cell? ⟨w.heap.size, 0, none⟩ = some (.int .i64 17) := blk_cell kx 0
  clear kx
  replace hv := hv.trans (hB.mono hv.size)
  clear hB hw1
  have hs1 := World.block_lt_of_cell? _ _ x0
  go_wp2_with fail
  refine (c1 _).mono ?_
  rintro en w2 ⟨rfl, hB⟩
  replace hv := hv.trans (hB.mono hv.size)
  clear hB c1
  go_wp2_with fail
  go_ret
  exact ⟨rfl, hv⟩
/-- No net has seventeen clocks. -/
theorem contradict17 (A : Option Addr) (m c : Nat) (w : World) :
    Calls Try.prog 17 #[.int .i64 17, .slice A m c] w fun e w' => e = .returned (.tuple #[.slice none 0 0, .int .i64 1]) ∧ Below w.heap.size w w' := by
  have c1 := fun w => checked17 A m c w
  go_enter Try.func17, Try.ntmps17
  go_wp2_with fail
  refine wp_scope_straight ?_
  go_wp2_with fail
  refine (c1 _).mono ?_
  rintro en w1 ⟨rfl, hB⟩
  go_wp2
  rw [Exit.noGoto_ret]
  go_ret2
  exact ⟨rfl, ((Below.refl _ _).alloc (Nat.le_refl _) _).trans (hB.mono (by simp))⟩
end Go.Proofs.Ytjgnadighdbjlaa.C
end

section
/- CounterSmall: the law's walk. -/
namespace Go.Proofs.Ytjgnadighdbjlaa.C
open Go.RowKit Go.Shelf Go.Maps Go.Proofs.YtjgnadighdbjlaaW.PrintWords Go.Proofs.YtjgnadighdbjlaaW.PrintLast Go.Proofs.YtjgnadighdbjlaaW.PrintMore
set_option linter.unusedVariables false
set_option linter.unusedSimpArgs false
attribute [local go_sem high] eqA43
theorem Mx.move {W X : World} {base n : Nat} {v : Value} {rs : List Nat} {D : Nat → Nat → Int} (h : Mx W base v n rs D) (hm : ∀ (k : Nat) (cs : Array Value) (t : TypeId), W.heap[k]? = some (Obj.cells cs t (0, 0)) → t ≠ 46 → X.heap[k]? = W.heap[k]?) : Mx X base v n rs D :=
  ⟨own_move h.own (fun k hk => by obtain ⟨cs, hc⟩ := own_typed h.own k hk; exact hm k cs 59 hc (by decide)), fun a r hr => by rw [hm r _ 3 (h.row a r hr) (by decide)]; exact h.row a r hr, h.nd, h.ge⟩
theorem narrow_mx (A : Option Addr) (c : Nat) (w : World) (hr : Kd.C kb w A 240 (sL 240)) :
    Calls Try.prog 11 #[.int .i64 16, .slice A 240 c] w fun e w' => ∃ (g cap base : Nat) (rs : List Nat), e = .returned (.tuple #[.slice (some ⟨g, 0, none⟩) 16 cap, .int .i64 0]) ∧ rs.length = 16 ∧ Mx w' base (.slice (some ⟨g, 0, none⟩) 16 cap) 16 rs (fwIt (mat1 (sL 240) 16 (2 * (sL 240).length)) 16) ∧ Below w.heap.size w w' := by
  have hn := sL_ok
  have hB := mat1_base hn
  obtain ⟨M, hM⟩ : ∃ M, 2 * (sL 240).length = M := ⟨_, rfl⟩
  have hok := sL_fw
  rw [hM] at hB hok ⊢
  have t := narrow_main 16 A c (sL 240) w (by rw [sL_len]; exact hr) sL_ck hn.n1 hn.n2 hn.len hn.sp M hM _ rfl hn.cl (fun i a b _ _ => mat1_bound hn.sp 16 i a b) (fun a ha => by have := hB.diag a ha; omega) (fun k hk hj => fw_bound hB k hk hj)
  rw [sL_len] at t
  refine Calls.mono t ?_
  rintro e w' ⟨v, E, rfl, h1, h2, hBl⟩
  obtain ⟨rfl, base, rs, _, hrs, hMx⟩ := h1 hok
  obtain ⟨g, cap, rfl⟩ := hMx.sl hrs hn.n1
  exact ⟨g, cap, base, rs, rfl, hrs, hMx, hBl⟩
/-- The numbers that a counter is given. -/
def smV : List Int := [-1, 0, 1, 2, 3, 4, 1000, 1001, 100000, 100001, 1000000, 1000001, 1000000000, 1000000001, 1000000000000, 1000000000001, 1000000000000000, 1000000000000002]
theorem smV_b : ∀ j : Nat, j < 18 → -1000000000000002 ≤ smV.getD j 0 ∧ smV.getD j 0 ≤ 1000000000000002 := by decide
set_option maxHeartbeats 16000000 in
set_option maxRecDepth 100000 in
theorem small_calls (w : World) : Calls Try.prog 8 #[] w fun e w' => e = .returned (.bool true) ∧ Below w.heap.size w w' := by
  go_enter Try.func8, Try.ntmps8
  go_upto_block 0 with fail
  go_cut [13] from 0 (fun s13 wx => Below w.heap.size w wx)
  case first =>
    go_wp2_with fail
    go_loopw [1] (fun v1 wr => ∃ fa : Int, 1 ≤ fa ∧ fa ≤ 5 ∧ v1 = .int .i64 fa ∧ Aside0 (Below w.heap.size w wr)) (fun v1 _ => (5 - intOf v1).toNat)
    case atStart => exact ⟨1, by omega, by omega, rfl, ⟨Below.refl _ _⟩⟩
    case round =>
      obtain ⟨fa, hf1, hf2, rfl, HF⟩ := hrel
      by_cases hf : fa < 5
      · have wfa := C.wr (fa + 1) (by omega) (by omega)
        go_wp2_with fail
        go_loopw [2] (fun v2 wr => ∃ gr : Int, 1 ≤ gr ∧ gr ≤ 4 ∧ v2 = .int .i64 gr ∧ Aside0 (Below w.heap.size w wr)) (fun v2 _ => (4 - intOf v2).toNat)
        case atStart => exact ⟨1, by omega, by omega, rfl, HF⟩
        case round =>
          clear HF
          obtain ⟨gr, hg1, hg2, rfl, HG⟩ := hrel
          by_cases hg : gr < 4
          · have wgr := C.wr (gr + 1) (by omega) (by omega)
            go_wp2_with fail
            go_loopw [3] (fun v3 wr => ∃ tu : Int, 1 ≤ tu ∧ tu ≤ 4 ∧ v3 = .int .i64 tu ∧ Aside0 (Below w.heap.size w wr)) (fun v3 _ => (4 - intOf v3).toNat)
            case atStart => exact ⟨1, by omega, by omega, rfl, HG⟩
            case round =>
              clear HG
              obtain ⟨tu, ht1, ht2, rfl, HT⟩ := hrel
              by_cases ht : tu < 4
              · have wtu := C.wr (tu + 1) (by omega) (by omega)
                have w1 := C.wr (gr - 2) (by omega) (by omega)
                have w2 := C.wr (tu - 1) (by omega) (by omega)
                have w3 := C.wr (2 * gr) (by omega) (by omega)
                have w4 : IntKind.i64.wrap (2 * gr * tu) = 2 * gr * tu := by
                  have hgc : gr = 1 ∨ gr = 2 ∨ gr = 3 := by omega
                  rcases hgc with rfl | rfl | rfl <;> exact C.wr _ (by omega) (by omega)
                obtain ⟨rg, hrg⟩ : ∃ x, 2 * gr * tu = x := ⟨_, rfl⟩
                rw [hrg] at w4
                have g0 : 2 * gr ≠ 0 := by omega
                have g1 : (2 * gr == 0) = false := beq_eq_false_iff_ne.2 g0
                have hvt := HT.out
                go_wp2_with fail
                obtain ⟨wo, hwo⟩ : ∃ wo : World, wo = wr := ⟨_, rfl⟩
                rw [← hwo] at hvt HT ⊢
                clear hwo
                obtain ⟨w100, hw100⟩ : ∃ w100, wo.alloc (.cells #[.int .i64 fa, .int .i64 (gr - 2), .int .i64 (tu - 1), .int .i64 gr, .int .i64 rg, .int .i64 1, .int .i64 0] 49) = w100 := ⟨_, rfl⟩
                try rw [hw100]
                have hB : Below wo.heap.size wo w100 := by rw [← hw100]; exact (Below.refl _ wo).alloc (by first | exact Nat.le_refl _ | (simp; done) | (simp; omega)) _
                have kx : w100.heap[wo.heap.size]? = some (.cells #[.int .i64 fa, .int .i64 (gr - 2), .int .i64 (tu - 1), .int .i64 gr, .int .i64 rg, .int .i64 1, .int .i64 0] 49 (0, 0)) := by rw [← hw100]; exact al_new _ _ _ (by first | rfl | (simp; done) | (simp; omega))
                have x0 : w100.cell? ⟨wo.heap.size, 0, none⟩ = some (.int .i64 fa) := blk_cell kx 0
                have x1 : w100.cell? ⟨wo.heap.size, 1, none⟩ = some (.int .i64 (gr - 2)) := blk_cell kx 1
                have x2 : w100.cell? ⟨wo.heap.size, 2, none⟩ = some (.int .i64 (tu - 1)) := blk_cell kx 2
                have x3 : w100.cell? ⟨wo.heap.size, 3, none⟩ = some (.int .i64 gr) := blk_cell kx 3
                have x4 : w100.cell? ⟨wo.heap.size, 4, none⟩ = some (.int .i64 rg) := blk_cell kx 4
                have x5 : w100.cell? ⟨wo.heap.size, 5, none⟩ = some (.int .i64 1) := blk_cell kx 5
                have x6 : w100.cell? ⟨wo.heap.size, 6, none⟩ = some (.int .i64 0) := blk_cell kx 6
                clear kx
                replace hvt := hvt.trans (hB.mono hvt.size)
                clear hB hw100
                go_wp2_with fail
                go_loopw [5] (fun v5 wr => ∃ dd : Int, -12 ≤ dd ∧ dd ≤ 13 ∧ v5 = .int .i64 dd ∧ Aside0 (Below w100.heap.size w100 wr)) (fun v5 _ => (13 - intOf v5).toNat)
                case atStart => exact ⟨-12, by omega, by omega, rfl, ⟨Below.refl _ _⟩⟩
                case round =>
                  obtain ⟨dd, hd1, hd2, rfl, HD⟩ := hrel
                  by_cases hd : dd < 13
                  · have wdd := C.wr (dd + 1) (by omega) (by omega)
                    have u1 := C.wr (dd + 50) (by omega) (by omega)
                    have u2 : IntKind.u64.wrap (dd + 50) = dd + 50 := by rw [IntKind.wrap_u64]; omega
                    have u3 := C.wr (dd + 20) (by omega) (by omega)
                    have td1 := Int.tmod_lt_of_pos dd (show (0 : Int) < 2 * gr by omega)
                    have td2 : -(2 * gr) < dd.tmod (2 * gr) := by
                      have h2 := Int.tmod_lt_of_pos (-dd) (show (0 : Int) < 2 * gr by omega)
                      rw [Int.neg_tmod] at h2
                      omega
                    obtain ⟨r, hr⟩ : ∃ r, dd.tmod (2 * gr) = r := ⟨_, rfl⟩
                    rw [hr] at td1 td2
                    have u4 := C.wr r (by omega) (by omega)
                    go_wp2_with fail
                    go_loopw [6] (fun v6 wr => ∃ wi : Int, 0 ≤ wi ∧ wi ≤ 10 ∧ v6 = .int .i64 wi ∧ Aside0 (Below w100.heap.size w100 wr)) (fun v6 _ => (10 - intOf v6).toNat)
                    case atStart => exact ⟨0, by omega, by omega, rfl, HD⟩
                    case round =>
                      clear HD
                      obtain ⟨wi, hw1, hw2, rfl, HW⟩ := hrel
                      by_cases hwi : wi < 9
                      · have wwi := C.wr (wi + 2) (by omega) (by omega)
                        have tw := Int.tdiv_eq_ediv_of_nonneg hw1 (b := 2)
                        have u5 := C.wr (wi / 2) (by omega) (by omega)
                        have u6 := C.wr (dd - wi) (by omega) (by omega)
                        have u7 := C.wr (dd + wi / 2) (by omega) (by omega)
                        have csh := fun w => shows_calls fa (gr - 2) (tu - 1) gr rg 1 0 (dd + 50) (dd + 20) dd r (dd - wi) (dd + wi / 2) w
                        replace x0 := cell_on HW.out x0
                        replace x1 := cell_on HW.out x1
                        replace x2 := cell_on HW.out x2
                        replace x3 := cell_on HW.out x3
                        replace x4 := cell_on HW.out x4
                        replace x5 := cell_on HW.out x5
                        replace x6 := cell_on HW.out x6
                        have hv7 := Below.refl wr.heap.size wr
                        have hs0 := World.block_lt_of_cell? _ _ x0
                        go_wp2_with fail
                        have hS : ∀ w', Below wr.heap.size wr w' → ((w'.cell? ⟨wo.heap.size, 0, none⟩ = some (.int .i64 fa) ∧ w'.cell? ⟨wo.heap.size, 1, none⟩ = some (.int .i64 (gr - 2)) ∧ w'.cell? ⟨wo.heap.size, 2, none⟩ = some (.int .i64 (tu - 1)) ∧ w'.cell? ⟨wo.heap.size, 3, none⟩ = some (.int .i64 gr) ∧ w'.cell? ⟨wo.heap.size, 4, none⟩ = some (.int .i64 rg) ∧ w'.cell? ⟨wo.heap.size, 5, none⟩ = some (.int .i64 1) ∧ w'.cell? ⟨wo.heap.size, 6, none⟩ = some (.int .i64 0)) ∧ Below wr.heap.size wr w') := fun w' hB => ⟨⟨cell_on hB x0, cell_on hB x1, cell_on hB x2, cell_on hB x3, cell_on hB x4, cell_on hB x5, cell_on hB x6⟩, hB⟩
                        go_region_held3 (fun w' => (w'.cell? ⟨wo.heap.size, 0, none⟩ = some (.int .i64 fa) ∧ w'.cell? ⟨wo.heap.size, 1, none⟩ = some (.int .i64 (gr - 2)) ∧ w'.cell? ⟨wo.heap.size, 2, none⟩ = some (.int .i64 (tu - 1)) ∧ w'.cell? ⟨wo.heap.size, 3, none⟩ = some (.int .i64 gr) ∧ w'.cell? ⟨wo.heap.size, 4, none⟩ = some (.int .i64 rg) ∧ w'.cell? ⟨wo.heap.size, 5, none⟩ = some (.int .i64 1) ∧ w'.cell? ⟨wo.heap.size, 6, none⟩ = some (.int .i64 0)) ∧ Below wr.heap.size wr w') (first | exact hS _ (Below.refl _ _).drew | assumption | (have hh := ‹(_ ∧ _ ∧ _ ∧ _ ∧ _ ∧ _ ∧ _) ∧ Below wr.heap.size wr _›; exact hS _ (hh.2.trans (hB.mono hh.2.size))))
                          (first | (go_at_call 7; refine (csh _).mono ?_; rintro e w' ⟨rfl, hB⟩))
                        rename_i hHeld
                        have hB := hHeld.2
                        clear hHeld hS csh
                        rename World => w99
                        replace x0 := cell_on hB x0
                        replace x1 := cell_on hB x1
                        replace x2 := cell_on hB x2
                        replace x3 := cell_on hB x3
                        replace x4 := cell_on hB x4
                        replace x5 := cell_on hB x5
                        replace x6 := cell_on hB x6
                        replace hv7 := hv7.trans (hB.mono hv7.size)
                        clear hB
                        have HB7 := Aside0.mk (HW.out.trans (hv7.mono HW.out.size))
                        clear hv7
                        go_wp2
                        go_roundw
                        case rel => exact ⟨wi + 2, by omega, by omega, rfl, HB7⟩
                        case measure => simp [intOf]; omega
                      · go_wp2
                        go_roundw
                        case rel => exact ⟨dd + 1, by omega, by omega, rfl, HW⟩
                        case measure => simp [intOf]; omega
                  · have HTN := Aside0.mk (hvt.trans (HD.out.mono hvt.size))
                    go_wp2
                    go_roundw
                    case rel => exact ⟨tu + 1, by omega, by omega, rfl, HTN⟩
                    case measure => simp [intOf]; omega
              · go_wp2
                go_roundw
                case rel => exact ⟨gr + 1, by omega, by omega, rfl, HT⟩
                case measure => simp [intOf]; omega
          · go_wp2
            go_roundw
            case rel => exact ⟨fa + 1, by omega, by omega, rfl, HG⟩
            case measure => simp [intOf]; omega
      · go_wp2
        go_meet
        exact HF.out
  case rest =>
  have hv := hcut
  clear hcut
  go_upto_block 10 with fail
  go_cut [13] from 0 (fun s13 wx => Below w.heap.size w wx)
  case first =>
    go_wp2_with fail
    go_loopw [7] (fun v7 wr => ∃ n : Nat, n ≤ 7 ∧ v7 = .int .i64 n ∧ Aside0 (Below w.heap.size w wr)) (fun v7 _ => 7 - (intOf v7).toNat)
    case atStart => exact ⟨0, by omega, by simp, ⟨hv⟩⟩
    case round =>
      clear hv
      obtain ⟨n, hn, rfl, HN⟩ := hrel
      by_cases hn7 : n < 7
      · have hdn : (n : Int) < 7 := by omega
        have wn := C.wr ((n : Int) + 1) (by omega) (by omega)
        have hn0 : (0 : Int) ≤ (n : Int) := by omega
        have hv2 := HN.out
        go_wp2_with fail
        obtain ⟨wo, hwo⟩ : ∃ wo : World, wo = wr := ⟨_, rfl⟩
        rw [← hwo] at hv2 HN ⊢
        clear hwo
        obtain ⟨wa, hwa⟩ : ∃ wa, wo.alloc (.cells #[.int .i64 (-1), .int .i64 0, .int .i64 1, .int .i64 2, .int .i64 3, .int .i64 4, .int .i64 1000, .int .i64 1001, .int .i64 100000, .int .i64 100001, .int .i64 1000000, .int .i64 1000001, .int .i64 1000000000, .int .i64 1000000001, .int .i64 1000000000000, .int .i64 1000000000001, .int .i64 1000000000000000, .int .i64 1000000000000002] 3) = wa := ⟨_, rfl⟩
        try rw [hwa]
        have hBa : Below wo.heap.size wo wa := by rw [← hwa]; exact (Below.refl _ _).alloc (Nat.le_refl _) _
        have ka : wa.heap[wo.heap.size]? = some (.cells (icells smV).toArray 3 (0, 0)) := by rw [← hwa]; exact al_new _ _ _ (by rfl)
        have HVA : Aside0 (∀ j : Nat, j < 18 → wa.cell? ⟨wo.heap.size, j, none⟩ = some (.int .i64 (smV.getD j 0))) := ⟨fun j hj => by
          rw [blk_cell ka j]
          have : smV.length = 18 := rfl
          simp [List.getD_eq_getElem?_getD, List.getElem?_eq_getElem (show j < smV.length by omega)]⟩
        have hva : Below w.heap.size w wa := hv2.trans (hBa.mono hv2.size)
        clear hBa ka hwa hv2
        go_loopw [83] (fun v83 wr => ∃ j : Nat, j ≤ 18 ∧ v83 = .int .i64 j ∧ Aside0 (Below wa.heap.size wa wr)) (fun v83 _ => 18 - (intOf v83).toNat)
        case atStart => exact ⟨0, by omega, by simp, ⟨Below.refl _ _⟩⟩
        case round =>
          obtain ⟨j, hj, rfl, HJ⟩ := hrel
          by_cases hj18 : j < 18
          · have hdj : (j : Int) < 18 := by omega
            have wj := C.wr ((j : Int) + 1) (by omega) (by omega)
            have hj0 : (0 : Int) ≤ (j : Int) := by omega
            have xv := cell_on HJ.out (HVA.out j hj18)
            have hvb := smV_b j hj18
            obtain ⟨vv, hvv⟩ : ∃ vv, smV.getD j 0 = vv := ⟨_, rfl⟩
            rw [hvv] at xv hvb
            clear hvv
            go_wp2_with fail
            go_loopw [10] (fun v10 wr => ∃ sg : Int, (sg = -1 ∨ sg = 1 ∨ sg = 3) ∧ v10 = .int .i64 sg ∧ Aside0 (Below wa.heap.size wa wr)) (fun v10 _ => (4 - intOf v10).toNat)
            case atStart => exact ⟨-1, Or.inl rfl, rfl, HJ⟩
            case round =>
              clear xv HJ
              obtain ⟨sg, hsg, rfl, HS⟩ := hrel
              by_cases hs2 : sg < 2
              · have wsg := C.wr (sg + 2) (by omega) (by omega)
                have wsv : IntKind.i64.wrap (sg * vv) = sg * vv := by rcases hsg with rfl | rfl | rfl <;> exact C.wr _ (by omega) (by omega)
                obtain ⟨sv, hsv⟩ : ∃ x, sg * vv = x := ⟨_, rfl⟩
                rw [hsv] at wsv
                have hsn : sg = -1 ∨ sg = 1 := by omega
                have hnn : n = 0 ∨ n = 1 ∨ n = 2 ∨ n = 3 ∨ n = 4 ∨ n = 5 ∨ n = 6 := by omega
                have HSG := Aside0.mk hsg
                have hd7 : (n : Int) < 7 := by omega
                clear hn hn7 hdn wn hvb hsg
                go_upto_region 30 with fail
                obtain ⟨wp, hwp⟩ : ∃ wp, (wr.alloc (.cells #[.int .i64 1, .int .i64 0, .int .i64 0, .int .i64 1, .int .i64 2, .int .i64 1, .int .i64 0] 49)).alloc (.cells #[.pointer (some ⟨wr.heap.size, 0, none⟩), .pointer (some ⟨wr.heap.size, 1, none⟩), .pointer (some ⟨wr.heap.size, 2, none⟩), .pointer (some ⟨wr.heap.size, 3, none⟩), .pointer (some ⟨wr.heap.size, 4, none⟩), .pointer (some ⟨wr.heap.size, 5, none⟩), .pointer (some ⟨wr.heap.size, 6, none⟩)] 70) = wp := ⟨_, rfl⟩
                try rw [hwp]
                have hBp : Below wr.heap.size wr wp := by rw [← hwp]; exact ((Below.refl _ _).alloc (Nat.le_refl _) _).alloc (by simp) _
                have k0 : wp.heap[wr.heap.size]? = some (.cells #[.int .i64 1, .int .i64 0, .int .i64 0, .int .i64 1, .int .i64 2, .int .i64 1, .int .i64 0] 49 (0, 0)) := by rw [← hwp]; exact al_old (al_new _ _ _ (by rfl))
                have k1 : wp.heap[wr.heap.size + 1]? = some (.cells #[.pointer (some ⟨wr.heap.size, 0, none⟩), .pointer (some ⟨wr.heap.size, 1, none⟩), .pointer (some ⟨wr.heap.size, 2, none⟩), .pointer (some ⟨wr.heap.size, 3, none⟩), .pointer (some ⟨wr.heap.size, 4, none⟩), .pointer (some ⟨wr.heap.size, 5, none⟩), .pointer (some ⟨wr.heap.size, 6, none⟩)] 70 (0, 0)) := by rw [← hwp]; exact al_new _ _ _ (by simp)
                have hpc : wp.cell? ⟨wr.heap.size + 1, n, none⟩ = some (.pointer (some ⟨wr.heap.size, n, none⟩)) := by rcases hnn with rfl | rfl | rfl | rfl | rfl | rfl | rfl <;> exact blk_cell k1 _
                have hyc : ∃ u, wp.cell? ⟨wr.heap.size, n, none⟩ = some u := by rcases hnn with rfl | rfl | rfl | rfl | rfl | rfl | rfl <;> exact ⟨_, blk_cell k0 _⟩
                obtain ⟨uo, hyo⟩ := hyc
                have hyf := blk_frozen k0 n
                have hs0 := World.block_lt_of_cell? _ _ hyo
                clear hwp k1
                have HK0 := Aside0.mk k0
                clear k0
                go_wp2_with fail
                obtain ⟨wz, hwz⟩ : ∃ wz, wp.setCell ⟨wr.heap.size, n, none⟩ (.int .i64 sv) = wz := ⟨_, rfl⟩
                try rw [hwz]
                have hBz : Below wr.heap.size wr wz := by rw [← hwz]; exact hBp.setCell (Nat.le_refl _) _
                have hY : ∃ F O J G R D I : Int, wz.cell? ⟨wr.heap.size, 0, none⟩ = some (.int .i64 F) ∧ wz.cell? ⟨wr.heap.size, 1, none⟩ = some (.int .i64 O) ∧ wz.cell? ⟨wr.heap.size, 2, none⟩ = some (.int .i64 J) ∧ wz.cell? ⟨wr.heap.size, 3, none⟩ = some (.int .i64 G) ∧ wz.cell? ⟨wr.heap.size, 4, none⟩ = some (.int .i64 R) ∧ wz.cell? ⟨wr.heap.size, 5, none⟩ = some (.int .i64 D) ∧ wz.cell? ⟨wr.heap.size, 6, none⟩ = some (.int .i64 I) := by
                  subst hwz
                  rcases hnn with rfl | rfl | rfl | rfl | rfl | rfl | rfl
                  · have kz := blk_put HK0.out 0 (.int .i64 sv) (by rfl)
                    exact ⟨sv, 0, 0, 1, 2, 1, 0, blk_cell kz 0, blk_cell kz 1, blk_cell kz 2, blk_cell kz 3, blk_cell kz 4, blk_cell kz 5, blk_cell kz 6⟩
                  · have kz := blk_put HK0.out 1 (.int .i64 sv) (by rfl)
                    exact ⟨1, sv, 0, 1, 2, 1, 0, blk_cell kz 0, blk_cell kz 1, blk_cell kz 2, blk_cell kz 3, blk_cell kz 4, blk_cell kz 5, blk_cell kz 6⟩
                  · have kz := blk_put HK0.out 2 (.int .i64 sv) (by rfl)
                    exact ⟨1, 0, sv, 1, 2, 1, 0, blk_cell kz 0, blk_cell kz 1, blk_cell kz 2, blk_cell kz 3, blk_cell kz 4, blk_cell kz 5, blk_cell kz 6⟩
                  · have kz := blk_put HK0.out 3 (.int .i64 sv) (by rfl)
                    exact ⟨1, 0, 0, sv, 2, 1, 0, blk_cell kz 0, blk_cell kz 1, blk_cell kz 2, blk_cell kz 3, blk_cell kz 4, blk_cell kz 5, blk_cell kz 6⟩
                  · have kz := blk_put HK0.out 4 (.int .i64 sv) (by rfl)
                    exact ⟨1, 0, 0, 1, sv, 1, 0, blk_cell kz 0, blk_cell kz 1, blk_cell kz 2, blk_cell kz 3, blk_cell kz 4, blk_cell kz 5, blk_cell kz 6⟩
                  · have kz := blk_put HK0.out 5 (.int .i64 sv) (by rfl)
                    exact ⟨1, 0, 0, 1, 2, sv, 0, blk_cell kz 0, blk_cell kz 1, blk_cell kz 2, blk_cell kz 3, blk_cell kz 4, blk_cell kz 5, blk_cell kz 6⟩
                  · have kz := blk_put HK0.out 6 (.int .i64 sv) (by rfl)
                    exact ⟨1, 0, 0, 1, 2, 1, sv, blk_cell kz 0, blk_cell kz 1, blk_cell kz 2, blk_cell kz 3, blk_cell kz 4, blk_cell kz 5, blk_cell kz 6⟩
                obtain ⟨F, O, J, G, R, D, I, y0, y1, y2, y3, y4, y5, y6⟩ := hY
                clear hwz HK0 hBp hpc hyo hyf hs0 hsv hnn
                have hvz := Below.refl wz.heap.size wz
                have hs0 := World.block_lt_of_cell? _ _ y0
                have c18 := fun w => Check_calls F O J G R D I w
                have c25 := fun w => rCheck_calls F O J G R D I w
                generalize (if okC F O J G R D I = true then (0 : Int) else 30) = q at *
                have hS : ∀ w', Below wz.heap.size wz w' → ((w'.cell? ⟨wr.heap.size, 0, none⟩ = some (.int .i64 F) ∧ w'.cell? ⟨wr.heap.size, 1, none⟩ = some (.int .i64 O) ∧ w'.cell? ⟨wr.heap.size, 2, none⟩ = some (.int .i64 J) ∧ w'.cell? ⟨wr.heap.size, 3, none⟩ = some (.int .i64 G) ∧ w'.cell? ⟨wr.heap.size, 4, none⟩ = some (.int .i64 R) ∧ w'.cell? ⟨wr.heap.size, 5, none⟩ = some (.int .i64 D) ∧ w'.cell? ⟨wr.heap.size, 6, none⟩ = some (.int .i64 I)) ∧ Below wz.heap.size wz w') := fun w' hB => ⟨⟨cell_on hB y0, cell_on hB y1, cell_on hB y2, cell_on hB y3, cell_on hB y4, cell_on hB y5, cell_on hB y6⟩, hB⟩
                go_region_held3 (fun w' => (w'.cell? ⟨wr.heap.size, 0, none⟩ = some (.int .i64 F) ∧ w'.cell? ⟨wr.heap.size, 1, none⟩ = some (.int .i64 O) ∧ w'.cell? ⟨wr.heap.size, 2, none⟩ = some (.int .i64 J) ∧ w'.cell? ⟨wr.heap.size, 3, none⟩ = some (.int .i64 G) ∧ w'.cell? ⟨wr.heap.size, 4, none⟩ = some (.int .i64 R) ∧ w'.cell? ⟨wr.heap.size, 5, none⟩ = some (.int .i64 D) ∧ w'.cell? ⟨wr.heap.size, 6, none⟩ = some (.int .i64 I)) ∧ Below wz.heap.size wz w') (first | exact hS _ (Below.refl _ _).drew | assumption | (have hh := ‹(_ ∧ _ ∧ _ ∧ _ ∧ _ ∧ _ ∧ _) ∧ Below wz.heap.size wz _›; exact hS _ (hh.2.trans (hB.mono hh.2.size))))
                  (first | (go_at_call 18; refine (c18 _).mono ?_; rintro e w' ⟨rfl, hB⟩) | (go_at_call 25; refine (c25 _).mono ?_; rintro e w' ⟨rfl, hB⟩))
                rename_i hHeld
                have hB := hHeld.2
                clear hHeld hS c18 c25
                rename World => w99
                replace y0 := cell_on hB y0
                replace y1 := cell_on hB y1
                replace y2 := cell_on hB y2
                replace y3 := cell_on hB y3
                replace y4 := cell_on hB y4
                replace y5 := cell_on hB y5
                replace y6 := cell_on hB y6
                replace hvz := hvz.trans (hB.mono hvz.size)
                clear hB
                have HZ := Aside0.mk (HS.out.trans ((hBz.trans (hvz.mono hBz.size)).mono HS.out.size))
                clear hvz hBz
                go_wp2
                go_roundw
                case rel => exact ⟨sg + 2, by have := HSG.out; omega, rfl, HZ⟩
                case measure => simp [intOf]; omega
              · have : sg = 3 := by omega
                subst this
                go_wp2
                go_roundw
                case rel => exact ⟨j + 1, by omega, by go_num, HS⟩
                case measure => simp [intOf]; omega
          · have HNN := Aside0.mk (hva.trans (HJ.out.mono hva.size))
            go_wp2
            go_roundw
            case rel => exact ⟨n + 1, by omega, by go_num, HNN⟩
            case measure => simp [intOf]; omega
      · go_wp2
        go_meet
        exact HN.out
  case rest =>
  replace hv := hcut
  clear hcut
  have ra := fun w => Resolve_calls 1000 0 0 1 2 1 0 (-1) (-1000000000000000) 1000000000000000 w
  have rb := fun w => Resolve_calls 1000 0 0 1 2 1 0 0 (-1000000000000000) 1000000000000000 w
  have rc := fun w => Resolve_calls 1000 0 0 1 2 1 0 0 1000000000000000 1000000000000000 w
  simp only [sm_r1, sm_r2, sm_r3] at ra rb rc
  go_wp2_with fail
  obtain ⟨w201, hw201⟩ : ∃ w201, wc.alloc (.cells #[.int .i64 1000, .int .i64 0, .int .i64 0, .int .i64 1, .int .i64 2, .int .i64 1, .int .i64 0] 51) = w201 := ⟨_, rfl⟩
  try rw [hw201]
  have hB : Below wc.heap.size wc w201 := by rw [← hw201]; exact (Below.refl _ wc).alloc (by first | exact Nat.le_refl _ | (simp; done) | (simp; omega)) _
  have ky : w201.heap[wc.heap.size]? = some (.cells #[.int .i64 1000, .int .i64 0, .int .i64 0, .int .i64 1, .int .i64 2, .int .i64 1, .int .i64 0] 51 (0, 0)) := by rw [← hw201]; exact al_new _ _ _ (by first | rfl | (simp; done) | (simp; omega))
  have y0 : w201.cell? ⟨wc.heap.size, 0, none⟩ = some (.int .i64 1000) := blk_cell ky 0
  have y1 : w201.cell? ⟨wc.heap.size, 1, none⟩ = some (.int .i64 0) := blk_cell ky 1
  have y2 : w201.cell? ⟨wc.heap.size, 2, none⟩ = some (.int .i64 0) := blk_cell ky 2
  have y3 : w201.cell? ⟨wc.heap.size, 3, none⟩ = some (.int .i64 1) := blk_cell ky 3
  have y4 : w201.cell? ⟨wc.heap.size, 4, none⟩ = some (.int .i64 2) := blk_cell ky 4
  have y5 : w201.cell? ⟨wc.heap.size, 5, none⟩ = some (.int .i64 1) := blk_cell ky 5
  have y6 : w201.cell? ⟨wc.heap.size, 6, none⟩ = some (.int .i64 0) := blk_cell ky 6
  clear ky
  replace hv := hv.trans (hB.mono hv.size)
  clear hB hw201
  refine (ra _).mono ?_
  rintro en w202 ⟨rfl, hB⟩
  replace y0 := cell_on hB y0
  replace y1 := cell_on hB y1
  replace y2 := cell_on hB y2
  replace y3 := cell_on hB y3
  replace y4 := cell_on hB y4
  replace y5 := cell_on hB y5
  replace y6 := cell_on hB y6
  replace hv := hv.trans (hB.mono hv.size)
  clear hB ra
  have hy := World.block_lt_of_cell? _ _ y0
  go_wp2_with fail
  clear hy
  obtain ⟨w203, hw203⟩ : ∃ w203, w202.alloc (.cells #[.int .i64 0, .int .i64 0] 43) = w203 := ⟨_, rfl⟩
  try rw [hw203]
  have hB : Below w202.heap.size w202 w203 := by rw [← hw203]; exact (Below.refl _ w202).alloc (by first | exact Nat.le_refl _ | (simp; done) | (simp; omega)) _
  have kp : w203.heap[w202.heap.size]? = some (.cells #[.int .i64 0, .int .i64 0] 43 (0, 0)) := by rw [← hw203]; exact al_new _ _ _ (by first | rfl | (simp; done) | (simp; omega))
  have p0 : w203.cell? ⟨w202.heap.size, 0, none⟩ = some (.int .i64 0) := blk_cell kp 0
  have p1 : w203.cell? ⟨w202.heap.size, 1, none⟩ = some (.int .i64 0) := blk_cell kp 1
  clear kp
  replace y0 := cell_on hB y0
  replace y1 := cell_on hB y1
  replace y2 := cell_on hB y2
  replace y3 := cell_on hB y3
  replace y4 := cell_on hB y4
  replace y5 := cell_on hB y5
  replace y6 := cell_on hB y6
  replace hv := hv.trans (hB.mono hv.size)
  clear hB hw203
  clear p0 p1
  refine (rb _).mono ?_
  rintro en w204 ⟨rfl, hB⟩
  replace y0 := cell_on hB y0
  replace y1 := cell_on hB y1
  replace y2 := cell_on hB y2
  replace y3 := cell_on hB y3
  replace y4 := cell_on hB y4
  replace y5 := cell_on hB y5
  replace y6 := cell_on hB y6
  replace hv := hv.trans (hB.mono hv.size)
  clear hB rb
  have hy := World.block_lt_of_cell? _ _ y0
  go_wp2_with fail
  clear hy
  obtain ⟨w205, hw205⟩ : ∃ w205, w204.alloc (.cells #[.int .i64 0, .int .i64 0] 43) = w205 := ⟨_, rfl⟩
  try rw [hw205]
  have hB : Below w204.heap.size w204 w205 := by rw [← hw205]; exact (Below.refl _ w204).alloc (by first | exact Nat.le_refl _ | (simp; done) | (simp; omega)) _
  have kp : w205.heap[w204.heap.size]? = some (.cells #[.int .i64 0, .int .i64 0] 43 (0, 0)) := by rw [← hw205]; exact al_new _ _ _ (by first | rfl | (simp; done) | (simp; omega))
  have p0 : w205.cell? ⟨w204.heap.size, 0, none⟩ = some (.int .i64 0) := blk_cell kp 0
  have p1 : w205.cell? ⟨w204.heap.size, 1, none⟩ = some (.int .i64 0) := blk_cell kp 1
  clear kp
  replace y0 := cell_on hB y0
  replace y1 := cell_on hB y1
  replace y2 := cell_on hB y2
  replace y3 := cell_on hB y3
  replace y4 := cell_on hB y4
  replace y5 := cell_on hB y5
  replace y6 := cell_on hB y6
  replace hv := hv.trans (hB.mono hv.size)
  clear hB hw205
  clear p0 p1
  refine (rc _).mono ?_
  rintro en w206 ⟨rfl, hB⟩
  replace y0 := cell_on hB y0
  replace y1 := cell_on hB y1
  replace y2 := cell_on hB y2
  replace y3 := cell_on hB y3
  replace y4 := cell_on hB y4
  replace y5 := cell_on hB y5
  replace y6 := cell_on hB y6
  replace hv := hv.trans (hB.mono hv.size)
  clear hB rc
  have hy := World.block_lt_of_cell? _ _ y0
  go_upto_region 38 with fail
  clear hy
  obtain ⟨w207, hw207⟩ : ∃ w207, w206.alloc (.cells #[.int .i64 1000000000000000, .int .i64 1000000000000000] 43) = w207 := ⟨_, rfl⟩
  try rw [hw207]
  have hB : Below w206.heap.size w206 w207 := by rw [← hw207]; exact (Below.refl _ w206).alloc (by first | exact Nat.le_refl _ | (simp; done) | (simp; omega)) _
  have kp : w207.heap[w206.heap.size]? = some (.cells #[.int .i64 1000000000000000, .int .i64 1000000000000000] 43 (0, 0)) := by rw [← hw207]; exact al_new _ _ _ (by first | rfl | (simp; done) | (simp; omega))
  have p0 : w207.cell? ⟨w206.heap.size, 0, none⟩ = some (.int .i64 1000000000000000) := blk_cell kp 0
  have p1 : w207.cell? ⟨w206.heap.size, 1, none⟩ = some (.int .i64 1000000000000000) := blk_cell kp 1
  clear kp
  replace y0 := cell_on hB y0
  replace y1 := cell_on hB y1
  replace y2 := cell_on hB y2
  replace y3 := cell_on hB y3
  replace y4 := cell_on hB y4
  replace y5 := cell_on hB y5
  replace y6 := cell_on hB y6
  replace hv := hv.trans (hB.mono hv.size)
  clear hB hw207
  go_upto_block 16 with fail
  clear p0 p1
  obtain ⟨i0, hi0, hz0, hz1, hz2⟩ := info_parts info46n
  have HSW := Aside0.mk hv.size
  have HYL := Aside0.mk (World.block_lt_of_cell? _ _ y0)
  go_wp2_with fail
  go_loopw [20, 21] (fun v20 v21 wr => ∃ (i : Nat) (vo : Value), i ≤ 240 ∧ v21 = .int .i64 i ∧ vo = v20 ∧ Aside0 (wr.ownsRow w207.heap.size 46 4 vo i (bcells (sL i)) ∧ Below w207.heap.size w207 wr)) (fun _ v21 _ => 240 - (intOf v21).toNat)
  case atStart => exact ⟨0, _, by omega, by simp, rfl, ⟨own_nil _ _ _ _, Below.refl _ _⟩⟩
  case round =>
    obtain ⟨i, vo, hi, rfl, rfl, HI⟩ := hrel
    by_cases hlt : i < 240
    · have hd1 : (i : Int) < 240 := by omega
      have hwi := C.wr ((i : Int) + 1) (by omega) (by omega)
      have e1 : (i : Int).tmod 16 = ((i % 16 : Nat) : Int) := by rw [Int.tmod_eq_emod_of_nonneg (by omega)]; omega
      have e2 : ((i : Int) + 1).tmod 16 = (((i + 1) % 16 : Nat) : Int) := by rw [Int.tmod_eq_emod_of_nonneg (by omega)]; omega
      obtain ⟨ra, hra⟩ : ∃ x, ((i % 16 : Nat) : Int) = x := ⟨_, rfl⟩
      obtain ⟨rb, hrb⟩ : ∃ x, (((i + 1) % 16 : Nat) : Int) = x := ⟨_, rfl⟩
      rw [hra] at e1
      rw [hrb] at e2
      have wra := C.wr ra (by omega) (by omega)
      have wrb := C.wr rb (by omega) (by omega)
      have wsu := C.wr (1000000000000000 - (i : Int)) (by omega) (by omega)
      have HT : Aside0 (bcells (sL (i + 1)) = bcells (sL i) ++ [.int .i64 ra, .int .i64 rb, .int .i64 (-1000000000000000), .int .i64 (1000000000000000 - (i : Int))]) := ⟨by rw [sL_succ, bcells_append]; unfold sB; rw [hra, hrb]; rfl⟩
      have hsz := HI.out.2.size
      have hown0 := HI.out.1
      have hownA : (wr.alloc (.cells #[.int .i64 ra, .int .i64 rb, .int .i64 (-1000000000000000), .int .i64 (1000000000000000 - (i : Int))] 46)).ownsRow w207.heap.size 46 4 vo i (bcells (sL i)) := own_move hown0 (fun k hk => Below.heap_alloc _ _ k (own_lt hown0 k hk))
      have HB0 := Aside0.mk HI.out.2
      clear HI hown0 hra hrb
      go_wp2_with (at_builtin; refine wpList_append_own _ rfl _ _ 25 rfl w207.heap.size 46 i0 (.agg #[.int .i64 0, .int .i64 0, .int .i64 0, .int .i64 0]) 4 32 Try.underlying25 hi0 hz0 hz1 hz2 rfl (by decide) vo i (bcells (sL i)) rfl hownA ⟨wr.heap.size, 0, none⟩ 1 1 [.int .i64 ra, .int .i64 rb, .int .i64 (-1000000000000000), .int .i64 (1000000000000000 - (i : Int))] rfl ?qc1 ?qc2 ?qc3 ?qc4 ?qc5 ?qc6 ?_)
      try (case qc1 => rfl)
      try (case qc2 => exact World.news_of_block (cs := #[.int .i64 ra, .int .i64 rb, .int .i64 (-1000000000000000), .int .i64 (1000000000000000 - (i : Int))]) (t := 46) (fr := (0, 0)) (al_new _ _ _ rfl))
      try (case qc3 => simp [Value.oneCell'])
      try (case qc4 => unfold maxLen; omega)
      try (case qc5 => omega)
      try (case qc6 => first | omega | (simp; omega))
      intro v2 wz hown2 hg2 hnil2
      have HN : Aside0 (wz.ownsRow w207.heap.size 46 4 v2 (i + 1) (bcells (sL (i + 1))) ∧ Below w207.heap.size w207 wz) := ⟨by
        rw [HT.out]; exact hown2, (HB0.out.alloc hsz _).grown hg2 (by simp; omega) (fun k e => own_base hownA k e)⟩
      clear hown2 hg2 hnil2 hownA HB0
      go_wp2
      go_roundw
      case rel => exact ⟨i + 1, _, by omega, by go_num, rfl, HN⟩
      case measure => simp [intOf]; omega
    · obtain rfl : i = 240 := by omega
      have hd1 : ¬ ((240 : Nat) : Int) < 240 := by omega
      replace y0 := cell_on HI.out.2 y0
      replace y1 := cell_on HI.out.2 y1
      replace y2 := cell_on HI.out.2 y2
      replace y3 := cell_on HI.out.2 y3
      replace y4 := cell_on HI.out.2 y4
      replace y5 := cell_on HI.out.2 y5
      replace y6 := cell_on HI.out.2 y6
      replace hv := hv.trans (HI.out.2.mono hv.size)
      have hown := HI.out.1
      obtain ⟨g, cap, rfl⟩ : ∃ g cap, vo = .slice (some ⟨g, 0, none⟩) 240 cap := by
        rcases hown.2 with ⟨_, h0⟩ | ⟨g, cap, cur, e, _⟩
        · omega
        · exact ⟨g, cap, e⟩
      have HOWN := Aside0.mk hown
      have hsz := HI.out.2.size
      have HSZ := Aside0.mk hsz
      have c11 := fun w hC => narrow_mx (some ⟨g, 0, none⟩) cap w hC
      have hC0 : Kd.C kb wr (some ⟨g, 0, none⟩) 240 (sL 240) := by
        obtain ⟨A', c', e, h⟩ := own_bounds (l := sL 240) (by rw [sL_len]; exact hown)
        rw [sL_len] at e h
        cases e
        exact h
      have HC0 := Aside0.mk hC0
      clear hown HI hC0 hi hlt hsz
      go_wp2_with fail
      refine (c11 _ HC0.out).mono ?_
      rintro en wn ⟨g2, cap2, base, rs, rfl, hrs, hM, hB⟩
      replace y0 := cell_on hB y0
      replace y1 := cell_on hB y1
      replace y2 := cell_on hB y2
      replace y3 := cell_on hB y3
      replace y4 := cell_on hB y4
      replace y5 := cell_on hB y5
      replace y6 := cell_on hB y6
      replace hv := hv.trans (hB.mono hv.size)
      have HM := Aside0.mk hM
      replace HOWN := Aside0.mk (own_keep HOWN.out hB)
      replace HSZ := Aside0.mk (Nat.le_trans HSZ.out hB.size)
      replace HC0 := Aside0.mk (Kd.C_below HC0.out hB)
      have HV := Aside0.mk hv
      clear hB hM c11 hv
      obtain ⟨_, e0, z0, z1, z2, z3⟩ := C_bd HC0.out 0 (by rw [sL_len]; omega) (by omega)
      cases e0
      have z0' : wn.cell? ⟨g, 0, none⟩ = some (.int .i64 0) := z0
      have z1' : wn.cell? ⟨g, 1, none⟩ = some (.int .i64 1) := z1
      have z2' : wn.cell? ⟨g, 2, none⟩ = some (.int .i64 (-1000000000000000)) := z2
      have z3' : wn.cell? ⟨g, 3, none⟩ = some (.int .i64 1000000000000000) := z3
      clear z0 z1 z2 z3
      have hgs := World.block_lt_of_cell? _ _ z0'
      have hownA : (wn.alloc (.cells #[.int .i64 0, .int .i64 1, .int .i64 (-1000000000000000), .int .i64 1000000000000000] 46)).ownsRow w207.heap.size 46 4 (.slice (some ⟨g, 0, none⟩) 240 cap) 240 (bcells (sL 240)) := own_move HOWN.out (fun k hk => Below.heap_alloc _ _ k (own_lt HOWN.out k hk))
      have hszn := HSZ.out
      go_wp2_with (at_builtin; refine wpList_append_own _ rfl _ _ 25 rfl w207.heap.size 46 i0 (.agg #[.int .i64 0, .int .i64 0, .int .i64 0, .int .i64 0]) 4 32 Try.underlying25 hi0 hz0 hz1 hz2 rfl (by decide) (.slice (some ⟨g, 0, none⟩) 240 cap) 240 (bcells (sL 240)) rfl hownA ⟨wn.heap.size, 0, none⟩ 1 1 [.int .i64 0, .int .i64 1, .int .i64 (-1000000000000000), .int .i64 1000000000000000] rfl ?qd1 ?qd2 ?qd3 ?qd4 ?qd5 ?qd6 ?_)
      try (case qd1 => rfl)
      try (case qd2 => exact World.news_of_block (cs := #[.int .i64 0, .int .i64 1, .int .i64 (-1000000000000000), .int .i64 1000000000000000]) (t := 46) (fr := (0, 0)) (al_new _ _ _ rfl))
      try (case qd3 => simp [Value.oneCell'])
      try (case qd4 => unfold maxLen; omega)
      try (case qd5 => omega)
      try (case qd6 => first | omega | (simp; omega))
      intro v2 wz hown2 hg2 hnil2
      obtain ⟨csg, hkg⟩ := own_typed HOWN.out g rfl
      have hlen : (sL 240 ++ [sB 0]).length = 241 := by rw [List.length_append, sL_len]; rfl
      have hownN : wz.ownsRow w207.heap.size 46 4 v2 (sL 240 ++ [sB 0]).length (bcells (sL 240 ++ [sB 0])) := by
        rw [hlen, bcells_append]; exact hown2
      obtain ⟨A4, c4, rfl, hC4⟩ := own_bounds hownN
      rw [hlen] at hC4 ⊢
      have hM2 := HM.out.move (X := wz) (fun k cs t hk ht => (hg2.block k (by have := (Array.getElem?_eq_some_iff.1 hk).1; simp; omega) (fun e => by cases e; rw [hkg] at hk; cases hk; exact ht rfl)).trans (Below.heap_alloc _ _ _ (Array.getElem?_eq_some_iff.1 hk).1))
      have hBz : Below w207.heap.size wn wz := ((Below.refl w207.heap.size wn).alloc hszn _).grown hg2 (by simp; omega) (fun k e => own_base hownA k e)
      replace y0 := (hBz.cell (show _ < _ from HYL.out)).trans y0
      replace y1 := (hBz.cell (show _ < _ from HYL.out)).trans y1
      replace y2 := (hBz.cell (show _ < _ from HYL.out)).trans y2
      replace y3 := (hBz.cell (show _ < _ from HYL.out)).trans y3
      replace y4 := (hBz.cell (show _ < _ from HYL.out)).trans y4
      replace y5 := (hBz.cell (show _ < _ from HYL.out)).trans y5
      replace y6 := (hBz.cell (show _ < _ from HYL.out)).trans y6
      have hv := HV.out.trans (hBz.mono HSW.out)
      have HM2 := Aside0.mk hM2
      have HC4 := Aside0.mk hC4
      have c11b := fun w hC => narrow_all 16 A4 c4 (sL 240 ++ [sB 0]) w hC
      simp only [sL_241.1, sL_241.2, hlen] at c11b
      clear hown2 hg2 hnil2 hkg hlen hownN hC4 hM2 hBz hownA hszn hgs z0' z1' z2' z3' HOWN HSZ HC0 HM HV
      go_wp2_with fail
      refine (c11b _ HC4.out).mono ?_
      rintro en wm ⟨A5, c5, rfl, _, hB⟩
      replace y0 := cell_on hB y0
      replace y1 := cell_on hB y1
      replace y2 := cell_on hB y2
      replace y3 := cell_on hB y3
      replace y4 := cell_on hB y4
      replace y5 := cell_on hB y5
      replace y6 := cell_on hB y6
      replace hv := hv.trans (hB.mono hv.size)
      replace HM2 := Aside0.mk (HM2.out.below hB)
      clear hB c11b HC4
      have c17 := fun w => contradict17 (some ⟨g, 0, none⟩) 240 cap w
      go_wp2_with fail
      refine (c17 _).mono ?_
      rintro en wq ⟨rfl, hB⟩
      replace y0 := cell_on hB y0
      replace y1 := cell_on hB y1
      replace y2 := cell_on hB y2
      replace y3 := cell_on hB y3
      replace y4 := cell_on hB y4
      replace y5 := cell_on hB y5
      replace y6 := cell_on hB y6
      replace hv := hv.trans (hB.mono hv.size)
      replace HM2 := Aside0.mk (HM2.out.below hB)
      clear hB c17
      have hys := World.block_lt_of_cell? _ _ y0
      go_wp2_with fail
      have hmk0 := print_make (P := Try.prog) 59 3 .i64 8 Try.underlying59 info3n (by decide) 2001 (by omega)
      have hZZ := toList_madeCells_one (Value.int .i64 0) 2001
      obtain ⟨ZZ, hZ⟩ : ∃ Z, madeCells #[Value.int .i64 0] 2001 = Z := ⟨_, rfl⟩
      rw [hZ] at hZZ
      have hmk : ∀ W : World, (Instr.makeSlice 59 (.int .i64 2001) (.int .i64 2001)).run Try.prog W = .ok (.slice (some ⟨W.heap.size, 0, none⟩) 2001 2001) (W.alloc (.cells ZZ 3)) := fun W => by have := hmk0 W; rw [hZ] at this; exact this
      have cU : ∀ (W : World) (gz : Nat), W.heap[gz]? = some (.cells ZZ 3 (0, 0)) → Calls Try.prog 22 #[.agg #[.int .i64 1000, .int .i64 0, .int .i64 0, .int .i64 1, .int .i64 2, .int .i64 1, .int .i64 0], .slice (some ⟨gz, 0, none⟩) 2001 2001, .int .i64 0] W fun e w' => ∃ A' c', e = .returned (.tuple #[.slice A' 0 c', .int .i64 2]) ∧ Below W.heap.size W w' := fun W gz h => by
        obtain ⟨LZ, hLZ⟩ : ∃ L : List Int, L = List.replicate 2001 0 := ⟨_, rfl⟩
        have hl : LZ.length = 2001 := by rw [hLZ]; exact List.length_replicate
        have hi : icells LZ = ZZ.toList := by rw [hLZ, hZZ]; exact List.map_replicate
        obtain ⟨A', c', e, hC⟩ := own_ints (l := LZ) (row_own (W := W) (g := gz) (e := 3) (size := 1) (n := LZ.length) (by rw [h, show (LZ.map fun x => Value.int .i64 x).toArray = ZZ from Array.ext' (by rw [List.toList_toArray]; exact hi)]) (by simp) (by unfold maxLen; omega))
        rw [hl] at e hC
        cases e
        have t := Unwrap_calls 1000 0 0 1 2 1 0 (some ⟨gz, 0, none⟩) 2001 LZ 0 W (by rw [hl]; exact hC)
        have hE : unwE 1000 0 0 1 2 1 0 LZ 0 = 2 := by unfold unwE; rw [if_pos (by decide), if_pos (by omega)]
        have hR : unwR 1000 0 0 1 2 1 0 LZ 0 = [] := by unfold unwR; rw [hE]; rfl
        rw [hE, hR, hl] at t
        refine Calls.mono t ?_
        rintro e w' ⟨A', c', rfl, _, hB⟩
        exact ⟨A', c', rfl, hB⟩
      clear hmk0 hZ
      have hS : ∀ w', Below wq.heap.size wq w' → ((w'.cell? ⟨wc.heap.size, 0, none⟩ = some (.int .i64 1000) ∧ w'.cell? ⟨wc.heap.size, 1, none⟩ = some (.int .i64 0) ∧ w'.cell? ⟨wc.heap.size, 2, none⟩ = some (.int .i64 0) ∧ w'.cell? ⟨wc.heap.size, 3, none⟩ = some (.int .i64 1) ∧ w'.cell? ⟨wc.heap.size, 4, none⟩ = some (.int .i64 2) ∧ w'.cell? ⟨wc.heap.size, 5, none⟩ = some (.int .i64 1) ∧ w'.cell? ⟨wc.heap.size, 6, none⟩ = some (.int .i64 0)) ∧ Below wq.heap.size wq w') := fun w' hB => ⟨⟨cell_on hB y0, cell_on hB y1, cell_on hB y2, cell_on hB y3, cell_on hB y4, cell_on hB y5, cell_on hB y6⟩, hB⟩
      go_region_held3 (fun w' => (w'.cell? ⟨wc.heap.size, 0, none⟩ = some (.int .i64 1000) ∧ w'.cell? ⟨wc.heap.size, 1, none⟩ = some (.int .i64 0) ∧ w'.cell? ⟨wc.heap.size, 2, none⟩ = some (.int .i64 0) ∧ w'.cell? ⟨wc.heap.size, 3, none⟩ = some (.int .i64 1) ∧ w'.cell? ⟨wc.heap.size, 4, none⟩ = some (.int .i64 2) ∧ w'.cell? ⟨wc.heap.size, 5, none⟩ = some (.int .i64 1) ∧ w'.cell? ⟨wc.heap.size, 6, none⟩ = some (.int .i64 0)) ∧ Below wq.heap.size wq w') (first | exact hS _ (Below.refl _ _).drew | assumption | exact hS _ ((Below.refl _ _).alloc (Nat.le_refl _) _) | exact hS _ (((Below.refl _ _).drew).alloc (Nat.le_refl _) _) | (have hh := ‹(_ ∧ _ ∧ _ ∧ _ ∧ _ ∧ _ ∧ _) ∧ Below wq.heap.size wq _›; exact hS _ (hh.2.trans (hB.mono hh.2.size))))
        (first | (go_at_call 22; refine (cU _ _ (by first | exact al_new _ _ _ (by rfl) | exact dr_heap (al_new _ _ _ (by rfl)))).mono ?_; rintro e w' ⟨A', c', rfl, hB⟩))
      rename_i hHeld
      have hBq := hHeld.2
      clear hB hHeld hS hmk hZZ
      rename World => wf
      have hM := HM2.out.below hBq
      have hvf := Aside0.mk (hv.trans (hBq.mono hv.size))
      obtain ⟨r, hr, m0, m1, _, _⟩ := hM.at hrs (a := 0) (by omega)
      have m2 := m1 1 (by omega)
      rw [sL_01] at m2
      clear m1 hM hv hBq HM2
      have caw := fun w => awake_calls w
      go_wp2_with fail
      refine (caw _).mono ?_
      rintro en we ⟨rfl, hB⟩
      have HE := Aside0.mk (hvf.out.trans (hB.mono hvf.out.size))
      clear hB
      go_wp2_with fail
      go_ret
      exact ⟨rfl, HE.out⟩
theorem counterSmall_w.calls (w : World) : Calls Try.prog 8 #[] w fun e w' => e = .returned (.bool true) ∧ Below w.heap.size w w' := small_calls w
end Go.Proofs.Ytjgnadighdbjlaa.C
end
