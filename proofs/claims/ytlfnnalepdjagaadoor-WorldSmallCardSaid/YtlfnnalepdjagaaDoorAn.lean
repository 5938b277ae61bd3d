/- The contract of still. -/
import Derived.OwnWalk
import Derived.BigRegion
import Derived.Deep.RegionHeld3
import Derived.Test.YtlfnnalepdjagaaDoorAm
namespace Go.Proofs.YtlfnnalepdjagaaDoor.C
open Go.RowKit Go.Shelf Go.Maps Go.Proofs.YtlfnnalepdjagaaDoorW.PrintWords Go.Proofs.YtlfnnalepdjagaaDoorW.PrintLast Go.Proofs.YtlfnnalepdjagaaDoorW.PrintMore
set_option linter.unusedVariables false
set_option linter.unusedSimpArgs false
set_option maxHeartbeats 4000000 in
set_option maxRecDepth 100000 in
theorem still_calls (x : Ck) (Ae : Option Addr) (ce : Nat) (seed : Int) (Ah : Option Addr) (chc : Nat) (vk : Value) (k s : Int) (chs : List T3) (i : Nat) (hi : i < chs.length) (w : World) (hxi : x.ch = i) (hC : Kd.C k3 w Ae x.es.length x.es) (hH : Kd.C k3 w Ah chs.length chs)
    (n : Nat) (hO : CkOk n x) (hE : EvOk x.es) (hc : ChOk chs[i]) (hs : 0 ≤ s ∧ s ≤ 1000000) :
    Calls Tryd.prog 51 #[wkV x Ae ce seed (.slice Ah chs.length chc) vk k, .int .i64 s] w fun e w' => e = .returned (.int .i64 (stillF x chs[i] s)) ∧ Below w.heap.size w w' := by
  obtain ⟨SF, hSF⟩ : ∃ v, stillF x chs[i] s = v := ⟨_, rfl⟩
  rw [hSF]
  have hb := rt_b hO
  have hph := hO.ph
  have hht := hO.ht
  have hkb := kick_b hE hs
  have hjb := jump_b hE (s := s)
  obtain ⟨kd, ph, rt, dr, wh, wk, ht, ch, es⟩ := x
  simp only at hxi hC hH hb hph hht hkb hjb hE ⊢
  subst hxi
  have hlm : es.length ≤ 9223372036854775807 := hC.2.1
  have hlh : chs.length ≤ 9223372036854775807 := hH.2.1
  have hfew := hE.few
  have hrs := rt_s hb.1 hs
  have hdb := drift_b hb.2.1 hs
  have HSF : Aside0 (SF = ph + jumpN es s es.length + (rt * s + kickN es s es.length + dr * (s * (s - 1) / 2) / 86400) / 1000 + ht * (warmF chs[i].1 chs[i].2.1 chs[i].2.2 s - warmF chs[i].1 chs[i].2.1 chs[i].2.2 0)) := ⟨by rw [← hSF]; rfl⟩
  clear hSF hO
  have hv := Below.refl w.heap.size w
  have HE := Aside0.mk hE
  have HC := Aside0.mk hC
  have HH := Aside0.mk hH
  have HK := Aside0.mk hkb
  have HJ := Aside0.mk hjb
  have HCO := Aside0.mk hc
  clear hE hC hH hkb hjb hc
  have u1 := wr (rt * s) (by omega) (by omega)
  go_enter Tryd.func51, Tryd.ntmps51
  go_wp2_with fail
  obtain ⟨w1, hw1⟩ : ∃ w1, w.alloc (.cells #[.int .i64 kd, .int .i64 ph, .int .i64 rt, .int .i64 dr, .int .i64 wh, .int .i64 wk, .int .i64 ht, .int .i64 (i : Int), .slice Ae es.length ce, .int .u64 seed, .slice Ah chs.length chc, vk, .int .i64 k] 97) = w1 := ⟨_, rfl⟩
  try rw [hw1]
  have hB : Below w.heap.size w w1 := by rw [← hw1]; exact (Below.refl _ w).alloc (by first | exact Nat.le_refl _ | (simp; done) | (simp; omega)) _
  have kx : w1.heap[w.heap.size]? = some (.cells #[.int .i64 kd, .int .i64 ph, .int .i64 rt, .int .i64 dr, .int .i64 wh, .int .i64 wk, .int .i64 ht, .int .i64 (i : Int), .slice Ae es.length ce, .int .u64 seed, .slice Ah chs.length chc, vk, .int .i64 k] 97 (0, 0)) := by rw [← hw1]; exact al_new _ _ _ (by first | rfl | (simp; done) | (simp; omega))
  have x0 : w1.cell? ⟨w.heap.size, 0, none⟩ = some (.int .i64 kd) := blk_cell kx 0
  have x1 : w1.cell? ⟨w.heap.size, 1, none⟩ = some (.int .i64 ph) := blk_cell kx 1
  have x2 : w1.cell? ⟨w.heap.size, 2, none⟩ = some (.int .i64 rt) := blk_cell kx 2
  have x3 : w1.cell? ⟨w.heap.size, 3, none⟩ = some (.int .i64 dr) := blk_cell kx 3
  have x4 : w1.cell? ⟨w.heap.size, 4, none⟩ = some (.int .i64 wh) := blk_cell kx 4
  have x5 : w1.cell? ⟨w.heap.size, 5, none⟩ = some (.int .i64 wk) := blk_cell kx 5
  have x6 : w1.cell? ⟨w.heap.size, 6, none⟩ = some (.int .i64 ht) := blk_cell kx 6
  have x7 : w1.cell? ⟨w.heap.size, 7, none⟩ = some (.int .i64 (i : Int)) := blk_cell kx 7
  have x8 : w1.cell? ⟨w.heap.size, 8, none⟩ = some (.slice Ae es.length ce) := blk_cell kx 8
  have x9 : w1.cell? ⟨w.heap.size, 9, none⟩ = some (.int .u64 seed) := blk_cell kx 9
  have x10 : w1.cell? ⟨w.heap.size, 10, none⟩ = some (.slice Ah chs.length chc) := blk_cell kx 10
  have x11 : w1.cell? ⟨w.heap.size, 11, none⟩ = some (vk) := blk_cell kx 11
  have x12 : w1.cell? ⟨w.heap.size, 12, none⟩ = some (.int .i64 k) := blk_cell kx 12
  clear kx
  replace hv := hv.trans (hB.mono hv.size)
  clear hB hw1
  have hs0 := World.block_lt_of_cell? _ _ x0
  go_wp2_with fail
  have hS : ∀ w', Below w1.heap.size w1 w' → ((w'.cell? ⟨w.heap.size, 1, none⟩ = some (.int .i64 ph) ∧ w'.cell? ⟨w.heap.size, 2, none⟩ = some (.int .i64 rt)) ∧ Below w1.heap.size w1 w') := fun w' hB => ⟨⟨cell_on hB x1, cell_on hB x2⟩, hB⟩
  go_region_held3 (fun w' => (w'.cell? ⟨w.heap.size, 1, none⟩ = some (.int .i64 ph) ∧ w'.cell? ⟨w.heap.size, 2, none⟩ = some (.int .i64 rt)) ∧ Below w1.heap.size w1 w') (first | exact hS _ (Below.refl _ _).drew | exact hS _ (Below.refl _ _) | assumption) (fail)
  rename_i hHeld
  have hB := hHeld.2
  clear hHeld hS
  rename World => w2
  replace x0 := cell_on hB x0
  replace x1 := cell_on hB x1
  replace x2 := cell_on hB x2
  replace x3 := cell_on hB x3
  replace x4 := cell_on hB x4
  replace x5 := cell_on hB x5
  replace x6 := cell_on hB x6
  replace x7 := cell_on hB x7
  replace x8 := cell_on hB x8
  replace x9 := cell_on hB x9
  replace x10 := cell_on hB x10
  replace x11 := cell_on hB x11
  replace x12 := cell_on hB x12
  replace hv := hv.trans (hB.mono hv.size)
  clear hB
  go_wp2_with fail
  have HV := Aside0.mk hv
  clear hv
  go_loopw [5, 6, 24] (fun v5 v6 v24 wr => ∃ j : Nat, j ≤ es.length ∧ v24 = .int .i64 j ∧ v5 = .int .i64 (rt * s + kickN es s j) ∧ v6 = .int .i64 (ph + jumpN es s j) ∧ Aside0 (Below w2.drew.heap.size w2.drew wr)) (fun _ _ v24 _ => es.length - (intOf v24).toNat)
  case atStart => exact ⟨0, by omega, by simp, by simp [kickN], by simp [jumpN], ⟨Below.refl _ _⟩⟩
  case round =>
    obtain ⟨j, hj, rfl, rfl, rfl, HI⟩ := hrel
    by_cases hlt : j < es.length
    · have hd : (j : Int) < (es.length : Int) := by omega
      have hj0 : (0 : Int) ≤ (j : Int) := by omega
      have hwj := C.wr ((j : Int) + 1) (by omega) (by omega)
      have HV2 : Aside0 (Below w.heap.size w wr) := ⟨HV.out.trans (HI.out.mono HV.out.size)⟩
      obtain ⟨ad, rfl, c0, c1, c2⟩ := C_3 (Kd.C_below HC.out HV2.out) j hlt hlt
      have hm := List.getElem_mem hlt
      have hwh := HE.out.what _ hm
      have hat := HE.out.when _ hm
      have hsz := HE.out.size _ hm
      have hKn : kickN es s (j + 1) = kickN es s j + if (es[j]).2.1 ≤ s ∧ (es[j]).1 = 2 then (es[j]).2.2 * (s - (es[j]).2.1) else 0 := by rw [kickN, getD_at hlt]
      have hJn : jumpN es s (j + 1) = jumpN es s j + if (es[j]).2.1 ≤ s ∧ (es[j]).1 = 1 then (es[j]).2.2 else 0 := by rw [jumpN, getD_at hlt]
      have hk1 := HK.out j (by omega)
      have hj1 := HJ.out j (by omega)
      have hk2 := HK.out (j + 1) (by omega)
      have hj2 := HJ.out (j + 1) (by omega)
      generalize es[j] = z at *
      obtain ⟨za, zb, zc⟩ := z
      simp only at c0 c1 c2 hwh hat hsz hKn hJn
      have hs1 := World.block_lt_of_cell? _ _ c0
      have hsb := sizeF_b za
      obtain ⟨KN, hKN⟩ : ∃ v, kickN es s j = v := ⟨_, rfl⟩
      obtain ⟨JN, hJN⟩ : ∃ v, jumpN es s j = v := ⟨_, rfl⟩
      rw [hKN] at hKn hk1 ⊢
      rw [hJN] at hJn hj1 ⊢
      clear hKN hJN hm
      by_cases hzs : zb ≤ s
      rotate_left
      · rw [if_neg (fun h => hzs h.1)] at hKn hJn
        have HKJ : Aside0 (kickN es s (j + 1) = KN ∧ jumpN es s (j + 1) = JN) := ⟨by omega, by omega⟩
        clear hKn hJn hk2 hj2
        go_wp2
        go_roundw
        case rel => exact ⟨j + 1, by omega, by go_num, by rw [HKJ.out.1], by rw [HKJ.out.2], ⟨HI.out.alloc HI.out.size _⟩⟩
        case measure => simp [intOf]; omega
      have hq : za = 1 ∨ za = 2 ∨ za = 3 ∨ za = 4 := by omega
      rcases hq with rfl | rfl | rfl | rfl
      · have c9 := fun W => stepped_calls 1 zb zc s W
        simp [hzs] at hKn hJn
        have HKJ : Aside0 (kickN es s (j + 1) = KN ∧ jumpN es s (j + 1) = JN + zc) := ⟨by rw [hKn]; try omega, by rw [hJn]; try omega⟩
        have v1 : -1000000000000000000 ≤ KN ∧ KN ≤ 1000000000000000000 := by rw [← HKJ.out.1]; omega
        have v2 : -1000000000000000000 ≤ JN + zc ∧ JN + zc ≤ 1000000000000000000 := by rw [← HKJ.out.2]; omega
        have u2 := C.wr (rt * s + KN) (by omega) (by omega)
        have u3 := C.wr (ph + JN + zc) (by omega) (by omega)
        clear hKn hJn hk2 hj2
        go_wp2_with fail
        obtain ⟨w1, hw1⟩ : ∃ w1, wr.alloc (.cells #[.int .i64 1, .int .i64 zb, .int .i64 zc] 51) = w1 := ⟨_, rfl⟩
        rw [hw1]
        have ka : w1.heap[wr.heap.size]? = some (.cells #[.int .i64 1, .int .i64 zb, .int .i64 zc] 51 (0, 0)) := by rw [← hw1]; exact al_new _ _ _ rfl
        have a0 : w1.cell? ⟨wr.heap.size, 0, none⟩ = some (.int .i64 1) := blk_cell ka 0
        have a1 : w1.cell? ⟨wr.heap.size, 1, none⟩ = some (.int .i64 zb) := blk_cell ka 1
        have a2 : w1.cell? ⟨wr.heap.size, 2, none⟩ = some (.int .i64 zc) := blk_cell ka 2
        have HI1 : Aside0 (Below w2.drew.heap.size w2.drew w1) := ⟨by rw [← hw1]; exact HI.out.alloc HI.out.size _⟩
        clear hw1 ka c0 c1 c2
        have hS : ∀ w', Below w1.heap.size w1 w' → ((w'.cell? ⟨wr.heap.size, 0, none⟩ = some (.int .i64 1) ∧ w'.cell? ⟨wr.heap.size, 1, none⟩ = some (.int .i64 zb) ∧ w'.cell? ⟨wr.heap.size, 2, none⟩ = some (.int .i64 zc)) ∧ Below w1.heap.size w1 w') := fun w' hB => ⟨⟨cell_on hB a0, cell_on hB a1, cell_on hB a2⟩, hB⟩
        go_region_held3 (fun w' => (w'.cell? ⟨wr.heap.size, 0, none⟩ = some (.int .i64 1) ∧ w'.cell? ⟨wr.heap.size, 1, none⟩ = some (.int .i64 zb) ∧ w'.cell? ⟨wr.heap.size, 2, none⟩ = some (.int .i64 zc)) ∧ Below w1.heap.size w1 w') (first | exact hS _ (Below.refl _ _).drew | assumption | (have hh := ‹(_ ∧ _ ∧ _) ∧ Below w1.heap.size w1 _›; exact hS _ (hh.2.trans (hB.mono hh.2.size))))
          (first | (go_at_call 77; refine (effects_calls _).mono ?_; rintro e w' ⟨BM, rfl, hlk, hB⟩; have hlq : (Instr.lookup 127 (.map (some BM)) (.int .i64 1) false).run Tryd.prog w' = .ok (.func (.func 84) #[] #[]) w' := hlk 1 (by decide) (by decide); clear hlk) | (go_at_call 84; refine (c9 _).mono ?_; rintro e w' ⟨rfl, hB⟩))
        rename_i hHeld
        have HI2 := hHeld.2
        clear hHeld hS c9 a0 a1 a2
        rename World => w4
        go_wp2
        go_roundw
        case rel => exact ⟨j + 1, by omega, by go_num, by simp [HKJ.out.1, Int.add_assoc], by simp [HKJ.out.2, Int.add_assoc], ⟨HI1.out.trans (HI2.mono HI1.out.size)⟩⟩
        case measure => simp [intOf]; omega
      · have c9 := fun W => kicked_calls 2 zb zc s W (by omega) (by simp [sizeF] at hsz; omega) (by omega) (by omega)
        simp [hzs] at hKn hJn
        have HKJ : Aside0 (kickN es s (j + 1) = KN + zc * (s - zb) ∧ jumpN es s (j + 1) = JN) := ⟨by rw [hKn]; try omega, by rw [hJn]; try omega⟩
        have v1 : -1000000000000000000 ≤ KN + zc * (s - zb) ∧ KN + zc * (s - zb) ≤ 1000000000000000000 := by rw [← HKJ.out.1]; omega
        have v2 : -1000000000000000000 ≤ JN ∧ JN ≤ 1000000000000000000 := by rw [← HKJ.out.2]; omega
        have u2 := C.wr (rt * s + KN + zc * (s - zb)) (by omega) (by omega)
        have u3 := C.wr (ph + JN) (by omega) (by omega)
        clear hKn hJn hk2 hj2
        go_wp2_with fail
        obtain ⟨w1, hw1⟩ : ∃ w1, wr.alloc (.cells #[.int .i64 2, .int .i64 zb, .int .i64 zc] 51) = w1 := ⟨_, rfl⟩
        rw [hw1]
        have ka : w1.heap[wr.heap.size]? = some (.cells #[.int .i64 2, .int .i64 zb, .int .i64 zc] 51 (0, 0)) := by rw [← hw1]; exact al_new _ _ _ rfl
        have a0 : w1.cell? ⟨wr.heap.size, 0, none⟩ = some (.int .i64 2) := blk_cell ka 0
        have a1 : w1.cell? ⟨wr.heap.size, 1, none⟩ = some (.int .i64 zb) := blk_cell ka 1
        have a2 : w1.cell? ⟨wr.heap.size, 2, none⟩ = some (.int .i64 zc) := blk_cell ka 2
        have HI1 : Aside0 (Below w2.drew.heap.size w2.drew w1) := ⟨by rw [← hw1]; exact HI.out.alloc HI.out.size _⟩
        clear hw1 ka c0 c1 c2
        have hS : ∀ w', Below w1.heap.size w1 w' → ((w'.cell? ⟨wr.heap.size, 0, none⟩ = some (.int .i64 2) ∧ w'.cell? ⟨wr.heap.size, 1, none⟩ = some (.int .i64 zb) ∧ w'.cell? ⟨wr.heap.size, 2, none⟩ = some (.int .i64 zc)) ∧ Below w1.heap.size w1 w') := fun w' hB => ⟨⟨cell_on hB a0, cell_on hB a1, cell_on hB a2⟩, hB⟩
        go_region_held3 (fun w' => (w'.cell? ⟨wr.heap.size, 0, none⟩ = some (.int .i64 2) ∧ w'.cell? ⟨wr.heap.size, 1, none⟩ = some (.int .i64 zb) ∧ w'.cell? ⟨wr.heap.size, 2, none⟩ = some (.int .i64 zc)) ∧ Below w1.heap.size w1 w') (first | exact hS _ (Below.refl _ _).drew | assumption | (have hh := ‹(_ ∧ _ ∧ _) ∧ Below w1.heap.size w1 _›; exact hS _ (hh.2.trans (hB.mono hh.2.size))))
          (first | (go_at_call 77; refine (effects_calls _).mono ?_; rintro e w' ⟨BM, rfl, hlk, hB⟩; have hlq : (Instr.lookup 127 (.map (some BM)) (.int .i64 2) false).run Tryd.prog w' = .ok (.func (.func 83) #[] #[]) w' := hlk 2 (by decide) (by decide); clear hlk) | (go_at_call 83; refine (c9 _).mono ?_; rintro e w' ⟨rfl, hB⟩))
        rename_i hHeld
        have HI2 := hHeld.2
        clear hHeld hS c9 a0 a1 a2
        rename World => w4
        go_wp2
        go_roundw
        case rel => exact ⟨j + 1, by omega, by go_num, by simp [HKJ.out.1, Int.add_assoc], by simp [HKJ.out.2, Int.add_assoc], ⟨HI1.out.trans (HI2.mono HI1.out.size)⟩⟩
        case measure => simp [intOf]; omega
      · have c9 := fun W => nothing_calls 3 zb zc s W
        simp [hzs] at hKn hJn
        have HKJ : Aside0 (kickN es s (j + 1) = KN ∧ jumpN es s (j + 1) = JN) := ⟨by rw [hKn]; try omega, by rw [hJn]; try omega⟩
        have v1 : -1000000000000000000 ≤ KN ∧ KN ≤ 1000000000000000000 := by rw [← HKJ.out.1]; omega
        have v2 : -1000000000000000000 ≤ JN ∧ JN ≤ 1000000000000000000 := by rw [← HKJ.out.2]; omega
        have u2 := C.wr (rt * s + KN) (by omega) (by omega)
        have u3 := C.wr (ph + JN) (by omega) (by omega)
        clear hKn hJn hk2 hj2
        go_wp2_with fail
        obtain ⟨w1, hw1⟩ : ∃ w1, wr.alloc (.cells #[.int .i64 3, .int .i64 zb, .int .i64 zc] 51) = w1 := ⟨_, rfl⟩
        rw [hw1]
        have ka : w1.heap[wr.heap.size]? = some (.cells #[.int .i64 3, .int .i64 zb, .int .i64 zc] 51 (0, 0)) := by rw [← hw1]; exact al_new _ _ _ rfl
        have a0 : w1.cell? ⟨wr.heap.size, 0, none⟩ = some (.int .i64 3) := blk_cell ka 0
        have a1 : w1.cell? ⟨wr.heap.size, 1, none⟩ = some (.int .i64 zb) := blk_cell ka 1
        have a2 : w1.cell? ⟨wr.heap.size, 2, none⟩ = some (.int .i64 zc) := blk_cell ka 2
        have HI1 : Aside0 (Below w2.drew.heap.size w2.drew w1) := ⟨by rw [← hw1]; exact HI.out.alloc HI.out.size _⟩
        clear hw1 ka c0 c1 c2
        have hS : ∀ w', Below w1.heap.size w1 w' → ((w'.cell? ⟨wr.heap.size, 0, none⟩ = some (.int .i64 3) ∧ w'.cell? ⟨wr.heap.size, 1, none⟩ = some (.int .i64 zb) ∧ w'.cell? ⟨wr.heap.size, 2, none⟩ = some (.int .i64 zc)) ∧ Below w1.heap.size w1 w') := fun w' hB => ⟨⟨cell_on hB a0, cell_on hB a1, cell_on hB a2⟩, hB⟩
        go_region_held3 (fun w' => (w'.cell? ⟨wr.heap.size, 0, none⟩ = some (.int .i64 3) ∧ w'.cell? ⟨wr.heap.size, 1, none⟩ = some (.int .i64 zb) ∧ w'.cell? ⟨wr.heap.size, 2, none⟩ = some (.int .i64 zc)) ∧ Below w1.heap.size w1 w') (first | exact hS _ (Below.refl _ _).drew | assumption | (have hh := ‹(_ ∧ _ ∧ _) ∧ Below w1.heap.size w1 _›; exact hS _ (hh.2.trans (hB.mono hh.2.size))))
          (first | (go_at_call 77; refine (effects_calls _).mono ?_; rintro e w' ⟨BM, rfl, hlk, hB⟩; have hlq : (Instr.lookup 127 (.map (some BM)) (.int .i64 3) false).run Tryd.prog w' = .ok (.func (.func 85) #[] #[]) w' := hlk 3 (by decide) (by decide); clear hlk) | (go_at_call 85; refine (c9 _).mono ?_; rintro e w' ⟨rfl, hB⟩))
        rename_i hHeld
        have HI2 := hHeld.2
        clear hHeld hS c9 a0 a1 a2
        rename World => w4
        go_wp2
        go_roundw
        case rel => exact ⟨j + 1, by omega, by go_num, by simp [HKJ.out.1, Int.add_assoc], by simp [HKJ.out.2, Int.add_assoc], ⟨HI1.out.trans (HI2.mono HI1.out.size)⟩⟩
        case measure => simp [intOf]; omega
      · have c9 := fun W => nothing_calls 4 zb zc s W
        simp [hzs] at hKn hJn
        have HKJ : Aside0 (kickN es s (j + 1) = KN ∧ jumpN es s (j + 1) = JN) := ⟨by rw [hKn]; try omega, by rw [hJn]; try omega⟩
        have v1 : -1000000000000000000 ≤ KN ∧ KN ≤ 1000000000000000000 := by rw [← HKJ.out.1]; omega
        have v2 : -1000000000000000000 ≤ JN ∧ JN ≤ 1000000000000000000 := by rw [← HKJ.out.2]; omega
        have u2 := C.wr (rt * s + KN) (by omega) (by omega)
        have u3 := C.wr (ph + JN) (by omega) (by omega)
        clear hKn hJn hk2 hj2
        go_wp2_with fail
        obtain ⟨w1, hw1⟩ : ∃ w1, wr.alloc (.cells #[.int .i64 4, .int .i64 zb, .int .i64 zc] 51) = w1 := ⟨_, rfl⟩
        rw [hw1]
        have ka : w1.heap[wr.heap.size]? = some (.cells #[.int .i64 4, .int .i64 zb, .int .i64 zc] 51 (0, 0)) := by rw [← hw1]; exact al_new _ _ _ rfl
        have a0 : w1.cell? ⟨wr.heap.size, 0, none⟩ = some (.int .i64 4) := blk_cell ka 0
        have a1 : w1.cell? ⟨wr.heap.size, 1, none⟩ = some (.int .i64 zb) := blk_cell ka 1
        have a2 : w1.cell? ⟨wr.heap.size, 2, none⟩ = some (.int .i64 zc) := blk_cell ka 2
        have HI1 : Aside0 (Below w2.drew.heap.size w2.drew w1) := ⟨by rw [← hw1]; exact HI.out.alloc HI.out.size _⟩
        clear hw1 ka c0 c1 c2
        have hS : ∀ w', Below w1.heap.size w1 w' → ((w'.cell? ⟨wr.heap.size, 0, none⟩ = some (.int .i64 4) ∧ w'.cell? ⟨wr.heap.size, 1, none⟩ = some (.int .i64 zb) ∧ w'.cell? ⟨wr.heap.size, 2, none⟩ = some (.int .i64 zc)) ∧ Below w1.heap.size w1 w') := fun w' hB => ⟨⟨cell_on hB a0, cell_on hB a1, cell_on hB a2⟩, hB⟩
        go_region_held3 (fun w' => (w'.cell? ⟨wr.heap.size, 0, none⟩ = some (.int .i64 4) ∧ w'.cell? ⟨wr.heap.size, 1, none⟩ = some (.int .i64 zb) ∧ w'.cell? ⟨wr.heap.size, 2, none⟩ = some (.int .i64 zc)) ∧ Below w1.heap.size w1 w') (first | exact hS _ (Below.refl _ _).drew | assumption | (have hh := ‹(_ ∧ _ ∧ _) ∧ Below w1.heap.size w1 _›; exact hS _ (hh.2.trans (hB.mono hh.2.size))))
          (first | (go_at_call 77; refine (effects_calls _).mono ?_; rintro e w' ⟨BM, rfl, hlk, hB⟩; have hlq : (Instr.lookup 127 (.map (some BM)) (.int .i64 4) false).run Tryd.prog w' = .ok (.func (.func 85) #[] #[]) w' := hlk 4 (by decide) (by decide); clear hlk) | (go_at_call 85; refine (c9 _).mono ?_; rintro e w' ⟨rfl, hB⟩))
        rename_i hHeld
        have HI2 := hHeld.2
        clear hHeld hS c9 a0 a1 a2
        rename World => w4
        go_wp2
        go_roundw
        case rel => exact ⟨j + 1, by omega, by go_num, by simp [HKJ.out.1, Int.add_assoc], by simp [HKJ.out.2, Int.add_assoc], ⟨HI1.out.trans (HI2.mono HI1.out.size)⟩⟩
        case measure => simp [intOf]; omega
    · obtain rfl : j = es.length := by omega
      have hd : ¬ (es.length : Int) < (es.length : Int) := by omega
      have hk1 := HK.out es.length (by omega)
      have hj1 := HJ.out es.length (by omega)
      obtain ⟨KN, hKN⟩ : ∃ v, kickN es s es.length = v := ⟨_, rfl⟩
      obtain ⟨JN, hJN⟩ : ∃ v, jumpN es s es.length = v := ⟨_, rfl⟩
      rw [hKN] at HSF hk1 ⊢
      rw [hJN] at HSF hj1 ⊢
      clear hKN hJN HK HJ HE
      have hv : Below w.heap.size w wr := HV.out.trans (HI.out.mono HV.out.size)
      obtain ⟨adh, rfl, h0, h1, h2⟩ := C_3 (Kd.C_below HH.out hv) i hi hi
      have hCO := HCO.out
      replace x0 := cell_on HI.out x0
      replace x1 := cell_on HI.out x1
      replace x2 := cell_on HI.out x2
      replace x3 := cell_on HI.out x3
      replace x4 := cell_on HI.out x4
      replace x5 := cell_on HI.out x5
      replace x6 := cell_on HI.out x6
      replace x7 := cell_on HI.out x7
      replace x8 := cell_on HI.out x8
      replace x9 := cell_on HI.out x9
      replace x10 := cell_on HI.out x10
      replace x11 := cell_on HI.out x11
      replace x12 := cell_on HI.out x12
      clear HI HV HC HH HCO
      generalize chs[i] = z at *
      obtain ⟨za, zb, zc⟩ := z
      simp only at h0 h1 h2 hCO HSF
      have q1 := hCO.b
      have q2 := hCO.s
      have q3 := hCO.p
      simp only at q1 q2 q3
      clear hCO
      have cs := fun W => at_calls za zb zc s W q1 q2 q3 hs
      have cz := fun W => at_calls za zb zc 0 W q1 q2 q3 (by omega)
      have r1 := warm_range q1 q2 q3 hs.1
      have r2 := warm_range q1 q2 q3 (Int.le_refl 0)
      obtain ⟨W1, hW1⟩ : ∃ v, warmF za zb zc s = v := ⟨_, rfl⟩
      obtain ⟨W0, hW0⟩ : ∃ v, warmF za zb zc 0 = v := ⟨_, rfl⟩
      rw [hW1] at cs r1 HSF
      rw [hW0] at cz r2 HSF
      clear hW1 hW0
      have hht2 := ht_b (h := ht) (t := W1 - W0) hht (by omega)
      obtain ⟨HT, hHT⟩ : ∃ v, ht * (W1 - W0) = v := ⟨_, rfl⟩
      rw [hHT] at HSF hht2
      have tq := Int.tdiv_eq_ediv_of_nonneg (a := s * (s - 1)) hdb.1.1 (b := 2)
      obtain ⟨P2, hP2⟩ : ∃ v, s * (s - 1) = v := ⟨_, rfl⟩
      rw [hP2] at tq HSF hdb
      obtain ⟨Q2, hQ2⟩ : ∃ v, P2 / 2 = v := ⟨_, rfl⟩
      rw [hQ2] at tq HSF hdb
      obtain ⟨DQ, hDQ⟩ : ∃ v, dr * Q2 = v := ⟨_, rfl⟩
      rw [hDQ] at HSF hdb
      have cd := fun W => floor_calls DQ 86400 W (by omega) (by omega)
      obtain ⟨D, hD⟩ : ∃ v, DQ / 86400 = v := ⟨_, rfl⟩
      have hDb : -100000000000000 ≤ D ∧ D ≤ 100000000000000 := by omega
      rw [hD] at cd HSF
      obtain ⟨RS, hRS⟩ : ∃ v, rt * s = v := ⟨_, rfl⟩
      rw [hRS] at HSF hrs u1 ⊢
      have v1 := C.wr (s - 1) (by omega) (by omega)
      have v2 := C.wr P2 (by omega) (by omega)
      have v3 := C.wr Q2 (by omega) (by omega)
      have v4 := C.wr DQ (by omega) (by omega)
      have v5 := C.wr (RS + KN + D) (by omega) (by omega)
      have c3 := fun W => floor_calls (RS + KN + D) 1000 W (by omega) (by omega)
      obtain ⟨R3, hR3⟩ : ∃ v, (RS + KN + D) / 1000 = v := ⟨_, rfl⟩
      have hR3b : -1000000000000000 ≤ R3 ∧ R3 ≤ 1000000000000000 := by omega
      rw [hR3] at c3 HSF
      have v6 := C.wr (ph + JN + R3) (by omega) (by omega)
      have v7 := C.wr (W1 - W0) (by omega) (by omega)
      have v8 := C.wr HT (by omega) (by omega)
      have v9 := C.wr (ph + JN + R3 + HT) (by omega) (by omega)
      have hlen : (i : Int) < (chs.length : Int) := by omega
      have hi0 : (0 : Int) ≤ (i : Int) := by omega
      have hs2 := World.block_lt_of_cell? _ _ h0
      clear hR3 hD hQ2 hk1 hj1 hdb hDb hR3b hrs hht2 r1 r2
      go_wp2_with fail
      refine (cd _).mono ?_
      rintro en w7 ⟨rfl, hB⟩
      replace x0 := cell_on hB x0
      replace x1 := cell_on hB x1
      replace x2 := cell_on hB x2
      replace x3 := cell_on hB x3
      replace x4 := cell_on hB x4
      replace x5 := cell_on hB x5
      replace x6 := cell_on hB x6
      replace x7 := cell_on hB x7
      replace x8 := cell_on hB x8
      replace x9 := cell_on hB x9
      replace x10 := cell_on hB x10
      replace x11 := cell_on hB x11
      replace x12 := cell_on hB x12
      replace h0 := cell_on hB h0
      replace h1 := cell_on hB h1
      replace h2 := cell_on hB h2
      replace hv := hv.trans (hB.mono hv.size)
      clear hB cd
      go_wp2_with fail
      obtain ⟨w8, hw8⟩ : ∃ w8, w7.alloc (.cells #[.int .i64 za, .int .i64 zb, .int .i64 zc] 53) = w8 := ⟨_, rfl⟩
      try rw [hw8]
      have hB : Below w7.heap.size w7 w8 := by rw [← hw8]; exact (Below.refl _ w7).alloc (by first | exact Nat.le_refl _ | (simp; done) | (simp; omega)) _
      have ky : w8.heap[w7.heap.size]? = some (.cells #[.int .i64 za, .int .i64 zb, .int .i64 zc] 53 (0, 0)) := by rw [← hw8]; exact al_new _ _ _ (by first | rfl | (simp; done) | (simp; omega))
      have y0 : w8.cell? ⟨w7.heap.size, 0, none⟩ = some (.int .i64 za) := blk_cell ky 0
      have y1 : w8.cell? ⟨w7.heap.size, 1, none⟩ = some (.int .i64 zb) := blk_cell ky 1
      have y2 : w8.cell? ⟨w7.heap.size, 2, none⟩ = some (.int .i64 zc) := blk_cell ky 2
      clear ky
      replace x0 := cell_on hB x0
      replace x1 := cell_on hB x1
      replace x2 := cell_on hB x2
      replace x3 := cell_on hB x3
      replace x4 := cell_on hB x4
      replace x5 := cell_on hB x5
      replace x6 := cell_on hB x6
      replace x7 := cell_on hB x7
      replace x8 := cell_on hB x8
      replace x9 := cell_on hB x9
      replace x10 := cell_on hB x10
      replace x11 := cell_on hB x11
      replace x12 := cell_on hB x12
      replace h0 := cell_on hB h0
      replace h1 := cell_on hB h1
      replace h2 := cell_on hB h2
      replace hv := hv.trans (hB.mono hv.size)
      clear hB hw8
      skip
      clear x0 x1 x2 x3 x4 x5 x7 x8 x9 x10 x11 x12 h0 h1 h2 u1 v1 v2 v3 v4 v5
      have hS : ∀ w', Below w8.heap.size w8 w' → ((w'.cell? ⟨w.heap.size, 6, none⟩ = some (.int .i64 ht) ∧ w'.cell? ⟨w7.heap.size, 0, none⟩ = some (.int .i64 za) ∧ w'.cell? ⟨w7.heap.size, 1, none⟩ = some (.int .i64 zb) ∧ w'.cell? ⟨w7.heap.size, 2, none⟩ = some (.int .i64 zc)) ∧ Below w8.heap.size w8 w') := fun w' hB => ⟨⟨cell_on hB x6, cell_on hB y0, cell_on hB y1, cell_on hB y2⟩, hB⟩
      go_region_held3 (fun w' => (w'.cell? ⟨w.heap.size, 6, none⟩ = some (.int .i64 ht) ∧ w'.cell? ⟨w7.heap.size, 0, none⟩ = some (.int .i64 za) ∧ w'.cell? ⟨w7.heap.size, 1, none⟩ = some (.int .i64 zb) ∧ w'.cell? ⟨w7.heap.size, 2, none⟩ = some (.int .i64 zc)) ∧ Below w8.heap.size w8 w') (first | exact hS _ (Below.refl _ _).drew | assumption | (have hh := ‹(_ ∧ _ ∧ _ ∧ _) ∧ Below w8.heap.size w8 _›; exact hS _ (hh.2.trans (hB.mono hh.2.size))))
        (first | (go_at_call 76; with_reducible refine (c3 _).mono ?_; rintro e w' ⟨rfl, hB⟩) | (go_at_call 58; with_reducible refine (cs _).mono ?_; rintro e w' ⟨rfl, hB⟩) | (go_at_call 58; with_reducible refine (cz _).mono ?_; rintro e w' ⟨rfl, hB⟩))
      rename_i hHeld
      have hB := hHeld.2
      clear hHeld hS
      go_wp2
      go_ret
      exact ⟨by rw [HSF.out]; rfl, hv.trans (hB.mono hv.size)⟩
end Go.Proofs.YtlfnnalepdjagaaDoor.C
