/- WorldSmall: the law's walk. -/
import Derived.OwnWalk
import Derived.BigRegion
import Derived.WalkKit
import Derived.Deep.CutBlock
import Derived.Deep.RegionHeld3
import Derived.Test.YtlfnnalepdjagaaDoorCt
import Derived.Test.YtlfnnalepdjagaaDoorBe
import Derived.Test.YtlfnnalepdjagaaDoorCr
namespace Go.Proofs.YtlfnnalepdjagaaDoor.C
open Go.RowKit Go.Shelf Go.Maps Go.Proofs.YtlfnnalepdjagaaDoorW.PrintWords Go.Proofs.YtlfnnalepdjagaaDoorW.PrintLast Go.Proofs.YtlfnnalepdjagaaDoorW.PrintMore
set_option linter.unusedVariables false
set_option linter.unusedSimpArgs false
def valsL : List Int := [0, 1, 2, 4, 5, 8, 100, 101, 1000, 1001, 10000, 10001, 100000, 100001, 1000000, 1000001, 10000000, 10000001, 1000000000, 1000000001, 10000000000, 10000000001, 1000000000000, 1000000000001, 10000000000000, 10000000000001, 100000000000000, 100000000000001]
theorem valsL_lim : ∀ i : Fin 28, 0 ≤ valsL.getD i.val 0 ∧ valsL.getD i.val 0 ≤ 100000000000001 := by decide
def valsA : Array Value := #[.int .i64 0, .int .i64 1, .int .i64 2, .int .i64 4, .int .i64 5, .int .i64 8, .int .i64 100, .int .i64 101, .int .i64 1000, .int .i64 1001, .int .i64 10000, .int .i64 10001, .int .i64 100000, .int .i64 100001, .int .i64 1000000, .int .i64 1000001, .int .i64 10000000, .int .i64 10000001, .int .i64 1000000000, .int .i64 1000000001, .int .i64 10000000000, .int .i64 10000000001, .int .i64 1000000000000, .int .i64 1000000000001, .int .i64 10000000000000, .int .i64 10000000000001, .int .i64 100000000000000, .int .i64 100000000000001]
theorem valsA_at (i : Nat) (hi : i < 28) : valsA[i]? = some (.int .i64 (valsL.getD i 0)) := by
  have h : ∀ l : List Int, ∀ j : Nat, j < l.length → (l.map (Value.int .i64))[j]? = some (.int .i64 (l.getD j 0)) := fun l j hj => by simp [List.getD_eq_getElem?_getD, hj]
  have h2 := h valsL i hi
  rw [← List.getElem?_toArray] at h2
  exact h2
theorem vals_cell {w : World} {B : Nat} (h : w.heap[B]? = some (.cells valsA 3 (0, 0))) (i : Nat) (hi : i < 28) : ∃ v : Int, w.cell? ⟨B, i, none⟩ = some (.int .i64 v) ∧ 0 ≤ v ∧ v ≤ 100000000000001 :=
  ⟨valsL.getD i 0, by
    have h1 := valsA_at i hi
    simp [World.cell?, h, h1], valsL_lim ⟨i, hi⟩⟩
theorem set_calls (n v kd : Int) (w : World) (b P Bh Bk Be : Nat) (hM : SetMem w P Bh Bk Be kd) (hn : 0 ≤ n ∧ n ≤ 13) (hv9 : -200000000000000 ≤ v ∧ v ≤ 200000000000000) (hb : b ≤ Bh ∧ b ≤ Bk ∧ b ≤ Be ∧ b ≤ w.heap.size) (hne : P ≠ Bh ∧ P ≠ Bk ∧ P ≠ Be ∧ Bh ≠ Bk ∧ Bh ≠ Be ∧ Bk ≠ Be) :
    Calls Tryd.prog 43 #[.pointer (some ⟨P, 0, none⟩), .int .i64 n, .int .i64 v] w fun e w' => (∃ r, e = .returned r) ∧ SetDone w w' b P Bh Bk := by
  by_cases h : n = 13
  · subst h; exact set_events v kd w b P Bh Bk Be hM hb hne
  · exact set_small n v kd w b P Bh Bk Be hM ⟨hn.1, by omega⟩ hv9 hb hne
def secL : List Int := [-1, 0, 1, 499999, 500000, 1000000, 1000001]
theorem secL_lim : ∀ i : Fin 7, -9223372036854775808 ≤ secL.getD i.val 0 ∧ secL.getD i.val 0 ≤ 9223372036854775807 := by decide
def secA : Array Value := #[.int .i64 (-1), .int .i64 0, .int .i64 1, .int .i64 499999, .int .i64 500000, .int .i64 1000000, .int .i64 1000001]
theorem secA_at (i : Nat) (hi : i < 7) : secA[i]? = some (.int .i64 (secL.getD i 0)) := by
  have h : ∀ l : List Int, ∀ j : Nat, j < l.length → (l.map (Value.int .i64))[j]? = some (.int .i64 (l.getD j 0)) := fun l j hj => by simp [List.getD_eq_getElem?_getD, hj]
  have h2 := h secL i hi
  rw [← List.getElem?_toArray] at h2
  exact h2
theorem sec_cell {w : World} {B : Nat} (h : w.heap[B]? = some (.cells secA 3 (0, 0))) (i : Nat) (hi : i < 7) : ∃ v : Int, w.cell? ⟨B, i, none⟩ = some (.int .i64 v) ∧ -9223372036854775808 ≤ v ∧ v ≤ 9223372036854775807 :=
  ⟨secL.getD i 0, by
    have h1 := secA_at i hi
    simp [World.cell?, h, h1], secL_lim ⟨i, hi⟩⟩
/-- The memory while the eight events are laid. -/
structure EvE (b : Nat) (w : World) (B : Nat) (p r d h : Int) (wi : World) (i : Nat) (ve : Value) (es : List T3) : Prop where
  bel : Below b w wi
  k : wi.heap[B]? = some (.cells #[.int .i64 5, .int .i64 p, .int .i64 r, .int .i64 d, .int .i64 1000000000000, .int .i64 1000000000, .int .i64 h, .int .i64 0, ve] 88 (0, 0))
  own : wi.ownsRow b 90 3 ve i (tcells es)
  len : es.length = i
  lim : ∀ ev ∈ es, -9223372036854775808 ≤ ev.1 ∧ ev.1 ≤ 9223372036854775807
  ap : ve.ownBlock ≠ some B
theorem EvE.next {b : Nat} {w wi w1 : World} {B : Nat} {p r d h : Int} {i : Nat} {ve v' : Value} {es : List T3} (H : EvE b w B p r d h wi i ve es) (o o2 : Obj) (c : T3) (hb : b ≤ B)
    (hc : -9223372036854775808 ≤ c.1 ∧ c.1 ≤ 9223372036854775807) (hown : w1.ownsRow b 90 3 v' (i + 1) (tcells es ++ t3c c)) (hg : ((wi.alloc o).alloc o2).grownBy w1 ve.ownBlock) (hat : v'.ownBlock = ve.ownBlock ∨ v'.ownBlock = some ((wi.alloc o).alloc o2).heap.size) (hw : b ≤ w.heap.size) :
    w1.heap[B]? = some (.cells #[.int .i64 5, .int .i64 p, .int .i64 r, .int .i64 d, .int .i64 1000000000000, .int .i64 1000000000, .int .i64 h, .int .i64 0, ve] 88 (0, 0)) ∧ EvE b w B p r d h (w1.setCell ⟨B, 8, none⟩ v') (i + 1) v' (es ++ [c]) := by
  have h0 := H.bel.size
  have h1 := blk_lt H.k
  have ek : w1.heap[B]? = some (.cells #[.int .i64 5, .int .i64 p, .int .i64 r, .int .i64 d, .int .i64 1000000000000, .int .i64 1000000000, .int .i64 h, .int .i64 0, ve] 88 (0, 0)) := by
    refine (hg.block B (by simp; omega) (fun e => H.ap e.symm)).trans ?_
    exact al_old (al_old H.k)
  have hbel1 : Below b w w1 := ((H.bel.alloc (by omega) _).alloc (by simp; omega) _).grown hg (by simp; omega) (fun k hk => own_base H.own k hk)
  have hap : v'.ownBlock ≠ some B := by
    rcases hat with e | e
    · rw [e]; exact H.ap
    · rw [e]; intro h; injection h with h; simp at h; omega
  refine ⟨ek, hbel1.setCell (by simp; omega) _, blk_put ek 8 _ rfl, ?_, by simp [H.len], ?_, hap⟩
  · rw [tcells_app, show tcells [c] = t3c c by simp [tcells, pcells]]
    refine own_move hown (fun k hk => Below.heap_setCell _ _ _ k ?_)
    simp
    exact fun h => hap (h ▸ hk)
  · intro ev hev
    rw [List.mem_append] at hev
    rcases hev with h | h
    · exact H.lim ev h
    · rw [List.mem_singleton] at h; subst h; exact hc
set_option maxHeartbeats 4000000 in
set_option maxRecDepth 100000 in
theorem worldSmall_main (w : World) (hL : Lim w) :
    Calls Tryd.prog 9 #[] w fun e w' => e = .returned (.bool true) ∧ Below w.heap.size w w' := by
  have aw := fun W (hB : Below w.heap.size w W) => awake_calls W (hL.below hB)
  have HL := Aside0.mk hL
  have HV := Aside0.mk (Below.refl w.heap.size w)
  clear hL
  go_enter Tryd.func9, Tryd.ntmps9
  go_upto_block 0 with fail
  go_wp2
  go_loopw [1] (fun v wr => ∃ i : Nat, i ≤ 9 ∧ v = .int .i64 ((i : Int) - 1) ∧ Aside0 (Below w.heap.size w wr)) (fun v _ => (9 - intOf v).toNat)
  case atStart => exact ⟨0, by omega, by go_num, HV⟩
  case round =>
    obtain ⟨i, hi, rfl, HB⟩ := hrel
    clear HV
    by_cases h1 : ((i : Int) - 1) < 8
    · go_upto_block 2 with fail
      go_wp2
      go_loopw [2] (fun v wr => ∃ n : Nat, n ≤ 14 ∧ v = .int .i64 n ∧ Aside0 (Below w.heap.size w wr)) (fun v _ => (15 - intOf v).toNat)
      case atStart => exact ⟨0, by omega, by go_num, HB⟩
      case round =>
        obtain ⟨n, hn, rfl, HB⟩ := hrel
        by_cases h2 : (n : Int) < 14
        · go_upto_block 4 with fail
          have HV := Aside0.mk (al_new wr (.cells valsA 3 (0, 0)) _ rfl)
          have HB1 := Aside0.mk (HB.out.alloc HB.out.size (.cells valsA 3 (0, 0)))
          generalize hW : wr.alloc (.cells valsA 3 (0, 0)) = W1 at *
          unfold valsA at hW
          go_wp2
          rw [hW]
          have HS := Aside0.mk (HB.out.alloc HB.out.size (.cells valsA 3 (0, 0))).size
          go_loopw [24] (fun v wq => ∃ j : Nat, j ≤ 28 ∧ v = .int .i64 j ∧ Aside0 (Below W1.heap.size W1 wq)) (fun v _ => (28 - intOf v).toNat)
          case atStart => exact ⟨0, by omega, by go_num, ⟨Below.refl _ _⟩⟩
          case round =>
            obtain ⟨j, hj, rfl, HQ⟩ := hrel
            rename World => wq
            by_cases h3 : (j : Int) < 28
            · obtain ⟨x, hx, hx0, hx1⟩ := vals_cell (blk_on HQ.out HV.out) j (by omega)
              go_upto_block 6 with fail
              clear hx
              go_wp2
              go_loopw [5] (fun v wt => ∃ t : Nat, t ≤ 2 ∧ v = .int .i64 (2 * (t : Int) - 1) ∧ Aside0 (Below W1.heap.size W1 wt)) (fun v _ => (3 - intOf v).toNat)
              case atStart => exact ⟨0, by omega, by go_num, HQ⟩
              case round =>
                obtain ⟨t, ht, rfl, HT⟩ := hrel
                rename World => wt
                by_cases h4 : (2 * (t : Int) - 1) < 2
                · have hv9 : -200000000000000 ≤ wrap64 (x * (2 * (t : Int) - 1)) ∧ wrap64 (x * (2 * (t : Int) - 1)) ≤ 200000000000000 := by
                    have ht1 : t = 0 ∨ t = 1 := by omega
                    rcases ht1 with rfl | rfl
                    · rw [show x * (2 * ((0 : Nat) : Int) - 1) = -x by omega, Go.IntWalk.wrap64_in _ (by omega)]; omega
                    · rw [show x * (2 * ((1 : Nat) : Int) - 1) = x by omega, Go.IntWalk.wrap64_in _ (by omega)]; omega
                  have HV9 := Aside0.mk hv9
                  clear hv9
                  go_wp2_with fail
                  have hBt := HT.out.size
                  refine (set_calls _ _ ((i : Int) - 1) _ wt.heap.size (wt.heap.size + 1 + 1 + 1) wt.heap.size (wt.heap.size + 1 + 1) (wt.heap.size + 1) ⟨al_new _ _ _ (by simp), al_old (al_old (al_old (al_new _ _ _ rfl))), al_old (al_new _ _ _ (by simp)), al_old (al_old (al_new _ _ _ (by simp)))⟩ (by omega) HV9.out (by simp; omega) (by omega)).mono ?_
                  rintro e w5 ⟨⟨r, rfl⟩, ⟨ch, c1, hWA, hlen, hlim⟩, hp, hBs⟩
                  have hB5 : Below wt.heap.size wt w5 := (((((Below.refl _ wt).alloc (Nat.le_refl _) _).alloc (by simp) _).alloc (by simp; omega) _).alloc (by simp; omega) _).trans hBs
                  have hB1 : Below W1.heap.size W1 w5 := HT.out.trans (hB5.mono hBt)
                  have hL5 : Lim w5 := HL.out.below (HB1.out.trans (hB1.mono HB1.out.size))
                  have HT5 := Aside0.mk hB1
                  obtain ⟨cks, hck⟩ : ∃ l, [⟨1, 0, 0, 0, 0, 0, 0, 0, []⟩, c1] = l := ⟨_, rfl⟩
                  have hl2 : cks.length = 2 := by rw [← hck]; rfl
                  have he40 : ∀ x ∈ cks, x.es.length ≤ 40 := by rw [← hck]; intro x hx; simp at hx; rcases hx with rfl | rfl <;> simp [hlen]
                  have hwf : WfK cks := by rw [← hck]; intro x hx; simp at hx; rcases hx with rfl | rfl; (intro ev hev; cases hev); exact hlim
                  rw [hck] at hWA
                  obtain ⟨chs, hch⟩ : ∃ l, [ch] = l := ⟨_, rfl⟩
                  have hl1 : chs.length = 1 := by rw [← hch]; rfl
                  rw [hch] at hWA
                  have c12 := fun W (hB : Below w5.heap.size w5 W) => Own_calls 0 (some ⟨wt.heap.size, 0, none⟩) 1 (some ⟨wt.heap.size + 1 + 1, 0, none⟩) 2 chs cks W (hWA.below hB) (by omega) (by omega) he40
                  have c25 := fun W (hB : Below w5.heap.size w5 W) => rCheck_calls 0 (some ⟨wt.heap.size, 0, none⟩) 1 (some ⟨wt.heap.size + 1 + 1, 0, none⟩) 2 chs cks W (hWA.below hB)
                  have c24 := fun A1 k1 A2 k2 W (hB : Below w5.heap.size w5 W) (hA : WAt 51 W A1 A2 chs cks) => Check_calls 0 A1 k1 A2 k2 chs cks W (hL5.below hB) hA hwf
                  rw [hl1, hl2] at c12 c25
                  simp only [hl1, hl2] at c24
                  generalize checkW chs cks = CW at *
                  have hS : ∀ w', Below w5.heap.size w5 w' → ((w'.cell? ⟨wt.heap.size + 1 + 1 + 1, 0, none⟩ = some (.int .u64 0) ∧ w'.cell? ⟨wt.heap.size + 1 + 1 + 1, 1, none⟩ = some (.slice (some ⟨wt.heap.size, 0, none⟩) 1 1) ∧ w'.cell? ⟨wt.heap.size + 1 + 1 + 1, 2, none⟩ = some (.slice (some ⟨wt.heap.size + 1 + 1, 0, none⟩) 2 2)) ∧ Below w5.heap.size w5 w') := fun w' h => ⟨⟨cell_on h (blk_cell hp 0), cell_on h (blk_cell hp 1), cell_on h (blk_cell hp 2)⟩, h⟩
                  have x0 : w5.cell? ⟨wt.heap.size + 1 + 1 + 1, 0, none⟩ = some (.int .u64 0) := blk_cell hp 0
                  have x1 : w5.cell? ⟨wt.heap.size + 1 + 1 + 1, 1, none⟩ = some (.slice (some ⟨wt.heap.size, 0, none⟩) 1 1) := blk_cell hp 1
                  have x2 : w5.cell? ⟨wt.heap.size + 1 + 1 + 1, 2, none⟩ = some (.slice (some ⟨wt.heap.size + 1 + 1, 0, none⟩) 2 2) := blk_cell hp 2
                  clear hck hch hl1 hl2 he40 hwf hlen hlim hWA hB5 hB1 hL5 hBs hp hBt HV9
                  go_wp2_with fail
                  go_region_held3 (fun w' => (w'.cell? ⟨wt.heap.size + 1 + 1 + 1, 0, none⟩ = some (.int .u64 0) ∧ w'.cell? ⟨wt.heap.size + 1 + 1 + 1, 1, none⟩ = some (.slice (some ⟨wt.heap.size, 0, none⟩) 1 1) ∧ w'.cell? ⟨wt.heap.size + 1 + 1 + 1, 2, none⟩ = some (.slice (some ⟨wt.heap.size + 1 + 1, 0, none⟩) 2 2)) ∧ Below w5.heap.size w5 w') (first | exact hS _ (Below.refl _ _).drew | assumption | (have hh := ‹(_ ∧ _ ∧ _) ∧ Below w5.heap.size w5 _›; exact hS _ (hh.2.trans (hB.mono hh.2.size))))
                    (first | (go_at_call 12; (first | (have hh := ‹(_ ∧ _ ∧ _) ∧ Below w5.heap.size w5 _›; with_reducible refine (c12 _ hh.2).mono ?_) | with_reducible refine (c12 _ (Below.refl _ _).drew).mono ?_ | with_reducible refine (c12 _ (Below.refl _ _)).mono ?_); rintro e w' ⟨A1, k1, A2, k2, rfl, hA, hB⟩) | (go_at_call 24; (first | (have hh := ‹(_ ∧ _ ∧ _) ∧ Below w5.heap.size w5 _›; with_reducible refine (c24 _ _ _ _ _ hh.2 hA).mono ?_)); rintro e w' ⟨rfl, hB⟩) | (go_at_call 25; (first | (have hh := ‹(_ ∧ _ ∧ _) ∧ Below w5.heap.size w5 _›; with_reducible refine (c25 _ hh.2).mono ?_) | with_reducible refine (c25 _ (Below.refl _ _).drew).mono ?_ | with_reducible refine (c25 _ (Below.refl _ _)).mono ?_); rintro e w' ⟨rfl, hB⟩))
                  rename_i hHeld
                  rename World => w8
                  have HF := Aside0.mk (HT5.out.trans (hHeld.2.mono HT5.out.size))
                  clear hHeld hS c24 c25 c12 x0 x1 x2 hA hB
                  go_wp2
                  go_roundw
                  case rel => exact ⟨t + 1, by omega, by go_num, HF⟩
                  case measure => simp [intOf]; omega
                · go_wp2
                  go_roundw
                  case rel => exact ⟨j + 1, by omega, by go_num, HT⟩
                  case measure => simp [intOf]; omega
            · go_wp2
              go_roundw
              case rel => exact ⟨n + 1, by omega, by go_num, ⟨HB1.out.trans (HQ.out.mono HB1.out.size)⟩⟩
              case measure => simp [intOf]; omega
        · go_wp2
          go_roundw
          case rel => exact ⟨i + 1, by omega, by go_num, HB⟩
          case measure => simp [intOf]; omega
    · have hi9 : (i : Int) - 1 = 8 := by omega
      rw [hi9]
      clear h1 hi hi9
      go_upto_block 8 with fail
      go_wp2
      go_loopw [7] (fun v wr => ∃ i : Nat, i ≤ 2 ∧ v = .int .i64 (2 * (i : Int) - 1) ∧ Aside0 (Below w.heap.size w wr)) (fun v _ => (3 - intOf v).toNat)
      case atStart => exact ⟨0, by omega, by go_num, HB⟩
      case round =>
        obtain ⟨i, hi, rfl, HB⟩ := hrel
        by_cases h1 : (2 * (i : Int) - 1) < 2
        · go_upto_block 10 with fail
          go_wp2_with fail
          obtain ⟨p0, hp0⟩ : ∃ x, 100000000000000 * (2 * (i : Int) - 1) = x := ⟨_, rfl⟩
          obtain ⟨r0, hr0⟩ : ∃ x, 10000000000 * (2 * (i : Int) - 1) = x := ⟨_, rfl⟩
          obtain ⟨d0, hd0⟩ : ∃ x, 10000000 * (2 * (i : Int) - 1) = x := ⟨_, rfl⟩
          obtain ⟨h0, hh0⟩ : ∃ x, 1000000000 * (2 * (i : Int) - 1) = x := ⟨_, rfl⟩
          rw [hp0, hr0, hd0, hh0]
          clear hp0 hr0 hd0 hh0
          have HE : Aside0 (EvE w.heap.size w wr.heap.size p0 r0 d0 h0 (wr.alloc (.cells #[.int .i64 5, .int .i64 p0, .int .i64 r0, .int .i64 d0, .int .i64 1000000000000, .int .i64 1000000000, .int .i64 h0, .int .i64 0, .slice none 0 0] 88)) 0 (.slice none 0 0) []) := ⟨⟨HB.out.alloc HB.out.size _, al_new _ _ _ (by simp), ⟨by simp [tcells, pcells], .inl ⟨rfl, rfl⟩⟩, rfl, (fun ev hev => by cases hev), by simp [Value.ownBlock]⟩⟩
          have HS0 := Aside0.mk HB.out.size
          generalize wr.alloc (.cells #[.int .i64 5, .int .i64 p0, .int .i64 r0, .int .i64 d0, .int .i64 1000000000000, .int .i64 1000000000, .int .i64 h0, .int .i64 0, .slice none 0 0] 88) = wE at HE ⊢
          generalize wr.heap.size = B at HE HS0 ⊢
          clear HB
          go_loopw [9] (fun v wq => ∃ (n : Nat) (ve : Value) (es : List T3), n ≤ 8 ∧ v = .int .i64 n ∧ Aside0 (EvE w.heap.size w B p0 r0 d0 h0 wq n ve es)) (fun v _ => 8 - (intOf v).toNat)
          case atStart => exact ⟨0, _, _, by omega, rfl, HE⟩
          case round =>
            obtain ⟨n, ve, es, hn, rfl, HI⟩ := hrel
            clear HE
            have k8 : wr.cell? ⟨B, 8, none⟩ = some ve := blk_cell HI.out.k 8
            by_cases h3 : (n : Int) < 8
            · go_upto_block 11 with fail
              have hm : (n : Int) % 2 = 0 ∨ (n : Int) % 2 = 1 := by omega
              obtain ⟨i9, hi9, hi90, hi91, hi92⟩ := info_parts info90n
              rcases hm with hm | hm
              · have NX := fun (w1 : World) (v' : Value) => EvE.next (w1 := w1) (v' := v') HI.out (.cells #[.int .i64 10000000000000, .int .i64 10000000000] 3) (.cells (t3c (1, 1 + (n : Int), 10000000000000 * (2 * (i : Int) - 1))).toArray 90) (1, 1 + (n : Int), 10000000000000 * (2 * (i : Int) - 1)) HS0.out
                have NX9 := Aside0.mk NX
                have hownD : ((wr.alloc (.cells #[.int .i64 10000000000000, .int .i64 10000000000] 3)).alloc (.cells (t3c (1, 1 + (n : Int), 10000000000000 * (2 * (i : Int) - 1))).toArray 90)).ownsRow w.heap.size 90 3 ve n (tcells es) := own_move HI.out.own (fun k hk => by
                  have hlt := own_lt HI.out.own k hk
                  refine (Below.heap_alloc _ _ k ?_).trans (Below.heap_alloc _ _ k hlt)
                  simp; omega)
                have HOD := Aside0.mk hownD
                have HWS := Aside0.mk HI.out.bel.size
                clear NX hownD
                go_wp2_with (at_builtin; refine wpList_append_own_at _ rfl _ _ 86 rfl w.heap.size 90 i9 (.agg #[.int .i64 0, .int .i64 0, .int .i64 0]) 3 24 Tryd.underlying86 hi9 hi90 hi91 hi92 rfl (by decide) _ _ _ rfl HOD.out ⟨wr.heap.size + 1, 0, none⟩ 1 1 (t3c (1, 1 + (n : Int), 10000000000000 * (2 * (i : Int) - 1))) rfl ?qe1 ?qe2 ?qe3 ?qe4 ?qe5 ?qe6 ?_)
                case qe1 => rfl
                case qe2 => first | exact fun j u h => h | exact World.news_of_block (cs := #[.int .i64 1, .int .i64 (1 + (n : Int)), .int .i64 (10000000000000 * (2 * (i : Int) - 1))]) (t := 90) (fr := (0, 0)) (al_new _ _ _ (by first | rfl | (simp; done) | (simp; omega)))
                case qe3 => simp [t3c, Value.oneCell']
                case qe4 => unfold maxLen; omega
                case qe5 => omega
                case qe6 => have := HWS.out; simp; omega
                intro v' w1 hown1 hgrow1 hnil1 hat1
                obtain ⟨kk, HI1⟩ := NX9.out w1 v' ⟨by simp, by simp⟩ hown1 hgrow1 (by simpa using hat1) (Nat.le_refl _)
                have HI2 := Aside0.mk HI1
                have q8 : w1.cell? ⟨B, 8, none⟩ = some ve := blk_cell kk 8
                have qf := blk_frozen kk 8
                obtain ⟨Av, cv, rfl⟩ := own_form hown1
                clear HI1 kk hown1 hgrow1 hnil1 hat1 NX9 HOD HI k8
                go_wp2
                go_roundw
                case rel => exact ⟨n + 1, _, _, by omega, by go_num, HI2⟩
                case measure => simp [intOf]; omega
              · have NX := fun (w1 : World) (v' : Value) => EvE.next (w1 := w1) (v' := v') HI.out (.cells #[.int .i64 10000000000000, .int .i64 10000000000] 3) (.cells (t3c (2, 1 + (n : Int), 10000000000 * (2 * (i : Int) - 1))).toArray 90) (2, 1 + (n : Int), 10000000000 * (2 * (i : Int) - 1)) HS0.out
                have NX9 := Aside0.mk NX
                have hownD : ((wr.alloc (.cells #[.int .i64 10000000000000, .int .i64 10000000000] 3)).alloc (.cells (t3c (2, 1 + (n : Int), 10000000000 * (2 * (i : Int) - 1))).toArray 90)).ownsRow w.heap.size 90 3 ve n (tcells es) := own_move HI.out.own (fun k hk => by
                  have hlt := own_lt HI.out.own k hk
                  refine (Below.heap_alloc _ _ k ?_).trans (Below.heap_alloc _ _ k hlt)
                  simp; omega)
                have HOD := Aside0.mk hownD
                have HWS := Aside0.mk HI.out.bel.size
                clear NX hownD
                go_wp2_with (at_builtin; refine wpList_append_own_at _ rfl _ _ 86 rfl w.heap.size 90 i9 (.agg #[.int .i64 0, .int .i64 0, .int .i64 0]) 3 24 Tryd.underlying86 hi9 hi90 hi91 hi92 rfl (by decide) _ _ _ rfl HOD.out ⟨wr.heap.size + 1, 0, none⟩ 1 1 (t3c (2, 1 + (n : Int), 10000000000 * (2 * (i : Int) - 1))) rfl ?qe1 ?qe2 ?qe3 ?qe4 ?qe5 ?qe6 ?_)
                case qe1 => rfl
                case qe2 => first | exact fun j u h => h | exact World.news_of_block (cs := #[.int .i64 2, .int .i64 (1 + (n : Int)), .int .i64 (10000000000 * (2 * (i : Int) - 1))]) (t := 90) (fr := (0, 0)) (al_new _ _ _ (by first | rfl | (simp; done) | (simp; omega)))
                case qe3 => simp [t3c, Value.oneCell']
                case qe4 => unfold maxLen; omega
                case qe5 => omega
                case qe6 => have := HWS.out; simp; omega
                intro v' w1 hown1 hgrow1 hnil1 hat1
                obtain ⟨kk, HI1⟩ := NX9.out w1 v' ⟨by simp, by simp⟩ hown1 hgrow1 (by simpa using hat1) (Nat.le_refl _)
                have HI2 := Aside0.mk HI1
                have q8 : w1.cell? ⟨B, 8, none⟩ = some ve := blk_cell kk 8
                have qf := blk_frozen kk 8
                obtain ⟨Av, cv, rfl⟩ := own_form hown1
                clear HI1 kk hown1 hgrow1 hnil1 hat1 NX9 HOD HI k8
                go_wp2
                go_roundw
                case rel => exact ⟨n + 1, _, _, by omega, by go_num, HI2⟩
                case measure => simp [intOf]; omega
            · have hn8 : (n : Int) = 8 := by omega
              rw [hn8]
              clear hn8
              have ho := HI.out.own
              rw [← HI.out.len] at ho
              obtain ⟨A, c, rfl, hle, hC⟩ := own_T ho
              clear ho
              have hBlt : B < wr.heap.size := blk_lt HI.out.k
              have kc0 : wr.cell? ⟨B, 0, none⟩ = some _ := blk_cell HI.out.k 0
              have kc1 : wr.cell? ⟨B, 1, none⟩ = some _ := blk_cell HI.out.k 1
              have kc2 : wr.cell? ⟨B, 2, none⟩ = some _ := blk_cell HI.out.k 2
              have kc3 : wr.cell? ⟨B, 3, none⟩ = some _ := blk_cell HI.out.k 3
              have kc4 : wr.cell? ⟨B, 4, none⟩ = some _ := blk_cell HI.out.k 4
              have kc5 : wr.cell? ⟨B, 5, none⟩ = some _ := blk_cell HI.out.k 5
              have kc6 : wr.cell? ⟨B, 6, none⟩ = some _ := blk_cell HI.out.k 6
              have kc7 : wr.cell? ⟨B, 7, none⟩ = some _ := blk_cell HI.out.k 7
              have kc8 : wr.cell? ⟨B, 8, none⟩ = some _ := blk_cell HI.out.k 8
              have HC := Aside0.mk hC
              have HLE := Aside0.mk hle
              clear h3 hn k8 hC hle
              go_wp2_with fail
              obtain ⟨w4, hw4⟩ : ∃ x, (((wr.alloc (.cells #[.int .i64 7, .int .i64 100000, .int .i64 1000000] 85)).alloc (.cells #[.int .i64 5, .int .i64 p0, .int .i64 r0, .int .i64 d0, .int .i64 1000000000000, .int .i64 1000000000, .int .i64 h0, .int .i64 0, .slice A es.length c] 88)).alloc (.cells #[.int .u64 99, .slice (some ⟨wr.heap.size, 0, none⟩) 1 1, .slice (some ⟨wr.heap.size + 1, 0, none⟩) 1 1] 26)).alloc (.cells secA 3) = x := ⟨_, rfl⟩
              have hB4 : Below wr.heap.size wr w4 := by rw [← hw4]; exact (((((Below.refl _ wr).alloc (Nat.le_refl _) _).alloc (by simp) _).alloc (by simp; omega) _).alloc (by simp; omega) _)
              have ks : w4.heap[wr.heap.size + 1 + 1 + 1]? = some (.cells secA 3 (0, 0)) := by rw [← hw4]; exact al_new _ _ _ (by first | rfl | (simp; done) | (simp; omega))
              have kw : w4.heap[wr.heap.size + 1 + 1]? = some (.cells #[.int .u64 99, .slice (some ⟨wr.heap.size, 0, none⟩) 1 1, .slice (some ⟨wr.heap.size + 1, 0, none⟩) 1 1] 26 (0, 0)) := by rw [← hw4]; exact al_old (al_new _ _ _ (by first | rfl | (simp; done) | (simp; omega)))
              have kk : w4.heap[wr.heap.size + 1]? = some (.cells #[.int .i64 5, .int .i64 p0, .int .i64 r0, .int .i64 d0, .int .i64 1000000000000, .int .i64 1000000000, .int .i64 h0, .int .i64 0, .slice A es.length c] 88 (0, 0)) := by rw [← hw4]; exact al_old (al_old (al_new _ _ _ (by first | rfl | (simp; done) | (simp; omega))))
              have kh : w4.heap[wr.heap.size]? = some (.cells #[.int .i64 7, .int .i64 100000, .int .i64 1000000] 85 (0, 0)) := by rw [← hw4]; exact al_old (al_old (al_old (al_new _ _ _ (by first | rfl | (simp; done) | (simp; omega)))))
              unfold secA at hw4
              rw [hw4]
              clear hw4 kc0 kc1 kc2 kc3 kc4 kc5 kc6 kc7 kc8
              have hWA : WAt 90 w4 (some ⟨wr.heap.size, 0, none⟩) (some ⟨wr.heap.size + 1, 0, none⟩) [(7, 100000, 1000000)] [⟨5, p0, r0, d0, 1000000000000, 1000000000, h0, 0, es⟩] := by
                refine ⟨?_, ?_⟩
                · exact blk_C k3 ([((7, 100000, 1000000), [.int .i64 7, .int .i64 100000, .int .i64 1000000])] : List (T3 × List Value)) kh (by simp; rfl) (fun y hy => by simp at hy; subst hy; exact k3_mk _ (7, 100000, 1000000)) (by simp)
                · exact blk_C (kck 90) ([(⟨5, p0, r0, d0, 1000000000000, 1000000000, h0, 0, es⟩, [.int .i64 5, .int .i64 p0, .int .i64 r0, .int .i64 d0, .int .i64 1000000000000, .int .i64 1000000000, .int .i64 h0, .int .i64 0, .slice A es.length c])] : List (Ck × List Value)) kk (fun z hz => by simp at hz; subst hz; rfl) (fun z hz => by
                    simp at hz
                    subst hz
                    exact ck_K ⟨5, p0, r0, d0, 1000000000000, 1000000000, h0, 0, es⟩ A c HLE.out (Kd.C_below HC.out hB4)) (by simp)
              have hB5 : Below w.heap.size w w4 := HI.out.bel.trans (hB4.mono HI.out.bel.size)
              have hL4 : Lim w4 := HL.out.below hB5
              have HB5 := Aside0.mk hB5
              obtain ⟨cks, hck⟩ : ∃ l : List Ck, [⟨5, p0, r0, d0, 1000000000000, 1000000000, h0, 0, es⟩] = l := ⟨_, rfl⟩
              have hl2 : cks.length = 1 := by rw [← hck]; rfl
              have hwf : WfK cks := by rw [← hck]; intro x hx; simp at hx; subst hx; exact HI.out.lim
              rw [hck] at hWA
              obtain ⟨chs, hch⟩ : ∃ l : List T3, [(7, 100000, 1000000)] = l := ⟨_, rfl⟩
              have hl1 : chs.length = 1 := by rw [← hch]; rfl
              rw [hch] at hWA
              have c6 := fun (s : Int) W (hB : Below w4.heap.size w4 W) => worldShows_main 99 (some ⟨wr.heap.size, 0, none⟩) 1 (some ⟨wr.heap.size + 1, 0, none⟩) 1 chs cks 0 s W (hL4.below hB) (hWA.below hB) hwf
              have c8 := fun (s : Int) (hs : -9223372036854775808 ≤ s ∧ s ≤ 9223372036854775807) W (hB : Below w4.heap.size w4 W) => worldTracks_main 99 (some ⟨wr.heap.size, 0, none⟩) 1 (some ⟨wr.heap.size + 1, 0, none⟩) 1 chs cks 0 s 500000 2 s 5 W (hL4.below hB) (hWA.below hB) hwf (by omega) hs (by omega) (by omega) hs (by omega)
              rw [hl1, hl2] at c6 c8
              have C6 := Aside0.mk c6
              have C8 := Aside0.mk c8
              have KS := Aside0.mk ks
              have KW := Aside0.mk kw
              have hQ0 := Aside0.mk (Below.refl w4.heap.size w4)
              clear hck hch hl1 hl2 hwf hWA hL4 hB5 c6 c8 ks kw kk kh hB4 HC HLE
              go_loopw [96] (fun v wq => ∃ j : Nat, j ≤ 7 ∧ v = .int .i64 j ∧ Aside0 (Below w4.heap.size w4 wq)) (fun v _ => (7 - intOf v).toNat)
              case atStart => exact ⟨0, by omega, by go_num, hQ0⟩
              case round =>
                obtain ⟨j, hj, rfl, HQ⟩ := hrel
                rename World => wq
                by_cases h5 : (j : Int) < 7
                · obtain ⟨s, hs, hs0, hs1⟩ := sec_cell (blk_on HQ.out KS.out) j (by omega)
                  have x0 := blk_cell (blk_on HQ.out KW.out) 0
                  have x1 := blk_cell (blk_on HQ.out KW.out) 1
                  have x2 := blk_cell (blk_on HQ.out KW.out) 2
                  go_wp2_with fail
                  refine (C6.out s _ HQ.out).mono ?_
                  rintro e w6 ⟨rfl, hB6⟩
                  replace x0 := cell_on hB6 x0
                  replace x1 := cell_on hB6 x1
                  replace x2 := cell_on hB6 x2
                  have HQ6 := Aside0.mk (HQ.out.trans (hB6.mono HQ.out.size))
                  clear hB6 hs
                  go_wp2_with fail
                  refine (C8.out s ⟨hs0, hs1⟩ _ HQ6.out).mono ?_
                  rintro e w8 ⟨rfl, hB8⟩
                  have HQ8 := Aside0.mk (HQ6.out.trans (hB8.mono HQ6.out.size))
                  clear hB8 x0 x1 x2
                  go_wp2
                  go_roundw
                  case rel => exact ⟨j + 1, by omega, by go_num, HQ8⟩
                  case measure => simp [intOf]; omega
                · go_wp2
                  go_roundw
                  case rel => exact ⟨i + 1, by omega, by go_num, ⟨HB5.out.trans (HQ.out.mono HB5.out.size)⟩⟩
                  case measure => simp [intOf]; omega
        · go_wp2_with fail
          refine (aw _ HB.out).mono ?_
          rintro e w9 ⟨rfl, hB9⟩
          have HF := Aside0.mk (HB.out.trans (hB9.mono HB.out.size))
          clear hB9
          go_wp2
          go_ret
          exact ⟨rfl, HF.out⟩
end Go.Proofs.YtlfnnalepdjagaaDoor.C
