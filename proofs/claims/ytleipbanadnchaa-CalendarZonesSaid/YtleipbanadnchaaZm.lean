/- 'zones' of meridianlaw09, by hand. -/
import Derived.OwnWalk
import Derived.Test.YtleipbanadnchaaY1
import Derived.Test.YtleipbanadnchaaCk
import Derived.Test.YtleipbanadnchaaDa
import Derived.Laws.AppendOwn
import Derived.Deep.Cut
import Derived.Deep.RegionWith
import Derived.Deep.RegionHeld3
import Derived.Test.YtleipbanadnchaaY3
import Derived.Test.YtleipbanadnchaaZe
import Derived.Test.YtleipbanadnchaaEi
import Derived.Test.YtleipbanadnchaaCp
namespace Go.Proofs.Ytleipbanadnchaa.C
open Go.RowKit Go.Shelf Go.Maps Go.Proofs.YtleipbanadnchaaW.PrintWords Go.Proofs.YtleipbanadnchaaW.PrintLast Go.Proofs.YtleipbanadnchaaW.PrintMore
set_option linter.unusedVariables false
set_option linter.unusedSimpArgs false
/-- A local date, its offset, and what is wrong. -/
structure LocR where
  y : Int
  m : Int
  d : Int
  h : Int
  i : Int
  s : Int
  n : Int
  e : Int
theorem shiftV_date (y m d h i s q : Int) : ∃ y' m' d' h' i' s', shiftV y m d h i s q = dateV y' m' d' h' i' s' := by
  unfold shiftV
  split
  · exact ⟨_, _, _, _, _, _, rfl⟩
  · exact ⟨_, _, _, _, _, _, rfl⟩
theorem local_both (b u : Int) (L : List (Int × Int)) (o : Int) (zl : List (Int × Int)) (s : Int) : ∃ R : LocR,
    (∀ (A : Option Addr) (c : Nat) (zA : Option Addr) (zc : Nat) (w : World), Kd.C kl w A L.length L → Kd.C kl w zA zl.length zl → Calls Try.prog 41 #[tabV b A L.length c u, zoneV o zA zl.length zc, .int .i64 s] w fun e w' => e = .returned (.tuple #[dateV R.y R.m R.d R.h R.i R.s, .int .i64 R.n, .int .i64 R.e]) ∧ Below w.heap.size w w') ∧
    (∀ (A : Option Addr) (c : Nat) (zA : Option Addr) (zc : Nat) (w : World), Kd.C kl w A L.length L → Kd.C kl w zA zl.length zl → Calls Try.prog 96 #[tabV b A L.length c u, zoneV o zA zl.length zc, .int .i64 s] w fun e w' => e = .returned (.tuple #[dateV R.y R.m R.d R.h R.i R.s, .int .i64 R.n, .int .i64 R.e]) ∧ Below w.heap.size w w') := by
  by_cases hk : checkF b L u = 0
  · by_cases hzk : zcheckF o zl = 0
    · cases hkn : knowsB L u s
      · exact ⟨⟨0, 0, 0, 0, 0, 0, 0, 6⟩, fun A c zA zc w h1 h2 => lc_err3 b u A c L o zA zc zl s w h1 h2 hk hzk hkn, fun A c zA zc w h1 h2 => rlc_err3 b u A c L o zA zc zl s w h1 h2 hk hzk hkn⟩
      · obtain ⟨D, hD⟩ := IsDay.exists (checkF_right hk).2.2.2.2.2 (knowsB_iff.1 hkn).1 (knowsB_iff.1 hkn).2
        obtain ⟨y', m', d', h', i', s', e⟩ := shiftV_date (cY D) (cM D) (cD D) (ckH (s - beginF L D)) (ckM (s - beginF L D)) (ckS (s - beginF L D)) (holdsF o zl s)
        have h1 := fun A c zA zc w h1 h2 => lc_ok b u A c L o zA zc zl s D w h1 h2 hk hzk hkn hD
        have h2 := fun A c zA zc w h1 h2 => rlc_ok b u A c L o zA zc zl s D w h1 h2 hk hzk hkn hD
        rw [e] at h1 h2
        exact ⟨⟨y', m', d', h', i', s', _, _⟩, h1, h2⟩
    · exact ⟨⟨0, 0, 0, 0, 0, 0, 0, zcheckF o zl⟩, fun A c zA zc w h1 h2 => lc_err2 b u A c L o zA zc zl s w h1 h2 hk hzk, fun A c zA zc w h1 h2 => rlc_err2 b u A c L o zA zc zl s w h1 h2 hk hzk⟩
  · exact ⟨⟨0, 0, 0, 0, 0, 0, 0, checkF b L u⟩, fun A c zA zc w h1 h2 => lc_err1 b u A c L o zA zc zl s w h1 h2 hk, fun A c zA zc w h1 h2 => rlc_err1 b u A c L o zA zc zl s w h1 h2 hk⟩
theorem flL_len (b u : Int) (L : List (Int × Int)) (o : Int) (zl : List (Int × Int)) (y m d h i s : Int) : (flL b u L o zl y m d h i s).length ≤ 2881 := by
  unfold flL
  split
  · exact local_len u L o zl y m d h i s
  · simp
/-- How far the reference's zone is made. -/
structure ZInv (wP wr : World) (o : Int) (g : Nat) (vo : Value) (la : List (Int × Int)) : Prop where
  bel : Below wP.heap.size wP wr
  ka : wr.heap[wP.heap.size]? = some (.cells #[.int .i64 o, vo] 143 (0, 0))
  own : wr.ownsRow (wP.heap.size + 1) 144 2 vo la.length (lcells la)
theorem ZInv.below {wP wr wx : World} {o : Int} {g : Nat} {vo : Value} {la : List (Int × Int)} (h : ZInv wP wr o g vo la) (hB : Below wr.heap.size wr wx) : ZInv wP wx o g vo la :=
  ⟨h.bel.trans (hB.mono h.bel.size), (hB.block _ (Array.getElem?_eq_some_iff.1 h.ka).1).trans h.ka, own_move h.own (fun k hk => hB.block k (own_lt h.own k hk))⟩
theorem zinv_next {wP wr w2 : World} {o : Int} {g : Nat} {vo v2 : Value} {la : List (Int × Int)} {xd xs : Int} (h : ZInv wP wr o g vo la)
    (hown : w2.ownsRow (wP.heap.size + 1) 144 2 v2 (la.length + 1) (lcells la ++ [.int .i64 xd, .int .i64 xs])) (hgrow : ((wr.alloc (.cells #[.int .i64 xd, .int .i64 xs] 140)).alloc (.cells #[.int .i64 xd, .int .i64 xs] 144)).grownBy w2 vo.ownBlock) :
    w2.cell? ⟨wP.heap.size, 1, none⟩ = some vo ∧ w2.frozen? ⟨wP.heap.size, 1, none⟩ = false ∧ (∃ Av cv, v2 = .slice Av (la.length + 1) cv) ∧ ZInv wP (w2.setCell ⟨wP.heap.size, 1, none⟩ v2) o g v2 (la ++ [(xd, xs)]) := by
  have hsz : wP.heap.size < wr.heap.size := (Array.getElem?_eq_some_iff.1 h.ka).1
  have hob : ∀ k, vo.ownBlock = some k → wP.heap.size + 1 ≤ k := fun k hk => own_base h.own k hk
  have keep : ∀ (k : Nat) (ob : Obj), k < wP.heap.size + 1 → wr.heap[k]? = some ob → w2.heap[k]? = some ob := fun k ob hk ho => by
    have h1 := (Array.getElem?_eq_some_iff.1 ho).1
    exact (hgrow.block k (by simp; omega) (fun e => by have := hob k e.symm; omega)).trans (al_old (al_old ho))
  have hbel : Below wP.heap.size wP w2 := ((h.bel.alloc h.bel.size _).alloc (by simp; have := h.bel.size; omega) _).grown hgrow (by simp; omega) (fun k hk => by have := hob k hk; omega)
  have kt := keep _ _ (by omega) h.ka
  have hl : lcells (la ++ [(xd, xs)]) = lcells la ++ [.int .i64 xd, .int .i64 xs] := by rw [lcells_append]; rfl
  have hlen : (la ++ [(xd, xs)]).length = la.length + 1 := by simp
  have hown2 : w2.ownsRow (wP.heap.size + 1) 144 2 v2 (la ++ [(xd, xs)]).length (lcells (la ++ [(xd, xs)])) := by rw [hl, hlen]; exact hown
  obtain ⟨Av, cv, hv, _⟩ := own_leaps (e := 144) hown2
  rw [hlen] at hv
  refine ⟨blk_cell kt 1, blk_frozen kt 1, ⟨Av, cv, hv⟩, ⟨hbel.setCell (by simp) _, ?_, ?_⟩⟩
  · exact blk_put kt 1 _ rfl
  · exact own_move hown2 (fun k hk => by
      have := own_base hown2 k hk
      rw [Below.heap_setCell _ _ _ k (by simp; omega)])
theorem zclone_calls3 (A : Option Addr) (c : Nat) (l : List (Int × Int)) (w : World) (hr : Kd.C kl w A l.length l) (hl : l.length ≤ 1000000) :
    Calls Try.prog 93 #[.slice A l.length c] w fun e w' => ∃ Az cz, e = .returned (.slice Az l.length cz) ∧ Aside0 (w'.ownsRow w.heap.size 140 2 (.slice Az l.length cz) l.length (lcells l)) ∧ Below w.heap.size w w' := by
  refine (zclone_calls2 A c l w hr hl).mono ?_
  rintro e w' ⟨v', rfl, hown, hB⟩
  obtain ⟨Az, cz, rfl, hC⟩ := own_leaps (e := 140) hown
  exact ⟨Az, cz, rfl, ⟨hown⟩, hB⟩
theorem own_C {w : World} {base e : Nat} {Az : Option Addr} {cz : Nat} {l : List (Int × Int)} (h : w.ownsRow base e 2 (.slice Az l.length cz) l.length (lcells l)) : Kd.C kl w Az l.length l := by
  obtain ⟨_, _, ee, hC⟩ := own_leaps h
  cases ee
  exact hC
theorem info144n : (Try.prog.info? 144).map (fun i => (i.zero, i.size, i.bytes)) = some (some (.agg #[.int .i64 0, .int .i64 0]), 2, 16) := by kernel_rfl
attribute [local go_sem high] eqA98
set_option maxHeartbeats 8000000 in
set_option maxRecDepth 100000 in
theorem zones_calls (b u : Int) (A : Option Addr) (c : Nat) (L : List (Int × Int)) (o : Int) (zA : Option Addr) (zc : Nat) (zl : List (Int × Int)) (sec y m d h i s : Int) (w : World) (hr : Kd.C kl w A L.length L) (hz : Kd.C kl w zA zl.length zl) (hl : L.length ≤ 120) (hzl : zl.length ≤ 220) (hnil : A = none → L = [] ∧ c = 0) :
    Calls Try.prog 39 #[tabV b A L.length c u, zoneV o zA zl.length zc, .int .i64 sec, dateV y m d h i s] w fun e w' => e = .returned (.bool true) ∧ Below w.heap.size w w' := by
  have HR := Aside0.mk hr
  have HZ := Aside0.mk hz
  have a51 := fun w h => copied_calls b u A c L w h (by omega) hnil
  obtain ⟨⟨ly, lm, ld, lh, li, ls, ln, le⟩, hL1, hL2⟩ := local_both b u L o zl sec
  simp only at hL1 hL2
  have H41 := Aside0.mk hL1
  have H96 := Aside0.mk hL2
  obtain ⟨ii, hii, hz0, hz1, hz2⟩ := info_parts info144n
  clear hr hz hnil hL1 hL2
  obtain ⟨w1, hw1⟩ : ∃ w1, ((w.alloc (.cells #[.int .i64 b, .slice A L.length c, .int .i64 u] 28)).alloc (.cells #[.int .i64 o, .slice zA zl.length zc] 76)).alloc (.cells #[.int .i64 y, .int .i64 m, .int .i64 d, .int .i64 h, .int .i64 i, .int .i64 s] 30) = w1 := ⟨_, rfl⟩
  have hv : Below w.heap.size w w1 := by rw [← hw1]; exact (((Below.refl _ w).alloc (Nat.le_refl _) _).alloc (by simp) _).alloc (by simp; omega) _
  have kt : w1.heap[w.heap.size]? = some (.cells #[.int .i64 b, .slice A L.length c, .int .i64 u] 28 (0, 0)) := by rw [← hw1]; exact al_old (al_old (al_new _ _ _ rfl))
  have kz : w1.heap[w.heap.size + 1]? = some (.cells #[.int .i64 o, .slice zA zl.length zc] 76 (0, 0)) := by rw [← hw1]; exact al_old (al_new _ _ _ (by simp))
  have kd : w1.heap[w.heap.size + 1 + 1]? = some (.cells #[.int .i64 y, .int .i64 m, .int .i64 d, .int .i64 h, .int .i64 i, .int .i64 s] 30 (0, 0)) := by rw [← hw1]; exact al_new _ _ _ (by simp)
  have t0 : w1.cell? ⟨w.heap.size, 0, none⟩ = some (.int .i64 b) := blk_cell kt 0
  have t1 : w1.cell? ⟨w.heap.size, 1, none⟩ = some (.slice A L.length c) := blk_cell kt 1
  have t2 : w1.cell? ⟨w.heap.size, 2, none⟩ = some (.int .i64 u) := blk_cell kt 2
  have z0 : w1.cell? ⟨w.heap.size + 1, 0, none⟩ = some (.int .i64 o) := blk_cell kz 0
  have z1 : w1.cell? ⟨w.heap.size + 1, 1, none⟩ = some (.slice zA zl.length zc) := blk_cell kz 1
  have d0 : w1.cell? ⟨w.heap.size + 1 + 1, 0, none⟩ = some (.int .i64 y) := blk_cell kd 0
  have d1 : w1.cell? ⟨w.heap.size + 1 + 1, 1, none⟩ = some (.int .i64 m) := blk_cell kd 1
  have d2 : w1.cell? ⟨w.heap.size + 1 + 1, 2, none⟩ = some (.int .i64 d) := blk_cell kd 2
  have d3 : w1.cell? ⟨w.heap.size + 1 + 1, 3, none⟩ = some (.int .i64 h) := blk_cell kd 3
  have d4 : w1.cell? ⟨w.heap.size + 1 + 1, 4, none⟩ = some (.int .i64 i) := blk_cell kd 4
  have d5 : w1.cell? ⟨w.heap.size + 1 + 1, 5, none⟩ = some (.int .i64 s) := blk_cell kd 5
  clear kt kz kd
  have hR1 := Kd.C_below HR.out hv
  have hZ1 := Kd.C_below HZ.out hv
  go_enter Try.func39, Try.ntmps39
  go_wp2_with fail
  try rw [hw1]
  clear hw1
  refine (a51 _ hR1).mono ?_
  rintro en w2 ⟨⟨A1, c1, A2, c2, rfl, hC1, hC2⟩, hB⟩
  replace t0 := cell_on hB t0
  replace t1 := cell_on hB t1
  replace t2 := cell_on hB t2
  replace z0 := cell_on hB z0
  replace z1 := cell_on hB z1
  replace d0 := cell_on hB d0
  replace d1 := cell_on hB d1
  replace d2 := cell_on hB d2
  replace d3 := cell_on hB d3
  replace d4 := cell_on hB d4
  replace d5 := cell_on hB d5
  replace hR1 := Kd.C_below hR1 hB
  replace hZ1 := Kd.C_below hZ1 hB
  replace hv := hv.trans (hB.mono hv.size)
  clear hB a51
  have hz0' := World.block_lt_of_cell? _ _ t0
  have hz1' := World.block_lt_of_cell? _ _ z0
  have hz2' := World.block_lt_of_cell? _ _ d0
  go_upto_region 2 with fail
  clear hz0' hz1' hz2'
  obtain ⟨w3, hw3⟩ : ∃ w3, (w2.alloc (.cells #[.int .i64 b, .slice A1 L.length c1, .int .i64 u] 28)).alloc (.cells #[.int .i64 b, .slice A2 L.length c2, .int .i64 u] 90) = w3 := ⟨_, rfl⟩
  try rw [hw3]
  have hB : Below w2.heap.size w2 w3 := by rw [← hw3]; exact ((Below.refl _ w2).alloc (by first | exact Nat.le_refl _ | (simp; done) | (simp; omega)) _).alloc (by first | exact Nat.le_refl _ | (simp; done) | (simp; omega)) _
  have ko : w3.heap[w2.heap.size]? = some (.cells #[.int .i64 b, .slice A1 L.length c1, .int .i64 u] 28 (0, 0)) := by rw [← hw3]; exact al_old (al_new _ _ _ (by first | rfl | (simp; done) | (simp; omega)))
  have o0 : w3.cell? ⟨w2.heap.size, 0, none⟩ = some (.int .i64 b) := blk_cell ko 0
  have o1 : w3.cell? ⟨w2.heap.size, 1, none⟩ = some (.slice A1 L.length c1) := blk_cell ko 1
  have o2 : w3.cell? ⟨w2.heap.size, 2, none⟩ = some (.int .i64 u) := blk_cell ko 2
  clear ko
  have kf : w3.heap[w2.heap.size + 1]? = some (.cells #[.int .i64 b, .slice A2 L.length c2, .int .i64 u] 90 (0, 0)) := by rw [← hw3]; exact al_new _ _ _ (by first | rfl | (simp; done) | (simp; omega))
  have f0 : w3.cell? ⟨w2.heap.size + 1, 0, none⟩ = some (.int .i64 b) := blk_cell kf 0
  have f1 : w3.cell? ⟨w2.heap.size + 1, 1, none⟩ = some (.slice A2 L.length c2) := blk_cell kf 1
  have f2 : w3.cell? ⟨w2.heap.size + 1, 2, none⟩ = some (.int .i64 u) := blk_cell kf 2
  clear kf
  replace t0 := cell_on hB t0
  replace t1 := cell_on hB t1
  replace t2 := cell_on hB t2
  replace z0 := cell_on hB z0
  replace z1 := cell_on hB z1
  replace d0 := cell_on hB d0
  replace d1 := cell_on hB d1
  replace d2 := cell_on hB d2
  replace d3 := cell_on hB d3
  replace d4 := cell_on hB d4
  replace d5 := cell_on hB d5
  replace hR1 := Kd.C_below hR1 hB
  replace hZ1 := Kd.C_below hZ1 hB
  replace hC1 := Kd.C_below hC1 hB
  replace hC2 := Kd.C_below hC2 hB
  replace hv := hv.trans (hB.mono hv.size)
  clear hB hw3
  have HZP := Aside0.mk hZ1
  have hclA : Aside0 (Calls Try.prog 93 #[.slice zA zl.length zc] w3.drew fun e w' => ∃ Az cz, e = .returned (.slice Az zl.length cz) ∧ w'.cell? ⟨w.heap.size + 1, 0, none⟩ = some (.int .i64 o) ∧ Aside0 (w'.ownsRow w3.heap.size 140 2 (.slice Az zl.length cz) zl.length (lcells zl)) ∧ Aside0 (Below w3.heap.size w3 w')) := ⟨(zclone_calls3 zA zc zl _ (Kd.C_below HZP.out (Below.refl _ _).drew) (by omega)).mono fun e w' ⟨Az, cz, h1, h2, hB⟩ => ⟨Az, cz, h1, cell_on hB z0, h2, ⟨(Below.refl _ _).drew.trans hB⟩⟩⟩
  have hclB : Aside0 (Calls Try.prog 93 #[.slice zA zl.length zc] (w3.alloc (.cells #[.int .i64 0, .slice none 0 0] 76)).drew fun e w' => ∃ Az cz, e = .returned (.slice Az zl.length cz) ∧ w'.cell? ⟨w.heap.size + 1, 0, none⟩ = some (.int .i64 o) ∧ w'.cell? ⟨w3.heap.size, 0, none⟩ = some (.int .i64 0) ∧ w'.cell? ⟨w3.heap.size, 1, none⟩ = some (.slice none 0 0) ∧ w'.frozen? ⟨w3.heap.size, 0, none⟩ = false ∧ w'.frozen? ⟨w3.heap.size, 1, none⟩ = false ∧ Aside0 (w'.heap[w3.heap.size]? = some (.cells #[.int .i64 0, .slice none 0 0] 76 (0, 0))) ∧ Aside0 (w'.ownsRow (w3.heap.size + 1) 140 2 (.slice Az zl.length cz) zl.length (lcells zl)) ∧ Aside0 (Below w3.heap.size w3 w')) := ⟨(zclone_calls3 zA zc zl _ (Kd.C_below HZP.out ((Below.refl _ _).alloc (Nat.le_refl _) _).drew) (by omega)).mono fun e w' ⟨Az, cz, h1, h2, hB⟩ => by
      have kg : w'.heap[w3.heap.size]? = some (.cells #[.int .i64 0, .slice none 0 0] 76 (0, 0)) := (hB.block _ (by simp)).trans (al_new _ _ _ rfl)
      exact ⟨Az, cz, h1, cell_on hB (cell_on ((Below.refl _ _).alloc (Nat.le_refl _) _).drew z0), blk_cell kg 0, blk_cell kg 1, blk_frozen kg 0, blk_frozen kg 1, ⟨kg⟩, ⟨by have := h2.out; simpa using this⟩, ⟨((Below.refl _ _).alloc (Nat.le_refl _) _).drew.trans (hB.mono (by simp))⟩⟩⟩
  go_cut [11] from 27 (fun s11 wx => ∃ (g : Nat) (Az : Option Addr) (cz : Nat), s11 = .pointer (some ⟨g, 0, none⟩) ∧ wx.heap[g]? = some (.cells #[.int .i64 o, .slice Az zl.length cz] 76 (0, 0)) ∧ Kd.C kl wx Az zl.length zl ∧ Below w3.heap.size w3 wx)
  case first =>
    have hsz1 : w.heap.size + 1 < w3.heap.size := World.block_lt_of_cell? _ _ z0
    go_region_with (first | (go_at_call 93; refine hclA.out.mono ?_; rintro e w' ⟨Az, cz, rfl, z0', hCz9, hB9⟩; have hsz2 : w.heap.size + 1 < w'.heap.size := World.block_lt_of_cell? _ _ z0') | (go_at_call 93; refine hclB.out.mono ?_; rintro e w' ⟨Az, cz, rfl, z0', g0, g1, gf0, gf1, kg9, hCz9, hB9⟩; have hsz2 : w.heap.size + 1 < w'.heap.size := World.block_lt_of_cell? _ _ z0'))
    all_goals
      go_wp2
      go_meet
      case rel =>
        first
          | exact ⟨w'.heap.size, Az, cz, rfl, al_new _ _ _ rfl, Kd.C_below (own_C hCz9.out) ((Below.refl _ _).alloc (Nat.le_refl _) _), hB9.out.alloc hB9.out.size _⟩
          | exact ⟨w3.heap.size, Az, cz, rfl, blk_put (blk_put kg9.out 0 _ rfl) 1 _ rfl, own_C (own_move hCz9.out (fun k hk => by have := own_base hCz9.out k hk; rw [Below.heap_setCell _ _ _ k (by simp; omega), Below.heap_setCell _ _ _ k (by simp; omega)])), (hB9.out.setCell (by simp) _).setCell (by simp) _⟩
  case rest =>
  obtain ⟨g, Az, cz, rfl, hg, hCz, hB⟩ := hcut
  clear hclA hclB
  rename World => w4
  replace t0 := cell_on hB t0
  replace t1 := cell_on hB t1
  replace t2 := cell_on hB t2
  replace z0 := cell_on hB z0
  replace z1 := cell_on hB z1
  replace d0 := cell_on hB d0
  replace d1 := cell_on hB d1
  replace d2 := cell_on hB d2
  replace d3 := cell_on hB d3
  replace d4 := cell_on hB d4
  replace d5 := cell_on hB d5
  replace o0 := cell_on hB o0
  replace o1 := cell_on hB o1
  replace o2 := cell_on hB o2
  replace f0 := cell_on hB f0
  replace f1 := cell_on hB f1
  replace f2 := cell_on hB f2
  replace hR1 := Kd.C_below hR1 hB
  replace hZ1 := Kd.C_below hZ1 hB
  replace hC1 := Kd.C_below hC1 hB
  replace hC2 := Kd.C_below hC2 hB
  replace hv := hv.trans (hB.mono hv.size)
  clear hB HZP
  have q0 : w4.cell? ⟨g, 0, none⟩ = some (.int .i64 o) := blk_cell hg 0
  have q1 : w4.cell? ⟨g, 1, none⟩ = some (.slice Az zl.length cz) := blk_cell hg 1
  clear hg
  have hs1 := World.block_lt_of_cell? _ _ z0
  go_wp2_with fail
  clear hs1
  obtain ⟨w5, hw5⟩ : ∃ w5, w4.alloc (.cells #[.int .i64 o, .slice none 0 0] 143) = w5 := ⟨_, rfl⟩
  try rw [hw5]
  have HI0 : Aside0 (ZInv w4 w5 o g (.slice none 0 0) (zl.take 0)) := ⟨by rw [← hw5]; exact ⟨(Below.refl _ _).alloc (Nat.le_refl _) _, al_new _ _ _ rfl, own_nil _ _ _ _⟩⟩
  clear hw5
  have HZ4 := Aside0.mk hZ1
  go_loopw [44] (fun v44 wr => ∃ (i : Nat) (vo : Value), i ≤ zl.length ∧ v44 = .int .i64 i ∧ Aside0 (ZInv w4 wr o g vo (zl.take i))) (fun v _ => zl.length - (intOf v).toNat)
  case atStart => exact ⟨0, _, by omega, rfl, HI0⟩
  case round =>
    obtain ⟨k, vo, hi, rfl, HI⟩ := hrel
    by_cases hlt : k < zl.length
    · obtain ⟨ad, rfl, hc0, hc1⟩ := C_leap (Kd.C_below HZ4.out HI.out.bel) k hlt hlt
      have hpl : (zl.take k).length ≤ 220 := by simp; omega
      have HN : Aside0 (zl.take (k + 1) = zl.take k ++ [zl[k]]) := ⟨by rw [List.take_add_one, List.getElem?_eq_getElem hlt]; rfl⟩
      generalize zl[k] = x at *
      obtain ⟨xd, xs⟩ := x
      simp only at hc0 hc1
      have d1 : decide ((k : Int) < (zl.length : Int)) = true := decide_eq_true (by omega)
      have u1' : wr.cell? ⟨w4.heap.size, 1, none⟩ = some vo := blk_cell HI.out.ka 1
      have hsz : w4.heap.size < wr.heap.size := (Array.getElem?_eq_some_iff.1 HI.out.ka).1
      generalize zl.take k = la at *
      have hownD : ((wr.alloc (.cells #[.int .i64 xd, .int .i64 xs] 140)).alloc (.cells #[.int .i64 xd, .int .i64 xs] 144)).ownsRow (w4.heap.size + 1) 144 2 vo la.length (lcells la) := own_move HI.out.own (fun k hk => by
        have hlt := own_lt HI.out.own k hk
        exact (Below.heap_alloc _ _ k (by simp; omega)).trans (Below.heap_alloc _ _ k hlt))
      go_wp2_with (at_builtin; refine wpList_append_own _ rfl _ _ 141 rfl (w4.heap.size + 1) 144 ii (.agg #[.int .i64 0, .int .i64 0]) 2 16 Try.underlying141 hii hz0 hz1 hz2 rfl (by decide) _ _ _ rfl hownD ⟨wr.heap.size + 1, 0, none⟩ 1 1 [.int .i64 xd, .int .i64 xs] rfl ?qc1 ?qc2 ?qc3 ?qc4 ?qc5 ?qc6 ?_)
      case qc1 => rfl
      case qc2 => exact World.news_of_block (cs := #[.int .i64 xd, .int .i64 xs]) (t := 144) (fr := (0, 0)) (al_new _ _ _ (by simp))
      case qc3 => simp [Value.oneCell']
      case qc4 => unfold maxLen; omega
      case qc5 => omega
      case qc6 => simp; omega
      intro v1 wz hown1 hgrow1 hnil1
      have HX := Aside0.mk (zinv_next HI.out hown1 hgrow1)
      have t1' := HX.out.1
      have f1' := HX.out.2.1
      obtain ⟨Av, cv, rfl⟩ := HX.out.2.2.1
      have HX2 := Aside0.mk HX.out.2.2.2
      clear hown1 hgrow1 hnil1 hownD u1' HI HX
      go_wp2
      go_roundw
      case rel => exact ⟨k + 1, _, by omega, by go_num, by rw [HN.out]; exact HX2⟩
      case measure => simp [intOf]; omega
    · obtain rfl : k = zl.length := by omega
      have htk : zl.take zl.length = zl := List.take_length
      rw [htk] at HI
      obtain ⟨Ar, cr, rfl, hCr⟩ := own_leaps (e := 144) HI.out.own
      have hB := HI.out.bel
      replace t0 := cell_on hB t0
      replace t1 := cell_on hB t1
      replace t2 := cell_on hB t2
      replace z0 := cell_on hB z0
      replace z1 := cell_on hB z1
      replace d0 := cell_on hB d0
      replace d1 := cell_on hB d1
      replace d2 := cell_on hB d2
      replace d3 := cell_on hB d3
      replace d4 := cell_on hB d4
      replace d5 := cell_on hB d5
      replace o0 := cell_on hB o0
      replace o1 := cell_on hB o1
      replace o2 := cell_on hB o2
      replace f0 := cell_on hB f0
      replace f1 := cell_on hB f1
      replace f2 := cell_on hB f2
      replace q0 := cell_on hB q0
      replace q1 := cell_on hB q1
      replace hR1 := Kd.C_below hR1 hB
      replace hZ1 := Kd.C_below hZ1 hB
      replace hC1 := Kd.C_below hC1 hB
      replace hC2 := Kd.C_below hC2 hB
      replace hCz := Kd.C_below hCz hB
      replace hv := hv.trans (hB.mono hv.size)
      have r0 : wr.cell? ⟨w4.heap.size, 0, none⟩ = some (.int .i64 o) := blk_cell HI.out.ka 0
      have r1 : wr.cell? ⟨w4.heap.size, 1, none⟩ = some (.slice Ar zl.length cr) := blk_cell HI.out.ka 1
      clear hB HI HI0 htk
      have hck : (zcheckF o zl != zcheckF o zl) = false := by simp
      have HCz := Aside0.mk hCz
      have HCr := Aside0.mk hCr
      obtain ⟨ck, hck2⟩ : ∃ ck, zcheckF o zl = ck := ⟨_, rfl⟩
      have H94 := Aside0.mk (fun (A : Option Addr) (c : Nat) (w : World) h => zcheck_calls o A c zl w h)
      have H95 := Aside0.mk (fun (A : Option Addr) (c : Nat) (w : World) h => rzcheck_calls o A c zl w h)
      rw [hck2] at H94 H95 hck
      clear hck2
      go_wp2_with fail
      have hS : ∀ w', Below wr.heap.size wr w' → ((w'.cell? ⟨g, 0, none⟩ = some (.int .i64 o) ∧ w'.cell? ⟨g, 1, none⟩ = some (.slice Az zl.length cz) ∧ w'.cell? ⟨w4.heap.size, 0, none⟩ = some (.int .i64 o) ∧ w'.cell? ⟨w4.heap.size, 1, none⟩ = some (.slice Ar zl.length cr)) ∧ Below wr.heap.size wr w') := fun w' hB => ⟨⟨cell_on hB q0, cell_on hB q1, cell_on hB r0, cell_on hB r1⟩, hB⟩
      go_region_held3 (fun w' => (w'.cell? ⟨g, 0, none⟩ = some (.int .i64 o) ∧ w'.cell? ⟨g, 1, none⟩ = some (.slice Az zl.length cz) ∧ w'.cell? ⟨w4.heap.size, 0, none⟩ = some (.int .i64 o) ∧ w'.cell? ⟨w4.heap.size, 1, none⟩ = some (.slice Ar zl.length cr)) ∧ Below wr.heap.size wr w') (first | exact hS _ (Below.refl _ _).drew | assumption | (have hh := ‹(_ ∧ _ ∧ _ ∧ _) ∧ Below wr.heap.size wr _›; exact hS _ (hh.2.trans (hB.mono hh.2.size))))
        (first | (go_at_call 94; refine (H94.out _ _ _ (by have hh := ‹(_ ∧ _ ∧ _ ∧ _) ∧ Below wr.heap.size wr _›; exact Kd.C_below HCz.out hh.2)).mono ?_; rintro e w' ⟨rfl, hB⟩) | (go_at_call 95; refine (H95.out _ _ _ (by have hh := ‹(_ ∧ _ ∧ _ ∧ _) ∧ Below wr.heap.size wr _›; exact Kd.C_below HCr.out hh.2)).mono ?_; rintro e w' ⟨rfl, hB⟩))
      rename_i hHeld
      have hB := hHeld.2
      clear hHeld hS HCz HCr H94 H95
      rename World => w6
      replace t0 := cell_on hB t0
      replace t1 := cell_on hB t1
      replace t2 := cell_on hB t2
      replace z0 := cell_on hB z0
      replace z1 := cell_on hB z1
      replace d0 := cell_on hB d0
      replace d1 := cell_on hB d1
      replace d2 := cell_on hB d2
      replace d3 := cell_on hB d3
      replace d4 := cell_on hB d4
      replace d5 := cell_on hB d5
      replace o0 := cell_on hB o0
      replace o1 := cell_on hB o1
      replace o2 := cell_on hB o2
      replace f0 := cell_on hB f0
      replace f1 := cell_on hB f1
      replace f2 := cell_on hB f2
      replace q0 := cell_on hB q0
      replace q1 := cell_on hB q1
      replace r0 := cell_on hB r0
      replace r1 := cell_on hB r1
      replace hR1 := Kd.C_below hR1 hB
      replace hZ1 := Kd.C_below hZ1 hB
      replace hC1 := Kd.C_below hC1 hB
      replace hC2 := Kd.C_below hC2 hB
      replace hCz := Kd.C_below hCz hB
      replace hCr := Kd.C_below hCr hB
      replace hv := hv.trans (hB.mono hv.size)
      clear hB
      go_wp2_with fail
      refine (H41.out _ _ _ _ _ hC1 hCz).mono ?_
      rintro en w7 ⟨rfl, hB⟩
      replace t0 := cell_on hB t0
      replace t1 := cell_on hB t1
      replace t2 := cell_on hB t2
      replace z0 := cell_on hB z0
      replace z1 := cell_on hB z1
      replace d0 := cell_on hB d0
      replace d1 := cell_on hB d1
      replace d2 := cell_on hB d2
      replace d3 := cell_on hB d3
      replace d4 := cell_on hB d4
      replace d5 := cell_on hB d5
      replace o0 := cell_on hB o0
      replace o1 := cell_on hB o1
      replace o2 := cell_on hB o2
      replace f0 := cell_on hB f0
      replace f1 := cell_on hB f1
      replace f2 := cell_on hB f2
      replace q0 := cell_on hB q0
      replace q1 := cell_on hB q1
      replace r0 := cell_on hB r0
      replace r1 := cell_on hB r1
      replace hR1 := Kd.C_below hR1 hB
      replace hZ1 := Kd.C_below hZ1 hB
      replace hC1 := Kd.C_below hC1 hB
      replace hC2 := Kd.C_below hC2 hB
      replace hCz := Kd.C_below hCz hB
      replace hCr := Kd.C_below hCr hB
      replace hv := hv.trans (hB.mono hv.size)
      clear hB
      have hs1 := World.block_lt_of_cell? _ _ t0
      have hs2 := World.block_lt_of_cell? _ _ z0
      have hs3 := World.block_lt_of_cell? _ _ d0
      have hs4 := World.block_lt_of_cell? _ _ o0
      have hs5 := World.block_lt_of_cell? _ _ f0
      have hs6 := World.block_lt_of_cell? _ _ q0
      have hs7 := World.block_lt_of_cell? _ _ r0
      go_wp2_with fail
      clear hs1 hs2 hs3 hs4 hs5 hs6 hs7
      obtain ⟨w8, hw8⟩ : ∃ w8, w7.alloc (.cells #[.int .i64 ly, .int .i64 lm, .int .i64 ld, .int .i64 lh, .int .i64 li, .int .i64 ls] 30) = w8 := ⟨_, rfl⟩
      try rw [hw8]
      have hB : Below w7.heap.size w7 w8 := by rw [← hw8]; exact (Below.refl _ w7).alloc (by first | exact Nat.le_refl _ | (simp; done) | (simp; omega)) _
      have ka : w8.heap[w7.heap.size]? = some (.cells #[.int .i64 ly, .int .i64 lm, .int .i64 ld, .int .i64 lh, .int .i64 li, .int .i64 ls] 30 (0, 0)) := by rw [← hw8]; exact al_new _ _ _ (by first | rfl | (simp; done) | (simp; omega))
      have a0 : w8.cell? ⟨w7.heap.size, 0, none⟩ = some (.int .i64 ly) := blk_cell ka 0
      have a1 : w8.cell? ⟨w7.heap.size, 1, none⟩ = some (.int .i64 lm) := blk_cell ka 1
      have a2 : w8.cell? ⟨w7.heap.size, 2, none⟩ = some (.int .i64 ld) := blk_cell ka 2
      have a3 : w8.cell? ⟨w7.heap.size, 3, none⟩ = some (.int .i64 lh) := blk_cell ka 3
      have a4 : w8.cell? ⟨w7.heap.size, 4, none⟩ = some (.int .i64 li) := blk_cell ka 4
      have a5 : w8.cell? ⟨w7.heap.size, 5, none⟩ = some (.int .i64 ls) := blk_cell ka 5
      clear ka
      replace t0 := cell_on hB t0
      replace t1 := cell_on hB t1
      replace t2 := cell_on hB t2
      replace z0 := cell_on hB z0
      replace z1 := cell_on hB z1
      replace d0 := cell_on hB d0
      replace d1 := cell_on hB d1
      replace d2 := cell_on hB d2
      replace d3 := cell_on hB d3
      replace d4 := cell_on hB d4
      replace d5 := cell_on hB d5
      replace o0 := cell_on hB o0
      replace o1 := cell_on hB o1
      replace o2 := cell_on hB o2
      replace f0 := cell_on hB f0
      replace f1 := cell_on hB f1
      replace f2 := cell_on hB f2
      replace q0 := cell_on hB q0
      replace q1 := cell_on hB q1
      replace r0 := cell_on hB r0
      replace r1 := cell_on hB r1
      replace hR1 := Kd.C_below hR1 hB
      replace hZ1 := Kd.C_below hZ1 hB
      replace hC1 := Kd.C_below hC1 hB
      replace hC2 := Kd.C_below hC2 hB
      replace hCz := Kd.C_below hCz hB
      replace hCr := Kd.C_below hCr hB
      replace hv := hv.trans (hB.mono hv.size)
      clear hB hw8
      refine (H96.out _ _ _ _ _ hC2 hCr).mono ?_
      rintro en w9 ⟨rfl, hB⟩
      replace t0 := cell_on hB t0
      replace t1 := cell_on hB t1
      replace t2 := cell_on hB t2
      replace z0 := cell_on hB z0
      replace z1 := cell_on hB z1
      replace d0 := cell_on hB d0
      replace d1 := cell_on hB d1
      replace d2 := cell_on hB d2
      replace d3 := cell_on hB d3
      replace d4 := cell_on hB d4
      replace d5 := cell_on hB d5
      replace o0 := cell_on hB o0
      replace o1 := cell_on hB o1
      replace o2 := cell_on hB o2
      replace f0 := cell_on hB f0
      replace f1 := cell_on hB f1
      replace f2 := cell_on hB f2
      replace q0 := cell_on hB q0
      replace q1 := cell_on hB q1
      replace r0 := cell_on hB r0
      replace r1 := cell_on hB r1
      replace a0 := cell_on hB a0
      replace a1 := cell_on hB a1
      replace a2 := cell_on hB a2
      replace a3 := cell_on hB a3
      replace a4 := cell_on hB a4
      replace a5 := cell_on hB a5
      replace hR1 := Kd.C_below hR1 hB
      replace hZ1 := Kd.C_below hZ1 hB
      replace hC1 := Kd.C_below hC1 hB
      replace hC2 := Kd.C_below hC2 hB
      replace hCz := Kd.C_below hCz hB
      replace hCr := Kd.C_below hCr hB
      replace hv := hv.trans (hB.mono hv.size)
      clear hB
      have hbeq : ∀ x : Int, (x == x) = true := fun x => by simp
      have hs1 := World.block_lt_of_cell? _ _ t0
      have hs2 := World.block_lt_of_cell? _ _ z0
      have hs3 := World.block_lt_of_cell? _ _ d0
      have hs4 := World.block_lt_of_cell? _ _ o0
      have hs5 := World.block_lt_of_cell? _ _ f0
      have hs6 := World.block_lt_of_cell? _ _ q0
      have hs7 := World.block_lt_of_cell? _ _ r0
      have hs8 := World.block_lt_of_cell? _ _ a0
      go_wp2_with fail
      clear hs1 hs2 hs3 hs4 hs5 hs6 hs7 hs8
      obtain ⟨w10, hw10⟩ : ∃ w10, (w9.alloc (.cells #[.int .i64 ly, .int .i64 lm, .int .i64 ld, .int .i64 lh, .int .i64 li, .int .i64 ls] 98)).alloc (.cells #[.int .i64 y, .int .i64 m, .int .i64 d, .int .i64 h, .int .i64 i, .int .i64 s, .int .i64 ly, .int .i64 lm, .int .i64 ld, .int .i64 lh, .int .i64 li, .int .i64 ls] 30) = w10 := ⟨_, rfl⟩
      try rw [hw10]
      have hB : Below w9.heap.size w9 w10 := by rw [← hw10]; exact ((Below.refl _ w9).alloc (by first | exact Nat.le_refl _ | (simp; done) | (simp; omega)) _).alloc (by first | exact Nat.le_refl _ | (simp; done) | (simp; omega)) _
      have ke : w10.heap[w9.heap.size]? = some (.cells #[.int .i64 ly, .int .i64 lm, .int .i64 ld, .int .i64 lh, .int .i64 li, .int .i64 ls] 98 (0, 0)) := by rw [← hw10]; exact al_old (al_new _ _ _ (by first | rfl | (simp; done) | (simp; omega)))
      have e0 : w10.cell? ⟨w9.heap.size, 0, none⟩ = some (.int .i64 ly) := blk_cell ke 0
      have e1 : w10.cell? ⟨w9.heap.size, 1, none⟩ = some (.int .i64 lm) := blk_cell ke 1
      have e2 : w10.cell? ⟨w9.heap.size, 2, none⟩ = some (.int .i64 ld) := blk_cell ke 2
      have e3 : w10.cell? ⟨w9.heap.size, 3, none⟩ = some (.int .i64 lh) := blk_cell ke 3
      have e4 : w10.cell? ⟨w9.heap.size, 4, none⟩ = some (.int .i64 li) := blk_cell ke 4
      have e5 : w10.cell? ⟨w9.heap.size, 5, none⟩ = some (.int .i64 ls) := blk_cell ke 5
      clear ke
      have kb : w10.heap[w9.heap.size + 1]? = some (.cells #[.int .i64 y, .int .i64 m, .int .i64 d, .int .i64 h, .int .i64 i, .int .i64 s, .int .i64 ly, .int .i64 lm, .int .i64 ld, .int .i64 lh, .int .i64 li, .int .i64 ls] 30 (0, 0)) := by rw [← hw10]; exact al_new _ _ _ (by first | rfl | (simp; done) | (simp; omega))
      have b0 : w10.cell? ⟨w9.heap.size + 1, 0, none⟩ = some (.int .i64 y) := blk_cell kb 0
      have b1 : w10.cell? ⟨w9.heap.size + 1, 1, none⟩ = some (.int .i64 m) := blk_cell kb 1
      have b2 : w10.cell? ⟨w9.heap.size + 1, 2, none⟩ = some (.int .i64 d) := blk_cell kb 2
      have b3 : w10.cell? ⟨w9.heap.size + 1, 3, none⟩ = some (.int .i64 h) := blk_cell kb 3
      have b4 : w10.cell? ⟨w9.heap.size + 1, 4, none⟩ = some (.int .i64 i) := blk_cell kb 4
      have b5 : w10.cell? ⟨w9.heap.size + 1, 5, none⟩ = some (.int .i64 s) := blk_cell kb 5
      have b6 : w10.cell? ⟨w9.heap.size + 1, 6, none⟩ = some (.int .i64 ly) := blk_cell kb 6
      have b7 : w10.cell? ⟨w9.heap.size + 1, 7, none⟩ = some (.int .i64 lm) := blk_cell kb 7
      have b8 : w10.cell? ⟨w9.heap.size + 1, 8, none⟩ = some (.int .i64 ld) := blk_cell kb 8
      have b9 : w10.cell? ⟨w9.heap.size + 1, 9, none⟩ = some (.int .i64 lh) := blk_cell kb 9
      have b10 : w10.cell? ⟨w9.heap.size + 1, 10, none⟩ = some (.int .i64 li) := blk_cell kb 10
      have b11 : w10.cell? ⟨w9.heap.size + 1, 11, none⟩ = some (.int .i64 ls) := blk_cell kb 11
      clear kb
      replace t0 := cell_on hB t0
      replace t1 := cell_on hB t1
      replace t2 := cell_on hB t2
      replace z0 := cell_on hB z0
      replace z1 := cell_on hB z1
      replace d0 := cell_on hB d0
      replace d1 := cell_on hB d1
      replace d2 := cell_on hB d2
      replace d3 := cell_on hB d3
      replace d4 := cell_on hB d4
      replace d5 := cell_on hB d5
      replace o0 := cell_on hB o0
      replace o1 := cell_on hB o1
      replace o2 := cell_on hB o2
      replace f0 := cell_on hB f0
      replace f1 := cell_on hB f1
      replace f2 := cell_on hB f2
      replace q0 := cell_on hB q0
      replace q1 := cell_on hB q1
      replace r0 := cell_on hB r0
      replace r1 := cell_on hB r1
      replace a0 := cell_on hB a0
      replace a1 := cell_on hB a1
      replace a2 := cell_on hB a2
      replace a3 := cell_on hB a3
      replace a4 := cell_on hB a4
      replace a5 := cell_on hB a5
      replace hR1 := Kd.C_below hR1 hB
      replace hZ1 := Kd.C_below hZ1 hB
      replace hC1 := Kd.C_below hC1 hB
      replace hC2 := Kd.C_below hC2 hB
      replace hCz := Kd.C_below hCz hB
      replace hCr := Kd.C_below hCr hB
      replace hv := hv.trans (hB.mono hv.size)
      clear hB hw10
      clear hbeq
      have HL := Aside0.mk (And.intro hC1 (And.intro hC2 (And.intro hCz (And.intro hCr (And.intro hR1 hZ1)))))
      have HV := Aside0.mk hv
      clear hC1 hC2 hCz hCr hR1 hZ1 hv
      go_loopw [93] (fun v93 wy => (v93 = .int .i64 0 ∨ v93 = .int .i64 1 ∨ v93 = .int .i64 2) ∧ Aside0 (Below w10.heap.size w10 wy)) (fun v _ => 2 - (intOf v).toNat)
      case atStart => exact ⟨.inl rfl, ⟨Below.refl _ _⟩⟩
      case round =>
        obtain ⟨hcase, HW⟩ := hrel
        have hB := HW.out
        obtain ⟨hC1, hC2, hCz, hCr, hR1, hZ1⟩ := HL.out
        have hv := HV.out
        replace t0 := cell_on hB t0
        replace t1 := cell_on hB t1
        replace t2 := cell_on hB t2
        replace z0 := cell_on hB z0
        replace z1 := cell_on hB z1
        replace d0 := cell_on hB d0
        replace d1 := cell_on hB d1
        replace d2 := cell_on hB d2
        replace d3 := cell_on hB d3
        replace d4 := cell_on hB d4
        replace d5 := cell_on hB d5
        replace o0 := cell_on hB o0
        replace o1 := cell_on hB o1
        replace o2 := cell_on hB o2
        replace f0 := cell_on hB f0
        replace f1 := cell_on hB f1
        replace f2 := cell_on hB f2
        replace q0 := cell_on hB q0
        replace q1 := cell_on hB q1
        replace r0 := cell_on hB r0
        replace r1 := cell_on hB r1
        replace a0 := cell_on hB a0
        replace a1 := cell_on hB a1
        replace a2 := cell_on hB a2
        replace a3 := cell_on hB a3
        replace a4 := cell_on hB a4
        replace a5 := cell_on hB a5
        replace e0 := cell_on hB e0
        replace e1 := cell_on hB e1
        replace e2 := cell_on hB e2
        replace e3 := cell_on hB e3
        replace e4 := cell_on hB e4
        replace e5 := cell_on hB e5
        replace b0 := cell_on hB b0
        replace b1 := cell_on hB b1
        replace b2 := cell_on hB b2
        replace b3 := cell_on hB b3
        replace b4 := cell_on hB b4
        replace b5 := cell_on hB b5
        replace b6 := cell_on hB b6
        replace b7 := cell_on hB b7
        replace b8 := cell_on hB b8
        replace b9 := cell_on hB b9
        replace b10 := cell_on hB b10
        replace b11 := cell_on hB b11
        replace hR1 := Kd.C_below hR1 hB
        replace hZ1 := Kd.C_below hZ1 hB
        replace hC1 := Kd.C_below hC1 hB
        replace hC2 := Kd.C_below hC2 hB
        replace hCz := Kd.C_below hCz hB
        replace hCr := Kd.C_below hCr hB
        replace hv := hv.trans (hB.mono hv.size)
        clear hB
        rcases hcase with rfl | rfl | rfl
        · have hvL := HW.out
          have hEq := rfl (a := flL b u L o zl y m d h i s)
          have a42 := fun W h1 h2 => FromLocal_calls b u A1 c1 L o Az cz zl y m d h i s W h1 h2
          have a97 := fun W h1 h2 => rFromLocal_calls b u A2 c2 L o Ar cr zl y m d h i s W h1 h2
          have hlen := flL_len b u L o zl y m d h i s
          generalize flL b u L o zl y m d h i s = q at *
          generalize flE b u L o zl y m d h i s = qe at *
          have hqe : (qe != qe) = false := by simp
          have hs1 := World.block_lt_of_cell? _ _ o0
          have hs2 := World.block_lt_of_cell? _ _ q0
          have hs3 := World.block_lt_of_cell? _ _ f0
          have hs4 := World.block_lt_of_cell? _ _ r0
          go_wp2_with fail
          clear hs1 hs2 hs3 hs4
          obtain ⟨w21, hw21⟩ : ∃ w21, wr.alloc (.cells #[.int .i64 y, .int .i64 m, .int .i64 d, .int .i64 h, .int .i64 i, .int .i64 s] 30) = w21 := ⟨_, rfl⟩
          try rw [hw21]
          have hB : Below wr.heap.size wr w21 := by rw [← hw21]; exact (Below.refl _ wr).alloc (by first | exact Nat.le_refl _ | (simp; done) | (simp; omega)) _
          have kx : w21.heap[wr.heap.size]? = some (.cells #[.int .i64 y, .int .i64 m, .int .i64 d, .int .i64 h, .int .i64 i, .int .i64 s] 30 (0, 0)) := by rw [← hw21]; exact al_new _ _ _ (by first | rfl | (simp; done) | (simp; omega))
          have x0 : w21.cell? ⟨wr.heap.size, 0, none⟩ = some (.int .i64 y) := blk_cell kx 0
          have x1 : w21.cell? ⟨wr.heap.size, 1, none⟩ = some (.int .i64 m) := blk_cell kx 1
          have x2 : w21.cell? ⟨wr.heap.size, 2, none⟩ = some (.int .i64 d) := blk_cell kx 2
          have x3 : w21.cell? ⟨wr.heap.size, 3, none⟩ = some (.int .i64 h) := blk_cell kx 3
          have x4 : w21.cell? ⟨wr.heap.size, 4, none⟩ = some (.int .i64 i) := blk_cell kx 4
          have x5 : w21.cell? ⟨wr.heap.size, 5, none⟩ = some (.int .i64 s) := blk_cell kx 5
          clear kx
          replace t0 := cell_on hB t0
          replace t1 := cell_on hB t1
          replace t2 := cell_on hB t2
          replace z0 := cell_on hB z0
          replace z1 := cell_on hB z1
          replace d0 := cell_on hB d0
          replace d1 := cell_on hB d1
          replace d2 := cell_on hB d2
          replace d3 := cell_on hB d3
          replace d4 := cell_on hB d4
          replace d5 := cell_on hB d5
          replace o0 := cell_on hB o0
          replace o1 := cell_on hB o1
          replace o2 := cell_on hB o2
          replace f0 := cell_on hB f0
          replace f1 := cell_on hB f1
          replace f2 := cell_on hB f2
          replace q0 := cell_on hB q0
          replace q1 := cell_on hB q1
          replace r0 := cell_on hB r0
          replace r1 := cell_on hB r1
          replace a0 := cell_on hB a0
          replace a1 := cell_on hB a1
          replace a2 := cell_on hB a2
          replace a3 := cell_on hB a3
          replace a4 := cell_on hB a4
          replace a5 := cell_on hB a5
          replace e0 := cell_on hB e0
          replace e1 := cell_on hB e1
          replace e2 := cell_on hB e2
          replace e3 := cell_on hB e3
          replace e4 := cell_on hB e4
          replace e5 := cell_on hB e5
          replace b0 := cell_on hB b0
          replace b1 := cell_on hB b1
          replace b2 := cell_on hB b2
          replace b3 := cell_on hB b3
          replace b4 := cell_on hB b4
          replace b5 := cell_on hB b5
          replace b6 := cell_on hB b6
          replace b7 := cell_on hB b7
          replace b8 := cell_on hB b8
          replace b9 := cell_on hB b9
          replace b10 := cell_on hB b10
          replace b11 := cell_on hB b11
          replace hR1 := Kd.C_below hR1 hB
          replace hZ1 := Kd.C_below hZ1 hB
          replace hC1 := Kd.C_below hC1 hB
          replace hC2 := Kd.C_below hC2 hB
          replace hCz := Kd.C_below hCz hB
          replace hCr := Kd.C_below hCr hB
          replace hv := hv.trans (hB.mono hv.size)
          replace hvL := hvL.trans (hB.mono hvL.size)
          clear hB hw21
          refine (a42 _ hC1 hCz).mono ?_
          rintro en w22 ⟨⟨F1, fc1, rfl, hF1⟩, hB⟩
          replace t0 := cell_on hB t0
          replace t1 := cell_on hB t1
          replace t2 := cell_on hB t2
          replace z0 := cell_on hB z0
          replace z1 := cell_on hB z1
          replace d0 := cell_on hB d0
          replace d1 := cell_on hB d1
          replace d2 := cell_on hB d2
          replace d3 := cell_on hB d3
          replace d4 := cell_on hB d4
          replace d5 := cell_on hB d5
          replace o0 := cell_on hB o0
          replace o1 := cell_on hB o1
          replace o2 := cell_on hB o2
          replace f0 := cell_on hB f0
          replace f1 := cell_on hB f1
          replace f2 := cell_on hB f2
          replace q0 := cell_on hB q0
          replace q1 := cell_on hB q1
          replace r0 := cell_on hB r0
          replace r1 := cell_on hB r1
          replace a0 := cell_on hB a0
          replace a1 := cell_on hB a1
          replace a2 := cell_on hB a2
          replace a3 := cell_on hB a3
          replace a4 := cell_on hB a4
          replace a5 := cell_on hB a5
          replace e0 := cell_on hB e0
          replace e1 := cell_on hB e1
          replace e2 := cell_on hB e2
          replace e3 := cell_on hB e3
          replace e4 := cell_on hB e4
          replace e5 := cell_on hB e5
          replace b0 := cell_on hB b0
          replace b1 := cell_on hB b1
          replace b2 := cell_on hB b2
          replace b3 := cell_on hB b3
          replace b4 := cell_on hB b4
          replace b5 := cell_on hB b5
          replace b6 := cell_on hB b6
          replace b7 := cell_on hB b7
          replace b8 := cell_on hB b8
          replace b9 := cell_on hB b9
          replace b10 := cell_on hB b10
          replace b11 := cell_on hB b11
          replace x0 := cell_on hB x0
          replace x1 := cell_on hB x1
          replace x2 := cell_on hB x2
          replace x3 := cell_on hB x3
          replace x4 := cell_on hB x4
          replace x5 := cell_on hB x5
          replace hR1 := Kd.C_below hR1 hB
          replace hZ1 := Kd.C_below hZ1 hB
          replace hC1 := Kd.C_below hC1 hB
          replace hC2 := Kd.C_below hC2 hB
          replace hCz := Kd.C_below hCz hB
          replace hCr := Kd.C_below hCr hB
          replace hv := hv.trans (hB.mono hv.size)
          replace hvL := hvL.trans (hB.mono hvL.size)
          clear hB a42
          go_wp2_with fail
          refine (a97 _ hC2 hCr).mono ?_
          rintro en w23 ⟨⟨F2, fc2, rfl, hF2⟩, hB⟩
          replace t0 := cell_on hB t0
          replace t1 := cell_on hB t1
          replace t2 := cell_on hB t2
          replace z0 := cell_on hB z0
          replace z1 := cell_on hB z1
          replace d0 := cell_on hB d0
          replace d1 := cell_on hB d1
          replace d2 := cell_on hB d2
          replace d3 := cell_on hB d3
          replace d4 := cell_on hB d4
          replace d5 := cell_on hB d5
          replace o0 := cell_on hB o0
          replace o1 := cell_on hB o1
          replace o2 := cell_on hB o2
          replace f0 := cell_on hB f0
          replace f1 := cell_on hB f1
          replace f2 := cell_on hB f2
          replace q0 := cell_on hB q0
          replace q1 := cell_on hB q1
          replace r0 := cell_on hB r0
          replace r1 := cell_on hB r1
          replace a0 := cell_on hB a0
          replace a1 := cell_on hB a1
          replace a2 := cell_on hB a2
          replace a3 := cell_on hB a3
          replace a4 := cell_on hB a4
          replace a5 := cell_on hB a5
          replace e0 := cell_on hB e0
          replace e1 := cell_on hB e1
          replace e2 := cell_on hB e2
          replace e3 := cell_on hB e3
          replace e4 := cell_on hB e4
          replace e5 := cell_on hB e5
          replace b0 := cell_on hB b0
          replace b1 := cell_on hB b1
          replace b2 := cell_on hB b2
          replace b3 := cell_on hB b3
          replace b4 := cell_on hB b4
          replace b5 := cell_on hB b5
          replace b6 := cell_on hB b6
          replace b7 := cell_on hB b7
          replace b8 := cell_on hB b8
          replace b9 := cell_on hB b9
          replace b10 := cell_on hB b10
          replace b11 := cell_on hB b11
          replace x0 := cell_on hB x0
          replace x1 := cell_on hB x1
          replace x2 := cell_on hB x2
          replace x3 := cell_on hB x3
          replace x4 := cell_on hB x4
          replace x5 := cell_on hB x5
          replace hR1 := Kd.C_below hR1 hB
          replace hZ1 := Kd.C_below hZ1 hB
          replace hC1 := Kd.C_below hC1 hB
          replace hC2 := Kd.C_below hC2 hB
          replace hCz := Kd.C_below hCz hB
          replace hCr := Kd.C_below hCr hB
          replace hF1 := Kd.C_below hF1 hB
          replace hv := hv.trans (hB.mono hv.size)
          replace hvL := hvL.trans (hB.mono hvL.size)
          clear hB a97
          have a35 := fun W h1 h2 => equal_calls F1 F2 fc1 fc2 q q W h1 h2 (by omega) (by omega)
          rw [decide_eq_true (rfl : q = q)] at a35
          go_wp2_with fail
          refine (a35 _ hF1 hF2).mono ?_
          rintro en w24 ⟨rfl, hB⟩
          replace t0 := cell_on hB t0
          replace t1 := cell_on hB t1
          replace t2 := cell_on hB t2
          replace z0 := cell_on hB z0
          replace z1 := cell_on hB z1
          replace d0 := cell_on hB d0
          replace d1 := cell_on hB d1
          replace d2 := cell_on hB d2
          replace d3 := cell_on hB d3
          replace d4 := cell_on hB d4
          replace d5 := cell_on hB d5
          replace o0 := cell_on hB o0
          replace o1 := cell_on hB o1
          replace o2 := cell_on hB o2
          replace f0 := cell_on hB f0
          replace f1 := cell_on hB f1
          replace f2 := cell_on hB f2
          replace q0 := cell_on hB q0
          replace q1 := cell_on hB q1
          replace r0 := cell_on hB r0
          replace r1 := cell_on hB r1
          replace a0 := cell_on hB a0
          replace a1 := cell_on hB a1
          replace a2 := cell_on hB a2
          replace a3 := cell_on hB a3
          replace a4 := cell_on hB a4
          replace a5 := cell_on hB a5
          replace e0 := cell_on hB e0
          replace e1 := cell_on hB e1
          replace e2 := cell_on hB e2
          replace e3 := cell_on hB e3
          replace e4 := cell_on hB e4
          replace e5 := cell_on hB e5
          replace b0 := cell_on hB b0
          replace b1 := cell_on hB b1
          replace b2 := cell_on hB b2
          replace b3 := cell_on hB b3
          replace b4 := cell_on hB b4
          replace b5 := cell_on hB b5
          replace b6 := cell_on hB b6
          replace b7 := cell_on hB b7
          replace b8 := cell_on hB b8
          replace b9 := cell_on hB b9
          replace b10 := cell_on hB b10
          replace b11 := cell_on hB b11
          replace x0 := cell_on hB x0
          replace x1 := cell_on hB x1
          replace x2 := cell_on hB x2
          replace x3 := cell_on hB x3
          replace x4 := cell_on hB x4
          replace x5 := cell_on hB x5
          replace hR1 := Kd.C_below hR1 hB
          replace hZ1 := Kd.C_below hZ1 hB
          replace hC1 := Kd.C_below hC1 hB
          replace hC2 := Kd.C_below hC2 hB
          replace hCz := Kd.C_below hCz hB
          replace hCr := Kd.C_below hCr hB
          replace hF1 := Kd.C_below hF1 hB
          replace hF2 := Kd.C_below hF2 hB
          replace hv := hv.trans (hB.mono hv.size)
          replace hvL := hvL.trans (hB.mono hvL.size)
          clear hB a35
          skip
          go_wp2
          go_roundw
          case rel => exact ⟨.inr (.inl (by go_num)), ⟨by exact hvL⟩⟩
          case measure => simp [intOf]
        · have hvL := HW.out
          have hEq := rfl (a := flL b u L o zl ly lm ld lh li ls)
          have a42 := fun W h1 h2 => FromLocal_calls b u A1 c1 L o Az cz zl ly lm ld lh li ls W h1 h2
          have a97 := fun W h1 h2 => rFromLocal_calls b u A2 c2 L o Ar cr zl ly lm ld lh li ls W h1 h2
          have hlen := flL_len b u L o zl ly lm ld lh li ls
          generalize flL b u L o zl ly lm ld lh li ls = q at *
          generalize flE b u L o zl ly lm ld lh li ls = qe at *
          have hqe : (qe != qe) = false := by simp
          have hs1 := World.block_lt_of_cell? _ _ o0
          have hs2 := World.block_lt_of_cell? _ _ q0
          have hs3 := World.block_lt_of_cell? _ _ f0
          have hs4 := World.block_lt_of_cell? _ _ r0
          go_wp2_with fail
          clear hs1 hs2 hs3 hs4
          obtain ⟨w21, hw21⟩ : ∃ w21, wr.alloc (.cells #[.int .i64 ly, .int .i64 lm, .int .i64 ld, .int .i64 lh, .int .i64 li, .int .i64 ls] 30) = w21 := ⟨_, rfl⟩
          try rw [hw21]
          have hB : Below wr.heap.size wr w21 := by rw [← hw21]; exact (Below.refl _ wr).alloc (by first | exact Nat.le_refl _ | (simp; done) | (simp; omega)) _
          have kx : w21.heap[wr.heap.size]? = some (.cells #[.int .i64 ly, .int .i64 lm, .int .i64 ld, .int .i64 lh, .int .i64 li, .int .i64 ls] 30 (0, 0)) := by rw [← hw21]; exact al_new _ _ _ (by first | rfl | (simp; done) | (simp; omega))
          have x0 : w21.cell? ⟨wr.heap.size, 0, none⟩ = some (.int .i64 ly) := blk_cell kx 0
          have x1 : w21.cell? ⟨wr.heap.size, 1, none⟩ = some (.int .i64 lm) := blk_cell kx 1
          have x2 : w21.cell? ⟨wr.heap.size, 2, none⟩ = some (.int .i64 ld) := blk_cell kx 2
          have x3 : w21.cell? ⟨wr.heap.size, 3, none⟩ = some (.int .i64 lh) := blk_cell kx 3
          have x4 : w21.cell? ⟨wr.heap.size, 4, none⟩ = some (.int .i64 li) := blk_cell kx 4
          have x5 : w21.cell? ⟨wr.heap.size, 5, none⟩ = some (.int .i64 ls) := blk_cell kx 5
          clear kx
          replace t0 := cell_on hB t0
          replace t1 := cell_on hB t1
          replace t2 := cell_on hB t2
          replace z0 := cell_on hB z0
          replace z1 := cell_on hB z1
          replace d0 := cell_on hB d0
          replace d1 := cell_on hB d1
          replace d2 := cell_on hB d2
          replace d3 := cell_on hB d3
          replace d4 := cell_on hB d4
          replace d5 := cell_on hB d5
          replace o0 := cell_on hB o0
          replace o1 := cell_on hB o1
          replace o2 := cell_on hB o2
          replace f0 := cell_on hB f0
          replace f1 := cell_on hB f1
          replace f2 := cell_on hB f2
          replace q0 := cell_on hB q0
          replace q1 := cell_on hB q1
          replace r0 := cell_on hB r0
          replace r1 := cell_on hB r1
          replace a0 := cell_on hB a0
          replace a1 := cell_on hB a1
          replace a2 := cell_on hB a2
          replace a3 := cell_on hB a3
          replace a4 := cell_on hB a4
          replace a5 := cell_on hB a5
          replace e0 := cell_on hB e0
          replace e1 := cell_on hB e1
          replace e2 := cell_on hB e2
          replace e3 := cell_on hB e3
          replace e4 := cell_on hB e4
          replace e5 := cell_on hB e5
          replace b0 := cell_on hB b0
          replace b1 := cell_on hB b1
          replace b2 := cell_on hB b2
          replace b3 := cell_on hB b3
          replace b4 := cell_on hB b4
          replace b5 := cell_on hB b5
          replace b6 := cell_on hB b6
          replace b7 := cell_on hB b7
          replace b8 := cell_on hB b8
          replace b9 := cell_on hB b9
          replace b10 := cell_on hB b10
          replace b11 := cell_on hB b11
          replace hR1 := Kd.C_below hR1 hB
          replace hZ1 := Kd.C_below hZ1 hB
          replace hC1 := Kd.C_below hC1 hB
          replace hC2 := Kd.C_below hC2 hB
          replace hCz := Kd.C_below hCz hB
          replace hCr := Kd.C_below hCr hB
          replace hv := hv.trans (hB.mono hv.size)
          replace hvL := hvL.trans (hB.mono hvL.size)
          clear hB hw21
          refine (a42 _ hC1 hCz).mono ?_
          rintro en w22 ⟨⟨F1, fc1, rfl, hF1⟩, hB⟩
          replace t0 := cell_on hB t0
          replace t1 := cell_on hB t1
          replace t2 := cell_on hB t2
          replace z0 := cell_on hB z0
          replace z1 := cell_on hB z1
          replace d0 := cell_on hB d0
          replace d1 := cell_on hB d1
          replace d2 := cell_on hB d2
          replace d3 := cell_on hB d3
          replace d4 := cell_on hB d4
          replace d5 := cell_on hB d5
          replace o0 := cell_on hB o0
          replace o1 := cell_on hB o1
          replace o2 := cell_on hB o2
          replace f0 := cell_on hB f0
          replace f1 := cell_on hB f1
          replace f2 := cell_on hB f2
          replace q0 := cell_on hB q0
          replace q1 := cell_on hB q1
          replace r0 := cell_on hB r0
          replace r1 := cell_on hB r1
          replace a0 := cell_on hB a0
          replace a1 := cell_on hB a1
          replace a2 := cell_on hB a2
          replace a3 := cell_on hB a3
          replace a4 := cell_on hB a4
          replace a5 := cell_on hB a5
          replace e0 := cell_on hB e0
          replace e1 := cell_on hB e1
          replace e2 := cell_on hB e2
          replace e3 := cell_on hB e3
          replace e4 := cell_on hB e4
          replace e5 := cell_on hB e5
          replace b0 := cell_on hB b0
          replace b1 := cell_on hB b1
          replace b2 := cell_on hB b2
          replace b3 := cell_on hB b3
          replace b4 := cell_on hB b4
          replace b5 := cell_on hB b5
          replace b6 := cell_on hB b6
          replace b7 := cell_on hB b7
          replace b8 := cell_on hB b8
          replace b9 := cell_on hB b9
          replace b10 := cell_on hB b10
          replace b11 := cell_on hB b11
          replace x0 := cell_on hB x0
          replace x1 := cell_on hB x1
          replace x2 := cell_on hB x2
          replace x3 := cell_on hB x3
          replace x4 := cell_on hB x4
          replace x5 := cell_on hB x5
          replace hR1 := Kd.C_below hR1 hB
          replace hZ1 := Kd.C_below hZ1 hB
          replace hC1 := Kd.C_below hC1 hB
          replace hC2 := Kd.C_below hC2 hB
          replace hCz := Kd.C_below hCz hB
          replace hCr := Kd.C_below hCr hB
          replace hv := hv.trans (hB.mono hv.size)
          replace hvL := hvL.trans (hB.mono hvL.size)
          clear hB a42
          go_wp2_with fail
          refine (a97 _ hC2 hCr).mono ?_
          rintro en w23 ⟨⟨F2, fc2, rfl, hF2⟩, hB⟩
          replace t0 := cell_on hB t0
          replace t1 := cell_on hB t1
          replace t2 := cell_on hB t2
          replace z0 := cell_on hB z0
          replace z1 := cell_on hB z1
          replace d0 := cell_on hB d0
          replace d1 := cell_on hB d1
          replace d2 := cell_on hB d2
          replace d3 := cell_on hB d3
          replace d4 := cell_on hB d4
          replace d5 := cell_on hB d5
          replace o0 := cell_on hB o0
          replace o1 := cell_on hB o1
          replace o2 := cell_on hB o2
          replace f0 := cell_on hB f0
          replace f1 := cell_on hB f1
          replace f2 := cell_on hB f2
          replace q0 := cell_on hB q0
          replace q1 := cell_on hB q1
          replace r0 := cell_on hB r0
          replace r1 := cell_on hB r1
          replace a0 := cell_on hB a0
          replace a1 := cell_on hB a1
          replace a2 := cell_on hB a2
          replace a3 := cell_on hB a3
          replace a4 := cell_on hB a4
          replace a5 := cell_on hB a5
          replace e0 := cell_on hB e0
          replace e1 := cell_on hB e1
          replace e2 := cell_on hB e2
          replace e3 := cell_on hB e3
          replace e4 := cell_on hB e4
          replace e5 := cell_on hB e5
          replace b0 := cell_on hB b0
          replace b1 := cell_on hB b1
          replace b2 := cell_on hB b2
          replace b3 := cell_on hB b3
          replace b4 := cell_on hB b4
          replace b5 := cell_on hB b5
          replace b6 := cell_on hB b6
          replace b7 := cell_on hB b7
          replace b8 := cell_on hB b8
          replace b9 := cell_on hB b9
          replace b10 := cell_on hB b10
          replace b11 := cell_on hB b11
          replace x0 := cell_on hB x0
          replace x1 := cell_on hB x1
          replace x2 := cell_on hB x2
          replace x3 := cell_on hB x3
          replace x4 := cell_on hB x4
          replace x5 := cell_on hB x5
          replace hR1 := Kd.C_below hR1 hB
          replace hZ1 := Kd.C_below hZ1 hB
          replace hC1 := Kd.C_below hC1 hB
          replace hC2 := Kd.C_below hC2 hB
          replace hCz := Kd.C_below hCz hB
          replace hCr := Kd.C_below hCr hB
          replace hF1 := Kd.C_below hF1 hB
          replace hv := hv.trans (hB.mono hv.size)
          replace hvL := hvL.trans (hB.mono hvL.size)
          clear hB a97
          have a35 := fun W h1 h2 => equal_calls F1 F2 fc1 fc2 q q W h1 h2 (by omega) (by omega)
          rw [decide_eq_true (rfl : q = q)] at a35
          go_wp2_with fail
          refine (a35 _ hF1 hF2).mono ?_
          rintro en w24 ⟨rfl, hB⟩
          replace t0 := cell_on hB t0
          replace t1 := cell_on hB t1
          replace t2 := cell_on hB t2
          replace z0 := cell_on hB z0
          replace z1 := cell_on hB z1
          replace d0 := cell_on hB d0
          replace d1 := cell_on hB d1
          replace d2 := cell_on hB d2
          replace d3 := cell_on hB d3
          replace d4 := cell_on hB d4
          replace d5 := cell_on hB d5
          replace o0 := cell_on hB o0
          replace o1 := cell_on hB o1
          replace o2 := cell_on hB o2
          replace f0 := cell_on hB f0
          replace f1 := cell_on hB f1
          replace f2 := cell_on hB f2
          replace q0 := cell_on hB q0
          replace q1 := cell_on hB q1
          replace r0 := cell_on hB r0
          replace r1 := cell_on hB r1
          replace a0 := cell_on hB a0
          replace a1 := cell_on hB a1
          replace a2 := cell_on hB a2
          replace a3 := cell_on hB a3
          replace a4 := cell_on hB a4
          replace a5 := cell_on hB a5
          replace e0 := cell_on hB e0
          replace e1 := cell_on hB e1
          replace e2 := cell_on hB e2
          replace e3 := cell_on hB e3
          replace e4 := cell_on hB e4
          replace e5 := cell_on hB e5
          replace b0 := cell_on hB b0
          replace b1 := cell_on hB b1
          replace b2 := cell_on hB b2
          replace b3 := cell_on hB b3
          replace b4 := cell_on hB b4
          replace b5 := cell_on hB b5
          replace b6 := cell_on hB b6
          replace b7 := cell_on hB b7
          replace b8 := cell_on hB b8
          replace b9 := cell_on hB b9
          replace b10 := cell_on hB b10
          replace b11 := cell_on hB b11
          replace x0 := cell_on hB x0
          replace x1 := cell_on hB x1
          replace x2 := cell_on hB x2
          replace x3 := cell_on hB x3
          replace x4 := cell_on hB x4
          replace x5 := cell_on hB x5
          replace hR1 := Kd.C_below hR1 hB
          replace hZ1 := Kd.C_below hZ1 hB
          replace hC1 := Kd.C_below hC1 hB
          replace hC2 := Kd.C_below hC2 hB
          replace hCz := Kd.C_below hCz hB
          replace hCr := Kd.C_below hCr hB
          replace hF1 := Kd.C_below hF1 hB
          replace hF2 := Kd.C_below hF2 hB
          replace hv := hv.trans (hB.mono hv.size)
          replace hvL := hvL.trans (hB.mono hvL.size)
          clear hB a35
          skip
          go_wp2
          go_roundw
          case rel => exact ⟨.inr (.inr (by go_num)), ⟨by exact hvL⟩⟩
          case measure => simp [intOf]
        · skip
          have a23 := fun W h1 h2 => kept_calls b u A1 A c1 c L W h1 h2 (by omega)
          have a98 := fun W h1 h2 => zequal_calls Az zA cz zc zl zl W h1 h2 (by omega) (by omega)
          rw [decide_eq_true (rfl : zl = zl)] at a98
          go_wp2_with fail
          refine (a23 _ hC1 hR1).mono ?_
          rintro en w31 ⟨rfl, hB⟩
          replace t0 := cell_on hB t0
          replace t1 := cell_on hB t1
          replace t2 := cell_on hB t2
          replace z0 := cell_on hB z0
          replace z1 := cell_on hB z1
          replace d0 := cell_on hB d0
          replace d1 := cell_on hB d1
          replace d2 := cell_on hB d2
          replace d3 := cell_on hB d3
          replace d4 := cell_on hB d4
          replace d5 := cell_on hB d5
          replace o0 := cell_on hB o0
          replace o1 := cell_on hB o1
          replace o2 := cell_on hB o2
          replace f0 := cell_on hB f0
          replace f1 := cell_on hB f1
          replace f2 := cell_on hB f2
          replace q0 := cell_on hB q0
          replace q1 := cell_on hB q1
          replace r0 := cell_on hB r0
          replace r1 := cell_on hB r1
          replace a0 := cell_on hB a0
          replace a1 := cell_on hB a1
          replace a2 := cell_on hB a2
          replace a3 := cell_on hB a3
          replace a4 := cell_on hB a4
          replace a5 := cell_on hB a5
          replace e0 := cell_on hB e0
          replace e1 := cell_on hB e1
          replace e2 := cell_on hB e2
          replace e3 := cell_on hB e3
          replace e4 := cell_on hB e4
          replace e5 := cell_on hB e5
          replace b0 := cell_on hB b0
          replace b1 := cell_on hB b1
          replace b2 := cell_on hB b2
          replace b3 := cell_on hB b3
          replace b4 := cell_on hB b4
          replace b5 := cell_on hB b5
          replace b6 := cell_on hB b6
          replace b7 := cell_on hB b7
          replace b8 := cell_on hB b8
          replace b9 := cell_on hB b9
          replace b10 := cell_on hB b10
          replace b11 := cell_on hB b11
          replace hR1 := Kd.C_below hR1 hB
          replace hZ1 := Kd.C_below hZ1 hB
          replace hC1 := Kd.C_below hC1 hB
          replace hC2 := Kd.C_below hC2 hB
          replace hCz := Kd.C_below hCz hB
          replace hCr := Kd.C_below hCr hB
          replace hv := hv.trans (hB.mono hv.size)
          clear hB a23
          go_wp2_with fail
          refine (a98 _ hCz hZ1).mono ?_
          rintro en w32 ⟨rfl, hB⟩
          replace t0 := cell_on hB t0
          replace t1 := cell_on hB t1
          replace t2 := cell_on hB t2
          replace z0 := cell_on hB z0
          replace z1 := cell_on hB z1
          replace d0 := cell_on hB d0
          replace d1 := cell_on hB d1
          replace d2 := cell_on hB d2
          replace d3 := cell_on hB d3
          replace d4 := cell_on hB d4
          replace d5 := cell_on hB d5
          replace o0 := cell_on hB o0
          replace o1 := cell_on hB o1
          replace o2 := cell_on hB o2
          replace f0 := cell_on hB f0
          replace f1 := cell_on hB f1
          replace f2 := cell_on hB f2
          replace q0 := cell_on hB q0
          replace q1 := cell_on hB q1
          replace r0 := cell_on hB r0
          replace r1 := cell_on hB r1
          replace a0 := cell_on hB a0
          replace a1 := cell_on hB a1
          replace a2 := cell_on hB a2
          replace a3 := cell_on hB a3
          replace a4 := cell_on hB a4
          replace a5 := cell_on hB a5
          replace e0 := cell_on hB e0
          replace e1 := cell_on hB e1
          replace e2 := cell_on hB e2
          replace e3 := cell_on hB e3
          replace e4 := cell_on hB e4
          replace e5 := cell_on hB e5
          replace b0 := cell_on hB b0
          replace b1 := cell_on hB b1
          replace b2 := cell_on hB b2
          replace b3 := cell_on hB b3
          replace b4 := cell_on hB b4
          replace b5 := cell_on hB b5
          replace b6 := cell_on hB b6
          replace b7 := cell_on hB b7
          replace b8 := cell_on hB b8
          replace b9 := cell_on hB b9
          replace b10 := cell_on hB b10
          replace b11 := cell_on hB b11
          replace hR1 := Kd.C_below hR1 hB
          replace hZ1 := Kd.C_below hZ1 hB
          replace hC1 := Kd.C_below hC1 hB
          replace hC2 := Kd.C_below hC2 hB
          replace hCz := Kd.C_below hCz hB
          replace hCr := Kd.C_below hCr hB
          replace hv := hv.trans (hB.mono hv.size)
          clear hB a98
          go_wp2
          go_ret
          exact ⟨rfl, hv⟩
end Go.Proofs.Ytleipbanadnchaa.C
