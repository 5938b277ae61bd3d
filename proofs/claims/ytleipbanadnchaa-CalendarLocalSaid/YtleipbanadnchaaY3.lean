/- Zi, Zj, Zk, Zl: joined. -/
import Derived.OwnWalk
import Derived.Test.YtleipbanadnchaaY1
import Derived.Test.YtleipbanadnchaaCk
import Derived.Test.YtleipbanadnchaaDa
import Derived.Test.YtleipbanadnchaaY2
import Derived.Test.YtleipbanadnchaaEe
import Derived.Test.YtleipbanadnchaaCh
import Derived.Test.YtleipbanadnchaaFa
section
/- The contract of the reference's FromLocal, by hand. -/
namespace Go.Proofs.Ytleipbanadnchaa.C
open Go.RowKit Go.Shelf Go.Maps Go.Proofs.YtleipbanadnchaaW.PrintWords Go.Proofs.YtleipbanadnchaaW.PrintLast Go.Proofs.YtleipbanadnchaaW.PrintMore
set_option linter.unusedVariables false
set_option linter.unusedSimpArgs false
theorem downF_snoc : ∀ (k : Nat) (n : Int), downF (k + 1) n = downF k n ++ [n - k]
  | 0, n => by simp [downF]
  | k + 1, n => by
    rw [downF, downF_snoc k (n - 1), downF, List.cons_append]
    congr 3
    omega
/-- The seconds for the first offsets. -/
def localT (u : Int) (L : List (Int × Int)) (o : Int) (l : List (Int × Int)) (y m d h i s : Int) (j : Nat) : List Int := ((downF j 1440).filter (fun q => decide (q ∈ offL o l))).filterMap (secF u L o l y m d h i s)
theorem localT_snoc (u : Int) (L : List (Int × Int)) (o : Int) (l : List (Int × Int)) (y m d h i s : Int) (j : Nat) : localT u L o l y m d h i s (j + 1) = if 1440 - (j : Int) ∈ offL o l then localT u L o l y m d h i s j ++ (secF u L o l y m d h i s (1440 - j)).toList else localT u L o l y m d h i s j := by
  unfold localT
  rw [downF_snoc, List.filter_append, List.filterMap_append]
  by_cases hm : 1440 - (j : Int) ∈ offL o l
  · rw [if_pos hm, List.filter_cons, if_pos (by simpa using hm)]
    congr 1
  · rw [if_neg hm, List.filter_cons, if_neg (by simpa using hm)]
    simp
theorem localT_len (u : Int) (L : List (Int × Int)) (o : Int) (l : List (Int × Int)) (y m d h i s : Int) (j : Nat) : (localT u L o l y m d h i s j).length ≤ j := by
  unfold localT
  have hd : ∀ (k : Nat) (n : Int), (downF k n).length = k := by
    intro k
    induction k with
    | zero => intro n; rfl
    | succ k ih => intro n; simp [downF, ih]
  have h1 := List.length_filterMap_le (secF u L o l y m d h i s) ((downF j 1440).filter (fun q => decide (q ∈ offL o l)))
  have h2 := List.length_filter_le (fun q => decide (q ∈ offL o l)) (downF j 1440)
  rw [hd] at h2
  omega
theorem fl2_keep {w7 W X : World} {v : Value} {out : List Int} (h : Below w7.heap.size w7 W ∧ W.ownsRow w7.heap.size 3 1 v out.length (icells out)) (hB : Below W.heap.size W X) : Below w7.heap.size w7 X ∧ X.ownsRow w7.heap.size 3 1 v out.length (icells out) :=
  ⟨h.1.trans (hB.mono h.1.size), own_move h.2 (fun k hk => hB.block k (own_lt h.2 k hk))⟩
set_option maxHeartbeats 8000000 in
set_option maxRecDepth 100000 in
theorem rfl_main (b u : Int) (A : Option Addr) (c : Nat) (L : List (Int × Int)) (o : Int) (zA : Option Addr) (zc : Nat) (zl : List (Int × Int)) (y m d h i s : Int) (w : World) (hr : Kd.C kl w A L.length L) (hz : Kd.C kl w zA zl.length zl)
    (hk : checkF b L u = 0) (hzk : zcheckF o zl = 0) (hok : okD y m d = true) (hck : clkOk h i s) :
    Calls Try.prog 97 #[tabV b A L.length c u, zoneV o zA zl.length zc, dateV y m d h i s] w fun e w' => ∃ A' c', Kd.C (Kd.int .i64) w' A' (localL u L o zl y m d h i s).length (localL u L o zl y m d h i s) ∧
      e = .returned (.tuple #[.slice A' (localL u L o zl y m d h i s).length c', .int .i64 (if localL u L o zl y m d h i s = [] then 4 else 0)]) ∧ Below w.heap.size w w' := by
  obtain ⟨E, hE⟩ : ∃ E, (if localL u L o zl y m d h i s = [] then (4 : Int) else 0) = E := ⟨_, rfl⟩
  rw [hE]
  obtain ⟨q, hq⟩ : ∃ q, localL u L o zl y m d h i s = q := ⟨_, rfl⟩
  rw [hq]
  rw [hq] at hE
  have HE := Aside0.mk hE
  have HQ : Aside0 (localT u L o zl y m d h i s 2881 = q) := ⟨hq⟩
  clear hE hq
  have HR := Aside0.mk hr
  have HZ := Aside0.mk hz
  have HK := Aside0.mk hk
  have HZK := Aside0.mk hzk
  have HOK := Aside0.mk hok
  have HCK := Aside0.mk hck
  have hzl := (zcheckF_right hzk).1
  have a53 := fun w h => rcheck_calls b u A c L w h
  have a95 := fun w h => rzcheck_calls o zA zc zl w h
  have a44 := fun w => refDay_true y m d hok w
  have a81 := fun w => rin_calls h 0 23 w
  have b81 := fun w => rin_calls i 0 59 w
  have c81 := fun w => rin_calls s 0 60 w
  rw [hk] at a53
  rw [hzk] at a95
  rw [show (decide (0 ≤ h) && decide (h ≤ 23)) = true by unfold clkOk at hck; simp; omega] at a81
  rw [show (decide (0 ≤ i) && decide (i ≤ 59)) = true by unfold clkOk at hck; simp; omega] at b81
  rw [show (decide (0 ≤ s) && decide (s ≤ 60)) = true by unfold clkOk at hck; simp; omega] at c81
  obtain ⟨ii, hii, hz0, hz1, hz2⟩ := info_parts info3n
  clear hr hz hk hzk hok hck
  obtain ⟨w1, hw1⟩ : ∃ w1, ((w.alloc (.cells #[.int .i64 b, .slice A L.length c, .int .i64 u] 90)).alloc (.cells #[.int .i64 o, .slice zA zl.length zc] 143)).alloc (.cells #[.int .i64 y, .int .i64 m, .int .i64 d, .int .i64 h, .int .i64 i, .int .i64 s] 98) = w1 := ⟨_, rfl⟩
  have hv : Below w.heap.size w w1 := by rw [← hw1]; exact (((Below.refl _ w).alloc (Nat.le_refl _) _).alloc (by simp) _).alloc (by simp; omega) _
  have kt : w1.heap[w.heap.size]? = some (.cells #[.int .i64 b, .slice A L.length c, .int .i64 u] 90 (0, 0)) := by rw [← hw1]; exact al_old (al_old (al_new _ _ _ rfl))
  have kz : w1.heap[w.heap.size + 1]? = some (.cells #[.int .i64 o, .slice zA zl.length zc] 143 (0, 0)) := by rw [← hw1]; exact al_old (al_new _ _ _ (by simp))
  have kd : w1.heap[w.heap.size + 1 + 1]? = some (.cells #[.int .i64 y, .int .i64 m, .int .i64 d, .int .i64 h, .int .i64 i, .int .i64 s] 98 (0, 0)) := by rw [← hw1]; exact al_new _ _ _ (by simp)
  have t0 : w1.cell? ⟨w.heap.size, 0, none⟩ = some (.int .i64 b) := blk_cell kt 0
  have t1 : w1.cell? ⟨w.heap.size, 1, none⟩ = some (.slice A L.length c) := blk_cell kt 1
  have t2 : w1.cell? ⟨w.heap.size, 2, none⟩ = some (.int .i64 u) := blk_cell kt 2
  have z0 : w1.cell? ⟨w.heap.size + 1, 0, none⟩ = some (.int .i64 o) := blk_cell kz 0
  have z1 : w1.cell? ⟨w.heap.size + 1, 1, none⟩ = some (.slice zA zl.length zc) := blk_cell kz 1
  have d0 : w1.cell? ⟨w.heap.size + 1 + 1, 0, none⟩ = some (.int .i64 y) := blk_cell kd 0
  have d1 : w1.cell? ⟨w.heap.size + 1 + 1, 1, none⟩ = some (.int .i64 m) := blk_cell kd 1
  have d2 : w1.cell? ⟨w.heap.size + 1 + 1, 2, none⟩ = some (.int .i64 d) := blk_cell kd 2
  have d3 : w1.cell? ⟨w.heap.size + 1 + 1, 3, none⟩ = some (.int .i64 h) := blk_cell kd 3
  have d4 : w1.cell? ⟨w.heap.size + 1 + 1, 4, none⟩ = some (.int .i64 i) := blk_cell kd 4
  have d5 : w1.cell? ⟨w.heap.size + 1 + 1, 5, none⟩ = some (.int .i64 s) := blk_cell kd 5
  clear kt kz kd
  have hR1 := Kd.C_below HR.out hv
  have hZ1 := Kd.C_below HZ.out hv
  go_enter Try.func97, Try.ntmps97
  go_wp2_with fail
  try rw [hw1]
  clear hw1
  refine (a53 _ hR1).mono ?_
  rintro en w2 ⟨rfl, hB⟩
  replace t0 := cell_on hB t0
  replace t1 := cell_on hB t1
  replace t2 := cell_on hB t2
  replace z0 := cell_on hB z0
  replace z1 := cell_on hB z1
  replace d0 := cell_on hB d0
  replace d1 := cell_on hB d1
  replace d2 := cell_on hB d2
  replace d3 := cell_on hB d3
  replace d4 := cell_on hB d4
  replace d5 := cell_on hB d5
  replace hR1 := Kd.C_below hR1 hB
  replace hZ1 := Kd.C_below hZ1 hB
  replace hv := hv.trans (hB.mono hv.size)
  clear hB a53
  go_wp2_with fail
  refine (a95 _ hZ1).mono ?_
  rintro en w3 ⟨rfl, hB⟩
  replace t0 := cell_on hB t0
  replace t1 := cell_on hB t1
  replace t2 := cell_on hB t2
  replace z0 := cell_on hB z0
  replace z1 := cell_on hB z1
  replace d0 := cell_on hB d0
  replace d1 := cell_on hB d1
  replace d2 := cell_on hB d2
  replace d3 := cell_on hB d3
  replace d4 := cell_on hB d4
  replace d5 := cell_on hB d5
  replace hR1 := Kd.C_below hR1 hB
  replace hZ1 := Kd.C_below hZ1 hB
  replace hv := hv.trans (hB.mono hv.size)
  clear hB a95
  go_wp2_with fail
  refine (a44 _).mono ?_
  rintro en w4 ⟨rfl, hB⟩
  replace t0 := cell_on hB t0
  replace t1 := cell_on hB t1
  replace t2 := cell_on hB t2
  replace z0 := cell_on hB z0
  replace z1 := cell_on hB z1
  replace d0 := cell_on hB d0
  replace d1 := cell_on hB d1
  replace d2 := cell_on hB d2
  replace d3 := cell_on hB d3
  replace d4 := cell_on hB d4
  replace d5 := cell_on hB d5
  replace hR1 := Kd.C_below hR1 hB
  replace hZ1 := Kd.C_below hZ1 hB
  replace hv := hv.trans (hB.mono hv.size)
  clear hB a44
  go_wp2_with fail
  refine (a81 _).mono ?_
  rintro en w5 ⟨rfl, hB⟩
  replace t0 := cell_on hB t0
  replace t1 := cell_on hB t1
  replace t2 := cell_on hB t2
  replace z0 := cell_on hB z0
  replace z1 := cell_on hB z1
  replace d0 := cell_on hB d0
  replace d1 := cell_on hB d1
  replace d2 := cell_on hB d2
  replace d3 := cell_on hB d3
  replace d4 := cell_on hB d4
  replace d5 := cell_on hB d5
  replace hR1 := Kd.C_below hR1 hB
  replace hZ1 := Kd.C_below hZ1 hB
  replace hv := hv.trans (hB.mono hv.size)
  clear hB a81
  go_wp2_with fail
  refine (b81 _).mono ?_
  rintro en w6 ⟨rfl, hB⟩
  replace t0 := cell_on hB t0
  replace t1 := cell_on hB t1
  replace t2 := cell_on hB t2
  replace z0 := cell_on hB z0
  replace z1 := cell_on hB z1
  replace d0 := cell_on hB d0
  replace d1 := cell_on hB d1
  replace d2 := cell_on hB d2
  replace d3 := cell_on hB d3
  replace d4 := cell_on hB d4
  replace d5 := cell_on hB d5
  replace hR1 := Kd.C_below hR1 hB
  replace hZ1 := Kd.C_below hZ1 hB
  replace hv := hv.trans (hB.mono hv.size)
  clear hB b81
  go_wp2_with fail
  refine (c81 _).mono ?_
  rintro en w7 ⟨rfl, hB⟩
  replace t0 := cell_on hB t0
  replace t1 := cell_on hB t1
  replace t2 := cell_on hB t2
  replace z0 := cell_on hB z0
  replace z1 := cell_on hB z1
  replace d0 := cell_on hB d0
  replace d1 := cell_on hB d1
  replace d2 := cell_on hB d2
  replace d3 := cell_on hB d3
  replace d4 := cell_on hB d4
  replace d5 := cell_on hB d5
  replace hR1 := Kd.C_below hR1 hB
  replace hZ1 := Kd.C_below hZ1 hB
  replace hv := hv.trans (hB.mono hv.size)
  clear hB c81
  go_wp2_with fail
  have HV := Aside0.mk hv
  have HR2 := Aside0.mk hR1
  have HZ2 := Aside0.mk hZ1
  clear hv hR1 hZ1
  go_loopw [13, 12] (fun v13 v12 wr => ∃ (j : Nat), j ≤ 2881 ∧ v13 = .int .i64 (1440 - (j : Int)) ∧ Aside0 (Below w7.heap.size w7 wr ∧ wr.ownsRow w7.heap.size 3 1 v12 (localT u L o zl y m d h i s j).length (icells (localT u L o zl y m d h i s j)))) (fun v _ _ => (intOf v + 1441).toNat)
  case atStart => exact ⟨0, by omega, rfl, ⟨Below.refl _ _, own_nil _ _ _ _⟩⟩
  case round =>
    obtain ⟨j, hj, rfl, HI⟩ := hrel
    have t0' := cell_on HI.out.1 t0
    have t1' := cell_on HI.out.1 t1
    have t2' := cell_on HI.out.1 t2
    have z0' := cell_on HI.out.1 z0
    have z1' := cell_on HI.out.1 z1
    have d0' := cell_on HI.out.1 d0
    have d1' := cell_on HI.out.1 d1
    have d2' := cell_on HI.out.1 d2
    have d3' := cell_on HI.out.1 d3
    have d4' := cell_on HI.out.1 d4
    have d5' := cell_on HI.out.1 d5
    clear t0 t1 t2 z0 z1 d0 d1 d2 d3 d4 d5
    have hlen := localT_len u L o zl y m d h i s j
    have hsnoc := localT_snoc u L o zl y m d h i s j
    have HSN := Aside0.mk hsnoc
    clear hsnoc
    by_cases hlt : j < 2881
    · have dn : decide (-1440 ≤ 1440 - (j : Int)) = true := decide_eq_true (by omega)
      obtain ⟨n, hn⟩ : ∃ n, 1440 - (j : Int) = n := ⟨_, rfl⟩
      rw [hn] at dn HSN ⊢
      have hnb : -1440 ≤ n ∧ n ≤ 1440 := by omega
      have HNJ := Aside0.mk hn
      generalize localT u L o zl y m d h i s j = out at *
      clear hn
      have HI0 : Aside0 ((o == n) = decide (n ∈ offL o (zl.take 0))) := ⟨by
        rcases Classical.em (o = n) with e | e
        · subst e; simp [offL]
        · have h1 : ¬ n ∈ offL o (zl.take 0) := by simp [offL]; exact fun h => e h.symm
          rw [decide_eq_false h1]; exact beq_eq_false_iff_ne.2 e⟩
      go_wp2_with fail
      clear dn
      have hwz : wr = wr := rfl
      go_loopw [14, 15] (fun v14 v15 wx => ∃ i : Nat, i ≤ zl.length ∧ v15 = .int .i64 i ∧ v14 = .bool (decide (n ∈ offL o (zl.take i))) ∧ wx = wr) (fun _ v _ => zl.length - (intOf v).toNat)
      case atStart => exact ⟨0, by omega, rfl, by rw [HI0.out], by first | rfl | trivial⟩
      case round =>
        obtain ⟨k, hi, rfl, rfl, rfl⟩ := hrel
        by_cases hil : k < zl.length
        · obtain ⟨ad, rfl, hc0, hc1⟩ := C_leap (Kd.C_below HZ2.out HI.out.1) k hil hil
          have hot := offL_take o hil
          generalize zl[k] = x at *
          obtain ⟨xd, xs⟩ := x
          simp only at hc0 hc1 hot
          have HOT := Aside0.mk hot
          have d1 : decide ((k : Int) < (zl.length : Int)) = true := decide_eq_true (by omega)
          clear hot hwz
          cases hb : decide (n ∈ offL o (zl.take k))
          · have HB := Aside0.mk (of_decide_eq_false hb)
            have HN : Aside0 ((xs == n) = decide (n ∈ offL o (zl.take (k + 1)))) := ⟨by
              rw [HOT.out]
              rcases Classical.em (xs = n) with e | e
              · subst e; simp
              · have h1 : ¬ n ∈ offL o (zl.take k) ++ [xs] := by
                  intro h
                  rcases List.mem_append.1 h with h | h
                  · exact HB.out h
                  · simp at h; exact e h.symm
                rw [decide_eq_false h1]; exact beq_eq_false_iff_ne.2 e⟩
            clear hb
            go_wp2
            go_roundw
            case rel => exact ⟨k + 1, by omega, by go_num, by rw [HN.out], by first | rfl | trivial⟩
            case measure => simp [intOf]; omega
          · have HN : Aside0 (decide (n ∈ offL o (zl.take (k + 1))) = true) := ⟨by
              rw [HOT.out]; exact decide_eq_true (List.mem_append_left _ (of_decide_eq_true hb))⟩
            clear hb
            go_wp2
            go_roundw
            case rel => exact ⟨k + 1, by omega, by go_num, by rw [HN.out], by first | rfl | trivial⟩
            case measure => simp [intOf]; omega
        · obtain rfl : k = zl.length := by omega
          have htk : zl.take zl.length = zl := List.take_length
          rw [htk]
          clear htk hwz
          cases hb : decide (n ∈ offL o zl)
          · have HN : Aside0 (localT u L o zl y m d h i s (j + 1) = out) := ⟨by rw [HSN.out, if_neg (of_decide_eq_false hb)]⟩
            clear hb
            go_wp2
            go_roundw
            case rel => exact ⟨j + 1, by omega, by rw [← HNJ.out]; go_num, by rw [HN.out]; exact HI⟩
            case measure => rw [← HNJ.out]; simp [intOf]; omega
          · skip
            have HMEM := Aside0.mk (of_decide_eq_true hb)
            clear hb
            have hw : IntKind.i64.wrap (-n) = -n := iw _ (by omega) (by omega)
            have a119 := fun W => moved_calls y m d h i s (-n) HOK.out ⟨HCK.out.1, HCK.out.2.1⟩ ⟨HCK.out.2.2.1, HCK.out.2.2.2.1⟩ ⟨by omega, by omega⟩ W
            unfold shiftV at a119
            cases hkn : knownD (shN y m d h i (-n) / 1440)
            · have HN : Aside0 (localT u L o zl y m d h i s (j + 1) = out) := ⟨by rw [HSN.out, if_pos HMEM.out, secF_none1 hkn]; simp⟩
              rw [hkn] at a119
              rw [if_neg (by simp)] at a119
              go_wp2_with fail
              refine (a119 _).mono ?_
              rintro en W1 ⟨rfl, hB1⟩
              have HI1 : Aside0 (Below w7.heap.size w7 (W1.alloc (.cells #[.int .i64 0, .int .i64 0, .int .i64 0, .int .i64 0, .int .i64 0, .int .i64 0] 98)) ∧ (W1.alloc (.cells #[.int .i64 0, .int .i64 0, .int .i64 0, .int .i64 0, .int .i64 0, .int .i64 0] 98)).ownsRow w7.heap.size 3 1 u12 out.length (icells out)) := ⟨fl2_keep HI.out (hB1.alloc hB1.size _)⟩
              clear hB1 a119
              go_wp2
              go_roundw
              case rel => exact ⟨j + 1, by omega, by rw [← HNJ.out]; go_num, by rw [HN.out]; exact HI1⟩
              case measure => rw [← HNJ.out]; simp [intOf]; omega
            · rw [hkn] at a119
              rw [if_pos rfl] at a119
              have a57 := fun W hc => rSeconds_calls b u A c L (cY (shN y m d h i (-n) / 1440)) (cM (shN y m d h i (-n) / 1440)) (cD (shN y m d h i (-n) / 1440)) (shN y m d h i (-n) / 60 % 24) (shN y m d h i (-n) % 60) s W hc
              have hcd := civ_dayN hkn
              unfold secondsR at a57
              rw [if_pos HK.out, hcd] at a57
              have HN2 := Aside0.mk (secF_none2 (u := u) (L := L) (o := o) (l := zl) (y := y) (m := m) (d := d) (h := h) (i := i) (s := s) (q := n))
              have HN3 := Aside0.mk (fun hx z he => secF_some2 (u := u) (L := L) (o := o) (l := zl) (y := y) (m := m) (d := d) (h := h) (i := i) (s := s) (q := n) (x := z) hkn hx he)
              generalize shN y m d h i (-n) / 1440 = D at *
              generalize cY D = Y at *
              generalize cM D = M at *
              generalize cD D = K at *
              generalize shN y m d h i (-n) / 60 % 24 = P at *
              generalize shN y m d h i (-n) % 60 = R at *
              clear hcd hkn
              have hzt := World.block_lt_of_cell? _ _ t0'
              have hzz := World.block_lt_of_cell? _ _ z0'
              have hzt2 : w.heap.size < wr.heap.size := hzt
              cases hso : secOk L u Y M K P R s
              · have HN : Aside0 (localT u L o zl y m d h i s (j + 1) = out) := ⟨by rw [HSN.out, if_pos HMEM.out, HN2.out hso]; simp⟩
                rw [hso] at a57
                rw [if_neg (by simp)] at a57
                simp only at a57
                clear HN2 HN3 hso
                go_wp2_with fail
                refine (a119 _).mono ?_
                rintro en W1 ⟨rfl, hB1⟩
                have HI1 := Aside0.mk (fl2_keep HI.out hB1)
                have hzt1 : w.heap.size < W1.heap.size := Nat.lt_of_lt_of_le hzt2 hB1.size
                have hzz1 : w.heap.size + 1 < W1.heap.size := Nat.lt_of_lt_of_le hzz hB1.size
                have t01 := cell_on hB1 t0'
                have t11 := cell_on hB1 t1'
                have t21 := cell_on hB1 t2'
                have z01 := cell_on hB1 z0'
                have z11 := cell_on hB1 z1'
                clear hB1 a119 hw
                go_wp2_with fail
                obtain ⟨W1b, hW1b⟩ : ∃ W1b, W1.alloc (.cells #[.int .i64 Y, .int .i64 M, .int .i64 K, .int .i64 P, .int .i64 R, .int .i64 s] 98) = W1b := ⟨_, rfl⟩
                try rw [hW1b]
                have hBb : Below W1.heap.size W1 W1b := by rw [← hW1b]; exact (Below.refl _ W1).alloc (Nat.le_refl _) _
                have HI1b := Aside0.mk (fl2_keep HI1.out hBb)
                replace t01 := cell_on hBb t01
                replace t11 := cell_on hBb t11
                replace t21 := cell_on hBb t21
                replace z01 := cell_on hBb z01
                replace z11 := cell_on hBb z11
                clear hW1b hBb hzt1 hzz1
                refine (a57 _ (Kd.C_below HR2.out HI1b.out.1)).mono ?_
                rintro en W2 ⟨rfl, hB2⟩
                have HI2 := Aside0.mk (fl2_keep HI1b.out hB2)
                replace t01 := cell_on hB2 t01
                replace t11 := cell_on hB2 t11
                replace t21 := cell_on hB2 t21
                replace z01 := cell_on hB2 z01
                replace z11 := cell_on hB2 z11
                clear hB2 a57
                go_wp2
                go_roundw
                case rel => exact ⟨j + 1, by omega, by rw [← HNJ.out]; go_num, by rw [HN.out]; exact HI2⟩
                case measure => rw [← HNJ.out]; simp [intOf]; omega
              · have hX := HN3.out hso _ rfl
                obtain ⟨z, hz⟩ : ∃ z, beginF L D + (3600 * P + 60 * R + s) = z := ⟨_, rfl⟩
                rw [hso] at a57
                rw [if_pos rfl, hz] at a57
                rw [hz] at hX
                simp only at a57
                have HX := Aside0.mk hX
                have a118 := fun W hh => rholds_calls o zA zc zl z W hh (by omega)
                clear HN2 HN3 hso hX hz
                go_wp2_with fail
                refine (a119 _).mono ?_
                rintro en W1 ⟨rfl, hB1⟩
                have HI1 := Aside0.mk (fl2_keep HI.out hB1)
                have hzt1 : w.heap.size < W1.heap.size := Nat.lt_of_lt_of_le hzt2 hB1.size
                have hzz1 : w.heap.size + 1 < W1.heap.size := Nat.lt_of_lt_of_le hzz hB1.size
                have t01 := cell_on hB1 t0'
                have t11 := cell_on hB1 t1'
                have t21 := cell_on hB1 t2'
                have z01 := cell_on hB1 z0'
                have z11 := cell_on hB1 z1'
                clear hB1 a119 hw
                go_wp2_with fail
                obtain ⟨W1b, hW1b⟩ : ∃ W1b, W1.alloc (.cells #[.int .i64 Y, .int .i64 M, .int .i64 K, .int .i64 P, .int .i64 R, .int .i64 s] 98) = W1b := ⟨_, rfl⟩
                try rw [hW1b]
                have hBb : Below W1.heap.size W1 W1b := by rw [← hW1b]; exact (Below.refl _ W1).alloc (Nat.le_refl _) _
                have HI1b := Aside0.mk (fl2_keep HI1.out hBb)
                replace t01 := cell_on hBb t01
                replace t11 := cell_on hBb t11
                replace t21 := cell_on hBb t21
                replace z01 := cell_on hBb z01
                replace z11 := cell_on hBb z11
                clear hW1b hBb hzt1 hzz1
                refine (a57 _ (Kd.C_below HR2.out HI1b.out.1)).mono ?_
                rintro en W2 ⟨rfl, hB2⟩
                have HI2 := Aside0.mk (fl2_keep HI1b.out hB2)
                replace t01 := cell_on hB2 t01
                replace t11 := cell_on hB2 t11
                replace t21 := cell_on hB2 t21
                replace z01 := cell_on hB2 z01
                replace z11 := cell_on hB2 z11
                clear hB2 a57
                go_wp2_with fail
                refine (a118 _ (Kd.C_below HZ2.out HI2.out.1)).mono ?_
                rintro en W3 ⟨rfl, hB3⟩
                have HI3 := Aside0.mk (fl2_keep HI2.out hB3)
                clear hB3 a118
                by_cases heq : holdsF o zl z = n
                · have HN : Aside0 (localT u L o zl y m d h i s (j + 1) = out ++ [z]) := ⟨by rw [HSN.out, if_pos HMEM.out, HX.out, if_pos heq]; rfl⟩
                  have q1 : (holdsF o zl z == n) = true := beq_iff_eq.2 heq
                  generalize holdsF o zl z = hf at *
                  clear heq
                  have hownA : (W3.alloc (.cells #[.int .i64 z] 3)).ownsRow w7.heap.size 3 1 u12 out.length (icells out) := own_move HI3.out.2 (fun k hk => Below.heap_alloc _ _ k (own_lt HI3.out.2 k hk))
                  have hs3 := HI3.out.1.size
                  go_wp2_with (at_builtin; refine wpList_append_own _ rfl _ _ 61 rfl w7.heap.size 3 ii (.int .i64 0) 1 8 Try.underlying61 hii hz0 hz1 hz2 rfl (by decide) _ _ _ rfl hownA ⟨W3.heap.size, 0, none⟩ 1 1 [.int .i64 z] rfl ?qc1 ?qc2 ?qc3 ?qc4 ?qc5 ?qc6 ?_)
                  case qc1 => rfl
                  case qc2 => exact World.news_of_block (cs := #[.int .i64 z]) (t := 3) (fr := (0, 0)) (al_new _ _ _ rfl)
                  case qc3 => simp [Value.oneCell']
                  case qc4 => unfold maxLen; omega
                  case qc5 => omega
                  case qc6 => simp; omega
                  intro v2 W4 hown4 hg4 hnil4
                  have HI4 : Aside0 (Below w7.heap.size w7 W4 ∧ W4.ownsRow w7.heap.size 3 1 v2 (out ++ [z]).length (icells (out ++ [z]))) := ⟨(HI3.out.1.alloc hs3 _).grown hg4 (by simp; omega) (fun k hk => (own_row hownA k hk).1), by
                    have e1 : (out ++ [z]).length = out.length + 1 := by simp
                    have e2 : icells (out ++ [z]) = icells out ++ [.int .i64 z] := by simp
                    rw [e1, e2]; exact hown4⟩
                  clear hown4 hg4 hnil4 hownA
                  go_wp2
                  go_roundw
                  case rel => exact ⟨j + 1, by omega, by rw [← HNJ.out]; go_num, by rw [HN.out]; exact HI4⟩
                  case measure => rw [← HNJ.out]; simp [intOf]; omega
                · have HN : Aside0 (localT u L o zl y m d h i s (j + 1) = out) := ⟨by rw [HSN.out, if_pos HMEM.out, HX.out, if_neg heq]; simp⟩
                  have q1 : (holdsF o zl z == n) = false := beq_eq_false_iff_ne.2 heq
                  generalize holdsF o zl z = hf at *
                  clear heq
                  go_wp2
                  go_roundw
                  case rel => exact ⟨j + 1, by omega, by rw [← HNJ.out]; go_num, by rw [HN.out]; exact HI3⟩
                  case measure => rw [← HNJ.out]; simp [intOf]; omega
    · obtain rfl : j = 2881 := by omega
      have dn : decide (-1440 ≤ 1440 - ((2881 : Nat) : Int)) = false := by decide
      have dn2 : ¬ (-1440 ≤ 1440 - ((2881 : Nat) : Int)) := by decide
      rw [HQ.out] at HI hlen
      clear HSN
      obtain ⟨Av, cv, rfl, hC⟩ := own_ints HI.out.2
      by_cases hq0 : q = []
      · have hE4 : E = 4 := by rw [← HE.out, if_pos hq0]
        subst hq0
        subst hE4
        have q1 : ((([] : List Int).length : Int) == 0) = true := by decide
        go_wp2
        go_ret2
        exact ⟨none, ⟨rfl, by decide, fun h => by cases h⟩, ⟨0, rfl⟩, HV.out.trans (HI.out.1.mono HV.out.size)⟩
      · have hE0 : E = 0 := by rw [← HE.out, if_neg hq0]
        subst hE0
        have q1 : ((q.length : Int) == 0) = false := beq_eq_false_iff_ne.2 (fun e => hq0 (List.eq_nil_of_length_eq_zero (by omega)))
        have HC := Aside0.mk hC
        clear hC hq0
        go_wp2
        go_ret2
        exact ⟨_, HC.out, ⟨_, rfl⟩, HV.out.trans (HI.out.1.mono HV.out.size)⟩
end Go.Proofs.Ytleipbanadnchaa.C
end

section
/- The contract of the reference's FromLocal, all ways, by hand. -/
namespace Go.Proofs.Ytleipbanadnchaa.C
open Go.RowKit Go.Shelf Go.Maps Go.Proofs.YtleipbanadnchaaW.PrintWords Go.Proofs.YtleipbanadnchaaW.PrintLast Go.Proofs.YtleipbanadnchaaW.PrintMore
set_option linter.unusedVariables false
set_option linter.unusedSimpArgs false
set_option maxHeartbeats 4000000 in
set_option maxRecDepth 100000 in
theorem rfl_err1 (b u : Int) (A : Option Addr) (c : Nat) (L : List (Int × Int)) (o : Int) (zA : Option Addr) (zc : Nat) (zl : List (Int × Int)) (y m d h i s : Int) (w : World) (hr : Kd.C kl w A L.length L) (hz : Kd.C kl w zA zl.length zl)
    (hk : checkF b L u ≠ 0) :
    Calls Try.prog 97 #[tabV b A L.length c u, zoneV o zA zl.length zc, dateV y m d h i s] w fun e w' => e = .returned (.tuple #[.slice none 0 0, .int .i64 (checkF b L u)]) ∧ Below w.heap.size w w' := by
  have HR := Aside0.mk hr
  have HZ := Aside0.mk hz
  have a53 := fun w h => rcheck_calls b u A c L w h
  have q1 : (checkF b L u == 0) = false := beq_eq_false_iff_ne.2 hk
  have q2 : (checkF b L u != 0) = true := bne_iff_ne.2 hk
  generalize checkF b L u = q at *
  clear hk
  clear hr hz
  obtain ⟨w1, hw1⟩ : ∃ w1, ((w.alloc (.cells #[.int .i64 b, .slice A L.length c, .int .i64 u] 90)).alloc (.cells #[.int .i64 o, .slice zA zl.length zc] 143)).alloc (.cells #[.int .i64 y, .int .i64 m, .int .i64 d, .int .i64 h, .int .i64 i, .int .i64 s] 98) = w1 := ⟨_, rfl⟩
  have hv : Below w.heap.size w w1 := by rw [← hw1]; exact (((Below.refl _ w).alloc (Nat.le_refl _) _).alloc (by simp) _).alloc (by simp; omega) _
  have kt : w1.heap[w.heap.size]? = some (.cells #[.int .i64 b, .slice A L.length c, .int .i64 u] 90 (0, 0)) := by rw [← hw1]; exact al_old (al_old (al_new _ _ _ rfl))
  have kz : w1.heap[w.heap.size + 1]? = some (.cells #[.int .i64 o, .slice zA zl.length zc] 143 (0, 0)) := by rw [← hw1]; exact al_old (al_new _ _ _ (by simp))
  have kd : w1.heap[w.heap.size + 1 + 1]? = some (.cells #[.int .i64 y, .int .i64 m, .int .i64 d, .int .i64 h, .int .i64 i, .int .i64 s] 98 (0, 0)) := by rw [← hw1]; exact al_new _ _ _ (by simp)
  have t0 : w1.cell? ⟨w.heap.size, 0, none⟩ = some (.int .i64 b) := blk_cell kt 0
  have t1 : w1.cell? ⟨w.heap.size, 1, none⟩ = some (.slice A L.length c) := blk_cell kt 1
  have t2 : w1.cell? ⟨w.heap.size, 2, none⟩ = some (.int .i64 u) := blk_cell kt 2
  have z0 : w1.cell? ⟨w.heap.size + 1, 0, none⟩ = some (.int .i64 o) := blk_cell kz 0
  have z1 : w1.cell? ⟨w.heap.size + 1, 1, none⟩ = some (.slice zA zl.length zc) := blk_cell kz 1
  have d0 : w1.cell? ⟨w.heap.size + 1 + 1, 0, none⟩ = some (.int .i64 y) := blk_cell kd 0
  have d1 : w1.cell? ⟨w.heap.size + 1 + 1, 1, none⟩ = some (.int .i64 m) := blk_cell kd 1
  have d2 : w1.cell? ⟨w.heap.size + 1 + 1, 2, none⟩ = some (.int .i64 d) := blk_cell kd 2
  have d3 : w1.cell? ⟨w.heap.size + 1 + 1, 3, none⟩ = some (.int .i64 h) := blk_cell kd 3
  have d4 : w1.cell? ⟨w.heap.size + 1 + 1, 4, none⟩ = some (.int .i64 i) := blk_cell kd 4
  have d5 : w1.cell? ⟨w.heap.size + 1 + 1, 5, none⟩ = some (.int .i64 s) := blk_cell kd 5
  clear kt kz kd
  have hR1 := Kd.C_below HR.out hv
  have hZ1 := Kd.C_below HZ.out hv
  go_enter Try.func97, Try.ntmps97
  go_wp2_with fail
  try rw [hw1]
  clear hw1 t0 t1 t2
  refine (a53 _ hR1).mono ?_
  rintro en w2 ⟨rfl, hB⟩
  replace z0 := cell_on hB z0
  replace z1 := cell_on hB z1
  replace d0 := cell_on hB d0
  replace d1 := cell_on hB d1
  replace d2 := cell_on hB d2
  replace d3 := cell_on hB d3
  replace d4 := cell_on hB d4
  replace d5 := cell_on hB d5
  replace hZ1 := Kd.C_below hZ1 hB
  replace hv := hv.trans (hB.mono hv.size)
  clear hB a53
  go_wp2
  go_ret2
  exact ⟨rfl, hv⟩
set_option maxHeartbeats 4000000 in
set_option maxRecDepth 100000 in
theorem rfl_err2 (b u : Int) (A : Option Addr) (c : Nat) (L : List (Int × Int)) (o : Int) (zA : Option Addr) (zc : Nat) (zl : List (Int × Int)) (y m d h i s : Int) (w : World) (hr : Kd.C kl w A L.length L) (hz : Kd.C kl w zA zl.length zl)
    (hk : checkF b L u = 0) (hzk : zcheckF o zl ≠ 0) :
    Calls Try.prog 97 #[tabV b A L.length c u, zoneV o zA zl.length zc, dateV y m d h i s] w fun e w' => e = .returned (.tuple #[.slice none 0 0, .int .i64 (zcheckF o zl)]) ∧ Below w.heap.size w w' := by
  have HR := Aside0.mk hr
  have HZ := Aside0.mk hz
  have a53 := fun w h => rcheck_calls b u A c L w h
  rw [hk] at a53
  have a95 := fun w h => rzcheck_calls o zA zc zl w h
  clear hk
  have q1 : (zcheckF o zl == 0) = false := beq_eq_false_iff_ne.2 hzk
  have q2 : (zcheckF o zl != 0) = true := bne_iff_ne.2 hzk
  generalize zcheckF o zl = q at *
  clear hzk
  clear hr hz
  obtain ⟨w1, hw1⟩ : ∃ w1, ((w.alloc (.cells #[.int .i64 b, .slice A L.length c, .int .i64 u] 90)).alloc (.cells #[.int .i64 o, .slice zA zl.length zc] 143)).alloc (.cells #[.int .i64 y, .int .i64 m, .int .i64 d, .int .i64 h, .int .i64 i, .int .i64 s] 98) = w1 := ⟨_, rfl⟩
  have hv : Below w.heap.size w w1 := by rw [← hw1]; exact (((Below.refl _ w).alloc (Nat.le_refl _) _).alloc (by simp) _).alloc (by simp; omega) _
  have kt : w1.heap[w.heap.size]? = some (.cells #[.int .i64 b, .slice A L.length c, .int .i64 u] 90 (0, 0)) := by rw [← hw1]; exact al_old (al_old (al_new _ _ _ rfl))
  have kz : w1.heap[w.heap.size + 1]? = some (.cells #[.int .i64 o, .slice zA zl.length zc] 143 (0, 0)) := by rw [← hw1]; exact al_old (al_new _ _ _ (by simp))
  have kd : w1.heap[w.heap.size + 1 + 1]? = some (.cells #[.int .i64 y, .int .i64 m, .int .i64 d, .int .i64 h, .int .i64 i, .int .i64 s] 98 (0, 0)) := by rw [← hw1]; exact al_new _ _ _ (by simp)
  have t0 : w1.cell? ⟨w.heap.size, 0, none⟩ = some (.int .i64 b) := blk_cell kt 0
  have t1 : w1.cell? ⟨w.heap.size, 1, none⟩ = some (.slice A L.length c) := blk_cell kt 1
  have t2 : w1.cell? ⟨w.heap.size, 2, none⟩ = some (.int .i64 u) := blk_cell kt 2
  have z0 : w1.cell? ⟨w.heap.size + 1, 0, none⟩ = some (.int .i64 o) := blk_cell kz 0
  have z1 : w1.cell? ⟨w.heap.size + 1, 1, none⟩ = some (.slice zA zl.length zc) := blk_cell kz 1
  have d0 : w1.cell? ⟨w.heap.size + 1 + 1, 0, none⟩ = some (.int .i64 y) := blk_cell kd 0
  have d1 : w1.cell? ⟨w.heap.size + 1 + 1, 1, none⟩ = some (.int .i64 m) := blk_cell kd 1
  have d2 : w1.cell? ⟨w.heap.size + 1 + 1, 2, none⟩ = some (.int .i64 d) := blk_cell kd 2
  have d3 : w1.cell? ⟨w.heap.size + 1 + 1, 3, none⟩ = some (.int .i64 h) := blk_cell kd 3
  have d4 : w1.cell? ⟨w.heap.size + 1 + 1, 4, none⟩ = some (.int .i64 i) := blk_cell kd 4
  have d5 : w1.cell? ⟨w.heap.size + 1 + 1, 5, none⟩ = some (.int .i64 s) := blk_cell kd 5
  clear kt kz kd
  have hR1 := Kd.C_below HR.out hv
  have hZ1 := Kd.C_below HZ.out hv
  go_enter Try.func97, Try.ntmps97
  go_wp2_with fail
  try rw [hw1]
  clear hw1 t0 t1 t2
  refine (a53 _ hR1).mono ?_
  rintro en w2 ⟨rfl, hB⟩
  replace z0 := cell_on hB z0
  replace z1 := cell_on hB z1
  replace d0 := cell_on hB d0
  replace d1 := cell_on hB d1
  replace d2 := cell_on hB d2
  replace d3 := cell_on hB d3
  replace d4 := cell_on hB d4
  replace d5 := cell_on hB d5
  replace hZ1 := Kd.C_below hZ1 hB
  replace hv := hv.trans (hB.mono hv.size)
  clear hB a53
  go_wp2_with fail
  refine (a95 _ hZ1).mono ?_
  rintro en w3 ⟨rfl, hB⟩
  replace z0 := cell_on hB z0
  replace z1 := cell_on hB z1
  replace d0 := cell_on hB d0
  replace d1 := cell_on hB d1
  replace d2 := cell_on hB d2
  replace d3 := cell_on hB d3
  replace d4 := cell_on hB d4
  replace d5 := cell_on hB d5
  replace hZ1 := Kd.C_below hZ1 hB
  replace hv := hv.trans (hB.mono hv.size)
  clear hB a95
  go_wp2
  go_ret2
  exact ⟨rfl, hv⟩
set_option maxHeartbeats 4000000 in
set_option maxRecDepth 100000 in
theorem rfl_err3 (b u : Int) (A : Option Addr) (c : Nat) (L : List (Int × Int)) (o : Int) (zA : Option Addr) (zc : Nat) (zl : List (Int × Int)) (y m d h i s : Int) (w : World) (hr : Kd.C kl w A L.length L) (hz : Kd.C kl w zA zl.length zl)
    (hk : checkF b L u = 0) (hzk : zcheckF o zl = 0) (hok : ¬ okD y m d = true) :
    Calls Try.prog 97 #[tabV b A L.length c u, zoneV o zA zl.length zc, dateV y m d h i s] w fun e w' => e = .returned (.tuple #[.slice none 0 0, .int .i64 90]) ∧ Below w.heap.size w w' := by
  have HR := Aside0.mk hr
  have HZ := Aside0.mk hz
  have a53 := fun w h => rcheck_calls b u A c L w h
  rw [hk] at a53
  have a95 := fun w h => rzcheck_calls o zA zc zl w h
  clear hk
  rw [hzk] at a95
  clear hzk
  have a44 := fun w => refDay_false y m d (by cases h0 : okD y m d; exact rfl; exact absurd h0 hok) w
  clear hok
  clear hr hz
  obtain ⟨w1, hw1⟩ : ∃ w1, ((w.alloc (.cells #[.int .i64 b, .slice A L.length c, .int .i64 u] 90)).alloc (.cells #[.int .i64 o, .slice zA zl.length zc] 143)).alloc (.cells #[.int .i64 y, .int .i64 m, .int .i64 d, .int .i64 h, .int .i64 i, .int .i64 s] 98) = w1 := ⟨_, rfl⟩
  have hv : Below w.heap.size w w1 := by rw [← hw1]; exact (((Below.refl _ w).alloc (Nat.le_refl _) _).alloc (by simp) _).alloc (by simp; omega) _
  have kt : w1.heap[w.heap.size]? = some (.cells #[.int .i64 b, .slice A L.length c, .int .i64 u] 90 (0, 0)) := by rw [← hw1]; exact al_old (al_old (al_new _ _ _ rfl))
  have kz : w1.heap[w.heap.size + 1]? = some (.cells #[.int .i64 o, .slice zA zl.length zc] 143 (0, 0)) := by rw [← hw1]; exact al_old (al_new _ _ _ (by simp))
  have kd : w1.heap[w.heap.size + 1 + 1]? = some (.cells #[.int .i64 y, .int .i64 m, .int .i64 d, .int .i64 h, .int .i64 i, .int .i64 s] 98 (0, 0)) := by rw [← hw1]; exact al_new _ _ _ (by simp)
  have t0 : w1.cell? ⟨w.heap.size, 0, none⟩ = some (.int .i64 b) := blk_cell kt 0
  have t1 : w1.cell? ⟨w.heap.size, 1, none⟩ = some (.slice A L.length c) := blk_cell kt 1
  have t2 : w1.cell? ⟨w.heap.size, 2, none⟩ = some (.int .i64 u) := blk_cell kt 2
  have z0 : w1.cell? ⟨w.heap.size + 1, 0, none⟩ = some (.int .i64 o) := blk_cell kz 0
  have z1 : w1.cell? ⟨w.heap.size + 1, 1, none⟩ = some (.slice zA zl.length zc) := blk_cell kz 1
  have d0 : w1.cell? ⟨w.heap.size + 1 + 1, 0, none⟩ = some (.int .i64 y) := blk_cell kd 0
  have d1 : w1.cell? ⟨w.heap.size + 1 + 1, 1, none⟩ = some (.int .i64 m) := blk_cell kd 1
  have d2 : w1.cell? ⟨w.heap.size + 1 + 1, 2, none⟩ = some (.int .i64 d) := blk_cell kd 2
  have d3 : w1.cell? ⟨w.heap.size + 1 + 1, 3, none⟩ = some (.int .i64 h) := blk_cell kd 3
  have d4 : w1.cell? ⟨w.heap.size + 1 + 1, 4, none⟩ = some (.int .i64 i) := blk_cell kd 4
  have d5 : w1.cell? ⟨w.heap.size + 1 + 1, 5, none⟩ = some (.int .i64 s) := blk_cell kd 5
  clear kt kz kd
  have hR1 := Kd.C_below HR.out hv
  have hZ1 := Kd.C_below HZ.out hv
  go_enter Try.func97, Try.ntmps97
  go_wp2_with fail
  try rw [hw1]
  clear hw1 t0 t1 t2
  refine (a53 _ hR1).mono ?_
  rintro en w2 ⟨rfl, hB⟩
  replace z0 := cell_on hB z0
  replace z1 := cell_on hB z1
  replace d0 := cell_on hB d0
  replace d1 := cell_on hB d1
  replace d2 := cell_on hB d2
  replace d3 := cell_on hB d3
  replace d4 := cell_on hB d4
  replace d5 := cell_on hB d5
  replace hZ1 := Kd.C_below hZ1 hB
  replace hv := hv.trans (hB.mono hv.size)
  clear hB a53
  go_wp2_with fail
  refine (a95 _ hZ1).mono ?_
  rintro en w3 ⟨rfl, hB⟩
  replace z0 := cell_on hB z0
  replace z1 := cell_on hB z1
  replace d0 := cell_on hB d0
  replace d1 := cell_on hB d1
  replace d2 := cell_on hB d2
  replace d3 := cell_on hB d3
  replace d4 := cell_on hB d4
  replace d5 := cell_on hB d5
  replace hZ1 := Kd.C_below hZ1 hB
  replace hv := hv.trans (hB.mono hv.size)
  clear hB a95
  go_wp2_with fail
  refine (a44 _).mono ?_
  rintro en w4 ⟨rfl, hB⟩
  replace z0 := cell_on hB z0
  replace z1 := cell_on hB z1
  replace d0 := cell_on hB d0
  replace d1 := cell_on hB d1
  replace d2 := cell_on hB d2
  replace d3 := cell_on hB d3
  replace d4 := cell_on hB d4
  replace d5 := cell_on hB d5
  replace hZ1 := Kd.C_below hZ1 hB
  replace hv := hv.trans (hB.mono hv.size)
  clear hB a44
  go_wp2
  go_ret2
  exact ⟨rfl, hv⟩
set_option maxHeartbeats 4000000 in
set_option maxRecDepth 100000 in
theorem rfl_err4 (b u : Int) (A : Option Addr) (c : Nat) (L : List (Int × Int)) (o : Int) (zA : Option Addr) (zc : Nat) (zl : List (Int × Int)) (y m d h i s : Int) (w : World) (hr : Kd.C kl w A L.length L) (hz : Kd.C kl w zA zl.length zl)
    (hk : checkF b L u = 0) (hzk : zcheckF o zl = 0) (hok : okD y m d = true) (hh : ¬ (0 ≤ h ∧ h ≤ 23)) :
    Calls Try.prog 97 #[tabV b A L.length c u, zoneV o zA zl.length zc, dateV y m d h i s] w fun e w' => e = .returned (.tuple #[.slice none 0 0, .int .i64 90]) ∧ Below w.heap.size w w' := by
  have HR := Aside0.mk hr
  have HZ := Aside0.mk hz
  have a53 := fun w h => rcheck_calls b u A c L w h
  rw [hk] at a53
  have a95 := fun w h => rzcheck_calls o zA zc zl w h
  clear hk
  rw [hzk] at a95
  clear hzk
  have a44 := fun w => refDay_true y m d hok w
  clear hok
  have a81 := fun w => rin_calls h 0 23 w
  rw [show (decide (0 ≤ h) && decide (h ≤ 23)) = false by simp; omega] at a81
  clear hh
  clear hr hz
  obtain ⟨w1, hw1⟩ : ∃ w1, ((w.alloc (.cells #[.int .i64 b, .slice A L.length c, .int .i64 u] 90)).alloc (.cells #[.int .i64 o, .slice zA zl.length zc] 143)).alloc (.cells #[.int .i64 y, .int .i64 m, .int .i64 d, .int .i64 h, .int .i64 i, .int .i64 s] 98) = w1 := ⟨_, rfl⟩
  have hv : Below w.heap.size w w1 := by rw [← hw1]; exact (((Below.refl _ w).alloc (Nat.le_refl _) _).alloc (by simp) _).alloc (by simp; omega) _
  have kt : w1.heap[w.heap.size]? = some (.cells #[.int .i64 b, .slice A L.length c, .int .i64 u] 90 (0, 0)) := by rw [← hw1]; exact al_old (al_old (al_new _ _ _ rfl))
  have kz : w1.heap[w.heap.size + 1]? = some (.cells #[.int .i64 o, .slice zA zl.length zc] 143 (0, 0)) := by rw [← hw1]; exact al_old (al_new _ _ _ (by simp))
  have kd : w1.heap[w.heap.size + 1 + 1]? = some (.cells #[.int .i64 y, .int .i64 m, .int .i64 d, .int .i64 h, .int .i64 i, .int .i64 s] 98 (0, 0)) := by rw [← hw1]; exact al_new _ _ _ (by simp)
  have t0 : w1.cell? ⟨w.heap.size, 0, none⟩ = some (.int .i64 b) := blk_cell kt 0
  have t1 : w1.cell? ⟨w.heap.size, 1, none⟩ = some (.slice A L.length c) := blk_cell kt 1
  have t2 : w1.cell? ⟨w.heap.size, 2, none⟩ = some (.int .i64 u) := blk_cell kt 2
  have z0 : w1.cell? ⟨w.heap.size + 1, 0, none⟩ = some (.int .i64 o) := blk_cell kz 0
  have z1 : w1.cell? ⟨w.heap.size + 1, 1, none⟩ = some (.slice zA zl.length zc) := blk_cell kz 1
  have d0 : w1.cell? ⟨w.heap.size + 1 + 1, 0, none⟩ = some (.int .i64 y) := blk_cell kd 0
  have d1 : w1.cell? ⟨w.heap.size + 1 + 1, 1, none⟩ = some (.int .i64 m) := blk_cell kd 1
  have d2 : w1.cell? ⟨w.heap.size + 1 + 1, 2, none⟩ = some (.int .i64 d) := blk_cell kd 2
  have d3 : w1.cell? ⟨w.heap.size + 1 + 1, 3, none⟩ = some (.int .i64 h) := blk_cell kd 3
  have d4 : w1.cell? ⟨w.heap.size + 1 + 1, 4, none⟩ = some (.int .i64 i) := blk_cell kd 4
  have d5 : w1.cell? ⟨w.heap.size + 1 + 1, 5, none⟩ = some (.int .i64 s) := blk_cell kd 5
  clear kt kz kd
  have hR1 := Kd.C_below HR.out hv
  have hZ1 := Kd.C_below HZ.out hv
  go_enter Try.func97, Try.ntmps97
  go_wp2_with fail
  try rw [hw1]
  clear hw1 t0 t1 t2
  refine (a53 _ hR1).mono ?_
  rintro en w2 ⟨rfl, hB⟩
  replace z0 := cell_on hB z0
  replace z1 := cell_on hB z1
  replace d0 := cell_on hB d0
  replace d1 := cell_on hB d1
  replace d2 := cell_on hB d2
  replace d3 := cell_on hB d3
  replace d4 := cell_on hB d4
  replace d5 := cell_on hB d5
  replace hZ1 := Kd.C_below hZ1 hB
  replace hv := hv.trans (hB.mono hv.size)
  clear hB a53
  go_wp2_with fail
  refine (a95 _ hZ1).mono ?_
  rintro en w3 ⟨rfl, hB⟩
  replace z0 := cell_on hB z0
  replace z1 := cell_on hB z1
  replace d0 := cell_on hB d0
  replace d1 := cell_on hB d1
  replace d2 := cell_on hB d2
  replace d3 := cell_on hB d3
  replace d4 := cell_on hB d4
  replace d5 := cell_on hB d5
  replace hZ1 := Kd.C_below hZ1 hB
  replace hv := hv.trans (hB.mono hv.size)
  clear hB a95
  go_wp2_with fail
  refine (a44 _).mono ?_
  rintro en w4 ⟨rfl, hB⟩
  replace z0 := cell_on hB z0
  replace z1 := cell_on hB z1
  replace d0 := cell_on hB d0
  replace d1 := cell_on hB d1
  replace d2 := cell_on hB d2
  replace d3 := cell_on hB d3
  replace d4 := cell_on hB d4
  replace d5 := cell_on hB d5
  replace hZ1 := Kd.C_below hZ1 hB
  replace hv := hv.trans (hB.mono hv.size)
  clear hB a44
  go_wp2_with fail
  refine (a81 _).mono ?_
  rintro en w5 ⟨rfl, hB⟩
  replace z0 := cell_on hB z0
  replace z1 := cell_on hB z1
  replace d0 := cell_on hB d0
  replace d1 := cell_on hB d1
  replace d2 := cell_on hB d2
  replace d3 := cell_on hB d3
  replace d4 := cell_on hB d4
  replace d5 := cell_on hB d5
  replace hZ1 := Kd.C_below hZ1 hB
  replace hv := hv.trans (hB.mono hv.size)
  clear hB a81
  go_wp2
  go_ret2
  exact ⟨rfl, hv⟩
set_option maxHeartbeats 4000000 in
set_option maxRecDepth 100000 in
theorem rfl_err5 (b u : Int) (A : Option Addr) (c : Nat) (L : List (Int × Int)) (o : Int) (zA : Option Addr) (zc : Nat) (zl : List (Int × Int)) (y m d h i s : Int) (w : World) (hr : Kd.C kl w A L.length L) (hz : Kd.C kl w zA zl.length zl)
    (hk : checkF b L u = 0) (hzk : zcheckF o zl = 0) (hok : okD y m d = true) (hh : (0 ≤ h ∧ h ≤ 23)) (hi : ¬ (0 ≤ i ∧ i ≤ 59)) :
    Calls Try.prog 97 #[tabV b A L.length c u, zoneV o zA zl.length zc, dateV y m d h i s] w fun e w' => e = .returned (.tuple #[.slice none 0 0, .int .i64 90]) ∧ Below w.heap.size w w' := by
  have HR := Aside0.mk hr
  have HZ := Aside0.mk hz
  have a53 := fun w h => rcheck_calls b u A c L w h
  rw [hk] at a53
  have a95 := fun w h => rzcheck_calls o zA zc zl w h
  clear hk
  rw [hzk] at a95
  clear hzk
  have a44 := fun w => refDay_true y m d hok w
  clear hok
  have a81 := fun w => rin_calls h 0 23 w
  rw [show (decide (0 ≤ h) && decide (h ≤ 23)) = true by simp; omega] at a81
  clear hh
  have b81 := fun w => rin_calls i 0 59 w
  rw [show (decide (0 ≤ i) && decide (i ≤ 59)) = false by simp; omega] at b81
  clear hi
  clear hr hz
  obtain ⟨w1, hw1⟩ : ∃ w1, ((w.alloc (.cells #[.int .i64 b, .slice A L.length c, .int .i64 u] 90)).alloc (.cells #[.int .i64 o, .slice zA zl.length zc] 143)).alloc (.cells #[.int .i64 y, .int .i64 m, .int .i64 d, .int .i64 h, .int .i64 i, .int .i64 s] 98) = w1 := ⟨_, rfl⟩
  have hv : Below w.heap.size w w1 := by rw [← hw1]; exact (((Below.refl _ w).alloc (Nat.le_refl _) _).alloc (by simp) _).alloc (by simp; omega) _
  have kt : w1.heap[w.heap.size]? = some (.cells #[.int .i64 b, .slice A L.length c, .int .i64 u] 90 (0, 0)) := by rw [← hw1]; exact al_old (al_old (al_new _ _ _ rfl))
  have kz : w1.heap[w.heap.size + 1]? = some (.cells #[.int .i64 o, .slice zA zl.length zc] 143 (0, 0)) := by rw [← hw1]; exact al_old (al_new _ _ _ (by simp))
  have kd : w1.heap[w.heap.size + 1 + 1]? = some (.cells #[.int .i64 y, .int .i64 m, .int .i64 d, .int .i64 h, .int .i64 i, .int .i64 s] 98 (0, 0)) := by rw [← hw1]; exact al_new _ _ _ (by simp)
  have t0 : w1.cell? ⟨w.heap.size, 0, none⟩ = some (.int .i64 b) := blk_cell kt 0
  have t1 : w1.cell? ⟨w.heap.size, 1, none⟩ = some (.slice A L.length c) := blk_cell kt 1
  have t2 : w1.cell? ⟨w.heap.size, 2, none⟩ = some (.int .i64 u) := blk_cell kt 2
  have z0 : w1.cell? ⟨w.heap.size + 1, 0, none⟩ = some (.int .i64 o) := blk_cell kz 0
  have z1 : w1.cell? ⟨w.heap.size + 1, 1, none⟩ = some (.slice zA zl.length zc) := blk_cell kz 1
  have d0 : w1.cell? ⟨w.heap.size + 1 + 1, 0, none⟩ = some (.int .i64 y) := blk_cell kd 0
  have d1 : w1.cell? ⟨w.heap.size + 1 + 1, 1, none⟩ = some (.int .i64 m) := blk_cell kd 1
  have d2 : w1.cell? ⟨w.heap.size + 1 + 1, 2, none⟩ = some (.int .i64 d) := blk_cell kd 2
  have d3 : w1.cell? ⟨w.heap.size + 1 + 1, 3, none⟩ = some (.int .i64 h) := blk_cell kd 3
  have d4 : w1.cell? ⟨w.heap.size + 1 + 1, 4, none⟩ = some (.int .i64 i) := blk_cell kd 4
  have d5 : w1.cell? ⟨w.heap.size + 1 + 1, 5, none⟩ = some (.int .i64 s) := blk_cell kd 5
  clear kt kz kd
  have hR1 := Kd.C_below HR.out hv
  have hZ1 := Kd.C_below HZ.out hv
  go_enter Try.func97, Try.ntmps97
  go_wp2_with fail
  try rw [hw1]
  clear hw1 t0 t1 t2
  refine (a53 _ hR1).mono ?_
  rintro en w2 ⟨rfl, hB⟩
  replace z0 := cell_on hB z0
  replace z1 := cell_on hB z1
  replace d0 := cell_on hB d0
  replace d1 := cell_on hB d1
  replace d2 := cell_on hB d2
  replace d3 := cell_on hB d3
  replace d4 := cell_on hB d4
  replace d5 := cell_on hB d5
  replace hZ1 := Kd.C_below hZ1 hB
  replace hv := hv.trans (hB.mono hv.size)
  clear hB a53
  go_wp2_with fail
  refine (a95 _ hZ1).mono ?_
  rintro en w3 ⟨rfl, hB⟩
  replace z0 := cell_on hB z0
  replace z1 := cell_on hB z1
  replace d0 := cell_on hB d0
  replace d1 := cell_on hB d1
  replace d2 := cell_on hB d2
  replace d3 := cell_on hB d3
  replace d4 := cell_on hB d4
  replace d5 := cell_on hB d5
  replace hZ1 := Kd.C_below hZ1 hB
  replace hv := hv.trans (hB.mono hv.size)
  clear hB a95
  go_wp2_with fail
  refine (a44 _).mono ?_
  rintro en w4 ⟨rfl, hB⟩
  replace z0 := cell_on hB z0
  replace z1 := cell_on hB z1
  replace d0 := cell_on hB d0
  replace d1 := cell_on hB d1
  replace d2 := cell_on hB d2
  replace d3 := cell_on hB d3
  replace d4 := cell_on hB d4
  replace d5 := cell_on hB d5
  replace hZ1 := Kd.C_below hZ1 hB
  replace hv := hv.trans (hB.mono hv.size)
  clear hB a44
  go_wp2_with fail
  refine (a81 _).mono ?_
  rintro en w5 ⟨rfl, hB⟩
  replace z0 := cell_on hB z0
  replace z1 := cell_on hB z1
  replace d0 := cell_on hB d0
  replace d1 := cell_on hB d1
  replace d2 := cell_on hB d2
  replace d3 := cell_on hB d3
  replace d4 := cell_on hB d4
  replace d5 := cell_on hB d5
  replace hZ1 := Kd.C_below hZ1 hB
  replace hv := hv.trans (hB.mono hv.size)
  clear hB a81
  go_wp2_with fail
  refine (b81 _).mono ?_
  rintro en w6 ⟨rfl, hB⟩
  replace z0 := cell_on hB z0
  replace z1 := cell_on hB z1
  replace d0 := cell_on hB d0
  replace d1 := cell_on hB d1
  replace d2 := cell_on hB d2
  replace d3 := cell_on hB d3
  replace d4 := cell_on hB d4
  replace d5 := cell_on hB d5
  replace hZ1 := Kd.C_below hZ1 hB
  replace hv := hv.trans (hB.mono hv.size)
  clear hB b81
  go_wp2
  go_ret2
  exact ⟨rfl, hv⟩
set_option maxHeartbeats 4000000 in
set_option maxRecDepth 100000 in
theorem rfl_err6 (b u : Int) (A : Option Addr) (c : Nat) (L : List (Int × Int)) (o : Int) (zA : Option Addr) (zc : Nat) (zl : List (Int × Int)) (y m d h i s : Int) (w : World) (hr : Kd.C kl w A L.length L) (hz : Kd.C kl w zA zl.length zl)
    (hk : checkF b L u = 0) (hzk : zcheckF o zl = 0) (hok : okD y m d = true) (hh : (0 ≤ h ∧ h ≤ 23)) (hi : (0 ≤ i ∧ i ≤ 59)) (hs : ¬ (0 ≤ s ∧ s ≤ 60)) :
    Calls Try.prog 97 #[tabV b A L.length c u, zoneV o zA zl.length zc, dateV y m d h i s] w fun e w' => e = .returned (.tuple #[.slice none 0 0, .int .i64 90]) ∧ Below w.heap.size w w' := by
  have HR := Aside0.mk hr
  have HZ := Aside0.mk hz
  have a53 := fun w h => rcheck_calls b u A c L w h
  rw [hk] at a53
  have a95 := fun w h => rzcheck_calls o zA zc zl w h
  clear hk
  rw [hzk] at a95
  clear hzk
  have a44 := fun w => refDay_true y m d hok w
  clear hok
  have a81 := fun w => rin_calls h 0 23 w
  rw [show (decide (0 ≤ h) && decide (h ≤ 23)) = true by simp; omega] at a81
  clear hh
  have b81 := fun w => rin_calls i 0 59 w
  rw [show (decide (0 ≤ i) && decide (i ≤ 59)) = true by simp; omega] at b81
  clear hi
  have c81 := fun w => rin_calls s 0 60 w
  rw [show (decide (0 ≤ s) && decide (s ≤ 60)) = false by simp; omega] at c81
  clear hs
  clear hr hz
  obtain ⟨w1, hw1⟩ : ∃ w1, ((w.alloc (.cells #[.int .i64 b, .slice A L.length c, .int .i64 u] 90)).alloc (.cells #[.int .i64 o, .slice zA zl.length zc] 143)).alloc (.cells #[.int .i64 y, .int .i64 m, .int .i64 d, .int .i64 h, .int .i64 i, .int .i64 s] 98) = w1 := ⟨_, rfl⟩
  have hv : Below w.heap.size w w1 := by rw [← hw1]; exact (((Below.refl _ w).alloc (Nat.le_refl _) _).alloc (by simp) _).alloc (by simp; omega) _
  have kt : w1.heap[w.heap.size]? = some (.cells #[.int .i64 b, .slice A L.length c, .int .i64 u] 90 (0, 0)) := by rw [← hw1]; exact al_old (al_old (al_new _ _ _ rfl))
  have kz : w1.heap[w.heap.size + 1]? = some (.cells #[.int .i64 o, .slice zA zl.length zc] 143 (0, 0)) := by rw [← hw1]; exact al_old (al_new _ _ _ (by simp))
  have kd : w1.heap[w.heap.size + 1 + 1]? = some (.cells #[.int .i64 y, .int .i64 m, .int .i64 d, .int .i64 h, .int .i64 i, .int .i64 s] 98 (0, 0)) := by rw [← hw1]; exact al_new _ _ _ (by simp)
  have t0 : w1.cell? ⟨w.heap.size, 0, none⟩ = some (.int .i64 b) := blk_cell kt 0
  have t1 : w1.cell? ⟨w.heap.size, 1, none⟩ = some (.slice A L.length c) := blk_cell kt 1
  have t2 : w1.cell? ⟨w.heap.size, 2, none⟩ = some (.int .i64 u) := blk_cell kt 2
  have z0 : w1.cell? ⟨w.heap.size + 1, 0, none⟩ = some (.int .i64 o) := blk_cell kz 0
  have z1 : w1.cell? ⟨w.heap.size + 1, 1, none⟩ = some (.slice zA zl.length zc) := blk_cell kz 1
  have d0 : w1.cell? ⟨w.heap.size + 1 + 1, 0, none⟩ = some (.int .i64 y) := blk_cell kd 0
  have d1 : w1.cell? ⟨w.heap.size + 1 + 1, 1, none⟩ = some (.int .i64 m) := blk_cell kd 1
  have d2 : w1.cell? ⟨w.heap.size + 1 + 1, 2, none⟩ = some (.int .i64 d) := blk_cell kd 2
  have d3 : w1.cell? ⟨w.heap.size + 1 + 1, 3, none⟩ = some (.int .i64 h) := blk_cell kd 3
  have d4 : w1.cell? ⟨w.heap.size + 1 + 1, 4, none⟩ = some (.int .i64 i) := blk_cell kd 4
  have d5 : w1.cell? ⟨w.heap.size + 1 + 1, 5, none⟩ = some (.int .i64 s) := blk_cell kd 5
  clear kt kz kd
  have hR1 := Kd.C_below HR.out hv
  have hZ1 := Kd.C_below HZ.out hv
  go_enter Try.func97, Try.ntmps97
  go_wp2_with fail
  try rw [hw1]
  clear hw1 t0 t1 t2
  refine (a53 _ hR1).mono ?_
  rintro en w2 ⟨rfl, hB⟩
  replace z0 := cell_on hB z0
  replace z1 := cell_on hB z1
  replace d0 := cell_on hB d0
  replace d1 := cell_on hB d1
  replace d2 := cell_on hB d2
  replace d3 := cell_on hB d3
  replace d4 := cell_on hB d4
  replace d5 := cell_on hB d5
  replace hZ1 := Kd.C_below hZ1 hB
  replace hv := hv.trans (hB.mono hv.size)
  clear hB a53
  go_wp2_with fail
  refine (a95 _ hZ1).mono ?_
  rintro en w3 ⟨rfl, hB⟩
  replace z0 := cell_on hB z0
  replace z1 := cell_on hB z1
  replace d0 := cell_on hB d0
  replace d1 := cell_on hB d1
  replace d2 := cell_on hB d2
  replace d3 := cell_on hB d3
  replace d4 := cell_on hB d4
  replace d5 := cell_on hB d5
  replace hZ1 := Kd.C_below hZ1 hB
  replace hv := hv.trans (hB.mono hv.size)
  clear hB a95
  go_wp2_with fail
  refine (a44 _).mono ?_
  rintro en w4 ⟨rfl, hB⟩
  replace z0 := cell_on hB z0
  replace z1 := cell_on hB z1
  replace d0 := cell_on hB d0
  replace d1 := cell_on hB d1
  replace d2 := cell_on hB d2
  replace d3 := cell_on hB d3
  replace d4 := cell_on hB d4
  replace d5 := cell_on hB d5
  replace hZ1 := Kd.C_below hZ1 hB
  replace hv := hv.trans (hB.mono hv.size)
  clear hB a44
  go_wp2_with fail
  refine (a81 _).mono ?_
  rintro en w5 ⟨rfl, hB⟩
  replace z0 := cell_on hB z0
  replace z1 := cell_on hB z1
  replace d0 := cell_on hB d0
  replace d1 := cell_on hB d1
  replace d2 := cell_on hB d2
  replace d3 := cell_on hB d3
  replace d4 := cell_on hB d4
  replace d5 := cell_on hB d5
  replace hZ1 := Kd.C_below hZ1 hB
  replace hv := hv.trans (hB.mono hv.size)
  clear hB a81
  go_wp2_with fail
  refine (b81 _).mono ?_
  rintro en w6 ⟨rfl, hB⟩
  replace z0 := cell_on hB z0
  replace z1 := cell_on hB z1
  replace d0 := cell_on hB d0
  replace d1 := cell_on hB d1
  replace d2 := cell_on hB d2
  replace d3 := cell_on hB d3
  replace d4 := cell_on hB d4
  replace d5 := cell_on hB d5
  replace hZ1 := Kd.C_below hZ1 hB
  replace hv := hv.trans (hB.mono hv.size)
  clear hB b81
  go_wp2_with fail
  refine (c81 _).mono ?_
  rintro en w7 ⟨rfl, hB⟩
  replace z0 := cell_on hB z0
  replace z1 := cell_on hB z1
  replace d0 := cell_on hB d0
  replace d1 := cell_on hB d1
  replace d2 := cell_on hB d2
  replace d3 := cell_on hB d3
  replace d4 := cell_on hB d4
  replace d5 := cell_on hB d5
  replace hZ1 := Kd.C_below hZ1 hB
  replace hv := hv.trans (hB.mono hv.size)
  clear hB c81
  go_wp2
  go_ret2
  exact ⟨rfl, hv⟩
theorem rFromLocal_calls (b u : Int) (A : Option Addr) (c : Nat) (L : List (Int × Int)) (o : Int) (zA : Option Addr) (zc : Nat) (zl : List (Int × Int)) (y m d h i s : Int) (w : World) (hr : Kd.C kl w A L.length L) (hz : Kd.C kl w zA zl.length zl) :
    Calls Try.prog 97 #[tabV b A L.length c u, zoneV o zA zl.length zc, dateV y m d h i s] w fun e w' => (∃ A' c', e = .returned (.tuple #[.slice A' (flL b u L o zl y m d h i s).length c', .int .i64 (flE b u L o zl y m d h i s)]) ∧ Kd.C (Kd.int .i64) w' A' (flL b u L o zl y m d h i s).length (flL b u L o zl y m d h i s)) ∧ Below w.heap.size w w' := by
  have hbad : ∀ E, (¬ (checkF b L u = 0 ∧ zcheckF o zl = 0 ∧ okD y m d = true ∧ clkOk h i s)) → flE b u L o zl y m d h i s = E → (Calls Try.prog 97 #[tabV b A L.length c u, zoneV o zA zl.length zc, dateV y m d h i s] w fun e w' => e = .returned (.tuple #[.slice none 0 0, .int .i64 E]) ∧ Below w.heap.size w w') →
      Calls Try.prog 97 #[tabV b A L.length c u, zoneV o zA zl.length zc, dateV y m d h i s] w fun e w' => (∃ A' c', e = .returned (.tuple #[.slice A' (flL b u L o zl y m d h i s).length c', .int .i64 (flE b u L o zl y m d h i s)]) ∧ Kd.C (Kd.int .i64) w' A' (flL b u L o zl y m d h i s).length (flL b u L o zl y m d h i s)) ∧ Below w.heap.size w w' := fun E hn hE hc => hc.mono fun e w' ⟨h1, h2⟩ => by
    have hl : flL b u L o zl y m d h i s = [] := if_neg hn
    rw [hl, hE]
    exact ⟨⟨none, 0, h1, ⟨rfl, by decide, fun h => by cases h⟩⟩, h2⟩
  by_cases hk : checkF b L u = 0
  · by_cases hzk : zcheckF o zl = 0
    · have hE90 : ¬ (okD y m d = true ∧ clkOk h i s) → flE b u L o zl y m d h i s = 90 := fun hn => by unfold flE; rw [if_neg (by simp [hk]), if_neg (by simp [hzk]), if_neg hn]
      by_cases hok : okD y m d = true
      · by_cases hh : 0 ≤ h ∧ h ≤ 23
        · by_cases hi : 0 ≤ i ∧ i ≤ 59
          · by_cases hs : 0 ≤ s ∧ s ≤ 60
            · have hck : clkOk h i s := ⟨hh.1, hh.2, hi.1, hi.2, hs.1, hs.2⟩
              have hl : flL b u L o zl y m d h i s = localL u L o zl y m d h i s := if_pos ⟨hk, hzk, hok, hck⟩
              have hE : flE b u L o zl y m d h i s = if localL u L o zl y m d h i s = [] then 4 else 0 := by unfold flE; rw [if_neg (by simp [hk]), if_neg (by simp [hzk]), if_pos ⟨hok, hck⟩]
              rw [hl, hE]
              exact (rfl_main b u A c L o zA zc zl y m d h i s w hr hz hk hzk hok hck).mono fun e w' ⟨A', c', h1, h2, h3⟩ => ⟨⟨A', c', h2, h1⟩, h3⟩
            · exact hbad 90 (fun e => hs ⟨e.2.2.2.2.2.2.2.1, e.2.2.2.2.2.2.2.2⟩) (hE90 (fun e => hs ⟨e.2.2.2.2.2.1, e.2.2.2.2.2.2⟩)) (rfl_err6 b u A c L o zA zc zl y m d h i s w hr hz hk hzk hok hh hi hs)
          · exact hbad 90 (fun e => hi ⟨e.2.2.2.2.2.1, e.2.2.2.2.2.2.1⟩) (hE90 (fun e => hi ⟨e.2.2.2.1, e.2.2.2.2.1⟩)) (rfl_err5 b u A c L o zA zc zl y m d h i s w hr hz hk hzk hok hh hi)
        · exact hbad 90 (fun e => hh ⟨e.2.2.2.1, e.2.2.2.2.1⟩) (hE90 (fun e => hh ⟨e.2.1, e.2.2.1⟩)) (rfl_err4 b u A c L o zA zc zl y m d h i s w hr hz hk hzk hok hh)
      · exact hbad 90 (fun e => hok e.2.2.1) (hE90 (fun e => hok e.1)) (rfl_err3 b u A c L o zA zc zl y m d h i s w hr hz hk hzk hok)
    · exact hbad _ (fun e => hzk e.2.1) (by unfold flE; rw [if_neg (by simp [hk]), if_pos hzk]) (rfl_err2 b u A c L o zA zc zl y m d h i s w hr hz hk hzk)
  · exact hbad _ (fun e => hk e.1) (by unfold flE; rw [if_pos hk]) (rfl_err1 b u A c L o zA zc zl y m d h i s w hr hz hk)
end Go.Proofs.Ytleipbanadnchaa.C
end

section
/- Contracts of both Local, by hand. -/
namespace Go.Proofs.Ytleipbanadnchaa.C
open Go.RowKit Go.Shelf Go.Maps Go.Proofs.YtleipbanadnchaaW.PrintWords Go.Proofs.YtleipbanadnchaaW.PrintLast Go.Proofs.YtleipbanadnchaaW.PrintMore
set_option linter.unusedVariables false
set_option linter.unusedSimpArgs false
theorem results_row_tmp2 {P : Program} {fn : Func} {p u v : Tmp} {ty : TypeId} (h : fn.results = #[.cell p ty, .tmp u, .tmp v]) (tmps : Array Value) (w : World) (g : Nat) (t : TypeId) (cs : Array Value) (fr : Nat × Nat) (d : TypeDesc)
    (hp : tmps.getD p undef = .pointer (some ⟨g, 0, none⟩)) (hg : w.heap[g]? = some (.cells cs t fr))
    (hu : P.underlying ty = some d) (hd : (match d with | .struct _ | .array _ _ => true | _ => false) = true) (hi : (P.info? ty).map (·.size) = some cs.size) :
    (results fn tmps).run P w = .ok (.tuple #[.agg cs, tmps.getD u undef, tmps.getD v undef]) w := by
  have e : (results fn tmps).run P w =
      ((asAddr (tmps.getD p undef)).run P w).andThen fun a w₁ => ((loadVar ty a).run P w₁).andThen fun x w₂ => .ok (.tuple #[x, tmps.getD u undef, tmps.getD v undef]) w₂ := by
    simp only [results, h]
    simp [Sem.run_bind, Result.andThen]
  rw [e, hp]
  simp [asAddr, run_loadVar_row w g t ty cs fr d hg hu hd hi, Result.andThen]
/-- What is wrong with a table, a zone or a second. -/
def lE (b u : Int) (L : List (Int × Int)) (o : Int) (zl : List (Int × Int)) (s : Int) : Int :=
  if checkF b L u ≠ 0 then checkF b L u else if zcheckF o zl ≠ 0 then zcheckF o zl else if knowsB L u s = true then 0 else 6
theorem lE_zero {b u : Int} {L : List (Int × Int)} {o : Int} {zl : List (Int × Int)} {s : Int} (h : lE b u L o zl s = 0) : checkF b L u = 0 ∧ zcheckF o zl = 0 ∧ knowsB L u s = true := by
  unfold lE at h
  split at h
  · rename_i h1; exact absurd h h1
  · rename_i h1
    split at h
    · rename_i h2; exact absurd h h2
    · rename_i h2
      split at h
      · rename_i h3; exact ⟨by omega, by omega, h3⟩
      · cases h
set_option maxHeartbeats 4000000 in
set_option maxRecDepth 100000 in
theorem lc_err1 (b u : Int) (A : Option Addr) (c : Nat) (L : List (Int × Int)) (o : Int) (zA : Option Addr) (zc : Nat) (zl : List (Int × Int)) (s : Int) (w : World) (hr : Kd.C kl w A L.length L) (hz : Kd.C kl w zA zl.length zl)
    (hk : checkF b L u ≠ 0) :
    Calls Try.prog 41 #[tabV b A L.length c u, zoneV o zA zl.length zc, .int .i64 s] w fun e w' => e = .returned (.tuple #[dateV 0 0 0 0 0 0, .int .i64 0, .int .i64 (checkF b L u)]) ∧ Below w.heap.size w w' := by
  have HR := Aside0.mk hr
  have HZ := Aside0.mk hz
  have a62 := fun w h => open_calls b u A c L w h
  obtain ⟨q, hq⟩ : ∃ q, checkF b L u = q := ⟨_, rfl⟩
  have HQ := Aside0.mk hk
  have HG := Aside0.mk hq
  rw [hq] at hk ⊢
  have q1 : (q == 0) = false := beq_eq_false_iff_ne.2 hk
  have q2 : (q != 0) = true := bne_iff_ne.2 hk
  clear hk hq hr hz
  obtain ⟨w1, hw1⟩ : ∃ w1, ((w.alloc (.cells #[.int .i64 b, .slice A L.length c, .int .i64 u] 28)).alloc (.cells #[.int .i64 o, .slice zA zl.length zc] 76)).alloc (.cells #[.int .i64 0, .int .i64 0, .int .i64 0, .int .i64 0, .int .i64 0, .int .i64 0] 30) = w1 := ⟨_, rfl⟩
  have hv : Below w.heap.size w w1 := by rw [← hw1]; exact (((Below.refl _ w).alloc (Nat.le_refl _) _).alloc (by simp) _).alloc (by simp; omega) _
  have kt : w1.heap[w.heap.size]? = some (.cells #[.int .i64 b, .slice A L.length c, .int .i64 u] 28 (0, 0)) := by rw [← hw1]; exact al_old (al_old (al_new _ _ _ rfl))
  have kz : w1.heap[w.heap.size + 1]? = some (.cells #[.int .i64 o, .slice zA zl.length zc] 76 (0, 0)) := by rw [← hw1]; exact al_old (al_new _ _ _ (by simp))
  have kr : w1.heap[w.heap.size + 1 + 1]? = some (.cells #[.int .i64 0, .int .i64 0, .int .i64 0, .int .i64 0, .int .i64 0, .int .i64 0] 30 (0, 0)) := by rw [← hw1]; exact al_new _ _ _ (by simp)
  have t0 : w1.cell? ⟨w.heap.size, 0, none⟩ = some (.int .i64 b) := blk_cell kt 0
  have t1 : w1.cell? ⟨w.heap.size, 1, none⟩ = some (.slice A L.length c) := blk_cell kt 1
  have t2 : w1.cell? ⟨w.heap.size, 2, none⟩ = some (.int .i64 u) := blk_cell kt 2
  have z0 : w1.cell? ⟨w.heap.size + 1, 0, none⟩ = some (.int .i64 o) := blk_cell kz 0
  have z1 : w1.cell? ⟨w.heap.size + 1, 1, none⟩ = some (.slice zA zl.length zc) := blk_cell kz 1
  clear kt kz
  have hR1 := Kd.C_below HR.out hv
  have hZ1 := Kd.C_below HZ.out hv
  go_enter Try.func41, Try.ntmps41
  go_wp2_with fail
  try rw [hw1]
  clear hw1
  refine (a62 _ hR1).mono ?_
  rintro en w2 ⟨hE, _, hB⟩
  obtain rfl := hE HQ.out
  replace kr := (hB.block _ (Array.getElem?_eq_some_iff.1 kr).1).trans kr
  replace t0 := cell_on hB t0
  replace t1 := cell_on hB t1
  replace t2 := cell_on hB t2
  replace z0 := cell_on hB z0
  replace z1 := cell_on hB z1
  replace hR1 := Kd.C_below hR1 hB
  replace hZ1 := Kd.C_below hZ1 hB
  replace hv := hv.trans (hB.mono hv.size)
  clear hB hE a62
  rw [HG.out]
  have r0 : w2.cell? ⟨w.heap.size + 1 + 1, 0, none⟩ = some (.int .i64 0) := blk_cell kr 0
  have r1 : w2.cell? ⟨w.heap.size + 1 + 1, 1, none⟩ = some (.int .i64 0) := blk_cell kr 1
  have r2 : w2.cell? ⟨w.heap.size + 1 + 1, 2, none⟩ = some (.int .i64 0) := blk_cell kr 2
  have r3 : w2.cell? ⟨w.heap.size + 1 + 1, 3, none⟩ = some (.int .i64 0) := blk_cell kr 3
  have r4 : w2.cell? ⟨w.heap.size + 1 + 1, 4, none⟩ = some (.int .i64 0) := blk_cell kr 4
  have r5 : w2.cell? ⟨w.heap.size + 1 + 1, 5, none⟩ = some (.int .i64 0) := blk_cell kr 5
  have f0 := blk_frozen kr 0
  have f1 := blk_frozen kr 1
  have f2 := blk_frozen kr 2
  have f3 := blk_frozen kr 3
  have f4 := blk_frozen kr 4
  have f5 := blk_frozen kr 5
  go_wp2
  exact bodyPost_ret (results_row_tmp2 rfl _ _ (w.heap.size + 1 + 1) 30 _ (0, 0) _ rfl (blk_put (blk_put (blk_put (blk_put (blk_put (blk_put kr 0 _ rfl) 1 _ rfl) 2 _ rfl) 3 _ rfl) 4 _ rfl) 5 _ rfl) Try.underlying30 rfl info30) rfl
    ⟨rfl, ((((((hv).setCell (by simp; try omega) _).setCell (by simp; try omega) _).setCell (by simp; try omega) _).setCell (by simp; try omega) _).setCell (by simp; try omega) _).setCell (by simp; try omega) _⟩
set_option maxHeartbeats 4000000 in
set_option maxRecDepth 100000 in
theorem lc_err2 (b u : Int) (A : Option Addr) (c : Nat) (L : List (Int × Int)) (o : Int) (zA : Option Addr) (zc : Nat) (zl : List (Int × Int)) (s : Int) (w : World) (hr : Kd.C kl w A L.length L) (hz : Kd.C kl w zA zl.length zl)
    (hk : checkF b L u = 0) (hzk : zcheckF o zl ≠ 0) :
    Calls Try.prog 41 #[tabV b A L.length c u, zoneV o zA zl.length zc, .int .i64 s] w fun e w' => e = .returned (.tuple #[dateV 0 0 0 0 0 0, .int .i64 0, .int .i64 (zcheckF o zl)]) ∧ Below w.heap.size w w' := by
  have HR := Aside0.mk hr
  have HZ := Aside0.mk hz
  have a62 := fun w h => open_calls b u A c L w h
  have HK := Aside0.mk hk
  have a94 := fun w h => zcheck_calls o zA zc zl w h
  clear hk
  have q1 : (zcheckF o zl == 0) = false := beq_eq_false_iff_ne.2 hzk
  have q2 : (zcheckF o zl != 0) = true := bne_iff_ne.2 hzk
  generalize zcheckF o zl = q at *
  clear hzk hr hz
  obtain ⟨w1, hw1⟩ : ∃ w1, ((w.alloc (.cells #[.int .i64 b, .slice A L.length c, .int .i64 u] 28)).alloc (.cells #[.int .i64 o, .slice zA zl.length zc] 76)).alloc (.cells #[.int .i64 0, .int .i64 0, .int .i64 0, .int .i64 0, .int .i64 0, .int .i64 0] 30) = w1 := ⟨_, rfl⟩
  have hv : Below w.heap.size w w1 := by rw [← hw1]; exact (((Below.refl _ w).alloc (Nat.le_refl _) _).alloc (by simp) _).alloc (by simp; omega) _
  have kt : w1.heap[w.heap.size]? = some (.cells #[.int .i64 b, .slice A L.length c, .int .i64 u] 28 (0, 0)) := by rw [← hw1]; exact al_old (al_old (al_new _ _ _ rfl))
  have kz : w1.heap[w.heap.size + 1]? = some (.cells #[.int .i64 o, .slice zA zl.length zc] 76 (0, 0)) := by rw [← hw1]; exact al_old (al_new _ _ _ (by simp))
  have kr : w1.heap[w.heap.size + 1 + 1]? = some (.cells #[.int .i64 0, .int .i64 0, .int .i64 0, .int .i64 0, .int .i64 0, .int .i64 0] 30 (0, 0)) := by rw [← hw1]; exact al_new _ _ _ (by simp)
  have t0 : w1.cell? ⟨w.heap.size, 0, none⟩ = some (.int .i64 b) := blk_cell kt 0
  have t1 : w1.cell? ⟨w.heap.size, 1, none⟩ = some (.slice A L.length c) := blk_cell kt 1
  have t2 : w1.cell? ⟨w.heap.size, 2, none⟩ = some (.int .i64 u) := blk_cell kt 2
  have z0 : w1.cell? ⟨w.heap.size + 1, 0, none⟩ = some (.int .i64 o) := blk_cell kz 0
  have z1 : w1.cell? ⟨w.heap.size + 1, 1, none⟩ = some (.slice zA zl.length zc) := blk_cell kz 1
  clear kt kz
  have hR1 := Kd.C_below HR.out hv
  have hZ1 := Kd.C_below HZ.out hv
  go_enter Try.func41, Try.ntmps41
  go_wp2_with fail
  try rw [hw1]
  clear hw1
  refine (a62 _ hR1).mono ?_
  rintro en w2 ⟨_, hE, hB⟩
  obtain ⟨kb, rfl, hkb, hct⟩ := hE HK.out
  replace kr := (hB.block _ (Array.getElem?_eq_some_iff.1 kr).1).trans kr
  replace t0 := cell_on hB t0
  replace t1 := cell_on hB t1
  replace t2 := cell_on hB t2
  replace z0 := cell_on hB z0
  replace z1 := cell_on hB z1
  replace hR1 := Kd.C_below hR1 hB
  replace hZ1 := Kd.C_below hZ1 hB
  replace hv := hv.trans (hB.mono hv.size)
  clear hB hE a62
  have HCT := Aside0.mk hct
  clear hct
  go_wp2_with fail
  refine (a94 _ hZ1).mono ?_
  rintro en w3 ⟨rfl, hB⟩
  replace kr := (hB.block _ (Array.getElem?_eq_some_iff.1 kr).1).trans kr
  replace t0 := cell_on hB t0
  replace t1 := cell_on hB t1
  replace t2 := cell_on hB t2
  replace z0 := cell_on hB z0
  replace z1 := cell_on hB z1
  replace hR1 := Kd.C_below hR1 hB
  replace hZ1 := Kd.C_below hZ1 hB
  replace HCT := Aside0.mk (HCT.out.below hB)
  replace hv := hv.trans (hB.mono hv.size)
  clear hB a94
  have r0 : w3.cell? ⟨w.heap.size + 1 + 1, 0, none⟩ = some (.int .i64 0) := blk_cell kr 0
  have r1 : w3.cell? ⟨w.heap.size + 1 + 1, 1, none⟩ = some (.int .i64 0) := blk_cell kr 1
  have r2 : w3.cell? ⟨w.heap.size + 1 + 1, 2, none⟩ = some (.int .i64 0) := blk_cell kr 2
  have r3 : w3.cell? ⟨w.heap.size + 1 + 1, 3, none⟩ = some (.int .i64 0) := blk_cell kr 3
  have r4 : w3.cell? ⟨w.heap.size + 1 + 1, 4, none⟩ = some (.int .i64 0) := blk_cell kr 4
  have r5 : w3.cell? ⟨w.heap.size + 1 + 1, 5, none⟩ = some (.int .i64 0) := blk_cell kr 5
  have f0 := blk_frozen kr 0
  have f1 := blk_frozen kr 1
  have f2 := blk_frozen kr 2
  have f3 := blk_frozen kr 3
  have f4 := blk_frozen kr 4
  have f5 := blk_frozen kr 5
  go_wp2
  exact bodyPost_ret (results_row_tmp2 rfl _ _ (w.heap.size + 1 + 1) 30 _ (0, 0) _ rfl (blk_put (blk_put (blk_put (blk_put (blk_put (blk_put kr 0 _ rfl) 1 _ rfl) 2 _ rfl) 3 _ rfl) 4 _ rfl) 5 _ rfl) Try.underlying30 rfl info30) rfl
    ⟨rfl, ((((((hv).setCell (by simp; try omega) _).setCell (by simp; try omega) _).setCell (by simp; try omega) _).setCell (by simp; try omega) _).setCell (by simp; try omega) _).setCell (by simp; try omega) _⟩
set_option maxHeartbeats 4000000 in
set_option maxRecDepth 100000 in
theorem lc_err3 (b u : Int) (A : Option Addr) (c : Nat) (L : List (Int × Int)) (o : Int) (zA : Option Addr) (zc : Nat) (zl : List (Int × Int)) (s : Int) (w : World) (hr : Kd.C kl w A L.length L) (hz : Kd.C kl w zA zl.length zl)
    (hk : checkF b L u = 0) (hzk : zcheckF o zl = 0) (hkn : knowsB L u s = false) :
    Calls Try.prog 41 #[tabV b A L.length c u, zoneV o zA zl.length zc, .int .i64 s] w fun e w' => e = .returned (.tuple #[dateV 0 0 0 0 0 0, .int .i64 0, .int .i64 6]) ∧ Below w.heap.size w w' := by
  have HR := Aside0.mk hr
  have HZ := Aside0.mk hz
  have a62 := fun w h => open_calls b u A c L w h
  have HK := Aside0.mk hk
  have a94 := fun w h => zcheck_calls o zA zc zl w h
  clear hk
  have a92 := fun kb w hc => knows_calls kb b u A c L s w hc HK.out
  rw [hkn] at a92
  rw [hzk] at a94
  clear hzk hr hz hkn
  obtain ⟨w1, hw1⟩ : ∃ w1, ((w.alloc (.cells #[.int .i64 b, .slice A L.length c, .int .i64 u] 28)).alloc (.cells #[.int .i64 o, .slice zA zl.length zc] 76)).alloc (.cells #[.int .i64 0, .int .i64 0, .int .i64 0, .int .i64 0, .int .i64 0, .int .i64 0] 30) = w1 := ⟨_, rfl⟩
  have hv : Below w.heap.size w w1 := by rw [← hw1]; exact (((Below.refl _ w).alloc (Nat.le_refl _) _).alloc (by simp) _).alloc (by simp; omega) _
  have kt : w1.heap[w.heap.size]? = some (.cells #[.int .i64 b, .slice A L.length c, .int .i64 u] 28 (0, 0)) := by rw [← hw1]; exact al_old (al_old (al_new _ _ _ rfl))
  have kz : w1.heap[w.heap.size + 1]? = some (.cells #[.int .i64 o, .slice zA zl.length zc] 76 (0, 0)) := by rw [← hw1]; exact al_old (al_new _ _ _ (by simp))
  have kr : w1.heap[w.heap.size + 1 + 1]? = some (.cells #[.int .i64 0, .int .i64 0, .int .i64 0, .int .i64 0, .int .i64 0, .int .i64 0] 30 (0, 0)) := by rw [← hw1]; exact al_new _ _ _ (by simp)
  have t0 : w1.cell? ⟨w.heap.size, 0, none⟩ = some (.int .i64 b) := blk_cell kt 0
  have t1 : w1.cell? ⟨w.heap.size, 1, none⟩ = some (.slice A L.length c) := blk_cell kt 1
  have t2 : w1.cell? ⟨w.heap.size, 2, none⟩ = some (.int .i64 u) := blk_cell kt 2
  have z0 : w1.cell? ⟨w.heap.size + 1, 0, none⟩ = some (.int .i64 o) := blk_cell kz 0
  have z1 : w1.cell? ⟨w.heap.size + 1, 1, none⟩ = some (.slice zA zl.length zc) := blk_cell kz 1
  clear kt kz
  have hR1 := Kd.C_below HR.out hv
  have hZ1 := Kd.C_below HZ.out hv
  go_enter Try.func41, Try.ntmps41
  go_wp2_with fail
  try rw [hw1]
  clear hw1
  refine (a62 _ hR1).mono ?_
  rintro en w2 ⟨_, hE, hB⟩
  obtain ⟨kb, rfl, hkb, hct⟩ := hE HK.out
  replace kr := (hB.block _ (Array.getElem?_eq_some_iff.1 kr).1).trans kr
  replace t0 := cell_on hB t0
  replace t1 := cell_on hB t1
  replace t2 := cell_on hB t2
  replace z0 := cell_on hB z0
  replace z1 := cell_on hB z1
  replace hR1 := Kd.C_below hR1 hB
  replace hZ1 := Kd.C_below hZ1 hB
  replace hv := hv.trans (hB.mono hv.size)
  clear hB hE a62
  have HCT := Aside0.mk hct
  clear hct
  go_wp2_with fail
  refine (a94 _ hZ1).mono ?_
  rintro en w3 ⟨rfl, hB⟩
  replace kr := (hB.block _ (Array.getElem?_eq_some_iff.1 kr).1).trans kr
  replace t0 := cell_on hB t0
  replace t1 := cell_on hB t1
  replace t2 := cell_on hB t2
  replace z0 := cell_on hB z0
  replace z1 := cell_on hB z1
  replace hR1 := Kd.C_below hR1 hB
  replace hZ1 := Kd.C_below hZ1 hB
  replace HCT := Aside0.mk (HCT.out.below hB)
  replace hv := hv.trans (hB.mono hv.size)
  clear hB a94
  go_wp2_with fail
  refine (a92 kb _ HCT.out).mono ?_
  rintro en w4 ⟨rfl, hB⟩
  replace kr := (hB.block _ (Array.getElem?_eq_some_iff.1 kr).1).trans kr
  replace t0 := cell_on hB t0
  replace t1 := cell_on hB t1
  replace t2 := cell_on hB t2
  replace z0 := cell_on hB z0
  replace z1 := cell_on hB z1
  replace hR1 := Kd.C_below hR1 hB
  replace hZ1 := Kd.C_below hZ1 hB
  replace HCT := Aside0.mk (HCT.out.below hB)
  replace hv := hv.trans (hB.mono hv.size)
  clear hB a92
  have r0 : w4.cell? ⟨w.heap.size + 1 + 1, 0, none⟩ = some (.int .i64 0) := blk_cell kr 0
  have r1 : w4.cell? ⟨w.heap.size + 1 + 1, 1, none⟩ = some (.int .i64 0) := blk_cell kr 1
  have r2 : w4.cell? ⟨w.heap.size + 1 + 1, 2, none⟩ = some (.int .i64 0) := blk_cell kr 2
  have r3 : w4.cell? ⟨w.heap.size + 1 + 1, 3, none⟩ = some (.int .i64 0) := blk_cell kr 3
  have r4 : w4.cell? ⟨w.heap.size + 1 + 1, 4, none⟩ = some (.int .i64 0) := blk_cell kr 4
  have r5 : w4.cell? ⟨w.heap.size + 1 + 1, 5, none⟩ = some (.int .i64 0) := blk_cell kr 5
  have f0 := blk_frozen kr 0
  have f1 := blk_frozen kr 1
  have f2 := blk_frozen kr 2
  have f3 := blk_frozen kr 3
  have f4 := blk_frozen kr 4
  have f5 := blk_frozen kr 5
  go_wp2
  exact bodyPost_ret (results_row_tmp2 rfl _ _ (w.heap.size + 1 + 1) 30 _ (0, 0) _ rfl (blk_put (blk_put (blk_put (blk_put (blk_put (blk_put kr 0 _ rfl) 1 _ rfl) 2 _ rfl) 3 _ rfl) 4 _ rfl) 5 _ rfl) Try.underlying30 rfl info30) rfl
    ⟨rfl, ((((((hv).setCell (by simp; try omega) _).setCell (by simp; try omega) _).setCell (by simp; try omega) _).setCell (by simp; try omega) _).setCell (by simp; try omega) _).setCell (by simp; try omega) _⟩
set_option maxHeartbeats 4000000 in
set_option maxRecDepth 100000 in
theorem rlc_err1 (b u : Int) (A : Option Addr) (c : Nat) (L : List (Int × Int)) (o : Int) (zA : Option Addr) (zc : Nat) (zl : List (Int × Int)) (s : Int) (w : World) (hr : Kd.C kl w A L.length L) (hz : Kd.C kl w zA zl.length zl)
    (hk : checkF b L u ≠ 0) :
    Calls Try.prog 96 #[tabV b A L.length c u, zoneV o zA zl.length zc, .int .i64 s] w fun e w' => e = .returned (.tuple #[dateV 0 0 0 0 0 0, .int .i64 0, .int .i64 (checkF b L u)]) ∧ Below w.heap.size w w' := by
  have HR := Aside0.mk hr
  have HZ := Aside0.mk hz
  have a53 := fun w h => rcheck_calls b u A c L w h
  have q1 : (checkF b L u == 0) = false := beq_eq_false_iff_ne.2 hk
  have q2 : (checkF b L u != 0) = true := bne_iff_ne.2 hk
  generalize checkF b L u = q at *
  clear hk hr hz
  obtain ⟨w1, hw1⟩ : ∃ w1, ((w.alloc (.cells #[.int .i64 b, .slice A L.length c, .int .i64 u] 90)).alloc (.cells #[.int .i64 o, .slice zA zl.length zc] 143)).alloc (.cells #[.int .i64 0, .int .i64 0, .int .i64 0, .int .i64 0, .int .i64 0, .int .i64 0] 98) = w1 := ⟨_, rfl⟩
  have hv : Below w.heap.size w w1 := by rw [← hw1]; exact (((Below.refl _ w).alloc (Nat.le_refl _) _).alloc (by simp) _).alloc (by simp; omega) _
  have kt : w1.heap[w.heap.size]? = some (.cells #[.int .i64 b, .slice A L.length c, .int .i64 u] 90 (0, 0)) := by rw [← hw1]; exact al_old (al_old (al_new _ _ _ rfl))
  have kz : w1.heap[w.heap.size + 1]? = some (.cells #[.int .i64 o, .slice zA zl.length zc] 143 (0, 0)) := by rw [← hw1]; exact al_old (al_new _ _ _ (by simp))
  have kr : w1.heap[w.heap.size + 1 + 1]? = some (.cells #[.int .i64 0, .int .i64 0, .int .i64 0, .int .i64 0, .int .i64 0, .int .i64 0] 98 (0, 0)) := by rw [← hw1]; exact al_new _ _ _ (by simp)
  have t0 : w1.cell? ⟨w.heap.size, 0, none⟩ = some (.int .i64 b) := blk_cell kt 0
  have t1 : w1.cell? ⟨w.heap.size, 1, none⟩ = some (.slice A L.length c) := blk_cell kt 1
  have t2 : w1.cell? ⟨w.heap.size, 2, none⟩ = some (.int .i64 u) := blk_cell kt 2
  have z0 : w1.cell? ⟨w.heap.size + 1, 0, none⟩ = some (.int .i64 o) := blk_cell kz 0
  have z1 : w1.cell? ⟨w.heap.size + 1, 1, none⟩ = some (.slice zA zl.length zc) := blk_cell kz 1
  clear kt kz
  have hR1 := Kd.C_below HR.out hv
  have hZ1 := Kd.C_below HZ.out hv
  go_enter Try.func96, Try.ntmps96
  go_wp2_with fail
  try rw [hw1]
  clear hw1
  refine (a53 _ hR1).mono ?_
  rintro en w2 ⟨rfl, hB⟩
  replace kr := (hB.block _ (Array.getElem?_eq_some_iff.1 kr).1).trans kr
  replace t0 := cell_on hB t0
  replace t1 := cell_on hB t1
  replace t2 := cell_on hB t2
  replace z0 := cell_on hB z0
  replace z1 := cell_on hB z1
  replace hR1 := Kd.C_below hR1 hB
  replace hZ1 := Kd.C_below hZ1 hB
  replace hv := hv.trans (hB.mono hv.size)
  clear hB a53
  have r0 : w2.cell? ⟨w.heap.size + 1 + 1, 0, none⟩ = some (.int .i64 0) := blk_cell kr 0
  have r1 : w2.cell? ⟨w.heap.size + 1 + 1, 1, none⟩ = some (.int .i64 0) := blk_cell kr 1
  have r2 : w2.cell? ⟨w.heap.size + 1 + 1, 2, none⟩ = some (.int .i64 0) := blk_cell kr 2
  have r3 : w2.cell? ⟨w.heap.size + 1 + 1, 3, none⟩ = some (.int .i64 0) := blk_cell kr 3
  have r4 : w2.cell? ⟨w.heap.size + 1 + 1, 4, none⟩ = some (.int .i64 0) := blk_cell kr 4
  have r5 : w2.cell? ⟨w.heap.size + 1 + 1, 5, none⟩ = some (.int .i64 0) := blk_cell kr 5
  have f0 := blk_frozen kr 0
  have f1 := blk_frozen kr 1
  have f2 := blk_frozen kr 2
  have f3 := blk_frozen kr 3
  have f4 := blk_frozen kr 4
  have f5 := blk_frozen kr 5
  go_wp2
  exact bodyPost_ret (results_row_tmp2 rfl _ _ (w.heap.size + 1 + 1) 98 _ (0, 0) _ rfl (blk_put (blk_put (blk_put (blk_put (blk_put (blk_put kr 0 _ rfl) 1 _ rfl) 2 _ rfl) 3 _ rfl) 4 _ rfl) 5 _ rfl) Try.underlying98 rfl info98m) rfl
    ⟨rfl, ((((((hv).setCell (by simp; try omega) _).setCell (by simp; try omega) _).setCell (by simp; try omega) _).setCell (by simp; try omega) _).setCell (by simp; try omega) _).setCell (by simp; try omega) _⟩
set_option maxHeartbeats 4000000 in
set_option maxRecDepth 100000 in
theorem rlc_err2 (b u : Int) (A : Option Addr) (c : Nat) (L : List (Int × Int)) (o : Int) (zA : Option Addr) (zc : Nat) (zl : List (Int × Int)) (s : Int) (w : World) (hr : Kd.C kl w A L.length L) (hz : Kd.C kl w zA zl.length zl)
    (hk : checkF b L u = 0) (hzk : zcheckF o zl ≠ 0) :
    Calls Try.prog 96 #[tabV b A L.length c u, zoneV o zA zl.length zc, .int .i64 s] w fun e w' => e = .returned (.tuple #[dateV 0 0 0 0 0 0, .int .i64 0, .int .i64 (zcheckF o zl)]) ∧ Below w.heap.size w w' := by
  have HR := Aside0.mk hr
  have HZ := Aside0.mk hz
  have a53 := fun w h => rcheck_calls b u A c L w h
  have HK := Aside0.mk hk
  rw [hk] at a53
  have a94 := fun w h => rzcheck_calls o zA zc zl w h
  clear hk
  have q1 : (zcheckF o zl == 0) = false := beq_eq_false_iff_ne.2 hzk
  have q2 : (zcheckF o zl != 0) = true := bne_iff_ne.2 hzk
  generalize zcheckF o zl = q at *
  clear hzk hr hz
  obtain ⟨w1, hw1⟩ : ∃ w1, ((w.alloc (.cells #[.int .i64 b, .slice A L.length c, .int .i64 u] 90)).alloc (.cells #[.int .i64 o, .slice zA zl.length zc] 143)).alloc (.cells #[.int .i64 0, .int .i64 0, .int .i64 0, .int .i64 0, .int .i64 0, .int .i64 0] 98) = w1 := ⟨_, rfl⟩
  have hv : Below w.heap.size w w1 := by rw [← hw1]; exact (((Below.refl _ w).alloc (Nat.le_refl _) _).alloc (by simp) _).alloc (by simp; omega) _
  have kt : w1.heap[w.heap.size]? = some (.cells #[.int .i64 b, .slice A L.length c, .int .i64 u] 90 (0, 0)) := by rw [← hw1]; exact al_old (al_old (al_new _ _ _ rfl))
  have kz : w1.heap[w.heap.size + 1]? = some (.cells #[.int .i64 o, .slice zA zl.length zc] 143 (0, 0)) := by rw [← hw1]; exact al_old (al_new _ _ _ (by simp))
  have kr : w1.heap[w.heap.size + 1 + 1]? = some (.cells #[.int .i64 0, .int .i64 0, .int .i64 0, .int .i64 0, .int .i64 0, .int .i64 0] 98 (0, 0)) := by rw [← hw1]; exact al_new _ _ _ (by simp)
  have t0 : w1.cell? ⟨w.heap.size, 0, none⟩ = some (.int .i64 b) := blk_cell kt 0
  have t1 : w1.cell? ⟨w.heap.size, 1, none⟩ = some (.slice A L.length c) := blk_cell kt 1
  have t2 : w1.cell? ⟨w.heap.size, 2, none⟩ = some (.int .i64 u) := blk_cell kt 2
  have z0 : w1.cell? ⟨w.heap.size + 1, 0, none⟩ = some (.int .i64 o) := blk_cell kz 0
  have z1 : w1.cell? ⟨w.heap.size + 1, 1, none⟩ = some (.slice zA zl.length zc) := blk_cell kz 1
  clear kt kz
  have hR1 := Kd.C_below HR.out hv
  have hZ1 := Kd.C_below HZ.out hv
  go_enter Try.func96, Try.ntmps96
  go_wp2_with fail
  try rw [hw1]
  clear hw1
  refine (a53 _ hR1).mono ?_
  rintro en w2 ⟨rfl, hB⟩
  replace kr := (hB.block _ (Array.getElem?_eq_some_iff.1 kr).1).trans kr
  replace t0 := cell_on hB t0
  replace t1 := cell_on hB t1
  replace t2 := cell_on hB t2
  replace z0 := cell_on hB z0
  replace z1 := cell_on hB z1
  replace hR1 := Kd.C_below hR1 hB
  replace hZ1 := Kd.C_below hZ1 hB
  replace hv := hv.trans (hB.mono hv.size)
  clear hB a53
  go_wp2_with fail
  refine (a94 _ hZ1).mono ?_
  rintro en w3 ⟨rfl, hB⟩
  replace kr := (hB.block _ (Array.getElem?_eq_some_iff.1 kr).1).trans kr
  replace t0 := cell_on hB t0
  replace t1 := cell_on hB t1
  replace t2 := cell_on hB t2
  replace z0 := cell_on hB z0
  replace z1 := cell_on hB z1
  replace hR1 := Kd.C_below hR1 hB
  replace hZ1 := Kd.C_below hZ1 hB
  replace hv := hv.trans (hB.mono hv.size)
  clear hB a94
  have r0 : w3.cell? ⟨w.heap.size + 1 + 1, 0, none⟩ = some (.int .i64 0) := blk_cell kr 0
  have r1 : w3.cell? ⟨w.heap.size + 1 + 1, 1, none⟩ = some (.int .i64 0) := blk_cell kr 1
  have r2 : w3.cell? ⟨w.heap.size + 1 + 1, 2, none⟩ = some (.int .i64 0) := blk_cell kr 2
  have r3 : w3.cell? ⟨w.heap.size + 1 + 1, 3, none⟩ = some (.int .i64 0) := blk_cell kr 3
  have r4 : w3.cell? ⟨w.heap.size + 1 + 1, 4, none⟩ = some (.int .i64 0) := blk_cell kr 4
  have r5 : w3.cell? ⟨w.heap.size + 1 + 1, 5, none⟩ = some (.int .i64 0) := blk_cell kr 5
  have f0 := blk_frozen kr 0
  have f1 := blk_frozen kr 1
  have f2 := blk_frozen kr 2
  have f3 := blk_frozen kr 3
  have f4 := blk_frozen kr 4
  have f5 := blk_frozen kr 5
  go_wp2
  exact bodyPost_ret (results_row_tmp2 rfl _ _ (w.heap.size + 1 + 1) 98 _ (0, 0) _ rfl (blk_put (blk_put (blk_put (blk_put (blk_put (blk_put kr 0 _ rfl) 1 _ rfl) 2 _ rfl) 3 _ rfl) 4 _ rfl) 5 _ rfl) Try.underlying98 rfl info98m) rfl
    ⟨rfl, ((((((hv).setCell (by simp; try omega) _).setCell (by simp; try omega) _).setCell (by simp; try omega) _).setCell (by simp; try omega) _).setCell (by simp; try omega) _).setCell (by simp; try omega) _⟩
set_option maxHeartbeats 4000000 in
set_option maxRecDepth 100000 in
theorem rlc_err3 (b u : Int) (A : Option Addr) (c : Nat) (L : List (Int × Int)) (o : Int) (zA : Option Addr) (zc : Nat) (zl : List (Int × Int)) (s : Int) (w : World) (hr : Kd.C kl w A L.length L) (hz : Kd.C kl w zA zl.length zl)
    (hk : checkF b L u = 0) (hzk : zcheckF o zl = 0) (hkn : knowsB L u s = false) :
    Calls Try.prog 96 #[tabV b A L.length c u, zoneV o zA zl.length zc, .int .i64 s] w fun e w' => e = .returned (.tuple #[dateV 0 0 0 0 0 0, .int .i64 0, .int .i64 6]) ∧ Below w.heap.size w w' := by
  have HR := Aside0.mk hr
  have HZ := Aside0.mk hz
  have a53 := fun w h => rcheck_calls b u A c L w h
  have HK := Aside0.mk hk
  rw [hk] at a53
  have a94 := fun w h => rzcheck_calls o zA zc zl w h
  clear hk
  have a58 := fun w h => rDates_err b u A c L s w h (by unfold askE; rw [if_pos HK.out, if_neg (by rw [hkn]; simp)]; decide)
  rw [show askE b L u s = 6 by unfold askE; rw [if_pos HK.out, if_neg (by rw [hkn]; simp)]] at a58
  rw [hzk] at a94
  clear hzk hr hz hkn
  obtain ⟨w1, hw1⟩ : ∃ w1, ((w.alloc (.cells #[.int .i64 b, .slice A L.length c, .int .i64 u] 90)).alloc (.cells #[.int .i64 o, .slice zA zl.length zc] 143)).alloc (.cells #[.int .i64 0, .int .i64 0, .int .i64 0, .int .i64 0, .int .i64 0, .int .i64 0] 98) = w1 := ⟨_, rfl⟩
  have hv : Below w.heap.size w w1 := by rw [← hw1]; exact (((Below.refl _ w).alloc (Nat.le_refl _) _).alloc (by simp) _).alloc (by simp; omega) _
  have kt : w1.heap[w.heap.size]? = some (.cells #[.int .i64 b, .slice A L.length c, .int .i64 u] 90 (0, 0)) := by rw [← hw1]; exact al_old (al_old (al_new _ _ _ rfl))
  have kz : w1.heap[w.heap.size + 1]? = some (.cells #[.int .i64 o, .slice zA zl.length zc] 143 (0, 0)) := by rw [← hw1]; exact al_old (al_new _ _ _ (by simp))
  have kr : w1.heap[w.heap.size + 1 + 1]? = some (.cells #[.int .i64 0, .int .i64 0, .int .i64 0, .int .i64 0, .int .i64 0, .int .i64 0] 98 (0, 0)) := by rw [← hw1]; exact al_new _ _ _ (by simp)
  have t0 : w1.cell? ⟨w.heap.size, 0, none⟩ = some (.int .i64 b) := blk_cell kt 0
  have t1 : w1.cell? ⟨w.heap.size, 1, none⟩ = some (.slice A L.length c) := blk_cell kt 1
  have t2 : w1.cell? ⟨w.heap.size, 2, none⟩ = some (.int .i64 u) := blk_cell kt 2
  have z0 : w1.cell? ⟨w.heap.size + 1, 0, none⟩ = some (.int .i64 o) := blk_cell kz 0
  have z1 : w1.cell? ⟨w.heap.size + 1, 1, none⟩ = some (.slice zA zl.length zc) := blk_cell kz 1
  clear kt kz
  have hR1 := Kd.C_below HR.out hv
  have hZ1 := Kd.C_below HZ.out hv
  go_enter Try.func96, Try.ntmps96
  go_wp2_with fail
  try rw [hw1]
  clear hw1
  refine (a53 _ hR1).mono ?_
  rintro en w2 ⟨rfl, hB⟩
  replace kr := (hB.block _ (Array.getElem?_eq_some_iff.1 kr).1).trans kr
  replace t0 := cell_on hB t0
  replace t1 := cell_on hB t1
  replace t2 := cell_on hB t2
  replace z0 := cell_on hB z0
  replace z1 := cell_on hB z1
  replace hR1 := Kd.C_below hR1 hB
  replace hZ1 := Kd.C_below hZ1 hB
  replace hv := hv.trans (hB.mono hv.size)
  clear hB a53
  go_wp2_with fail
  refine (a94 _ hZ1).mono ?_
  rintro en w3 ⟨rfl, hB⟩
  replace kr := (hB.block _ (Array.getElem?_eq_some_iff.1 kr).1).trans kr
  replace t0 := cell_on hB t0
  replace t1 := cell_on hB t1
  replace t2 := cell_on hB t2
  replace z0 := cell_on hB z0
  replace z1 := cell_on hB z1
  replace hR1 := Kd.C_below hR1 hB
  replace hZ1 := Kd.C_below hZ1 hB
  replace hv := hv.trans (hB.mono hv.size)
  clear hB a94
  go_wp2_with fail
  refine (a58 _ hR1).mono ?_
  rintro en w4 ⟨rfl, hB⟩
  replace kr := (hB.block _ (Array.getElem?_eq_some_iff.1 kr).1).trans kr
  replace t0 := cell_on hB t0
  replace t1 := cell_on hB t1
  replace t2 := cell_on hB t2
  replace z0 := cell_on hB z0
  replace z1 := cell_on hB z1
  replace hR1 := Kd.C_below hR1 hB
  replace hZ1 := Kd.C_below hZ1 hB
  replace hv := hv.trans (hB.mono hv.size)
  clear hB a58
  have hzr := (Array.getElem?_eq_some_iff.1 kr).1
  have r0 : w4.cell? ⟨w.heap.size + 1 + 1, 0, none⟩ = some (.int .i64 0) := blk_cell kr 0
  have r1 : w4.cell? ⟨w.heap.size + 1 + 1, 1, none⟩ = some (.int .i64 0) := blk_cell kr 1
  have r2 : w4.cell? ⟨w.heap.size + 1 + 1, 2, none⟩ = some (.int .i64 0) := blk_cell kr 2
  have r3 : w4.cell? ⟨w.heap.size + 1 + 1, 3, none⟩ = some (.int .i64 0) := blk_cell kr 3
  have r4 : w4.cell? ⟨w.heap.size + 1 + 1, 4, none⟩ = some (.int .i64 0) := blk_cell kr 4
  have r5 : w4.cell? ⟨w.heap.size + 1 + 1, 5, none⟩ = some (.int .i64 0) := blk_cell kr 5
  have f0 := blk_frozen kr 0
  have f1 := blk_frozen kr 1
  have f2 := blk_frozen kr 2
  have f3 := blk_frozen kr 3
  have f4 := blk_frozen kr 4
  have f5 := blk_frozen kr 5
  go_wp2
  exact bodyPost_ret (results_row_tmp2 rfl _ _ (w.heap.size + 1 + 1) 98 _ (0, 0) _ rfl (al_old (blk_put (blk_put (blk_put (blk_put (blk_put (blk_put kr 0 _ rfl) 1 _ rfl) 2 _ rfl) 3 _ rfl) 4 _ rfl) 5 _ rfl)) Try.underlying98 rfl info98m) rfl
    ⟨rfl, (((((((hv).setCell (by simp; try omega) _).setCell (by simp; try omega) _).setCell (by simp; try omega) _).setCell (by simp; try omega) _).setCell (by simp; try omega) _).setCell (by simp; try omega) _).alloc (by have := hv.size; simpa using this) _⟩
end Go.Proofs.Ytleipbanadnchaa.C
end

section
/- Contracts of both Local where a second is known, by hand. -/
namespace Go.Proofs.Ytleipbanadnchaa.C
open Go.RowKit Go.Shelf Go.Maps Go.Proofs.YtleipbanadnchaaW.PrintWords Go.Proofs.YtleipbanadnchaaW.PrintLast Go.Proofs.YtleipbanadnchaaW.PrintMore
set_option linter.unusedVariables false
set_option linter.unusedSimpArgs false
theorem ck_bounds (n : Int) (h0 : 0 ≤ n) : 0 ≤ ckH n ∧ ckH n ≤ 23 ∧ 0 ≤ ckM n ∧ ckM n ≤ 59 := by
  unfold ckH ckM
  split <;> omega
set_option maxHeartbeats 4000000 in
set_option maxRecDepth 100000 in
theorem lc_ok (b u : Int) (A : Option Addr) (c : Nat) (L : List (Int × Int)) (o : Int) (zA : Option Addr) (zc : Nat) (zl : List (Int × Int)) (s D : Int) (w : World) (hr : Kd.C kl w A L.length L) (hz : Kd.C kl w zA zl.length zl)
    (hk : checkF b L u = 0) (hzk : zcheckF o zl = 0) (hkn : knowsB L u s = true) (hD : IsDay L u s D) :
    Calls Try.prog 41 #[tabV b A L.length c u, zoneV o zA zl.length zc, .int .i64 s] w fun e w' => e = .returned (.tuple #[shiftV (cY D) (cM D) (cD D) (ckH (s - beginF L D)) (ckM (s - beginF L D)) (ckS (s - beginF L D)) (holdsF o zl s), .int .i64 (if knownD (shN (cY D) (cM D) (cD D) (ckH (s - beginF L D)) (ckM (s - beginF L D)) (holdsF o zl s) / 1440) = true then holdsF o zl s else 0), .int .i64 (if knownD (shN (cY D) (cM D) (cD D) (ckH (s - beginF L D)) (ckM (s - beginF L D)) (holdsF o zl s) / 1440) = true then 0 else 90)]) ∧ Below w.heap.size w w' := by
  have HR := Aside0.mk hr
  have HZ := Aside0.mk hz
  have HK := Aside0.mk hk
  have hzl := (zcheckF_right hzk).1
  have hnb := offL_bound hzk (holds_mem s zl o)
  have a94 := fun w h => zcheck_calls o zA zc zl w h
  rw [hzk] at a94
  have hok := (hD.ok (checkF_right hk).2.2.2.1).1
  have hck := ck_bounds (s - beginF L D) (by have := hD.lo; omega)
  have a99 := fun w h => holds_calls o zA zc zl s w h (by omega)
  have a100 := fun w => shift_calls (cY D) (cM D) (cD D) (ckH (s - beginF L D)) (ckM (s - beginF L D)) (ckS (s - beginF L D)) (holdsF o zl s) hok ⟨hck.1, hck.2.1⟩ ⟨hck.2.2.1, hck.2.2.2⟩ hnb w
  have a62 := fun w h => open_calls b u A c L w h
  have a92 := fun kb w hc => knows_calls kb b u A c L s w hc hk
  rw [hkn] at a92
  have a66 := fun kb w hc => date_calls kb b u A c L s D w hc hk hD
  clear hr hz hk hzk hkn hD hok hck hnb
  generalize ckH (s - beginF L D) = H at *
  generalize ckM (s - beginF L D) = I at *
  generalize ckS (s - beginF L D) = S at *
  unfold shiftV at a100 ⊢
  generalize holdsF o zl s = n at *
  generalize cY D = Y at *
  generalize cM D = M at *
  generalize cD D = K at *
  generalize shN Y M K H I n = T at *
  cases hkn : knownD (T / 1440)
  · rw [hkn] at a100
    rw [if_neg (by simp)] at a100
    rw [if_neg (by simp), if_neg (by simp), if_neg (by simp)]
    clear hkn
    obtain ⟨w1, hw1⟩ : ∃ w1, ((w.alloc (.cells #[.int .i64 b, .slice A L.length c, .int .i64 u] 28)).alloc (.cells #[.int .i64 o, .slice zA zl.length zc] 76)).alloc (.cells #[.int .i64 0, .int .i64 0, .int .i64 0, .int .i64 0, .int .i64 0, .int .i64 0] 30) = w1 := ⟨_, rfl⟩
    have hv : Below w.heap.size w w1 := by rw [← hw1]; exact (((Below.refl _ w).alloc (Nat.le_refl _) _).alloc (by simp) _).alloc (by simp; omega) _
    have kt : w1.heap[w.heap.size]? = some (.cells #[.int .i64 b, .slice A L.length c, .int .i64 u] 28 (0, 0)) := by rw [← hw1]; exact al_old (al_old (al_new _ _ _ rfl))
    have kz : w1.heap[w.heap.size + 1]? = some (.cells #[.int .i64 o, .slice zA zl.length zc] 76 (0, 0)) := by rw [← hw1]; exact al_old (al_new _ _ _ (by simp))
    have kr : w1.heap[w.heap.size + 1 + 1]? = some (.cells #[.int .i64 0, .int .i64 0, .int .i64 0, .int .i64 0, .int .i64 0, .int .i64 0] 30 (0, 0)) := by rw [← hw1]; exact al_new _ _ _ (by simp)
    have t0 : w1.cell? ⟨w.heap.size, 0, none⟩ = some (.int .i64 b) := blk_cell kt 0
    have t1 : w1.cell? ⟨w.heap.size, 1, none⟩ = some (.slice A L.length c) := blk_cell kt 1
    have t2 : w1.cell? ⟨w.heap.size, 2, none⟩ = some (.int .i64 u) := blk_cell kt 2
    have z0 : w1.cell? ⟨w.heap.size + 1, 0, none⟩ = some (.int .i64 o) := blk_cell kz 0
    have z1 : w1.cell? ⟨w.heap.size + 1, 1, none⟩ = some (.slice zA zl.length zc) := blk_cell kz 1
    clear kt kz
    have hR1 := Kd.C_below HR.out hv
    have hZ1 := Kd.C_below HZ.out hv
    go_enter Try.func41, Try.ntmps41
    go_wp2_with fail
    try rw [hw1]
    clear hw1
    refine (a62 _ hR1).mono ?_
    rintro en w2 ⟨_, hE, hB⟩
    obtain ⟨kb, rfl, hkb, hct⟩ := hE HK.out
    replace kr := (hB.block _ (Array.getElem?_eq_some_iff.1 kr).1).trans kr
    replace t0 := cell_on hB t0
    replace t1 := cell_on hB t1
    replace t2 := cell_on hB t2
    replace z0 := cell_on hB z0
    replace z1 := cell_on hB z1
    replace hR1 := Kd.C_below hR1 hB
    replace hZ1 := Kd.C_below hZ1 hB
    replace hv := hv.trans (hB.mono hv.size)
    clear hB hE a62
    have HCT := Aside0.mk hct
    clear hct
    go_wp2_with fail
    refine (a94 _ hZ1).mono ?_
    rintro en w3 ⟨rfl, hB⟩
    replace kr := (hB.block _ (Array.getElem?_eq_some_iff.1 kr).1).trans kr
    replace t0 := cell_on hB t0
    replace t1 := cell_on hB t1
    replace t2 := cell_on hB t2
    replace z0 := cell_on hB z0
    replace z1 := cell_on hB z1
    replace hR1 := Kd.C_below hR1 hB
    replace hZ1 := Kd.C_below hZ1 hB
    replace HCT := Aside0.mk (HCT.out.below hB)
    replace hv := hv.trans (hB.mono hv.size)
    clear hB a94
    go_wp2_with fail
    refine (a92 kb _ HCT.out).mono ?_
    rintro en w4 ⟨rfl, hB⟩
    replace kr := (hB.block _ (Array.getElem?_eq_some_iff.1 kr).1).trans kr
    replace t0 := cell_on hB t0
    replace t1 := cell_on hB t1
    replace t2 := cell_on hB t2
    replace z0 := cell_on hB z0
    replace z1 := cell_on hB z1
    replace hR1 := Kd.C_below hR1 hB
    replace hZ1 := Kd.C_below hZ1 hB
    replace HCT := Aside0.mk (HCT.out.below hB)
    replace hv := hv.trans (hB.mono hv.size)
    clear hB a92
    go_wp2_with fail
    refine (a99 _ hZ1).mono ?_
    rintro en w5 ⟨rfl, hB⟩
    replace kr := (hB.block _ (Array.getElem?_eq_some_iff.1 kr).1).trans kr
    replace t0 := cell_on hB t0
    replace t1 := cell_on hB t1
    replace t2 := cell_on hB t2
    replace z0 := cell_on hB z0
    replace z1 := cell_on hB z1
    replace hR1 := Kd.C_below hR1 hB
    replace hZ1 := Kd.C_below hZ1 hB
    replace HCT := Aside0.mk (HCT.out.below hB)
    replace hv := hv.trans (hB.mono hv.size)
    clear hB a99
    go_wp2_with fail
    refine (a66 kb _ HCT.out).mono ?_
    rintro en w6 ⟨rfl, hB⟩
    replace kr := (hB.block _ (Array.getElem?_eq_some_iff.1 kr).1).trans kr
    replace t0 := cell_on hB t0
    replace t1 := cell_on hB t1
    replace t2 := cell_on hB t2
    replace z0 := cell_on hB z0
    replace z1 := cell_on hB z1
    replace hR1 := Kd.C_below hR1 hB
    replace hZ1 := Kd.C_below hZ1 hB
    replace HCT := Aside0.mk (HCT.out.below hB)
    replace hv := hv.trans (hB.mono hv.size)
    clear hB a66
    go_wp2_with fail
    refine (a100 _).mono ?_
    rintro en w7 ⟨rfl, hB⟩
    replace kr := (hB.block _ (Array.getElem?_eq_some_iff.1 kr).1).trans kr
    replace t0 := cell_on hB t0
    replace t1 := cell_on hB t1
    replace t2 := cell_on hB t2
    replace z0 := cell_on hB z0
    replace z1 := cell_on hB z1
    replace hR1 := Kd.C_below hR1 hB
    replace hZ1 := Kd.C_below hZ1 hB
    replace HCT := Aside0.mk (HCT.out.below hB)
    replace hv := hv.trans (hB.mono hv.size)
    clear hB a100
    have hzr := (Array.getElem?_eq_some_iff.1 kr).1
    have r0 : w7.cell? ⟨w.heap.size + 1 + 1, 0, none⟩ = some (.int .i64 0) := blk_cell kr 0
    have r1 : w7.cell? ⟨w.heap.size + 1 + 1, 1, none⟩ = some (.int .i64 0) := blk_cell kr 1
    have r2 : w7.cell? ⟨w.heap.size + 1 + 1, 2, none⟩ = some (.int .i64 0) := blk_cell kr 2
    have r3 : w7.cell? ⟨w.heap.size + 1 + 1, 3, none⟩ = some (.int .i64 0) := blk_cell kr 3
    have r4 : w7.cell? ⟨w.heap.size + 1 + 1, 4, none⟩ = some (.int .i64 0) := blk_cell kr 4
    have r5 : w7.cell? ⟨w.heap.size + 1 + 1, 5, none⟩ = some (.int .i64 0) := blk_cell kr 5
    have f0 := blk_frozen kr 0
    have f1 := blk_frozen kr 1
    have f2 := blk_frozen kr 2
    have f3 := blk_frozen kr 3
    have f4 := blk_frozen kr 4
    have f5 := blk_frozen kr 5
    go_wp2
    exact bodyPost_ret (results_row_tmp2 rfl _ _ (w.heap.size + 1 + 1) 30 _ (0, 0) _ rfl (al_old (blk_put (blk_put (blk_put (blk_put (blk_put (blk_put kr 0 _ rfl) 1 _ rfl) 2 _ rfl) 3 _ rfl) 4 _ rfl) 5 _ rfl)) Try.underlying30 rfl info30) rfl
      ⟨rfl, (((((((hv).setCell (by simp; try omega) _).setCell (by simp; try omega) _).setCell (by simp; try omega) _).setCell (by simp; try omega) _).setCell (by simp; try omega) _).setCell (by simp; try omega) _).alloc (by have := hv.size; simpa using this) _⟩
  · rw [hkn] at a100
    rw [if_pos rfl] at a100
    rw [if_pos rfl, if_pos rfl, if_pos rfl]
    clear hkn
    generalize cY (T / 1440) = Y2 at *
    generalize cM (T / 1440) = M2 at *
    generalize cD (T / 1440) = K2 at *
    obtain ⟨w1, hw1⟩ : ∃ w1, ((w.alloc (.cells #[.int .i64 b, .slice A L.length c, .int .i64 u] 28)).alloc (.cells #[.int .i64 o, .slice zA zl.length zc] 76)).alloc (.cells #[.int .i64 0, .int .i64 0, .int .i64 0, .int .i64 0, .int .i64 0, .int .i64 0] 30) = w1 := ⟨_, rfl⟩
    have hv : Below w.heap.size w w1 := by rw [← hw1]; exact (((Below.refl _ w).alloc (Nat.le_refl _) _).alloc (by simp) _).alloc (by simp; omega) _
    have kt : w1.heap[w.heap.size]? = some (.cells #[.int .i64 b, .slice A L.length c, .int .i64 u] 28 (0, 0)) := by rw [← hw1]; exact al_old (al_old (al_new _ _ _ rfl))
    have kz : w1.heap[w.heap.size + 1]? = some (.cells #[.int .i64 o, .slice zA zl.length zc] 76 (0, 0)) := by rw [← hw1]; exact al_old (al_new _ _ _ (by simp))
    have kr : w1.heap[w.heap.size + 1 + 1]? = some (.cells #[.int .i64 0, .int .i64 0, .int .i64 0, .int .i64 0, .int .i64 0, .int .i64 0] 30 (0, 0)) := by rw [← hw1]; exact al_new _ _ _ (by simp)
    have t0 : w1.cell? ⟨w.heap.size, 0, none⟩ = some (.int .i64 b) := blk_cell kt 0
    have t1 : w1.cell? ⟨w.heap.size, 1, none⟩ = some (.slice A L.length c) := blk_cell kt 1
    have t2 : w1.cell? ⟨w.heap.size, 2, none⟩ = some (.int .i64 u) := blk_cell kt 2
    have z0 : w1.cell? ⟨w.heap.size + 1, 0, none⟩ = some (.int .i64 o) := blk_cell kz 0
    have z1 : w1.cell? ⟨w.heap.size + 1, 1, none⟩ = some (.slice zA zl.length zc) := blk_cell kz 1
    clear kt kz
    have hR1 := Kd.C_below HR.out hv
    have hZ1 := Kd.C_below HZ.out hv
    go_enter Try.func41, Try.ntmps41
    go_wp2_with fail
    try rw [hw1]
    clear hw1
    refine (a62 _ hR1).mono ?_
    rintro en w2 ⟨_, hE, hB⟩
    obtain ⟨kb, rfl, hkb, hct⟩ := hE HK.out
    replace kr := (hB.block _ (Array.getElem?_eq_some_iff.1 kr).1).trans kr
    replace t0 := cell_on hB t0
    replace t1 := cell_on hB t1
    replace t2 := cell_on hB t2
    replace z0 := cell_on hB z0
    replace z1 := cell_on hB z1
    replace hR1 := Kd.C_below hR1 hB
    replace hZ1 := Kd.C_below hZ1 hB
    replace hv := hv.trans (hB.mono hv.size)
    clear hB hE a62
    have HCT := Aside0.mk hct
    clear hct
    go_wp2_with fail
    refine (a94 _ hZ1).mono ?_
    rintro en w3 ⟨rfl, hB⟩
    replace kr := (hB.block _ (Array.getElem?_eq_some_iff.1 kr).1).trans kr
    replace t0 := cell_on hB t0
    replace t1 := cell_on hB t1
    replace t2 := cell_on hB t2
    replace z0 := cell_on hB z0
    replace z1 := cell_on hB z1
    replace hR1 := Kd.C_below hR1 hB
    replace hZ1 := Kd.C_below hZ1 hB
    replace HCT := Aside0.mk (HCT.out.below hB)
    replace hv := hv.trans (hB.mono hv.size)
    clear hB a94
    go_wp2_with fail
    refine (a92 kb _ HCT.out).mono ?_
    rintro en w4 ⟨rfl, hB⟩
    replace kr := (hB.block _ (Array.getElem?_eq_some_iff.1 kr).1).trans kr
    replace t0 := cell_on hB t0
    replace t1 := cell_on hB t1
    replace t2 := cell_on hB t2
    replace z0 := cell_on hB z0
    replace z1 := cell_on hB z1
    replace hR1 := Kd.C_below hR1 hB
    replace hZ1 := Kd.C_below hZ1 hB
    replace HCT := Aside0.mk (HCT.out.below hB)
    replace hv := hv.trans (hB.mono hv.size)
    clear hB a92
    go_wp2_with fail
    refine (a99 _ hZ1).mono ?_
    rintro en w5 ⟨rfl, hB⟩
    replace kr := (hB.block _ (Array.getElem?_eq_some_iff.1 kr).1).trans kr
    replace t0 := cell_on hB t0
    replace t1 := cell_on hB t1
    replace t2 := cell_on hB t2
    replace z0 := cell_on hB z0
    replace z1 := cell_on hB z1
    replace hR1 := Kd.C_below hR1 hB
    replace hZ1 := Kd.C_below hZ1 hB
    replace HCT := Aside0.mk (HCT.out.below hB)
    replace hv := hv.trans (hB.mono hv.size)
    clear hB a99
    go_wp2_with fail
    refine (a66 kb _ HCT.out).mono ?_
    rintro en w6 ⟨rfl, hB⟩
    replace kr := (hB.block _ (Array.getElem?_eq_some_iff.1 kr).1).trans kr
    replace t0 := cell_on hB t0
    replace t1 := cell_on hB t1
    replace t2 := cell_on hB t2
    replace z0 := cell_on hB z0
    replace z1 := cell_on hB z1
    replace hR1 := Kd.C_below hR1 hB
    replace hZ1 := Kd.C_below hZ1 hB
    replace HCT := Aside0.mk (HCT.out.below hB)
    replace hv := hv.trans (hB.mono hv.size)
    clear hB a66
    go_wp2_with fail
    refine (a100 _).mono ?_
    rintro en w7 ⟨rfl, hB⟩
    replace kr := (hB.block _ (Array.getElem?_eq_some_iff.1 kr).1).trans kr
    replace t0 := cell_on hB t0
    replace t1 := cell_on hB t1
    replace t2 := cell_on hB t2
    replace z0 := cell_on hB z0
    replace z1 := cell_on hB z1
    replace hR1 := Kd.C_below hR1 hB
    replace hZ1 := Kd.C_below hZ1 hB
    replace HCT := Aside0.mk (HCT.out.below hB)
    replace hv := hv.trans (hB.mono hv.size)
    clear hB a100
    have hzr := (Array.getElem?_eq_some_iff.1 kr).1
    have r0 : w7.cell? ⟨w.heap.size + 1 + 1, 0, none⟩ = some (.int .i64 0) := blk_cell kr 0
    have r1 : w7.cell? ⟨w.heap.size + 1 + 1, 1, none⟩ = some (.int .i64 0) := blk_cell kr 1
    have r2 : w7.cell? ⟨w.heap.size + 1 + 1, 2, none⟩ = some (.int .i64 0) := blk_cell kr 2
    have r3 : w7.cell? ⟨w.heap.size + 1 + 1, 3, none⟩ = some (.int .i64 0) := blk_cell kr 3
    have r4 : w7.cell? ⟨w.heap.size + 1 + 1, 4, none⟩ = some (.int .i64 0) := blk_cell kr 4
    have r5 : w7.cell? ⟨w.heap.size + 1 + 1, 5, none⟩ = some (.int .i64 0) := blk_cell kr 5
    have f0 := blk_frozen kr 0
    have f1 := blk_frozen kr 1
    have f2 := blk_frozen kr 2
    have f3 := blk_frozen kr 3
    have f4 := blk_frozen kr 4
    have f5 := blk_frozen kr 5
    go_wp2
    exact bodyPost_ret (results_row_tmp2 rfl _ _ (w.heap.size + 1 + 1) 30 _ (0, 0) _ rfl (al_old (blk_put (blk_put (blk_put (blk_put (blk_put (blk_put kr 0 _ rfl) 1 _ rfl) 2 _ rfl) 3 _ rfl) 4 _ rfl) 5 _ rfl)) Try.underlying30 rfl info30) rfl
      ⟨rfl, (((((((hv).setCell (by simp; try omega) _).setCell (by simp; try omega) _).setCell (by simp; try omega) _).setCell (by simp; try omega) _).setCell (by simp; try omega) _).setCell (by simp; try omega) _).alloc (by have := hv.size; simpa using this) _⟩
set_option maxHeartbeats 4000000 in
set_option maxRecDepth 100000 in
theorem rlc_ok (b u : Int) (A : Option Addr) (c : Nat) (L : List (Int × Int)) (o : Int) (zA : Option Addr) (zc : Nat) (zl : List (Int × Int)) (s D : Int) (w : World) (hr : Kd.C kl w A L.length L) (hz : Kd.C kl w zA zl.length zl)
    (hk : checkF b L u = 0) (hzk : zcheckF o zl = 0) (hkn : knowsB L u s = true) (hD : IsDay L u s D) :
    Calls Try.prog 96 #[tabV b A L.length c u, zoneV o zA zl.length zc, .int .i64 s] w fun e w' => e = .returned (.tuple #[shiftV (cY D) (cM D) (cD D) (ckH (s - beginF L D)) (ckM (s - beginF L D)) (ckS (s - beginF L D)) (holdsF o zl s), .int .i64 (if knownD (shN (cY D) (cM D) (cD D) (ckH (s - beginF L D)) (ckM (s - beginF L D)) (holdsF o zl s) / 1440) = true then holdsF o zl s else 0), .int .i64 (if knownD (shN (cY D) (cM D) (cD D) (ckH (s - beginF L D)) (ckM (s - beginF L D)) (holdsF o zl s) / 1440) = true then 0 else 90)]) ∧ Below w.heap.size w w' := by
  have HR := Aside0.mk hr
  have HZ := Aside0.mk hz
  have HK := Aside0.mk hk
  have hzl := (zcheckF_right hzk).1
  have hnb := offL_bound hzk (holds_mem s zl o)
  have a94 := fun w h => rzcheck_calls o zA zc zl w h
  rw [hzk] at a94
  have hok := (hD.ok (checkF_right hk).2.2.2.1).1
  have hck := ck_bounds (s - beginF L D) (by have := hD.lo; omega)
  have a99 := fun w h => rholds_calls o zA zc zl s w h (by omega)
  have a100 := fun w => moved_calls (cY D) (cM D) (cD D) (ckH (s - beginF L D)) (ckM (s - beginF L D)) (ckS (s - beginF L D)) (holdsF o zl s) hok ⟨hck.1, hck.2.1⟩ ⟨hck.2.2.1, hck.2.2.2⟩ hnb w
  have a53 := fun w h => rcheck_calls b u A c L w h
  rw [hk] at a53
  have a58 := fun w h => rDates_ok b u A c L s D w h (by unfold askE; rw [if_pos hk, if_pos hkn]) hD
  clear hr hz hk hzk hkn hD hok hck hnb
  generalize ckH (s - beginF L D) = H at *
  generalize ckM (s - beginF L D) = I at *
  generalize ckS (s - beginF L D) = S at *
  unfold shiftV at a100 ⊢
  generalize holdsF o zl s = n at *
  generalize cY D = Y at *
  generalize cM D = M at *
  generalize cD D = K at *
  generalize shN Y M K H I n = T at *
  cases hkn : knownD (T / 1440)
  · rw [hkn] at a100
    rw [if_neg (by simp)] at a100
    rw [if_neg (by simp), if_neg (by simp), if_neg (by simp)]
    clear hkn
    obtain ⟨w1, hw1⟩ : ∃ w1, ((w.alloc (.cells #[.int .i64 b, .slice A L.length c, .int .i64 u] 90)).alloc (.cells #[.int .i64 o, .slice zA zl.length zc] 143)).alloc (.cells #[.int .i64 0, .int .i64 0, .int .i64 0, .int .i64 0, .int .i64 0, .int .i64 0] 98) = w1 := ⟨_, rfl⟩
    have hv : Below w.heap.size w w1 := by rw [← hw1]; exact (((Below.refl _ w).alloc (Nat.le_refl _) _).alloc (by simp) _).alloc (by simp; omega) _
    have kt : w1.heap[w.heap.size]? = some (.cells #[.int .i64 b, .slice A L.length c, .int .i64 u] 90 (0, 0)) := by rw [← hw1]; exact al_old (al_old (al_new _ _ _ rfl))
    have kz : w1.heap[w.heap.size + 1]? = some (.cells #[.int .i64 o, .slice zA zl.length zc] 143 (0, 0)) := by rw [← hw1]; exact al_old (al_new _ _ _ (by simp))
    have kr : w1.heap[w.heap.size + 1 + 1]? = some (.cells #[.int .i64 0, .int .i64 0, .int .i64 0, .int .i64 0, .int .i64 0, .int .i64 0] 98 (0, 0)) := by rw [← hw1]; exact al_new _ _ _ (by simp)
    have t0 : w1.cell? ⟨w.heap.size, 0, none⟩ = some (.int .i64 b) := blk_cell kt 0
    have t1 : w1.cell? ⟨w.heap.size, 1, none⟩ = some (.slice A L.length c) := blk_cell kt 1
    have t2 : w1.cell? ⟨w.heap.size, 2, none⟩ = some (.int .i64 u) := blk_cell kt 2
    have z0 : w1.cell? ⟨w.heap.size + 1, 0, none⟩ = some (.int .i64 o) := blk_cell kz 0
    have z1 : w1.cell? ⟨w.heap.size + 1, 1, none⟩ = some (.slice zA zl.length zc) := blk_cell kz 1
    clear kt kz
    have hR1 := Kd.C_below HR.out hv
    have hZ1 := Kd.C_below HZ.out hv
    go_enter Try.func96, Try.ntmps96
    go_wp2_with fail
    try rw [hw1]
    clear hw1
    refine (a53 _ hR1).mono ?_
    rintro en w2 ⟨rfl, hB⟩
    replace kr := (hB.block _ (Array.getElem?_eq_some_iff.1 kr).1).trans kr
    replace t0 := cell_on hB t0
    replace t1 := cell_on hB t1
    replace t2 := cell_on hB t2
    replace z0 := cell_on hB z0
    replace z1 := cell_on hB z1
    replace hR1 := Kd.C_below hR1 hB
    replace hZ1 := Kd.C_below hZ1 hB
    replace hv := hv.trans (hB.mono hv.size)
    clear hB a53
    go_wp2_with fail
    refine (a94 _ hZ1).mono ?_
    rintro en w3 ⟨rfl, hB⟩
    replace kr := (hB.block _ (Array.getElem?_eq_some_iff.1 kr).1).trans kr
    replace t0 := cell_on hB t0
    replace t1 := cell_on hB t1
    replace t2 := cell_on hB t2
    replace z0 := cell_on hB z0
    replace z1 := cell_on hB z1
    replace hR1 := Kd.C_below hR1 hB
    replace hZ1 := Kd.C_below hZ1 hB
    replace hv := hv.trans (hB.mono hv.size)
    clear hB a94
    go_wp2_with fail
    refine (a58 _ hR1).mono ?_
    rintro en w4 ⟨rfl, hB⟩
    replace kr := (hB.block _ (Array.getElem?_eq_some_iff.1 kr).1).trans kr
    replace t0 := cell_on hB t0
    replace t1 := cell_on hB t1
    replace t2 := cell_on hB t2
    replace z0 := cell_on hB z0
    replace z1 := cell_on hB z1
    replace hR1 := Kd.C_below hR1 hB
    replace hZ1 := Kd.C_below hZ1 hB
    replace hv := hv.trans (hB.mono hv.size)
    clear hB a58
    have hzr := (Array.getElem?_eq_some_iff.1 kr).1
    have hzz := World.block_lt_of_cell? _ _ z0
    go_wp2_with fail
    clear hzr hzz
    obtain ⟨w5, hw5⟩ : ∃ w5, w4.alloc (.cells #[.int .i64 Y, .int .i64 M, .int .i64 K, .int .i64 H, .int .i64 I, .int .i64 S] 98) = w5 := ⟨_, rfl⟩
    try rw [hw5]
    have hB : Below w4.heap.size w4 w5 := by rw [← hw5]; exact (Below.refl _ w4).alloc (by first | exact Nat.le_refl _ | (simp; done) | (simp; omega)) _
    have kd : w5.heap[w4.heap.size]? = some (.cells #[.int .i64 Y, .int .i64 M, .int .i64 K, .int .i64 H, .int .i64 I, .int .i64 S] 98 (0, 0)) := by rw [← hw5]; exact al_new _ _ _ (by first | rfl | (simp; done) | (simp; omega))
    have d0 : w5.cell? ⟨w4.heap.size, 0, none⟩ = some (.int .i64 Y) := blk_cell kd 0
    have d1 : w5.cell? ⟨w4.heap.size, 1, none⟩ = some (.int .i64 M) := blk_cell kd 1
    have d2 : w5.cell? ⟨w4.heap.size, 2, none⟩ = some (.int .i64 K) := blk_cell kd 2
    have d3 : w5.cell? ⟨w4.heap.size, 3, none⟩ = some (.int .i64 H) := blk_cell kd 3
    have d4 : w5.cell? ⟨w4.heap.size, 4, none⟩ = some (.int .i64 I) := blk_cell kd 4
    have d5 : w5.cell? ⟨w4.heap.size, 5, none⟩ = some (.int .i64 S) := blk_cell kd 5
    clear kd
    replace kr := (hB.block _ (Array.getElem?_eq_some_iff.1 kr).1).trans kr
    replace t0 := cell_on hB t0
    replace t1 := cell_on hB t1
    replace t2 := cell_on hB t2
    replace z0 := cell_on hB z0
    replace z1 := cell_on hB z1
    replace hR1 := Kd.C_below hR1 hB
    replace hZ1 := Kd.C_below hZ1 hB
    replace hv := hv.trans (hB.mono hv.size)
    clear hB hw5
    refine (a99 _ hZ1).mono ?_
    rintro en w6 ⟨rfl, hB⟩
    replace kr := (hB.block _ (Array.getElem?_eq_some_iff.1 kr).1).trans kr
    replace t0 := cell_on hB t0
    replace t1 := cell_on hB t1
    replace t2 := cell_on hB t2
    replace z0 := cell_on hB z0
    replace z1 := cell_on hB z1
    replace d0 := cell_on hB d0
    replace d1 := cell_on hB d1
    replace d2 := cell_on hB d2
    replace d3 := cell_on hB d3
    replace d4 := cell_on hB d4
    replace d5 := cell_on hB d5
    replace hR1 := Kd.C_below hR1 hB
    replace hZ1 := Kd.C_below hZ1 hB
    replace hv := hv.trans (hB.mono hv.size)
    clear hB a99
    go_wp2_with fail
    refine (a100 _).mono ?_
    rintro en w7 ⟨rfl, hB⟩
    replace kr := (hB.block _ (Array.getElem?_eq_some_iff.1 kr).1).trans kr
    replace t0 := cell_on hB t0
    replace t1 := cell_on hB t1
    replace t2 := cell_on hB t2
    replace z0 := cell_on hB z0
    replace z1 := cell_on hB z1
    replace d0 := cell_on hB d0
    replace d1 := cell_on hB d1
    replace d2 := cell_on hB d2
    replace d3 := cell_on hB d3
    replace d4 := cell_on hB d4
    replace d5 := cell_on hB d5
    replace hR1 := Kd.C_below hR1 hB
    replace hZ1 := Kd.C_below hZ1 hB
    replace hv := hv.trans (hB.mono hv.size)
    clear hB a100
    have hzr := (Array.getElem?_eq_some_iff.1 kr).1
    have r0 : w7.cell? ⟨w.heap.size + 1 + 1, 0, none⟩ = some (.int .i64 0) := blk_cell kr 0
    have r1 : w7.cell? ⟨w.heap.size + 1 + 1, 1, none⟩ = some (.int .i64 0) := blk_cell kr 1
    have r2 : w7.cell? ⟨w.heap.size + 1 + 1, 2, none⟩ = some (.int .i64 0) := blk_cell kr 2
    have r3 : w7.cell? ⟨w.heap.size + 1 + 1, 3, none⟩ = some (.int .i64 0) := blk_cell kr 3
    have r4 : w7.cell? ⟨w.heap.size + 1 + 1, 4, none⟩ = some (.int .i64 0) := blk_cell kr 4
    have r5 : w7.cell? ⟨w.heap.size + 1 + 1, 5, none⟩ = some (.int .i64 0) := blk_cell kr 5
    have f0 := blk_frozen kr 0
    have f1 := blk_frozen kr 1
    have f2 := blk_frozen kr 2
    have f3 := blk_frozen kr 3
    have f4 := blk_frozen kr 4
    have f5 := blk_frozen kr 5
    go_wp2
    exact bodyPost_ret (results_row_tmp2 rfl _ _ (w.heap.size + 1 + 1) 98 _ (0, 0) _ rfl (al_old (blk_put (blk_put (blk_put (blk_put (blk_put (blk_put kr 0 _ rfl) 1 _ rfl) 2 _ rfl) 3 _ rfl) 4 _ rfl) 5 _ rfl)) Try.underlying98 rfl info98m) rfl
      ⟨rfl, (((((((hv).setCell (by simp; try omega) _).setCell (by simp; try omega) _).setCell (by simp; try omega) _).setCell (by simp; try omega) _).setCell (by simp; try omega) _).setCell (by simp; try omega) _).alloc (by have := hv.size; simpa using this) _⟩
  · rw [hkn] at a100
    rw [if_pos rfl] at a100
    rw [if_pos rfl, if_pos rfl, if_pos rfl]
    clear hkn
    generalize cY (T / 1440) = Y2 at *
    generalize cM (T / 1440) = M2 at *
    generalize cD (T / 1440) = K2 at *
    obtain ⟨w1, hw1⟩ : ∃ w1, ((w.alloc (.cells #[.int .i64 b, .slice A L.length c, .int .i64 u] 90)).alloc (.cells #[.int .i64 o, .slice zA zl.length zc] 143)).alloc (.cells #[.int .i64 0, .int .i64 0, .int .i64 0, .int .i64 0, .int .i64 0, .int .i64 0] 98) = w1 := ⟨_, rfl⟩
    have hv : Below w.heap.size w w1 := by rw [← hw1]; exact (((Below.refl _ w).alloc (Nat.le_refl _) _).alloc (by simp) _).alloc (by simp; omega) _
    have kt : w1.heap[w.heap.size]? = some (.cells #[.int .i64 b, .slice A L.length c, .int .i64 u] 90 (0, 0)) := by rw [← hw1]; exact al_old (al_old (al_new _ _ _ rfl))
    have kz : w1.heap[w.heap.size + 1]? = some (.cells #[.int .i64 o, .slice zA zl.length zc] 143 (0, 0)) := by rw [← hw1]; exact al_old (al_new _ _ _ (by simp))
    have kr : w1.heap[w.heap.size + 1 + 1]? = some (.cells #[.int .i64 0, .int .i64 0, .int .i64 0, .int .i64 0, .int .i64 0, .int .i64 0] 98 (0, 0)) := by rw [← hw1]; exact al_new _ _ _ (by simp)
    have t0 : w1.cell? ⟨w.heap.size, 0, none⟩ = some (.int .i64 b) := blk_cell kt 0
    have t1 : w1.cell? ⟨w.heap.size, 1, none⟩ = some (.slice A L.length c) := blk_cell kt 1
    have t2 : w1.cell? ⟨w.heap.size, 2, none⟩ = some (.int .i64 u) := blk_cell kt 2
    have z0 : w1.cell? ⟨w.heap.size + 1, 0, none⟩ = some (.int .i64 o) := blk_cell kz 0
    have z1 : w1.cell? ⟨w.heap.size + 1, 1, none⟩ = some (.slice zA zl.length zc) := blk_cell kz 1
    clear kt kz
    have hR1 := Kd.C_below HR.out hv
    have hZ1 := Kd.C_below HZ.out hv
    go_enter Try.func96, Try.ntmps96
    go_wp2_with fail
    try rw [hw1]
    clear hw1
    refine (a53 _ hR1).mono ?_
    rintro en w2 ⟨rfl, hB⟩
    replace kr := (hB.block _ (Array.getElem?_eq_some_iff.1 kr).1).trans kr
    replace t0 := cell_on hB t0
    replace t1 := cell_on hB t1
    replace t2 := cell_on hB t2
    replace z0 := cell_on hB z0
    replace z1 := cell_on hB z1
    replace hR1 := Kd.C_below hR1 hB
    replace hZ1 := Kd.C_below hZ1 hB
    replace hv := hv.trans (hB.mono hv.size)
    clear hB a53
    go_wp2_with fail
    refine (a94 _ hZ1).mono ?_
    rintro en w3 ⟨rfl, hB⟩
    replace kr := (hB.block _ (Array.getElem?_eq_some_iff.1 kr).1).trans kr
    replace t0 := cell_on hB t0
    replace t1 := cell_on hB t1
    replace t2 := cell_on hB t2
    replace z0 := cell_on hB z0
    replace z1 := cell_on hB z1
    replace hR1 := Kd.C_below hR1 hB
    replace hZ1 := Kd.C_below hZ1 hB
    replace hv := hv.trans (hB.mono hv.size)
    clear hB a94
    go_wp2_with fail
    refine (a58 _ hR1).mono ?_
    rintro en w4 ⟨rfl, hB⟩
    replace kr := (hB.block _ (Array.getElem?_eq_some_iff.1 kr).1).trans kr
    replace t0 := cell_on hB t0
    replace t1 := cell_on hB t1
    replace t2 := cell_on hB t2
    replace z0 := cell_on hB z0
    replace z1 := cell_on hB z1
    replace hR1 := Kd.C_below hR1 hB
    replace hZ1 := Kd.C_below hZ1 hB
    replace hv := hv.trans (hB.mono hv.size)
    clear hB a58
    have hzr := (Array.getElem?_eq_some_iff.1 kr).1
    have hzz := World.block_lt_of_cell? _ _ z0
    go_wp2_with fail
    clear hzr hzz
    obtain ⟨w5, hw5⟩ : ∃ w5, w4.alloc (.cells #[.int .i64 Y, .int .i64 M, .int .i64 K, .int .i64 H, .int .i64 I, .int .i64 S] 98) = w5 := ⟨_, rfl⟩
    try rw [hw5]
    have hB : Below w4.heap.size w4 w5 := by rw [← hw5]; exact (Below.refl _ w4).alloc (by first | exact Nat.le_refl _ | (simp; done) | (simp; omega)) _
    have kd : w5.heap[w4.heap.size]? = some (.cells #[.int .i64 Y, .int .i64 M, .int .i64 K, .int .i64 H, .int .i64 I, .int .i64 S] 98 (0, 0)) := by rw [← hw5]; exact al_new _ _ _ (by first | rfl | (simp; done) | (simp; omega))
    have d0 : w5.cell? ⟨w4.heap.size, 0, none⟩ = some (.int .i64 Y) := blk_cell kd 0
    have d1 : w5.cell? ⟨w4.heap.size, 1, none⟩ = some (.int .i64 M) := blk_cell kd 1
    have d2 : w5.cell? ⟨w4.heap.size, 2, none⟩ = some (.int .i64 K) := blk_cell kd 2
    have d3 : w5.cell? ⟨w4.heap.size, 3, none⟩ = some (.int .i64 H) := blk_cell kd 3
    have d4 : w5.cell? ⟨w4.heap.size, 4, none⟩ = some (.int .i64 I) := blk_cell kd 4
    have d5 : w5.cell? ⟨w4.heap.size, 5, none⟩ = some (.int .i64 S) := blk_cell kd 5
    clear kd
    replace kr := (hB.block _ (Array.getElem?_eq_some_iff.1 kr).1).trans kr
    replace t0 := cell_on hB t0
    replace t1 := cell_on hB t1
    replace t2 := cell_on hB t2
    replace z0 := cell_on hB z0
    replace z1 := cell_on hB z1
    replace hR1 := Kd.C_below hR1 hB
    replace hZ1 := Kd.C_below hZ1 hB
    replace hv := hv.trans (hB.mono hv.size)
    clear hB hw5
    refine (a99 _ hZ1).mono ?_
    rintro en w6 ⟨rfl, hB⟩
    replace kr := (hB.block _ (Array.getElem?_eq_some_iff.1 kr).1).trans kr
    replace t0 := cell_on hB t0
    replace t1 := cell_on hB t1
    replace t2 := cell_on hB t2
    replace z0 := cell_on hB z0
    replace z1 := cell_on hB z1
    replace d0 := cell_on hB d0
    replace d1 := cell_on hB d1
    replace d2 := cell_on hB d2
    replace d3 := cell_on hB d3
    replace d4 := cell_on hB d4
    replace d5 := cell_on hB d5
    replace hR1 := Kd.C_below hR1 hB
    replace hZ1 := Kd.C_below hZ1 hB
    replace hv := hv.trans (hB.mono hv.size)
    clear hB a99
    go_wp2_with fail
    refine (a100 _).mono ?_
    rintro en w7 ⟨rfl, hB⟩
    replace kr := (hB.block _ (Array.getElem?_eq_some_iff.1 kr).1).trans kr
    replace t0 := cell_on hB t0
    replace t1 := cell_on hB t1
    replace t2 := cell_on hB t2
    replace z0 := cell_on hB z0
    replace z1 := cell_on hB z1
    replace d0 := cell_on hB d0
    replace d1 := cell_on hB d1
    replace d2 := cell_on hB d2
    replace d3 := cell_on hB d3
    replace d4 := cell_on hB d4
    replace d5 := cell_on hB d5
    replace hR1 := Kd.C_below hR1 hB
    replace hZ1 := Kd.C_below hZ1 hB
    replace hv := hv.trans (hB.mono hv.size)
    clear hB a100
    have hzr := (Array.getElem?_eq_some_iff.1 kr).1
    have r0 : w7.cell? ⟨w.heap.size + 1 + 1, 0, none⟩ = some (.int .i64 0) := blk_cell kr 0
    have r1 : w7.cell? ⟨w.heap.size + 1 + 1, 1, none⟩ = some (.int .i64 0) := blk_cell kr 1
    have r2 : w7.cell? ⟨w.heap.size + 1 + 1, 2, none⟩ = some (.int .i64 0) := blk_cell kr 2
    have r3 : w7.cell? ⟨w.heap.size + 1 + 1, 3, none⟩ = some (.int .i64 0) := blk_cell kr 3
    have r4 : w7.cell? ⟨w.heap.size + 1 + 1, 4, none⟩ = some (.int .i64 0) := blk_cell kr 4
    have r5 : w7.cell? ⟨w.heap.size + 1 + 1, 5, none⟩ = some (.int .i64 0) := blk_cell kr 5
    have f0 := blk_frozen kr 0
    have f1 := blk_frozen kr 1
    have f2 := blk_frozen kr 2
    have f3 := blk_frozen kr 3
    have f4 := blk_frozen kr 4
    have f5 := blk_frozen kr 5
    go_wp2
    exact bodyPost_ret (results_row_tmp2 rfl _ _ (w.heap.size + 1 + 1) 98 _ (0, 0) _ rfl (al_old (blk_put (blk_put (blk_put (blk_put (blk_put (blk_put kr 0 _ rfl) 1 _ rfl) 2 _ rfl) 3 _ rfl) 4 _ rfl) 5 _ rfl)) Try.underlying98 rfl info98m) rfl
      ⟨rfl, (((((((hv).setCell (by simp; try omega) _).setCell (by simp; try omega) _).setCell (by simp; try omega) _).setCell (by simp; try omega) _).setCell (by simp; try omega) _).setCell (by simp; try omega) _).alloc (by have := hv.size; simpa using this) _⟩
end Go.Proofs.Ytleipbanadnchaa.C
end
