/- Contracts of FromNtp, ToNtp's ways out, ToGps, FromGps, by hand. -/
import Derived.OwnWalk
import Derived.Test.YtleipbanadnchaaGc
import Derived.Test.YtleipbanadnchaaGd
namespace Go.Proofs.Ytleipbanadnchaa.C
open Go.RowKit Go.Shelf Go.Maps Go.Proofs.YtleipbanadnchaaW.PrintWords Go.Proofs.YtleipbanadnchaaW.PrintLast Go.Proofs.YtleipbanadnchaaW.PrintMore
set_option linter.unusedVariables false
set_option linter.unusedSimpArgs false
def fromNL (b : Int) (l : List (Int × Int)) (u x y : Int) : List Int := if checkF b l u = 0 ∧ 0 ≤ y ∧ y ≤ 4294967295 ∧ 0 ≤ x ∧ x ≤ 1000 then secsF l u (x * 4294967296 + y - 2208988800) else []
def fromNE (b : Int) (l : List (Int × Int)) (u x y : Int) : Int := if checkF b l u = 0 then (if 0 ≤ y ∧ y ≤ 4294967295 ∧ 0 ≤ x ∧ x ≤ 1000 then (if secsF l u (x * 4294967296 + y - 2208988800) = [] then 4 else 0) else 6) else checkF b l u
set_option maxHeartbeats 2000000 in
set_option maxRecDepth 100000 in
theorem FromNtp_calls (b u : Int) (A : Option Addr) (c : Nat) (l : List (Int × Int)) (x y : Int) (w : World) (hr : Kd.C kl w A l.length l) :
    Calls Try.prog 34 #[tabV b A l.length c u, .agg #[.int .i64 x, .int .i64 y]] w fun e w' => RetL w' e (fromNL b l u x y) (fromNE b l u x y) ∧ Below w.heap.size w w' := by
  have HR := Aside0.mk hr
  have a62 := fun w h => open_calls b u A c l w h
  clear hr
  by_cases hk : checkF b l u = 0
  · obtain ⟨h1, h2, h3, h4, h5, h6⟩ := checkF_right hk
    have a81 := fun w => within_calls y 0 4294967295 w
    have b81 := fun w => within_calls x 0 1000 w
    by_cases hy : 0 ≤ y ∧ y ≤ 4294967295
    rotate_left
    · have hL : fromNL b l u x y = [] := by unfold fromNL; rw [if_neg (by omega)]
      have hE : fromNE b l u x y = 6 := by unfold fromNE; rw [if_pos hk, if_neg (by omega)]
      rw [hL, hE]
      rw [hk] at a62
      rw [show (decide (0 ≤ y) && decide (y ≤ 4294967295)) = false by simp; omega] at a81
      clear hk hL hE h6 hy b81
      go_enter Try.func34, Try.ntmps34
      go_wp2_with fail
      refine (a62 _ (Kd.C_below HR.out (((Below.refl _ w).alloc (Nat.le_refl _) _).alloc (by simp) _))).mono ?_
      rintro en w1 ⟨_, h2', hB⟩
      obtain ⟨kb, rfl, hkb, hct⟩ := (by first | exact h2' rfl | exact h2' trivial | exact h2')
      have hv : Below w.heap.size w w1 := (((Below.refl _ w).alloc (Nat.le_refl _) _).alloc (by simp) _).trans (hB.mono (by simp; omega))
      have kd : w1.heap[w.heap.size + 1]? = some (.cells #[.int .i64 x, .int .i64 y] 52 (0, 0)) := (hB.block _ (by simp)).trans (al_new _ _ _ (by simp))
      have x0 : w1.cell? ⟨w.heap.size + 1, 0, none⟩ = some (.int .i64 x) := blk_cell kd 0
      have x1 : w1.cell? ⟨w.heap.size + 1, 1, none⟩ = some (.int .i64 y) := blk_cell kd 1
      clear hB h2' a62 hct kd
      go_wp2_with fail
      refine (a81 _).mono ?_
      rintro en w2 ⟨rfl, hB⟩
      go_wp2
      go_ret2
      exact ⟨RetL_nil _ _, hv.trans (hB.mono hv.size)⟩
    rw [show (decide (0 ≤ y) && decide (y ≤ 4294967295)) = true by simp; omega] at a81
    by_cases hx : 0 ≤ x ∧ x ≤ 1000
    rotate_left
    · have hL : fromNL b l u x y = [] := by unfold fromNL; rw [if_neg (by omega)]
      have hE : fromNE b l u x y = 6 := by unfold fromNE; rw [if_pos hk, if_neg (by omega)]
      rw [hL, hE]
      rw [hk] at a62
      rw [show (decide (0 ≤ x) && decide (x ≤ 1000)) = false by simp; omega] at b81
      clear hk hL hE h6 hy hx
      go_enter Try.func34, Try.ntmps34
      go_wp2_with fail
      refine (a62 _ (Kd.C_below HR.out (((Below.refl _ w).alloc (Nat.le_refl _) _).alloc (by simp) _))).mono ?_
      rintro en w1 ⟨_, h2', hB⟩
      obtain ⟨kb, rfl, hkb, hct⟩ := (by first | exact h2' rfl | exact h2' trivial | exact h2')
      have hv : Below w.heap.size w w1 := (((Below.refl _ w).alloc (Nat.le_refl _) _).alloc (by simp) _).trans (hB.mono (by simp; omega))
      have kd : w1.heap[w.heap.size + 1]? = some (.cells #[.int .i64 x, .int .i64 y] 52 (0, 0)) := (hB.block _ (by simp)).trans (al_new _ _ _ (by simp))
      have x0 : w1.cell? ⟨w.heap.size + 1, 0, none⟩ = some (.int .i64 x) := blk_cell kd 0
      have x1 : w1.cell? ⟨w.heap.size + 1, 1, none⟩ = some (.int .i64 y) := blk_cell kd 1
      clear hB h2' a62 hct kd
      go_wp2_with fail
      refine (a81 _).mono ?_
      rintro en w2 ⟨rfl, hB⟩
      replace x0 := cell_on hB x0
      replace hv := hv.trans (hB.mono hv.size)
      clear hB
      go_wp2_with fail
      refine (b81 _).mono ?_
      rintro en w3 ⟨rfl, hB⟩
      go_wp2
      go_ret2
      exact ⟨RetL_nil _ _, hv.trans (hB.mono hv.size)⟩
    rw [show (decide (0 ≤ x) && decide (x ≤ 1000)) = true by simp; omega] at b81
    have a89 := fun kb w hc => seconds_calls kb b u A c l (x * 4294967296 + y - 2208988800) w hc h6 h5 (by omega) h4
    have hL : fromNL b l u x y = secsF l u (x * 4294967296 + y - 2208988800) := by unfold fromNL; rw [if_pos ⟨hk, by omega⟩]
    have hE : fromNE b l u x y = if secsF l u (x * 4294967296 + y - 2208988800) = [] then 4 else 0 := by unfold fromNE; rw [if_pos hk, if_pos (by omega)]
    obtain ⟨er, her⟩ : ∃ er : Int, (if secsF l u (x * 4294967296 + y - 2208988800) = [] then 4 else 0) = er := ⟨_, rfl⟩
    rw [hL, hE, her]
    rw [hk] at a62
    clear hk hL hE h6
    generalize secsF l u (x * 4294967296 + y - 2208988800) = q at *
    go_enter Try.func34, Try.ntmps34
    go_wp2_with fail
    refine (a62 _ (Kd.C_below HR.out (((Below.refl _ w).alloc (Nat.le_refl _) _).alloc (by simp) _))).mono ?_
    rintro en w1 ⟨_, h2', hB⟩
    obtain ⟨kb, rfl, hkb, hct⟩ := (by first | exact h2' rfl | exact h2' trivial | exact h2')
    have hv : Below w.heap.size w w1 := (((Below.refl _ w).alloc (Nat.le_refl _) _).alloc (by simp) _).trans (hB.mono (by simp; omega))
    have kd : w1.heap[w.heap.size + 1]? = some (.cells #[.int .i64 x, .int .i64 y] 52 (0, 0)) := (hB.block _ (by simp)).trans (al_new _ _ _ (by simp))
    have x0 : w1.cell? ⟨w.heap.size + 1, 0, none⟩ = some (.int .i64 x) := blk_cell kd 0
    have x1 : w1.cell? ⟨w.heap.size + 1, 1, none⟩ = some (.int .i64 y) := blk_cell kd 1
    have HCt := Aside0.mk hct
    clear hB h2' a62 hct kd
    go_wp2_with fail
    refine (a81 _).mono ?_
    rintro en w2 ⟨rfl, hB⟩
    replace x0 := cell_on hB x0
    replace x1 := cell_on hB x1
    replace hv := hv.trans (hB.mono hv.size)
    replace HCt := Aside0.mk (HCt.out.below hB)
    clear hB a81
    go_wp2_with fail
    refine (b81 _).mono ?_
    rintro en w3 ⟨rfl, hB⟩
    replace x0 := cell_on hB x0
    replace x1 := cell_on hB x1
    replace hv := hv.trans (hB.mono hv.size)
    replace HCt := Aside0.mk (HCt.out.below hB)
    clear hB b81
    go_wp2_with fail
    refine (a89 kb _ HCt.out).mono ?_
    rintro en w4 ⟨⟨Ad, cc, rfl, hC⟩, hB⟩
    have hv2 := hv.trans (hB.mono hv.size)
    have hl0 : q = [] ∨ q ≠ [] := by by_cases h : q = [] <;> simp [h]
    rcases hl0 with rfl | hne
    · rw [if_pos rfl] at her
      subst her
      go_wp2
      go_ret2
      exact ⟨RetL_nil _ 4, hv2⟩
    · have hn : q.length ≠ 0 := fun h => hne (List.length_eq_zero_iff.1 h)
      rw [if_neg hne] at her
      subst her
      have HF : Aside0 (RetL w4 (.returned (.tuple #[.slice Ad q.length cc, .int .i64 0])) q 0) := ⟨Ad, cc, rfl, hC⟩
      clear hne hC
      generalize q.length = n at *
      have q1 : ((n : Int) == 0) = false := beq_eq_false_iff_ne.2 (by omega)
      have q2 : (n == 0) = false := beq_eq_false_iff_ne.2 hn
      go_wp2
      go_ret2
      exact ⟨HF.out, hv2⟩
  · have hL : fromNL b l u x y = [] := by unfold fromNL; rw [if_neg (fun h => hk h.1)]
    have hE : fromNE b l u x y = checkF b l u := by unfold fromNE; rw [if_neg hk]
    rw [hL, hE]
    have q1 : (checkF b l u == 0) = false := beq_eq_false_iff_ne.2 hk
    have q2 : (checkF b l u != 0) = true := bne_iff_ne.2 hk
    have HK := Aside0.mk hk
    clear hk hL hE
    generalize checkF b l u = er at *
    go_enter Try.func34, Try.ntmps34
    go_wp2_with fail
    refine (a62 _ (Kd.C_below HR.out (((Below.refl _ w).alloc (Nat.le_refl _) _).alloc (by simp) _))).mono ?_
    rintro en w1 ⟨h1', _, hB⟩
    obtain rfl := h1' HK.out
    have hv : Below w.heap.size w w1 := (((Below.refl _ w).alloc (Nat.le_refl _) _).alloc (by simp) _).trans (hB.mono (by simp; omega))
    clear hB h1' a62
    go_wp2
    go_ret2
    exact ⟨RetL_nil _ _, hv⟩
set_option maxHeartbeats 1000000 in
set_option maxRecDepth 100000 in
theorem ToNtp_err (b u : Int) (A : Option Addr) (c : Nat) (l : List (Int × Int)) (s : Int) (w : World) (hr : Kd.C kl w A l.length l) (hk : askE b l u s ≠ 0) :
    Calls Try.prog 33 #[tabV b A l.length c u, .int .i64 s] w fun e w' => e = .returned (.tuple #[.agg #[.int .i64 0, .int .i64 0], .int .i64 (askE b l u s)]) ∧ Below w.heap.size w w' := by
  have HR := Aside0.mk hr
  have a65 := fun w h => ask_calls b u A c l s w h
  clear hr
  have q1 : (askE b l u s == 0) = false := beq_eq_false_iff_ne.2 hk
  have q2 : (askE b l u s != 0) = true := bne_iff_ne.2 hk
  generalize askE b l u s = q at *
  go_enter Try.func33, Try.ntmps33
  go_wp2_with fail
  refine (a65 _ (Kd.C_below HR.out (((Below.refl _ w).alloc (Nat.le_refl _) _).alloc (by simp) _))).mono ?_
  rintro en w1 ⟨⟨p, rfl, _⟩, hB⟩
  have hv : Below w.heap.size w w1 := (((Below.refl _ w).alloc (Nat.le_refl _) _).alloc (by simp) _).trans (hB.mono (by simp; omega))
  have kr : w1.heap[w.heap.size + 1]? = some (.cells #[.int .i64 0, .int .i64 0] 52 (0, 0)) := (hB.block _ (by simp)).trans (al_new _ _ _ (by simp))
  clear hB a65
  have r0 : w1.cell? ⟨w.heap.size + 1, 0, none⟩ = some (.int .i64 0) := blk_cell kr 0
  have r1 : w1.cell? ⟨w.heap.size + 1, 1, none⟩ = some (.int .i64 0) := blk_cell kr 1
  have z0 := blk_frozen kr 0
  have z1 := blk_frozen kr 1
  go_wp2
  exact bodyPost_ret (results_row_tmp rfl _ _ (w.heap.size + 1) 52 _ (0, 0) _ rfl (blk_put (blk_put kr 0 _ rfl) 1 _ rfl) Try.underlying52 rfl info52) rfl
    ⟨rfl, (hv.setCell (p := ⟨w.heap.size + 1, 0, none⟩) (by simp) _).setCell (p := ⟨w.heap.size + 1, 1, none⟩) (by simp) _⟩
/-- What is wrong with the GPS time of a second; its week and its second. -/
def gpsE (b : Int) (l : List (Int × Int)) (u s : Int) : Int := if askE b l u s = 0 then (if gpsF l u < 0 ∨ s < gpsF l u then 4 else 0) else askE b l u s
theorem gps_bound {b u : Int} {l : List (Int × Int)} (hk : checkF b l u = 0) : -1 ≤ gpsF l u ∧ gpsF l u ≤ 1000000000000 := by
  obtain ⟨h1, h2, h3, h4, h5, h6⟩ := checkF_right hk
  have hgb := h6.take l.length 44244
  rw [List.take_length] at hgb
  unfold gpsF
  split
  · omega
  · unfold beginF; omega
set_option maxHeartbeats 2000000 in
set_option maxRecDepth 100000 in
theorem ToGps_calls (b u : Int) (A : Option Addr) (c : Nat) (l : List (Int × Int)) (s : Int) (w : World) (hr : Kd.C kl w A l.length l) :
    Calls Try.prog 37 #[tabV b A l.length c u, .int .i64 s] w fun e w' => e = .returned (.tuple #[.agg #[.int .i64 (if gpsE b l u s = 0 then (s - gpsF l u) / 604800 % 1024 else 0), .int .i64 (if gpsE b l u s = 0 then (s - gpsF l u) % 604800 else 0)], .int .i64 (gpsE b l u s)]) ∧ Below w.heap.size w w' := by
  have HR := Aside0.mk hr
  have a65 := fun w h => ask_calls b u A c l s w h
  clear hr
  by_cases hk : askE b l u s = 0
  · have HK := Aside0.mk hk
    have a91 := fun kb w hc => gps_calls kb b u A c l w hc (askE_zero hk).1
    have hgb := gps_bound (askE_zero hk).1
    have hks := knowsB_iff.1 (askE_zero hk).2
    have hbu := beginU (askE_zero hk).1
    have hss : 0 ≤ s ∧ s ≤ 1000000000000 := by omega
    clear hks hbu
    by_cases hz : gpsF l u < 0 ∨ s < gpsF l u
    · have hE : gpsE b l u s = 4 := by unfold gpsE; rw [if_pos hk, if_pos hz]
      rw [hE, if_neg (by omega), if_neg (by omega)]
      rw [hk] at a65
      clear hE hk
      generalize gpsF l u = z at *
      go_enter Try.func37, Try.ntmps37
      go_wp2_with fail
      refine (a65 _ (Kd.C_below HR.out (((Below.refl _ w).alloc (Nat.le_refl _) _).alloc (by simp) _))).mono ?_
      rintro en w1 ⟨⟨p, rfl, h2⟩, hB⟩
      obtain ⟨kb, rfl, hct⟩ := (by first | exact h2 rfl | exact h2 trivial | exact h2)
      have hv : Below w.heap.size w w1 := (((Below.refl _ w).alloc (Nat.le_refl _) _).alloc (by simp) _).trans (hB.mono (by simp; omega))
      have kr : w1.heap[w.heap.size + 1]? = some (.cells #[.int .i64 0, .int .i64 0] 54 (0, 0)) := (hB.block _ (by simp)).trans (al_new _ _ _ (by simp))
      have HC := Aside0.mk hct
      clear hB a65 h2 hct
      go_wp2_with fail
      refine (a91 kb _ HC.out).mono ?_
      rintro en w2 ⟨rfl, hB⟩
      have hv2 := hv.trans (hB.mono hv.size)
      replace kr := (hB.block _ (Array.getElem?_eq_some_iff.1 kr).1).trans kr
      clear hB hv a91
      have r0 : w2.cell? ⟨w.heap.size + 1, 0, none⟩ = some (.int .i64 0) := blk_cell kr 0
      have r1 : w2.cell? ⟨w.heap.size + 1, 1, none⟩ = some (.int .i64 0) := blk_cell kr 1
      have z0 := blk_frozen kr 0
      have z1 := blk_frozen kr 1
      by_cases hz0 : z < 0
      · have d1 : decide (z < 0) = true := decide_eq_true hz0
        clear hz hz0
        go_wp2
        exact bodyPost_ret (results_row_tmp rfl _ _ (w.heap.size + 1) 54 _ (0, 0) _ rfl (blk_put (blk_put kr 0 _ rfl) 1 _ rfl) Try.underlying54 rfl info54) rfl
          ⟨rfl, (hv2.setCell (p := ⟨w.heap.size + 1, 0, none⟩) (by simp) _).setCell (p := ⟨w.heap.size + 1, 1, none⟩) (by simp) _⟩
      · have d1 : decide (z < 0) = false := decide_eq_false hz0
        have d2 : decide (s < z) = true := decide_eq_true (by omega)
        clear hz hz0
        go_wp2
        exact bodyPost_ret (results_row_tmp rfl _ _ (w.heap.size + 1) 54 _ (0, 0) _ rfl (blk_put (blk_put kr 0 _ rfl) 1 _ rfl) Try.underlying54 rfl info54) rfl
          ⟨rfl, (hv2.setCell (p := ⟨w.heap.size + 1, 0, none⟩) (by simp) _).setCell (p := ⟨w.heap.size + 1, 1, none⟩) (by simp) _⟩
    · have hE : gpsE b l u s = 0 := by unfold gpsE; rw [if_pos hk, if_neg hz]
      rw [hE, if_pos rfl, if_pos rfl]
      rw [hk] at a65
      clear hE hk
      generalize gpsF l u = z at *
      obtain ⟨n, hn⟩ : ∃ n, s - z = n := ⟨_, rfl⟩
      rw [hn]
      go_enter Try.func37, Try.ntmps37
      go_wp2_with fail
      refine (a65 _ (Kd.C_below HR.out (((Below.refl _ w).alloc (Nat.le_refl _) _).alloc (by simp) _))).mono ?_
      rintro en w1 ⟨⟨p, rfl, h2⟩, hB⟩
      obtain ⟨kb, rfl, hct⟩ := (by first | exact h2 rfl | exact h2 trivial | exact h2)
      have hv : Below w.heap.size w w1 := (((Below.refl _ w).alloc (Nat.le_refl _) _).alloc (by simp) _).trans (hB.mono (by simp; omega))
      have kr : w1.heap[w.heap.size + 1]? = some (.cells #[.int .i64 0, .int .i64 0] 54 (0, 0)) := (hB.block _ (by simp)).trans (al_new _ _ _ (by simp))
      have HC := Aside0.mk hct
      clear hB a65 h2 hct
      go_wp2_with fail
      refine (a91 kb _ HC.out).mono ?_
      rintro en w2 ⟨rfl, hB⟩
      have hv2 := hv.trans (hB.mono hv.size)
      replace kr := (hB.block _ (Array.getElem?_eq_some_iff.1 kr).1).trans kr
      clear hB hv a91
      have r0 : w2.cell? ⟨w.heap.size + 1, 0, none⟩ = some (.int .i64 0) := blk_cell kr 0
      have r1 : w2.cell? ⟨w.heap.size + 1, 1, none⟩ = some (.int .i64 0) := blk_cell kr 1
      have z0 := blk_frozen kr 0
      have z1 := blk_frozen kr 1
      have d1 : decide (z < 0) = false := decide_eq_false (by omega)
      have d2 : decide (s < z) = false := decide_eq_false (by omega)
      have hsz : 0 ≤ s - z := by omega
      have hn1 : 0 ≤ n ∧ n ≤ 1000000000000 := by omega
      clear hz hsz
      go_wp2
      exact bodyPost_ret (results_row_tmp rfl _ _ (w.heap.size + 1) 54 _ (0, 0) _ rfl (blk_put (blk_put kr 0 _ rfl) 1 _ rfl) Try.underlying54 rfl info54) rfl
        ⟨rfl, (hv2.setCell (p := ⟨w.heap.size + 1, 0, none⟩) (by simp) _).setCell (p := ⟨w.heap.size + 1, 1, none⟩) (by simp) _⟩
  · have hE : gpsE b l u s = askE b l u s := by unfold gpsE; rw [if_neg hk]
    rw [hE, if_neg hk, if_neg hk]
    have q1 : (askE b l u s == 0) = false := beq_eq_false_iff_ne.2 hk
    have q2 : (askE b l u s != 0) = true := bne_iff_ne.2 hk
    generalize askE b l u s = q at *
    clear hE
    go_enter Try.func37, Try.ntmps37
    go_wp2_with fail
    refine (a65 _ (Kd.C_below HR.out (((Below.refl _ w).alloc (Nat.le_refl _) _).alloc (by simp) _))).mono ?_
    rintro en w1 ⟨⟨p, rfl, _⟩, hB⟩
    have hv : Below w.heap.size w w1 := (((Below.refl _ w).alloc (Nat.le_refl _) _).alloc (by simp) _).trans (hB.mono (by simp; omega))
    have kr : w1.heap[w.heap.size + 1]? = some (.cells #[.int .i64 0, .int .i64 0] 54 (0, 0)) := (hB.block _ (by simp)).trans (al_new _ _ _ (by simp))
    clear hB a65
    have r0 : w1.cell? ⟨w.heap.size + 1, 0, none⟩ = some (.int .i64 0) := blk_cell kr 0
    have r1 : w1.cell? ⟨w.heap.size + 1, 1, none⟩ = some (.int .i64 0) := blk_cell kr 1
    have z0 := blk_frozen kr 0
    have z1 := blk_frozen kr 1
    go_wp2
    exact bodyPost_ret (results_row_tmp rfl _ _ (w.heap.size + 1) 54 _ (0, 0) _ rfl (blk_put (blk_put kr 0 _ rfl) 1 _ rfl) Try.underlying54 rfl info54) rfl
      ⟨rfl, (hv.setCell (p := ⟨w.heap.size + 1, 0, none⟩) (by simp) _).setCell (p := ⟨w.heap.size + 1, 1, none⟩) (by simp) _⟩
/-- How far two numbers are apart, as 'max' says. -/
def dF (x y : Int) : Int := if x - y < y - x then y - x else x - y
/-- The nearest of the seconds that are known. -/
def gpsL (near tot : Int) : Nat → Int → Int → Int
  | 0, best, _ => best
  | k + 1, best, n => if n < tot then gpsL near tot k (if best < 0 ∨ dF n near < dF best near then n else best) (n + 619315200) else best
def fromGB (l : List (Int × Int)) (u p q near : Int) : Int := if gpsF l u < 0 then -1 else gpsL near (beginF l u) 10 (-1) (gpsF l u + 604800 * p + q)
def gpsOk (p q near : Int) : Bool := decide (0 ≤ p) && decide (p ≤ 1023) && (decide (0 ≤ q) && decide (q ≤ 604799)) && (decide (-1000000000000 ≤ near) && decide (near ≤ 1000000000000))
def fromGE (b : Int) (l : List (Int × Int)) (u p q near : Int) : Int := if checkF b l u = 0 then (if gpsOk p q near = true then (if fromGB l u p q near < 0 then 4 else 0) else 6) else checkF b l u
theorem gpsL_in {near tot best n : Int} (k : Nat) (h : n < tot) : gpsL near tot (k + 1) best n = gpsL near tot k (if best < 0 ∨ dF n near < dF best near then n else best) (n + 619315200) := by rw [gpsL, if_pos h]
theorem gpsL_out {near tot best n : Int} (k : Nat) (h : ¬ n < tot) : gpsL near tot (k + 1) best n = best := by rw [gpsL, if_neg h]
attribute [local go_sem] max2_int min2_int max_two min_two
set_option maxHeartbeats 4000000 in
set_option maxRecDepth 100000 in
theorem FromGps_main (b u : Int) (A : Option Addr) (c : Nat) (l : List (Int × Int)) (p q near : Int) (w : World) (hr : Kd.C kl w A l.length l) (hk : checkF b l u = 0) (hp : 0 ≤ p ∧ p ≤ 1023) (hq : 0 ≤ q ∧ q ≤ 604799) (hn : -1000000000000 ≤ near ∧ near ≤ 1000000000000) :
    Calls Try.prog 38 #[tabV b A l.length c u, .agg #[.int .i64 p, .int .i64 q], .int .i64 near] w fun e w' => e = .returned (.tuple #[.int .i64 (if fromGB l u p q near < 0 then 0 else fromGB l u p q near), .int .i64 (if fromGB l u p q near < 0 then 4 else 0)]) ∧ Below w.heap.size w w' := by
  have HR := Aside0.mk hr
  have HK := Aside0.mk hk
  have a62 := fun w h => open_calls b u A c l w h
  have a91 := fun kb w hc => gps_calls kb b u A c l w hc hk
  have a92 := fun kb s w hc => knows_calls kb b u A c l s w hc hk
  have hgb := gps_bound hk
  have hbu := beginU hk
  have htot : beginF l u ≤ 4039372900 := by
    obtain ⟨h1, h2, h3, h4, h5, h6⟩ := checkF_right hk
    have hgb := h6.take l.length u
    rw [List.take_length] at hgb
    unfold beginF; omega
  have a81 := fun w => within_calls p 0 1023 w
  have b81 := fun w => within_calls q 0 604799 w
  have c81 := fun w => within_calls near (-1000000000000) 1000000000000 w
  rw [show (decide (0 ≤ p) && decide (p ≤ 1023)) = true by simp; omega] at a81
  rw [show (decide (0 ≤ q) && decide (q ≤ 604799)) = true by simp; omega] at b81
  rw [show (decide (-1000000000000 ≤ near) && decide (near ≤ 1000000000000)) = true by simp; omega] at c81
  have HG : Aside0 (fromGB l u p q near = if gpsF l u < 0 then -1 else gpsL near (beginF l u) 10 (-1) (gpsF l u + 604800 * p + q)) := ⟨rfl⟩
  unfold knowsB at a92
  rw [hk] at a62
  clear hr hk
  generalize fromGB l u p q near = G at *
  generalize gpsF l u = z at *
  generalize beginF l u = tot at *
  go_enter Try.func38, Try.ntmps38
  go_wp2_with fail
  refine (a62 _ (Kd.C_below HR.out (((Below.refl _ w).alloc (Nat.le_refl _) _).alloc (by simp) _))).mono ?_
  rintro en w1 ⟨_, h2', hB⟩
  obtain ⟨kb, rfl, hkb, hct⟩ := (by first | exact h2' rfl | exact h2' trivial | exact h2')
  have hv : Below w.heap.size w w1 := (((Below.refl _ w).alloc (Nat.le_refl _) _).alloc (by simp) _).trans (hB.mono (by simp; omega))
  have kd : w1.heap[w.heap.size + 1]? = some (.cells #[.int .i64 p, .int .i64 q] 54 (0, 0)) := (hB.block _ (by simp)).trans (al_new _ _ _ (by simp))
  have x0 : w1.cell? ⟨w.heap.size + 1, 0, none⟩ = some (.int .i64 p) := blk_cell kd 0
  have x1 : w1.cell? ⟨w.heap.size + 1, 1, none⟩ = some (.int .i64 q) := blk_cell kd 1
  have HCt := Aside0.mk hct
  clear hB h2' a62 hct kd
  go_wp2_with fail
  refine (a81 _).mono ?_
  rintro en w2 ⟨rfl, hB⟩
  replace x0 := cell_on hB x0
  replace x1 := cell_on hB x1
  replace hv := hv.trans (hB.mono hv.size)
  replace HCt := Aside0.mk (HCt.out.below hB)
  clear hB a81
  go_wp2_with fail
  refine (b81 _).mono ?_
  rintro en w3 ⟨rfl, hB⟩
  replace x0 := cell_on hB x0
  replace x1 := cell_on hB x1
  replace hv := hv.trans (hB.mono hv.size)
  replace HCt := Aside0.mk (HCt.out.below hB)
  clear hB b81
  go_wp2_with fail
  refine (c81 _).mono ?_
  rintro en w4 ⟨rfl, hB⟩
  replace x0 := cell_on hB x0
  replace x1 := cell_on hB x1
  replace hv := hv.trans (hB.mono hv.size)
  replace HCt := Aside0.mk (HCt.out.below hB)
  clear hB c81
  go_wp2_with fail
  refine (a91 kb _ HCt.out).mono ?_
  rintro en w5 ⟨rfl, hB⟩
  replace x0 := cell_on hB x0
  replace x1 := cell_on hB x1
  replace hv := hv.trans (hB.mono hv.size)
  replace HCt := Aside0.mk (HCt.out.below hB)
  clear hB a91
  by_cases hz : z < 0
  · have d1 : decide (0 ≤ z) = false := decide_eq_false (by omega)
    have hG := HG.out
    rw [if_pos hz] at hG
    subst hG
    clear hz
    go_wp2
    go_ret2
    exact ⟨rfl, hv⟩
  have d1 : decide (0 ≤ z) = true := decide_eq_true (by omega)
  have hG := HG.out
  rw [if_neg hz] at hG
  obtain ⟨n0, hn0⟩ : ∃ n0, z + 604800 * p + q = n0 := ⟨_, rfl⟩
  rw [hn0] at hG
  have hn1 : 0 ≤ n0 ∧ n0 ≤ 1000000000000 + 700000000 := by omega
  have HG2 := Aside0.mk hG
  clear hG HG hz
  go_wp2_with fail
  go_loopw [10, 12] (fun v10 v12 wr => ∃ (i : Nat) (best n : Int), i ≤ 8 ∧ v10 = .int .i64 best ∧ v12 = .int .i64 n ∧ -1 ≤ best ∧ best ≤ 1000000000000 + 700000000 ∧ Aside0 (n = n0 + 619315200 * i ∧ G = gpsL near tot (10 - i) best n) ∧ (0 ≤ n ∧ (i = 0 ∨ n < tot + 619315200)) ∧ Aside0 (Below w5.heap.size w5 wr)) (fun _ v _ => (2000000000000 - intOf v).toNat)
  case atStart => exact ⟨0, -1, n0, by omega, rfl, rfl, by omega, by omega, ⟨by omega, HG2.out⟩, ⟨hn1.1, Or.inl rfl⟩, ⟨Below.refl _ _⟩⟩
  case round =>
    obtain ⟨i, best, n, hi, rfl, rfl, hb0, hb1, HE, hnn, HW⟩ := hrel
    have k92 := a92 kb n wr (HCt.out.below HW.out)
    have hn2 : n ≤ 1000000000000 + 700000000 := by have := HE.out.1; omega
    by_cases hlt : n < tot
    · rw [show (decide (0 ≤ n) && decide (n < tot)) = true by simp; omega] at k92
      have hi7 : i ≤ 7 := by have := HE.out.1; omega
      have HN : Aside0 (n + 619315200 = n0 + 619315200 * ((i + 1 : Nat) : Int) ∧ G = gpsL near tot (10 - (i + 1)) (if best < 0 ∨ dF n near < dF best near then n else best) (n + 619315200)) := ⟨by have := HE.out.1; push_cast; omega, by
        have h := HE.out.2
        rw [show 10 - i = (10 - (i + 1)) + 1 by omega, gpsL_in _ hlt] at h
        exact h⟩
      by_cases hbb : best < 0
      · have e1 : decide (best < 0) = true := decide_eq_true hbb
        rw [if_pos (Or.inl hbb)] at HN
        clear hbb HE
        go_wp2_with fail
        refine k92.mono ?_
        rintro en w20 ⟨rfl, hB⟩
        have HV := Aside0.mk (HW.out.trans (hB.mono HW.out.size))
        clear hB k92
        go_wp2
        go_roundw
        case rel => exact ⟨i + 1, n, n + 619315200, by omega, rfl, by go_num, by omega, by omega, HN, ⟨by omega, Or.inr (by omega)⟩, HV⟩
        case measure => simp [intOf]; omega
      · have e1 : decide (best < 0) = false := decide_eq_false hbb
        have HD : Aside0 (dF n near = if n - near < near - n then near - n else n - near) := ⟨rfl⟩
        have HD2 : Aside0 (dF best near = if best - near < near - best then near - best else best - near) := ⟨rfl⟩
        have HX : Aside0 ((best < 0 ∨ dF n near < dF best near) ↔ dF n near < dF best near) := ⟨⟨fun h => h.resolve_left hbb, Or.inr⟩⟩
        obtain ⟨pn, hpn⟩ : ∃ pn, n - near = pn := ⟨_, rfl⟩
        obtain ⟨qn, hqn⟩ : ∃ qn, near - n = qn := ⟨_, rfl⟩
        obtain ⟨pb, hpb⟩ : ∃ pb, best - near = pb := ⟨_, rfl⟩
        obtain ⟨qb, hqb⟩ : ∃ qb, near - best = qb := ⟨_, rfl⟩
        rw [hpn, hqn] at HD
        rw [hpb, hqb] at HD2
        clear HE
        by_cases h1 : pn < qn
        all_goals
          by_cases h2 : pb < qb
          all_goals
            first | rw [if_pos h1] at HD | rw [if_neg h1] at HD
            first | rw [if_pos h2] at HD2 | rw [if_neg h2] at HD2
            by_cases h3 : dF n near < dF best near
            all_goals
              have h3' := h3
              rw [HD.out, HD2.out] at h3'
              first | rw [if_pos (HX.out.2 h3)] at HN | rw [if_neg (fun h => h3 (HX.out.1 h))] at HN
              clear h3 HX
              go_wp2_with fail
              refine k92.mono ?_
              rintro en w20 ⟨rfl, hB⟩
              have HV := Aside0.mk (HW.out.trans (hB.mono HW.out.size))
              clear hB k92
              go_wp2
              go_roundw
              case rel => first | exact ⟨i + 1, n, n + 619315200, by omega, rfl, by go_num, by omega, by omega, HN, ⟨by omega, Or.inr (by omega)⟩, HV⟩ | exact ⟨i + 1, best, n + 619315200, by omega, rfl, by go_num, by omega, by omega, HN, ⟨by omega, Or.inr (by omega)⟩, HV⟩
              case measure => simp [intOf]; omega
    · rw [show (decide (0 ≤ n) && decide (n < tot)) = false by simp; omega] at k92
      have hG : G = best := by
        have h := HE.out.2
        rw [show 10 - i = (9 - i) + 1 by omega, gpsL_out _ hlt] at h
        exact h
      subst hG
      by_cases hbb : G < 0
      · have e1 : decide (G < 0) = true := decide_eq_true hbb
        go_wp2_with fail
        refine k92.mono ?_
        rintro en w20 ⟨rfl, hB⟩
        have hv3 := hv.trans ((HW.out.trans (hB.mono HW.out.size)).mono hv.size)
        clear hB k92
        go_wp2
        go_ret2
        exact ⟨by simp [hbb], hv3⟩
      · have e1 : decide (G < 0) = false := decide_eq_false hbb
        go_wp2_with fail
        refine k92.mono ?_
        rintro en w20 ⟨rfl, hB⟩
        have hv3 := hv.trans ((HW.out.trans (hB.mono HW.out.size)).mono hv.size)
        clear hB k92
        go_wp2
        go_ret2
        exact ⟨by simp [hbb], hv3⟩
end Go.Proofs.Ytleipbanadnchaa.C
