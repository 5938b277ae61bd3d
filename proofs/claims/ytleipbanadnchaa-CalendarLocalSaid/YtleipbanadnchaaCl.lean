/- Contracts of calendar.count and calendar.open, by hand. -/
import Derived.OwnWalk
import Derived.StillTailTactics
import Derived.Maps.Own
import Derived.Maps.OwnOps
import Derived.Maps.Views
import Derived.Test.YtleipbanadnchaaCk
namespace Go.Proofs.Ytleipbanadnchaa.C
open Go.RowKit Go.Shelf Go.Maps Go.Proofs.YtleipbanadnchaaW.PrintWords Go.Proofs.YtleipbanadnchaaW.PrintLast Go.Proofs.YtleipbanadnchaaW.PrintMore
set_option linter.unusedVariables false
set_option linter.unusedSimpArgs false
/-- The steps by their days. -/
def putL (D : DataW Unit) (x : Int × Int) : DataW Unit := D.put (.int .i64 x.1) (.lit (.int .i64 x.2))
def dmOf (l : List (Int × Int)) : DataW Unit := l.foldl putL (.map [])
theorem dmOf_snoc {l : List (Int × Int)} {i : Nat} (h : i < l.length) : dmOf (l.take (i + 1)) = (dmOf (l.take i)).put (.int .i64 l[i].1) (.lit (.int .i64 l[i].2)) := by
  unfold dmOf
  rw [List.take_add_one, List.getElem?_eq_getElem h, List.foldl_append]
  rfl
theorem stepF_none {d : Int} : ∀ {l : List (Int × Int)}, (∀ x ∈ l, x.1 ≠ d) → stepF l d = 0
  | [], _ => rfl
  | x :: l, h => by unfold stepF; rw [if_neg (h x (List.mem_cons_self ..))]; exact stepF_none (fun z hz => h z (List.mem_cons_of_mem _ hz))
theorem foldl_at (d : Int) : ∀ (l : List (Int × Int)) (D : DataW Unit), IsMap D → l.Pairwise (fun x y => x.1 < y.1) →
    ((∀ x ∈ l, x.1 ≠ d) → ∀ z, (l.foldl putL D).atKey (.int .i64 d) z = D.atKey (.int .i64 d) z) ∧ ((∃ x ∈ l, x.1 = d) → ∀ z, (l.foldl putL D).atKey (.int .i64 d) z = .lit (.int .i64 (stepF l d)))
  | [], D, hD, _ => ⟨fun _ _ => rfl, fun ⟨x, hx, _⟩ => by cases hx⟩
  | x :: l, D, hD, hp => by
    obtain ⟨h1, h2⟩ := List.pairwise_cons.1 hp
    obtain ⟨i1, i2⟩ := foldl_at d l (putL D x) (hD.put _ _) h2
    refine ⟨fun h z => ?_, fun h z => ?_⟩
    · rw [List.foldl_cons, i1 (fun y hy => h y (List.mem_cons_of_mem _ hy)) z]
      exact atKey_put_other (fun e => h x (List.mem_cons_self ..) (by injection e with _ e; exact e.symm)) _ _
    · by_cases hx : x.1 = d
      · rw [List.foldl_cons, i1 (fun y hy e => by have := h1 y hy; omega) z]
        unfold stepF putL
        rw [if_pos hx, hx]
        exact atKey_put_same hD (show WideAt.IsKeyLit (.int .i64 d) from by simp [WideAt.IsKeyLit]) _ _
      · rw [List.foldl_cons, i2 (by obtain ⟨y, hy, e⟩ := h; rcases List.mem_cons.1 hy with rfl | hy; exact absurd e hx; exact ⟨y, hy, e⟩) z]
        show _ = DataW.lit (Lit.int .i64 (if x.1 = d then x.2 else stepF l d))
        rw [if_neg hx]
theorem dmOf_at {u : Int} {l : List (Int × Int)} (h : Right u l) (d : Int) : (dmOf l).atKey (.int .i64 d) (.lit (.int .i64 0)) = .lit (.int .i64 (stepF l d)) := by
  obtain ⟨i1, i2⟩ := foldl_at d l (.map []) isMap_empty h.rising
  by_cases hx : ∃ x ∈ l, x.1 = d
  · exact i2 hx _
  · have hn : ∀ x ∈ l, x.1 ≠ d := fun x hm e => hx ⟨x, hm, e⟩
    unfold dmOf
    rw [i1 hn, stepF_none hn]
    rfl
theorem ownsMap_below {w w' : World} {mb n : Nat} {D : DataW Unit} (h : w.ownsMap Try.prog 3 (plainElem Try.prog 3) mb n D) (hB : Below w.heap.size w w') : w'.ownsMap Try.prog 3 (plainElem Try.prog 3) mb n D := by
  have hl := h.lt
  obtain ⟨es, ck, h1, h2⟩ := h
  exact ⟨es, ck, (hB.block _ hl).trans h1, h2⟩
theorem law3 : Keyed Try.prog 3 := int_keyed Try.underlying3
theorem zero3 (w : World) : (zeroValue 3).run Try.prog w = .ok (.int .i64 0) w := by kernel_rfl
/-- A counted table at block kb. -/
def CtAt (W : World) (kb : Nat) (b : Int) (A : Option Addr) (c : Nat) (u : Int) (l : List (Int × Int)) : Prop :=
  Kd.C kl W A l.length l ∧ ∃ mb, W.heap[kb]? = some (.cells #[.int .i64 b, .slice A l.length c, .int .i64 u, .map (some mb)] 119 (0, 0)) ∧ W.ownsMap Try.prog 3 (plainElem Try.prog 3) mb l.length (dmOf l)
theorem CtAt.below {W W' : World} {kb : Nat} {b : Int} {A : Option Addr} {c : Nat} {u : Int} {l : List (Int × Int)} (h : CtAt W kb b A c u l) (hB : Below W.heap.size W W') : CtAt W' kb b A c u l := by
  obtain ⟨h1, mb, h2, h3⟩ := h
  exact ⟨Kd.C_below h1 hB, mb, (hB.block _ (Array.getElem?_eq_some_iff.1 h2).1).trans h2, ownsMap_below h3 hB⟩
theorem wf_64 {x : Int} (h0 : -1000000 ≤ x) (h1 : x ≤ 1000000) : (Lit.int .i64 x).wf = true := by simp [Lit.wf, IntKind.min, IntKind.max, IntKind.bits, IntKind.signed]; omega
set_option maxHeartbeats 4000000 in
set_option maxRecDepth 100000 in
theorem count_calls (b u : Int) (A : Option Addr) (c : Nat) (l : List (Int × Int)) (w : World) (hr : Kd.C kl w A l.length l) (hR : Right u l) (hu : 41318 ≤ u ∧ u ≤ 88069) (hlen : l.length ≤ 100) :
    Calls Try.prog 114 #[tabV b A l.length c u] w fun e w' => ∃ kb, e = .returned (.pointer (some ⟨kb, 0, none⟩)) ∧ w.heap.size ≤ kb ∧ CtAt w' kb b A c u l ∧ Below w.heap.size w w' := by
  have hmm := @run_makeMap Try.prog
  have HR := Aside0.mk hr
  have HRT := Aside0.mk hR
  clear hr hR
  go_enter Try.func114, Try.ntmps114
  go_wp2_with fail
  obtain ⟨W0, hW0⟩ : ∃ W0, (((w.alloc (.cells #[.int .i64 b, .slice A l.length c, .int .i64 u] 28)).alloc (.map #[] 0)).alloc (.cells #[.int .i64 b, .slice A l.length c, .int .i64 u, .map (some (w.heap.size + 1))] 119)) = W0 := ⟨_, rfl⟩
  have hkb : W0.heap[w.heap.size + 1 + 1]? = some (.cells #[.int .i64 b, .slice A l.length c, .int .i64 u, .map (some (w.heap.size + 1))] 119 (0, 0)) := by rw [← hW0]; exact al_new _ _ _ (by simp)
  have hbel : Below w.heap.size w W0 := by rw [← hW0]; exact (((Below.refl _ w).alloc (Nat.le_refl _) _).alloc (by simp) _).alloc (by simp; omega) _
  have hown0 : W0.ownsMap Try.prog 3 (plainElem Try.prog 3) (w.heap.size + 1) 0 (dmOf []) := by
    rw [← hW0]
    have h := World.ownsMap_made (H := Unit) (w.alloc (.cells #[.int .i64 b, .slice A l.length c, .int .i64 u] 28)) Try.prog 3 (plainElem Try.prog 3)
    have h2 := h.alloc (.cells #[.int .i64 b, .slice A l.length c, .int .i64 u, .map (some (w.heap.size + 1))] 119)
    simpa [dmOf] using h2
  rw [hW0]
  have HI : Aside0 (Below w.heap.size w W0 ∧ W0.heap[w.heap.size + 1 + 1]? = some (.cells #[.int .i64 b, .slice A l.length c, .int .i64 u, .map (some (w.heap.size + 1))] 119 (0, 0)) ∧ W0.ownsMap Try.prog 3 (plainElem Try.prog 3) (w.heap.size + 1) 0 (dmOf [])) := ⟨hbel, hkb, hown0⟩
  clear hW0 hkb hbel hown0
  go_loopw [13] (fun v13 wr => ∃ i : Nat, i ≤ l.length ∧ v13 = .int .i64 i ∧ Aside0 (Below w.heap.size w wr ∧ wr.heap[w.heap.size + 1 + 1]? = some (.cells #[.int .i64 b, .slice A l.length c, .int .i64 u, .map (some (w.heap.size + 1))] 119 (0, 0)) ∧ wr.ownsMap Try.prog 3 (plainElem Try.prog 3) (w.heap.size + 1) i (dmOf (l.take i))))
    (fun v _ => l.length - (intOf v).toNat)
  case atStart => exact ⟨0, by omega, rfl, HI⟩
  case round =>
    obtain ⟨i, hi, rfl, HW⟩ := hrel
    by_cases hlt : i < l.length
    · obtain ⟨ad, rfl, hc0, hc1⟩ := C_leap (Kd.C_below HR.out HW.out.1) i hlt hlt
      have hstep := HRT.out.steps l[i] (List.getElem_mem _)
      have HS := Aside0.mk (dmOf_snoc hlt)
      generalize l[i] = x at *
      obtain ⟨xd, xs⟩ := x
      simp only at hstep hc0 hc1
      have hkey : keyOf Try.prog 3 (.int .i64 xd) = some (.int .i64 xd) := keyOf_int_mk Try.underlying3 (wf_64 (by omega) (by omega))
      have hwe : (Lit.int .i64 xs).wf = true := wf_64 (by omega) (by omega)
      have d1 : decide ((i : Int) < (l.length : Int)) = true := decide_eq_true (by omega)
      have m3 : wr.cell? ⟨w.heap.size + 1 + 1, 3, none⟩ = some (.map (some (w.heap.size + 1))) := blk_cell HW.out.2.1 3
      have hsz : w.heap.size + 1 + 1 < wr.heap.size := (Array.getElem?_eq_some_iff.1 HW.out.2.1).1
      go_wp2_with fail
      obtain ⟨wA, hwA⟩ : ∃ wA, wr.alloc (.cells #[.int .i64 xd, .int .i64 xs] 45) = wA := ⟨_, rfl⟩
      rw [hwA]
      have hbA : Below wr.heap.size wr wA := by rw [← hwA]; exact (Below.refl _ wr).alloc (Nat.le_refl _) _
      have kA : wA.heap[wr.heap.size]? = some (.cells #[.int .i64 xd, .int .i64 xs] 45 (0, 0)) := by rw [← hwA]; exact al_new _ _ _ rfl
      have x0 : wA.cell? ⟨wr.heap.size, 0, none⟩ = some (.int .i64 xd) := blk_cell kA 0
      have x1 : wA.cell? ⟨wr.heap.size, 1, none⟩ = some (.int .i64 xs) := blk_cell kA 1
      replace m3 := cell_on hbA m3
      have hownA := ownsMap_below HW.out.2.2 hbA
      have HA : Aside0 (Below w.heap.size w wA ∧ wA.heap[w.heap.size + 1 + 1]? = some (.cells #[.int .i64 b, .slice (some ad) l.length c, .int .i64 u, .map (some (w.heap.size + 1))] 119 (0, 0))) := ⟨HW.out.1.trans (hbA.mono HW.out.1.size), (hbA.block _ hsz).trans HW.out.2.1⟩
      have hownD : wA.drew.ownsMap Try.prog 3 (plainElem Try.prog 3) (w.heap.size + 1) i (dmOf (l.take i)) := hownA.drew
      clear hwA hbA kA hc0 hc1 hownA
      go_still_tail 8, (by kernel_rfl)
      change wpList _ _ _ _ _ wA.drew
      go_wp2_with (at_mapUpdate; refine wpList_mapUpdate_own _ rfl _ _ _ 117 rfl 3 3 law3 Try.underlying117 _ (w.heap.size + 1) i _ rfl hownD (by unfold maxLen; omega) _ _ _ rfl rfl hkey _ [] (plainElem_int Try.underlying3 hwe) ?_; intro w1 hown1 hgrow1)
      go_roundw
      case rel =>
        have hd := below_drew1 HA.out.1
        refine ⟨i + 1, by omega, by go_num, ⟨hd.grown hgrow1 hd.size (fun k hk => by cases hk; omega), ?_, by rw [HS.out]; exact hown1⟩⟩
        exact (hgrow1.block _ (by have := HA.out.1.size; have := (Array.getElem?_eq_some_iff.1 HA.out.2).1; simpa using this) (by simp)).trans HA.out.2
      case measure => simp [intOf]; omega
    · obtain rfl : i = l.length := by omega
      have HZ : Aside0 (wr.ownsMap Try.prog 3 (plainElem Try.prog 3) (w.heap.size + 1) l.length (dmOf l)) := ⟨by have := HW.out.2.2; rwa [List.take_length] at this⟩
      go_wp2
      go_ret
      exact ⟨_, rfl, by omega, ⟨Kd.C_below HR.out HW.out.1, _, HW.out.2.1, HZ.out⟩, HW.out.1⟩
set_option maxRecDepth 100000 in
theorem open_calls (b u : Int) (A : Option Addr) (c : Nat) (l : List (Int × Int)) (w : World) (hr : Kd.C kl w A l.length l) :
    Calls Try.prog 62 #[tabV b A l.length c u] w fun e w' => (checkF b l u ≠ 0 → e = .returned (.tuple #[.pointer none, .int .i64 (checkF b l u)])) ∧
      (checkF b l u = 0 → ∃ kb, e = .returned (.tuple #[.pointer (some ⟨kb, 0, none⟩), .int .i64 0]) ∧ w.heap.size ≤ kb ∧ CtAt w' kb b A c u l) ∧ Below w.heap.size w w' := by
  have HR := Aside0.mk hr
  clear hr
  have a52 := fun w h => check_calls b u A c l w h
  by_cases hc : checkF b l u = 0
  · rw [hc] at a52 ⊢
    obtain ⟨h1, h2, h3, h4, h5, h6⟩ := checkF_right hc
    have H6 := Aside0.mk h6
    clear h6
    go_enter Try.func62, Try.ntmps62
    go_wp2_with fail
    refine (a52 _ (Kd.C_below HR.out ((Below.refl _ w).alloc (Nat.le_refl _) _))).mono ?_
    rintro en w1 ⟨rfl, hB⟩
    have hv : Below w.heap.size w w1 := ((Below.refl _ w).alloc (Nat.le_refl _) _).trans (hB.mono (by simp))
    have kx : w1.heap[w.heap.size]? = some (.cells #[.int .i64 b, .slice A l.length c, .int .i64 u] 28 (0, 0)) := (hB.block _ (by simp)).trans (al_new _ _ _ rfl)
    have t0 : w1.cell? ⟨w.heap.size, 0, none⟩ = some (.int .i64 b) := blk_cell kx 0
    have t1 : w1.cell? ⟨w.heap.size, 1, none⟩ = some (.slice A l.length c) := blk_cell kx 1
    have t2 : w1.cell? ⟨w.heap.size, 2, none⟩ = some (.int .i64 u) := blk_cell kx 2
    clear hB a52
    go_wp2_with fail
    refine (count_calls b u A c l w1 (Kd.C_below HR.out hv) H6.out ⟨h3, h4⟩ h5).mono ?_
    rintro en w2 ⟨kb, rfl, hkb, hct, hB2⟩
    go_wp2
    go_ret2
    have := hv.size
    exact ⟨fun h => absurd rfl h, fun _ => ⟨kb, rfl, by omega, hct⟩, hv.trans (hB2.mono hv.size)⟩
  · have hb : (checkF b l u != 0) = true := by simpa using hc
    have hb2 : (checkF b l u == 0) = false := by simpa using hc
    generalize checkF b l u = q at *
    go_enter Try.func62, Try.ntmps62
    go_wp2_with fail
    refine (a52 _ (Kd.C_below HR.out ((Below.refl _ w).alloc (Nat.le_refl _) _))).mono ?_
    rintro en w1 ⟨rfl, hB⟩
    have hv : Below w.heap.size w w1 := ((Below.refl _ w).alloc (Nat.le_refl _) _).trans (hB.mono (by simp))
    go_wp2
    go_ret2
    exact ⟨fun _ => rfl, fun h => absurd h hc, hv⟩
end Go.Proofs.Ytleipbanadnchaa.C
