/- Plain facts for WorldWalks and WorldExact. -/
import Derived.OwnWalk
import Derived.BigRegion
import Derived.Deep.RegionHeld3
import Derived.Test.YtlfnnalepdjagaaDoorAx
namespace Go.Proofs.YtlfnnalepdjagaaDoor.C
open Go.RowKit Go.Shelf Go.Maps Go.Proofs.YtlfnnalepdjagaaDoorW.PrintWords Go.Proofs.YtlfnnalepdjagaaDoorW.PrintLast Go.Proofs.YtlfnnalepdjagaaDoorW.PrintMore
set_option linter.unusedVariables false
set_option linter.unusedSimpArgs false
abbrev CH0 : List T3 := [(0, 0, 2)]
abbrev ckI : Ck := ⟨4, 0, 0, 0, 0, 0, 0, 0, []⟩
abbrev ckN : Ck := ⟨5, 0, 5, 0, 99, 99, 0, 0, []⟩
abbrev ckW (wh wk : Int) : Ck := ⟨1, 0, 0, 0, wh, wk, 0, 0, []⟩
abbrev ckE (ph rt : Int) (es : List T3) : Ck := ⟨1, ph, rt, 0, 0, 0, 0, 0, es⟩
theorem badCk_of {n : Nat} {x : Ck} (h : CkOk n x) : badCk n x = false := by
  unfold badCk
  rw [if_pos ((inW_iff _ _ _).2 h.kd)]
  simp only [Bool.or_eq_false_iff, Bool.not_eq_false', inW_iff]
  exact ⟨⟨⟨⟨⟨⟨h.ph, h.rt⟩, h.dr⟩, h.wh⟩, h.wk⟩, h.ht⟩, h.ch⟩
theorem checkW_of {chs : List T3} {cks : List Ck} (hn : inW (chs.length : Int) 1 8 = true) (hk : inW (cks.length : Int) 1 16 = true) (hc : chs.any badCh = false) (h1 : ∀ x ∈ cks, badCk chs.length x = false) (h2 : ∀ x ∈ cks, badEv x.es = false) : checkW chs cks = 0 := by
  unfold checkW
  rw [hn, hk, hc]
  have e1 : cks.any (badCk chs.length) = false := by
    rw [List.any_eq_false]; intro x hx; rw [h1 x hx]; simp
  have e2 : cks.any (fun x => badEv x.es) = false := by
    rw [List.any_eq_false]; intro x hx; rw [h2 x hx]; simp
  rw [e1, e2]
  rfl
theorem errS_of {chs : List T3} {cks : List Ck} {k s : Int} (h : checkW chs cks = 0) (hk : 0 ≤ k ∧ k < cks.length) (hs : 0 ≤ s ∧ s ≤ 1000000) : errS chs cks k s = 0 := by
  unfold errS errK timedF
  rw [if_pos h, if_pos ((inW_iff _ _ _).2 ⟨hk.1, by omega⟩), if_pos rfl, if_pos hs]
theorem badEv_nil : badEv [] = false := by kernel_rfl
theorem badCk_W {wh wk : Int} (h1 : 0 ≤ wh ∧ wh ≤ 1000000) (h2 : 0 ≤ wk ∧ wk ≤ 100000) : badCk 1 (ckW wh wk) = false := by
  refine badCk_of ⟨(show (1 : Int) ≤ 1 ∧ (1 : Int) ≤ 5 by decide), (show (-100000000000000 : Int) ≤ 0 ∧ (0 : Int) ≤ 100000000000000 by decide), (show (-10000000 : Int) ≤ 0 ∧ (0 : Int) ≤ 10000000 by decide), (show (-10000 : Int) ≤ 0 ∧ (0 : Int) ≤ 10000 by decide), ?_, ?_, (show (-1000000000 : Int) ≤ 0 ∧ (0 : Int) ≤ 1000000000 by decide), (show (0 : Int) ≤ 0 ∧ (0 : Int) ≤ ((1 : Nat) : Int) - 1 by decide)⟩
  · show 0 ≤ wh ∧ wh ≤ 10000000; omega
  · show 0 ≤ wk ∧ wk ≤ 100000; exact h2
theorem badCk_E {ph rt : Int} {es : List T3} (h1 : -100000000000000 ≤ ph ∧ ph ≤ 100000000000000) (h2 : -10000000 ≤ rt ∧ rt ≤ 10000000) : badCk 1 (ckE ph rt es) = false := by
  refine badCk_of ⟨(show (1 : Int) ≤ 1 ∧ (1 : Int) ≤ 5 by decide), h1, ?_, (show (-10000 : Int) ≤ 0 ∧ (0 : Int) ≤ 10000 by decide), (show (0 : Int) ≤ 0 ∧ (0 : Int) ≤ 10000000 by decide), (show (0 : Int) ≤ 0 ∧ (0 : Int) ≤ 100000 by decide), (show (-1000000000 : Int) ≤ 0 ∧ (0 : Int) ≤ 1000000000 by decide), (show (0 : Int) ≤ 0 ∧ (0 : Int) ≤ ((1 : Nat) : Int) - 1 by decide)⟩
  show -10000000 ≤ rt ∧ rt ≤ 10000000; exact h2
theorem badEv_one {wh at_ sz : Int} (h1 : wh = 1 ∨ wh = 2) (h2 : 1 ≤ at_ ∧ at_ ≤ 1000000) (h3 : -10000000000 ≤ sz ∧ sz ≤ 10000000000) : badEv [(wh, at_, sz)] = false := by
  have hb : badAt [(wh, at_, sz)] 0 = false := by
    unfold badAt
    have e : ([(wh, at_, sz)] : List T3).getD 0 (0, 0, 0) = (wh, at_, sz) := rfl
    have hs : 10000000000 ≤ sizeF wh := by unfold sizeF; rcases h1 with rfl | rfl <;> decide
    simp only [e, Bool.or_eq_false_iff, Bool.not_eq_false', inW_iff]
    exact ⟨⟨by omega, by simp only [lastOf]; omega⟩, by omega⟩
  unfold badEv
  rw [List.length_cons, List.length_nil]
  show (([0] : List Nat).any _ || _) = false
  simp [hb]
theorem steps_snoc (seed k wk : Int) : ∀ (n : Nat) (a : Int), stepsT seed k wk a (n + 1) = stepsT seed k wk a n ++ [drawF seed 1 k (a + n) wk]
  | 0, a => by simp [stepsT]
  | n + 1, a => by
    rw [stepsT, steps_snoc seed k wk n (a + 1), stepsT]
    simp only [List.cons_append, show a + 1 + (n : Int) = a + ((n + 1 : Nat) : Int) by omega]
theorem walked_next {seed k wk s : Int} (hs : 0 ≤ s) : walkedF seed k wk 0 (s + 100) = walkedF seed k wk 0 s + drawF seed 1 k (s / 100 + 1) wk := by
  unfold walkedF
  have e1 : stepsN 0 (s + 100) = stepsN 0 s + 1 := by unfold stepsN; omega
  have e2 : (stepsN 0 s : Int) = s / 100 := by unfold stepsN; omega
  rw [e1, steps_snoc, List.foldl_append, e2, show (0 : Int) / 100 + 1 + s / 100 = s / 100 + 1 by omega]
  rfl
theorem still_W (wh wk s : Int) : stillF (ckW wh wk) (0, 0, 2) s = 0 := by
  unfold stillF rateF
  simp [jumpN, kickN]
theorem walks_ok {wh wk : Int} (h1 : 0 ≤ wh ∧ wh ≤ 1000000) (h2 : 0 ≤ wk ∧ wk ≤ 100000) : checkW CH0 [ckI, ckW wh wk] = 0 := by
  refine checkW_of (by decide) (by simp [inW]) (by decide) ?_ ?_
  · intro x hx
    rcases List.mem_cons.1 hx with rfl | hx
    · kernel_rfl
    · obtain rfl := List.mem_singleton.1 hx; exact badCk_W h1 h2
  · intro x hx
    rcases List.mem_cons.1 hx with rfl | hx
    · kernel_rfl
    · obtain rfl := List.mem_singleton.1 hx; exact badEv_nil
theorem walks_phase {seed wh wk s : Int} (h1 : 0 ≤ wh ∧ wh ≤ 1000000) (h2 : 0 ≤ wk ∧ wk ≤ 100000) (hs : 0 ≤ s ∧ s ≤ 1000000) : phaseR seed CH0 [ckI, ckW wh wk] 1 s = (walkedF seed 1 wk 0 s, 0) := by
  have h := phaseF_of (chs := CH0) (cks := [ckI, ckW wh wk]) (i := 1) (q := 0) (x := ckW wh wk) (by simp) rfl (by simp) rfl seed s
  unfold phaseR
  rw [if_pos (errS_of (walks_ok h1 h2) (by simp) hs)]
  rw [show ((1 : Nat) : Int) = 1 from rfl] at h
  rw [h, show CH0[0] = (0, 0, 2) from rfl, still_W, Int.zero_add]
theorem walks_shown {seed wh wk s : Int} (h1 : 0 ≤ wh ∧ wh ≤ 1000000) (h2 : 0 ≤ wk ∧ wk ≤ 100000) (hs : 0 ≤ s ∧ s ≤ 1000000) : shownR seed CH0 [ckI, ckW wh wk] 1 s = (walkedF seed 1 wk 0 s + drawF seed 2 1 s wh, 0) := by
  have h := shownF_of (chs := CH0) (cks := [ckI, ckW wh wk]) (i := 1) (q := 0) (x := ckW wh wk) (by simp) rfl (by simp) rfl seed s
  have e : errN CH0 [ckI, ckW wh wk] 1 s = 0 := by
    unfold errN
    rw [if_pos (errS_of (walks_ok h1 h2) (by simp) hs), if_pos (show runsF (ckAt [ckI, ckW wh wk] 1).es s = true from rfl)]
  unfold shownR
  rw [if_pos e]
  rw [show ((1 : Nat) : Int) = 1 from rfl] at h
  rw [h, show CH0[0] = (0, 0, 2) from rfl, still_W, Int.zero_add]
abbrev ckX (ph rt at_ sz : Int) (y : Ck) : List Ck := [ckE ph rt [], ckE ph rt [(2, at_, sz)], ckE ph rt [(1, at_, sz)], y]
theorem exact_ok {ph rt at_ sz : Int} {y : Ck} (h1 : -100000000000000 ≤ ph ∧ ph ≤ 100000000000000) (h2 : -10000000 ≤ rt ∧ rt ≤ 10000000) (h3 : 1 ≤ at_ ∧ at_ ≤ 1000000) (h4 : -10000000000 ≤ sz ∧ sz ≤ 10000000000) (hy : badCk 1 y = false) (hz : badEv y.es = false) : checkW CH0 (ckX ph rt at_ sz y) = 0 := by
  refine checkW_of (by decide) (by simp [inW]) (by decide) ?_ ?_
  · intro x hx
    simp only [List.mem_cons, List.mem_nil_iff, or_false] at hx
    rcases hx with rfl | rfl | rfl | rfl
    · exact badCk_E h1 h2
    · exact badCk_E h1 h2
    · exact badCk_E h1 h2
    · exact hy
  · intro x hx
    simp only [List.mem_cons, List.mem_nil_iff, or_false] at hx
    rcases hx with rfl | rfl | rfl | rfl
    · exact badEv_nil
    · exact badEv_one (.inr rfl) h3 h4
    · exact badEv_one (.inl rfl) h3 h4
    · exact hz
theorem still_E (ph rt s : Int) (es : List T3) : stillF (ckE ph rt es) (0, 0, 2) s = ph + jumpN es s es.length + (rt * s + kickN es s es.length) / 1000 := by
  unfold stillF rateF
  simp
theorem exact_phase {seed ph rt at_ sz s : Int} {y : Ck} (h1 : -100000000000000 ≤ ph ∧ ph ≤ 100000000000000) (h2 : -10000000 ≤ rt ∧ rt ≤ 10000000) (h3 : 1 ≤ at_ ∧ at_ ≤ 1000000) (h4 : -10000000000 ≤ sz ∧ sz ≤ 10000000000) (hy : badCk 1 y = false) (hz : badEv y.es = false) (hs : 0 ≤ s ∧ s ≤ 1000000) :
    phaseR seed CH0 (ckX ph rt at_ sz y) 0 s = (ph + rt * s / 1000, 0) ∧ phaseR seed CH0 (ckX ph rt at_ sz y) 1 s = (ph + (rt * s + if at_ ≤ s then sz * (s - at_) else 0) / 1000, 0) ∧ phaseR seed CH0 (ckX ph rt at_ sz y) 2 s = (ph + (if at_ ≤ s then sz else 0) + rt * s / 1000, 0) := by
  have hE := fun (k : Int) (hk : 0 ≤ k ∧ k < 4) => errS_of (exact_ok h1 h2 h3 h4 hy hz) (cks := ckX ph rt at_ sz y) (k := k) hk hs
  have p0 := phaseF_of (chs := CH0) (cks := ckX ph rt at_ sz y) (i := 0) (q := 0) (x := ckE ph rt []) (by simp) rfl (by simp) rfl seed s
  have p1 := phaseF_of (chs := CH0) (cks := ckX ph rt at_ sz y) (i := 1) (q := 0) (x := ckE ph rt [(2, at_, sz)]) (by simp) rfl (by simp) rfl seed s
  have p2 := phaseF_of (chs := CH0) (cks := ckX ph rt at_ sz y) (i := 2) (q := 0) (x := ckE ph rt [(1, at_, sz)]) (by simp) rfl (by simp) rfl seed s
  rw [show CH0[0] = (0, 0, 2) from rfl, still_E, walked0, Int.add_zero] at p0 p1 p2
  rw [show ((0 : Nat) : Int) = 0 from rfl] at p0
  rw [show ((1 : Nat) : Int) = 1 from rfl] at p1
  rw [show ((2 : Nat) : Int) = 2 from rfl] at p2
  unfold phaseR
  rw [if_pos (hE 0 (by omega)), if_pos (hE 1 (by omega)), if_pos (hE 2 (by omega)), p0, p1, p2]
  refine ⟨?_, ?_, ?_⟩ <;> simp [jumpN, kickN]
theorem put_app {w : World} {g : Nat} {t : TypeId} (pre mid post : List Value) (a b : Value) (n : Nat) (hn : (pre ++ mid).length = n) (h : w.heap[g]? = some (.cells (pre ++ (mid ++ a :: post)).toArray t (0, 0))) : (w.setCell ⟨g, n, none⟩ b).heap[g]? = some (.cells (pre ++ ((mid ++ [b]) ++ post)).toArray t (0, 0)) := by
  refine blk_put h n b ?_
  rw [List.setIfInBounds_toArray, ← List.append_assoc, List.set_append_right _ _ (by omega), hn, Nat.sub_self, List.set_cons_zero]
  simp
theorem put9 {w : World} {g : Nat} {t : TypeId} (pre : List Value) (a0 a1 a2 a3 a4 a5 a6 a7 a8 b0 b1 b2 b3 b4 b5 b6 b7 b8 : Value) (n : Nat) (hn : pre.length = n) (h : w.heap[g]? = some (.cells (pre ++ [a0, a1, a2, a3, a4, a5, a6, a7, a8]).toArray t (0, 0))) : (((((((((w.setCell ⟨g, n + 0, none⟩ b0).setCell ⟨g, n + 1, none⟩ b1).setCell ⟨g, n + 2, none⟩ b2).setCell ⟨g, n + 3, none⟩ b3).setCell ⟨g, n + 4, none⟩ b4).setCell ⟨g, n + 5, none⟩ b5).setCell ⟨g, n + 6, none⟩ b6).setCell ⟨g, n + 7, none⟩ b7).setCell ⟨g, n + 8, none⟩ b8).heap[g]? = some (.cells (pre ++ [b0, b1, b2, b3, b4, b5, b6, b7, b8]).toArray t (0, 0)) := by
  have h := put_app pre [] [a1, a2, a3, a4, a5, a6, a7, a8] a0 b0 (n + 0) (by simp; omega) h
  simp only [List.nil_append, List.cons_append, List.append_nil] at h
  have h := put_app pre [b0] [a2, a3, a4, a5, a6, a7, a8] a1 b1 (n + 1) (by simp; omega) h
  simp only [List.nil_append, List.cons_append, List.append_nil] at h
  have h := put_app pre [b0, b1] [a3, a4, a5, a6, a7, a8] a2 b2 (n + 2) (by simp; omega) h
  simp only [List.nil_append, List.cons_append, List.append_nil] at h
  have h := put_app pre [b0, b1, b2] [a4, a5, a6, a7, a8] a3 b3 (n + 3) (by simp; omega) h
  simp only [List.nil_append, List.cons_append, List.append_nil] at h
  have h := put_app pre [b0, b1, b2, b3] [a5, a6, a7, a8] a4 b4 (n + 4) (by simp; omega) h
  simp only [List.nil_append, List.cons_append, List.append_nil] at h
  have h := put_app pre [b0, b1, b2, b3, b4] [a6, a7, a8] a5 b5 (n + 5) (by simp; omega) h
  simp only [List.nil_append, List.cons_append, List.append_nil] at h
  have h := put_app pre [b0, b1, b2, b3, b4, b5] [a7, a8] a6 b6 (n + 6) (by simp; omega) h
  simp only [List.nil_append, List.cons_append, List.append_nil] at h
  have h := put_app pre [b0, b1, b2, b3, b4, b5, b6] [a8] a7 b7 (n + 7) (by simp; omega) h
  simp only [List.nil_append, List.cons_append, List.append_nil] at h
  have h := put_app pre [b0, b1, b2, b3, b4, b5, b6, b7] [] a8 b8 (n + 8) (by simp; omega) h
  simp only [List.nil_append, List.cons_append, List.append_nil] at h
  exact h
theorem exact_world {ST RT AT SZ : Int} {e1 e2 f1 f2 : Nat} (W : World) (y : Ck) (sl : List Value) (hK : (kck 51).K W y sl) (h1 : W.heap[e1]? = some (.cells #[.int .i64 2, .int .i64 AT, .int .i64 SZ] 51 (0, 0))) (h2 : W.heap[e2]? = some (.cells #[.int .i64 1, .int .i64 AT, .int .i64 SZ] 51 (0, 0))) (h3 : W.heap[f1]? = some (.cells #[.int .i64 0, .int .i64 0, .int .i64 2] 53 (0, 0))) (hl : sl.length = 9)
    (h4 : W.heap[f2]? = some (.cells (([.int .i64 1, .int .i64 ST, .int .i64 RT, .int .i64 0, .int .i64 0, .int .i64 0, .int .i64 0, .int .i64 0, .slice none 0 0] : List Value) ++ (([.int .i64 1, .int .i64 ST, .int .i64 RT, .int .i64 0, .int .i64 0, .int .i64 0, .int .i64 0, .int .i64 0, .slice (some ⟨e1, 0, none⟩) 1 1] : List Value) ++ (([.int .i64 1, .int .i64 ST, .int .i64 RT, .int .i64 0, .int .i64 0, .int .i64 0, .int .i64 0, .int .i64 0, .slice (some ⟨e2, 0, none⟩) 1 1] : List Value) ++ (sl ++ [])))).toArray 48 (0, 0))) : WAt 51 W (some ⟨f1, 0, none⟩) (some ⟨f2, 0, none⟩) CH0 (ckX ST RT AT SZ y) :=
  ⟨blk_C k3 ([((0, 0, 2), [.int .i64 0, .int .i64 0, .int .i64 2])] : List (T3 × List Value)) h3 (by simp; rfl) (fun y hy => by simp at hy; subst hy; exact k3_mk _ (0, 0, 2)) (by simp),
  blk_C (kck 51) [(ckE ST RT [], [.int .i64 1, .int .i64 ST, .int .i64 RT, .int .i64 0, .int .i64 0, .int .i64 0, .int .i64 0, .int .i64 0, .slice none 0 0]), (ckE ST RT [(2, AT, SZ)], [.int .i64 1, .int .i64 ST, .int .i64 RT, .int .i64 0, .int .i64 0, .int .i64 0, .int .i64 0, .int .i64 0, .slice (some ⟨e1, 0, none⟩) 1 1]), (ckE ST RT [(1, AT, SZ)], [.int .i64 1, .int .i64 ST, .int .i64 RT, .int .i64 0, .int .i64 0, .int .i64 0, .int .i64 0, .int .i64 0, .slice (some ⟨e2, 0, none⟩) 1 1]), (y, sl)] h4 (fun z hz => by simp at hz; rcases hz with rfl | rfl | rfl | rfl <;> first | rfl | exact hl) (fun z hz => by
    simp at hz
    rcases hz with rfl | rfl | rfl | rfl
    · exact ck_K (ckE ST RT []) none 0 (by simp) (C_nil _ _)
    · exact ck_K (ckE ST RT [(2, AT, SZ)]) (some ⟨e1, 0, none⟩) 1 (by simp) (blk_C k3 [((2, AT, SZ), [.int .i64 2, .int .i64 AT, .int .i64 SZ])] h1 (by simp; rfl) (fun y hy => by simp at hy; subst hy; exact k3_mk _ (2, AT, SZ)) (by simp))
    · exact ck_K (ckE ST RT [(1, AT, SZ)]) (some ⟨e2, 0, none⟩) 1 (by simp) (blk_C k3 [((1, AT, SZ), [.int .i64 1, .int .i64 AT, .int .i64 SZ])] h2 (by simp; rfl) (fun y hy => by simp at hy; subst hy; exact k3_mk _ (1, AT, SZ)) (by simp))
    · exact hK) (by simp)⟩
end Go.Proofs.YtlfnnalepdjagaaDoor.C
