/- phaseIs, and awake's examples. -/
import Derived.OwnWalk
import Derived.BigRegion
import Derived.Deep.RegionHeld3
import Derived.Test.YtlfnnalepdjagaaDoorAv
namespace Go.Proofs.YtlfnnalepdjagaaDoor.C
open Go.RowKit Go.Shelf Go.Maps Go.Proofs.YtlfnnalepdjagaaDoorW.PrintWords Go.Proofs.YtlfnnalepdjagaaDoorW.PrintLast Go.Proofs.YtlfnnalepdjagaaDoorW.PrintMore
set_option linter.unusedVariables false
set_option linter.unusedSimpArgs false
abbrev CH1 : List T3 := [(20000, 1000, 10)]
def ph1 (x : Ck) (s : Int) : Int × Int := phaseR 0 CH1 [{ x with kd := 1 }] 0 s
set_option maxHeartbeats 4000000 in
set_option maxRecDepth 100000 in
theorem phaseIs_calls (x : Ck) (Ae : Option Addr) (ce : Nat) (hl : x.es.length ≤ ce) (s want : Int) (w : World) (hL : Lim w) (hC : Kd.C k3 w Ae x.es.length x.es) (hwf : ∀ ev ∈ x.es, -9223372036854775808 ≤ ev.1 ∧ ev.1 ≤ 9223372036854775807) (hp : ph1 x s = (want, 0)) :
    Calls Tryd.prog 44 #[ckV x Ae ce, .int .i64 s, .int .i64 want] w fun e w' => e = .returned (.bool true) ∧ Below w.heap.size w w' := by
  have c1 := fun W (hB : Below w.heap.size w W) => plain_calls x Ae ce hl W (Kd.C_below hC hB)
  have c2 : ∀ Ah Ak W, Below w.heap.size w W → WAt 51 W Ah Ak CH1 [{ x with kd := 1 }] → Calls Tryd.prog 18 #[woV 0 Ah 1 1 Ak 1 1, .int .i64 0, .int .i64 s] W fun e w' => e = .returned (.tuple #[.int .i64 want, .int .i64 0]) ∧ Below W.heap.size W w' := fun Ah Ak W hB hA => by
    have := Phase_calls 0 Ah 1 Ak 1 CH1 [{ x with kd := 1 }] 0 s W (hL.below hB) hA (fun y hy ev he => by simp at hy; subst hy; exact hwf ev he)
    rw [show phaseR 0 CH1 [{ x with kd := 1 }] 0 s = (want, 0) from hp] at this
    exact this
  clear hL hwf hp hl hC
  have hv := Below.refl w.heap.size w
  obtain ⟨kd, ph, rt, dr, wh, wk, ht, ch, es⟩ := x
  obtain ⟨n, hn⟩ : ∃ n, es.length = n := ⟨_, rfl⟩
  unfold ckV at c1 ⊢
  simp only at c1 c2 ⊢
  rw [hn] at c1 ⊢
  clear hn
  go_enter Tryd.func44, Tryd.ntmps44
  go_wp2_with fail
  obtain ⟨w1, hw1⟩ : ∃ w1, w.alloc (.cells #[.int .i64 kd, .int .i64 ph, .int .i64 rt, .int .i64 dr, .int .i64 wh, .int .i64 wk, .int .i64 ht, .int .i64 ch, .slice Ae n ce] 48) = w1 := ⟨_, rfl⟩
  try rw [hw1]
  have hB : Below w.heap.size w w1 := by rw [← hw1]; exact hv.alloc (Nat.le_refl _) _
  replace hv := hB
  clear hB hw1
  refine (c1 _ hv).mono ?_
  rintro en w2 ⟨Ah, Ak, rfl, hA, hB⟩
  replace hv := hv.trans (hB.mono hv.size)
  clear hB c1
  go_wp2_with fail
  refine (c2 _ _ _ hv hA).mono ?_
  rintro en w3 ⟨rfl, hB⟩
  replace hv := hv.trans (hB.mono hv.size)
  clear hB c2 hA
  go_wp2
  go_ret
  exact ⟨rfl, hv⟩
theorem draw0 (seed k c i : Int) : drawF seed k c i 0 = 0 := by unfold drawF; omega
theorem steps0 (seed k : Int) : ∀ (n : Nat) (a : Int), (stepsT seed k 0 a n).foldl (· + ·) 0 = 0
  | 0, a => rfl
  | n + 1, a => by
    rw [stepsT, List.foldl_cons, draw0]
    exact steps0 seed k n (a + 1)
theorem walked0 (seed k fr to_ : Int) : walkedF seed k 0 fr to_ = 0 := by unfold walkedF; exact steps0 _ _ _ _
theorem ph1_of {x : Ck} {s : Int} (hw : x.wk = 0) (hc : x.ch = 0) (hE : errS CH1 [{ x with kd := 1 }] 0 s = 0) : ph1 x s = (stillF { x with kd := 1 } (20000, 1000, 10) s, 0) := by
  have h := phaseF_of (chs := CH1) (cks := [{ x with kd := 1 }]) (i := 0) (q := 0) (x := { x with kd := 1 }) (by simp) rfl (by simp) hc 0 s
  unfold ph1 phaseR
  rw [if_pos hE]
  rw [show ((0 : Nat) : Int) = 0 from rfl] at h
  rw [h]
  simp only [hw, walked0, Int.add_zero]
  rfl
theorem p1 : ph1 ⟨0, 5000, 1500, 0, 0, 0, 0, 0, []⟩ 10 = (5015, 0) := (ph1_of rfl rfl (by kernel_rfl)).trans (by kernel_rfl)
theorem p2 : ph1 ⟨0, 5000, 1500, 0, 0, 0, 0, 0, []⟩ 1 = (5001, 0) := (ph1_of rfl rfl (by kernel_rfl)).trans (by kernel_rfl)
theorem p3 : ph1 ⟨0, 5000, -1500, 0, 0, 0, 0, 0, []⟩ 1 = (4998, 0) := (ph1_of rfl rfl (by kernel_rfl)).trans (by kernel_rfl)
theorem p4 : ph1 ⟨0, 0, 0, 8640, 0, 0, 0, 0, []⟩ 10001 = (5000, 0) := (ph1_of rfl rfl (by kernel_rfl)).trans (by kernel_rfl)
theorem p5 : ph1 ⟨0, 0, 0, 0, 0, 0, 0, 0, [(2, 4, 2000)]⟩ 4 = (0, 0) := (ph1_of rfl rfl (by kernel_rfl)).trans (by kernel_rfl)
theorem p6 : ph1 ⟨0, 0, 0, 0, 0, 0, 0, 0, [(2, 4, 2000)]⟩ 5 = (2, 0) := (ph1_of rfl rfl (by kernel_rfl)).trans (by kernel_rfl)
theorem p7 : ph1 ⟨0, 0, 0, 0, 0, 0, 0, 0, [(2, 4, 2000)]⟩ 10 = (12, 0) := (ph1_of rfl rfl (by kernel_rfl)).trans (by kernel_rfl)
theorem p8 : ph1 ⟨0, 0, 0, 0, 0, 0, 0, 0, [(1, 4, 700)]⟩ 3 = (0, 0) := (ph1_of rfl rfl (by kernel_rfl)).trans (by kernel_rfl)
theorem p9 : ph1 ⟨0, 0, 0, 0, 0, 0, 0, 0, [(1, 4, 700)]⟩ 4 = (700, 0) := (ph1_of rfl rfl (by kernel_rfl)).trans (by kernel_rfl)
theorem pT : tempR CH1 [⟨1, 0, 0, 0, 0, 0, 0, 0, []⟩] 0 6 = (20800, 0) := by kernel_rfl
abbrev ckM : Ck := ⟨1, -3, 0, 0, 0, 0, 0, 0, []⟩
theorem sM (s : Int) : shownF 0 CH1 [ckM] 0 s = -3 := by
  have h := shownF_of (chs := CH1) (cks := [ckM]) (i := 0) (q := 0) (x := ckM) (by simp) rfl (by simp) rfl 0 s
  rw [show ((0 : Nat) : Int) = 0 from rfl] at h
  rw [h, walked0, draw0]
  unfold stillF rateF
  simp [jumpN, kickN]
theorem mM (s : Int) : momF s (-3) = (s - 1, 999999999999997) := by unfold momF; simp; omega
theorem pR : readR 0 CH1 [ckM] 0 7 = ((6, 999999999999997), 0) := by
  unfold readR
  rw [if_pos (show errN CH1 [ckM] 0 7 = 0 by kernel_rfl), sM, mM]
  rfl
theorem pB {r : Nat} (hr : r ≤ 1000001) (h1 : 0 < r → laterAt 0 CH1 [ckM] 0 6 999999999999997 ((r : Int) - 1) = false) (h2 : r < 1000001 → laterAt 0 CH1 [ckM] 0 6 999999999999997 r = true) : lastRunF (ckAt [ckM] 0).es r = (7, 0) := by
  have hl : ∀ s : Int, laterAt 0 CH1 [ckM] 0 6 999999999999997 s = decide (7 < s) := by
    intro s
    unfold laterAt laterB
    rw [sM, mM]
    simp only [show IntKind.i64.wrap ((6 : Int) - 1) = 5 by kernel_rfl, show IntKind.i64.wrap ((6 : Int) + 1) = 7 by kernel_rfl]
    split
    · rw [decide_eq_decide]; omega
    · simp; omega
  rw [hl] at h1 h2
  simp at h1 h2
  have h8 : r = 8 := by omega
  rw [h8]
  rfl
end Go.Proofs.YtlfnnalepdjagaaDoor.C
