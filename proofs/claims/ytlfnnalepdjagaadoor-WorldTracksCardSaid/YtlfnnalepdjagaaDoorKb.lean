/- Ck, Cl, Cm, Cn, Co, Cp, Cq: joined. -/
import Derived.OwnWalk
import Derived.BigRegion
import Derived.WalkKit
import Derived.Deep.RegionHeld3
import Derived.Test.YtlfnnalepdjagaaDoorAh
import Derived.BigQuiet
import Derived.Deep.QuietTactic
import Derived.WalkSmall
import Derived.Test.YtlfnnalepdjagaaDoorBf
import Derived.Test.YtlfnnalepdjagaaDoorBd
import Derived.Test.YtlfnnalepdjagaaDoorAs
import Derived.Deep.CutBlock
import Derived.Test.YtlfnnalepdjagaaDoorKa
import Derived.Deep.RegionHeld
section
/- Draw of whatever numbers, own and the reference's. -/
namespace Go.Proofs.YtlfnnalepdjagaaDoor.C
open Go.RowKit Go.Shelf Go.Maps Go.Proofs.YtlfnnalepdjagaaDoorW.PrintWords Go.Proofs.YtlfnnalepdjagaaDoorW.PrintLast Go.Proofs.YtlfnnalepdjagaaDoorW.PrintMore
set_option linter.unusedVariables false
set_option linter.unusedSimpArgs false
theorem mixU2 (k : Int) (h0 : 0 ≤ k) (h1 : k ≤ 9223372036854775807) : IntKind.u64.wrap k = k := by rw [IntKind.wrap_u64]; omega
set_option maxHeartbeats 1000000 in
theorem draw_g (seed k c i m : Int) (w : World) (hk : 0 ≤ k ∧ k ≤ 9223372036854775807) (hc : 0 ≤ c ∧ c ≤ 9223372036854775807) (hi : 0 ≤ i ∧ i ≤ 9223372036854775807) (hm : 0 ≤ m ∧ m ≤ 1000000000000000) :
    Calls Tryd.prog 56 #[.int .u64 seed, .int .i64 k, .int .i64 c, .int .i64 i, .int .i64 m] w fun e w' => e = .returned (.int .i64 (drawF seed k c i m)) ∧ Below w.heap.size w w' := by
  have e1 := mixU2 k hk.1 hk.2
  have e2 := mixU2 c hc.1 hc.2
  have e3 := mixU2 i hi.1 hi.2
  have hr := mixF_range (mixF (mixF seed k) c) i
  have c1 := fun w => mix_calls seed k w
  have c2 := fun w => mix_calls (mixF seed k) c w
  have c3 := fun w => mix_calls (mixF (mixF seed k) c) i w
  unfold drawF
  generalize mixF (mixF (mixF seed k) c) i = z at *
  have t0 := Int.emod_nonneg z (b := 2 * m + 1) (by omega)
  have t1 := Int.emod_lt_of_pos z (b := 2 * m + 1) (by omega)
  have t2 := Int.tmod_eq_emod_of_nonneg (a := z) hr.1 (b := 2 * m + 1)
  have t3 := mixU2 (2 * m + 1) (by omega) (by omega)
  have hv := Below.refl w.heap.size w
  go_enter Tryd.func56, Tryd.ntmps56
  go_wp2_with fail
  refine (c1 _).mono ?_
  rintro en w1 ⟨rfl, hB⟩
  replace hv := hv.trans hB
  clear hB c1
  go_wp2_with fail
  refine (c2 _).mono ?_
  rintro en w2 ⟨rfl, hB⟩
  replace hv := hv.trans (hB.mono hv.size)
  clear hB c2
  go_wp2_with fail
  refine (c3 _).mono ?_
  rintro en w3 ⟨rfl, hB⟩
  replace hv := hv.trans (hB.mono hv.size)
  clear hB c3
  go_wp2_with fail
  go_ret
  exact ⟨rfl, hv⟩
set_option maxHeartbeats 1000000 in
theorem wdraw_g (seed k c i m : Int) (w : World) (hk : 0 ≤ k ∧ k ≤ 9223372036854775807) (hc : 0 ≤ c ∧ c ≤ 9223372036854775807) (hi : 0 ≤ i ∧ i ≤ 9223372036854775807) (hm : 0 ≤ m ∧ m ≤ 1000000000000000) :
    Calls Tryd.prog 20 #[.int .u64 seed, .int .i64 k, .int .i64 c, .int .i64 i, .int .i64 m] w fun e w' => e = .returned (.tuple #[.int .i64 (drawF seed k c i m), .int .i64 0]) ∧ Below w.heap.size w w' := by
  have ci := fun w => win_calls m 0 1000000000000000 w
  rw [show (decide (0 ≤ m) && decide (m ≤ 1000000000000000)) = true by simp; omega] at ci
  have cd := fun w => draw_g seed k c i m w hk hc hi hm
  have hv := Below.refl w.heap.size w
  go_enter Tryd.func20, Tryd.ntmps20
  go_wp2_with fail
  refine (ci _).mono ?_
  rintro en w1 ⟨rfl, hB⟩
  replace hv := hv.trans (hB.mono hv.size)
  clear hB ci
  go_wp2_with fail
  refine (cd _).mono ?_
  rintro en w2 ⟨rfl, hB⟩
  replace hv := hv.trans (hB.mono hv.size)
  clear hB cd
  go_wp2_with fail
  go_ret2
  exact ⟨rfl, hv⟩
set_option maxHeartbeats 1000000 in
theorem rdraw_g (seed k c i m : Int) (w : World) (hk : 0 ≤ k ∧ k ≤ 9223372036854775807) (hc : 0 ≤ c ∧ c ≤ 9223372036854775807) (hi : 0 ≤ i ∧ i ≤ 9223372036854775807) (hm : 0 ≤ m ∧ m ≤ 1000000000000000) :
    Calls Tryd.prog 40 #[.int .u64 seed, .int .i64 k, .int .i64 c, .int .i64 i, .int .i64 m] w fun e w' => e = .returned (.tuple #[.int .i64 (drawF seed k c i m), .int .i64 0]) ∧ Below w.heap.size w w' := by
  have e1 := mixU2 k hk.1 hk.2
  have e2 := mixU2 c hc.1 hc.2
  have e3 := mixU2 i hi.1 hi.2
  have hr := mixF_range (mixF (mixF seed k) c) i
  have c1 := fun w => rmix_calls seed k w
  have c2 := fun w => rmix_calls (mixF seed k) c w
  have c3 := fun w => rmix_calls (mixF (mixF seed k) c) i w
  unfold drawF
  generalize mixF (mixF (mixF seed k) c) i = z at *
  have t0 := Int.emod_nonneg z (b := 2 * m + 1) (by omega)
  have t1 := Int.emod_lt_of_pos z (b := 2 * m + 1) (by omega)
  have t2 := Int.tmod_eq_emod_of_nonneg (a := z) hr.1 (b := 2 * m + 1)
  have t3 := mixU2 (1 + 2 * m) (by omega)
  have t4 : 1 + 2 * m = 2 * m + 1 := by omega
  have hv := Below.refl w.heap.size w
  go_enter Tryd.func40, Tryd.ntmps40
  go_wp2_with fail
  refine (c1 _).mono ?_
  rintro en w1 ⟨rfl, hB⟩
  replace hv := hv.trans (hB.mono hv.size)
  clear hB c1
  go_wp2_with fail
  refine (c2 _).mono ?_
  rintro en w2 ⟨rfl, hB⟩
  replace hv := hv.trans (hB.mono hv.size)
  clear hB c2
  go_wp2_with fail
  refine (c3 _).mono ?_
  rintro en w3 ⟨rfl, hB⟩
  replace hv := hv.trans (hB.mono hv.size)
  clear hB c3
  go_wp2_with fail
  go_ret2
  exact ⟨rfl, hv⟩
/-- What Draw answers. -/
def drawR (seed k c i m : Int) : Int × Int := if (0 ≤ m ∧ m ≤ 1000000000000000) ∧ 0 ≤ k ∧ 0 ≤ c ∧ 0 ≤ i then (drawF seed k c i m, 0) else (0, 1)
set_option maxHeartbeats 4000000 in
set_option maxRecDepth 100000 in
theorem wdraw_all (seed k c i m : Int) (w : World) (hk : k ≤ 9223372036854775807) (hc : c ≤ 9223372036854775807) (hi : i ≤ 9223372036854775807) :
    Calls Tryd.prog 20 #[.int .u64 seed, .int .i64 k, .int .i64 c, .int .i64 i, .int .i64 m] w fun e w' => e = .returned (.tuple #[.int .i64 (drawR seed k c i m).1, .int .i64 (drawR seed k c i m).2]) ∧ Below w.heap.size w w' := by
  have hv := Below.refl w.heap.size w
  have c48 := fun w => win_calls m 0 1000000000000000 w
  by_cases g0 : (0 ≤ m ∧ m ≤ 1000000000000000)
  rotate_left
  · rw [show (decide (0 ≤ m) && decide (m ≤ 1000000000000000)) = false by simp; omega] at c48
    have HE : drawR seed k c i m = (0, 1) := by unfold drawR; rw [if_neg (by omega)]
    rw [HE]
    clear HE
    go_enter Tryd.func20, Tryd.ntmps20
    go_wp2_with fail
    refine (c48 _).mono ?_
    rintro en w1 ⟨rfl, hB⟩
    replace hv := hv.trans (hB.mono hv.size)
    clear hB c48
    go_wp2
    go_ret2
    exact ⟨rfl, hv⟩
  rw [show (decide (0 ≤ m) && decide (m ≤ 1000000000000000)) = true by simp; omega] at c48
  by_cases g1 : k < 0
  · have fg1 : decide (k < 0) = true := decide_eq_true g1
    have fg1' : decide (0 > k) = true := decide_eq_true g1
    have HE : drawR seed k c i m = (0, 1) := by unfold drawR; rw [if_neg (by omega)]
    rw [HE]
    clear HE
    go_enter Tryd.func20, Tryd.ntmps20
    go_wp2_with fail
    refine (c48 _).mono ?_
    rintro en w1 ⟨rfl, hB⟩
    replace hv := hv.trans (hB.mono hv.size)
    clear hB c48
    go_wp2
    go_ret2
    exact ⟨rfl, hv⟩
  have fg1 : decide (k < 0) = false := decide_eq_false g1
  have fg1' : decide (0 > k) = false := decide_eq_false g1
  by_cases g2 : c < 0
  · have fg2 : decide (c < 0) = true := decide_eq_true g2
    have fg2' : decide (0 > c) = true := decide_eq_true g2
    have HE : drawR seed k c i m = (0, 1) := by unfold drawR; rw [if_neg (by omega)]
    rw [HE]
    clear HE
    go_enter Tryd.func20, Tryd.ntmps20
    go_wp2_with fail
    refine (c48 _).mono ?_
    rintro en w1 ⟨rfl, hB⟩
    replace hv := hv.trans (hB.mono hv.size)
    clear hB c48
    go_wp2
    go_ret2
    exact ⟨rfl, hv⟩
  have fg2 : decide (c < 0) = false := decide_eq_false g2
  have fg2' : decide (0 > c) = false := decide_eq_false g2
  by_cases g3 : i < 0
  · have fg3 : decide (i < 0) = true := decide_eq_true g3
    have fg3' : decide (0 > i) = true := decide_eq_true g3
    have HE : drawR seed k c i m = (0, 1) := by unfold drawR; rw [if_neg (by omega)]
    rw [HE]
    clear HE
    go_enter Tryd.func20, Tryd.ntmps20
    go_wp2_with fail
    refine (c48 _).mono ?_
    rintro en w1 ⟨rfl, hB⟩
    replace hv := hv.trans (hB.mono hv.size)
    clear hB c48
    go_wp2
    go_ret2
    exact ⟨rfl, hv⟩
  have fg3 : decide (i < 0) = false := decide_eq_false g3
  have fg3' : decide (0 > i) = false := decide_eq_false g3
  have HE : drawR seed k c i m = (drawF seed k c i m, 0) := by unfold drawR; rw [if_pos (by omega)]
  rw [HE]
  exact wdraw_g seed k c i m w (by omega) (by omega) (by omega) g0
set_option maxHeartbeats 4000000 in
set_option maxRecDepth 100000 in
theorem rdraw_all (seed k c i m : Int) (w : World) (hk : k ≤ 9223372036854775807) (hc : c ≤ 9223372036854775807) (hi : i ≤ 9223372036854775807) :
    Calls Tryd.prog 40 #[.int .u64 seed, .int .i64 k, .int .i64 c, .int .i64 i, .int .i64 m] w fun e w' => e = .returned (.tuple #[.int .i64 (drawR seed k c i m).1, .int .i64 (drawR seed k c i m).2]) ∧ Below w.heap.size w w' := by
  have hv := Below.refl w.heap.size w
  by_cases h1 : m < 0
  · have fh1 : decide (m < 0) = true := decide_eq_true h1
    have fh1' : decide (0 > m) = true := decide_eq_true h1
    have HE : drawR seed k c i m = (0, 1) := by unfold drawR; rw [if_neg (by omega)]
    rw [HE]
    clear HE
    go_enter Tryd.func40, Tryd.ntmps40
    go_wp2
    go_ret2
    exact ⟨rfl, hv⟩
  have fh1 : decide (m < 0) = false := decide_eq_false h1
  have fh1' : decide (0 > m) = false := decide_eq_false h1
  by_cases h2 : 1000000000000000 < m
  · have fh2 : decide (1000000000000000 < m) = true := decide_eq_true h2
    have fh2' : decide (m > 1000000000000000) = true := decide_eq_true h2
    have HE : drawR seed k c i m = (0, 1) := by unfold drawR; rw [if_neg (by omega)]
    rw [HE]
    clear HE
    go_enter Tryd.func40, Tryd.ntmps40
    go_wp2
    go_ret2
    exact ⟨rfl, hv⟩
  have fh2 : decide (1000000000000000 < m) = false := decide_eq_false h2
  have fh2' : decide (m > 1000000000000000) = false := decide_eq_false h2
  by_cases g1 : k < 0
  · have fg1 : decide (k < 0) = true := decide_eq_true g1
    have fg1' : decide (0 > k) = true := decide_eq_true g1
    have HE : drawR seed k c i m = (0, 1) := by unfold drawR; rw [if_neg (by omega)]
    rw [HE]
    clear HE
    go_enter Tryd.func40, Tryd.ntmps40
    go_wp2
    go_ret2
    exact ⟨rfl, hv⟩
  have fg1 : decide (k < 0) = false := decide_eq_false g1
  have fg1' : decide (0 > k) = false := decide_eq_false g1
  by_cases g2 : c < 0
  · have fg2 : decide (c < 0) = true := decide_eq_true g2
    have fg2' : decide (0 > c) = true := decide_eq_true g2
    have HE : drawR seed k c i m = (0, 1) := by unfold drawR; rw [if_neg (by omega)]
    rw [HE]
    clear HE
    go_enter Tryd.func40, Tryd.ntmps40
    go_wp2
    go_ret2
    exact ⟨rfl, hv⟩
  have fg2 : decide (c < 0) = false := decide_eq_false g2
  have fg2' : decide (0 > c) = false := decide_eq_false g2
  by_cases g3 : i < 0
  · have fg3 : decide (i < 0) = true := decide_eq_true g3
    have fg3' : decide (0 > i) = true := decide_eq_true g3
    have HE : drawR seed k c i m = (0, 1) := by unfold drawR; rw [if_neg (by omega)]
    rw [HE]
    clear HE
    go_enter Tryd.func40, Tryd.ntmps40
    go_wp2
    go_ret2
    exact ⟨rfl, hv⟩
  have fg3 : decide (i < 0) = false := decide_eq_false g3
  have fg3' : decide (0 > i) = false := decide_eq_false g3
  have HE : drawR seed k c i m = (drawF seed k c i m, 0) := by unfold drawR; rw [if_pos (by omega)]
  rw [HE]
  exact rdraw_g seed k c i m w (by omega) (by omega) (by omega) (by omega)
end Go.Proofs.YtlfnnalepdjagaaDoor.C
end

section
/- SameInts of equal lists. -/
namespace Go.Proofs.YtlfnnalepdjagaaDoor.C
open Go.RowKit Go.Shelf Go.Maps Go.Proofs.YtlfnnalepdjagaaDoorW.PrintWords Go.Proofs.YtlfnnalepdjagaaDoorW.PrintLast Go.Proofs.YtlfnnalepdjagaaDoorW.PrintMore
set_option linter.unusedVariables false
set_option linter.unusedSimpArgs false
abbrev kI : Kd Int := Kd.int .i64
theorem C_int {w : World} {A : Option Addr} {n : Nat} {l : List Int} (h : Kd.C kI w A n l) (k : Nat) (hk : k < l.length) (hn : k < n) :
    ∃ ad, A = some ad ∧ w.cell? (ad.add k) = some (.int .i64 l[k]) := by
  obtain ⟨ad, c, e, hs, hr, hc⟩ := ReadsRow.get_ h (0 : Int) k (by omega) (by omega)
  have hx : l.getD (Int.toNat (k : Int)) 0 = l[k] := by simp [List.getD_eq_getElem?_getD, hk]
  rw [hx] at hr
  obtain rfl : c = [.int .i64 l[k]] := hr
  have := hc 0 _ rfl
  refine ⟨ad, e, ?_⟩
  have e1 : kI.sz = 1 := rfl
  rw [e1] at this
  simpa using this
set_option maxHeartbeats 4000000 in
set_option maxRecDepth 100000 in
theorem sameInts_eq (A1 A2 : Option Addr) (c1 c2 : Nat) (l : List Int) (w : World) (h1 : Kd.C kI w A1 l.length l) (h2 : Kd.C kI w A2 l.length l) :
    Calls Tryd.prog 37 #[.slice A1 l.length c1, .slice A2 l.length c2] w fun e w' => e = .returned (.bool true) ∧ Below w.heap.size w w' := by
  have hll : l.length ≤ 9223372036854775807 := h1.2.1
  have H1 := Aside0.mk h1
  have H2 := Aside0.mk h2
  clear h1 h2
  go_enter Tryd.func37, Tryd.ntmps37
  go_wp2
  go_loopw [5] (fun v wr => ∃ i : Nat, i ≤ l.length ∧ v = .int .i64 i ∧ Aside0 (Below w.heap.size w wr)) (fun v _ => l.length - (intOf v).toNat)
  case atStart => exact ⟨0, Nat.zero_le _, rfl, ⟨Below.refl _ _⟩⟩
  case round =>
    obtain ⟨i, hi, rfl, HB⟩ := hrel
    by_cases hlt : i < l.length
    · have dlt : (i : Int) < (l.length : Int) := by omega
      obtain ⟨a1, rfl, x1⟩ := C_int (Kd.C_below H1.out HB.out) i hlt hlt
      obtain ⟨a2, rfl, x2⟩ := C_int (Kd.C_below H2.out HB.out) i hlt hlt
      obtain ⟨v, hv⟩ : ∃ v, l[i] = v := ⟨_, rfl⟩
      rw [hv] at x1 x2
      clear hv
      go_wp2_with fail
      go_quiet (fail)
      go_wp2
      go_roundw
      case rel => exact ⟨i + 1, by omega, by go_num, ⟨below_drewN HB.out _⟩⟩
      case measure => simp [intOf]; omega
    · have d1 : ¬ (i : Int) < (l.length : Int) := by omega
      go_wp2
      go_ret
      exact ⟨rfl, HB.out⟩
end Go.Proofs.YtlfnnalepdjagaaDoor.C
end

section
/- What Track answers. -/
namespace Go.Proofs.YtlfnnalepdjagaaDoor.C
open Go.RowKit Go.Shelf Go.Maps Go.Proofs.YtlfnnalepdjagaaDoorW.PrintWords Go.Proofs.YtlfnnalepdjagaaDoorW.PrintLast Go.Proofs.YtlfnnalepdjagaaDoorW.PrintMore
set_option linter.unusedVariables false
set_option linter.unusedSimpArgs false
theorem steps_app (seed k wk : Int) (m : Nat) : ∀ (n : Nat) (a : Int), stepsT seed k wk a (n + m) = stepsT seed k wk a n ++ stepsT seed k wk (a + n) m
  | 0, a => by simp [stepsT]
  | n + 1, a => by
    rw [show n + 1 + m = (n + m) + 1 by omega, stepsT, steps_app seed k wk m n (a + 1), stepsT]
    simp only [List.cons_append, show a + 1 + (n : Int) = a + ((n + 1 : Nat) : Int) by omega]
theorem foldl_from : ∀ (l : List Int) (x : Int), l.foldl (· + ·) x = x + l.foldl (· + ·) 0
  | [], x => by simp
  | y :: l, x => by
    rw [List.foldl_cons, List.foldl_cons, foldl_from l (x + y), foldl_from l (0 + y)]
    omega
theorem walked_add {seed k wk a b : Int} (ha : 0 ≤ a) (hab : a ≤ b) : walkedF seed k wk 0 a + walkedF seed k wk a b = walkedF seed k wk 0 b := by
  unfold walkedF
  have hm : stepsN 0 b = stepsN 0 a + stepsN a b := by unfold stepsN; omega
  have e2 : (stepsN 0 a : Int) = a / 100 := by unfold stepsN; omega
  rw [hm, steps_app, List.foldl_append, e2, foldl_from (stepsT seed k wk (0 / 100 + 1 + a / 100) (stepsN a b)), show (0 : Int) / 100 + 1 + a / 100 = a / 100 + 1 by omega]
theorem walked_00 (seed k wk : Int) : walkedF seed k wk 0 0 = 0 := by unfold walkedF stepsN; simp [stepsT]
def icells (l : List Int) : List Value := pcells (l.map fun x => (x, [Value.int .i64 x]))
theorem icells_snoc (l : List Int) (x : Int) : icells (l ++ [x]) = icells l ++ [.int .i64 x] := by
  unfold icells; rw [List.map_append, pcells_append]; simp [pcells]
theorem own_I {W : World} {base e : Nat} {v : Value} {l : List Int} (h : W.ownsRow base e 1 v l.length (icells l)) : ∃ A c, v = .slice A l.length c ∧ Kd.C kI W A l.length l := by
  have h2 := own_C kI (W := W) (l.map fun x => (x, [Value.int .i64 x])) (by rw [List.length_map]; exact h) (fun x hx => by obtain ⟨c, _, rfl⟩ := List.mem_map.1 hx; rfl) (fun x hx => by obtain ⟨c, _, rfl⟩ := List.mem_map.1 hx; rfl)
  rw [List.length_map, List.map_map] at h2
  have e2 : ((fun x : Int × List Value => x.1) ∘ fun x : Int => (x, [Value.int .i64 x])) = id := rfl
  rw [e2, List.map_id] at h2
  obtain ⟨A, c, e1, _, hC⟩ := h2
  exact ⟨A, c, e1, hC⟩
/-- The error of a track. -/
def errTr (chs : List T3) (cks : List Ck) (k fr st n : Int) : Int :=
  if errK chs cks k = 0 then
    if st < 1 ∨ ¬ (0 ≤ n ∧ n ≤ 20000) then 1
    else if ¬ (0 ≤ fr ∧ fr ≤ 1000000) ∨ (1 < n ∧ 1000000 - fr < (n - 1) * st) then 21
    else if (List.range n.toNat).all (fun (i : Nat) => runsF (ckAt cks k).es (fr + (i : Int) * st)) then 0 else 22
  else errK chs cks k
def trackV (seed : Int) (chs : List T3) (cks : List Ck) (k fr st : Int) (n : Nat) : List Int := (List.range n).map fun (i : Nat) => shownF seed chs cks k (fr + (i : Int) * st)
theorem trackV_len (seed : Int) (chs : List T3) (cks : List Ck) (k fr st : Int) (n : Nat) : (trackV seed chs cks k fr st n).length = n := by unfold trackV; simp
theorem trackV_next (seed : Int) (chs : List T3) (cks : List Ck) (k fr st : Int) (n : Nat) : trackV seed chs cks k fr st (n + 1) = trackV seed chs cks k fr st n ++ [shownF seed chs cks k (fr + n * st)] := by
  unfold trackV; rw [List.range_succ, List.map_append]; rfl
def trackL (seed : Int) (chs : List T3) (cks : List Ck) (k fr st n : Int) : List Int := if errTr chs cks k fr st n = 0 then trackV seed chs cks k fr st n.toNat else []
theorem tr_arg {chs : List T3} {cks : List Ck} {k fr st n : Int} (hk : errK chs cks k = 0) (h : st < 1 ∨ ¬ (0 ≤ n ∧ n ≤ 20000)) : errTr chs cks k fr st n = 1 := by unfold errTr; rw [if_pos hk, if_pos h]
theorem tr_time {chs : List T3} {cks : List Ck} {k fr st n : Int} (hk : errK chs cks k = 0) (h : ¬ (st < 1 ∨ ¬ (0 ≤ n ∧ n ≤ 20000))) (h2 : ¬ (0 ≤ fr ∧ fr ≤ 1000000) ∨ (1 < n ∧ 1000000 - fr < (n - 1) * st)) : errTr chs cks k fr st n = 21 := by unfold errTr; rw [if_pos hk, if_neg h, if_pos h2]
theorem tr_run {chs : List T3} {cks : List Ck} {k fr st n : Int} (hk : errK chs cks k = 0) (h : ¬ (st < 1 ∨ ¬ (0 ≤ n ∧ n ≤ 20000))) (h2 : ¬ (¬ (0 ≤ fr ∧ fr ≤ 1000000) ∨ (1 < n ∧ 1000000 - fr < (n - 1) * st))) : errTr chs cks k fr st n = if (List.range n.toNat).all (fun (i : Nat) => runsF (ckAt cks k).es (fr + (i : Int) * st)) then 0 else 22 := by unfold errTr; rw [if_pos hk, if_neg h, if_neg h2]
theorem tr_at {fr st n : Int} (hst : 1 ≤ st) (hfr : 0 ≤ fr ∧ fr ≤ 1000000) (h2 : ¬ (1 < n ∧ 1000000 - fr < (n - 1) * st)) {j : Nat} (hj : (j : Int) < n) : 0 ≤ (j : Int) * st ∧ fr + j * st ≤ 1000000 := by
  have h0 : 0 ≤ (j : Int) * st := Int.mul_nonneg (by omega) (by omega)
  refine ⟨h0, ?_⟩
  rcases Nat.eq_zero_or_pos j with rfl | hp
  · simp; omega
  · have h3 : (n - 1) * st ≤ 1000000 - fr := by
      rcases Int.lt_or_le (1000000 - fr) ((n - 1) * st) with h | h
      · exact absurd ⟨by omega, h⟩ h2
      · exact h
    have h4 : (j : Int) * st ≤ (n - 1) * st := Int.mul_le_mul_of_nonneg_right (by omega) (by omega)
    omega
def lastS (fr st : Int) : Nat → Int
  | 0 => 0
  | j + 1 => fr + j * st
theorem tr_quo {fr st n : Int} (hfr : 0 ≤ fr ∧ fr ≤ 1000000) (hn : 1 < n) : (1000000 - fr) / (n - 1) < st ↔ 1000000 - fr < (n - 1) * st := by
  constructor
  · intro h
    have h1 := Int.lt_ediv_add_one_mul_self (1000000 - fr) (show 0 < n - 1 by omega)
    have h2 : ((1000000 - fr) / (n - 1) + 1) * (n - 1) ≤ st * (n - 1) := Int.mul_le_mul_of_nonneg_right (by omega) (by omega)
    rw [Int.mul_comm (n - 1) st]
    omega
  · intro h
    exact Int.ediv_lt_of_lt_mul (by omega) (by rw [Int.mul_comm]; exact h)
end Go.Proofs.YtlfnnalepdjagaaDoor.C
end

section
/- The contract of Track. -/
namespace Go.Proofs.YtlfnnalepdjagaaDoor.C
open Go.RowKit Go.Shelf Go.Maps Go.Proofs.YtlfnnalepdjagaaDoorW.PrintWords Go.Proofs.YtlfnnalepdjagaaDoorW.PrintLast Go.Proofs.YtlfnnalepdjagaaDoorW.PrintMore
set_option linter.unusedVariables false
set_option linter.unusedSimpArgs false
theorem info3n : (Tryd.prog.info? 3).map (fun i => (i.zero, i.size, i.bytes)) = some (some (.int .i64 0), 1, 8) := by kernel_rfl
set_option maxHeartbeats 4000000 in
set_option maxRecDepth 100000 in
theorem Track_calls (seed : Int) (Ah : Option Addr) (chc : Nat) (Ak : Option Addr) (ckc : Nat) (chs : List T3) (cks : List Ck) (k fr st n : Int) (w : World) (hL : Lim w) (hW : WAt 51 w Ah Ak chs cks) (hwf : WfK cks) (hn9 : n ≤ 9223372036854775807) :
    Calls Tryd.prog 35 #[woV seed Ah chs.length chc Ak cks.length ckc, .int .i64 k, .int .i64 fr, .int .i64 st, .int .i64 n] w fun e w' => ∃ A c, e = .returned (.tuple #[.slice A (trackL seed chs cks k fr st n).length c, .int .i64 (errTr chs cks k fr st n)]) ∧ Kd.C kI w' A (trackL seed chs cks k fr st n).length (trackL seed chs cks k fr st n) ∧ Below w.heap.size w w' := by
  have hv := Below.refl w.heap.size w
  by_cases hE : errK chs cks k = 0
  rotate_left
  · have c47 := fun W (hB : Below w.heap.size w W) => find_err seed Ah chc Ak ckc chs cks k W (hL.below hB) (hW.below hB) hwf hE
    have e1 : errTr chs cks k fr st n = errK chs cks k := by unfold errTr; rw [if_neg hE]
    have e2 : trackL seed chs cks k fr st n = [] := by unfold trackL; rw [e1, if_neg hE]
    rw [e1, e2]
    clear e1 e2 hL hW hwf
    generalize errK chs cks k = E at *
    have d1 : (E == 0) = false := beq_eq_false_iff_ne.2 hE
    unfold wkZ at c47
    go_enter Tryd.func35, Tryd.ntmps35
    go_wp2_with fail
    obtain ⟨w1, hw1⟩ : ∃ w1, w.alloc (.cells #[.int .u64 seed, .slice Ah chs.length chc, .slice Ak cks.length ckc] 32) = w1 := ⟨_, rfl⟩
    try rw [hw1]
    have hB : Below w.heap.size w w1 := by rw [← hw1]; exact (Below.refl _ w).alloc (by first | exact Nat.le_refl _ | (simp; done) | (simp; omega)) _
    have kx : w1.heap[w.heap.size]? = some (.cells #[.int .u64 seed, .slice Ah chs.length chc, .slice Ak cks.length ckc] 32 (0, 0)) := by rw [← hw1]; exact al_new _ _ _ (by first | rfl | (simp; done) | (simp; omega))
    have x0 : w1.cell? ⟨w.heap.size, 0, none⟩ = some (.int .u64 seed) := blk_cell kx 0
    have x1 : w1.cell? ⟨w.heap.size, 1, none⟩ = some (.slice Ah chs.length chc) := blk_cell kx 1
    have x2 : w1.cell? ⟨w.heap.size, 2, none⟩ = some (.slice Ak cks.length ckc) := blk_cell kx 2
    clear kx
    replace hv := hv.trans (hB.mono hv.size)
    clear hB hw1
    refine (c47 _ hv).mono ?_
    rintro en w2 ⟨rfl, hB⟩
    replace x0 := cell_on hB x0
    replace x1 := cell_on hB x1
    replace x2 := cell_on hB x2
    replace hv := hv.trans (hB.mono hv.size)
    clear hB c47 x0 x1 x2
    go_wp2
    go_ret2
    exact ⟨none, 0, rfl, C_nil _ _, hv.alloc hv.size _⟩
  have hk := errK_zero hE
  obtain ⟨i, rfl⟩ : ∃ i : Nat, k = i := ⟨k.toNat, by omega⟩
  have hi : i < cks.length := by omega
  obtain ⟨hO, hEv, q, hq, hxq, hc⟩ := hk.1.at hi
  have hik : 0 ≤ (i : Int) ∧ (i : Int) ≤ 1000000000000000 := by have := hk.1.nk; omega
  have hSH := fun (s : Int) (hs : 0 ≤ s ∧ s ≤ 1000000) => shown_tight (seed := seed) hk.1 hi hs
  have HEK := Aside0.mk hE
  have hck := ckAt_of hi
  have hsf := fun (s : Int) => shownF_of (chs := chs) (cks := cks) hi rfl hq hxq seed s
  obtain ⟨x, hx⟩ : ∃ x, cks[i] = x := ⟨_, rfl⟩
  rw [hx] at hO hEv hxq hck hsf
  have c47 := fun W (hB : Below w.heap.size w W) => find_at seed Ah chc Ak ckc chs cks i hi x hx W (hL.below hB) hwf w hB hW hE
  have HH := Aside0.mk hW.h
  have HO := Aside0.mk hO
  have HEV := Aside0.mk hEv
  have HXQ := Aside0.mk hxq
  have HCK := Aside0.mk hck
  have HSF := Aside0.mk hsf
  have HSH := Aside0.mk hSH
  have HCQ := Aside0.mk hc
  clear hL hW hwf hE hk hO hEv hxq hx hck hsf hSH hc
  have c48 := fun (W : World) => inW_calls n 0 20000 W
  have c57 := fun (W : World) => timed_calls fr W
  by_cases g1 : st < 1
  · have fg1 : decide (st < 1) = true := decide_eq_true g1
    have fg1' : decide (1 > st) = true := decide_eq_true g1
    have e1 : errTr chs cks (i : Int) fr st n = 1 := tr_arg HEK.out (Or.inl g1)
    have e2 : trackL seed chs cks (i : Int) fr st n = [] := by unfold trackL; rw [e1, if_neg (by decide)]
    rw [e1, e2]
    clear e1 e2
    go_enter Tryd.func35, Tryd.ntmps35
    go_wp2_with fail
    obtain ⟨w1, hw1⟩ : ∃ w1, w.alloc (.cells #[.int .u64 seed, .slice Ah chs.length chc, .slice Ak cks.length ckc] 32) = w1 := ⟨_, rfl⟩
    try rw [hw1]
    have hB : Below w.heap.size w w1 := by rw [← hw1]; exact (Below.refl _ w).alloc (by first | exact Nat.le_refl _ | (simp; done) | (simp; omega)) _
    have kx : w1.heap[w.heap.size]? = some (.cells #[.int .u64 seed, .slice Ah chs.length chc, .slice Ak cks.length ckc] 32 (0, 0)) := by rw [← hw1]; exact al_new _ _ _ (by first | rfl | (simp; done) | (simp; omega))
    have x0 : w1.cell? ⟨w.heap.size, 0, none⟩ = some (.int .u64 seed) := blk_cell kx 0
    have x1 : w1.cell? ⟨w.heap.size, 1, none⟩ = some (.slice Ah chs.length chc) := blk_cell kx 1
    have x2 : w1.cell? ⟨w.heap.size, 2, none⟩ = some (.slice Ak cks.length ckc) := blk_cell kx 2
    clear kx
    replace hv := hv.trans (hB.mono hv.size)
    clear hB hw1
    refine (c47 _ hv).mono ?_
    rintro en w2 ⟨Ae, ce, rfl, hCe, hB⟩
    replace x0 := cell_on hB x0
    replace x1 := cell_on hB x1
    replace x2 := cell_on hB x2
    replace hv := hv.trans (hB.mono hv.size)
    clear hB c47 x0 x1 x2
    clear hCe HH
    go_wp2
    go_ret2
    exact ⟨none, 0, rfl, C_nil _ _, hv.alloc hv.size _⟩
  have fg1 : decide (st < 1) = false := decide_eq_false g1
  have fg1' : decide (1 > st) = false := decide_eq_false g1
  by_cases g2 : 0 ≤ n ∧ n ≤ 20000
  rotate_left
  · rw [show inW n 0 20000 = false by unfold inW; simp; omega] at c48
    have e1 : errTr chs cks (i : Int) fr st n = 1 := tr_arg HEK.out (Or.inr g2)
    have e2 : trackL seed chs cks (i : Int) fr st n = [] := by unfold trackL; rw [e1, if_neg (by decide)]
    rw [e1, e2]
    clear e1 e2
    go_enter Tryd.func35, Tryd.ntmps35
    go_wp2_with fail
    obtain ⟨w1, hw1⟩ : ∃ w1, w.alloc (.cells #[.int .u64 seed, .slice Ah chs.length chc, .slice Ak cks.length ckc] 32) = w1 := ⟨_, rfl⟩
    try rw [hw1]
    have hB : Below w.heap.size w w1 := by rw [← hw1]; exact (Below.refl _ w).alloc (by first | exact Nat.le_refl _ | (simp; done) | (simp; omega)) _
    have kx : w1.heap[w.heap.size]? = some (.cells #[.int .u64 seed, .slice Ah chs.length chc, .slice Ak cks.length ckc] 32 (0, 0)) := by rw [← hw1]; exact al_new _ _ _ (by first | rfl | (simp; done) | (simp; omega))
    have x0 : w1.cell? ⟨w.heap.size, 0, none⟩ = some (.int .u64 seed) := blk_cell kx 0
    have x1 : w1.cell? ⟨w.heap.size, 1, none⟩ = some (.slice Ah chs.length chc) := blk_cell kx 1
    have x2 : w1.cell? ⟨w.heap.size, 2, none⟩ = some (.slice Ak cks.length ckc) := blk_cell kx 2
    clear kx
    replace hv := hv.trans (hB.mono hv.size)
    clear hB hw1
    refine (c47 _ hv).mono ?_
    rintro en w2 ⟨Ae, ce, rfl, hCe, hB⟩
    replace x0 := cell_on hB x0
    replace x1 := cell_on hB x1
    replace x2 := cell_on hB x2
    replace hv := hv.trans (hB.mono hv.size)
    clear hB c47 x0 x1 x2
    clear hCe HH
    go_wp2_with fail
    obtain ⟨w3, hw3⟩ : ∃ w3, w2.alloc (.cells #[.int .i64 x.kd, .int .i64 x.ph, .int .i64 x.rt, .int .i64 x.dr, .int .i64 x.wh, .int .i64 x.wk, .int .i64 x.ht, .int .i64 x.ch, .slice Ae x.es.length ce, .int .u64 seed, .slice Ah chs.length chc, .slice Ak cks.length ckc, .int .i64 (i : Int)] 97) = w3 := ⟨_, rfl⟩
    try rw [hw3]
    have hB : Below w2.heap.size w2 w3 := by rw [← hw3]; exact (Below.refl _ w2).alloc (by first | exact Nat.le_refl _ | (simp; done) | (simp; omega)) _
    have ky : w3.heap[w2.heap.size]? = some (.cells #[.int .i64 x.kd, .int .i64 x.ph, .int .i64 x.rt, .int .i64 x.dr, .int .i64 x.wh, .int .i64 x.wk, .int .i64 x.ht, .int .i64 x.ch, .slice Ae x.es.length ce, .int .u64 seed, .slice Ah chs.length chc, .slice Ak cks.length ckc, .int .i64 (i : Int)] 97 (0, 0)) := by rw [← hw3]; exact al_new _ _ _ (by first | rfl | (simp; done) | (simp; omega))
    have y0 : w3.cell? ⟨w2.heap.size, 0, none⟩ = some (.int .i64 x.kd) := blk_cell ky 0
    have y1 : w3.cell? ⟨w2.heap.size, 1, none⟩ = some (.int .i64 x.ph) := blk_cell ky 1
    have y2 : w3.cell? ⟨w2.heap.size, 2, none⟩ = some (.int .i64 x.rt) := blk_cell ky 2
    have y3 : w3.cell? ⟨w2.heap.size, 3, none⟩ = some (.int .i64 x.dr) := blk_cell ky 3
    have y4 : w3.cell? ⟨w2.heap.size, 4, none⟩ = some (.int .i64 x.wh) := blk_cell ky 4
    have y5 : w3.cell? ⟨w2.heap.size, 5, none⟩ = some (.int .i64 x.wk) := blk_cell ky 5
    have y6 : w3.cell? ⟨w2.heap.size, 6, none⟩ = some (.int .i64 x.ht) := blk_cell ky 6
    have y7 : w3.cell? ⟨w2.heap.size, 7, none⟩ = some (.int .i64 x.ch) := blk_cell ky 7
    have y8 : w3.cell? ⟨w2.heap.size, 8, none⟩ = some (.slice Ae x.es.length ce) := blk_cell ky 8
    have y9 : w3.cell? ⟨w2.heap.size, 9, none⟩ = some (.int .u64 seed) := blk_cell ky 9
    have y10 : w3.cell? ⟨w2.heap.size, 10, none⟩ = some (.slice Ah chs.length chc) := blk_cell ky 10
    have y11 : w3.cell? ⟨w2.heap.size, 11, none⟩ = some (.slice Ak cks.length ckc) := blk_cell ky 11
    have y12 : w3.cell? ⟨w2.heap.size, 12, none⟩ = some (.int .i64 (i : Int)) := blk_cell ky 12
    clear ky
    replace hv := hv.trans (hB.mono hv.size)
    clear hB hw3
    clear y0 y1 y2 y3 y4 y5 y6 y7 y8 y9 y10 y11 y12
    refine (c48 _).mono ?_
    rintro en w4 ⟨rfl, hB⟩
    replace hv := hv.trans (hB.mono hv.size)
    clear hB c48
    go_wp2
    go_ret2
    exact ⟨none, 0, rfl, C_nil _ _, hv⟩
  rw [show inW n 0 20000 = true by unfold inW; simp; omega] at c48
  have hb : ¬ (st < 1 ∨ ¬ (0 ≤ n ∧ n ≤ 20000)) := by omega
  by_cases g3 : 0 ≤ fr ∧ fr ≤ 1000000
  rotate_left
  · rw [show timedF fr = 21 by unfold timedF; rw [if_neg g3]] at c57
    have e1 : errTr chs cks (i : Int) fr st n = 21 := tr_time HEK.out hb (Or.inl g3)
    have e2 : trackL seed chs cks (i : Int) fr st n = [] := by unfold trackL; rw [e1, if_neg (by decide)]
    rw [e1, e2]
    clear e1 e2
    go_enter Tryd.func35, Tryd.ntmps35
    go_wp2_with fail
    obtain ⟨w1, hw1⟩ : ∃ w1, w.alloc (.cells #[.int .u64 seed, .slice Ah chs.length chc, .slice Ak cks.length ckc] 32) = w1 := ⟨_, rfl⟩
    try rw [hw1]
    have hB : Below w.heap.size w w1 := by rw [← hw1]; exact (Below.refl _ w).alloc (by first | exact Nat.le_refl _ | (simp; done) | (simp; omega)) _
    have kx : w1.heap[w.heap.size]? = some (.cells #[.int .u64 seed, .slice Ah chs.length chc, .slice Ak cks.length ckc] 32 (0, 0)) := by rw [← hw1]; exact al_new _ _ _ (by first | rfl | (simp; done) | (simp; omega))
    have x0 : w1.cell? ⟨w.heap.size, 0, none⟩ = some (.int .u64 seed) := blk_cell kx 0
    have x1 : w1.cell? ⟨w.heap.size, 1, none⟩ = some (.slice Ah chs.length chc) := blk_cell kx 1
    have x2 : w1.cell? ⟨w.heap.size, 2, none⟩ = some (.slice Ak cks.length ckc) := blk_cell kx 2
    clear kx
    replace hv := hv.trans (hB.mono hv.size)
    clear hB hw1
    refine (c47 _ hv).mono ?_
    rintro en w2 ⟨Ae, ce, rfl, hCe, hB⟩
    replace x0 := cell_on hB x0
    replace x1 := cell_on hB x1
    replace x2 := cell_on hB x2
    replace hv := hv.trans (hB.mono hv.size)
    clear hB c47 x0 x1 x2
    clear hCe HH
    go_wp2_with fail
    obtain ⟨w3, hw3⟩ : ∃ w3, w2.alloc (.cells #[.int .i64 x.kd, .int .i64 x.ph, .int .i64 x.rt, .int .i64 x.dr, .int .i64 x.wh, .int .i64 x.wk, .int .i64 x.ht, .int .i64 x.ch, .slice Ae x.es.length ce, .int .u64 seed, .slice Ah chs.length chc, .slice Ak cks.length ckc, .int .i64 (i : Int)] 97) = w3 := ⟨_, rfl⟩
    try rw [hw3]
    have hB : Below w2.heap.size w2 w3 := by rw [← hw3]; exact (Below.refl _ w2).alloc (by first | exact Nat.le_refl _ | (simp; done) | (simp; omega)) _
    have ky : w3.heap[w2.heap.size]? = some (.cells #[.int .i64 x.kd, .int .i64 x.ph, .int .i64 x.rt, .int .i64 x.dr, .int .i64 x.wh, .int .i64 x.wk, .int .i64 x.ht, .int .i64 x.ch, .slice Ae x.es.length ce, .int .u64 seed, .slice Ah chs.length chc, .slice Ak cks.length ckc, .int .i64 (i : Int)] 97 (0, 0)) := by rw [← hw3]; exact al_new _ _ _ (by first | rfl | (simp; done) | (simp; omega))
    have y0 : w3.cell? ⟨w2.heap.size, 0, none⟩ = some (.int .i64 x.kd) := blk_cell ky 0
    have y1 : w3.cell? ⟨w2.heap.size, 1, none⟩ = some (.int .i64 x.ph) := blk_cell ky 1
    have y2 : w3.cell? ⟨w2.heap.size, 2, none⟩ = some (.int .i64 x.rt) := blk_cell ky 2
    have y3 : w3.cell? ⟨w2.heap.size, 3, none⟩ = some (.int .i64 x.dr) := blk_cell ky 3
    have y4 : w3.cell? ⟨w2.heap.size, 4, none⟩ = some (.int .i64 x.wh) := blk_cell ky 4
    have y5 : w3.cell? ⟨w2.heap.size, 5, none⟩ = some (.int .i64 x.wk) := blk_cell ky 5
    have y6 : w3.cell? ⟨w2.heap.size, 6, none⟩ = some (.int .i64 x.ht) := blk_cell ky 6
    have y7 : w3.cell? ⟨w2.heap.size, 7, none⟩ = some (.int .i64 x.ch) := blk_cell ky 7
    have y8 : w3.cell? ⟨w2.heap.size, 8, none⟩ = some (.slice Ae x.es.length ce) := blk_cell ky 8
    have y9 : w3.cell? ⟨w2.heap.size, 9, none⟩ = some (.int .u64 seed) := blk_cell ky 9
    have y10 : w3.cell? ⟨w2.heap.size, 10, none⟩ = some (.slice Ah chs.length chc) := blk_cell ky 10
    have y11 : w3.cell? ⟨w2.heap.size, 11, none⟩ = some (.slice Ak cks.length ckc) := blk_cell ky 11
    have y12 : w3.cell? ⟨w2.heap.size, 12, none⟩ = some (.int .i64 (i : Int)) := blk_cell ky 12
    clear ky
    replace hv := hv.trans (hB.mono hv.size)
    clear hB hw3
    clear y0 y1 y2 y3 y4 y5 y6 y7 y8 y9 y10 y11 y12
    refine (c48 _).mono ?_
    rintro en w4 ⟨rfl, hB⟩
    replace hv := hv.trans (hB.mono hv.size)
    clear hB c48
    go_wp2_with fail
    refine (c57 _).mono ?_
    rintro en w5 ⟨rfl, hB⟩
    replace hv := hv.trans (hB.mono hv.size)
    clear hB c57
    go_wp2
    go_ret2
    exact ⟨none, 0, rfl, C_nil _ _, hv⟩
  rw [show timedF fr = 0 by unfold timedF; rw [if_pos g3]] at c57
  have u1 : IntKind.i64.wrap (1000000 - fr) = 1000000 - fr := C.wr _ (by omega) (by omega)
  have u2 : IntKind.i64.wrap (n - 1) = n - 1 := C.wr _ (by omega) (by omega)
  obtain ⟨Q, hQ⟩ : ∃ z, (1000000 - fr) / (n - 1) = z := ⟨_, rfl⟩
  have HQB : 1 < n → 0 ≤ Q ∧ Q ≤ 1000000 := fun h => by rw [← hQ]; exact ⟨Int.ediv_nonneg (by omega) (by omega), Int.le_trans (Int.ediv_le_self _ (by omega)) (by omega)⟩
  have u3 : 1 < n → IntKind.i64.wrap ((1000000 - fr).tdiv (n - 1)) = Q := fun h => by rw [Int.tdiv_eq_ediv_of_nonneg (by omega), hQ]; exact C.wr _ (by have := HQB h; omega) (by have := HQB h; omega)
  by_cases g5 : 1 < n ∧ 1000000 - fr < (n - 1) * st
  · have g6 : Q < st := by rw [← hQ]; exact (tr_quo g3 g5.1).2 g5.2
    have f4 : decide (n > 1) = true := decide_eq_true g5.1
    have f4' : decide (1 < n) = true := decide_eq_true g5.1
    have f5 : decide (st > Q) = true := decide_eq_true g6
    have f5' : decide (Q < st) = true := decide_eq_true g6
    have u4 := u3 g5.1
    have u5 : ¬ n - 1 = 0 := by omega
    clear u3 HQB hQ
    have e1 : errTr chs cks (i : Int) fr st n = 21 := tr_time HEK.out hb (Or.inr g5)
    have e2 : trackL seed chs cks (i : Int) fr st n = [] := by unfold trackL; rw [e1, if_neg (by decide)]
    rw [e1, e2]
    clear e1 e2
    go_enter Tryd.func35, Tryd.ntmps35
    go_wp2_with fail
    obtain ⟨w1, hw1⟩ : ∃ w1, w.alloc (.cells #[.int .u64 seed, .slice Ah chs.length chc, .slice Ak cks.length ckc] 32) = w1 := ⟨_, rfl⟩
    try rw [hw1]
    have hB : Below w.heap.size w w1 := by rw [← hw1]; exact (Below.refl _ w).alloc (by first | exact Nat.le_refl _ | (simp; done) | (simp; omega)) _
    have kx : w1.heap[w.heap.size]? = some (.cells #[.int .u64 seed, .slice Ah chs.length chc, .slice Ak cks.length ckc] 32 (0, 0)) := by rw [← hw1]; exact al_new _ _ _ (by first | rfl | (simp; done) | (simp; omega))
    have x0 : w1.cell? ⟨w.heap.size, 0, none⟩ = some (.int .u64 seed) := blk_cell kx 0
    have x1 : w1.cell? ⟨w.heap.size, 1, none⟩ = some (.slice Ah chs.length chc) := blk_cell kx 1
    have x2 : w1.cell? ⟨w.heap.size, 2, none⟩ = some (.slice Ak cks.length ckc) := blk_cell kx 2
    clear kx
    replace hv := hv.trans (hB.mono hv.size)
    clear hB hw1
    refine (c47 _ hv).mono ?_
    rintro en w2 ⟨Ae, ce, rfl, hCe, hB⟩
    replace x0 := cell_on hB x0
    replace x1 := cell_on hB x1
    replace x2 := cell_on hB x2
    replace hv := hv.trans (hB.mono hv.size)
    clear hB c47 x0 x1 x2
    clear hCe HH
    go_wp2_with fail
    obtain ⟨w3, hw3⟩ : ∃ w3, w2.alloc (.cells #[.int .i64 x.kd, .int .i64 x.ph, .int .i64 x.rt, .int .i64 x.dr, .int .i64 x.wh, .int .i64 x.wk, .int .i64 x.ht, .int .i64 x.ch, .slice Ae x.es.length ce, .int .u64 seed, .slice Ah chs.length chc, .slice Ak cks.length ckc, .int .i64 (i : Int)] 97) = w3 := ⟨_, rfl⟩
    try rw [hw3]
    have hB : Below w2.heap.size w2 w3 := by rw [← hw3]; exact (Below.refl _ w2).alloc (by first | exact Nat.le_refl _ | (simp; done) | (simp; omega)) _
    have ky : w3.heap[w2.heap.size]? = some (.cells #[.int .i64 x.kd, .int .i64 x.ph, .int .i64 x.rt, .int .i64 x.dr, .int .i64 x.wh, .int .i64 x.wk, .int .i64 x.ht, .int .i64 x.ch, .slice Ae x.es.length ce, .int .u64 seed, .slice Ah chs.length chc, .slice Ak cks.length ckc, .int .i64 (i : Int)] 97 (0, 0)) := by rw [← hw3]; exact al_new _ _ _ (by first | rfl | (simp; done) | (simp; omega))
    have y0 : w3.cell? ⟨w2.heap.size, 0, none⟩ = some (.int .i64 x.kd) := blk_cell ky 0
    have y1 : w3.cell? ⟨w2.heap.size, 1, none⟩ = some (.int .i64 x.ph) := blk_cell ky 1
    have y2 : w3.cell? ⟨w2.heap.size, 2, none⟩ = some (.int .i64 x.rt) := blk_cell ky 2
    have y3 : w3.cell? ⟨w2.heap.size, 3, none⟩ = some (.int .i64 x.dr) := blk_cell ky 3
    have y4 : w3.cell? ⟨w2.heap.size, 4, none⟩ = some (.int .i64 x.wh) := blk_cell ky 4
    have y5 : w3.cell? ⟨w2.heap.size, 5, none⟩ = some (.int .i64 x.wk) := blk_cell ky 5
    have y6 : w3.cell? ⟨w2.heap.size, 6, none⟩ = some (.int .i64 x.ht) := blk_cell ky 6
    have y7 : w3.cell? ⟨w2.heap.size, 7, none⟩ = some (.int .i64 x.ch) := blk_cell ky 7
    have y8 : w3.cell? ⟨w2.heap.size, 8, none⟩ = some (.slice Ae x.es.length ce) := blk_cell ky 8
    have y9 : w3.cell? ⟨w2.heap.size, 9, none⟩ = some (.int .u64 seed) := blk_cell ky 9
    have y10 : w3.cell? ⟨w2.heap.size, 10, none⟩ = some (.slice Ah chs.length chc) := blk_cell ky 10
    have y11 : w3.cell? ⟨w2.heap.size, 11, none⟩ = some (.slice Ak cks.length ckc) := blk_cell ky 11
    have y12 : w3.cell? ⟨w2.heap.size, 12, none⟩ = some (.int .i64 (i : Int)) := blk_cell ky 12
    clear ky
    replace hv := hv.trans (hB.mono hv.size)
    clear hB hw3
    clear y0 y1 y2 y3 y4 y5 y6 y7 y8 y9 y10 y11 y12
    refine (c48 _).mono ?_
    rintro en w4 ⟨rfl, hB⟩
    replace hv := hv.trans (hB.mono hv.size)
    clear hB c48
    go_wp2_with fail
    refine (c57 _).mono ?_
    rintro en w5 ⟨rfl, hB⟩
    replace hv := hv.trans (hB.mono hv.size)
    clear hB c57
    go_wp2
    go_ret2
    exact ⟨none, 0, rfl, C_nil _ _, hv⟩
  obtain ⟨N, rfl⟩ : ∃ N : Nat, n = N := ⟨n.toNat, by omega⟩
  have HAT := Aside0.mk (fun (j : Nat) (hj : j < N) => tr_at (fr := fr) (st := st) (n := (N : Int)) (by omega) g3 g5 (j := j) (by omega))
  have hb2 : ¬ (¬ (0 ≤ fr ∧ fr ≤ 1000000) ∨ (1 < (N : Int) ∧ 1000000 - fr < ((N : Int) - 1) * st)) := by rintro (h | h); (exact h g3); (exact g5 h)
  have HTR := Aside0.mk (tr_run HEK.out hb hb2)
  have HST1 := Aside0.mk (show 1 ≤ st by omega)
  have HFR := Aside0.mk g3
  have HN2 := Aside0.mk (show N ≤ 20000 by omega)
  have hd : 1 < (N : Int) → st ≤ Q := fun h => by
    rcases Int.lt_or_le Q st with h2 | h2
    · rw [← hQ] at h2; exact absurd ⟨h, (tr_quo g3 h).1 h2⟩ g5
    · exact h2
  obtain ⟨i3, hi3, hi30, hi31, hi32⟩ := info_parts info3n
  clear hb hb2 hQ HQB
  go_enter Tryd.func35, Tryd.ntmps35
  go_wp2_with fail
  obtain ⟨w1, hw1⟩ : ∃ w1, w.alloc (.cells #[.int .u64 seed, .slice Ah chs.length chc, .slice Ak cks.length ckc] 32) = w1 := ⟨_, rfl⟩
  try rw [hw1]
  have hB : Below w.heap.size w w1 := by rw [← hw1]; exact (Below.refl _ w).alloc (by first | exact Nat.le_refl _ | (simp; done) | (simp; omega)) _
  have kx : w1.heap[w.heap.size]? = some (.cells #[.int .u64 seed, .slice Ah chs.length chc, .slice Ak cks.length ckc] 32 (0, 0)) := by rw [← hw1]; exact al_new _ _ _ (by first | rfl | (simp; done) | (simp; omega))
  have x0 : w1.cell? ⟨w.heap.size, 0, none⟩ = some (.int .u64 seed) := blk_cell kx 0
  have x1 : w1.cell? ⟨w.heap.size, 1, none⟩ = some (.slice Ah chs.length chc) := blk_cell kx 1
  have x2 : w1.cell? ⟨w.heap.size, 2, none⟩ = some (.slice Ak cks.length ckc) := blk_cell kx 2
  clear kx
  replace hv := hv.trans (hB.mono hv.size)
  clear hB hw1
  refine (c47 _ hv).mono ?_
  rintro en w2 ⟨Ae, ce, rfl, hCe, hB⟩
  replace x0 := cell_on hB x0
  replace x1 := cell_on hB x1
  replace x2 := cell_on hB x2
  replace hv := hv.trans (hB.mono hv.size)
  clear hB c47 x0 x1 x2
  have hv2 := Aside0.mk hv
  go_upto_block 0 with fail
  obtain ⟨w3, hw3⟩ : ∃ w3, w2.alloc (.cells #[.int .i64 x.kd, .int .i64 x.ph, .int .i64 x.rt, .int .i64 x.dr, .int .i64 x.wh, .int .i64 x.wk, .int .i64 x.ht, .int .i64 x.ch, .slice Ae x.es.length ce, .int .u64 seed, .slice Ah chs.length chc, .slice Ak cks.length ckc, .int .i64 (i : Int)] 97) = w3 := ⟨_, rfl⟩
  try rw [hw3]
  have hB : Below w2.heap.size w2 w3 := by rw [← hw3]; exact (Below.refl _ w2).alloc (by first | exact Nat.le_refl _ | (simp; done) | (simp; omega)) _
  have ky : w3.heap[w2.heap.size]? = some (.cells #[.int .i64 x.kd, .int .i64 x.ph, .int .i64 x.rt, .int .i64 x.dr, .int .i64 x.wh, .int .i64 x.wk, .int .i64 x.ht, .int .i64 x.ch, .slice Ae x.es.length ce, .int .u64 seed, .slice Ah chs.length chc, .slice Ak cks.length ckc, .int .i64 (i : Int)] 97 (0, 0)) := by rw [← hw3]; exact al_new _ _ _ (by first | rfl | (simp; done) | (simp; omega))
  have y0 : w3.cell? ⟨w2.heap.size, 0, none⟩ = some (.int .i64 x.kd) := blk_cell ky 0
  have y1 : w3.cell? ⟨w2.heap.size, 1, none⟩ = some (.int .i64 x.ph) := blk_cell ky 1
  have y2 : w3.cell? ⟨w2.heap.size, 2, none⟩ = some (.int .i64 x.rt) := blk_cell ky 2
  have y3 : w3.cell? ⟨w2.heap.size, 3, none⟩ = some (.int .i64 x.dr) := blk_cell ky 3
  have y4 : w3.cell? ⟨w2.heap.size, 4, none⟩ = some (.int .i64 x.wh) := blk_cell ky 4
  have y5 : w3.cell? ⟨w2.heap.size, 5, none⟩ = some (.int .i64 x.wk) := blk_cell ky 5
  have y6 : w3.cell? ⟨w2.heap.size, 6, none⟩ = some (.int .i64 x.ht) := blk_cell ky 6
  have y7 : w3.cell? ⟨w2.heap.size, 7, none⟩ = some (.int .i64 x.ch) := blk_cell ky 7
  have y8 : w3.cell? ⟨w2.heap.size, 8, none⟩ = some (.slice Ae x.es.length ce) := blk_cell ky 8
  have y9 : w3.cell? ⟨w2.heap.size, 9, none⟩ = some (.int .u64 seed) := blk_cell ky 9
  have y10 : w3.cell? ⟨w2.heap.size, 10, none⟩ = some (.slice Ah chs.length chc) := blk_cell ky 10
  have y11 : w3.cell? ⟨w2.heap.size, 11, none⟩ = some (.slice Ak cks.length ckc) := blk_cell ky 11
  have y12 : w3.cell? ⟨w2.heap.size, 12, none⟩ = some (.int .i64 (i : Int)) := blk_cell ky 12
  replace hv := hv.trans (hB.mono hv.size)
  clear hB hw3
  have HKY := Aside0.mk ky
  have HV := Aside0.mk hv
  have hw := Below.refl w3.heap.size w3
  clear hv ky y0 y1 y2 y3 y4 y5 y6 y7 y8 y9 y10 y11 y12
  go_cut [] from 19 to 54 (fun wx => Aside0 (Below w3.heap.size w3 wx))
  case first =>
    by_cases g6 : 1 < (N : Int)
    · have f4 : decide ((N : Int) > 1) = true := decide_eq_true g6
      have f4' : decide (1 < (N : Int)) = true := decide_eq_true g6
      have f5 : decide (st > Q) = false := decide_eq_false (by have := hd g6; omega)
      have f5' : decide (Q < st) = false := decide_eq_false (by have := hd g6; omega)
      have u4 := u3 g6
      have u5 : ¬ (N : Int) - 1 = 0 := by omega
      clear u3 hd
      go_wp2_with fail
      refine (c48 _).mono ?_
      rintro en w4 ⟨rfl, hB⟩
      replace hw := hw.trans (hB.mono hw.size)
      clear hB c48
      go_wp2_with fail
      refine (c57 _).mono ?_
      rintro en w5 ⟨rfl, hB⟩
      replace hw := hw.trans (hB.mono hw.size)
      clear hB c57
      go_wp2
      go_meet
      exact ⟨hw⟩
    · have f4 : decide ((N : Int) > 1) = false := decide_eq_false g6
      have f4' : decide (1 < (N : Int)) = false := decide_eq_false g6
      clear u3 hd
      go_wp2_with fail
      refine (c48 _).mono ?_
      rintro en w4 ⟨rfl, hB⟩
      replace hw := hw.trans (hB.mono hw.size)
      clear hB c48
      go_wp2_with fail
      refine (c57 _).mono ?_
      rintro en w5 ⟨rfl, hB⟩
      replace hw := hw.trans (hB.mono hw.size)
      clear hB c57
      go_wp2
      go_meet
      exact ⟨hw⟩
  case rest =>
  have HBX := hcut
  clear hcut hw c48 c57 u1 u2 u3 hd fg1 fg1' g1 g2 g3 g5
  rename World => wx
  have HC3 := Aside0.mk hCe
  clear hCe
  go_wp2
  go_loopw [55, 14, 15, 16] (fun v55 v14 v15 v16 wr => ∃ j : Nat, j ≤ N ∧ v55 = .int .i64 j ∧ v15 = .int .i64 (walkedF seed i x.wk 0 (lastS fr st j)) ∧ v16 = .int .i64 (lastS fr st j) ∧ Aside0 (Below w3.heap.size w3 wr) ∧ Aside0 (wr.ownsRow wx.heap.size 3 1 v14 j (icells (trackV seed chs cks i fr st j))) ∧ Aside0 (∀ m : Nat, m < j → runsF x.es (fr + (m : Int) * st) = true) ∧ Aside0 (wx.heap.size ≤ wr.heap.size)) (fun v _ _ _ _ => N - (intOf v).toNat)
  case atStart => exact ⟨0, Nat.zero_le _, rfl, by simp [lastS, walked_00], rfl, HBX, ⟨own_nil _ _ _ _⟩, ⟨fun m h => by omega⟩, ⟨Nat.le_refl _⟩⟩
  case round =>
    obtain ⟨j, hj, rfl, rfl, rfl, HB, HOW, HRU, HSZ⟩ := hrel
    have ky := blk_on HB.out HKY.out
    have y0 : wr.cell? ⟨w2.heap.size, 0, none⟩ = some (.int .i64 x.kd) := blk_cell ky 0
    have y1 : wr.cell? ⟨w2.heap.size, 1, none⟩ = some (.int .i64 x.ph) := blk_cell ky 1
    have y2 : wr.cell? ⟨w2.heap.size, 2, none⟩ = some (.int .i64 x.rt) := blk_cell ky 2
    have y3 : wr.cell? ⟨w2.heap.size, 3, none⟩ = some (.int .i64 x.dr) := blk_cell ky 3
    have y4 : wr.cell? ⟨w2.heap.size, 4, none⟩ = some (.int .i64 x.wh) := blk_cell ky 4
    have y5 : wr.cell? ⟨w2.heap.size, 5, none⟩ = some (.int .i64 x.wk) := blk_cell ky 5
    have y6 : wr.cell? ⟨w2.heap.size, 6, none⟩ = some (.int .i64 x.ht) := blk_cell ky 6
    have y7 : wr.cell? ⟨w2.heap.size, 7, none⟩ = some (.int .i64 x.ch) := blk_cell ky 7
    have y8 : wr.cell? ⟨w2.heap.size, 8, none⟩ = some (.slice Ae x.es.length ce) := blk_cell ky 8
    have y9 : wr.cell? ⟨w2.heap.size, 9, none⟩ = some (.int .u64 seed) := blk_cell ky 9
    have y10 : wr.cell? ⟨w2.heap.size, 10, none⟩ = some (.slice Ah chs.length chc) := blk_cell ky 10
    have y11 : wr.cell? ⟨w2.heap.size, 11, none⟩ = some (.slice Ak cks.length ckc) := blk_cell ky 11
    have y12 : wr.cell? ⟨w2.heap.size, 12, none⟩ = some (.int .i64 (i : Int)) := blk_cell ky 12
    clear ky
    have HV2 := Aside0.mk (HV.out.trans (HB.out.mono HV.out.size))
    have hlt9 : w2.heap.size < wr.heap.size := World.block_lt_of_cell? _ _ y0
    by_cases hlt : j < N
    rotate_left
    · have d1 : ¬ (j : Int) < (N : Int) := by omega
      obtain rfl : j = N := by omega
      have HALL : Aside0 (errTr chs cks i fr st (j : Int) = 0) := ⟨by rw [HTR.out, if_pos]; rw [List.all_eq_true]; intro m hm; rw [HCK.out]; exact HRU.out m (by simpa using hm)⟩
      have HL : Aside0 (trackL seed chs cks i fr st (j : Int) = trackV seed chs cks i fr st j) := ⟨by unfold trackL; rw [if_pos HALL.out, Int.toNat_natCast]⟩
      obtain ⟨A, c, rfl, hCI⟩ := own_I (l := trackV seed chs cks i fr st j) (by rw [trackV_len]; exact HOW.out)
      have HCI := Aside0.mk hCI
      have HLN := Aside0.mk (trackV_len seed chs cks i fr st j)
      clear hCI hlt HOW y0 y1 y2 y3 y4 y5 y6 y7 y8 y9 y10 y11 y12
      generalize (trackV seed chs cks i fr st j).length = len at *
      go_wp2
      go_ret2
      exact ⟨A, ⟨c, by rw [HALL.out, HL.out, trackV_len, HLN.out]; rfl⟩, by rw [HL.out]; have := HCI.out; rw [trackV_len]; rwa [HLN.out] at this, HV2.out⟩
    · have d1 : (j : Int) < (N : Int) := by omega
      have hat := HAT.out j hlt
      have hst1 := HST1.out
      have hfr := HFR.out
      have hLS : 0 ≤ lastS fr st j ∧ lastS fr st j ≤ fr + (j : Int) * st := by
        cases j with
        | zero => simp [lastS]; omega
        | succ m => simp only [lastS]; have := HAT.out m (by omega); push_cast; rw [Int.add_mul]; omega
      have HLS1 : Aside0 (lastS fr st (j + 1) = fr + (j : Int) * st) := ⟨rfl⟩
      have HNX := Aside0.mk (trackV_next seed chs cks i fr st j)
      have hshf := HSF.out (fr + (j : Int) * st)
      obtain ⟨p, hp⟩ : ∃ p, (j : Int) * st = p := ⟨_, rfl⟩
      have m1 : IntKind.i64.wrap ((j : Int) * st) = p := by rw [hp]; exact C.wr _ (by omega) (by omega)
      rw [hp] at hat hLS HLS1 HNX hshf
      obtain ⟨s, hs⟩ : ∃ s, fr + p = s := ⟨_, rfl⟩
      have m2 : IntKind.i64.wrap (fr + p) = s := by rw [hs]; exact C.wr _ (by omega) (by omega)
      rw [hs] at hat hLS HLS1 HNX hshf
      have hs0 : 0 ≤ s ∧ s ≤ 1000000 := by omega
      have HPS := Aside0.mk (show fr + (j : Int) * st = s by rw [hp, hs])
      have hC3 := Kd.C_below HC3.out HV2.out
      have c54 := fun (W : World) (hB : Below wr.heap.size wr W) => runs_calls x Ae ce seed (.slice Ah chs.length chc) (.slice Ak cks.length ckc) (i : Int) s W (Kd.C_below hC3 hB) HEV.out.what
      obtain ⟨r, hr⟩ : ∃ r, runsF x.es s = r := ⟨_, rfl⟩
      rw [hr] at c54
      have HR := Aside0.mk hr
      clear hr
      cases r
      · have HALL : Aside0 (errTr chs cks i fr st (N : Int) = 22) := ⟨by
          rw [HTR.out, if_neg]
          intro h
          rw [List.all_eq_true] at h
          have := h j (by simpa using hlt)
          rw [HCK.out, HPS.out, HR.out] at this
          cases this⟩
        have HL : Aside0 (trackL seed chs cks i fr st (N : Int) = []) := ⟨by unfold trackL; rw [HALL.out, if_neg (by decide)]⟩
        clear hp hs hat hLS hshf hst1 hfr hs0 hC3
        go_wp2_with fail
        refine (c54 _ (Below.refl _ _)).mono ?_
        rintro en w6 ⟨rfl, hB⟩
        have HV6 := Aside0.mk (HV2.out.trans (hB.mono HV2.out.size))
        clear hB c54 y0 y1 y2 y3 y4 y5 y6 y7 y8 y9 y10 y11 y12
        go_wp2
        go_ret2
        exact ⟨none, 0, by rw [HALL.out, HL.out]; rfl, by rw [HL.out]; exact C_nil _ _, HV6.out⟩
      · have hwk := HO.out.wk.1
        have hwk2 := (rt_b HO.out).2.2.2
        have hwh := HO.out.wh.1
        have hwh2 := (rt_b HO.out).2.2.1
        have hst := still_b HO.out HEV.out HCQ.out hs0
        have hwb := walked_b (seed := seed) (k := (i : Int)) (fr := 0) HO.out (Int.le_refl 0) hs0
        have hdr := drawF_range seed 2 (i : Int) s x.wh hwh
        have hadd := walked_add (seed := seed) (k := (i : Int)) (wk := x.wk) hLS.1 hLS.2
        have c52 := fun (W : World) => walked_calls x.kd x.ph x.rt x.dr x.wh x.wk x.ht x.ch (.slice Ae x.es.length ce) seed (.slice Ah chs.length chc) (.slice Ak cks.length ckc) (i : Int) (lastS fr st j) s W ⟨hLS.1, by omega⟩ hs0 hik ⟨hwk, by omega⟩
        have c53 := fun (W : World) => white_calls x Ae ce seed (.slice Ah chs.length chc) (.slice Ak cks.length ckc) (i : Int) s W hik (by omega) ⟨hwh, by omega⟩
        have c51 := fun (W : World) (hB : Below wr.heap.size wr W) => still_calls x Ae ce seed Ah chc (.slice Ak cks.length ckc) (i : Int) s chs q hq W HXQ.out (Kd.C_below hC3 hB) (Kd.C_below HH.out (HV2.out.trans (hB.mono HV2.out.size))) chs.length HO.out HEV.out HCQ.out hs0
        obtain ⟨SV, hSV⟩ : ∃ v, stillF x chs[q] s = v := ⟨_, rfl⟩
        obtain ⟨DV, hDV⟩ : ∃ v, drawF seed 2 (i : Int) s x.wh = v := ⟨_, rfl⟩
        obtain ⟨WA, hWA⟩ : ∃ v, walkedF seed i x.wk 0 (lastS fr st j) = v := ⟨_, rfl⟩
        obtain ⟨WB, hWB⟩ : ∃ v, walkedF seed i x.wk (lastS fr st j) s = v := ⟨_, rfl⟩
        obtain ⟨WS, hWS⟩ : ∃ v, walkedF seed i x.wk 0 s = v := ⟨_, rfl⟩
        rw [hSV] at hst c51 hshf
        rw [hDV] at hdr c53 hshf
        rw [hWS] at hwb hadd hshf
        rw [hWA, hWB] at hadd
        rw [hWB] at c52
        rw [hWA]
        rw [hshf] at HNX
        have HWS := Aside0.mk hWS
        have e3 : IntKind.i64.wrap (WA + WB) = WS := by rw [hadd]; exact C.wr _ (by omega) (by omega)
        have e4 : IntKind.i64.wrap (SV + WS) = SV + WS := C.wr _ (by omega) (by omega)
        have e5 : IntKind.i64.wrap (SV + WS + DV) = SV + WS + DV := C.wr _ (by omega) (by omega)
        have HSZ3 := Aside0.mk (show j ≤ 20000 by have := HN2.out; omega)
        clear hp hs hat hLS hshf hst1 hfr hs0 hC3 hSV hDV hWA hWB hWS hadd hst hwb hdr hwk hwk2 hwh hwh2
        go_wp2_with fail
        refine (c54 _ (Below.refl _ _)).mono ?_
        rintro en w6 ⟨rfl, hB⟩
        have hB6 := hB
        replace y0 := cell_on hB y0
        replace y1 := cell_on hB y1
        replace y2 := cell_on hB y2
        replace y3 := cell_on hB y3
        replace y4 := cell_on hB y4
        replace y5 := cell_on hB y5
        replace y6 := cell_on hB y6
        replace y7 := cell_on hB y7
        replace y8 := cell_on hB y8
        replace y9 := cell_on hB y9
        replace y10 := cell_on hB y10
        replace y11 := cell_on hB y11
        replace y12 := cell_on hB y12
        clear hB c54
        go_wp2_with fail
        refine (c52 _).mono ?_
        rintro en w7 ⟨rfl, hB⟩
        have hB7 := hB6.trans (hB.mono hB6.size)
        replace y0 := cell_on hB y0
        replace y1 := cell_on hB y1
        replace y2 := cell_on hB y2
        replace y3 := cell_on hB y3
        replace y4 := cell_on hB y4
        replace y5 := cell_on hB y5
        replace y6 := cell_on hB y6
        replace y7 := cell_on hB y7
        replace y8 := cell_on hB y8
        replace y9 := cell_on hB y9
        replace y10 := cell_on hB y10
        replace y11 := cell_on hB y11
        replace y12 := cell_on hB y12
        clear hB c52 hB6
        have HB7 := Aside0.mk (HB.out.trans (hB7.mono HB.out.size))
        have HOW7 := Aside0.mk (own_move (w1 := w7) HOW.out (fun k hk => hB7.block k (own_lt HOW.out k hk)))
        have HSZ7 := Aside0.mk (show wx.heap.size ≤ w7.heap.size by have := HSZ.out; have := hB7.size; omega)
        have b51 := fun (W : World) (hB : Below w7.heap.size w7 W) => c51 W (hB7.trans (hB.mono hB7.size))
        clear c51
        go_upto_region 18 with fail
        have hSS : ∀ w', Below w3.heap.size w3 w' → ((w'.cell? ⟨w2.heap.size, 0, none⟩ = some (.int .i64 x.kd) ∧ w'.cell? ⟨w2.heap.size, 1, none⟩ = some (.int .i64 x.ph) ∧ w'.cell? ⟨w2.heap.size, 2, none⟩ = some (.int .i64 x.rt) ∧ w'.cell? ⟨w2.heap.size, 3, none⟩ = some (.int .i64 x.dr) ∧ w'.cell? ⟨w2.heap.size, 4, none⟩ = some (.int .i64 x.wh) ∧ w'.cell? ⟨w2.heap.size, 5, none⟩ = some (.int .i64 x.wk) ∧ w'.cell? ⟨w2.heap.size, 6, none⟩ = some (.int .i64 x.ht) ∧ w'.cell? ⟨w2.heap.size, 7, none⟩ = some (.int .i64 x.ch) ∧ w'.cell? ⟨w2.heap.size, 8, none⟩ = some (.slice Ae x.es.length ce) ∧ w'.cell? ⟨w2.heap.size, 9, none⟩ = some (.int .u64 seed) ∧ w'.cell? ⟨w2.heap.size, 10, none⟩ = some (.slice Ah chs.length chc) ∧ w'.cell? ⟨w2.heap.size, 11, none⟩ = some (.slice Ak cks.length ckc) ∧ w'.cell? ⟨w2.heap.size, 12, none⟩ = some (.int .i64 (i : Int))) ∧ Below w3.heap.size w3 w') := fun w' hB => by
          have ky := blk_on hB HKY.out
          exact ⟨⟨blk_cell ky 0, blk_cell ky 1, blk_cell ky 2, blk_cell ky 3, blk_cell ky 4, blk_cell ky 5, blk_cell ky 6, blk_cell ky 7, blk_cell ky 8, blk_cell ky 9, blk_cell ky 10, blk_cell ky 11, blk_cell ky 12⟩, hB⟩
        have hv9 := HB7.out
        have hwr : Below w7.heap.size w7 w7.drew := (Below.refl _ _).drew
        have hv9d : Below w3.heap.size w3 w7.drew := hv9.drew
        go_region_held3 (fun w' => (w'.cell? ⟨w2.heap.size, 0, none⟩ = some (.int .i64 x.kd) ∧ w'.cell? ⟨w2.heap.size, 1, none⟩ = some (.int .i64 x.ph) ∧ w'.cell? ⟨w2.heap.size, 2, none⟩ = some (.int .i64 x.rt) ∧ w'.cell? ⟨w2.heap.size, 3, none⟩ = some (.int .i64 x.dr) ∧ w'.cell? ⟨w2.heap.size, 4, none⟩ = some (.int .i64 x.wh) ∧ w'.cell? ⟨w2.heap.size, 5, none⟩ = some (.int .i64 x.wk) ∧ w'.cell? ⟨w2.heap.size, 6, none⟩ = some (.int .i64 x.ht) ∧ w'.cell? ⟨w2.heap.size, 7, none⟩ = some (.int .i64 x.ch) ∧ w'.cell? ⟨w2.heap.size, 8, none⟩ = some (.slice Ae x.es.length ce) ∧ w'.cell? ⟨w2.heap.size, 9, none⟩ = some (.int .u64 seed) ∧ w'.cell? ⟨w2.heap.size, 10, none⟩ = some (.slice Ah chs.length chc) ∧ w'.cell? ⟨w2.heap.size, 11, none⟩ = some (.slice Ak cks.length ckc) ∧ w'.cell? ⟨w2.heap.size, 12, none⟩ = some (.int .i64 (i : Int))) ∧ Below w3.heap.size w3 w') (first | with_reducible exact hSS _ hv9d | assumption | (have hh := ‹(_ ∧ _ ∧ _ ∧ _ ∧ _ ∧ _ ∧ _ ∧ _ ∧ _ ∧ _ ∧ _ ∧ _ ∧ _) ∧ Below w3.heap.size w3 _›; with_reducible exact hSS _ (hh.2.trans (hB.mono hh.2.size))) | (have hh := ‹(_ ∧ _ ∧ _ ∧ _ ∧ _ ∧ _ ∧ _ ∧ _ ∧ _ ∧ _ ∧ _ ∧ _ ∧ _) ∧ Below w3.heap.size w3 _›; exact hSS _ (hh.2.alloc hh.2.size _)) | exact hSS _ hvF)
          (first | (go_at_call 51; with_reducible refine (b51 _ hwr).mono ?_; rintro e w' ⟨rfl, hB⟩; replace hwr := hwr.trans (hB.mono hwr.size)) | (go_at_call 53; with_reducible refine (c53 _).mono ?_; rintro e w' ⟨rfl, hB⟩; replace hwr := hwr.trans (hB.mono hwr.size)) | (refine step_append_own rfl (.tmp 74) (.tmp 84) 76 rfl wx.heap.size 3 i3 (.int .i64 0) 1 8 Tryd.underlying76 hi3 hi30 hi31 hi32 rfl (by decide) u14 j (icells (trackV seed chs cks i fr st j)) (by simp [Act.eval, Act.put]) (own_move HOW7.out (fun k hk => (Below.heap_alloc _ _ k (by have h1 := own_lt HOW7.out k hk; have h2 := hwr.size; omega)).trans (hwr.block k (own_lt HOW7.out k hk)))) _ 1 1 [.int .i64 (SV + WS + DV)] (by first | (simp [Act.eval, Act.put]; done) | (simp [Act.eval, Act.put]; rfl)) rfl (World.news_of_block (cs := #[.int .i64 (SV + WS + DV)]) (t := 3) (fr := (0, 0)) (al_new _ _ _ rfl)) (by simp [Value.oneCell']) (by have := HSZ3.out; unfold maxLen; omega) (by have := HSZ3.out; omega) (by have h1 := HSZ7.out; have h2 := hwr.size; simp; omega) ?_; intro v' wz hown1 hgrow1; have hvF : Below w3.heap.size w3 wz := ((hv9.trans (hwr.mono hv9.size)).alloc (hv9.trans (hwr.mono hv9.size)).size _).grown hgrow1 (by have h1 := (hv9.trans (hwr.mono hv9.size)).size; simp; omega) (fun k hk => by have h1 := own_base HOW7.out k hk; have h2 := HBX.out.size; omega)))
        have HOWN : Aside0 (wz.ownsRow wx.heap.size 3 1 v' (j + 1) (icells (trackV seed chs cks i fr st (j + 1)))) := ⟨by rw [HNX.out, icells_snoc]; exact hown1⟩
        have HSZ9 : Aside0 (wx.heap.size ≤ wz.heap.size) := ⟨by have h1 := hgrow1.size; have h2 := HSZ7.out; have h3 := hwr.size; simp at h1; omega⟩
        have HVF := Aside0.mk hvF
        have HRU2 : Aside0 (∀ m : Nat, m < j + 1 → runsF x.es (fr + (m : Int) * st) = true) := ⟨fun m hm => by by_cases e : m = j; (subst e; rw [HPS.out]; exact HR.out); exact HRU.out m (by omega)⟩
        clear hSS hv9 hv9d hwr hown1 hgrow1 hvF b51 c53 e3 e4 e5 y0 y1 y2 y3 y4 y5 y6 y7 y8 y9 y10 y11 y12 hB7
        go_wp2
        go_roundw
        case rel => exact ⟨j + 1, hlt, by go_num, by rw [HLS1.out, HWS.out], by rw [HLS1.out], HVF, HOWN, HRU2, HSZ9⟩
        case measure => simp [intOf]; omega
end Go.Proofs.YtlfnnalepdjagaaDoor.C
end

section
/- The reference's before, and what Back answers. -/
namespace Go.Proofs.YtlfnnalepdjagaaDoor.C
open Go.RowKit Go.Shelf Go.Maps Go.Proofs.YtlfnnalepdjagaaDoorW.PrintWords Go.Proofs.YtlfnnalepdjagaaDoorW.PrintLast Go.Proofs.YtlfnnalepdjagaaDoorW.PrintMore
set_option linter.unusedVariables false
set_option linter.unusedSimpArgs false
/-- The last stop up to a second. -/
def stopN (es : List T3) (s : Int) : Nat → Int
  | 0 => 0
  | i + 1 => if (es.getD i (0, 0, 0)).2.1 ≤ s ∧ (es.getD i (0, 0, 0)).1 = 3 then (es.getD i (0, 0, 0)).2.1 else stopN es s i
theorem stop_spec {es : List T3} {s : Int} (hw : WhatOk es) : ∀ i, i ≤ es.length → runsN es s i = false → stopN es s i ≤ s ∧ ∀ t, stopN es s i ≤ t → t ≤ s → runsN es t i = false
  | 0, _, h => by cases h
  | i + 1, hi, h => by
    have hwi := hw _ (List.getElem_mem (show i < es.length by omega))
    unfold runsN at h
    unfold stopN
    rw [getD_at (show i < es.length by omega)] at h ⊢
    by_cases hc : es[i].2.1 ≤ s ∧ 3 ≤ es[i].1
    · rw [if_pos hc] at h
      have h4 : es[i].1 ≠ 4 := by simpa using h
      rw [if_pos ⟨hc.1, by omega⟩]
      refine ⟨hc.1, fun t h1 h2 => ?_⟩
      unfold runsN
      rw [getD_at (show i < es.length by omega), if_pos ⟨h1, hc.2⟩]
      exact h
    · rw [if_neg hc] at h
      rw [if_neg (fun hh => hc ⟨hh.1, by omega⟩)]
      obtain ⟨h1, h2⟩ := stop_spec hw i (by omega) h
      refine ⟨h1, fun t h3 h4 => ?_⟩
      unfold runsN
      rw [getD_at (show i < es.length by omega), if_neg (fun hh => hc ⟨by omega, hh.2⟩)]
      exact h2 t h3 h4
theorem stop_b {es : List T3} {s : Int} (hw : EvOk es) : ∀ i, i ≤ es.length → 0 ≤ stopN es s i ∧ stopN es s i ≤ 1000000
  | 0, _ => by simp [stopN]
  | i + 1, hi => by
    have hwi := hw.when _ (List.getElem_mem (show i < es.length by omega))
    unfold stopN
    rw [getD_at (show i < es.length by omega)]
    split
    · omega
    · exact stop_b hw i (by omega)
theorem after_later {mS mF s V : Int} (hS : -9223372036854775808 ≤ mS ∧ mS ≤ 9223372036854775807) (hs : 0 ≤ s ∧ s ≤ 1000000) (hV : -900000000000000 ≤ V ∧ V ≤ 900000000000000) :
    (decide (mS < (momF s V).1) || (decide ((momF s V).1 = mS) && decide (mF < (momF s V).2))) = laterB mS mF s V := by
  unfold laterB
  split
  · rename_i h
    unfold momF
    simp only
    have e1 : -1 ≤ V / 1000000000000000 ∧ V / 1000000000000000 ≤ 0 := by omega
    generalize V / 1000000000000000 = q at *
    rw [IntKind.wrap_i64, IntKind.wrap_i64] at h
    rw [Bool.eq_iff_iff]
    simp only [Bool.or_eq_true, Bool.and_eq_true, decide_eq_true_eq]
    omega
  · rfl
theorem later_mono {seed : Int} {chs : List T3} {cks : List Ck} {k mS mF s t : Int} (hk : errK chs cks k = 0) (hS : -9223372036854775808 ≤ mS ∧ mS ≤ 9223372036854775807) (hF : 0 ≤ mF ∧ mF < 1000000000000000) (hs : 0 ≤ s) (hst : s ≤ t) (ht : t ≤ 1000000) (h : laterAt seed chs cks k mS mF s = true) : laterAt seed chs cks k mS mF t = true := by
  rcases Int.lt_or_le s t with hlt | hle
  rotate_left
  · obtain rfl : s = t := by omega
    exact h
  by_cases hm : -10 ≤ mS ∧ mS ≤ 2000000
  · rw [later_iff hk hm hF ⟨hs, by omega⟩] at h
    rw [later_iff hk hm hF ⟨by omega, ht⟩]
    have h1 := of_decide_eq_true h
    have hz := errK_zero hk
    obtain ⟨i, rfl⟩ : ∃ i : Nat, k = i := ⟨k.toNat, by omega⟩
    have b1 := shown_tight (seed := seed) (s := s) hz.1 (show i < cks.length by omega) ⟨hs, by omega⟩
    have b2 := shown_tight (seed := seed) (s := t) hz.1 (show i < cks.length by omega) ⟨by omega, ht⟩
    exact decide_eq_true (by omega)
  · unfold laterAt laterB at h ⊢
    rw [IntKind.wrap_i64, IntKind.wrap_i64] at h ⊢
    rw [if_pos (by omega)] at h ⊢
    have h1 := of_decide_eq_true h
    exact decide_eq_true (by omega)
/-- A second at which a clock runs and reads no more than a moment. -/
def Good (seed : Int) (chs : List T3) (cks : List Ck) (k mS mF t : Int) : Prop := runsF (ckAt cks k).es t = true ∧ laterAt seed chs cks k mS mF t = false
/-- The second that belongs to a moment, or none. -/
def IsBack (seed : Int) (chs : List T3) (cks : List Ck) (k mS mF : Int) (v e : Int) : Prop :=
  (e = 0 ∧ 0 ≤ v ∧ v ≤ 1000000 ∧ Good seed chs cks k mS mF v ∧ ∀ t, v < t → t ≤ 1000000 → ¬ Good seed chs cks k mS mF t) ∨ (e = 4 ∧ v = 0 ∧ ∀ t, 0 ≤ t → t ≤ 1000000 → ¬ Good seed chs cks k mS mF t)
theorem IsBack.eq {seed : Int} {chs : List T3} {cks : List Ck} {k mS mF v e v' e' : Int} (h : IsBack seed chs cks k mS mF v e) (h' : IsBack seed chs cks k mS mF v' e') : v = v' ∧ e = e' := by
  rcases h with ⟨rfl, a1, a2, a3, a4⟩ | ⟨rfl, rfl, a4⟩ <;> rcases h' with ⟨rfl, b1, b2, b3, b4⟩ | ⟨rfl, rfl, b4⟩
  · rcases Int.lt_trichotomy v v' with h | h | h
    · exact absurd b3 (a4 v' h b2)
    · exact ⟨h, rfl⟩
    · exact absurd a3 (b4 v h a2)
  · exact absurd a3 (b4 v a1 a2)
  · exact absurd b3 (a4 v' b1 b2)
  · exact ⟨rfl, rfl⟩
theorem lastRun_spec (es : List T3) : ∀ r, (∃ n : Nat, n < r ∧ lastRunF es r = ((n : Int), 0) ∧ runsF es n = true ∧ ∀ t : Nat, n < t → t < r → runsF es t = false) ∨ (lastRunF es r = (0, 4) ∧ ∀ t : Nat, t < r → runsF es t = false)
  | 0 => .inr ⟨rfl, fun t h => by omega⟩
  | r + 1 => by
    unfold lastRunF
    by_cases h : runsF es (r : Int) = true
    · rw [if_pos h]
      exact .inl ⟨r, by omega, rfl, h, fun t h1 h2 => by omega⟩
    · rw [if_neg h]
      simp only [Bool.not_eq_true] at h
      rcases lastRun_spec es r with ⟨n, hn, e, h1, h2⟩ | ⟨e, h2⟩
      · exact .inl ⟨n, by omega, e, h1, fun t a b => by rcases Nat.lt_or_ge t r with c | c; (exact h2 t a c); (have e9 : t = r := (by omega)); rw [e9]; exact h⟩
      · exact .inr ⟨e, fun t b => by rcases Nat.lt_or_ge t r with c | c; (exact h2 t c); (have e9 : t = r := (by omega)); rw [e9]; exact h⟩
theorem isBack_own {seed : Int} {chs : List T3} {cks : List Ck} {k mS mF : Int} (hk : errK chs cks k = 0) (hS : -9223372036854775808 ≤ mS ∧ mS ≤ 9223372036854775807) (hF : 0 ≤ mF ∧ mF < 1000000000000000) {r : Nat} (hr : r ≤ 1000001) (h1 : 0 < r → laterAt seed chs cks k mS mF ((r : Int) - 1) = false) (h2 : r < 1000001 → laterAt seed chs cks k mS mF r = true) :
    IsBack seed chs cks k mS mF (lastRunF (ckAt cks k).es r).1 (lastRunF (ckAt cks k).es r).2 := by
  have lo : ∀ t : Int, 0 ≤ t → t < r → laterAt seed chs cks k mS mF t = false := fun t h0 hlt => by
    cases h : laterAt seed chs cks k mS mF t
    · rfl
    · have := later_mono (t := (r : Int) - 1) hk hS hF h0 (by omega) (by omega) h
      rw [h1 (by omega)] at this; cases this
  have hi : ∀ t : Int, (r : Int) ≤ t → t ≤ 1000000 → laterAt seed chs cks k mS mF t = true := fun t h0 hle => later_mono hk hS hF (by omega) h0 hle (h2 (by omega))
  rcases lastRun_spec (ckAt cks k).es r with ⟨n, hn, e, g1, g2⟩ | ⟨e, g2⟩
  · rw [e]
    refine .inl ⟨rfl, by simp, by simp only; omega, ⟨g1, lo _ (by simp) (by simp only; omega)⟩, fun t a b c => ?_⟩
    rcases Int.lt_or_le t r with d | d
    · obtain ⟨t', rfl⟩ : ∃ t' : Nat, t = t' := ⟨t.toNat, by omega⟩
      simp only at a
      have c1 := c.1
      rw [g2 t' (by omega) (by omega)] at c1
      cases c1
    · rw [Good, hi t d b] at c
      exact absurd c.2 (by simp)
  · rw [e]
    refine .inr ⟨rfl, rfl, fun t a b c => ?_⟩
    rcases Int.lt_or_le t r with d | d
    · obtain ⟨t', rfl⟩ : ∃ t' : Nat, t = t' := ⟨t.toNat, by omega⟩
      have c1 := c.1
      rw [g2 t' (by omega)] at c1
      cases c1
    · rw [Good, hi t d b] at c
      exact absurd c.2 (by simp)
set_option maxHeartbeats 4000000 in
set_option maxRecDepth 100000 in
theorem rbefore_calls (x : Ck) (Ae : Option Addr) (ce : Nat) (s : Int) (w : World) (hC : Kd.C k3 w Ae x.es.length x.es) (hE : EvOk x.es) (hs : 0 ≤ s ∧ s ≤ 1000000) (hst : stopN x.es s x.es.length ≤ s) :
    Calls Tryd.prog 75 #[ckV x Ae ce, .int .i64 s] w fun e w' => e = .returned (.int .i64 (stopN x.es s x.es.length - 1)) ∧ Below w.heap.size w w' := by
  have hv := Below.refl w.heap.size w
  obtain ⟨kd, ph, rt, dr, wh, wk, ht, ch, es⟩ := x
  simp only at hC hE hst ⊢
  have HSB := Aside0.mk (stop_b (s := s) hE)
  have hln : es.length ≤ 9223372036854775807 := hC.2.1
  have HC := Aside0.mk hC
  clear hC hE
  unfold ckV
  simp only
  obtain ⟨n, hn⟩ : ∃ n, es.length = n := ⟨_, rfl⟩
  rw [hn] at hln hst ⊢
  have HN := Aside0.mk hn
  clear hn
  have HST := Aside0.mk hst
  clear hst
  go_enter Tryd.func75, Tryd.ntmps75
  go_upto_region 1 with fail
  obtain ⟨w1, hw1⟩ : ∃ w1, w.alloc (.cells #[.int .i64 kd, .int .i64 ph, .int .i64 rt, .int .i64 dr, .int .i64 wh, .int .i64 wk, .int .i64 ht, .int .i64 ch, .slice Ae n ce] 88) = w1 := ⟨_, rfl⟩
  try rw [hw1]
  have hB : Below w.heap.size w w1 := by rw [← hw1]; exact (Below.refl _ w).alloc (by first | exact Nat.le_refl _ | (simp; done) | (simp; omega)) _
  have kx : w1.heap[w.heap.size]? = some (.cells #[.int .i64 kd, .int .i64 ph, .int .i64 rt, .int .i64 dr, .int .i64 wh, .int .i64 wk, .int .i64 ht, .int .i64 ch, .slice Ae n ce] 88 (0, 0)) := by rw [← hw1]; exact al_new _ _ _ (by first | rfl | (simp; done) | (simp; omega))
  have x0 : w1.cell? ⟨w.heap.size, 0, none⟩ = some (.int .i64 kd) := blk_cell kx 0
  have x1 : w1.cell? ⟨w.heap.size, 1, none⟩ = some (.int .i64 ph) := blk_cell kx 1
  have x2 : w1.cell? ⟨w.heap.size, 2, none⟩ = some (.int .i64 rt) := blk_cell kx 2
  have x3 : w1.cell? ⟨w.heap.size, 3, none⟩ = some (.int .i64 dr) := blk_cell kx 3
  have x4 : w1.cell? ⟨w.heap.size, 4, none⟩ = some (.int .i64 wh) := blk_cell kx 4
  have x5 : w1.cell? ⟨w.heap.size, 5, none⟩ = some (.int .i64 wk) := blk_cell kx 5
  have x6 : w1.cell? ⟨w.heap.size, 6, none⟩ = some (.int .i64 ht) := blk_cell kx 6
  have x7 : w1.cell? ⟨w.heap.size, 7, none⟩ = some (.int .i64 ch) := blk_cell kx 7
  have x8 : w1.cell? ⟨w.heap.size, 8, none⟩ = some (.slice Ae n ce) := blk_cell kx 8
  clear kx
  replace hv := hv.trans (hB.mono hv.size)
  clear hB hw1
  clear x0 x1 x2 x3 x4 x5 x6 x7
  have HV := Aside0.mk hv
  clear hv
  go_wp2
  go_loopw [6, 5] (fun v6 v5 wr => ∃ i : Nat, i ≤ n ∧ v6 = .int .i64 i ∧ v5 = .int .i64 (stopN es s i) ∧ wr = w1) (fun v _ _ => n - (intOf v).toNat)
  case atStart => exact ⟨0, Nat.zero_le _, rfl, rfl, rfl⟩
  case round =>
    obtain ⟨i, hi, rfl, rfl, rfl⟩ := hrel
    by_cases hlt : i < n
    · have dlt : (i : Int) < (n : Int) := by omega
      have hlt' : i < es.length := by have := HN.out; omega
      obtain ⟨ad, rfl, e0, e1, e2⟩ := C_3 (Kd.C_below HC.out HV.out) i hlt' hlt'
      have HX : Aside0 (stopN es s (i + 1) = if es[i].2.1 ≤ s ∧ es[i].1 = 3 then es[i].2.1 else stopN es s i) := ⟨by rw [stopN, getD_at hlt']⟩
      obtain ⟨⟨a, b, c⟩, hx⟩ : ∃ z, es[i] = z := ⟨_, rfl⟩
      rw [hx] at e0 e1 e2 HX
      simp only at e0 e1 e2 HX
      obtain ⟨v, hv⟩ : ∃ z, stopN es s i = z := ⟨_, rfl⟩
      rw [hv] at HX ⊢
      clear hx hv hlt'
      by_cases g1 : b ≤ s
      · have f1 : decide (b ≤ s) = true := decide_eq_true g1
        by_cases g2 : a = 3
        · have f2 : (a == 3) = true := beq_iff_eq.2 g2
          have HY : Aside0 (stopN es s (i + 1) = b) := ⟨by rw [HX.out, if_pos ⟨g1, g2⟩]⟩
          clear g1 HX
          go_wp2
          go_roundw
          case rel => exact ⟨i + 1, by omega, by go_num, by rw [HY.out], by first | rfl | trivial⟩
          case measure => simp [intOf]; omega
        · have f2 : (a == 3) = false := beq_eq_false_iff_ne.2 g2
          have HY : Aside0 (stopN es s (i + 1) = v) := ⟨by rw [HX.out, if_neg (fun h => g2 h.2)]⟩
          clear g1 HX
          go_wp2
          go_roundw
          case rel => exact ⟨i + 1, by omega, by go_num, by rw [HY.out], by first | rfl | trivial⟩
          case measure => simp [intOf]; omega
      · have f1 : decide (b ≤ s) = false := decide_eq_false g1
        have HY : Aside0 (stopN es s (i + 1) = v) := ⟨by rw [HX.out, if_neg (fun h => g1 h.1)]⟩
        clear g1 HX
        go_wp2
        go_roundw
        case rel => exact ⟨i + 1, by omega, by go_num, by rw [HY.out], by first | rfl | trivial⟩
        case measure => simp [intOf]; omega
    · have d1 : ¬ (i : Int) < (n : Int) := by omega
      obtain rfl : i = n := by omega
      have hst := HST.out
      have hsb := HSB.out i (by have := HN.out; omega)
      obtain ⟨v, hv⟩ : ∃ z, stopN es s i = z := ⟨_, rfl⟩
      rw [hv] at hst hsb ⊢
      have HVV := Aside0.mk hv
      clear hv
      have m1 : min v s = v := by omega
      have m2 : IntKind.i64.wrap (v - 1) = v - 1 := C.wr _ (by omega) (by omega)
      go_wp2
      go_ret
      exact ⟨by rw [HVV.out]; rfl, HV.out⟩
end Go.Proofs.YtlfnnalepdjagaaDoor.C
end

section
/- The contract of the reference's Back. -/
namespace Go.Proofs.YtlfnnalepdjagaaDoor.C
open Go.RowKit Go.Shelf Go.Maps Go.Proofs.YtlfnnalepdjagaaDoorW.PrintWords Go.Proofs.YtlfnnalepdjagaaDoorW.PrintLast Go.Proofs.YtlfnnalepdjagaaDoorW.PrintMore
set_option linter.unusedVariables false
set_option linter.unusedSimpArgs false
theorem errS_k0 (chs : List T3) (cks : List Ck) (k : Int) : errS chs cks k 0 = errK chs cks k := by
  unfold errS timedF
  by_cases h : errK chs cks k = 0
  · rw [if_pos h, if_pos (by omega), h]
  · rw [if_neg h]
theorem later_far {seed : Int} {chs : List T3} {cks : List Ck} {k mS mF t : Int} (hS : -9223372036854775808 ≤ mS ∧ mS < 1000000) (ht : mS + 1 < t) (ht2 : t ≤ 1000000) : laterAt seed chs cks k mS mF t = true := by
  unfold laterAt laterB
  rw [IntKind.wrap_i64, IntKind.wrap_i64, if_pos (by omega)]
  exact decide_eq_true (by omega)
set_option maxHeartbeats 4000000 in
set_option maxRecDepth 100000 in
theorem rBack_err (seed : Int) (Ah : Option Addr) (chc : Nat) (Ak : Option Addr) (ckc : Nat) (chs : List T3) (cks : List Ck) (k mS mF : Int) (w : World) (hW : WAt 90 w Ah Ak chs cks) (hE : errK chs cks k ≠ 0) :
    Calls Tryd.prog 39 #[woV seed Ah chs.length chc Ak cks.length ckc, .int .i64 k, .agg #[.int .i64 mS, .int .i64 mF]] w fun e w' => e = .returned (.tuple #[.int .i64 0, .int .i64 (errK chs cks k)]) ∧ Below w.heap.size w w' := by
  have hv := Below.refl w.heap.size w
  have c59 := fun W (hB : Below w.heap.size w W) => clocked_calls seed Ah chc Ak ckc chs cks k 0 W (hW.below hB)
  rw [errS_k0] at c59
  clear hW
  generalize errK chs cks k = E at *
  have d1 : (E == 0) = false := beq_eq_false_iff_ne.2 hE
  go_enter Tryd.func39, Tryd.ntmps39
  go_wp2_with fail
  obtain ⟨w1, hw1⟩ : ∃ w1, (w.alloc (.cells #[.int .u64 seed, .slice Ah chs.length chc, .slice Ak cks.length ckc] 26)).alloc (.cells #[.int .i64 mS, .int .i64 mF] 69) = w1 := ⟨_, rfl⟩
  try rw [hw1]
  have hB : Below w.heap.size w w1 := by rw [← hw1]; exact ((Below.refl _ w).alloc (by first | exact Nat.le_refl _ | (simp; done) | (simp; omega)) _).alloc (by first | exact Nat.le_refl _ | (simp; done) | (simp; omega)) _
  have kx : w1.heap[w.heap.size]? = some (.cells #[.int .u64 seed, .slice Ah chs.length chc, .slice Ak cks.length ckc] 26 (0, 0)) := by rw [← hw1]; exact al_old (al_new _ _ _ (by first | rfl | (simp; done) | (simp; omega)))
  have x0 : w1.cell? ⟨w.heap.size, 0, none⟩ = some (.int .u64 seed) := blk_cell kx 0
  have x1 : w1.cell? ⟨w.heap.size, 1, none⟩ = some (.slice Ah chs.length chc) := blk_cell kx 1
  have x2 : w1.cell? ⟨w.heap.size, 2, none⟩ = some (.slice Ak cks.length ckc) := blk_cell kx 2
  have km : w1.heap[w.heap.size + 1]? = some (.cells #[.int .i64 mS, .int .i64 mF] 69 (0, 0)) := by rw [← hw1]; exact al_new _ _ _ (by first | rfl | (simp; done) | (simp; omega))
  have m0 : w1.cell? ⟨w.heap.size + 1, 0, none⟩ = some (.int .i64 mS) := blk_cell km 0
  have m1 : w1.cell? ⟨w.heap.size + 1, 1, none⟩ = some (.int .i64 mF) := blk_cell km 1
  replace hv := hv.trans (hB.mono hv.size)
  clear hB hw1
  refine (c59 _ hv).mono ?_
  rintro en w2 ⟨rfl, hB⟩
  replace kx := blk_on hB kx
  replace km := blk_on hB km
  replace x0 := cell_on hB x0
  replace x1 := cell_on hB x1
  replace x2 := cell_on hB x2
  replace m0 := cell_on hB m0
  replace m1 := cell_on hB m1
  replace hv := hv.trans (hB.mono hv.size)
  clear hB c59
  go_wp2
  go_ret2
  exact ⟨rfl, hv⟩
set_option maxHeartbeats 4000000 in
set_option maxRecDepth 100000 in
theorem rBack_bad (seed : Int) (Ah : Option Addr) (chc : Nat) (Ak : Option Addr) (ckc : Nat) (chs : List T3) (cks : List Ck) (k mS mF : Int) (w : World) (hW : WAt 90 w Ah Ak chs cks) (hE : errK chs cks k = 0) (hF : ¬ (0 ≤ mF ∧ mF < 1000000000000000)) :
    Calls Tryd.prog 39 #[woV seed Ah chs.length chc Ak cks.length ckc, .int .i64 k, .agg #[.int .i64 mS, .int .i64 mF]] w fun e w' => e = .returned (.tuple #[.int .i64 0, .int .i64 1]) ∧ Below w.heap.size w w' := by
  have hv := Below.refl w.heap.size w
  have c59 := fun W (hB : Below w.heap.size w W) => clocked_calls seed Ah chc Ak ckc chs cks k 0 W (hW.below hB)
  rw [errS_k0] at c59
  rw [hE] at c59
  clear hW hE
  by_cases g : mF < 0
  · have f1 : decide (mF < 0) = true := decide_eq_true g
    go_enter Tryd.func39, Tryd.ntmps39
    go_wp2_with fail
    obtain ⟨w1, hw1⟩ : ∃ w1, (w.alloc (.cells #[.int .u64 seed, .slice Ah chs.length chc, .slice Ak cks.length ckc] 26)).alloc (.cells #[.int .i64 mS, .int .i64 mF] 69) = w1 := ⟨_, rfl⟩
    try rw [hw1]
    have hB : Below w.heap.size w w1 := by rw [← hw1]; exact ((Below.refl _ w).alloc (by first | exact Nat.le_refl _ | (simp; done) | (simp; omega)) _).alloc (by first | exact Nat.le_refl _ | (simp; done) | (simp; omega)) _
    have kx : w1.heap[w.heap.size]? = some (.cells #[.int .u64 seed, .slice Ah chs.length chc, .slice Ak cks.length ckc] 26 (0, 0)) := by rw [← hw1]; exact al_old (al_new _ _ _ (by first | rfl | (simp; done) | (simp; omega)))
    have x0 : w1.cell? ⟨w.heap.size, 0, none⟩ = some (.int .u64 seed) := blk_cell kx 0
    have x1 : w1.cell? ⟨w.heap.size, 1, none⟩ = some (.slice Ah chs.length chc) := blk_cell kx 1
    have x2 : w1.cell? ⟨w.heap.size, 2, none⟩ = some (.slice Ak cks.length ckc) := blk_cell kx 2
    have km : w1.heap[w.heap.size + 1]? = some (.cells #[.int .i64 mS, .int .i64 mF] 69 (0, 0)) := by rw [← hw1]; exact al_new _ _ _ (by first | rfl | (simp; done) | (simp; omega))
    have m0 : w1.cell? ⟨w.heap.size + 1, 0, none⟩ = some (.int .i64 mS) := blk_cell km 0
    have m1 : w1.cell? ⟨w.heap.size + 1, 1, none⟩ = some (.int .i64 mF) := blk_cell km 1
    replace hv := hv.trans (hB.mono hv.size)
    clear hB hw1
    refine (c59 _ hv).mono ?_
    rintro en w2 ⟨rfl, hB⟩
    replace kx := blk_on hB kx
    replace km := blk_on hB km
    replace x0 := cell_on hB x0
    replace x1 := cell_on hB x1
    replace x2 := cell_on hB x2
    replace m0 := cell_on hB m0
    replace m1 := cell_on hB m1
    replace hv := hv.trans (hB.mono hv.size)
    clear hB c59
    go_wp2
    go_ret2
    exact ⟨rfl, hv⟩
  · have f1 : decide (mF < 0) = false := decide_eq_false g
    have f2 : decide (mF ≥ 1000000000000000) = true := decide_eq_true (by omega)
    have f2' : decide (1000000000000000 ≤ mF) = true := decide_eq_true (by omega)
    go_enter Tryd.func39, Tryd.ntmps39
    go_wp2_with fail
    obtain ⟨w1, hw1⟩ : ∃ w1, (w.alloc (.cells #[.int .u64 seed, .slice Ah chs.length chc, .slice Ak cks.length ckc] 26)).alloc (.cells #[.int .i64 mS, .int .i64 mF] 69) = w1 := ⟨_, rfl⟩
    try rw [hw1]
    have hB : Below w.heap.size w w1 := by rw [← hw1]; exact ((Below.refl _ w).alloc (by first | exact Nat.le_refl _ | (simp; done) | (simp; omega)) _).alloc (by first | exact Nat.le_refl _ | (simp; done) | (simp; omega)) _
    have kx : w1.heap[w.heap.size]? = some (.cells #[.int .u64 seed, .slice Ah chs.length chc, .slice Ak cks.length ckc] 26 (0, 0)) := by rw [← hw1]; exact al_old (al_new _ _ _ (by first | rfl | (simp; done) | (simp; omega)))
    have x0 : w1.cell? ⟨w.heap.size, 0, none⟩ = some (.int .u64 seed) := blk_cell kx 0
    have x1 : w1.cell? ⟨w.heap.size, 1, none⟩ = some (.slice Ah chs.length chc) := blk_cell kx 1
    have x2 : w1.cell? ⟨w.heap.size, 2, none⟩ = some (.slice Ak cks.length ckc) := blk_cell kx 2
    have km : w1.heap[w.heap.size + 1]? = some (.cells #[.int .i64 mS, .int .i64 mF] 69 (0, 0)) := by rw [← hw1]; exact al_new _ _ _ (by first | rfl | (simp; done) | (simp; omega))
    have m0 : w1.cell? ⟨w.heap.size + 1, 0, none⟩ = some (.int .i64 mS) := blk_cell km 0
    have m1 : w1.cell? ⟨w.heap.size + 1, 1, none⟩ = some (.int .i64 mF) := blk_cell km 1
    replace hv := hv.trans (hB.mono hv.size)
    clear hB hw1
    refine (c59 _ hv).mono ?_
    rintro en w2 ⟨rfl, hB⟩
    replace kx := blk_on hB kx
    replace km := blk_on hB km
    replace x0 := cell_on hB x0
    replace x1 := cell_on hB x1
    replace x2 := cell_on hB x2
    replace m0 := cell_on hB m0
    replace m1 := cell_on hB m1
    replace hv := hv.trans (hB.mono hv.size)
    clear hB c59
    go_wp2
    go_ret2
    exact ⟨rfl, hv⟩
set_option maxHeartbeats 4000000 in
set_option maxRecDepth 100000 in
theorem rBack_ok (seed : Int) (Ah : Option Addr) (chc : Nat) (Ak : Option Addr) (ckc : Nat) (chs : List T3) (cks : List Ck) (k mS mF : Int) (w : World) (hW : WAt 90 w Ah Ak chs cks) (hE : errK chs cks k = 0) (hF : 0 ≤ mF ∧ mF < 1000000000000000) (hS : -9223372036854775808 ≤ mS ∧ mS ≤ 9223372036854775807) :
    Calls Tryd.prog 39 #[woV seed Ah chs.length chc Ak cks.length ckc, .int .i64 k, .agg #[.int .i64 mS, .int .i64 mF]] w fun e w' => ∃ v E : Int, e = .returned (.tuple #[.int .i64 v, .int .i64 E]) ∧ IsBack seed chs cks k mS mF v E ∧ Below w.heap.size w w' := by
  have hv := Below.refl w.heap.size w
  have c59 := fun W (hB : Below w.heap.size w W) => clocked_calls seed Ah chc Ak ckc chs cks k 0 W (hW.below hB)
  rw [errS_k0] at c59
  rw [hE] at c59
  have hk := errK_zero hE
  have HE := Aside0.mk hE
  clear hE
  obtain ⟨i, rfl⟩ : ∃ i : Nat, k = i := ⟨k.toNat, by omega⟩
  have hi : i < cks.length := by omega
  have hi2 : (i : Int) < (cks.length : Int) := by omega
  have hlk : cks.length ≤ 9223372036854775807 := hW.k.2.1
  have HOK := Aside0.mk hk.1
  have hEv := (hk.1.at hi).2.1
  have HEV := Aside0.mk hEv
  have HC := Aside0.mk hW.k
  have HW := Aside0.mk hW
  have HSH := Aside0.mk (fun (t : Int) (ht : 0 ≤ t ∧ t ≤ 1000000) => shown_tight (seed := seed) hk.1 hi ht)
  have HI := Aside0.mk hi
  have f1 : decide (mF < 0) = false := decide_eq_false (by omega)
  have f2 : decide (mF ≥ 1000000000000000) = false := decide_eq_false (by omega)
  have f2' : decide (1000000000000000 ≤ mF) = false := decide_eq_false (by omega)
  have HS := Aside0.mk hS
  obtain ⟨s0, hs0⟩ : ∃ s, (if mS < 1000000 then mS + 1 else 1000000) = s := ⟨_, rfl⟩
  have hs1 : s0 ≤ 1000000 := by rw [← hs0]; split <;> omega
  have HTOP : Aside0 (∀ t, s0 < t → t ≤ 1000000 → ¬ Good seed chs cks i mS mF t) := ⟨fun t a b c => by
    by_cases hm : mS < 1000000
    · rw [if_pos hm] at hs0
      have := later_far (seed := seed) (chs := chs) (cks := cks) (k := (i : Int)) (mF := mF) ⟨hS.1, hm⟩ (t := t) (by omega) b
      rw [Good, this] at c
      exact absurd c.2 (by simp)
    · rw [if_neg hm] at hs0; omega⟩
  have HS0 := Aside0.mk hs0
  have HF := Aside0.mk hF
  clear hs0 hk hEv hW hS hF
  go_enter Tryd.func39, Tryd.ntmps39
  go_wp2_with fail
  obtain ⟨w1, hw1⟩ : ∃ w1, (w.alloc (.cells #[.int .u64 seed, .slice Ah chs.length chc, .slice Ak cks.length ckc] 26)).alloc (.cells #[.int .i64 mS, .int .i64 mF] 69) = w1 := ⟨_, rfl⟩
  try rw [hw1]
  have hB : Below w.heap.size w w1 := by rw [← hw1]; exact ((Below.refl _ w).alloc (by first | exact Nat.le_refl _ | (simp; done) | (simp; omega)) _).alloc (by first | exact Nat.le_refl _ | (simp; done) | (simp; omega)) _
  have kx : w1.heap[w.heap.size]? = some (.cells #[.int .u64 seed, .slice Ah chs.length chc, .slice Ak cks.length ckc] 26 (0, 0)) := by rw [← hw1]; exact al_old (al_new _ _ _ (by first | rfl | (simp; done) | (simp; omega)))
  have x0 : w1.cell? ⟨w.heap.size, 0, none⟩ = some (.int .u64 seed) := blk_cell kx 0
  have x1 : w1.cell? ⟨w.heap.size, 1, none⟩ = some (.slice Ah chs.length chc) := blk_cell kx 1
  have x2 : w1.cell? ⟨w.heap.size, 2, none⟩ = some (.slice Ak cks.length ckc) := blk_cell kx 2
  have km : w1.heap[w.heap.size + 1]? = some (.cells #[.int .i64 mS, .int .i64 mF] 69 (0, 0)) := by rw [← hw1]; exact al_new _ _ _ (by first | rfl | (simp; done) | (simp; omega))
  have m0 : w1.cell? ⟨w.heap.size + 1, 0, none⟩ = some (.int .i64 mS) := blk_cell km 0
  have m1 : w1.cell? ⟨w.heap.size + 1, 1, none⟩ = some (.int .i64 mF) := blk_cell km 1
  replace hv := hv.trans (hB.mono hv.size)
  clear hB hw1
  refine (c59 _ hv).mono ?_
  rintro en w2 ⟨rfl, hB⟩
  replace kx := blk_on hB kx
  replace km := blk_on hB km
  replace x0 := cell_on hB x0
  replace x1 := cell_on hB x1
  replace x2 := cell_on hB x2
  replace m0 := cell_on hB m0
  replace m1 := cell_on hB m1
  replace hv := hv.trans (hB.mono hv.size)
  clear hB c59
  clear x0 x1 x2
  go_upto_if 30 with fail
  go_cut [9] from 10 to 79 (fun s9 wx => s9 = .int .i64 s0 ∧ wx = w2)
  case first =>
    have hs := HS.out
    by_cases h : mS < 1000000
    · have d1 : decide (mS < 1000000) = true := decide_eq_true h
      have d2 : IntKind.i64.wrap (mS + 1) = mS + 1 := C.wr _ (by omega) (by omega)
      have e : s0 = mS + 1 := by rw [← HS0.out, if_pos h]
      clear hs
      go_wp2
      go_meet
      exact ⟨by rw [e], rfl⟩
    · have d1 : decide (mS < 1000000) = false := decide_eq_false h
      have e : s0 = 1000000 := by rw [← HS0.out, if_neg h]
      clear hs
      go_wp2
      go_meet
      exact ⟨by rw [e], rfl⟩
  case rest =>
  obtain ⟨rfl, rfl⟩ := hcut
  rename World => wc
  have HKX := Aside0.mk kx
  have HKM := Aside0.mk km
  have HV := Aside0.mk hv
  clear kx km hv m0 m1 f1 f2 f2' HS0
  obtain ⟨c2, hc2⟩ : ∃ z, IntKind.i64.wrap (mS - 2) = z := ⟨_, rfl⟩
  go_wp2
  go_loopw [9] (fun v wr => ∃ s : Int, s ≤ 1000000 ∧ v = .int .i64 s ∧ Aside0 (∀ t, s < t → t ≤ 1000000 → ¬ Good seed chs cks i mS mF t) ∧ Aside0 (Below wc.heap.size wc wr)) (fun v _ => (intOf v + 1).toNat)
  case atStart => exact ⟨s0, hs1, rfl, HTOP, ⟨Below.refl _ _⟩⟩
  case round =>
    obtain ⟨s, hs9, rfl, HN, HB⟩ := hrel
    clear HTOP hs1
    have HV2 := Aside0.mk (HV.out.trans (HB.out.mono HV.out.size))
    have kx := blk_on HB.out HKX.out
    have km := blk_on HB.out HKM.out
    have x0 : wr.cell? ⟨w.heap.size, 0, none⟩ = some (.int .u64 seed) := blk_cell kx 0
    have x1 : wr.cell? ⟨w.heap.size, 1, none⟩ = some (.slice Ah chs.length chc) := blk_cell kx 1
    have x2 : wr.cell? ⟨w.heap.size, 2, none⟩ = some (.slice Ak cks.length ckc) := blk_cell kx 2
    have m0 : wr.cell? ⟨w.heap.size + 1, 0, none⟩ = some (.int .i64 mS) := blk_cell km 0
    have m1 : wr.cell? ⟨w.heap.size + 1, 1, none⟩ = some (.int .i64 mF) := blk_cell km 1
    clear kx km
    by_cases h0 : 0 ≤ s
    rotate_left
    · have d0 : decide (s ≥ 0) = false := decide_eq_false h0
      have d0' : decide (0 ≤ s) = false := decide_eq_false h0
      have HR : Aside0 (IsBack seed chs cks i mS mF 0 4) := ⟨.inr ⟨rfl, rfl, fun t a b => HN.out t (by omega) b⟩⟩
      clear h0 hs9
      go_wp2
      go_ret2
      exact ⟨0, 4, rfl, HR.out, HV2.out⟩
    · have d0 : decide (s ≥ 0) = true := decide_eq_true h0
      have d0' : decide (0 ≤ s) = true := decide_eq_true h0
      obtain ⟨ad, Ae, ce, rfl, hc0, hc1, hc2_, hc3, hc4, hc5, hc6, hc7, hc8, hle, hCe⟩ := C_ck (Kd.C_below HC.out HV2.out) i hi hi
      have HGD := Aside0.mk (show Good seed chs cks i mS mF s ↔ (runsF cks[i].es s = true ∧ laterAt seed chs cks i mS mF s = false) by unfold Good; rw [ckAt_of hi])
      have hwo := EvOk.what HEV.out
      have HEV2 := Aside0.mk (show EvOk cks[i].es from HEV.out)
      have HGT := Aside0.mk (fun (t : Int) => show Good seed chs cks i mS mF t → runsF cks[i].es t = true by intro h; have := h.1; rwa [ckAt_of hi] at this)
      obtain ⟨x, hx⟩ : ∃ z, cks[i] = z := ⟨_, rfl⟩
      rw [hx] at hc0 hc1 hc2_ hc3 hc4 hc5 hc6 hc7 hc8 hCe HGD hwo HEV2 HGT
      have HWO := Aside0.mk (show WhatOk x.es from hwo)
      have c68 := fun (W : World) (hB : Below wr.heap.size wr W) => running_calls x Ae ce s W (Kd.C_below hCe hB)
      have HCE := Aside0.mk hCe
      clear hx hle hCe hwo
      obtain ⟨r, hr⟩ : ∃ z, runsF x.es s = z := ⟨_, rfl⟩
      rw [hr] at c68 HGD
      have HRR := Aside0.mk hr
      clear hr
      cases r
      · have HN2 : Aside0 (∀ t, s - 1 < t → t ≤ 1000000 → ¬ Good seed chs cks i mS mF t) := ⟨fun t a b c => by
          rcases Int.lt_or_le s t with h | h
          · exact HN.out t h b c
          · have e : t = s := by omega
            rw [e, HGD.out] at c; exact absurd c.1 (by simp)⟩
        have v1 : IntKind.i64.wrap (s - 1) = s - 1 := C.wr _ (by omega) (by omega)
        have hSS : ∀ w', Below wr.heap.size wr w' → ((w'.cell? ⟨w.heap.size, 2, none⟩ = some (.slice (some ad) cks.length ckc) ∧ w'.cell? (ad.add (i * 9)) = some (.int .i64 x.kd) ∧ w'.cell? ⟨(ad.add (i * 9)).block, (ad.add (i * 9)).off + 1, none⟩ = some (.int .i64 x.ph) ∧ w'.cell? ⟨(ad.add (i * 9)).block, (ad.add (i * 9)).off + 2, none⟩ = some (.int .i64 x.rt) ∧ w'.cell? ⟨(ad.add (i * 9)).block, (ad.add (i * 9)).off + 3, none⟩ = some (.int .i64 x.dr) ∧ w'.cell? ⟨(ad.add (i * 9)).block, (ad.add (i * 9)).off + 4, none⟩ = some (.int .i64 x.wh) ∧ w'.cell? ⟨(ad.add (i * 9)).block, (ad.add (i * 9)).off + 5, none⟩ = some (.int .i64 x.wk) ∧ w'.cell? ⟨(ad.add (i * 9)).block, (ad.add (i * 9)).off + 6, none⟩ = some (.int .i64 x.ht) ∧ w'.cell? ⟨(ad.add (i * 9)).block, (ad.add (i * 9)).off + 7, none⟩ = some (.int .i64 x.ch) ∧ w'.cell? ⟨(ad.add (i * 9)).block, (ad.add (i * 9)).off + 8, none⟩ = some (.slice Ae x.es.length ce)) ∧ Below wr.heap.size wr w') := fun w' hB => ⟨⟨cell_on hB x2, cell_on hB hc0, cell_on hB hc1, cell_on hB hc2_, cell_on hB hc3, cell_on hB hc4, cell_on hB hc5, cell_on hB hc6, cell_on hB hc7, cell_on hB hc8⟩, hB⟩
        have hww : Below wr.heap.size wr wr.drew := (Below.refl _ _).drew
        go_upto_region 10 with fail
        refine wp_region_held_drew (S := fun w' => (w'.cell? ⟨w.heap.size, 2, none⟩ = some (.slice (some ad) cks.length ckc) ∧ w'.cell? (ad.add (i * 9)) = some (.int .i64 x.kd) ∧ w'.cell? ⟨(ad.add (i * 9)).block, (ad.add (i * 9)).off + 1, none⟩ = some (.int .i64 x.ph) ∧ w'.cell? ⟨(ad.add (i * 9)).block, (ad.add (i * 9)).off + 2, none⟩ = some (.int .i64 x.rt) ∧ w'.cell? ⟨(ad.add (i * 9)).block, (ad.add (i * 9)).off + 3, none⟩ = some (.int .i64 x.dr) ∧ w'.cell? ⟨(ad.add (i * 9)).block, (ad.add (i * 9)).off + 4, none⟩ = some (.int .i64 x.wh) ∧ w'.cell? ⟨(ad.add (i * 9)).block, (ad.add (i * 9)).off + 5, none⟩ = some (.int .i64 x.wk) ∧ w'.cell? ⟨(ad.add (i * 9)).block, (ad.add (i * 9)).off + 6, none⟩ = some (.int .i64 x.ht) ∧ w'.cell? ⟨(ad.add (i * 9)).block, (ad.add (i * 9)).off + 7, none⟩ = some (.int .i64 x.ch) ∧ w'.cell? ⟨(ad.add (i * 9)).block, (ad.add (i * 9)).off + 8, none⟩ = some (.slice Ae x.es.length ce)) ∧ Below wr.heap.size wr w') (by kernel_rfl) (hSS _ hww) (fun hHeld => ?_)
        refine wpAnyH_take (i := 0) (oi := { dst := some 36, op := Op.fieldAddr 26 (Operand.tmp 3) 2, type := 0, pos := "ref.go:355", after := #[], guard := none }) (v := ?_) rfl (by kernel_rfl) (by kernel_rfl) (by kernel_rfl) (fun _ _ _ h => h) (Or.inl ⟨by rfl, ?_⟩) (by assumption) ?_
        rotate_left 1
        ·(intro w_ hSw; (try dsimp only at hSw); go_simp; first | done | with_reducible rfl)
        (try simp only [Act.put, List.setIfInBounds_toArray, List.set_cons_zero, List.set_cons_succ])
        refine wpAnyH_take (i := 1) (oi := { dst := some 37, op := Op.load 24 (Operand.tmp 36), type := 24, pos := "ref.go:355", after := #[{ on := 0, ground := Ground.data }], guard := none }) (v := ?_) rfl (by kernel_rfl) (by kernel_rfl) (by kernel_rfl) (fun _ _ _ h => h) (Or.inl ⟨by rfl, ?_⟩) (by assumption) ?_
        rotate_left 1
        ·(intro w_ hSw; (try dsimp only at hSw); go_simp; first | done | with_reducible rfl)
        (try simp only [Act.put, List.setIfInBounds_toArray, List.set_cons_zero, List.set_cons_succ])
        refine wpAnyH_take (i := 2) (oi := { dst := some 38, op := Op.move (Operand.tmp 1), type := 3, pos := "ref.go:355", after := #[], guard := none }) (v := ?_) rfl (by kernel_rfl) (by kernel_rfl) (by kernel_rfl) (fun _ _ _ h => h) (Or.inl ⟨by rfl, ?_⟩) (by assumption) ?_
        rotate_left 1
        ·(intro w_ hSw; (try dsimp only at hSw); go_simp; first | done | with_reducible rfl)
        (try simp only [Act.put, List.setIfInBounds_toArray, List.set_cons_zero, List.set_cons_succ])
        refine wpAnyH_take (i := 3) (oi := { dst := some 39, op := Op.indexAddr 24 (Operand.tmp 37) (Operand.tmp 38), type := 0, pos := "ref.go:355", after := #[{ on := 1, ground := Ground.data }, { on := 2, ground := Ground.data }], guard := none }) (v := ?_) rfl (by kernel_rfl) (by kernel_rfl) (by kernel_rfl) (fun _ _ _ h => h) (Or.inl ⟨by rfl, ?_⟩) (by assumption) ?_
        rotate_left 1
        ·(intro w_ hSw; (try dsimp only at hSw); go_simp; first | done | with_reducible rfl)
        (try simp only [Act.put, List.setIfInBounds_toArray, List.set_cons_zero, List.set_cons_succ])
        refine wpAnyH_take (i := 4) (oi := { dst := some 40, op := Op.load 88 (Operand.tmp 39), type := 88, pos := "ref.go:355", after := #[{ on := 3, ground := Ground.data }], guard := none }) (v := ?_) rfl (by kernel_rfl) (by kernel_rfl) (by kernel_rfl) (fun _ _ _ h => h) (Or.inl ⟨by rfl, ?_⟩) (by assumption) ?_
        rotate_left 1
        ·(intro w_ hSw; (try dsimp only at hSw); go_simp; first | done | with_reducible rfl)
        (try simp only [Act.put, List.setIfInBounds_toArray, List.set_cons_zero, List.set_cons_succ])
        refine wpAnyH_take (i := 5) (oi := { dst := some 41, op := Op.move (Operand.tmp 9), type := 3, pos := "ref.go:355", after := #[], guard := none }) (v := ?_) rfl (by kernel_rfl) (by kernel_rfl) (by kernel_rfl) (fun _ _ _ h => h) (Or.inl ⟨by rfl, ?_⟩) (by assumption) ?_
        rotate_left 1
        ·(intro w_ hSw; (try dsimp only at hSw); go_simp; first | done | with_reducible rfl)
        (try simp only [Act.put, List.setIfInBounds_toArray, List.set_cons_zero, List.set_cons_succ])
        refine wpAnyH_ready (rs := [6]) (by kernel_rfl) (by simp) ?_
        refine AllReadyH.cons (o := { dst := some 42, op := Op.call { callee := Callee.value (Operand.func 68), args := #[Operand.tmp 40, Operand.tmp 41], argTypes := #[88, 3] }, type := 4, pos := "ref.go:355", after := #[{ on := 4, ground := Ground.data }, { on := 5, ground := Ground.data }], guard := none }) rfl (fun K hK => ?_) AllReadyH.nil
        go_simp
        with_reducible refine (c68 _ hww).mono ?_
        rintro e w' ⟨rfl, hB⟩
        refine hK.out _ _ ?_ (fun hHeld => ?_)
        ·exact hSS _ (hww.trans (hB.mono hww.size))
        clear hK K
        (try simp only [Act.put, List.setIfInBounds_toArray, List.set_cons_zero, List.set_cons_succ])
        refine wpAnyH_take (i := 7) (oi := { dst := some 43, op := Op.move (Operand.tmp 42), type := 4, pos := "ref.go:355", after := #[{ on := 6, ground := Ground.data }, { on := 6, ground := Ground.chain }], guard := none }) (v := ?_) rfl (by kernel_rfl) (by kernel_rfl) (by kernel_rfl) (fun _ _ _ h => h) (Or.inl ⟨by rfl, ?_⟩) (by assumption) ?_
        rotate_left 1
        ·(intro w_ hSw; (try dsimp only at hSw); go_simp; first | done | with_reducible rfl)
        (try simp only [Act.put, List.setIfInBounds_toArray, List.set_cons_zero, List.set_cons_succ])
        refine wpAnyH_take (i := 8) (oi := { dst := some 44, op := Op.move (Operand.tmp 9), type := 3, pos := "ref.go:355", after := #[{ on := 7, ground := Ground.guard }], guard := some (7, true) }) (v := undef) rfl (by kernel_rfl) (by kernel_rfl) (by kernel_rfl) (fun _ _ _ h => h) (Or.inr ⟨by rfl, rfl⟩) (by assumption) ?_
        (try simp only [Act.put, List.setIfInBounds_toArray, List.set_cons_zero, List.set_cons_succ])
        refine wpAnyH_take (i := 9) (oi := { dst := some 45, op := Op.load 26 (Operand.tmp 3), type := 26, pos := "ref.go:355", after := #[{ on := 7, ground := Ground.guard }], guard := some (7, true) }) (v := undef) rfl (by kernel_rfl) (by kernel_rfl) (by kernel_rfl) (fun _ _ _ h => h) (Or.inr ⟨by rfl, rfl⟩) (by assumption) ?_
        (try simp only [Act.put, List.setIfInBounds_toArray, List.set_cons_zero, List.set_cons_succ])
        refine wpAnyH_take (i := 10) (oi := { dst := some 46, op := Op.move (Operand.tmp 1), type := 3, pos := "ref.go:355", after := #[{ on := 7, ground := Ground.guard }], guard := some (7, true) }) (v := undef) rfl (by kernel_rfl) (by kernel_rfl) (by kernel_rfl) (fun _ _ _ h => h) (Or.inr ⟨by rfl, rfl⟩) (by assumption) ?_
        (try simp only [Act.put, List.setIfInBounds_toArray, List.set_cons_zero, List.set_cons_succ])
        refine wpAnyH_take (i := 11) (oi := { dst := some 47, op := Op.move (Operand.tmp 9), type := 3, pos := "ref.go:355", after := #[{ on := 7, ground := Ground.guard }], guard := some (7, true) }) (v := undef) rfl (by kernel_rfl) (by kernel_rfl) (by kernel_rfl) (fun _ _ _ h => h) (Or.inr ⟨by rfl, rfl⟩) (by assumption) ?_
        (try simp only [Act.put, List.setIfInBounds_toArray, List.set_cons_zero, List.set_cons_succ])
        refine wpAnyH_take (i := 12) (oi := { dst := some 48, op := Op.call { callee := Callee.value (Operand.func 70), args := #[Operand.tmp 45, Operand.tmp 46, Operand.tmp 47], argTypes := #[26, 3, 3] }, type := 3, pos := "ref.go:355", after := #[{ on := 9, ground := Ground.data }, { on := 10, ground := Ground.data }, { on := 11, ground := Ground.data }, { on := 7, ground := Ground.chain }, { on := 7, ground := Ground.guard }], guard := some (7, true) }) (v := undef) rfl (by kernel_rfl) (by kernel_rfl) (by kernel_rfl) (fun _ _ _ h => h) (Or.inr ⟨by rfl, rfl⟩) (by assumption) ?_
        (try simp only [Act.put, List.setIfInBounds_toArray, List.set_cons_zero, List.set_cons_succ])
        refine wpAnyH_take (i := 13) (oi := { dst := some 49, op := Op.call { callee := Callee.value (Operand.func 73), args := #[Operand.tmp 44, Operand.tmp 48], argTypes := #[3, 3] }, type := 69, pos := "ref.go:355", after := #[{ on := 8, ground := Ground.data }, { on := 12, ground := Ground.data }, { on := 12, ground := Ground.chain }, { on := 7, ground := Ground.guard }], guard := some (7, true) }) (v := undef) rfl (by kernel_rfl) (by kernel_rfl) (by kernel_rfl) (fun _ _ _ h => h) (Or.inr ⟨by rfl, rfl⟩) (by assumption) ?_
        (try simp only [Act.put, List.setIfInBounds_toArray, List.set_cons_zero, List.set_cons_succ])
        refine wpAnyH_take (i := 14) (oi := { dst := some 50, op := Op.load 69 (Operand.tmp 5), type := 69, pos := "ref.go:355", after := #[{ on := 7, ground := Ground.guard }], guard := some (7, true) }) (v := undef) rfl (by kernel_rfl) (by kernel_rfl) (by kernel_rfl) (fun _ _ _ h => h) (Or.inr ⟨by rfl, rfl⟩) (by assumption) ?_
        (try simp only [Act.put, List.setIfInBounds_toArray, List.set_cons_zero, List.set_cons_succ])
        refine wpAnyH_take (i := 15) (oi := { dst := some 51, op := Op.call { callee := Callee.value (Operand.func 74), args := #[Operand.tmp 49, Operand.tmp 50], argTypes := #[69, 69] }, type := 4, pos := "ref.go:355", after := #[{ on := 13, ground := Ground.data }, { on := 14, ground := Ground.data }, { on := 13, ground := Ground.chain }, { on := 7, ground := Ground.guard }], guard := some (7, true) }) (v := undef) rfl (by kernel_rfl) (by kernel_rfl) (by kernel_rfl) (fun _ _ _ h => h) (Or.inr ⟨by rfl, rfl⟩) (by assumption) ?_
        (try simp only [Act.put, List.setIfInBounds_toArray, List.set_cons_zero, List.set_cons_succ])
        refine wpAnyH_take (i := 16) (oi := { dst := some 52, op := Op.unOp UnOp.not 4 (Operand.tmp 51), type := 4, pos := "ref.go:355", after := #[{ on := 15, ground := Ground.data }, { on := 7, ground := Ground.guard }], guard := some (7, true) }) (v := undef) rfl (by kernel_rfl) (by kernel_rfl) (by kernel_rfl) (fun _ _ _ h => h) (Or.inr ⟨by rfl, rfl⟩) (by assumption) ?_
        (try simp only [Act.put, List.setIfInBounds_toArray, List.set_cons_zero, List.set_cons_succ])
        refine wpAnyH_take (i := 17) (oi := { dst := some 53, op := Op.pick (Operand.tmp 43) (Operand.tmp 52) (Operand.const (Value.bool false)), type := 4, pos := "ref.go:355", after := #[{ on := 7, ground := Ground.data }, { on := 16, ground := Ground.data }], guard := none }) (v := ?_) rfl (by kernel_rfl) (by kernel_rfl) (by kernel_rfl) (fun _ _ _ h => h) (Or.inl ⟨by rfl, ?_⟩) (by assumption) ?_
        rotate_left 1
        ·(intro w_ hSw; (try dsimp only at hSw); go_simp; first | done | with_reducible rfl)
        (try simp only [Act.put, List.setIfInBounds_toArray, List.set_cons_zero, List.set_cons_succ])
        refine wpAnyH_done (by kernel_rfl) ?_ _
        rename World => w5
        have hB5 := hHeld.2
        clear hHeld hSS hww
        replace x0 := cell_on hB5 x0
        replace x1 := cell_on hB5 x1
        replace x2 := cell_on hB5 x2
        replace m0 := cell_on hB5 m0
        replace m1 := cell_on hB5 m1
        replace hc0 := cell_on hB5 hc0
        replace hc1 := cell_on hB5 hc1
        replace hc2_ := cell_on hB5 hc2_
        replace hc3 := cell_on hB5 hc3
        replace hc4 := cell_on hB5 hc4
        replace hc5 := cell_on hB5 hc5
        replace hc6 := cell_on hB5 hc6
        replace hc7 := cell_on hB5 hc7
        replace hc8 := cell_on hB5 hc8
        have hst := stop_spec (s := s) HWO.out x.es.length (Nat.le_refl _) HRR.out
        have c75 := fun (W : World) (hB : Below wr.heap.size wr W) => rbefore_calls x Ae ce s W (Kd.C_below HCE.out hB) HEV2.out ⟨h0, hs9⟩ hst.1
        have hsb := stop_b (s := s) HEV2.out x.es.length (Nat.le_refl _)
        have HST := Aside0.mk hst
        have HN3 : Aside0 (∀ t, stopN x.es s x.es.length - 1 < t → t ≤ 1000000 → ¬ Good seed chs cks i mS mF t) := ⟨fun t a b c => by
          rcases Int.lt_or_le s t with h | h
          · exact HN.out t h b c
          · have h1 := HST.out.2 t (by omega) h
            have h2 := HGT.out t c
            rw [show runsN x.es t x.es.length = runsF x.es t from rfl, h2] at h1
            cases h1⟩
        obtain ⟨z, hz⟩ : ∃ z, stopN x.es s x.es.length = z := ⟨_, rfl⟩
        have hzs := hst.1
        rw [hz] at c75 hsb hzs
        have HZ := Aside0.mk hz
        clear hst hz
        have HB5 := Aside0.mk (HB.out.trans (hB5.mono HB.out.size))
        by_cases g : s < c2
        · have g1 : decide (s < c2) = true := decide_eq_true g
          go_wp2_with fail
          refine (c68 _ hB5).mono ?_
          rintro en w6 ⟨rfl, hB⟩
          have hB6 := hB5.trans (hB.mono hB5.size)
          have HB6 := Aside0.mk (HB5.out.trans (hB.mono HB5.out.size))
          replace x0 := cell_on hB x0
          replace x1 := cell_on hB x1
          replace x2 := cell_on hB x2
          replace m0 := cell_on hB m0
          replace m1 := cell_on hB m1
          replace hc0 := cell_on hB hc0
          replace hc1 := cell_on hB hc1
          replace hc2_ := cell_on hB hc2_
          replace hc3 := cell_on hB hc3
          replace hc4 := cell_on hB hc4
          replace hc5 := cell_on hB hc5
          replace hc6 := cell_on hB hc6
          replace hc7 := cell_on hB hc7
          replace hc8 := cell_on hB hc8
          clear hB c68
          go_wp2_with fail
          refine (c75 _ hB6).mono ?_
          rintro en w7 ⟨rfl, hB⟩
          have HB7 := Aside0.mk (HB6.out.trans (hB.mono HB6.out.size))
          clear hB c75
          go_wp2
          go_roundw
          case rel => exact ⟨z - 1, by omega, rfl, ⟨by have := HN3.out; rw [HZ.out] at this; exact this⟩, HB7⟩
          case measure => simp [intOf]; omega
        · have g1 : decide (s < c2) = false := decide_eq_false g
          go_wp2
          go_roundw
          case rel => exact ⟨s - 1, by omega, rfl, HN2, HB5⟩
          case measure => simp [intOf]; omega
      · have hsh := HSH.out s ⟨h0, hs9⟩
        have HLT := Aside0.mk (show (decide (mS < (momF s (shownF seed chs cks i s)).1) || (decide ((momF s (shownF seed chs cks i s)).1 = mS) && decide (mF < (momF s (shownF seed chs cks i s)).2))) = laterAt seed chs cks i mS mF s by unfold laterAt; exact after_later HS.out ⟨h0, hs9⟩ ⟨by omega, by omega⟩)
        have c70 := fun (W : World) (hB : Below wr.heap.size wr W) => rshown_calls seed Ah chc (some ad) ckc chs cks i s W (HW.out.below (HV2.out.trans (hB.mono HV2.out.size))) HOK.out hi ⟨h0, hs9⟩
        obtain ⟨V, hV⟩ : ∃ z, shownF seed chs cks i s = z := ⟨_, rfl⟩
        rw [hV] at hsh HLT c70
        have c73 := fun (W : World) => At_calls s V W (by omega) (by omega)
        clear hV hsh
        obtain ⟨M, hM⟩ : ∃ z, momF s V = z := ⟨_, rfl⟩
        rw [hM] at c73 HLT
        clear hM
        obtain ⟨q, f⟩ := M
        simp only at c73 HLT
        have c74 := fun (W : World) => After_calls q f mS mF W
        unfold afterF at c74
        rw [HLT.out] at c74
        obtain ⟨lt, hlt⟩ : ∃ z, laterAt seed chs cks i mS mF s = z := ⟨_, rfl⟩
        rw [hlt] at c74 HGD
        clear HLT hlt
        have v1 : IntKind.i64.wrap (s - 1) = s - 1 := C.wr _ (by omega) (by omega)
        have hSS : ∀ w', Below wr.heap.size wr w' → ((w'.cell? ⟨w.heap.size, 2, none⟩ = some (.slice (some ad) cks.length ckc) ∧ w'.cell? (ad.add (i * 9)) = some (.int .i64 x.kd) ∧ w'.cell? ⟨(ad.add (i * 9)).block, (ad.add (i * 9)).off + 1, none⟩ = some (.int .i64 x.ph) ∧ w'.cell? ⟨(ad.add (i * 9)).block, (ad.add (i * 9)).off + 2, none⟩ = some (.int .i64 x.rt) ∧ w'.cell? ⟨(ad.add (i * 9)).block, (ad.add (i * 9)).off + 3, none⟩ = some (.int .i64 x.dr) ∧ w'.cell? ⟨(ad.add (i * 9)).block, (ad.add (i * 9)).off + 4, none⟩ = some (.int .i64 x.wh) ∧ w'.cell? ⟨(ad.add (i * 9)).block, (ad.add (i * 9)).off + 5, none⟩ = some (.int .i64 x.wk) ∧ w'.cell? ⟨(ad.add (i * 9)).block, (ad.add (i * 9)).off + 6, none⟩ = some (.int .i64 x.ht) ∧ w'.cell? ⟨(ad.add (i * 9)).block, (ad.add (i * 9)).off + 7, none⟩ = some (.int .i64 x.ch) ∧ w'.cell? ⟨(ad.add (i * 9)).block, (ad.add (i * 9)).off + 8, none⟩ = some (.slice Ae x.es.length ce) ∧ w'.cell? ⟨w.heap.size + 1, 0, none⟩ = some (.int .i64 mS) ∧ w'.cell? ⟨w.heap.size + 1, 1, none⟩ = some (.int .i64 mF) ∧ w'.cell? ⟨w.heap.size, 0, none⟩ = some (.int .u64 seed) ∧ w'.cell? ⟨w.heap.size, 1, none⟩ = some (.slice Ah chs.length chc)) ∧ Below wr.heap.size wr w') := fun w' hB => ⟨⟨cell_on hB x2, cell_on hB hc0, cell_on hB hc1, cell_on hB hc2_, cell_on hB hc3, cell_on hB hc4, cell_on hB hc5, cell_on hB hc6, cell_on hB hc7, cell_on hB hc8, cell_on hB m0, cell_on hB m1, cell_on hB x0, cell_on hB x1⟩, hB⟩
        go_upto_region 10 with fail
        go_region_held3 (fun w' => (w'.cell? ⟨w.heap.size, 2, none⟩ = some (.slice (some ad) cks.length ckc) ∧ w'.cell? (ad.add (i * 9)) = some (.int .i64 x.kd) ∧ w'.cell? ⟨(ad.add (i * 9)).block, (ad.add (i * 9)).off + 1, none⟩ = some (.int .i64 x.ph) ∧ w'.cell? ⟨(ad.add (i * 9)).block, (ad.add (i * 9)).off + 2, none⟩ = some (.int .i64 x.rt) ∧ w'.cell? ⟨(ad.add (i * 9)).block, (ad.add (i * 9)).off + 3, none⟩ = some (.int .i64 x.dr) ∧ w'.cell? ⟨(ad.add (i * 9)).block, (ad.add (i * 9)).off + 4, none⟩ = some (.int .i64 x.wh) ∧ w'.cell? ⟨(ad.add (i * 9)).block, (ad.add (i * 9)).off + 5, none⟩ = some (.int .i64 x.wk) ∧ w'.cell? ⟨(ad.add (i * 9)).block, (ad.add (i * 9)).off + 6, none⟩ = some (.int .i64 x.ht) ∧ w'.cell? ⟨(ad.add (i * 9)).block, (ad.add (i * 9)).off + 7, none⟩ = some (.int .i64 x.ch) ∧ w'.cell? ⟨(ad.add (i * 9)).block, (ad.add (i * 9)).off + 8, none⟩ = some (.slice Ae x.es.length ce) ∧ w'.cell? ⟨w.heap.size + 1, 0, none⟩ = some (.int .i64 mS) ∧ w'.cell? ⟨w.heap.size + 1, 1, none⟩ = some (.int .i64 mF) ∧ w'.cell? ⟨w.heap.size, 0, none⟩ = some (.int .u64 seed) ∧ w'.cell? ⟨w.heap.size, 1, none⟩ = some (.slice Ah chs.length chc)) ∧ Below wr.heap.size wr w') (first | exact hSS _ (Below.refl _ _).drew | assumption | (have hh := ‹(_ ∧ _ ∧ _ ∧ _ ∧ _ ∧ _ ∧ _ ∧ _ ∧ _ ∧ _ ∧ _ ∧ _ ∧ _ ∧ _) ∧ Below wr.heap.size wr _›; exact hSS _ (hh.2.trans (hB.mono hh.2.size))))
          (first | (go_at_call 68; (first | (have hh := ‹(_ ∧ _ ∧ _ ∧ _ ∧ _ ∧ _ ∧ _ ∧ _ ∧ _ ∧ _ ∧ _ ∧ _ ∧ _ ∧ _) ∧ Below wr.heap.size wr _›; with_reducible refine (c68 _ hh.2).mono ?_) | with_reducible refine (c68 _ (Below.refl _ _).drew).mono ?_); rintro e w' ⟨rfl, hB⟩) | (go_at_call 70; (first | (have hh := ‹(_ ∧ _ ∧ _ ∧ _ ∧ _ ∧ _ ∧ _ ∧ _ ∧ _ ∧ _ ∧ _ ∧ _ ∧ _ ∧ _) ∧ Below wr.heap.size wr _›; with_reducible refine (c70 _ hh.2).mono ?_) | with_reducible refine (c70 _ (Below.refl _ _).drew).mono ?_); rintro e w' ⟨rfl, hB⟩) | (go_at_call 73; with_reducible refine (c73 _).mono ?_; rintro e w' ⟨rfl, hB⟩) | (go_at_call 74; with_reducible refine (c74 _).mono ?_; rintro e w' ⟨rfl, hB⟩))
        rename_i hHeld
        rename World => w5
        have hB5 := hHeld.2
        clear hHeld hSS c70 c73 c74
        replace x0 := cell_on hB5 x0
        replace x1 := cell_on hB5 x1
        replace x2 := cell_on hB5 x2
        replace m0 := cell_on hB5 m0
        replace m1 := cell_on hB5 m1
        replace hc0 := cell_on hB5 hc0
        replace hc1 := cell_on hB5 hc1
        replace hc2_ := cell_on hB5 hc2_
        replace hc3 := cell_on hB5 hc3
        replace hc4 := cell_on hB5 hc4
        replace hc5 := cell_on hB5 hc5
        replace hc6 := cell_on hB5 hc6
        replace hc7 := cell_on hB5 hc7
        replace hc8 := cell_on hB5 hc8
        have HB5 := Aside0.mk (HB.out.trans (hB5.mono HB.out.size))
        cases lt
        · have HR : Aside0 (IsBack seed chs cks i mS mF s 0) := ⟨.inl ⟨rfl, h0, hs9, HGD.out.2 (by simp), HN.out⟩⟩
          have HV5 := Aside0.mk (HV.out.trans (HB5.out.mono HV.out.size))
          go_wp2
          go_ret2
          exact ⟨s, 0, rfl, HR.out, HV5.out⟩
        · have HN2 : Aside0 (∀ t, s - 1 < t → t ≤ 1000000 → ¬ Good seed chs cks i mS mF t) := ⟨fun t a b c => by
            rcases Int.lt_or_le s t with h | h
            · exact HN.out t h b c
            · have e : t = s := by omega
              rw [e, HGD.out] at c; exact absurd c.2 (by simp)⟩
          by_cases g : s < c2
          · have g1 : decide (s < c2) = true := decide_eq_true g
            go_wp2_with fail
            refine (c68 _ hB5).mono ?_
            rintro en w6 ⟨rfl, hB⟩
            have HB6 := Aside0.mk (HB5.out.trans (hB.mono HB5.out.size))
            clear hB c68
            go_wp2
            go_roundw
            case rel => exact ⟨s - 1, by omega, rfl, HN2, HB6⟩
            case measure => simp [intOf]; omega
          · have g1 : decide (s < c2) = false := decide_eq_false g
            go_wp2
            go_roundw
            case rel => exact ⟨s - 1, by omega, rfl, HN2, HB5⟩
            case measure => simp [intOf]; omega
end Go.Proofs.YtlfnnalepdjagaaDoor.C
end

section
/- The contract of the reference's Track. -/
namespace Go.Proofs.YtlfnnalepdjagaaDoor.C
open Go.RowKit Go.Shelf Go.Maps Go.Proofs.YtlfnnalepdjagaaDoorW.PrintWords Go.Proofs.YtlfnnalepdjagaaDoorW.PrintLast Go.Proofs.YtlfnnalepdjagaaDoorW.PrintMore
set_option linter.unusedVariables false
set_option linter.unusedSimpArgs false
set_option maxHeartbeats 4000000 in
set_option maxRecDepth 100000 in
theorem rTrack_calls (seed : Int) (Ah : Option Addr) (chc : Nat) (Ak : Option Addr) (ckc : Nat) (chs : List T3) (cks : List Ck) (k fr st n : Int) (w : World) (hW : WAt 90 w Ah Ak chs cks) (hn9 : n ≤ 9223372036854775807) (hst9 : st ≤ 9223372036854775807) :
    Calls Tryd.prog 36 #[woV seed Ah chs.length chc Ak cks.length ckc, .int .i64 k, .int .i64 fr, .int .i64 st, .int .i64 n] w fun e w' => ∃ A c, e = .returned (.tuple #[.slice A (trackL seed chs cks k fr st n).length c, .int .i64 (errTr chs cks k fr st n)]) ∧ Kd.C kI w' A (trackL seed chs cks k fr st n).length (trackL seed chs cks k fr st n) ∧ Below w.heap.size w w' := by
  have hv := Below.refl w.heap.size w
  have c59 := fun W (hB : Below w.heap.size w W) => clocked_calls seed Ah chc Ak ckc chs cks k 0 W (hW.below hB)
  rw [errS_k0] at c59
  by_cases hE : errK chs cks k = 0
  rotate_left
  · have e1 : errTr chs cks k fr st n = errK chs cks k := by unfold errTr; rw [if_neg hE]
    have e2 : trackL seed chs cks k fr st n = [] := by unfold trackL; rw [e1, if_neg hE]
    rw [e1, e2]
    clear e1 e2 hW
    generalize errK chs cks k = E at *
    have d1 : (E == 0) = false := beq_eq_false_iff_ne.2 hE
    go_enter Tryd.func36, Tryd.ntmps36
    go_wp2_with fail
    obtain ⟨w1, hw1⟩ : ∃ w1, w.alloc (.cells #[.int .u64 seed, .slice Ah chs.length chc, .slice Ak cks.length ckc] 26) = w1 := ⟨_, rfl⟩
    try rw [hw1]
    have hB : Below w.heap.size w w1 := by rw [← hw1]; exact (Below.refl _ w).alloc (by first | exact Nat.le_refl _ | (simp; done) | (simp; omega)) _
    have kx : w1.heap[w.heap.size]? = some (.cells #[.int .u64 seed, .slice Ah chs.length chc, .slice Ak cks.length ckc] 26 (0, 0)) := by rw [← hw1]; exact al_new _ _ _ (by first | rfl | (simp; done) | (simp; omega))
    have x0 : w1.cell? ⟨w.heap.size, 0, none⟩ = some (.int .u64 seed) := blk_cell kx 0
    have x1 : w1.cell? ⟨w.heap.size, 1, none⟩ = some (.slice Ah chs.length chc) := blk_cell kx 1
    have x2 : w1.cell? ⟨w.heap.size, 2, none⟩ = some (.slice Ak cks.length ckc) := blk_cell kx 2
    clear kx
    replace hv := hv.trans (hB.mono hv.size)
    clear hB hw1
    refine (c59 _ hv).mono ?_
    rintro en w2 ⟨rfl, hB⟩
    replace x0 := cell_on hB x0
    replace x1 := cell_on hB x1
    replace x2 := cell_on hB x2
    replace hv := hv.trans (hB.mono hv.size)
    clear hB c59
    go_wp2
    go_ret2
    exact ⟨none, 0, rfl, C_nil _ _, hv⟩
  rw [hE] at c59
  have HEK := Aside0.mk hE
  by_cases g1 : st < 1
  · have fg1 : decide (st < 1) = true := decide_eq_true g1
    have fg1' : decide (1 > st) = true := decide_eq_true g1
    have e1 : errTr chs cks k fr st n = 1 := tr_arg HEK.out (Or.inl g1)
    have e2 : trackL seed chs cks k fr st n = [] := by unfold trackL; rw [e1, if_neg (by decide)]
    rw [e1, e2]
    clear e1 e2 hW
    go_enter Tryd.func36, Tryd.ntmps36
    go_wp2_with fail
    obtain ⟨w1, hw1⟩ : ∃ w1, w.alloc (.cells #[.int .u64 seed, .slice Ah chs.length chc, .slice Ak cks.length ckc] 26) = w1 := ⟨_, rfl⟩
    try rw [hw1]
    have hB : Below w.heap.size w w1 := by rw [← hw1]; exact (Below.refl _ w).alloc (by first | exact Nat.le_refl _ | (simp; done) | (simp; omega)) _
    have kx : w1.heap[w.heap.size]? = some (.cells #[.int .u64 seed, .slice Ah chs.length chc, .slice Ak cks.length ckc] 26 (0, 0)) := by rw [← hw1]; exact al_new _ _ _ (by first | rfl | (simp; done) | (simp; omega))
    have x0 : w1.cell? ⟨w.heap.size, 0, none⟩ = some (.int .u64 seed) := blk_cell kx 0
    have x1 : w1.cell? ⟨w.heap.size, 1, none⟩ = some (.slice Ah chs.length chc) := blk_cell kx 1
    have x2 : w1.cell? ⟨w.heap.size, 2, none⟩ = some (.slice Ak cks.length ckc) := blk_cell kx 2
    clear kx
    replace hv := hv.trans (hB.mono hv.size)
    clear hB hw1
    refine (c59 _ hv).mono ?_
    rintro en w2 ⟨rfl, hB⟩
    replace x0 := cell_on hB x0
    replace x1 := cell_on hB x1
    replace x2 := cell_on hB x2
    replace hv := hv.trans (hB.mono hv.size)
    clear hB c59
    go_wp2
    go_ret2
    exact ⟨none, 0, rfl, C_nil _ _, hv⟩
  have fg1 : decide (st < 1) = false := decide_eq_false g1
  have fg1' : decide (1 > st) = false := decide_eq_false g1
  by_cases g2 : n < 0
  · have fg2 : decide (n < 0) = true := decide_eq_true g2
    have fg2' : decide (0 > n) = true := decide_eq_true g2
    have e1 : errTr chs cks k fr st n = 1 := tr_arg HEK.out (Or.inr (by omega))
    have e2 : trackL seed chs cks k fr st n = [] := by unfold trackL; rw [e1, if_neg (by decide)]
    rw [e1, e2]
    clear e1 e2 hW
    go_enter Tryd.func36, Tryd.ntmps36
    go_wp2_with fail
    obtain ⟨w1, hw1⟩ : ∃ w1, w.alloc (.cells #[.int .u64 seed, .slice Ah chs.length chc, .slice Ak cks.length ckc] 26) = w1 := ⟨_, rfl⟩
    try rw [hw1]
    have hB : Below w.heap.size w w1 := by rw [← hw1]; exact (Below.refl _ w).alloc (by first | exact Nat.le_refl _ | (simp; done) | (simp; omega)) _
    have kx : w1.heap[w.heap.size]? = some (.cells #[.int .u64 seed, .slice Ah chs.length chc, .slice Ak cks.length ckc] 26 (0, 0)) := by rw [← hw1]; exact al_new _ _ _ (by first | rfl | (simp; done) | (simp; omega))
    have x0 : w1.cell? ⟨w.heap.size, 0, none⟩ = some (.int .u64 seed) := blk_cell kx 0
    have x1 : w1.cell? ⟨w.heap.size, 1, none⟩ = some (.slice Ah chs.length chc) := blk_cell kx 1
    have x2 : w1.cell? ⟨w.heap.size, 2, none⟩ = some (.slice Ak cks.length ckc) := blk_cell kx 2
    clear kx
    replace hv := hv.trans (hB.mono hv.size)
    clear hB hw1
    refine (c59 _ hv).mono ?_
    rintro en w2 ⟨rfl, hB⟩
    replace x0 := cell_on hB x0
    replace x1 := cell_on hB x1
    replace x2 := cell_on hB x2
    replace hv := hv.trans (hB.mono hv.size)
    clear hB c59
    go_wp2
    go_ret2
    exact ⟨none, 0, rfl, C_nil _ _, hv⟩
  have fg2 : decide (n < 0) = false := decide_eq_false g2
  have fg2' : decide (0 > n) = false := decide_eq_false g2
  by_cases g3 : 20000 < n
  · have fg3 : decide (20000 < n) = true := decide_eq_true g3
    have fg3' : decide (n > 20000) = true := decide_eq_true g3
    have e1 : errTr chs cks k fr st n = 1 := tr_arg HEK.out (Or.inr (by omega))
    have e2 : trackL seed chs cks k fr st n = [] := by unfold trackL; rw [e1, if_neg (by decide)]
    rw [e1, e2]
    clear e1 e2 hW
    go_enter Tryd.func36, Tryd.ntmps36
    go_wp2_with fail
    obtain ⟨w1, hw1⟩ : ∃ w1, w.alloc (.cells #[.int .u64 seed, .slice Ah chs.length chc, .slice Ak cks.length ckc] 26) = w1 := ⟨_, rfl⟩
    try rw [hw1]
    have hB : Below w.heap.size w w1 := by rw [← hw1]; exact (Below.refl _ w).alloc (by first | exact Nat.le_refl _ | (simp; done) | (simp; omega)) _
    have kx : w1.heap[w.heap.size]? = some (.cells #[.int .u64 seed, .slice Ah chs.length chc, .slice Ak cks.length ckc] 26 (0, 0)) := by rw [← hw1]; exact al_new _ _ _ (by first | rfl | (simp; done) | (simp; omega))
    have x0 : w1.cell? ⟨w.heap.size, 0, none⟩ = some (.int .u64 seed) := blk_cell kx 0
    have x1 : w1.cell? ⟨w.heap.size, 1, none⟩ = some (.slice Ah chs.length chc) := blk_cell kx 1
    have x2 : w1.cell? ⟨w.heap.size, 2, none⟩ = some (.slice Ak cks.length ckc) := blk_cell kx 2
    clear kx
    replace hv := hv.trans (hB.mono hv.size)
    clear hB hw1
    refine (c59 _ hv).mono ?_
    rintro en w2 ⟨rfl, hB⟩
    replace x0 := cell_on hB x0
    replace x1 := cell_on hB x1
    replace x2 := cell_on hB x2
    replace hv := hv.trans (hB.mono hv.size)
    clear hB c59
    go_wp2
    go_ret2
    exact ⟨none, 0, rfl, C_nil _ _, hv⟩
  have fg3 : decide (20000 < n) = false := decide_eq_false g3
  have fg3' : decide (n > 20000) = false := decide_eq_false g3
  have hb : ¬ (st < 1 ∨ ¬ (0 ≤ n ∧ n ≤ 20000)) := by omega
  by_cases g4 : fr < 0
  · have fg4 : decide (fr < 0) = true := decide_eq_true g4
    have fg4' : decide (0 > fr) = true := decide_eq_true g4
    have e1 : errTr chs cks k fr st n = 21 := tr_time HEK.out hb (Or.inl (by omega))
    have e2 : trackL seed chs cks k fr st n = [] := by unfold trackL; rw [e1, if_neg (by decide)]
    rw [e1, e2]
    clear e1 e2 hW
    go_enter Tryd.func36, Tryd.ntmps36
    go_wp2_with fail
    obtain ⟨w1, hw1⟩ : ∃ w1, w.alloc (.cells #[.int .u64 seed, .slice Ah chs.length chc, .slice Ak cks.length ckc] 26) = w1 := ⟨_, rfl⟩
    try rw [hw1]
    have hB : Below w.heap.size w w1 := by rw [← hw1]; exact (Below.refl _ w).alloc (by first | exact Nat.le_refl _ | (simp; done) | (simp; omega)) _
    have kx : w1.heap[w.heap.size]? = some (.cells #[.int .u64 seed, .slice Ah chs.length chc, .slice Ak cks.length ckc] 26 (0, 0)) := by rw [← hw1]; exact al_new _ _ _ (by first | rfl | (simp; done) | (simp; omega))
    have x0 : w1.cell? ⟨w.heap.size, 0, none⟩ = some (.int .u64 seed) := blk_cell kx 0
    have x1 : w1.cell? ⟨w.heap.size, 1, none⟩ = some (.slice Ah chs.length chc) := blk_cell kx 1
    have x2 : w1.cell? ⟨w.heap.size, 2, none⟩ = some (.slice Ak cks.length ckc) := blk_cell kx 2
    clear kx
    replace hv := hv.trans (hB.mono hv.size)
    clear hB hw1
    refine (c59 _ hv).mono ?_
    rintro en w2 ⟨rfl, hB⟩
    replace x0 := cell_on hB x0
    replace x1 := cell_on hB x1
    replace x2 := cell_on hB x2
    replace hv := hv.trans (hB.mono hv.size)
    clear hB c59
    go_wp2
    go_ret2
    exact ⟨none, 0, rfl, C_nil _ _, hv⟩
  have fg4 : decide (fr < 0) = false := decide_eq_false g4
  have fg4' : decide (0 > fr) = false := decide_eq_false g4
  by_cases g5 : 1000000 < fr
  · have fg5 : decide (1000000 < fr) = true := decide_eq_true g5
    have fg5' : decide (fr > 1000000) = true := decide_eq_true g5
    have e1 : errTr chs cks k fr st n = 21 := tr_time HEK.out hb (Or.inl (by omega))
    have e2 : trackL seed chs cks k fr st n = [] := by unfold trackL; rw [e1, if_neg (by decide)]
    rw [e1, e2]
    clear e1 e2 hW
    go_enter Tryd.func36, Tryd.ntmps36
    go_wp2_with fail
    obtain ⟨w1, hw1⟩ : ∃ w1, w.alloc (.cells #[.int .u64 seed, .slice Ah chs.length chc, .slice Ak cks.length ckc] 26) = w1 := ⟨_, rfl⟩
    try rw [hw1]
    have hB : Below w.heap.size w w1 := by rw [← hw1]; exact (Below.refl _ w).alloc (by first | exact Nat.le_refl _ | (simp; done) | (simp; omega)) _
    have kx : w1.heap[w.heap.size]? = some (.cells #[.int .u64 seed, .slice Ah chs.length chc, .slice Ak cks.length ckc] 26 (0, 0)) := by rw [← hw1]; exact al_new _ _ _ (by first | rfl | (simp; done) | (simp; omega))
    have x0 : w1.cell? ⟨w.heap.size, 0, none⟩ = some (.int .u64 seed) := blk_cell kx 0
    have x1 : w1.cell? ⟨w.heap.size, 1, none⟩ = some (.slice Ah chs.length chc) := blk_cell kx 1
    have x2 : w1.cell? ⟨w.heap.size, 2, none⟩ = some (.slice Ak cks.length ckc) := blk_cell kx 2
    clear kx
    replace hv := hv.trans (hB.mono hv.size)
    clear hB hw1
    refine (c59 _ hv).mono ?_
    rintro en w2 ⟨rfl, hB⟩
    replace x0 := cell_on hB x0
    replace x1 := cell_on hB x1
    replace x2 := cell_on hB x2
    replace hv := hv.trans (hB.mono hv.size)
    clear hB c59
    go_wp2
    go_ret2
    exact ⟨none, 0, rfl, C_nil _ _, hv⟩
  have fg5 : decide (1000000 < fr) = false := decide_eq_false g5
  have fg5' : decide (fr > 1000000) = false := decide_eq_false g5
  have g6 : 0 ≤ fr ∧ fr ≤ 1000000 := by omega
  have hk := errK_zero hE
  have hst1 : 1 ≤ st := by omega
  obtain ⟨N, rfl⟩ : ∃ N : Nat, n = N := ⟨n.toNat, by omega⟩
  have hN : N ≤ 20000 := by omega
  have HB0 := Aside0.mk hb
  have HOK := Aside0.mk hk.1
  have HKR := Aside0.mk hk.2
  have c29 := fun (s : Int) W (hB : Below w.heap.size w W) => rShown_calls seed Ah chc Ak ckc chs cks k s W (hW.below hB)
  have C29 := Aside0.mk c29
  obtain ⟨i3, hi3, hi30, hi31, hi32⟩ := info_parts info3n
  clear c29 hW hE hk hb g1 g2 g3 g4 g5
  go_enter Tryd.func36, Tryd.ntmps36
  go_wp2_with fail
  obtain ⟨w1, hw1⟩ : ∃ w1, w.alloc (.cells #[.int .u64 seed, .slice Ah chs.length chc, .slice Ak cks.length ckc] 26) = w1 := ⟨_, rfl⟩
  try rw [hw1]
  have hB : Below w.heap.size w w1 := by rw [← hw1]; exact (Below.refl _ w).alloc (by first | exact Nat.le_refl _ | (simp; done) | (simp; omega)) _
  have kx : w1.heap[w.heap.size]? = some (.cells #[.int .u64 seed, .slice Ah chs.length chc, .slice Ak cks.length ckc] 26 (0, 0)) := by rw [← hw1]; exact al_new _ _ _ (by first | rfl | (simp; done) | (simp; omega))
  have x0 : w1.cell? ⟨w.heap.size, 0, none⟩ = some (.int .u64 seed) := blk_cell kx 0
  have x1 : w1.cell? ⟨w.heap.size, 1, none⟩ = some (.slice Ah chs.length chc) := blk_cell kx 1
  have x2 : w1.cell? ⟨w.heap.size, 2, none⟩ = some (.slice Ak cks.length ckc) := blk_cell kx 2
  replace hv := hv.trans (hB.mono hv.size)
  clear hB hw1
  refine (c59 _ hv).mono ?_
  rintro en w2 ⟨rfl, hB⟩
  replace kx := blk_on hB kx
  replace x0 := cell_on hB x0
  replace x1 := cell_on hB x1
  replace x2 := cell_on hB x2
  replace hv := hv.trans (hB.mono hv.size)
  clear hB c59
  have HK := Aside0.mk kx
  have HV := Aside0.mk hv
  clear kx hv x0 x1 x2
  go_wp2
  go_loopw [14, 13] (fun v14 v13 wr => ∃ j : Nat, (j = 0 ∨ j < N) ∧ v14 = .int .i64 (1 + j) ∧ v13 = .int .i64 (fr + j * st) ∧ fr + (j : Int) * st ≤ 1000000 ∧ wr = w2) (fun v _ _ => N + 1 - (intOf v).toNat)
  case atStart => exact ⟨0, Or.inl rfl, by simp, by simp, by simp; omega, rfl⟩
  case round =>
    obtain ⟨j, hj, rfl, rfl, hle, rfl⟩ := hrel
    have hp0 : 0 ≤ (j : Int) * st := Int.mul_nonneg (by omega) (by omega)
    have HNXT := Aside0.mk (show ((j + 1 : Nat) : Int) * st = (j : Int) * st + st by push_cast; rw [Int.add_mul, Int.one_mul])
    by_cases hlt : j + 1 < N
    · have d1 : (1 : Int) + (j : Int) < (N : Int) := by omega
      have d1' : decide ((1 : Int) + (j : Int) < (N : Int)) = true := decide_eq_true d1
      obtain ⟨p, hp⟩ : ∃ p, (j : Int) * st = p := ⟨_, rfl⟩
      rw [hp] at hp0 hle ⊢
      have HP := Aside0.mk hp
      clear hp
      have m1 : IntKind.i64.wrap (1000000 - (fr + p)) = 1000000 - (fr + p) := C.wr _ (by omega) (by omega)
      by_cases g : 1000000 - (fr + p) < st
      · have f1 : decide (1000000 - (fr + p) < st) = true := decide_eq_true g
        have f1' : decide (st > 1000000 - (fr + p)) = true := decide_eq_true g
        have e1 : Aside0 (errTr chs cks k fr st (N : Int) = 21) := ⟨tr_time HEK.out HB0.out (Or.inr ⟨by omega, by
          have h1 := HNXT.out
          have h2 : ((j + 1 : Nat) : Int) * st ≤ ((N : Int) - 1) * st := Int.mul_le_mul_of_nonneg_right (by omega) (by omega)
          rw [HP.out] at h1
          omega⟩)⟩
        have e2 : Aside0 (trackL seed chs cks k fr st (N : Int) = []) := ⟨by unfold trackL; rw [e1.out, if_neg (by decide)]⟩
        clear g hle hp0
        go_wp2
        go_ret2
        first | exact ⟨none, 0, by rw [e1.out, e2.out]; rfl, by rw [e2.out]; exact C_nil _ _, HV.out⟩ | exact ⟨none, ⟨0, by rw [e1.out, e2.out]; rfl⟩, by rw [e2.out]; exact C_nil _ _, HV.out⟩
      · have f1 : decide (1000000 - (fr + p) < st) = false := decide_eq_false g
        have f1' : decide (st > 1000000 - (fr + p)) = false := decide_eq_false g
        have m2 : IntKind.i64.wrap (fr + p + st) = fr + p + st := C.wr _ (by omega) (by omega)
        have m3 : IntKind.i64.wrap (1 + (j : Int) + 1) = 1 + (j : Int) + 1 := C.wr _ (by omega) (by omega)
        have HLE := Aside0.mk (show fr + p + st ≤ 1000000 by omega)
        clear g hle hp0
        go_wp2
        go_roundw
        case rel => exact ⟨j + 1, Or.inr hlt, by first | (congr 1; push_cast; omega) | (simp; omega), by rw [HNXT.out, HP.out, Int.add_assoc], by rw [HNXT.out, HP.out]; have := HLE.out; omega, by first | rfl | trivial⟩
        case measure => simp [intOf]; omega
    · have d1 : ¬ (1 : Int) + (j : Int) < (N : Int) := by omega
      have d1' : decide ((1 : Int) + (j : Int) < (N : Int)) = false := decide_eq_false d1
      have hb2 : ¬ (1 < (N : Int) ∧ 1000000 - fr < ((N : Int) - 1) * st) := by
        rintro ⟨h1, h2⟩
        have e : (N : Int) - 1 = (j : Int) := by omega
        rw [e] at h2
        omega
      have HTR := Aside0.mk (tr_run HEK.out HB0.out (by rintro (h | h); (exact h g6); (exact hb2 h)))
      have HAT := Aside0.mk (fun (m : Nat) (hm : m < N) => tr_at (fr := fr) (st := st) (n := (N : Int)) hst1 g6 hb2 (j := m) (by omega))
      clear hb2 hle hp0 hj HNXT
      go_upto_block 2 with fail
      clear d1 d1' hlt
      go_wp2
      go_loopw [16, 15] (fun v16 v15 wz => ∃ m : Nat, m ≤ N ∧ v16 = .int .i64 m ∧ Aside0 (Below wr.heap.size wr wz) ∧ Aside0 (wz.ownsRow wr.heap.size 3 1 v15 m (icells (trackV seed chs cks k fr st m))) ∧ Aside0 (∀ a : Nat, a < m → runsF (ckAt cks k).es (fr + (a : Int) * st) = true)) (fun v _ _ => N - (intOf v).toNat)
      case atStart => exact ⟨0, Nat.zero_le _, rfl, ⟨Below.refl _ _⟩, ⟨own_nil _ _ _ _⟩, ⟨fun a h => by omega⟩⟩
      case round =>
        obtain ⟨m, hm, rfl, HB, HOW, HRU⟩ := hrel
        rename World => wz
        have HV2 := Aside0.mk (HV.out.trans (HB.out.mono HV.out.size))
        have kx := blk_on HB.out HK.out
        have x0 : wz.cell? ⟨w.heap.size, 0, none⟩ = some (.int .u64 seed) := blk_cell kx 0
        have x1 : wz.cell? ⟨w.heap.size, 1, none⟩ = some (.slice Ah chs.length chc) := blk_cell kx 1
        have x2 : wz.cell? ⟨w.heap.size, 2, none⟩ = some (.slice Ak cks.length ckc) := blk_cell kx 2
        clear kx
        by_cases hlt : m < N
        rotate_left
        · have d1 : ¬ (m : Int) < (N : Int) := by omega
          obtain rfl : m = N := by omega
          have HALL : Aside0 (errTr chs cks k fr st (m : Int) = 0) := ⟨by rw [HTR.out, if_pos]; rw [List.all_eq_true]; intro a ha; exact HRU.out a (by simpa using ha)⟩
          have HL : Aside0 (trackL seed chs cks k fr st (m : Int) = trackV seed chs cks k fr st m) := ⟨by unfold trackL; rw [if_pos HALL.out, Int.toNat_natCast]⟩
          obtain ⟨A, c, hA9, hCI⟩ := own_I (l := trackV seed chs cks k fr st m) (by rw [trackV_len]; exact HOW.out)
          subst hA9
          have HCI := Aside0.mk hCI
          have HLN := Aside0.mk (trackV_len seed chs cks k fr st m)
          clear hCI hlt HOW x0 x1 x2
          generalize (trackV seed chs cks k fr st m).length = len at *
          go_wp2
          go_ret2
          first | exact ⟨A, ⟨c, by rw [HALL.out, HL.out, trackV_len, HLN.out]; rfl⟩, by rw [HL.out]; have := HCI.out; rw [trackV_len]; rwa [HLN.out] at this, HV2.out⟩ | exact ⟨A, c, by rw [HALL.out, HL.out, trackV_len, HLN.out]; rfl, by rw [HL.out]; have := HCI.out; rw [trackV_len]; rwa [HLN.out] at this, HV2.out⟩
        · have d1 : (m : Int) < (N : Int) := by omega
          have hat := HAT.out m hlt
          have HNX := Aside0.mk (trackV_next seed chs cks k fr st m)
          obtain ⟨p, hp⟩ : ∃ p, (m : Int) * st = p := ⟨_, rfl⟩
          have m1 : IntKind.i64.wrap ((m : Int) * st) = p := by rw [hp]; exact C.wr _ (by omega) (by omega)
          rw [hp] at hat HNX
          obtain ⟨s, hs⟩ : ∃ s, fr + p = s := ⟨_, rfl⟩
          have m2 : IntKind.i64.wrap (fr + p) = s := by rw [hs]; exact C.wr _ (by omega) (by omega)
          rw [hs] at hat HNX
          have hs0 : 0 ≤ s ∧ s ≤ 1000000 := by omega
          have HPS := Aside0.mk (show fr + (m : Int) * st = s by rw [hp, hs])
          have hES : errS chs cks k s = 0 := by unfold errS timedF; rw [if_pos HEK.out, if_pos hs0]
          have hEN : errN chs cks k s = if runsF (ckAt cks k).es s then 0 else 22 := by unfold errN; rw [if_pos hES]
          have c29 := C29.out s wz HV2.out
          unfold shownR at c29
          rw [hEN] at c29
          obtain ⟨r, hr⟩ : ∃ r, runsF (ckAt cks k).es s = r := ⟨_, rfl⟩
          rw [hr] at c29
          have HR := Aside0.mk hr
          clear hr hEN hES hs0 hat hp hs
          cases r
          · have HALL : Aside0 (errTr chs cks k fr st (N : Int) = 22) := ⟨by
              rw [HTR.out, if_neg]
              intro h
              rw [List.all_eq_true] at h
              have := h m (by simpa using hlt)
              rw [HPS.out, HR.out] at this
              cases this⟩
            have HL : Aside0 (trackL seed chs cks k fr st (N : Int) = []) := ⟨by unfold trackL; rw [HALL.out, if_neg (by decide)]⟩
            simp only [Bool.false_eq_true, if_false] at c29
            rw [if_neg (by decide)] at c29
            go_wp2_with fail
            refine c29.mono ?_
            rintro en w6 ⟨rfl, hB⟩
            have HV6 := Aside0.mk (HV2.out.trans (hB.mono HV2.out.size))
            clear hB c29 x0 x1 x2
            go_wp2
            go_ret2
            first | exact ⟨none, 0, by rw [HALL.out, HL.out]; rfl, by rw [HL.out]; exact C_nil _ _, HV6.out⟩ | exact ⟨none, ⟨0, by rw [HALL.out, HL.out]; rfl⟩, by rw [HL.out]; exact C_nil _ _, HV6.out⟩
          · simp only [if_true] at c29
            obtain ⟨V, hV⟩ : ∃ v, shownF seed chs cks k s = v := ⟨_, rfl⟩
            rw [hV] at c29 HNX
            clear hV
            go_wp2_with fail
            refine c29.mono ?_
            rintro en w6 ⟨rfl, hB⟩
            have HB6 := Aside0.mk (HB.out.trans (hB.mono HB.out.size))
            have hsz6 := hB.size
            have hownD : (w6.alloc (.cells #[.int .i64 V] 3)).ownsRow wr.heap.size 3 1 u15 m (icells (trackV seed chs cks k fr st m)) := own_move HOW.out (fun a ha => (Below.heap_alloc _ _ a (by have := own_lt HOW.out a ha; omega)).trans (hB.block a (own_lt HOW.out a ha)))
            have hobs := own_base HOW.out
            have hzz := HB6.out.size
            clear hB c29 x0 x1 x2
            go_wp2_with (at_builtin; refine wpList_append_own _ rfl _ _ 76 rfl wr.heap.size 3 i3 (.int .i64 0) 1 8 Tryd.underlying76 hi3 hi30 hi31 hi32 rfl (by decide) _ _ _ rfl hownD ⟨w6.heap.size, 0, none⟩ 1 1 [.int .i64 V] rfl ?qc1 ?qc2 ?qc3 ?qc4 ?qc5 ?qc6 ?_)
            all_goals try (first | (case qc1 => rfl) | (case qc2 => exact World.news_of_block (cs := #[.int .i64 V]) (t := 3) (fr := (0, 0)) (al_new _ _ _ (by simp))) | (case qc3 => simp [Value.oneCell']) | (case qc4 => unfold maxLen; omega) | (case qc5 => omega) | (case qc6 => first | omega | (simp; omega)))
            intro v' w7 hown1 hgrow1 hnil1
            have HOWN : Aside0 (w7.ownsRow wr.heap.size 3 1 v' (m + 1) (icells (trackV seed chs cks k fr st (m + 1)))) := ⟨by rw [HNX.out, icells_snoc]; exact hown1⟩
            have HB7 : Aside0 (Below wr.heap.size wr w7) := ⟨(HB6.out.alloc HB6.out.size _).grown hgrow1 (by simp; omega) (fun a ha => hobs a ha)⟩
            have HRU2 : Aside0 (∀ a : Nat, a < m + 1 → runsF (ckAt cks k).es (fr + (a : Int) * st) = true) := ⟨fun a ha => by by_cases e : a = m; (subst e; rw [HPS.out]; exact HR.out); exact HRU.out a (by omega)⟩
            clear hown1 hgrow1 hnil1 hownD hobs hzz hsz6
            go_wp2
            go_roundw
            case rel => exact ⟨m + 1, hlt, by go_num, HB7, HOWN, HRU2⟩
            case measure => simp [intOf]; omega
end Go.Proofs.YtlfnnalepdjagaaDoor.C
end
