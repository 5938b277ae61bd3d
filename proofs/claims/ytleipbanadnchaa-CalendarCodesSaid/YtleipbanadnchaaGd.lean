/- Contracts of a counted table's seconds, FromUnix, FromNtp in general, by hand. -/
import Derived.OwnWalk
import Derived.Laws.AppendOwn
import Derived.Laws.BitsLemmas
import Derived.Test.YtleipbanadnchaaGa
import Derived.Test.YtleipbanadnchaaCq
namespace Go.Proofs.Ytleipbanadnchaa.C
open Go.RowKit Go.Shelf Go.Maps Go.Proofs.YtleipbanadnchaaW.PrintWords Go.Proofs.YtleipbanadnchaaW.PrintLast Go.Proofs.YtleipbanadnchaaW.PrintMore
set_option linter.unusedVariables false
set_option linter.unusedSimpArgs false
/-- The seconds with Unix seconds: the leap second before a midnight, and the second of the day. -/
def secA (l : List (Int × Int)) (u n m : Int) : List Int := if 41317 < n ∧ n ≤ u ∧ m = 0 ∧ stepF l (n - 1) = 1 then [beginF l n - 1] else []
def secB (l : List (Int × Int)) (u n m : Int) : List Int := if n < u ∧ m < 86400 + stepF l n then [beginF l n + m] else []
def secsF (l : List (Int × Int)) (u x : Int) : List Int := if x < 63072000 ∨ 4102444800 < x then [] else secA l u (40587 + x / 86400) (x % 86400) ++ secB l u (40587 + x / 86400) (x % 86400)
theorem sec_fin {w' : World} {q q' : List Int} {v : Value} (hq : q = q') (h : ∃ A c, v = .slice A q'.length c ∧ Kd.C (Kd.int .i64) w' A q'.length q') : ∃ A c, Ending.returned v = .returned (.slice A q.length c) ∧ Kd.C (Kd.int .i64) w' A q.length q := by
  subst hq
  obtain ⟨A, c, e, h⟩ := h
  exact ⟨A, c, by rw [e], h⟩
set_option maxHeartbeats 8000000 in
set_option maxRecDepth 100000 in
theorem seconds_calls (kb : Nat) (b u : Int) (A : Option Addr) (c : Nat) (l : List (Int × Int)) (x : Int) (w : World) (hc : CtAt w kb b A c u l) (hR : Right u l) (hlen : l.length ≤ 100) (hu0 : 41318 ≤ u) (hu : u ≤ 88069) :
    Calls Try.prog 89 #[.pointer (some ⟨kb, 0, none⟩), .int .i64 x] w fun e w' => (∃ Ad cc, e = .returned (.slice Ad (secsF l u x).length cc) ∧ Kd.C (Kd.int .i64) w' Ad (secsF l u x).length (secsF l u x)) ∧ Below w.heap.size w w' := by
  obtain ⟨ii, hii, hz0, hz1, hz2⟩ := info_parts info3n
  have HC := Aside0.mk hc
  have hRC := Aside0.mk hR
  obtain ⟨_, _, hkx, _⟩ := hc
  have u2 : w.cell? ⟨kb, 2, none⟩ = some (.int .i64 u) := blk_cell hkx 2
  clear hkx
  have HE := Aside0.mk (own_ints (l := []) (own_nil w w.heap.size 3 1))
  by_cases hx0 : x < 63072000
  · have d1 : decide (x < 63072000) = true := decide_eq_true hx0
    have HQ : Aside0 (secsF l u x = []) := ⟨by unfold secsF; rw [if_pos (Or.inl hx0)]⟩
    clear hx0
    go_enter Try.func89, Try.ntmps89
    go_wp2
    go_ret
    exact ⟨sec_fin HQ.out HE.out, Below.refl _ _⟩
  by_cases hx1 : 4102444800 < x
  · have d1 : decide (x < 63072000) = false := decide_eq_false hx0
    have d2 : decide (4102444800 < x) = true := decide_eq_true hx1
    have HQ : Aside0 (secsF l u x = []) := ⟨by unfold secsF; rw [if_pos (Or.inr hx1)]⟩
    clear hx0 hx1
    go_enter Try.func89, Try.ntmps89
    go_wp2
    go_ret
    exact ⟨sec_fin HQ.out HE.out, Below.refl _ _⟩
  have d1 : decide (x < 63072000) = false := decide_eq_false hx0
  have d2 : decide (4102444800 < x) = false := decide_eq_false hx1
  have HS : Aside0 (secsF l u x = secA l u (40587 + x / 86400) (x % 86400) ++ secB l u (40587 + x / 86400) (x % 86400)) := ⟨by unfold secsF; rw [if_neg (by omega)]⟩
  obtain ⟨n, hxd⟩ : ∃ n, 40587 + x / 86400 = n := ⟨_, rfl⟩
  obtain ⟨m, hxm⟩ : ∃ m, x % 86400 = m := ⟨_, rfl⟩
  rw [hxd, hxm] at HS
  have hn0 : 41317 ≤ n := by omega
  have hn1 : n ≤ 88069 := by omega
  have hm0 : 0 ≤ m := by omega
  have hm1 : m < 86400 := by omega
  have a88 := fun w hc => length_calls kb b u A c l (n - 1) (wf_64 (by omega) (by omega)) w hc hR
  have b88 := fun w hc => length_calls kb b u A c l n (wf_64 (by omega) (by omega)) w hc hR
  have a115 := fun w hc => begin_calls kb b u A c l n (by omega) (by omega) w hc hR hlen
  have hsb := step_bound n l (fun x hx => (hR.steps x hx).1)
  have hsb1 := step_bound (n - 1) l (fun x hx => (hR.steps x hx).1)
  have hgb := hR.take l.length n
  rw [List.take_length] at hgb
  have hbb : -1000000000000 ≤ beginF l n ∧ beginF l n ≤ 1000000000000 := by unfold beginF; omega
  have HA : Aside0 (∀ q, (if 41317 < n ∧ n ≤ u ∧ m = 0 ∧ stepF l (n - 1) = 1 then [beginF l n - 1] else []) = q → secA l u n m = q) := ⟨fun q h => h⟩
  have HB : Aside0 (∀ q, (if n < u ∧ m < 86400 + stepF l n then [beginF l n + m] else []) = q → secB l u n m = q) := ⟨fun q h => h⟩
  clear hgb hR
  generalize beginF l n = g at *
  generalize stepF l n = sn at *
  generalize stepF l (n - 1) = s1 at *
  by_cases hA : ¬ 41317 < n
  · have d3 : decide (41317 < n) = false := decide_eq_false hA
    have HA1 : Aside0 (secA l u n m = []) := ⟨HA.out [] (if_neg (fun h => hA h.1))⟩
    clear HA
    have hnu : n < u := by omega
    clear hA
    go_enter Try.func89, Try.ntmps89
    by_cases hII : m < 86400 + sn
    rotate_left
    · have d5 : decide (n < u) = true := decide_eq_true (by omega)
      have d6 : decide (m < 86400 + sn) = false := decide_eq_false hII
      have HB1 : Aside0 (secB l u n m = []) := ⟨HB.out [] (if_neg (fun h => hII h.2))⟩
      clear hII HB
      go_wp2_with fail
      refine (b88 _ HC.out).mono ?_
      rintro en w4 ⟨rfl, rfl⟩
      go_wp2
      go_ret
      obtain ⟨A0, c0, e0, h0⟩ := sec_fin (q := secsF l u x) (by rw [HS.out, HA1.out, HB1.out]; rfl) HE.out
      first | exact ⟨⟨A0, c0, e0, h0⟩, Below.refl _ _⟩ | exact ⟨⟨A0, ⟨c0, e0⟩, h0⟩, Below.refl _ _⟩
    have d5 : decide (n < u) = true := decide_eq_true (by omega)
    have d6 : decide (m < 86400 + sn) = true := decide_eq_true (by omega)
    have HB1 : Aside0 (secB l u n m = [g + m]) := ⟨HB.out _ (if_pos ⟨by omega, by omega⟩)⟩
    clear HB
    go_wp2_with fail
    refine (b88 _ HC.out).mono ?_
    rintro en w4 ⟨rfl, rfl⟩
    go_wp2_with fail
    refine (a115 _ HC.out).mono ?_
    rintro en w5 ⟨rfl, hB⟩
    go_wp2_with (at_builtin; refine wpList_append_own _ rfl _ _ 61 rfl w4.heap.size 3 ii (.int .i64 0) 1 8 Try.underlying61 hii hz0 hz1 hz2 rfl (by decide) _ _ _ rfl (own_nil _ _ _ _) ⟨w5.heap.size, 0, none⟩ 1 1 [.int .i64 (g + m)] rfl ?qc1 ?qc2 ?qc3 ?qc4 ?qc5 ?qc6 ?_)
    case qc1 => rfl
    case qc2 => exact cell_one_new _ _ _
    case qc3 => simp [Value.oneCell']
    case qc4 => unfold maxLen; omega
    case qc5 => omega
    case qc6 => have := hB.size; simp; omega
    intro v6 w6 hownN hgrow hnil
    have hv5 : Below w4.heap.size w4 (w5.alloc (.cells #[.int .i64 (g + m)] 3)) := hB.alloc (by have := hB.size; omega) _
    have hv6 : Below w4.heap.size w4 w6 := hv5.grown hgrow hv5.size (fun k hk => by simp [Value.ownBlock] at hk)
    go_wp2
    go_ret
    exact ⟨sec_fin (q := secsF l u x) (by rw [HS.out, HA1.out, HB1.out]; rfl) (own_ints (l := [g + m]) (by simpa using hownN)), hv6⟩
  by_cases hBb : ¬ n ≤ u
  · have d3 : decide (41317 < n) = true := decide_eq_true (by omega)
    have d4 : decide (n ≤ u) = false := decide_eq_false hBb
    have HA1 : Aside0 (secA l u n m = []) := ⟨HA.out [] (if_neg (fun h => hBb h.2.1))⟩
    clear HA
    have d5 : decide (n < u) = false := decide_eq_false (by omega)
    have HB1 : Aside0 (secB l u n m = []) := ⟨HB.out [] (if_neg (by omega))⟩
    clear HB hBb
    go_enter Try.func89, Try.ntmps89
    go_wp2
    go_ret
    obtain ⟨A0, c0, e0, h0⟩ := sec_fin (q := secsF l u x) (by rw [HS.out, HA1.out, HB1.out]; rfl) HE.out
    first | exact ⟨⟨A0, c0, e0, h0⟩, Below.refl _ _⟩ | exact ⟨⟨A0, ⟨c0, e0⟩, h0⟩, Below.refl _ _⟩
  have d3 : decide (41317 < n) = true := decide_eq_true (by omega)
  have d4 : decide (n ≤ u) = true := decide_eq_true (by omega)
  have hnle : n ≤ u := by omega
  have hn41 : 41317 < n := by omega
  clear hBb hA
  by_cases hCm : ¬ m = 0
  · have q0 : (m == 0) = false := beq_eq_false_iff_ne.2 hCm
    have HA1 : Aside0 (secA l u n m = []) := ⟨HA.out [] (if_neg (fun h => hCm h.2.2.1))⟩
    clear HA hCm
    go_enter Try.func89, Try.ntmps89
    by_cases hI : n < u
    rotate_left
    · have d5 : decide (n < u) = false := decide_eq_false hI
      have HB1 : Aside0 (secB l u n m = []) := ⟨HB.out [] (if_neg (fun h => hI h.1))⟩
      clear hI HB
      go_wp2
      go_ret
      obtain ⟨A0, c0, e0, h0⟩ := sec_fin (q := secsF l u x) (by rw [HS.out, HA1.out, HB1.out]; rfl) HE.out
      first | exact ⟨⟨A0, c0, e0, h0⟩, Below.refl _ _⟩ | exact ⟨⟨A0, ⟨c0, e0⟩, h0⟩, Below.refl _ _⟩
    by_cases hII : m < 86400 + sn
    rotate_left
    · have d5 : decide (n < u) = true := decide_eq_true (by omega)
      have d6 : decide (m < 86400 + sn) = false := decide_eq_false hII
      have HB1 : Aside0 (secB l u n m = []) := ⟨HB.out [] (if_neg (fun h => hII h.2))⟩
      clear hII HB
      go_wp2_with fail
      refine (b88 _ HC.out).mono ?_
      rintro en w4 ⟨rfl, rfl⟩
      go_wp2
      go_ret
      obtain ⟨A0, c0, e0, h0⟩ := sec_fin (q := secsF l u x) (by rw [HS.out, HA1.out, HB1.out]; rfl) HE.out
      first | exact ⟨⟨A0, c0, e0, h0⟩, Below.refl _ _⟩ | exact ⟨⟨A0, ⟨c0, e0⟩, h0⟩, Below.refl _ _⟩
    have d5 : decide (n < u) = true := decide_eq_true (by omega)
    have d6 : decide (m < 86400 + sn) = true := decide_eq_true (by omega)
    have HB1 : Aside0 (secB l u n m = [g + m]) := ⟨HB.out _ (if_pos ⟨by omega, by omega⟩)⟩
    clear HB
    go_wp2_with fail
    refine (b88 _ HC.out).mono ?_
    rintro en w4 ⟨rfl, rfl⟩
    go_wp2_with fail
    refine (a115 _ HC.out).mono ?_
    rintro en w5 ⟨rfl, hB⟩
    go_wp2_with (at_builtin; refine wpList_append_own _ rfl _ _ 61 rfl w4.heap.size 3 ii (.int .i64 0) 1 8 Try.underlying61 hii hz0 hz1 hz2 rfl (by decide) _ _ _ rfl (own_nil _ _ _ _) ⟨w5.heap.size, 0, none⟩ 1 1 [.int .i64 (g + m)] rfl ?qc1 ?qc2 ?qc3 ?qc4 ?qc5 ?qc6 ?_)
    case qc1 => rfl
    case qc2 => exact cell_one_new _ _ _
    case qc3 => simp [Value.oneCell']
    case qc4 => unfold maxLen; omega
    case qc5 => omega
    case qc6 => have := hB.size; simp; omega
    intro v6 w6 hownN hgrow hnil
    have hv5 : Below w4.heap.size w4 (w5.alloc (.cells #[.int .i64 (g + m)] 3)) := hB.alloc (by have := hB.size; omega) _
    have hv6 : Below w4.heap.size w4 w6 := hv5.grown hgrow hv5.size (fun k hk => by simp [Value.ownBlock] at hk)
    go_wp2
    go_ret
    exact ⟨sec_fin (q := secsF l u x) (by rw [HS.out, HA1.out, HB1.out]; rfl) (own_ints (l := [g + m]) (by simpa using hownN)), hv6⟩
  obtain rfl : m = 0 := by omega
  clear hCm
  by_cases hD : ¬ s1 = 1
  · have q0 : ((86400 + s1) == 86401) = false := beq_eq_false_iff_ne.2 (by omega)
    have HA1 : Aside0 (secA l u n 0 = []) := ⟨HA.out [] (if_neg (fun h => hD h.2.2.2))⟩
    clear HA hD
    go_enter Try.func89, Try.ntmps89
    go_wp2_with fail
    refine (a88 _ HC.out).mono ?_
    rintro en w1 ⟨rfl, rfl⟩
    by_cases hI : n < u
    rotate_left
    · have d5 : decide (n < u) = false := decide_eq_false hI
      have HB1 : Aside0 (secB l u n 0 = []) := ⟨HB.out [] (if_neg (fun h => hI h.1))⟩
      clear hI HB
      go_wp2
      go_ret
      obtain ⟨A0, c0, e0, h0⟩ := sec_fin (q := secsF l u x) (by rw [HS.out, HA1.out, HB1.out]; rfl) HE.out
      first | exact ⟨⟨A0, c0, e0, h0⟩, Below.refl _ _⟩ | exact ⟨⟨A0, ⟨c0, e0⟩, h0⟩, Below.refl _ _⟩
    have d5 : decide (n < u) = true := decide_eq_true (by omega)
    have d6 : decide (0 < 86400 + sn) = true := decide_eq_true (by omega)
    have HB1 : Aside0 (secB l u n 0 = [g + 0]) := ⟨HB.out _ (if_pos ⟨by omega, by omega⟩)⟩
    clear HB
    go_wp2_with fail
    refine (b88 _ HC.out).mono ?_
    rintro en w4 ⟨rfl, rfl⟩
    go_wp2_with fail
    refine (a115 _ HC.out).mono ?_
    rintro en w5 ⟨rfl, hB⟩
    go_wp2_with (at_builtin; refine wpList_append_own _ rfl _ _ 61 rfl w4.heap.size 3 ii (.int .i64 0) 1 8 Try.underlying61 hii hz0 hz1 hz2 rfl (by decide) _ _ _ rfl (own_nil _ _ _ _) ⟨w5.heap.size, 0, none⟩ 1 1 [.int .i64 (g)] rfl ?qc1 ?qc2 ?qc3 ?qc4 ?qc5 ?qc6 ?_)
    case qc1 => rfl
    case qc2 => exact cell_one_new _ _ _
    case qc3 => simp [Value.oneCell']
    case qc4 => unfold maxLen; omega
    case qc5 => omega
    case qc6 => have := hB.size; simp; omega
    intro v6 w6 hownN hgrow hnil
    have hv5 : Below w4.heap.size w4 (w5.alloc (.cells #[.int .i64 (g)] 3)) := hB.alloc (by have := hB.size; omega) _
    have hv6 : Below w4.heap.size w4 w6 := hv5.grown hgrow hv5.size (fun k hk => by simp [Value.ownBlock] at hk)
    go_wp2
    go_ret
    exact ⟨sec_fin (q := secsF l u x) (by rw [HS.out, HA1.out, HB1.out]; rfl) (own_ints (l := [g + 0]) (by simpa using hownN)), hv6⟩
  obtain rfl : s1 = 1 := by omega
  clear hD
  have HA1 : Aside0 (secA l u n 0 = [g - 1]) := ⟨HA.out _ (if_pos ⟨by omega, by omega, rfl, rfl⟩)⟩
  clear HA
  go_enter Try.func89, Try.ntmps89
  go_wp2_with fail
  refine (a88 _ HC.out).mono ?_
  rintro en w1 ⟨rfl, rfl⟩
  go_wp2_with fail
  refine (a115 _ HC.out).mono ?_
  rintro en w2 ⟨rfl, hB⟩
  go_wp2_with (at_builtin; refine wpList_append_own _ rfl _ _ 61 rfl w1.heap.size 3 ii (.int .i64 0) 1 8 Try.underlying61 hii hz0 hz1 hz2 rfl (by decide) _ _ _ rfl (own_nil _ _ _ _) ⟨w2.heap.size, 0, none⟩ 1 1 [.int .i64 (g - 1)] rfl ?qc1 ?qc2 ?qc3 ?qc4 ?qc5 ?qc6 ?_)
  case qc1 => rfl
  case qc2 => exact cell_one_new _ _ _
  case qc3 => simp [Value.oneCell']
  case qc4 => unfold maxLen; omega
  case qc5 => omega
  case qc6 => have := hB.size; simp; omega
  intro v3 w3 hownN hgrow hnil
  have hv2 : Below w1.heap.size w1 (w2.alloc (.cells #[.int .i64 (g - 1)] 3)) := hB.alloc (by have := hB.size; omega) _
  have hv3 : Below w1.heap.size w1 w3 := hv2.grown hgrow hv2.size (fun k hk => by simp [Value.ownBlock] at hk)
  have u3 : w3.cell? ⟨kb, 2, none⟩ = some (.int .i64 u) := cell_on hv3 u2
  have hown' : w3.ownsRow w1.heap.size 3 1 v3 1 [.int .i64 (g - 1)] := by simpa using hownN
  clear hv2 hgrow hnil hownN u2 hB
  by_cases hI : n < u
  rotate_left
  · have d5 : decide (n < u) = false := decide_eq_false hI
    have HB1 : Aside0 (secB l u n 0 = []) := ⟨HB.out [] (if_neg (fun h => hI h.1))⟩
    clear hI HB
    go_wp2
    go_ret
    obtain ⟨A0, c0, e0, h0⟩ := sec_fin (q := secsF l u x) (by rw [HS.out, HA1.out, HB1.out]; rfl) (own_ints (l := [g - 1]) hown')
    first | exact ⟨⟨A0, c0, e0, h0⟩, hv3⟩ | exact ⟨⟨A0, ⟨c0, e0⟩, h0⟩, hv3⟩
  have d5 : decide (n < u) = true := decide_eq_true (by omega)
  have d6 : decide (0 < 86400 + sn) = true := decide_eq_true (by omega)
  have HB1 : Aside0 (secB l u n 0 = [g + 0]) := ⟨HB.out _ (if_pos ⟨by omega, by omega⟩)⟩
  clear HB
  go_wp2_with fail
  refine (b88 _ (HC.out.below hv3)).mono ?_
  rintro en w4 ⟨rfl, rfl⟩
  go_wp2_with fail
  refine (a115 _ (HC.out.below hv3)).mono ?_
  rintro en w5 ⟨rfl, hB⟩
  have hv5 := hv3.trans (hB.mono hv3.size)
  have hs5 := hv5.size
  have hown5 : (w5.alloc (.cells #[.int .i64 (g)] 3)).ownsRow w1.heap.size 3 1 v3 1 [.int .i64 (g - 1)] := own_move hown' (fun k hk => by
    have hlt := own_lt hown' k hk
    exact (Below.heap_alloc w5 _ k (by have := hB.size; omega)).trans (hB.block k hlt))
  go_wp2_with (at_builtin; refine wpList_append_own _ rfl _ _ 61 rfl w1.heap.size 3 ii (.int .i64 0) 1 8 Try.underlying61 hii hz0 hz1 hz2 rfl (by decide) _ _ _ rfl hown5 ⟨w5.heap.size, 0, none⟩ 1 1 [.int .i64 (g)] rfl ?qc1 ?qc2 ?qc3 ?qc4 ?qc5 ?qc6 ?_)
  case qc1 => rfl
  case qc2 => exact cell_one_new _ _ _
  case qc3 => simp [Value.oneCell']
  case qc4 => unfold maxLen; omega
  case qc5 => omega
  case qc6 => have := hB.size; simp; omega
  intro v6 w6 hownN hgrow hnil
  have hv6a : Below w1.heap.size w1 (w5.alloc (.cells #[.int .i64 (g)] 3)) := hv5.alloc hs5 _
  have hv6 : Below w1.heap.size w1 w6 := hv6a.grown hgrow hv6a.size (fun k hk => own_base hown5 k hk)
  go_wp2
  go_ret
  exact ⟨sec_fin (q := secsF l u x) (by rw [HS.out, HA1.out, HB1.out]; rfl) (own_ints (l := [g - 1, g + 0]) (by simpa using hownN)), hv6⟩
/-- A slice of seconds and an error. -/
def RetL (w' : World) (e : Ending) (q : List Int) (er : Int) : Prop := ∃ Ad cc, e = .returned (.tuple #[.slice Ad q.length cc, .int .i64 er]) ∧ Kd.C (Kd.int .i64) w' Ad q.length q
def fromUL (b : Int) (l : List (Int × Int)) (u x : Int) : List Int := if checkF b l u = 0 then secsF l u x else []
def fromUE (b : Int) (l : List (Int × Int)) (u x : Int) : Int := if checkF b l u = 0 then (if secsF l u x = [] then 4 else 0) else checkF b l u
theorem C_nil (w : World) : Kd.C (Kd.int .i64) w none 0 [] := by
  obtain ⟨A, c, e, h⟩ := own_ints (l := []) (own_nil w w.heap.size 3 1)
  cases e; exact h
theorem RetL_nil (w' : World) (er : Int) : RetL w' (.returned (.tuple #[.slice none 0 0, .int .i64 er])) [] er := ⟨none, 0, rfl, C_nil w'⟩
set_option maxHeartbeats 1000000 in
set_option maxRecDepth 100000 in
theorem FromUnix_calls (b u : Int) (A : Option Addr) (c : Nat) (l : List (Int × Int)) (x : Int) (w : World) (hr : Kd.C kl w A l.length l) :
    Calls Try.prog 32 #[tabV b A l.length c u, .int .i64 x] w fun e w' => RetL w' e (fromUL b l u x) (fromUE b l u x) ∧ Below w.heap.size w w' := by
  have HR := Aside0.mk hr
  have a62 := fun w h => open_calls b u A c l w h
  clear hr
  by_cases hk : checkF b l u = 0
  · obtain ⟨h1, h2, h3, h4, h5, h6⟩ := checkF_right hk
    have a89 := fun kb w hc => seconds_calls kb b u A c l x w hc h6 h5 (by omega) h4
    have hL : fromUL b l u x = secsF l u x := by unfold fromUL; rw [if_pos hk]
    have hE : fromUE b l u x = if secsF l u x = [] then 4 else 0 := by unfold fromUE; rw [if_pos hk]
    obtain ⟨er, her⟩ : ∃ er : Int, (if secsF l u x = [] then 4 else 0) = er := ⟨_, rfl⟩
    rw [hL, hE, her]
    rw [hk] at a62
    clear hk hL hE h6
    generalize secsF l u x = q at *
    go_enter Try.func32, Try.ntmps32
    go_wp2_with fail
    refine (a62 _ (Kd.C_below HR.out ((Below.refl _ w).alloc (Nat.le_refl _) _))).mono ?_
    rintro en w1 ⟨_, h2', hB⟩
    obtain ⟨kb, rfl, hkb, hct⟩ := (by first | exact h2' rfl | exact h2' trivial | exact h2')
    have hv : Below w.heap.size w w1 := ((Below.refl _ w).alloc (Nat.le_refl _) _).trans (hB.mono (by simp))
    clear hB h2' a62
    have HCt := Aside0.mk hct
    clear hct
    go_wp2_with fail
    refine (a89 kb _ HCt.out).mono ?_
    rintro en w2 ⟨⟨Ad, cc, rfl, hC⟩, hB⟩
    have hv2 := hv.trans (hB.mono hv.size)
    have hl0 : q = [] ∨ q ≠ [] := by by_cases h : q = [] <;> simp [h]
    rcases hl0 with rfl | hne
    · rw [if_pos rfl] at her
      subst her
      go_wp2
      go_ret2
      exact ⟨RetL_nil _ 4, hv2⟩
    · have hn : q.length ≠ 0 := fun h => hne (List.length_eq_zero_iff.1 h)
      rw [if_neg hne] at her
      subst her
      have HF : Aside0 (RetL w2 (.returned (.tuple #[.slice Ad q.length cc, .int .i64 0])) q 0) := ⟨Ad, cc, rfl, hC⟩
      clear hne hC
      generalize q.length = n at *
      have q1 : ((n : Int) == 0) = false := beq_eq_false_iff_ne.2 (by omega)
      have q2 : (n == 0) = false := beq_eq_false_iff_ne.2 hn
      go_wp2
      go_ret2
      exact ⟨HF.out, hv2⟩
  · have hL : fromUL b l u x = [] := by unfold fromUL; rw [if_neg hk]
    have hE : fromUE b l u x = checkF b l u := by unfold fromUE; rw [if_neg hk]
    rw [hL, hE]
    have q1 : (checkF b l u == 0) = false := beq_eq_false_iff_ne.2 hk
    have q2 : (checkF b l u != 0) = true := bne_iff_ne.2 hk
    have HK := Aside0.mk hk
    clear hk hL hE
    generalize checkF b l u = er at *
    go_enter Try.func32, Try.ntmps32
    go_wp2_with fail
    refine (a62 _ (Kd.C_below HR.out ((Below.refl _ w).alloc (Nat.le_refl _) _))).mono ?_
    rintro en w1 ⟨h1', _, hB⟩
    obtain rfl := h1' HK.out
    have hv : Below w.heap.size w w1 := ((Below.refl _ w).alloc (Nat.le_refl _) _).trans (hB.mono (by simp))
    clear hB h1' a62
    go_wp2
    go_ret2
    exact ⟨RetL_nil _ _, hv⟩
end Go.Proofs.Ytleipbanadnchaa.C
