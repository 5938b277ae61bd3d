/- Contracts of a counted table's seconds, FromUnix, Seconds and slices.Equal on the examples' ways, by hand. -/
import Derived.OwnWalk
import Derived.Laws.AppendOwn
import Derived.Test.YtleipbanadnchaaCn
namespace Go.Proofs.Ytleipbanadnchaa.C
open Go.RowKit Go.Shelf Go.Maps Go.Proofs.YtleipbanadnchaaW.PrintWords Go.Proofs.YtleipbanadnchaaW.PrintLast Go.Proofs.YtleipbanadnchaaW.PrintMore
set_option linter.unusedVariables false
set_option linter.unusedSimpArgs false
theorem info3n : (Try.prog.info? 3).map (fun i => (i.zero, i.size, i.bytes)) = some (some (.int .i64 0), 1, 8) := by kernel_rfl
set_option maxHeartbeats 4000000 in
set_option maxRecDepth 100000 in
/-- The Unix seconds of a midnight behind a leap second have two seconds. -/
theorem seconds_leap (kb : Nat) (b u : Int) (A : Option Addr) (c : Nat) (l : List (Int × Int)) (x n : Int) (w : World) (hc : CtAt w kb b A c u l) (hR : Right u l) (hlen : l.length ≤ 100)
    (hx0 : 63072000 ≤ x) (hx1 : x ≤ 4102444800) (hxm : x % 86400 = 0) (hxd : 40587 + x / 86400 = n) (hn0 : 41317 < n) (hn1 : n < u) (hu : u ≤ 88069) (hst : stepF l (n - 1) = 1) :
    Calls Try.prog 89 #[.pointer (some ⟨kb, 0, none⟩), .int .i64 x] w fun e w' => ∃ v, e = .returned v ∧ w'.ownsRow w.heap.size 3 1 v 2 [.int .i64 (beginF l n - 1), .int .i64 (beginF l n)] ∧ Below w.heap.size w w' := by
  obtain ⟨ii, hii, hz0, hz1, hz2⟩ := info_parts info3n
  have a88 := fun w hc => length_calls kb b u A c l (n - 1) (wf_64 (by omega) (by omega)) w hc hR
  have b88 := fun w hc => length_calls kb b u A c l n (wf_64 (by omega) (by omega)) w hc hR
  have a115 := fun w hc => begin_calls kb b u A c l n (by omega) (by omega) w hc hR hlen
  have hsb := step_bound n l (fun x hx => (hR.steps x hx).1)
  have hgb := hR.take l.length n
  rw [List.take_length] at hgb
  have hbb : -1000000000000 ≤ beginF l n ∧ beginF l n ≤ 1000000000000 := by unfold beginF; omega
  rw [hst] at a88
  have HC := Aside0.mk hc
  obtain ⟨_, _, hkx, _⟩ := hc
  have u2 : w.cell? ⟨kb, 2, none⟩ = some (.int .i64 u) := blk_cell hkx 2
  clear hR hgb hst hkx
  generalize beginF l n = g at *
  generalize stepF l n = sn at *
  have d1 : decide (x < 63072000) = false := decide_eq_false (by omega)
  have d2 : decide (4102444800 < x) = false := decide_eq_false (by omega)
  have d3 : decide (41317 < n) = true := decide_eq_true (by omega)
  have d4 : decide (n ≤ u) = true := decide_eq_true (by omega)
  have d5 : decide (n < u) = true := decide_eq_true (by omega)
  have d6 : decide ((0 : Int) < 86400 + sn) = true := decide_eq_true (by omega)
  go_enter Try.func89, Try.ntmps89
  go_wp2_with fail
  refine (a88 _ HC.out).mono ?_
  rintro en w1 ⟨rfl, rfl⟩
  go_wp2_with fail
  refine (a115 _ HC.out).mono ?_
  rintro en w2 ⟨rfl, hB⟩
  go_wp2_with (at_builtin; refine wpList_append_own _ rfl _ _ 61 rfl w1.heap.size 3 ii (.int .i64 0) 1 8 Try.underlying61 hii hz0 hz1 hz2 rfl (by decide) _ _ _ rfl (own_nil _ _ _ _) ⟨w2.heap.size, 0, none⟩ 1 1 [.int .i64 (g - 1)] rfl ?qc1 ?qc2 ?qc3 ?qc4 ?qc5 ?qc6 ?_)
  case qc1 => rfl
  case qc2 => exact cell_one_new _ _ _
  case qc3 => simp [Value.oneCell']
  case qc4 => unfold maxLen; omega
  case qc5 => omega
  case qc6 => have := hB.size; simp; omega
  intro v3 w3 hown hgrow hnil
  have hv2 : Below w1.heap.size w1 (w2.alloc (.cells #[.int .i64 (g - 1)] 3)) := hB.alloc (by have := hB.size; omega) _
  have hv3 : Below w1.heap.size w1 w3 := hv2.grown hgrow hv2.size (fun k hk => by simp [Value.ownBlock] at hk)
  have u3 : w3.cell? ⟨kb, 2, none⟩ = some (.int .i64 u) := cell_on hv3 u2
  have hown' : w3.ownsRow w1.heap.size 3 1 v3 1 [.int .i64 (g - 1)] := by simpa using hown
  clear hv2 hgrow hnil hown u2 hB
  go_wp2_with fail
  refine (b88 _ (HC.out.below hv3)).mono ?_
  rintro en w4 ⟨rfl, rfl⟩
  go_wp2_with fail
  refine (a115 _ (HC.out.below hv3)).mono ?_
  rintro en w5 ⟨rfl, hB⟩
  have hv5 := hv3.trans (hB.mono hv3.size)
  have hs5 := hv5.size
  have hown5 : (w5.alloc (.cells #[.int .i64 g] 3)).ownsRow w1.heap.size 3 1 v3 1 [.int .i64 (g - 1)] := own_move hown' (fun k hk => by
    have hlt := own_lt hown' k hk
    exact (Below.heap_alloc w5 _ k (by have := hB.size; omega)).trans (hB.block k hlt))
  clear hown' u3
  go_wp2_with (at_builtin; refine wpList_append_own _ rfl _ _ 61 rfl w1.heap.size 3 ii (.int .i64 0) 1 8 Try.underlying61 hii hz0 hz1 hz2 rfl (by decide) _ _ _ rfl hown5 ⟨w5.heap.size, 0, none⟩ 1 1 [.int .i64 g] rfl ?qc1 ?qc2 ?qc3 ?qc4 ?qc5 ?qc6 ?_)
  case qc1 => rfl
  case qc2 => exact cell_one_new _ _ _
  case qc3 => simp [Value.oneCell']
  case qc4 => unfold maxLen; omega
  case qc5 => omega
  case qc6 => simp; omega
  intro v6 w6 hown6 hgrow hnil
  have hv6a : Below w1.heap.size w1 (w5.alloc (.cells #[.int .i64 g] 3)) := hv5.alloc hs5 _
  have hv6 : Below w1.heap.size w1 w6 := hv6a.grown hgrow hv6a.size (fun k hk => own_base hown5 k hk)
  go_wp2
  go_ret
  exact ⟨_, rfl, by simpa using hown6, hv6⟩
set_option maxRecDepth 100000 in
theorem FromUnix_leap (b u : Int) (A : Option Addr) (c : Nat) (l : List (Int × Int)) (x n : Int) (w : World) (hr : Kd.C kl w A l.length l) (hk : checkF b l u = 0)
    (hx0 : 63072000 ≤ x) (hx1 : x ≤ 4102444800) (hxm : x % 86400 = 0) (hxd : 40587 + x / 86400 = n) (hn0 : 41317 < n) (hn1 : n < u) (hst : stepF l (n - 1) = 1) :
    Calls Try.prog 32 #[tabV b A l.length c u, .int .i64 x] w fun e w' => ∃ v, e = .returned (.tuple #[v, .int .i64 0]) ∧ w'.ownsRow w.heap.size 3 1 v 2 [.int .i64 (beginF l n - 1), .int .i64 (beginF l n)] ∧ Below w.heap.size w w' := by
  have HR := Aside0.mk hr
  have HK := Aside0.mk (checkF_right hk)
  have a62 := fun w h => open_calls b u A c l w h
  have hK2 := Aside0.mk hk
  clear hr hk
  go_enter Try.func32, Try.ntmps32
  go_wp2_with fail
  refine (a62 _ (Kd.C_below HR.out ((Below.refl _ w).alloc (Nat.le_refl _) _))).mono ?_
  rintro en w1 ⟨_, h2, hB⟩
  obtain ⟨kb, rfl, hkb, hct⟩ := h2 hK2.out
  have hv : Below w.heap.size w w1 := ((Below.refl _ w).alloc (Nat.le_refl _) _).trans (hB.mono (by simp))
  clear hB h2 a62
  go_wp2_with fail
  refine (seconds_leap kb b u A c l x n w1 hct HK.out.2.2.2.2.2 HK.out.2.2.2.2.1 hx0 hx1 hxm hxd hn0 hn1 HK.out.2.2.2.1 hst).mono ?_
  rintro en w2 ⟨v, rfl, hown, hB⟩
  have hv2 := hv.trans (hB.mono hv.size)
  have hown2 := own_weaken hown hv.size
  obtain ⟨ad, cc, rfl⟩ : ∃ ad cc, v = .slice ad 2 cc := by
    rcases hown.2 with ⟨_, h0⟩ | ⟨g, cap, cur, rfl, _⟩
    · cases h0
    · exact ⟨_, _, rfl⟩
  go_wp2
  go_ret2
  exact ⟨_, rfl, hown2, hv2⟩
set_option maxRecDepth 100000 in
theorem Seconds_leap (b u : Int) (A : Option Addr) (c : Nat) (l : List (Int × Int)) (y m d : Int) (w : World) (hr : Kd.C kl w A l.length l) (hk : checkF b l u = 0)
    (hok : okD y m d = true) (hday : dayN y m d < u) (hst : stepF l (dayN y m d) = 1) :
    Calls Try.prog 20 #[tabV b A l.length c u, dateV y m d 23 59 60] w fun e w' => e = .returned (.tuple #[.int .i64 (beginF l (dayN y m d) + 86400), .int .i64 0]) ∧ Below w.heap.size w w' := by
  have HR := Aside0.mk hr
  have HK := Aside0.mk (checkF_right hk)
  have a62 := fun w h => open_calls b u A c l w h
  have hK2 := Aside0.mk hk
  have HD := Aside0.mk (And.intro hok (And.intro hday hst))
  clear hr hk hok hday hst
  go_enter Try.func20, Try.ntmps20
  go_wp2_with fail
  refine (a62 _ (Kd.C_below HR.out (((Below.refl _ w).alloc (Nat.le_refl _) _).alloc (by simp) _))).mono ?_
  rintro en w1 ⟨_, h2, hB⟩
  obtain ⟨kb, rfl, hkb, hct⟩ := h2 hK2.out
  have hv : Below w.heap.size w w1 := (((Below.refl _ w).alloc (Nat.le_refl _) _).alloc (by simp) _).trans (hB.mono (by simp; omega))
  have kd : w1.heap[w.heap.size + 1]? = some (.cells #[.int .i64 y, .int .i64 m, .int .i64 d, .int .i64 23, .int .i64 59, .int .i64 60] 30 (0, 0)) := (hB.block _ (by simp)).trans (al_new _ _ _ (by simp))
  have x0 : w1.cell? ⟨w.heap.size + 1, 0, none⟩ = some (.int .i64 y) := blk_cell kd 0
  have x1 : w1.cell? ⟨w.heap.size + 1, 1, none⟩ = some (.int .i64 m) := blk_cell kd 1
  have x2 : w1.cell? ⟨w.heap.size + 1, 2, none⟩ = some (.int .i64 d) := blk_cell kd 2
  have x3 : w1.cell? ⟨w.heap.size + 1, 3, none⟩ = some (.int .i64 23) := blk_cell kd 3
  have x4 : w1.cell? ⟨w.heap.size + 1, 4, none⟩ = some (.int .i64 59) := blk_cell kd 4
  have x5 : w1.cell? ⟨w.heap.size + 1, 5, none⟩ = some (.int .i64 60) := blk_cell kd 5
  clear hB h2 a62 kd
  go_wp2_with fail
  refine (second_leap kb b u A c l y m d w1 hct HK.out.2.2.2.2.2 HK.out.2.2.2.2.1 HD.out.1 HD.out.2.1 HD.out.2.2).mono ?_
  rintro en w2 ⟨rfl, hB⟩
  go_wp2
  go_ret2
  exact ⟨rfl, hv.trans (hB.mono hv.size)⟩
end Go.Proofs.Ytleipbanadnchaa.C
