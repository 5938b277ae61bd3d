/- The reference's Units, NewKeeper and Drive, by hand. -/
import Derived.Test.YtcaekmalkbaldaaKb
import Derived.Test.YtcaekmalkbaldaaKn
import Derived.Test.YtcaekmalkbaldaaRc
import Derived.Test.YtcaekmalkbaldaaKv
namespace Go.Proofs.Ytcaekmalkbaldaa.M
open Go.RowKit Go.Shelf Go.Proofs.YtcaekmalkbaldaaW.PrintWords Go.Proofs.YtcaekmalkbaldaaW.PrintLast Go.Proofs.YtcaekmalkbaldaaW.PrintMore
set_option linter.unusedVariables false
set_option linter.unusedSimpArgs false
theorem round_half (n u : Int) (hu : 1 ≤ u) (hn : 0 ≤ n) : (2 * n + u) / (2 * u) = if 2 * (n - n / u * u) ≥ u then n / u + 1 else n / u := by
  have h1 : n / u * u + n % u = n := by rw [Int.mul_comm]; exact Int.mul_ediv_add_emod n u
  have h2 := Int.emod_nonneg n (show u ≠ 0 by omega)
  have h3 := Int.emod_lt_of_pos n (show 0 < u by omega)
  generalize n / u = q at *
  generalize n % u = r at *
  have e1 : 2 * n + u = (2 * r + u) + (2 * u) * q := by
    have : (2 * u) * q = 2 * (q * u) := by rw [Int.mul_assoc, Int.mul_comm u q]
    rw [this]; omega
  rw [e1, Int.add_mul_ediv_left _ _ (show 2 * u ≠ 0 by omega)]
  have e2 : n - q * u = r := by omega
  rw [e2]
  by_cases h : 2 * r ≥ u
  · rw [if_pos h]
    have : (2 * r + u) / (2 * u) = 1 := by
      apply Int.le_antisymm
      · have : (2 * r + u) / (2 * u) < 2 := Int.ediv_lt_of_lt_mul (by omega) (by omega)
        omega
      · exact Int.le_ediv_of_mul_le (by omega) (by omega)
    omega
  · rw [if_neg h]
    have : (2 * r + u) / (2 * u) = 0 := Int.ediv_eq_zero_of_lt (by omega) (by omega)
    omega
theorem div_b (n u : Int) (hu : 1 ≤ u) (hn : 0 ≤ n) : 0 ≤ n / u ∧ n / u ≤ n ∧ 0 ≤ n / u * u ∧ n / u * u ≤ n := by
  have h1 : n / u * u + n % u = n := by rw [Int.mul_comm]; exact Int.mul_ediv_add_emod n u
  have h2 := Int.emod_nonneg n (show u ≠ 0 by omega)
  have h3 := Int.ediv_nonneg hn (show 0 ≤ u by omega)
  have h4 : n / u * 1 ≤ n / u * u := Int.mul_le_mul_of_nonneg_left hu h3
  omega
set_option maxRecDepth 100000 in
set_option maxHeartbeats 8000000 in
theorem rUnits_calls (n u : Int) (w : World) (hu0 : 1 ≤ u) (hu1 : u ≤ 1000000000000) (hn0 : -1000000000000000 ≤ n) (hn1 : n ≤ 1000000000000000) :
    Calls Try.prog 58 #[.int .i64 n, .int .i64 u] w fun e w' => e = .returned (.int .i64 (unitsF u n)) ∧ Below w.heap.size w w' := by
  unfold unitsF
  have hz : (u == 0) = false := beq_eq_false_iff_ne.2 (by omega)
  by_cases h : n < 0
  · have d0 : decide (n < 0) = true := decide_eq_true h
    rw [if_pos h, round_half (-n) u hu0 (by omega)]
    obtain ⟨m, hm⟩ : ∃ m, -n = m := ⟨_, rfl⟩
    obtain ⟨b1, b2, b3, b4⟩ := div_b m u hu0 (by omega)
    rw [hm]
    by_cases h2 : 2 * (m - m / u * u) ≥ u
    · have d1 : decide (u ≤ 2 * (m - m / u * u)) = true := decide_eq_true h2
      rw [if_pos h2]
      have b5 : m ≤ 1000000000000000 := by omega
      have b6 : 0 ≤ m := by omega
      clear h h2
      go_enter Try.func58, Try.ntmps58
      go_wp2
      go_ret
      exact ⟨rfl, Below.refl _ _⟩
    · have d1 : decide (u ≤ 2 * (m - m / u * u)) = false := decide_eq_false h2
      rw [if_neg h2]
      have b5 : m ≤ 1000000000000000 := by omega
      have b6 : 0 ≤ m := by omega
      clear h h2
      go_enter Try.func58, Try.ntmps58
      go_wp2
      go_ret
      exact ⟨rfl, Below.refl _ _⟩
  · have d0 : decide (n < 0) = false := decide_eq_false h
    rw [if_neg h, round_half n u hu0 (by omega)]
    obtain ⟨b1, b2, b3, b4⟩ := div_b n u hu0 (by omega)
    by_cases h2 : 2 * (n - n / u * u) ≥ u
    · have d1 : decide (u ≤ 2 * (n - n / u * u)) = true := decide_eq_true h2
      rw [if_pos h2]
      have b6 : 0 ≤ n := by omega
      clear h h2
      go_enter Try.func58, Try.ntmps58
      go_wp2
      go_ret
      exact ⟨rfl, Below.refl _ _⟩
    · have d1 : decide (u ≤ 2 * (n - n / u * u)) = false := decide_eq_false h2
      rw [if_neg h2]
      have b6 : 0 ≤ n := by omega
      clear h h2
      go_enter Try.func58, Try.ntmps58
      go_wp2
      go_ret
      exact ⟨rfl, Below.refl _ _⟩
theorem ref_check_bad {L R S N : Int} (hp : rightB L R S N = false) : meridianref06_Check.f L R S N = some 60 := by
  have h : ¬ (1 ≤ L ∧ L ≤ 40 ∧ 0 ≤ R ∧ R ≤ 12 ∧ 1 ≤ S ∧ S ≤ 24 ∧ 0 ≤ N ∧ N ≤ 12) := fun h => by rw [rightB_iff.2 h] at hp; cases hp
  unfold meridianref06_Check.f
  repeat' split
  all_goals first | rfl | (exfalso; exact h (by omega))
theorem ref_chart_bad {L R S N : Int} (hp : rightB L R S N = false) (k : Nat) : meridianref06_Chart.f k L R S N = some ([], 60) := by
  unfold meridianref06_Chart.f
  rw [ref_check_bad hp, Option.bind_some, if_neg (by decide)]
theorem load66 (w : World) (g : Nat) (x0 x1 x2 x3 x4 x5 : Int) (x6 : Value) (h0 : w.cell? ⟨g, 0, none⟩ = some (.int .i64 x0)) (h1 : w.cell? ⟨g, 1, none⟩ = some (.int .i64 x1)) (h2 : w.cell? ⟨g, 2, none⟩ = some (.int .i64 x2)) (h3 : w.cell? ⟨g, 3, none⟩ = some (.int .i64 x3)) (h4 : w.cell? ⟨g, 4, none⟩ = some (.int .i64 x4)) (h5 : w.cell? ⟨g, 5, none⟩ = some (.int .i64 x5)) (h6 : w.cell? ⟨g, 6, none⟩ = some (x6)) : (loadVar 66 ⟨g, 0, none⟩).run Try.prog w = .ok (.agg #[.int .i64 x0, .int .i64 x1, .int .i64 x2, .int .i64 x3, .int .i64 x4, .int .i64 x5, x6]) w := by
  have hu := Try.underlying66
  have hu2 := Try.underlying23
  have hu3 := Try.underlying51
  go_simp
theorem blk_put {w : World} {b : Nat} {vs : Array Value} {t : TypeId} (h : w.heap[b]? = some (.cells vs t (0, 0))) (j : Nat) (v : Value) : (w.setCell ⟨b, j, none⟩ v).heap[b]? = some (.cells (vs.setIfInBounds j v) t (0, 0)) := by
  simp [World.setCell, Array.getElem?_modify, h]
theorem set7_heap {W : World} {b : Nat} {o0 o1 o2 o3 o4 o5 o6 : Value} (k : W.heap[b]? = some (.cells #[o0, o1, o2, o3, o4, o5, o6] 66 (0, 0))) (v0 v1 v2 v3 v4 v5 v6 : Value) :
    (((((((W.setCell ⟨b, 0, none⟩ v0).setCell ⟨b, 1, none⟩ v1).setCell ⟨b, 2, none⟩ v2).setCell ⟨b, 3, none⟩ v3).setCell ⟨b, 4, none⟩ v4).setCell ⟨b, 5, none⟩ v5).setCell ⟨b, 6, none⟩ v6).heap[b]? = some (.cells #[v0, v1, v2, v3, v4, v5, v6] 66 (0, 0)) := by
  have a := blk_put (blk_put (blk_put (blk_put (blk_put (blk_put (blk_put k 0 v0) 1 v1) 2 v2) 3 v3) 4 v4) 5 v5) 6 v6
  simpa only [List.setIfInBounds_toArray, List.set_cons_zero, List.set_cons_succ] using a
theorem res_rk {fn : Func} {p q : Tmp} (h : fn.results = #[.cell p 66, .tmp q]) (tmps : Array Value) (w : World) (g : Nat) (x0 x1 x2 x3 x4 x5 : Int) (x6 y : Value)
    (hp : tmps.getD p undef = .pointer (some ⟨g, 0, none⟩)) (hq : tmps.getD q undef = y) (h0 : w.cell? ⟨g, 0, none⟩ = some (.int .i64 x0)) (h1 : w.cell? ⟨g, 1, none⟩ = some (.int .i64 x1)) (h2 : w.cell? ⟨g, 2, none⟩ = some (.int .i64 x2)) (h3 : w.cell? ⟨g, 3, none⟩ = some (.int .i64 x3)) (h4 : w.cell? ⟨g, 4, none⟩ = some (.int .i64 x4)) (h5 : w.cell? ⟨g, 5, none⟩ = some (.int .i64 x5)) (h6 : w.cell? ⟨g, 6, none⟩ = some (x6)) : (results fn tmps).run Try.prog w = .ok (.tuple #[.agg #[.int .i64 x0, .int .i64 x1, .int .i64 x2, .int .i64 x3, .int .i64 x4, .int .i64 x5, x6], y]) w := by
  have hp' : tmps[p]?.getD undef = .pointer (some ⟨g, 0, none⟩) := by simpa using hp
  have hq' : tmps[q]?.getD undef = y := by simpa using hq
  simp [results, h, hp', hq', asAddr, load66 w g x0 x1 x2 x3 x4 x5 x6 h0 h1 h2 h3 h4 h5 h6]
theorem res_rd {fn : Func} {p q s : Tmp} (h : fn.results = #[.cell p 66, .tmp q, .tmp s]) (tmps : Array Value) (w : World) (g : Nat) (x0 x1 x2 x3 x4 x5 : Int) (x6 y z : Value)
    (hp : tmps.getD p undef = .pointer (some ⟨g, 0, none⟩)) (hq : tmps.getD q undef = y) (hs : tmps.getD s undef = z) (h0 : w.cell? ⟨g, 0, none⟩ = some (.int .i64 x0)) (h1 : w.cell? ⟨g, 1, none⟩ = some (.int .i64 x1)) (h2 : w.cell? ⟨g, 2, none⟩ = some (.int .i64 x2)) (h3 : w.cell? ⟨g, 3, none⟩ = some (.int .i64 x3)) (h4 : w.cell? ⟨g, 4, none⟩ = some (.int .i64 x4)) (h5 : w.cell? ⟨g, 5, none⟩ = some (.int .i64 x5)) (h6 : w.cell? ⟨g, 6, none⟩ = some (x6)) : (results fn tmps).run Try.prog w = .ok (.tuple #[.agg #[.int .i64 x0, .int .i64 x1, .int .i64 x2, .int .i64 x3, .int .i64 x4, .int .i64 x5, x6], y, z]) w := by
  have hp' : tmps[p]?.getD undef = .pointer (some ⟨g, 0, none⟩) := by simpa using hp
  have hq' : tmps[q]?.getD undef = y := by simpa using hq
  have hs' : tmps[s]?.getD undef = z := by simpa using hs
  simp [results, h, hp', hq', hs', asAddr, load66 w g x0 x1 x2 x3 x4 x5 x6 h0 h1 h2 h3 h4 h5 h6]
set_option maxRecDepth 100000 in
set_option maxHeartbeats 8000000 in
theorem rNewKeeper_bad (L R S N u r : Int) (w : World) (hp : rightB L R S N = false) :
    Calls Try.prog 31 #[.agg #[.int .i64 L, .int .i64 R, .int .i64 S, .int .i64 N], .int .i64 u, .int .i64 r] w fun e w' => e = .returned (.tuple #[.agg #[.int .i64 0, .int .i64 0, .int .i64 0, .int .i64 0, .int .i64 0, .int .i64 0, .slice none 0 0], .int .i64 60]) ∧ Below w.heap.size w w' := by
  have hu23 := Try.underlying23
  have hu66 := Try.underlying66
  have c17 := fun W => meridianref06_Chart.calls 1 L R S N [] 60 W (ref_chart_bad hp 1)
  go_enter Try.func31, Try.ntmps31
  go_wp2_with fail
  have hB0 : Below w.heap.size w ((w.alloc (.cells #[.int .i64 L, .int .i64 R, .int .i64 S, .int .i64 N] 23)).alloc (.cells #[.int .i64 0, .int .i64 0, .int .i64 0, .int .i64 0, .int .i64 0, .int .i64 0, .slice none 0 0] 66)) := ((Below.refl _ w).alloc (Nat.le_refl _) _).alloc (by simp) _
  have k6 : ((w.alloc (.cells #[.int .i64 L, .int .i64 R, .int .i64 S, .int .i64 N] 23)).alloc (.cells #[.int .i64 0, .int .i64 0, .int .i64 0, .int .i64 0, .int .i64 0, .int .i64 0, .slice none 0 0] 66)).heap[w.heap.size + 1]? = some (.cells #[.int .i64 0, .int .i64 0, .int .i64 0, .int .i64 0, .int .i64 0, .int .i64 0, .slice none 0 0] 66 (0, 0)) := al_new _ _ _ (by simp)
  generalize (w.alloc (.cells #[.int .i64 L, .int .i64 R, .int .i64 S, .int .i64 N] 23)).alloc (.cells #[.int .i64 0, .int .i64 0, .int .i64 0, .int .i64 0, .int .i64 0, .int .i64 0, .slice none 0 0] 66) = W0 at hB0 k6 ⊢
  refine (c17 _).mono ?_
  rintro en W1 ⟨v0, rfl, hR, hB⟩
  replace k6 := blk_on hB k6
  replace hB0 := hB0.trans (hB.mono hB0.size)
  have q0 := blk_cell k6 0
  have q1 := blk_cell k6 1
  have q2 := blk_cell k6 2
  have q3 := blk_cell k6 3
  have q4 := blk_cell k6 4
  have q5 := blk_cell k6 5
  have q6 := blk_cell k6 6
  have f0 := blk_fr k6 0
  have f1 := blk_fr k6 1
  have f2 := blk_fr k6 2
  have f3 := blk_fr k6 3
  have f4 := blk_fr k6 4
  have f5 := blk_fr k6 5
  have f6 := blk_fr k6 6
  clear hR hB c17
  go_wp2
  have k9 := set7_heap k6 (.int .i64 0) (.int .i64 0) (.int .i64 0) (.int .i64 0) (.int .i64 0) (.int .i64 0) (.slice none 0 0)
  refine ⟨rfl, _, res_rk rfl _ _ (w.heap.size + 1) 0 0 0 0 0 0 (.slice none 0 0) (.int .i64 60) (by simp) (by simp) (blk_cell k9 0) (blk_cell k9 1) (blk_cell k9 2) (blk_cell k9 3) (blk_cell k9 4) (blk_cell k9 5) (blk_cell k9 6), rfl, ?_⟩
  exact ((((((hB0.setCell (by simp) _).setCell (by simp) _).setCell (by simp) _).setCell (by simp) _).setCell (by simp) _).setCell (by simp) _).setCell (by simp) _
/-- The reference's search. -/
def refAny (L R r : Int) (ch : List Int) : Prop := ∃ i : Nat, (i : Int) ≤ 2 * L ∧ rd ch (ix L R (-L + i) r) < 1000
theorem safe_ref {L R r : Int} {ch : List Int} (hL : 1 ≤ L) (hR : 0 ≤ R) (hr : -R ≤ r ∧ r ≤ R) : safeAny L R r ch (List.range (siz L R)) = true ↔ refAny L R r ch := by
  unfold safeAny refAny
  rw [List.any_eq_true]
  constructor
  · rintro ⟨k, hk, hs⟩
    have hk' : k < siz L R := by simpa using hk
    simp only [safeAt, Bool.and_eq_true, decide_eq_true_eq] at hs
    have hb := st_bounds L R hL hR k hk'
    have hi := st_index L R hR k
    rw [hs.1] at hi
    refine ⟨(stE L R k + L).toNat, by omega, ?_⟩
    have e : -L + (((stE L R k + L).toNat : Nat) : Int) = stE L R k := by omega
    rw [e, show ix L R (stE L R k) r = (k : Int) from hi]
    exact hs.2
  · rintro ⟨i, hi, hs⟩
    obtain ⟨j, hj, hj2⟩ := idx_lt (y := r) hL hR (isB_iff.2 (show -L ≤ -L + (i : Int) ∧ -L + (i : Int) ≤ L ∧ -R ≤ r ∧ r ≤ R by omega))
    refine ⟨j, by simpa using hj, ?_⟩
    have hb := st_bounds L R hL hR j hj
    have hx := st_index L R hR j
    have e : stR R j = r := by
      have h1 : (stR R j + R) + (stE L R j + L) * (2 * R + 1) = (r + R) + (-L + (i : Int) + L) * (2 * R + 1) := by omega
      have h2 : ((stR R j + R) + (stE L R j + L) * (2 * R + 1)) % (2 * R + 1) = ((r + R) + (-L + (i : Int) + L) * (2 * R + 1)) % (2 * R + 1) := by rw [h1]
      rw [Int.add_mul_emod_self_right, Int.add_mul_emod_self_right, Int.emod_eq_of_lt (by omega) (by omega), Int.emod_eq_of_lt (by omega) (by omega)] at h2
      omega
    have h3 : ix L R (-L + (i : Int)) r = (j : Int) := hj2
    rw [h3] at hs
    simp only [safeAt, Bool.and_eq_true, decide_eq_true_eq]
    exact ⟨e, hs⟩
set_option maxRecDepth 100000 in
set_option maxHeartbeats 8000000 in
theorem rNewKeeper_main (L R S N u r : Int) (ch : List Int) (w : World) (hp : rightB L R S N = true) (hch : steer_Plan_chart.f L R S N = some ch) (hcl : ch.length = siz L R) :
    Calls Try.prog 31 #[.agg #[.int .i64 L, .int .i64 R, .int .i64 S, .int .i64 N], .int .i64 u, .int .i64 r] w fun e w' => Below w.heap.size w w' ∧
      if (1 ≤ u ∧ u ≤ 1000000000000) ∧ (-R ≤ r ∧ r ≤ R) then (refAny L R r ch → e = .returned (.tuple #[.agg #[.int .i64 L, .int .i64 R, .int .i64 S, .int .i64 N, .int .i64 u, .int .i64 r, .slice none 0 0], .int .i64 0])) ∧ (¬ refAny L R r ch → e = .returned (.tuple #[.agg #[.int .i64 0, .int .i64 0, .int .i64 0, .int .i64 0, .int .i64 0, .int .i64 0, .slice none 0 0], .int .i64 4]))
      else e = .returned (.tuple #[.agg #[.int .i64 0, .int .i64 0, .int .i64 0, .int .i64 0, .int .i64 0, .int .i64 0, .slice none 0 0], .int .i64 6]) := by
  have hu23 := Try.underlying23
  have hu66 := Try.underlying66
  obtain ⟨K, hK⟩ := ref_chart_f hp hch
  have c17 := fun W => meridianref06_Chart.calls K L R S N ch 0 W (hK K (Nat.le_refl _))
  have hq := rightB_iff.1 hp
  have hlen : 3 ≤ ch.length := by rw [hcl]; exact siz_pos L R (by omega) (by omega)
  have wR : wrap64 (-R) = -R := by unfold wrap64; omega
  have HWR := Aside0.mk wR
  clear wR
  have n0 : -9223372036854775808 ≤ -R ∧ -R ≤ 9223372036854775807 := by omega
  go_enter Try.func31, Try.ntmps31
  go_wp2_with fail
  have hB0 : Below w.heap.size w ((w.alloc (.cells #[.int .i64 L, .int .i64 R, .int .i64 S, .int .i64 N] 23)).alloc (.cells #[.int .i64 0, .int .i64 0, .int .i64 0, .int .i64 0, .int .i64 0, .int .i64 0, .slice none 0 0] 66)) := ((Below.refl _ w).alloc (Nat.le_refl _) _).alloc (by simp) _
  have k6 : ((w.alloc (.cells #[.int .i64 L, .int .i64 R, .int .i64 S, .int .i64 N] 23)).alloc (.cells #[.int .i64 0, .int .i64 0, .int .i64 0, .int .i64 0, .int .i64 0, .int .i64 0, .slice none 0 0] 66)).heap[w.heap.size + 1]? = some (.cells #[.int .i64 0, .int .i64 0, .int .i64 0, .int .i64 0, .int .i64 0, .int .i64 0, .slice none 0 0] 66 (0, 0)) := al_new _ _ _ (by simp)
  have k0 : ((w.alloc (.cells #[.int .i64 L, .int .i64 R, .int .i64 S, .int .i64 N] 23)).alloc (.cells #[.int .i64 0, .int .i64 0, .int .i64 0, .int .i64 0, .int .i64 0, .int .i64 0, .slice none 0 0] 66)).heap[w.heap.size]? = some (.cells #[.int .i64 L, .int .i64 R, .int .i64 S, .int .i64 N] 23 (0, 0)) := al_old (al_new _ _ _ rfl)
  generalize (w.alloc (.cells #[.int .i64 L, .int .i64 R, .int .i64 S, .int .i64 N] 23)).alloc (.cells #[.int .i64 0, .int .i64 0, .int .i64 0, .int .i64 0, .int .i64 0, .int .i64 0, .slice none 0 0] 66) = W0 at hB0 k6 k0 ⊢
  refine (c17 _).mono ?_
  rintro en W1 ⟨v0, rfl, hR, hB⟩
  replace k6 := blk_on hB k6
  replace k0 := blk_on hB k0
  replace hB0 := hB0.trans (hB.mono hB0.size)
  obtain ⟨ad, cc, rfl, hrow⟩ := chart_form hR hlen
  have HROW := Aside0.mk hrow
  clear hR hB c17 hrow
  have q0 := blk_cell k6 0
  have q1 := blk_cell k6 1
  have q2 := blk_cell k6 2
  have q3 := blk_cell k6 3
  have q4 := blk_cell k6 4
  have q5 := blk_cell k6 5
  have q6 := blk_cell k6 6
  have f0 := blk_fr k6 0
  have f1 := blk_fr k6 1
  have f2 := blk_fr k6 2
  have f3 := blk_fr k6 3
  have f4 := blk_fr k6 4
  have f5 := blk_fr k6 5
  have f6 := blk_fr k6 6
  have p0 : W1.cell? ⟨w.heap.size, 0, none⟩ = some (.int .i64 L) := blk_cell k0 0
  have p1 : W1.cell? ⟨w.heap.size, 1, none⟩ = some (.int .i64 R) := blk_cell k0 1
  have p2 : W1.cell? ⟨w.heap.size, 2, none⟩ = some (.int .i64 S) := blk_cell k0 2
  have p3 : W1.cell? ⟨w.heap.size, 3, none⟩ = some (.int .i64 N) := blk_cell k0 3
  by_cases g1 : 1 ≤ u
  · have d1 : decide (u < 1) = false := decide_eq_false (by omega)
    by_cases g2 : u ≤ 1000000000000
    · have d2 : decide (1000000000000 < u) = false := decide_eq_false (by omega)
      by_cases g3 : -R ≤ r
      · have d3 : decide (r < -R) = false := decide_eq_false (by omega)
        by_cases g4 : r ≤ R
        · have d4 : decide (R < r) = false := decide_eq_false (by omega)
          have HB0 := Aside0.mk hB0
          have K0 := Aside0.mk k0
          have K6 := Aside0.mk k6
          have HV := Aside0.mk (Below.refl W1.heap.size W1)
          have HCL := Aside0.mk hcl
          have hl40 : 1 ≤ L ∧ L ≤ 40 ∧ 0 ≤ R ∧ R ≤ 12 := ⟨hq.1, hq.2.1, hq.2.2.1, hq.2.2.2.1⟩
          have wL : wrap64 (-L) = -L := by unfold wrap64; omega
          have HWL := Aside0.mk wL
          clear hB0 k0 k6 hcl wL hq hK hch
          go_wp2
          go_loopw [10] (fun v wr => ∃ i : Nat, (i : Int) ≤ 2 * L + 1 ∧ v = .int .i64 (-L + i) ∧ Aside0 (Below W1.heap.size W1 wr ∧ ∀ j : Nat, j < i → 1000 ≤ rd ch (ix L R (-L + j) r))) (fun v _ => (L + 1 - intOf v).toNat)
          case atStart => exact ⟨0, by omega, by simp, ⟨HV.out, fun j hj => by omega⟩⟩
          case round =>
            obtain ⟨i, hi, rfl, HI⟩ := hrel
            clear HV
            have hp0 : wr.cell? ⟨w.heap.size, 0, none⟩ = some (.int .i64 L) := blk_cell (blk_on HI.out.1 K0.out) 0
            have hp1 : wr.cell? ⟨w.heap.size, 1, none⟩ = some (.int .i64 R) := blk_cell (blk_on HI.out.1 K0.out) 1
            have hp2 : wr.cell? ⟨w.heap.size, 2, none⟩ = some (.int .i64 S) := blk_cell (blk_on HI.out.1 K0.out) 2
            have hp3 : wr.cell? ⟨w.heap.size, 3, none⟩ = some (.int .i64 N) := blk_cell (blk_on HI.out.1 K0.out) 3
            by_cases h : -L + (i : Int) ≤ L
            · have hb : isB L R (-L + i) r = true := isB_iff.2 (by omega)
              obtain ⟨jj, hj1, hj2⟩ := idx_lt (by omega) (by omega) hb
              have c41 := fun W => meridianref06_index.calls L R S N (-L + i) r _ W (ref_index_f (by omega) (by omega) (by omega) (by omega) hb)
              rw [hj2] at c41
              have hix : ix L R (-L + i) r = (jj : Int) := hj2
              have hjl : jj < ch.length := by rw [HCL.out]; exact hj1
              have hjs : (0 : Int) ≤ (jj : Int) ∧ (jj : Int) < ch.length := ⟨by omega, by omega⟩
              have HIX := Aside0.mk hix
              clear hb hj2 hix
              go_wp2_with fail
              refine (c41 _).mono ?_
              rintro en W2 ⟨rfl, hB⟩
              have hB2 : Below W1.heap.size W1 W2 := HI.out.1.trans (hB.mono HI.out.1.size)
              have hrd := row_cell HROW.out hB2 jj hjl
              replace hp0 := cell_on hB hp0
              replace hp1 := cell_on hB hp1
              replace hp2 := cell_on hB hp2
              replace hp3 := cell_on hB hp3
              clear hB c41
              by_cases hs : rd ch (jj : Int) < 1000
              · have ds : decide (rd ch (jj : Int) < 1000) = true := decide_eq_true hs
                have k6' := blk_on hB2 K6.out
                have q0 := blk_cell k6' 0
                have q1 := blk_cell k6' 1
                have q2 := blk_cell k6' 2
                have q3 := blk_cell k6' 3
                have q4 := blk_cell k6' 4
                have q5 := blk_cell k6' 5
                have q6 := blk_cell k6' 6
                have f0 := blk_fr k6' 0
                have f1 := blk_fr k6' 1
                have f2 := blk_fr k6' 2
                have f3 := blk_fr k6' 3
                have f4 := blk_fr k6' 4
                have f5 := blk_fr k6' 5
                have f6 := blk_fr k6' 6
                have HB2 := Aside0.mk (HB0.out.trans (hB2.mono HB0.out.size))
                have HK := Aside0.mk k6'
                have hyes : refAny L R r ch := ⟨i, by omega, by rw [HIX.out]; exact hs⟩
                clear k6' hB2
                go_wp2
                have k9 := set7_heap HK.out (.int .i64 L) (.int .i64 R) (.int .i64 S) (.int .i64 N) (.int .i64 u) (.int .i64 r) (.slice none 0 0)
                refine ⟨rfl, _, res_rk rfl _ _ (w.heap.size + 1) L R S N u r (.slice none 0 0) (.int .i64 0) (by simp) (by simp) (blk_cell k9 0) (blk_cell k9 1) (blk_cell k9 2) (blk_cell k9 3) (blk_cell k9 4) (blk_cell k9 5) (blk_cell k9 6), ((((((HB2.out.setCell (by simp) _).setCell (by simp) _).setCell (by simp) _).setCell (by simp) _).setCell (by simp) _).setCell (by simp) _).setCell (by simp) _, ?_⟩
                first | rfl | exact ⟨fun _ => rfl, fun h => absurd hyes h⟩
              · have ds : decide (rd ch (jj : Int) < 1000) = false := decide_eq_false hs
                have HI2 : Aside0 (Below W1.heap.size W1 W2 ∧ ∀ j : Nat, j < i + 1 → 1000 ≤ rd ch (ix L R (-L + j) r)) := ⟨hB2, fun j hj => by
                  by_cases hji : j = i
                  · subst hji; rw [HIX.out]; omega
                  · exact HI.out.2 j (by omega)⟩
                clear hB2
                go_wp2
                go_roundw
                case rel => exact ⟨i + 1, by omega, by go_num, HI2⟩
                case measure => simp [intOf]; omega
            · have hB2 := HI.out.1
              have hno : ¬ refAny L R r ch := fun ⟨j, h1, h2⟩ => by have := HI.out.2 j (by omega); omega
              have k6' := blk_on hB2 K6.out
              have q0 := blk_cell k6' 0
              have q1 := blk_cell k6' 1
              have q2 := blk_cell k6' 2
              have q3 := blk_cell k6' 3
              have q4 := blk_cell k6' 4
              have q5 := blk_cell k6' 5
              have q6 := blk_cell k6' 6
              have f0 := blk_fr k6' 0
              have f1 := blk_fr k6' 1
              have f2 := blk_fr k6' 2
              have f3 := blk_fr k6' 3
              have f4 := blk_fr k6' 4
              have f5 := blk_fr k6' 5
              have f6 := blk_fr k6' 6
              have HB2 := Aside0.mk (HB0.out.trans (hB2.mono HB0.out.size))
              have HK := Aside0.mk k6'
              clear k6' hB2
              go_wp2
              have k9 := set7_heap HK.out (.int .i64 0) (.int .i64 0) (.int .i64 0) (.int .i64 0) (.int .i64 0) (.int .i64 0) (.slice none 0 0)
              refine ⟨rfl, _, res_rk rfl _ _ (w.heap.size + 1) 0 0 0 0 0 0 (.slice none 0 0) (.int .i64 4) (by simp) (by simp) (blk_cell k9 0) (blk_cell k9 1) (blk_cell k9 2) (blk_cell k9 3) (blk_cell k9 4) (blk_cell k9 5) (blk_cell k9 6), ((((((HB2.out.setCell (by simp) _).setCell (by simp) _).setCell (by simp) _).setCell (by simp) _).setCell (by simp) _).setCell (by simp) _).setCell (by simp) _, ?_⟩
              first | rfl | exact ⟨fun h => absurd h hno, fun _ => rfl⟩
        · have d4 : decide (R < r) = true := decide_eq_true (by omega)
          go_wp2
          have k9 := set7_heap k6 (.int .i64 0) (.int .i64 0) (.int .i64 0) (.int .i64 0) (.int .i64 0) (.int .i64 0) (.slice none 0 0)
          refine ⟨rfl, _, res_rk rfl _ _ (w.heap.size + 1) 0 0 0 0 0 0 (.slice none 0 0) (.int .i64 6) (by simp) (by simp) (blk_cell k9 0) (blk_cell k9 1) (blk_cell k9 2) (blk_cell k9 3) (blk_cell k9 4) (blk_cell k9 5) (blk_cell k9 6), ?_, ?_⟩
          · exact ((((((hB0.setCell (by simp) _).setCell (by simp) _).setCell (by simp) _).setCell (by simp) _).setCell (by simp) _).setCell (by simp) _).setCell (by simp) _
          · first | rfl | rw [if_neg (by omega)]
      · have d3 : decide (r < -R) = true := decide_eq_true (by omega)
        go_wp2
        have k9 := set7_heap k6 (.int .i64 0) (.int .i64 0) (.int .i64 0) (.int .i64 0) (.int .i64 0) (.int .i64 0) (.slice none 0 0)
        refine ⟨rfl, _, res_rk rfl _ _ (w.heap.size + 1) 0 0 0 0 0 0 (.slice none 0 0) (.int .i64 6) (by simp) (by simp) (blk_cell k9 0) (blk_cell k9 1) (blk_cell k9 2) (blk_cell k9 3) (blk_cell k9 4) (blk_cell k9 5) (blk_cell k9 6), ?_, ?_⟩
        · exact ((((((hB0.setCell (by simp) _).setCell (by simp) _).setCell (by simp) _).setCell (by simp) _).setCell (by simp) _).setCell (by simp) _).setCell (by simp) _
        · first | rfl | rw [if_neg (by omega)]
    · have d2 : decide (1000000000000 < u) = true := decide_eq_true (by omega)
      go_wp2
      have k9 := set7_heap k6 (.int .i64 0) (.int .i64 0) (.int .i64 0) (.int .i64 0) (.int .i64 0) (.int .i64 0) (.slice none 0 0)
      refine ⟨rfl, _, res_rk rfl _ _ (w.heap.size + 1) 0 0 0 0 0 0 (.slice none 0 0) (.int .i64 6) (by simp) (by simp) (blk_cell k9 0) (blk_cell k9 1) (blk_cell k9 2) (blk_cell k9 3) (blk_cell k9 4) (blk_cell k9 5) (blk_cell k9 6), ?_, ?_⟩
      · exact ((((((hB0.setCell (by simp) _).setCell (by simp) _).setCell (by simp) _).setCell (by simp) _).setCell (by simp) _).setCell (by simp) _).setCell (by simp) _
      · first | rfl | rw [if_neg (by omega)]
  · have d1 : decide (u < 1) = true := decide_eq_true (by omega)
    go_wp2
    have k9 := set7_heap k6 (.int .i64 0) (.int .i64 0) (.int .i64 0) (.int .i64 0) (.int .i64 0) (.int .i64 0) (.slice none 0 0)
    refine ⟨rfl, _, res_rk rfl _ _ (w.heap.size + 1) 0 0 0 0 0 0 (.slice none 0 0) (.int .i64 6) (by simp) (by simp) (blk_cell k9 0) (blk_cell k9 1) (blk_cell k9 2) (blk_cell k9 3) (blk_cell k9 4) (blk_cell k9 5) (blk_cell k9 6), ?_, ?_⟩
    · exact ((((((hB0.setCell (by simp) _).setCell (by simp) _).setCell (by simp) _).setCell (by simp) _).setCell (by simp) _).setCell (by simp) _).setCell (by simp) _
    · first | rfl | rw [if_neg (by omega)]
end Go.Proofs.Ytcaekmalkbaldaa.M
