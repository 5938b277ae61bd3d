/- The law SteerGreatest, in plain Lean: what its function computes is true. -/
import Derived.Test.YtcaekmalkbaldaaGt0
import Derived.Test.YtcaekmalkbaldaaNd
namespace Go.Proofs.Ytcaekmalkbaldaa.M
open Go.RowKit Go.Shelf Go.Proofs.YtcaekmalkbaldaaW.PrintWords Go.Proofs.YtcaekmalkbaldaaW.PrintLast Go.Proofs.YtcaekmalkbaldaaW.PrintMore
set_option linter.unusedVariables false
theorem awake_t : meridianlaw06_awake.f = some true := rfl
theorem pick_f (n m : Int) (h1 : 1 ≤ m) (h2 : m ≤ 1000) : ∃ c, meridiankit_Pick.f n m = some c ∧ 0 ≤ c ∧ c < m := by
  unfold meridiankit_Pick.f
  rw [if_neg (by omega), if_neg (by omega)]
  have h3 : Int.tmod n m < m := Int.tmod_lt_of_pos n (by omega)
  have h4 : -m < Int.tmod n m := by
    have := Int.tmod_lt_of_pos (-n) (show (0 : Int) < m by omega)
    rw [Int.neg_tmod] at this
    omega
  by_cases h : Int.tmod n m < 0
  · rw [if_pos h, wrap_small _ (by omega) (by omega)]
    exact ⟨_, rfl, by omega, by omega⟩
  · rw [if_neg h]
    exact ⟨_, rfl, by omega, by omega⟩
section
variable {L R S N : Int} {c : List Int}
/-- What is known of the chart. -/
def KnG (L R S N : Int) (c : List Int) : Prop := rightB L R S N = true ∧ ∃ m, Says L R S N m c

theorem g_l2 (h : KnG L R S N c) (l : List Int) (hl : l.length = siz L R) (ha : (List.range (siz L R)).all (meantOK L R S N l) = true) (ys : List (List Int)) (n q : Int) (hq0 : 0 ≤ q) (hq : q ≤ 10)
    (hn : ∃ K, ∀ k, K ≤ k → meridianlaw06_SteerGreatest.l1 k c ys n (q + 1) L R S N = some true) : ∀ (d i : Nat), i + d = siz L R →
    ∃ K, ∀ k, K ≤ k → meridianlaw06_SteerGreatest.l2 k c l (i : Int) ys n q L R S N = some true
  | 0, i, hd => by
    obtain ⟨K, hK⟩ := hn
    refine ⟨K + 1, fun k hk => ?_⟩
    obtain ⟨k, rfl⟩ : ∃ j, k = j + 1 := ⟨k - 1, by omega⟩
    rw [meridianlaw06_SteerGreatest.l2, if_neg (by omega), wrap_small _ (by omega) (by omega)]
    exact hK k (by omega)
  | d + 1, i, hd => by
    obtain ⟨K, hK⟩ := g_l2 h l hl ha ys n q hq0 hq hn d (i + 1) (by omega)
    obtain ⟨hp, m, hs⟩ := h
    have h' := rightB_iff.1 hp
    have hz := siz_le L R (by omega) (by omega)
    refine ⟨K + 1, fun k hk => ?_⟩
    obtain ⟨k, rfl⟩ : ∃ j, k = j + 1 := ⟨k - 1, by omega⟩
    have hnext : meridianlaw06_SteerGreatest.l2 k c l (wrap64 ((i : Int) + 1)) ys n q L R S N = some true := by
      rw [wrap_small _ (by omega) (by omega)]
      exact hK k (by omega)
    rw [meridianlaw06_SteerGreatest.l2, if_pos (by omega), if_pos (by omega)]
    by_cases h1 : rd l (i : Int) < 1000
    · have ht := meant_safe (by omega) (by omega) (by omega) ha m i (by omega) h1
      have h2 := (hs.2 i (by omega)).1 ht
      rw [if_pos h1, if_pos (by rw [hs.1]; omega), if_neg (by omega)]
      exact hnext
    · rw [if_neg h1]
      exact hnext

theorem g_l1 (h : KnG L R S N c) (ys : List (List Int)) (hy : ys.length = 2) : ∀ (d q : Nat), q + d = 2 →
    ∃ K, ∀ k, K ≤ k → meridianlaw06_SteerGreatest.l1 k c ys (ys.length : Int) (q : Int) L R S N = some true
  | 0, q, hd => by
    refine ⟨1, fun k hk => ?_⟩
    obtain ⟨k, rfl⟩ : ∃ j, k = j + 1 := ⟨k - 1, by omega⟩
    rw [meridianlaw06_SteerGreatest.l1, if_neg (by omega), awake_t]
    rfl
  | d + 1, q, hd => by
    have hn := g_l1 h ys hy d (q + 1) (by omega)
    obtain ⟨v, hv⟩ := prove_some h.1 (rd_L2 ys (q : Int))
    by_cases h0 : v = 0
    · obtain ⟨hl, ha⟩ := prove_len h.1 hv h0
      obtain ⟨K, hK⟩ := g_l2 h _ hl ha ys (ys.length : Int) (q : Int) (by omega) (by omega) hn (siz L R) 0 (by omega)
      refine ⟨K + 1, fun k hk => ?_⟩
      obtain ⟨k, rfl⟩ : ∃ j, k = j + 1 := ⟨k - 1, by omega⟩
      rw [meridianlaw06_SteerGreatest.l1, if_pos (by omega), if_pos (by omega), if_pos (by omega), hv]
      simp only [Option.bind_some]
      rw [if_pos h0]
      exact hK k (by omega)
    · obtain ⟨K, hK⟩ := hn
      refine ⟨K + 1, fun k hk => ?_⟩
      obtain ⟨k, rfl⟩ : ∃ j, k = j + 1 := ⟨k - 1, by omega⟩
      rw [meridianlaw06_SteerGreatest.l1, if_pos (by omega), if_pos (by omega), if_pos (by omega), hv]
      simp only [Option.bind_some]
      rw [if_neg h0, wrap_small _ (by omega) (by omega)]
      exact hK k (by omega)

theorem g_j3 (h : KnG L R S N c) (law x8 x9 : List Int) (i : Nat) (hi : i < siz L R) (h8 : x8.length = i) (h9 : x9.length = i) (v : Int)
    (hn : ∀ a b : Int, ∃ K, ∀ k, K ≤ k → meridianlaw06_SteerGreatest.l0 k law c (x8 ++ [a]) (x9 ++ [b]) ((i : Int) + 1) L R S N L R S N = some true) :
    ∃ K, ∀ k, K ≤ k → meridianlaw06_SteerGreatest.j3 k law c x8 x9 (i : Int) v L R S N L R S N = some true := by
  obtain ⟨hp, m, hs⟩ := h
  have h' := rightB_iff.1 hp
  have hz := siz_le L R (by omega) (by omega)
  have hc := hs.1
  obtain ⟨t, ht, t0, t1⟩ := pick_f v (2 * R + 2) (by omega) (by omega)
  have hw : meridiankit_Pick.f v (wrap64 (wrap64 (2 * R) + 2)) = some t := by
    rw [wrap_small (2 * R) (by omega) (by omega), wrap_small (2 * R + 2) (by omega) (by omega)]; exact ht
  have HWI : Aside0 (wrap64 ((i : Int) + 1) = (i : Int) + 1) := ⟨wrap_small _ (by omega) (by omega)⟩
  have c8 : x8.length < 17592186044416 := by omega
  have c9 : x9.length < 17592186044416 := by omega
  have c0 : 0 ≤ (i : Int) := by omega
  have c1 : (i : Int) < (c.length : Int) := by omega
  by_cases h1 : wrap64 (t - R) > R
  · by_cases h5 : Int.tmod v 5 = 0
    · obtain ⟨K, hK⟩ := hn 1000 1000
      refine ⟨K + 1, fun k hk => ?_⟩
      obtain ⟨k, rfl⟩ : ∃ j, k = j + 1 := ⟨k - 1, by omega⟩
      unfold meridianlaw06_SteerGreatest.j3
      rw [hw, Option.bind_some]
      rw [if_pos h1, if_pos c8, Option.bind_some, if_pos c0, if_pos c1, if_pos h5, if_pos c9, HWI.out]
      exact hK k (by omega)
    · obtain ⟨K, hK⟩ := hn 1000 (rd c (i : Int))
      refine ⟨K + 1, fun k hk => ?_⟩
      obtain ⟨k, rfl⟩ : ∃ j, k = j + 1 := ⟨k - 1, by omega⟩
      unfold meridianlaw06_SteerGreatest.j3
      rw [hw, Option.bind_some]
      rw [if_pos h1, if_pos c8, Option.bind_some, if_pos c0, if_pos c1, if_neg h5, if_pos c9, HWI.out]
      exact hK k (by omega)
  · by_cases h5 : Int.tmod v 5 = 0
    · obtain ⟨K, hK⟩ := hn (wrap64 (t - R)) (wrap64 (t - R))
      refine ⟨K + 1, fun k hk => ?_⟩
      obtain ⟨k, rfl⟩ : ∃ j, k = j + 1 := ⟨k - 1, by omega⟩
      unfold meridianlaw06_SteerGreatest.j3
      rw [hw, Option.bind_some]
      rw [if_neg h1, if_pos c8, Option.bind_some, if_pos c0, if_pos c1, if_pos h5, if_pos c9, HWI.out]
      exact hK k (by omega)
    · obtain ⟨K, hK⟩ := hn (wrap64 (t - R)) (rd c (i : Int))
      refine ⟨K + 1, fun k hk => ?_⟩
      obtain ⟨k, rfl⟩ : ∃ j, k = j + 1 := ⟨k - 1, by omega⟩
      unfold meridianlaw06_SteerGreatest.j3
      rw [hw, Option.bind_some]
      rw [if_neg h1, if_pos c8, Option.bind_some, if_pos c0, if_pos c1, if_neg h5, if_pos c9, HWI.out]
      exact hK k (by omega)

theorem g_l0 (h : KnG L R S N c) (law : List Int) (hlaw : law.length ≤ 1000000) : ∀ (d i : Nat) (x8 x9 : List Int), i + d = siz L R → x8.length = i → x9.length = i →
    ∃ K, ∀ k, K ≤ k → meridianlaw06_SteerGreatest.l0 k law c x8 x9 (i : Int) L R S N L R S N = some true
  | 0, i, x8, x9, hd, h8, h9 => by
    obtain ⟨K, hK⟩ := g_l1 h [x8, x9] rfl 2 0 rfl
    obtain ⟨hp, m, hs⟩ := h
    have hc := hs.1
    refine ⟨K + 1, fun k hk => ?_⟩
    obtain ⟨k, rfl⟩ : ∃ j, k = j + 1 := ⟨k - 1, by omega⟩
    rw [meridianlaw06_SteerGreatest.l0, if_neg (by omega)]
    simp only [Option.bind_some]
    exact hK k (by omega)
  | d + 1, i, x8, x9, hd, h8, h9 => by
    have hn : ∀ a b : Int, ∃ K, ∀ k, K ≤ k → meridianlaw06_SteerGreatest.l0 k law c (x8 ++ [a]) (x9 ++ [b]) ((i : Int) + 1) L R S N L R S N = some true := fun a b =>
      g_l0 h law hlaw d (i + 1) (x8 ++ [a]) (x9 ++ [b]) (by omega) (by simp [h8]) (by simp [h9])
    have hc := h.2.choose_spec.1
    by_cases hl : (law.length : Int) > 0
    · have t0 : 0 ≤ Int.tmod (i : Int) (law.length : Int) := Int.tmod_nonneg _ (by omega)
      have t1 : Int.tmod (i : Int) (law.length : Int) < (law.length : Int) := Int.tmod_lt_of_pos _ hl
      obtain ⟨K, hK⟩ := g_j3 h law x8 x9 i (by omega) h8 h9 (rd law (Int.tmod (i : Int) (law.length : Int))) hn
      refine ⟨K + 1, fun k hk => ?_⟩
      obtain ⟨k, rfl⟩ : ∃ j, k = j + 1 := ⟨k - 1, by omega⟩
      rw [meridianlaw06_SteerGreatest.l0, if_pos (by omega), if_pos hl, if_neg (by omega), if_pos t0, if_pos t1]
      exact hK k (by omega)
    · obtain ⟨K, hK⟩ := g_j3 h law x8 x9 i (by omega) h8 h9 0 hn
      refine ⟨K + 1, fun k hk => ?_⟩
      obtain ⟨k, rfl⟩ : ∃ j, k = j + 1 := ⟨k - 1, by omega⟩
      rw [meridianlaw06_SteerGreatest.l0, if_pos (by omega), if_neg hl]
      exact hK k (by omega)
end
theorem g_j0_true (law : List Int) (L R S N : Int) : ∀ k, 1 ≤ k → meridianlaw06_SteerGreatest.j0 k law true L R S N L R S N = some true := by
  intro k hk
  obtain ⟨k, rfl⟩ : ∃ j, k = j + 1 := ⟨k - 1, by omega⟩
  rw [meridianlaw06_SteerGreatest.j0, if_pos rfl, awake_t]
  rfl
theorem g_j0 (law : List Int) {L R S N : Int} (hp : rightB L R S N = true) : ∃ K, ∀ k, K ≤ k → meridianlaw06_SteerGreatest.j0 k law (decide ((law.length : Int) > 2000)) L R S N L R S N = some true := by
  by_cases hlaw : (law.length : Int) > 2000
  · rw [decide_eq_true hlaw]
    exact ⟨1, g_j0_true law L R S N⟩
  · rw [decide_eq_false hlaw]
    have h' := rightB_iff.1 hp
    obtain ⟨c, hc⟩ := chart_some hp
    obtain ⟨m, hs, _, _⟩ := chart_best hc
    obtain ⟨K, hK⟩ := g_l0 ⟨hp, m, hs⟩ law (by omega) (siz L R) 0 [] [] (by omega) rfl rfl
    have hcf : steer_Chart.f L R S N = some (c, 0) := by
      unfold steer_Chart.f
      rw [check_f, if_pos hp, hc]
      rfl
    have hb : 0 ≤ (2 * L + 1) * (2 * R + 1) ∧ (2 * L + 1) * (2 * R + 1) ≤ 81 * 25 := ⟨Int.mul_nonneg (by omega) (by omega), Int.mul_le_mul (by omega) (by omega) (by omega) (by omega)⟩
    have hlen : (c.length : Int) = wrap64 (wrap64 (wrap64 (2 * L) + 1) * wrap64 (wrap64 (2 * R) + 1)) := by
      rw [wrap_small (2 * L) (by omega) (by omega), wrap_small (2 * R) (by omega) (by omega), wrap_small (2 * L + 1) (by omega) (by omega), wrap_small (2 * R + 1) (by omega) (by omega)]
      rw [wrap_small _ (by omega) (by omega), hs.1]
      unfold siz wid
      rw [Int.natCast_mul, Int.toNat_of_nonneg (by omega), Int.toNat_of_nonneg (by omega)]
    refine ⟨K + 2, fun k hk => ?_⟩
    obtain ⟨k, rfl⟩ : ∃ j, k = j + 1 + 1 := ⟨k - 2, by omega⟩
    rw [meridianlaw06_SteerGreatest.j0, if_neg (by simp), hcf]
    simp only [Option.bind_some, if_true]
    rw [if_pos hlen, prove_chart hc]
    simp only [Option.bind_some]
    rw [meridianlaw06_SteerGreatest.j1, if_neg (by simp)]
    exact hK k (by omega)

theorem steerGreatest_true (L R S N : Int) (law : List Int) : ∃ k, meridianlaw06_SteerGreatest.f k L R S N law = some true := by
  unfold meridianlaw06_SteerGreatest.f
  by_cases hp : rightB L R S N = true
  · have h' := rightB_iff.1 hp
    rw [big_f, check_f, if_pos hp]
    simp only [Option.bind_some]
    simp only [if_true, if_neg (show ¬ L < 0 by omega), if_neg (show ¬ R < 0 by omega)]
    by_cases hbig : (decide (rightB L R S N = true) && decide (600 < (2 * L + 1) * (2 * R + 1))) = true
    · refine ⟨13, ?_⟩
      rw [if_pos hbig]
      exact g_j0_true _ _ _ _ _ 13 (by omega)
    · obtain ⟨K, hK⟩ := g_j0 law hp
      refine ⟨K, ?_⟩
      rw [if_neg hbig]
      exact hK K (Nat.le_refl _)
  · refine ⟨13, ?_⟩
    rw [big_f, check_f, if_neg hp]
    simp only [Option.bind_some, hp]
    simp only [decide_false, Bool.false_and, Bool.false_eq_true, if_false]
    rw [if_neg (by omega)]
    exact g_j0_true _ _ _ _ _ 13 (by omega)
theorem steerGreatest_pure (L R S N : Int) (_ : (Lit.int .i64 L).wf = true) (_ : (Lit.int .i64 R).wf = true) (_ : (Lit.int .i64 S).wf = true) (_ : (Lit.int .i64 N).wf = true) (law : List Int) (_ : law.length ≤ maxLen) (_ : law.length * 8 ≤ 140737488351232) (_ : ∀ x ∈ law, (Lit.int .i64 x).wf = true) :
    ∃ k, meridianlaw06_SteerGreatest.f k L R S N law = some true := steerGreatest_true L R S N law
end Go.Proofs.Ytcaekmalkbaldaa.M
