/- The law SteerGrows, in plain Lean: what its function computes is true. -/
import Derived.Test.YtcaekmalkbaldaaPl
import Derived.Test.YtcaekmalkbaldaaMd
namespace Go.Proofs.Ytcaekmalkbaldaa.M
open Go.RowKit Go.Shelf Go.Proofs.YtcaekmalkbaldaaW.PrintWords Go.Proofs.YtcaekmalkbaldaaW.PrintLast Go.Proofs.YtcaekmalkbaldaaW.PrintMore
set_option linter.unusedVariables false

section
variable {L R S N L' R' S' N' : Int} {a b : List Int} {y : Int}
/-- What is known in the loops. -/
def Kn (L R S N L' R' S' N' : Int) (a b : List Int) (y : Int) : Prop := rightB L R S N = true ∧ Chart L R S N a ∧ (y = 0 → rightB L' R' S' N' = true ∧ Chart L' R' S' N' b ∧ L ≤ L' ∧ R ≤ R' ∧ S ≤ S' ∧ N' ≤ N)

theorem l1_ev (h : Kn L R S N L' R' S' N' a b y) (e : Int) (he0 : -L ≤ e) (he : e ≤ L)
    (hn : ∃ K, ∀ k, K ≤ k → meridianlaw06_SteerGrows.l0 k a b y (e + 1) L R S N L R S N L' R' S' N' = some true) : ∀ (d : Nat) (r : Int), -R ≤ r → (R + 1 - r).toNat = d →
    ∃ K, ∀ k, K ≤ k → meridianlaw06_SteerGrows.l1 k a b y e r L R S N L R S N L' R' S' N' = some true
  | 0, r, hr0, hd => by
    have h' := rightB_iff.1 h.1
    obtain ⟨K, hK⟩ := hn
    refine ⟨K + 1, fun k hk => ?_⟩
    obtain ⟨k, rfl⟩ : ∃ j, k = j + 1 := ⟨k - 1, by omega⟩
    unfold meridianlaw06_SteerGrows.l1
    rw [if_neg (by omega), wrap_small _ (by omega) (by omega)]
    exact hK k (by omega)
  | d + 1, r, hr0, hd => by
    obtain ⟨K, hK⟩ := l1_ev h e he0 he hn d (r + 1) (by omega) (by omega)
    obtain ⟨hp, ⟨m, hs, hm⟩, hy⟩ := h
    have h' := rightB_iff.1 hp
    refine ⟨K + 2, fun k hk => ?_⟩
    obtain ⟨k, rfl⟩ : ∃ j, k = j + 1 + 1 := ⟨k - 2, by omega⟩
    have hb : isB L R e r = true := isB_iff.2 (by omega)
    have hb2 : isB L R (-e) (-r) = true := isB_iff.2 (by omega)
    obtain ⟨j, hj, hi, hsafe, hlost⟩ := hs.at (by omega) (by omega) hb
    obtain ⟨j2, hj2, hi2, hsafe2, hlost2⟩ := hs.at (by omega) (by omega) hb2
    have hneg := fun n => T_neg_eq (L := L) (R := R) (S := S) (N := N) (by omega) n e r
    unfold meridianlaw06_SteerGrows.l1
    rw [if_pos (show r ≤ R by omega), index_f hp hb, wrap_small (-e) (by omega) (by omega), wrap_small (-r) (by omega) (by omega), index_f hp hb2]
    simp only [Option.bind_some]
    rw [hi, hi2, if_pos trivial, if_pos trivial, if_neg (by omega), if_neg (by omega), if_neg (by omega), if_neg (by omega), if_pos (by omega), if_pos (by omega)]
    have hj4 : meridianlaw06_SteerGrows.j4 (k + 1) a b y e r (j : Int) false L R S N L R S N L' R' S' N' = some true := by
      unfold meridianlaw06_SteerGrows.j4
      rw [if_neg (by simp), wrap_small (r + 1) (by omega) (by omega)]
      by_cases h0 : y = 0
      · obtain ⟨hp', ⟨m', hs', hm'⟩, hle⟩ := hy h0
        have h'' := rightB_iff.1 hp'
        have hb' : isB L' R' e r = true := isB_iff.2 (by omega)
        obtain ⟨j3, hj3, hi3, hsafe3, _⟩ := hs'.at (by omega) (by omega) hb'
        rw [if_pos h0, index_f hp' hb']
        simp only [Option.bind_some]
        rw [hi3, if_pos trivial, if_neg (by omega), if_neg (by omega), if_pos (by omega), if_pos (by omega)]
        by_cases h1 : rd a j < 1000
        · have ht : T L R S N m e r = true := by
            cases ht : T L R S N m e r
            · obtain ⟨q, _, h2, _⟩ := hlost ht
              omega
            · rfl
          have := hsafe3 (T_mono hle.1 hle.2.1 hle.2.2.1 (by omega) hle.2.2.2 hm m' ht)
          rw [if_pos h1, if_pos (by omega), if_pos (by omega), if_neg (by omega)]
          exact hK k (by omega)
        · rw [if_neg h1]
          exact hK k (by omega)
      · rw [if_neg h0]
        exact hK k (by omega)
    cases ht : T L R S N m e r
    · obtain ⟨q, q1, q2, q3, q4⟩ := hlost ht
      obtain ⟨p, p1, p2, p3, p4⟩ := hlost2 (by rw [hneg, ht])
      rw [hneg] at p3 p4
      have hqp : q = p := by
        rcases Nat.lt_trichotomy q p with hlt | hlt | hlt
        · have := T_le p4 (show q ≤ p - 1 by omega)
          rw [q3] at this; cases this
        · exact hlt
        · have := T_le q4 (show p ≤ q - 1 by omega)
          rw [p3] at this; cases this
      subst hqp
      have e1 : (rd a (j : Int) != rd a (j2 : Int)) = false := by rw [q2, p2]; simp
      rw [if_pos (show rd a (j : Int) ≥ 1000 by omega), if_pos (by omega), if_pos (by omega), e1]
      exact hj4
    · have s1 := hsafe ht
      have s2 := hsafe2 (by rw [hneg, ht])
      rw [if_neg (by omega), if_pos (by omega), if_pos (by omega), if_neg (by omega)]
      exact hj4

theorem l0_ev (h : Kn L R S N L' R' S' N' a b y) : ∀ (d : Nat) (e : Int), -L ≤ e → (L + 1 - e).toNat = d →
    ∃ K, ∀ k, K ≤ k → meridianlaw06_SteerGrows.l0 k a b y e L R S N L R S N L' R' S' N' = some true
  | 0, e, he0, hd => by
    refine ⟨13, fun k hk => ?_⟩
    obtain ⟨k, rfl⟩ : ∃ j, k = j + 1 := ⟨k - 1, by omega⟩
    have h' := rightB_iff.1 h.1
    unfold meridianlaw06_SteerGrows.l0
    rw [if_neg (by omega), awake_up k (by omega)]
    rfl
  | d + 1, e, he0, hd => by
    have h' := rightB_iff.1 h.1
    obtain ⟨K, hK⟩ := l1_ev h e he0 (by omega) (l0_ev h d (e + 1) (by omega) (by omega)) _ (-R) (by omega) rfl
    refine ⟨K + 1, fun k hk => ?_⟩
    obtain ⟨k, rfl⟩ : ∃ j, k = j + 1 := ⟨k - 1, by omega⟩
    unfold meridianlaw06_SteerGrows.l0
    rw [if_pos (by omega), wrap_small (-R) (by omega) (by omega)]
    exact hK k (by omega)

theorem j1_ev (hp : rightB L R S N = true) (hle : rightB L' R' S' N' = true → L ≤ L' ∧ R ≤ R' ∧ S ≤ S' ∧ N' ≤ N) :
    ∃ K, ∀ k, K ≤ k → meridianlaw06_SteerGrows.j1 k L R S N L R S N L' R' S' N' = some true := by
  obtain ⟨a, ha, hc⟩ := chart_right hp
  have h' := rightB_iff.1 hp
  have : ∃ b y, steer_Chart.f L' R' S' N' = some (b, y) ∧ (y = 0 → rightB L' R' S' N' = true ∧ Chart L' R' S' N' b) := by
    by_cases h2 : rightB L' R' S' N' = true
    · obtain ⟨b, hb, hc'⟩ := chart_right h2
      exact ⟨b, 0, hb, fun _ => ⟨h2, hc'⟩⟩
    · exact ⟨[], 60, chart_wrong h2, fun e => by cases e⟩
  obtain ⟨b, y, hb, hby⟩ := this
  obtain ⟨K, hK⟩ := l0_ev (a := a) (b := b) (y := y) ⟨hp, hc, fun h0 => ⟨(hby h0).1, (hby h0).2, hle (hby h0).1⟩⟩ _ (-L) (by omega) rfl
  refine ⟨K + 1, fun k hk => ?_⟩
  obtain ⟨k, rfl⟩ : ∃ j, k = j + 1 := ⟨k - 1, by omega⟩
  rw [meridianlaw06_SteerGrows.j1]
  rw [ha, hb]
  simp only [Option.bind_some]
  rw [if_pos trivial, wrap_small (-L) (by omega) (by omega)]
  exact hK k (by omega)
end
theorem pick4 (n : Int) : ∃ c, meridiankit_Pick.f n 4 = some c ∧ 0 ≤ c ∧ c < 4 := by
  unfold meridiankit_Pick.f
  rw [if_neg (by omega), if_neg (by omega)]
  have h1 : Int.tmod n 4 < 4 := Int.tmod_lt_of_pos n (by omega)
  have h2 : -4 < Int.tmod n 4 := by
    have := Int.tmod_lt_of_pos (-n) (show (0 : Int) < 4 by omega)
    rw [Int.neg_tmod] at this
    omega
  by_cases h : Int.tmod n 4 < 0
  · rw [if_pos h, wrap_small _ (by omega) (by omega)]
    exact ⟨_, rfl, by omega, by omega⟩
  · rw [if_neg h]
    exact ⟨_, rfl, by omega, by omega⟩
theorem j0_true (n : Int) (L R S N : Int) : ∀ k, 13 ≤ k → meridianlaw06_SteerGrows.j0 k n true L R S N L R S N = some true := by
  intro k hk
  obtain ⟨k, rfl⟩ : ∃ j, k = j + 1 := ⟨k - 1, by omega⟩
  rw [meridianlaw06_SteerGrows.j0]
  rw [if_pos rfl, awake_up k (by omega)]
  rfl
theorem j0_ev (n : Int) (c : Bool) {L R S N : Int} (hp : rightB L R S N = true) : ∃ K, ∀ k, K ≤ k → meridianlaw06_SteerGrows.j0 k n c L R S N L R S N = some true := by
  cases c
  · have h' := rightB_iff.1 hp
    obtain ⟨v, hv, h0, h4⟩ := pick4 n
    rcases (show v = 0 ∨ v = 1 ∨ v = 2 ∨ v = 3 by omega) with rfl | rfl | rfl | rfl
    all_goals first
      | (obtain ⟨K, hK⟩ := j1_ev (L' := L + 1) (R' := R) (S' := S) (N' := N) hp (fun _ => by omega)
         refine ⟨K + 1, fun k hk => ?_⟩
         obtain ⟨k, rfl⟩ : ∃ j, k = j + 1 := ⟨k - 1, by omega⟩
         rw [meridianlaw06_SteerGrows.j0]
         rw [if_neg (by simp), hv, wrap_small (L + 1) (by omega) (by omega)]
         exact hK k (by omega))
      | (obtain ⟨K, hK⟩ := j1_ev (L' := L) (R' := R + 1) (S' := S) (N' := N) hp (fun _ => by omega)
         refine ⟨K + 1, fun k hk => ?_⟩
         obtain ⟨k, rfl⟩ : ∃ j, k = j + 1 := ⟨k - 1, by omega⟩
         rw [meridianlaw06_SteerGrows.j0]
         rw [if_neg (by simp), hv, wrap_small (L + 1) (by omega) (by omega), wrap_small (R + 1) (by omega) (by omega)]
         exact hK k (by omega))
      | (obtain ⟨K, hK⟩ := j1_ev (L' := L) (R' := R) (S' := S + 1) (N' := N) hp (fun _ => by omega)
         refine ⟨K + 1, fun k hk => ?_⟩
         obtain ⟨k, rfl⟩ : ∃ j, k = j + 1 := ⟨k - 1, by omega⟩
         rw [meridianlaw06_SteerGrows.j0]
         rw [if_neg (by simp), hv, wrap_small (S + 1) (by omega) (by omega)]
         exact hK k (by omega))
      | (obtain ⟨K, hK⟩ := j1_ev (L' := L) (R' := R) (S' := S) (N' := N - 1) hp (fun _ => by omega)
         refine ⟨K + 1, fun k hk => ?_⟩
         obtain ⟨k, rfl⟩ : ∃ j, k = j + 1 := ⟨k - 1, by omega⟩
         rw [meridianlaw06_SteerGrows.j0]
         rw [if_neg (by simp), hv, wrap_small (N - 1) (by omega) (by omega)]
         exact hK k (by omega))
  · exact ⟨13, j0_true n L R S N⟩

theorem steerGrows_true (L R S N n : Int) : ∃ k, meridianlaw06_SteerGrows.f k L R S N n = some true := by
  unfold meridianlaw06_SteerGrows.f
  by_cases hp : rightB L R S N = true
  · have h' := rightB_iff.1 hp
    rw [big_f, check_f, if_pos hp]
    simp only [Option.bind_some]
    simp only [if_true, if_neg (show ¬ L < 0 by omega), if_neg (show ¬ R < 0 by omega)]
    by_cases hbig : (decide (rightB L R S N = true) && decide (600 < (2 * L + 1) * (2 * R + 1))) = true
    · refine ⟨13, ?_⟩
      rw [if_pos hbig]
      exact j0_true _ _ _ _ _ 13 (Nat.le_refl _)
    · obtain ⟨K, hK⟩ := j0_ev n _ hp
      refine ⟨K, ?_⟩
      rw [if_neg hbig]
      exact hK K (Nat.le_refl _)
  · refine ⟨13, ?_⟩
    rw [big_f, check_f, if_neg hp]
    simp only [Option.bind_some, hp]
    simp only [decide_false, Bool.false_and, Bool.false_eq_true, if_false]
    rw [if_neg (by omega)]
    exact j0_true _ _ _ _ _ 13 (Nat.le_refl _)
theorem steerGrows_pure (L R S N : Int) (_ : (Lit.int .i64 L).wf = true) (_ : (Lit.int .i64 R).wf = true) (_ : (Lit.int .i64 S).wf = true) (_ : (Lit.int .i64 N).wf = true) (n : Int) (_ : (Lit.int .i64 n).wf = true) :
    ∃ k, meridianlaw06_SteerGrows.f k L R S N n = some true := steerGrows_true L R S N n
end Go.Proofs.Ytcaekmalkbaldaa.M
