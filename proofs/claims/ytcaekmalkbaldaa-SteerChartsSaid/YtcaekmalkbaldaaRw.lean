/- The widest errors of the steering chapter: the reference's answer is the program's. -/
import Derived.Test.YtcaekmalkbaldaaRc
import Derived.Test.YtcaekmalkbaldaaM11
import Derived.Test.YtcaekmalkbaldaaM6
namespace Go.Proofs.Ytcaekmalkbaldaa.M
set_option linter.unusedVariables false
set_option linter.unusedSimpArgs false
open Go.RowKit Go.Shelf Go.Proofs.YtcaekmalkbaldaaW.PrintWords Go.Proofs.YtcaekmalkbaldaaW.PrintLast Go.Proofs.YtcaekmalkbaldaaW.PrintMore
set_option linter.unusedVariables false
section
variable {L R S N : Int}
/-- Is the state without rate, at an error, not lost? -/
def okW (L R : Int) (c : List Int) (e : Int) : Bool := decide (rd c ((e + L) * (2 * R + 1) + 0 + R) < 1000)
/-- All errors up to w. -/
def okTo (L R : Int) (c : List Int) (w : Nat) : Bool := (List.range (w + 1)).all fun i => okW L R c i && okW L R c (-i)
theorem okTo_iff {c : List Int} {w : Nat} : okTo L R c w = true ↔ ∀ e : Int, -w ≤ e → e ≤ w → okW L R c e = true := by
  unfold okTo
  rw [List.all_eq_true]
  simp only [List.mem_range, Bool.and_eq_true]
  constructor
  · intro h e h1 h2
    rcases Int.le_total 0 e with he | he
    · have := (h e.toNat (by omega)).1
      rwa [Int.toNat_of_nonneg he] at this
    · have := (h (-e).toNat (by omega)).2
      rwa [Int.toNat_of_nonneg (by omega), Int.neg_neg] at this
  · intro h i hi
    exact ⟨h i (by omega) (by omega), h (-i) (by omega) (by omega)⟩
theorem okTo_down {c : List Int} {w v : Nat} (h : okTo L R c w = true) (hv : v ≤ w) : okTo L R c v = true :=
  okTo_iff.2 fun e h1 h2 => okTo_iff.1 h e (by omega) (by omega)
theorem okTo_succ {c : List Int} {w : Nat} : okTo L R c (w + 1) = (okTo L R c w && (okW L R c ((w : Int) + 1) && okW L R c (-((w : Int) + 1)))) := by
  unfold okTo
  rw [List.range_succ, List.all_append]
  simp
/-- How many of the errors 0, 1, .. up to L are right from 0 on. -/
def cntW (L R : Int) (c : List Int) : Nat → Nat
  | 0 => if okTo L R c 0 then 1 else 0
  | n + 1 => if okTo L R c (n + 1) then n + 2 else cntW L R c n
theorem cntW_le (c : List Int) : ∀ n, cntW L R c n ≤ n + 1
  | 0 => by unfold cntW; split <;> omega
  | n + 1 => by unfold cntW; have := cntW_le c n; split <;> omega
theorem cntW_ok (c : List Int) : ∀ (n v : Nat), v < cntW L R c n → okTo L R c v = true
  | 0, v, h => by
    unfold cntW at h
    split at h
    · obtain rfl : v = 0 := by omega
      assumption
    · omega
  | n + 1, v, h => by
    unfold cntW at h
    split at h
    · rename_i hk
      exact okTo_down hk (by omega)
    · exact cntW_ok c n v h
theorem cntW_no (c : List Int) : ∀ (n v : Nat), cntW L R c n ≤ v → v ≤ n → okTo L R c v = false
  | 0, v, h, hv => by
    unfold cntW at h
    split at h
    · omega
    · obtain rfl : v = 0 := by omega
      rename_i hk; simpa using hk
  | n + 1, v, h, hv => by
    unfold cntW at h
    split at h
    · omega
    · rename_i hk
      rcases Nat.lt_or_ge v (n + 1) with h1 | h1
      · exact cntW_no c n v h (by omega)
      · obtain rfl : v = n + 1 := by omega
        simpa using hk
/-- The answer. -/
def widV (n : Nat) : Int × Int := if n = 0 then (0, 4) else ((n : Int) - 1, 0)

theorem plan_index_f (hp : rightB L R S N = true) {e : Int} (h1 : -L ≤ e) (h2 : e ≤ L) : steer_Plan_index.f L R S N e 0 = some ((e + L) * (2 * R + 1) + 0 + R) := by
  have h' := rightB_iff.1 hp
  have h3 := idx_bound (L := L) (R := R) (x := e) (y := 0) (by omega) (by omega) (by omega) (by omega) (isB_iff.2 (by omega))
  unfold steer_Plan_index.f
  have e1 : wrap64 (e + L) = e + L := wrap_small _ (by omega) (by omega)
  have e2 : wrap64 (wrap64 (2 * R) + 1) = 2 * R + 1 := by rw [wrap_small (2 * R) (by omega) (by omega), wrap_small _ (by omega) (by omega)]
  rw [e1, e2]
  clear e1 e2
  generalize (e + L) * (2 * R + 1) = z at h3 ⊢
  rw [wrap_small z (by omega) (by omega), wrap_small (z + 0) (by omega) (by omega), wrap_small (z + 0 + R) (by omega) (by omega)]
theorem idx_in (hp : rightB L R S N = true) {c : List Int} (hc : c.length = siz L R) {e : Int} (h1 : -L ≤ e) (h2 : e ≤ L) : 0 ≤ (e + L) * (2 * R + 1) + 0 + R ∧ (e + L) * (2 * R + 1) + 0 + R < (c.length : Int) := by
  have h' := rightB_iff.1 hp
  obtain ⟨j, hj, ej⟩ := idx_lt (L := L) (R := R) (x := e) (y := 0) (by omega) (by omega) (isB_iff.2 (by omega))
  omega

/-- The program's loop: from w on, where all up to w are right. -/
theorem wid_l0 (hp : rightB L R S N = true) (c : List Int) (hc : c.length = siz L R) : ∀ (d : Nat) (n : Nat), n + d = L.toNat + 1 → (∀ v, v < n → okTo L R c v = true) →
    ∃ K, ∀ k, K ≤ k → steer_Widest.l0 k c ((n : Int) - 1) L R S N = some (widV (cntW L R c L.toNat))
  | 0, n, hd, hok => by
    have h' := rightB_iff.1 hp
    have hcn : cntW L R c L.toNat = n := by
      have h1 := cntW_le (L := L) (R := R) c L.toNat
      rcases Nat.lt_or_ge (cntW L R c L.toNat) n with h | h
      · have := cntW_no (L := L) (R := R) c L.toNat (cntW L R c L.toNat) (Nat.le_refl _) (by omega)
        rw [hok _ h] at this; cases this
      · omega
    refine ⟨1, fun k hk => ?_⟩
    obtain ⟨k, rfl⟩ : ∃ j, k = j + 1 := ⟨k - 1, by omega⟩
    unfold steer_Widest.l0
    rw [if_neg (by omega), if_neg (by omega), hcn]
    unfold widV
    rw [if_neg (by omega)]
  | d + 1, n, hd, hok => by
    have h' := rightB_iff.1 hp
    have i1 := idx_in hp hc (e := (n : Int)) (by omega) (by omega)
    have i2 := idx_in hp hc (e := -(n : Int)) (by omega) (by omega)
    have p1 := plan_index_f hp (e := (n : Int)) (by omega) (by omega)
    have p2 := plan_index_f hp (e := -(n : Int)) (by omega) (by omega)
    have W1 : Aside0 (wrap64 ((n : Int) - 1 + 1) = (n : Int)) := ⟨by rw [wrap_small _ (by omega) (by omega)]; omega⟩
    have W2 : Aside0 (wrap64 (wrap64 (-((n : Int) - 1)) - 1) = -(n : Int)) := ⟨by rw [wrap_small (-((n : Int) - 1)) (by omega) (by omega), wrap_small _ (by omega) (by omega)]; omega⟩
    have hstep : okTo L R c n = ((okW L R c n && okW L R c (-n)) : Bool) := by
      cases n with
      | zero => unfold okTo; simp
      | succ m =>
        rw [okTo_succ, hok m (by omega), Bool.true_and]
        rw [show ((m + 1 : Nat) : Int) = (m : Int) + 1 by omega]
    have hend : okTo L R c n = false → cntW L R c L.toNat = n := fun hf => by
      rcases Nat.lt_or_ge (cntW L R c L.toNat) n with h | h
      · have := cntW_no (L := L) (R := R) c L.toNat (cntW L R c L.toNat) (Nat.le_refl _) (by omega)
        rw [hok _ h] at this; cases this
      · rcases Nat.lt_or_ge n (cntW L R c L.toNat) with h2 | h2
        · rw [cntW_ok _ _ _ h2] at hf; cases hf
        · omega
    have hans : okTo L R c n = false → (if (n : Int) - 1 < 0 then some ((0 : Int), (4 : Int)) else some ((n : Int) - 1, 0)) = some (widV (cntW L R c L.toNat)) := fun hf => by
      rw [hend hf]
      unfold widV
      by_cases h0 : n = 0
      · rw [if_pos (by omega), if_pos h0]
      · rw [if_neg (by omega), if_neg h0]
    by_cases ht : okTo L R c n = true
    · obtain ⟨K, hK⟩ := wid_l0 hp c hc d (n + 1) (by omega) (fun v hv => by
        rcases Nat.lt_or_ge v n with h | h
        · exact hok v h
        · obtain rfl : v = n := by omega
          exact ht)
      rw [ht, eq_comm, Bool.and_eq_true] at hstep
      have g1 := of_decide_eq_true (show decide (rd c (((n : Int) + L) * (2 * R + 1) + 0 + R) < 1000) = true from hstep.1)
      have g2 := of_decide_eq_true (show decide (rd c ((-(n : Int) + L) * (2 * R + 1) + 0 + R) < 1000) = true from hstep.2)
      refine ⟨K + 1, fun k hk => ?_⟩
      obtain ⟨k, rfl⟩ : ∃ j, k = j + 1 := ⟨k - 1, by omega⟩
      unfold steer_Widest.l0
      rw [if_pos (by omega), W1.out, W2.out, p1, Option.bind_some, if_pos i1.1, if_pos i1.2, if_pos g1, p2, Option.bind_some, if_pos i2.1, if_pos i2.2, if_pos g2]
      have := hK k (by omega)
      rw [show (((n + 1 : Nat) : Int) - 1) = (n : Int) by omega] at this
      exact this
    · have hf : okTo L R c n = false := by simpa using ht
      refine ⟨1, fun k hk => ?_⟩
      obtain ⟨k, rfl⟩ : ∃ j, k = j + 1 := ⟨k - 1, by omega⟩
      unfold steer_Widest.l0
      rw [if_pos (by omega), W1.out, W2.out, p1, Option.bind_some, if_pos i1.1, if_pos i1.2]
      by_cases g1 : rd c (((n : Int) + L) * (2 * R + 1) + 0 + R) < 1000
      · rw [if_pos g1, p2, Option.bind_some, if_pos i2.1, if_pos i2.2]
        have g2 : ¬ rd c ((-(n : Int) + L) * (2 * R + 1) + 0 + R) < 1000 := fun g2 => by
          rw [hf] at hstep
          unfold okW at hstep
          rw [decide_eq_true g1, decide_eq_true g2] at hstep
          cases hstep
        rw [if_neg g2]
        exact hans hf
      · rw [if_neg g1]
        exact hans hf
theorem widest_f (hp : rightB L R S N = true) {c : List Int} (h : steer_Plan_chart.f L R S N = some c) : ∃ K, ∀ k, K ≤ k → steer_Widest.f k L R S N = some (widV (cntW L R c L.toNat)) := by
  obtain ⟨m, hs, _⟩ := (chart_says h).2
  have h' := rightB_iff.1 hp
  obtain ⟨K, hK⟩ := wid_l0 hp c hs.1 (L.toNat + 1) 0 (by omega) (fun v hv => by omega)
  refine ⟨K, fun k hk => ?_⟩
  unfold steer_Widest.f
  rw [check_f, if_pos hp, Option.bind_some, if_pos rfl, h, Option.bind_some]
  exact hK k hk
theorem ref_index_0 (hp : rightB L R S N = true) {e : Int} (h1 : -L ≤ e) (h2 : e ≤ L) : meridianref06_index.f L R S N e 0 = some ((e + L) * (2 * R + 1) + 0 + R) := by
  have h' := rightB_iff.1 hp
  exact ref_index_f (by omega) (by omega) (by omega) (by omega) (isB_iff.2 (by omega))
/-- The reference's loop over errors from e up to w. -/
theorem rw_l1 (hp : rightB L R S N = true) (c : List Int) (hc : c.length = siz L R) (w : Nat) (hw : (w : Int) ≤ L) (v0 : Option (Int × Int)) (h0 : ∃ K, ∀ k, K ≤ k → meridianref06_Widest.l0 k c ((w : Int) - 1) L R S N = v0) :
    ∀ (d : Nat) (e : Int) (b : Bool), -(w : Int) ≤ e → e + d = w + 1 → ∃ K, ∀ k, K ≤ k → meridianref06_Widest.l1 k c w b e L R S N = if (b && (List.range d).all fun i => okW L R c (e + i)) = true then some ((w : Int), 0) else v0
  | 0, e, b, he, hd => by
    obtain ⟨K, hK⟩ := h0
    have h' := rightB_iff.1 hp
    refine ⟨K + 1, fun k hk => ?_⟩
    obtain ⟨k, rfl⟩ : ∃ j, k = j + 1 := ⟨k - 1, by omega⟩
    unfold meridianref06_Widest.l1
    rw [if_neg (by omega)]
    cases b
    · rw [if_neg (by simp), if_neg (by simp), wrap_small _ (by omega) (by omega)]
      exact hK k (by omega)
    · rw [if_pos rfl]; rfl
  | d + 1, e, b, he, hd => by
    have h' := rightB_iff.1 hp
    have i1 := idx_in hp hc (e := e) (by omega) (by omega)
    have p1 := ref_index_0 hp (e := e) (by omega) (by omega)
    have hall : ((List.range (d + 1)).all fun i => okW L R c (e + i)) = (okW L R c e && (List.range d).all fun i => okW L R c (e + 1 + i)) := by
      rw [List.range_succ_eq_map, List.all_cons, List.all_map]
      congr 1
      · simp
      · congr 1
        funext i
        simp only [Function.comp]
        rw [show e + ((i.succ : Nat) : Int) = e + 1 + i by omega]
    obtain ⟨K, hK⟩ := rw_l1 hp c hc w hw v0 h0 d (e + 1) (b && okW L R c e) (by omega) (by omega)
    have W1 : Aside0 (wrap64 (e + 1) = e + 1) := ⟨wrap_small _ (by omega) (by omega)⟩
    refine ⟨K + 1, fun k hk => ?_⟩
    obtain ⟨k, rfl⟩ : ∃ j, k = j + 1 := ⟨k - 1, by omega⟩
    have hKk := hK k (by omega)
    unfold meridianref06_Widest.l1
    rw [if_pos (by omega), W1.out, hall, ← Bool.and_assoc]
    cases b
    · rw [if_neg (by simp)]
      exact hKk
    · rw [if_pos rfl, p1, Option.bind_some, if_pos i1.1, if_pos i1.2]
      exact hKk
theorem rw_l0 (hp : rightB L R S N = true) (c : List Int) (hc : c.length = siz L R) : ∀ (n : Nat), (n : Int) ≤ L → ∃ K, ∀ k, K ≤ k → meridianref06_Widest.l0 k c (n : Int) L R S N = some (widV (cntW L R c n))
  | n, hn => by
    have h' := rightB_iff.1 hp
    have hprev : ∃ K, ∀ k, K ≤ k → meridianref06_Widest.l0 k c ((n : Int) - 1) L R S N = some (widV (match n with | 0 => 0 | m + 1 => cntW L R c m)) := by
      cases n with
      | zero =>
        refine ⟨1, fun k hk => ?_⟩
        obtain ⟨k, rfl⟩ : ∃ j, k = j + 1 := ⟨k - 1, by omega⟩
        unfold meridianref06_Widest.l0
        rw [if_neg (by omega)]; rfl
      | succ m =>
        have := rw_l0 hp c hc m (by omega)
        rw [show (((m + 1 : Nat) : Int) - 1) = (m : Int) by omega]
        exact this
    obtain ⟨K, hK⟩ := rw_l1 hp c hc n hn _ hprev (2 * n + 1) (-(n : Int)) true (by omega) (by omega)
    refine ⟨K + 1, fun k hk => ?_⟩
    obtain ⟨k, rfl⟩ : ∃ j, k = j + 1 := ⟨k - 1, by omega⟩
    unfold meridianref06_Widest.l0
    rw [if_pos (by omega), wrap_small (-(n : Int)) (by omega) (by omega), hK k (by omega), Bool.true_and]
    have hall : ((List.range (2 * n + 1)).all fun i => okW L R c (-(n : Int) + i)) = okTo L R c n := by
      rw [Bool.eq_iff_iff, okTo_iff, List.all_eq_true]
      simp only [List.mem_range]
      constructor
      · intro h e h1 h2
        have := h (e + n).toNat (by omega)
        rwa [show -(n : Int) + (((e + n).toNat : Nat) : Int) = e by omega] at this
      · intro h i hi
        exact h _ (by omega) (by omega)
    rw [hall]
    cases n with
    | zero =>
      cases ht : okTo L R c 0
      · rw [if_neg (by simp)]
        unfold cntW; rw [ht]; rfl
      · rw [if_pos rfl]
        unfold cntW; rw [ht]; rfl
    | succ m =>
      cases ht : okTo L R c (m + 1)
      · rw [if_neg (by simp)]
        conv => rhs; unfold cntW
        rw [ht]; rfl
      · rw [if_pos rfl]
        conv => rhs; unfold cntW
        rw [ht]
        unfold widV
        rw [if_pos rfl, if_neg (by omega)]
        congr 2
        omega
theorem ref_widest_f (hp : rightB L R S N = true) {c : List Int} (h : steer_Plan_chart.f L R S N = some c) : ∃ K, ∀ k, K ≤ k → meridianref06_Widest.f k L R S N = some (widV (cntW L R c L.toNat)) := by
  obtain ⟨m, hs, _⟩ := (chart_says h).2
  have h' := rightB_iff.1 hp
  obtain ⟨K1, hK1⟩ := ref_chart_f hp h
  obtain ⟨K2, hK2⟩ := rw_l0 hp c hs.1 L.toNat (by omega)
  rw [show ((L.toNat : Nat) : Int) = L by omega] at hK2
  refine ⟨K1 + K2, fun k hk => ?_⟩
  unfold meridianref06_Widest.f
  rw [hK1 k (by omega), Option.bind_some, if_pos rfl]
  exact hK2 k (by omega)
end
end Go.Proofs.Ytcaekmalkbaldaa.M
