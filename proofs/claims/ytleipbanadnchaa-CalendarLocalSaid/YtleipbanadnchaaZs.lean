/- The contract of calendar.sort, by hand. -/
import Derived.OwnWalk
import Derived.Test.YtleipbanadnchaaY1
import Derived.Test.YtleipbanadnchaaCk
import Derived.Test.YtleipbanadnchaaDa
import Derived.BigRegion
import Derived.Laws.OwnMore
import Derived.Deep.QuietTactic
import Derived.BigQuiet
namespace Go.Proofs.Ytleipbanadnchaa.C
open Go.RowKit Go.Shelf Go.Maps Go.Proofs.YtleipbanadnchaaW.PrintWords Go.Proofs.YtleipbanadnchaaW.PrintLast Go.Proofs.YtleipbanadnchaaW.PrintMore
set_option linter.unusedVariables false
set_option linter.unusedSimpArgs false
/-- The cells of a row of numbers. -/
abbrev icells (l : List Int) : List Value := l.map (fun x => Value.int .i64 x)
/-- The first i + 1 numbers rise, but for the one at k. -/
def SortB (m : List Int) (i k : Nat) : Prop := ∀ p q x y, p < q → q ≤ i → q ≠ k → m[p]? = some x → m[q]? = some y → x ≤ y
theorem sortB_step {m : List Int} {i j : Nat} {a b : Int} (h : SortB m i (j + 1)) (hi : j + 1 ≤ i) (ha : m[j]? = some a) (hb : m[j + 1]? = some b) (hlt : b < a) : SortB ((m.set (j + 1) a).set j b) i j := by
  have hl1 := (List.getElem?_eq_some_iff.1 hb).1
  have hl0 := (List.getElem?_eq_some_iff.1 ha).1
  have g : ∀ r, ((m.set (j + 1) a).set j b)[r]? = if r = j then some b else if r = j + 1 then some a else m[r]? := fun r => by
    rw [List.getElem?_set]
    by_cases h1 : j = r
    · subst h1; simp; omega
    · rw [if_neg h1, if_neg (fun e => h1 e.symm), List.getElem?_set]
      by_cases h2 : j + 1 = r
      · subst h2; simp; omega
      · rw [if_neg h2, if_neg (fun e => h2 e.symm)]
  intro p q x y hpq hq hne hx hy
  rw [g] at hx hy
  rw [if_neg hne] at hy
  by_cases hq1 : q = j + 1
  · rw [if_pos hq1] at hy
    cases hy
    by_cases hp : p = j
    · rw [if_pos hp] at hx; cases hx; omega
    · rw [if_neg hp, if_neg (by omega)] at hx
      exact h p j x a (by omega) (by omega) (by omega) hx ha
  · rw [if_neg hq1] at hy
    by_cases hp : p = j
    · rw [if_pos hp] at hx; cases hx
      exact h (j + 1) q b y (by omega) hq hq1 hb hy
    · rw [if_neg hp] at hx
      by_cases hp1 : p = j + 1
      · rw [if_pos hp1] at hx; cases hx
        exact h j q a y (by omega) hq hq1 ha hy
      · rw [if_neg hp1] at hx
        exact h p q x y hpq hq hq1 hx hy
theorem sortB_end {m : List Int} {i k : Nat} (h : SortB m i k) (hk : k = 0 ∨ ∃ j a b, k = j + 1 ∧ m[j]? = some a ∧ m[j + 1]? = some b ∧ a ≤ b) : SortB m (i + 1) (i + 1) := by
  intro p q x y hpq hq hne hx hy
  by_cases hqk : q = k
  · subst hqk
    rcases hk with h0 | ⟨j, a, b, rfl, ha, hb, hab⟩
    · omega
    · rw [hb] at hy; cases hy
      by_cases hp : p = j
      · subst hp; rw [ha] at hx; cases hx; exact hab
      · have := h p j x a (by omega) (by omega) (by omega) hx ha
        omega
  · exact h p q x y hpq (by omega) hqk hx hy
theorem sortB_done {m : List Int} {i : Nat} (h : SortB m i i) (hi : m.length ≤ i) : m.Pairwise (· ≤ ·) := by
  rw [List.pairwise_iff_getElem]
  intro p q hp hq hpq
  exact h p q _ _ hpq (by omega) (by omega) (List.getElem?_eq_getElem hp) (List.getElem?_eq_getElem hq)
theorem icells_set2 (m : List Int) (j : Nat) (a b : Int) : ((icells m).set (j + 1) (.int .i64 a)).set j (.int .i64 b) = icells ((m.set (j + 1) a).set j b) := by simp [List.map_set]
theorem swap_perm {m : List Int} {j : Nat} {a b : Int} (ha : m[j]? = some a) (hb : m[j + 1]? = some b) : ((m.set (j + 1) a).set j b).Perm m := by
  obtain ⟨h0, rfl⟩ := List.getElem?_eq_some_iff.1 ha
  obtain ⟨h1, rfl⟩ := List.getElem?_eq_some_iff.1 hb
  exact List.set_set_perm h1 h0
set_option maxHeartbeats 4000000 in
set_option maxRecDepth 100000 in
theorem sort_calls (base g c : Nat) (l : List Int) (w : World) (hO : w.ownsRow base 3 1 (.slice (some ⟨g, 0, none⟩) l.length c) l.length (icells l)) (hl : l.length ≤ 1000000) :
    Calls Try.prog 102 #[.slice (some ⟨g, 0, none⟩) l.length c] w fun e w' => (∃ v, e = .returned v) ∧ ∃ m : List Int, m.Perm l ∧ m.Pairwise (· ≤ ·) ∧ w'.ownsRow base 3 1 (.slice (some ⟨g, 0, none⟩) l.length c) l.length (icells m) ∧ w.grownBy w' (some g) := by
  have HO := Aside0.mk hO
  clear hO
  go_enter Try.func102, Try.ntmps102
  go_wp2_with fail
  go_loopw [6] (fun v6 wr => ∃ (i : Nat) (m : List Int), i ≤ l.length ∧ v6 = .int .i64 i ∧ Aside0 (m.Perm l ∧ SortB m i i ∧ wr.ownsRow base 3 1 (.slice (some ⟨g, 0, none⟩) l.length c) l.length (icells m) ∧ w.grownBy wr (some g))) (fun v _ => l.length - (intOf v).toNat)
  case atStart => exact ⟨0, l, by omega, rfl, ⟨List.Perm.refl _, (fun p q _ _ hpq hq => by omega), HO.out, World.grownBy.refl _ _⟩⟩
  case round =>
    obtain ⟨i, m, hi, rfl, HI⟩ := hrel
    by_cases hlt : i < l.length
    · have d1 : decide ((i : Int) < (l.length : Int)) = true := decide_eq_true (by omega)
      go_wp2_with fail
      clear d1
      go_loopw [3] (fun v3 wx => ∃ (k : Nat) (m : List Int), k ≤ i ∧ v3 = .int .i64 k ∧ Aside0 (m.Perm l ∧ SortB m i k ∧ wx.ownsRow base 3 1 (.slice (some ⟨g, 0, none⟩) l.length c) l.length (icells m) ∧ w.grownBy wx (some g))) (fun v _ => (intOf v).toNat)
      case atStart => exact ⟨i, m, by omega, rfl, HI⟩
      case round =>
        clear HI
        obtain ⟨k, m, hk, rfl, HI⟩ := hrel
        by_cases h0 : k = 0
        · subst h0
          have dd : decide ((0 : Int) < ((0 : Nat) : Int)) = false := by decide
          go_wp2
          go_quiet (fail)
          try go_wp2
          exact ⟨⟨i + 1, m, by omega, by go_num, ⟨HI.out.1, sortB_end HI.out.2.1 (.inl rfl), HI.out.2.2.1, ⟨HI.out.2.2.2.os, HI.out.2.2.2.tape, HI.out.2.2.2.output, HI.out.2.2.2.size, HI.out.2.2.2.block⟩⟩⟩, by simp [intOf]; omega⟩
        · obtain ⟨j, rfl⟩ : ∃ j, k = j + 1 := ⟨k - 1, by omega⟩
          have hml : m.length = l.length := HI.out.1.length_eq
          have hj1 : j + 1 < m.length := by omega
          obtain ⟨a, ha⟩ : ∃ a, m[j]? = some a := ⟨_, List.getElem?_eq_getElem (by omega)⟩
          obtain ⟨b, hb⟩ : ∃ b, m[j + 1]? = some b := ⟨_, List.getElem?_eq_getElem hj1⟩
          have hO := HI.out.2.2.1
          have cA : wr.cell? ⟨g, j, none⟩ = some (.int .i64 a) := by rw [World.ownsRow.cellAt hO j (by omega)]; simp [ha]
          have cB : wr.cell? ⟨g, j + 1, none⟩ = some (.int .i64 b) := by rw [World.ownsRow.cellAt hO (j + 1) (by omega)]; simp [hb]
          have fA : wr.frozen? ⟨g, j, none⟩ = false := World.ownsRow.frozenAt hO _
          have fB : wr.frozen? ⟨g, j + 1, none⟩ = false := World.ownsRow.frozenAt hO _
          have e1 : ((j + 1 : Nat) : Int) = (j : Int) + 1 := by omega
          rw [e1]
          have d0 : decide ((0 : Int) < (j : Int) + 1) = true := decide_eq_true (by omega)
          have d0' : (0 : Int) ≤ (j : Int) := by omega
          have d1' : (j : Int) + 1 < (l.length : Int) := by omega
          have d2' : (j : Int) < (l.length : Int) := by omega
          have d3' : (0 : Int) ≤ (j : Int) + 1 := by omega
          have hw : IntKind.i64.wrap ((j : Int) + 1 - 1) = (j : Int) := by rw [show (j : Int) + 1 - 1 = (j : Int) by omega]; exact iw _ (by omega) (by omega)
          have ht1 : ((j : Int) + 1).toNat = j + 1 := by omega
          by_cases hlt2 : b < a
          · have d5 : decide (b < a) = true := decide_eq_true hlt2
            have HN := Aside0.mk (sortB_step HI.out.2.1 hk ha hb hlt2)
            have HP := Aside0.mk ((swap_perm ha hb).trans HI.out.1)
            have HS := World.ownsRow.stored hO (j + 1) (.int .i64 a)
            have HS2 := World.ownsRow.stored HS.1 j (.int .i64 b)
            rw [icells_set2] at HS2
            have HSS := Aside0.mk (And.intro HS2.1 (HS.2.trans HS2.2))
            clear HS HS2 hO ha hb hlt2 hml hj1 e1 h0
            go_wp2
            go_quiet (fail)
            try go_wp2
            go_region
            try go_wp2
            have hg := HI.out.2.2.2.trans HSS.out.2
            exact ⟨⟨j, _, by omega, rfl, ⟨HP.out, HN.out, HSS.out.1, ⟨hg.os, hg.tape, hg.output, hg.size, hg.block⟩⟩⟩, by simp [intOf]⟩
          · have d5 : decide (b < a) = false := decide_eq_false hlt2
            have HN := Aside0.mk (sortB_end HI.out.2.1 (.inr ⟨j, a, b, rfl, ha, hb, by omega⟩))
            clear hO ha hb hlt2 hml hj1 e1 h0
            go_wp2
            go_quiet (fail)
            try go_wp2
            exact ⟨⟨i + 1, m, by omega, by go_num, ⟨HI.out.1, HN.out, HI.out.2.2.1, ⟨HI.out.2.2.2.os, HI.out.2.2.2.tape, HI.out.2.2.2.output, HI.out.2.2.2.size, HI.out.2.2.2.block⟩⟩⟩, by simp [intOf]; omega⟩
    · obtain rfl : i = l.length := by omega
      go_wp2
      go_end0
      exact ⟨⟨_, rfl⟩, m, HI.out.1, sortB_done HI.out.2.1 (by rw [HI.out.1.length_eq]; exact Nat.le_refl _), HI.out.2.2.1, HI.out.2.2.2⟩
end Go.Proofs.Ytleipbanadnchaa.C
