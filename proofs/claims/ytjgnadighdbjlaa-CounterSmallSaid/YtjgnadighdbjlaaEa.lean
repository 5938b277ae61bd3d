/- Shortest ways: what the rounds of Narrow find. -/
import Derived.OwnWalk
import Derived.Deep.RegionHeld3
import Derived.Test.YtjgnadighdbjlaaCw
namespace Go.Proofs.Ytjgnadighdbjlaa.C
open Go.RowKit Go.Shelf Go.Maps Go.Proofs.YtjgnadighdbjlaaW.PrintWords Go.Proofs.YtjgnadighdbjlaaW.PrintLast Go.Proofs.YtjgnadighdbjlaaW.PrintMore
set_option linter.unusedVariables false
set_option linter.unusedSimpArgs false
def wsum : List (Nat × Int) → Int
  | [] => 0
  | x :: t => x.2 + wsum t
theorem wsum_append : ∀ s t : List (Nat × Int), wsum (s ++ t) = wsum s + wsum t
  | [], t => by simp [wsum]
  | x :: s, t => by rw [List.cons_append, wsum, wsum, wsum_append s t]; omega
/-- A way from a to b: its further clocks, and the limits. -/
def IsWay (E : Nat → Nat → Int → Prop) : Nat → List (Nat × Int) → Nat → Prop
  | a, [], b => a = b
  | a, x :: t, b => E a x.1 x.2 ∧ IsWay E x.1 t b
theorem way_append {E : Nat → Nat → Int → Prop} : ∀ (s t : List (Nat × Int)) (a b : Nat), IsWay E a (s ++ t) b ↔ ∃ v, IsWay E a s v ∧ IsWay E v t b
  | [], t, a, b => by simp [IsWay]
  | x :: s, t, a, b => by
    rw [List.cons_append, IsWay, way_append s t]
    constructor
    · rintro ⟨h, v, h1, h2⟩; exact ⟨v, ⟨h, h1⟩, h2⟩
    · rintro ⟨v, ⟨h, h1⟩, h2⟩; exact ⟨h, v, h1, h2⟩
theorem way_last {E : Nat → Nat → Int → Prop} {s : List (Nat × Int)} {x : Nat × Int} {a b : Nat} (h : IsWay E a (s ++ [x]) b) : b = x.1 := by
  obtain ⟨v, _, h2⟩ := (way_append s [x] a b).1 h
  exact h2.2.symm
/-- Limits are bounded, and between two clocks of the net. -/
structure EOk (E : Nat → Nat → Int → Prop) (N : Nat) : Prop where
  lt : ∀ a b L, E a b L → a < N ∧ b < N ∧ a ≠ b ∧ -1000000000000000 ≤ L ∧ L ≤ 1000000000000000
theorem way_bound {E : Nat → Nat → Int → Prop} {N : Nat} (hE : EOk E N) : ∀ (t : List (Nat × Int)) (a b : Nat), IsWay E a t b → -(1000000000000000 * (t.length : Int)) ≤ wsum t ∧ wsum t ≤ 1000000000000000 * (t.length : Int)
  | [], a, b, h => by simp [wsum]
  | x :: t, a, b, h => by
    have h1 := hE.lt _ _ _ h.1
    have h2 := way_bound hE t _ _ h.2
    rw [wsum, List.length_cons]
    push_cast
    omega
theorem way_lt {E : Nat → Nat → Int → Prop} {N : Nat} (hE : EOk E N) : ∀ (t : List (Nat × Int)) (a b : Nat), a < N → IsWay E a t b → b < N ∧ ∀ v ∈ a :: t.map Prod.fst, v < N
  | [], a, b, ha, h => by
    have : a = b := h
    subst this
    exact ⟨ha, by simpa using ha⟩
  | x :: t, a, b, ha, h => by
    have h2 := way_lt hE t x.1 b (hE.lt _ _ _ h.1).2.1 h.2
    refine ⟨h2.1, fun v hv => ?_⟩
    rcases List.mem_cons.1 hv with rfl | hv
    · exact ha
    · exact h2.2 v hv
/-- All clocks between the ends are below k. -/
def Via (k : Nat) (t : List (Nat × Int)) : Prop := ∀ x ∈ t.dropLast, x.1 < k
theorem drop_app {s t : List (Nat × Int)} (h : t ≠ []) : (s ++ t).dropLast = s ++ t.dropLast := List.dropLast_append_of_ne_nil h
theorem via_parts {k : Nat} {s t : List (Nat × Int)} (h : Via k (s ++ t)) (ht : t ≠ []) : (∀ x ∈ s, x.1 < k) ∧ Via k s ∧ Via k t := by
  unfold Via at h
  rw [drop_app ht] at h
  have h1 : ∀ x ∈ s, x.1 < k := fun x hx => h x (List.mem_append_left _ hx)
  exact ⟨h1, fun x hx => h1 x (List.dropLast_subset _ hx), fun x hx => h x (List.mem_append_right _ hx)⟩
theorem via_join {k : Nat} {s t : List (Nat × Int)} (h1 : ∀ x ∈ s, x.1 < k) (h2 : Via k t) : Via k (s ++ t) := by
  by_cases ht : t = []
  · subst ht
    rw [List.append_nil]
    exact fun x hx => h1 x (List.dropLast_subset _ hx)
  · unfold Via
    rw [drop_app ht]
    intro x hx
    rcases List.mem_append.1 hx with hx | hx
    · exact h1 x hx
    · exact h2 x hx
theorem via_cut {k : Nat} {t1 t2 t3 : List (Nat × Int)} (h : Via k (t1 ++ t2 ++ t3)) (h2 : t2 ≠ []) : Via k t2 ∧ Via k (t1 ++ t3) := by
  by_cases h3 : t3 = []
  · subst h3
    rw [List.append_nil] at h
    have := via_parts h h2
    exact ⟨this.2.2, via_join this.1 (fun x hx => by cases hx)⟩
  · have := via_parts h h3
    exact ⟨fun x hx => this.1 x (List.mem_append_right _ (List.dropLast_subset _ hx)), via_join (fun x hx => this.1 x (List.mem_append_left _ hx)) this.2.2⟩
theorem via_split {E : Nat → Nat → Int → Prop} {k a b : Nat} {t : List (Nat × Int)} (hw : IsWay E a t b) (h : Via (k + 1) t) (hn : ¬ Via k t) : ∃ t1 t2, t = t1 ++ t2 ∧ t1 ≠ [] ∧ t2 ≠ [] ∧ IsWay E a t1 k ∧ IsWay E k t2 b := by
  unfold Via at hn
  simp only [Classical.not_forall] at hn
  obtain ⟨x, hx, hxk⟩ := hn
  have hxe : x.1 = k := by have := h x hx; omega
  have hne : t ≠ [] := by intro e; subst e; cases hx
  obtain ⟨s1, s2, hs⟩ := List.append_of_mem hx
  have ht : t = (s1 ++ [x]) ++ (s2 ++ [t.getLast hne]) := by
    have e := (List.dropLast_concat_getLast hne).symm
    rw [hs] at e
    exact e.trans (by simp)
  rw [ht] at hw
  obtain ⟨v, h1, h2⟩ := (way_append _ _ _ _).1 hw
  have := way_last h1
  rw [this, hxe] at h1 h2
  exact ⟨_, _, ht, by simp, by simp, h1, h2⟩
theorem nodup_le : ∀ (N : Nat) (l : List Nat), l.Nodup → (∀ x ∈ l, x < N) → l.length ≤ N
  | 0, l, _, h => by
    cases l with
    | nil => simp
    | cons x l => have := h x (List.mem_cons_self ..); omega
  | N + 1, l, hl, h => by
    by_cases hm : N ∈ l
    · have h1 := nodup_le N (l.erase N) (hl.erase N) (fun x hx => by
        have hx2 := (hl.mem_erase_iff).1 hx
        have := h x hx2.2
        have := hx2.1
        omega)
      rw [List.length_erase_of_mem hm] at h1
      omega
    · have := nodup_le N l hl (fun x hx => by
        have h1 := h x hx
        have h2 : x ≠ N := fun e => hm (e ▸ hx)
        omega)
      omega
theorem way_mem {E : Nat → Nat → Int → Prop} {v : Nat} : ∀ (t : List (Nat × Int)) (a b : Nat), IsWay E a t b → v ∈ t.map Prod.fst → ∃ t2 t3, t = t2 ++ t3 ∧ t2 ≠ [] ∧ IsWay E a t2 v ∧ IsWay E v t3 b
  | [], a, b, _, hv => by cases hv
  | x :: t, a, b, h, hv => by
    rw [List.map_cons] at hv
    rcases List.mem_cons.1 hv with rfl | hv
    · exact ⟨[x], t, rfl, by simp, ⟨h.1, rfl⟩, h.2⟩
    · obtain ⟨t2, t3, rfl, _, h2, h3⟩ := way_mem t x.1 b h.2 hv
      exact ⟨x :: t2, t3, rfl, by simp, ⟨h.1, h2⟩, h3⟩
theorem way_loop {E : Nat → Nat → Int → Prop} : ∀ (t : List (Nat × Int)) (a b : Nat), IsWay E a t b → ¬ (a :: t.map Prod.fst).Nodup → ∃ t1 t2 t3 v, t = t1 ++ t2 ++ t3 ∧ t2 ≠ [] ∧ IsWay E a t1 v ∧ IsWay E v t2 v ∧ IsWay E v t3 b
  | t, a, b, h, hn => by
    by_cases hv : a ∈ t.map Prod.fst
    · obtain ⟨t2, t3, rfl, h2, h3, h4⟩ := way_mem t a b h hv
      exact ⟨[], t2, t3, a, rfl, h2, rfl, h3, h4⟩
    · cases t with
      | nil => exact absurd (by simp) hn
      | cons x t =>
        have hn2 : ¬ (x.1 :: t.map Prod.fst).Nodup := fun h2 => hn (List.nodup_cons.2 ⟨hv, h2⟩)
        obtain ⟨t1, t2, t3, v, rfl, h2, h3, h4, h5⟩ := way_loop t x.1 b h.2 hn2
        exact ⟨x :: t1, t2, t3, v, rfl, h2, ⟨h.1, h3⟩, h4, h5⟩
  termination_by t => t.length
/-- A way that is longer than there are clocks has a loop. -/
theorem way_long {E : Nat → Nat → Int → Prop} {N : Nat} (hE : EOk E N) {t : List (Nat × Int)} {a b : Nat} (ha : a < N) (h : IsWay E a t b) (hl : N ≤ t.length) : ∃ t1 t2 t3 v, t = t1 ++ t2 ++ t3 ∧ t2 ≠ [] ∧ IsWay E a t1 v ∧ IsWay E v t2 v ∧ IsWay E v t3 b := by
  refine way_loop t a b h (fun hn => ?_)
  have := nodup_le N _ hn (way_lt hE t a b ha h).2
  simp at this
  omega
theorem way_short {E : Nat → Nat → Int → Prop} {N k : Nat} (hE : EOk E N) {a b : Nat} (ha : a < N) (hc : ∀ (t : List (Nat × Int)) (v : Nat), v < N → IsWay E v t v → Via k t → t.length ≤ 40 → 0 ≤ wsum t) :
    ∀ (n : Nat) (t : List (Nat × Int)), t.length ≤ n → t.length ≤ 40 → IsWay E a t b → Via k t → ∃ t', IsWay E a t' b ∧ Via k t' ∧ t'.length ≤ N ∧ wsum t' ≤ wsum t
  | 0, t, hn, _, h, hv => ⟨t, h, hv, by omega, Int.le_refl _⟩
  | n + 1, t, hn, h40, h, hv => by
    by_cases hl : t.length ≤ N
    · exact ⟨t, h, hv, hl, Int.le_refl _⟩
    · obtain ⟨t1, t2, t3, v, rfl, h2, h3, h4, h5⟩ := way_long hE ha h (by omega)
      have hvv := via_cut hv h2
      have hlen : 1 ≤ t2.length := by cases t2 with
        | nil => exact absurd rfl h2
        | cons => simp
      simp only [List.length_append] at hn h40 hl
      have hc2 := hc t2 v (way_lt hE t1 a v ha h3).1 h4 hvv.1 (by omega)
      obtain ⟨t', a1, a2, a3, a4⟩ := way_short hE ha hc n (t1 ++ t3) (by rw [List.length_append]; omega) (by rw [List.length_append]; omega) ((way_append _ _ _ _).2 ⟨v, h3, h5⟩) hvv.2
      refine ⟨t', a1, a2, a3, ?_⟩
      rw [wsum_append, wsum_append]
      rw [wsum_append] at a4
      omega
/-- A loop of negative sum is there without more uses than clocks. -/
theorem loop_short {E : Nat → Nat → Int → Prop} {N : Nat} (hE : EOk E N) : ∀ (n : Nat) (t : List (Nat × Int)) (v : Nat), t.length ≤ n → v < N → IsWay E v t v → wsum t < 0 → ∃ t' v', v' < N ∧ IsWay E v' t' v' ∧ t'.length ≤ N ∧ wsum t' < 0
  | 0, t, v, hn, hv, h, hs => ⟨t, v, hv, h, by omega, hs⟩
  | n + 1, t, v, hn, hv, h, hs => by
    by_cases hl : t.length ≤ N
    · exact ⟨t, v, hv, h, hl, hs⟩
    · obtain ⟨t1, t2, t3, u, rfl, h2, h3, h4, h5⟩ := way_long hE hv h (by omega)
      have hlen : 1 ≤ t2.length := by cases t2 with
        | nil => exact absurd rfl h2
        | cons => simp
      have hu := (way_lt hE t1 v u hv h3).1
      simp only [List.length_append] at hn hl
      rw [wsum_append, wsum_append] at hs
      by_cases hs2 : wsum t2 < 0
      · by_cases he : t1.length + t3.length = 0
        · have e1 : t1 = [] := List.length_eq_zero_iff.1 (by omega)
          have e3 : t3 = [] := List.length_eq_zero_iff.1 (by omega)
          subst e1 e3
          have huv : v = u := h3
          subst huv
          -- the loop is all: cut it elsewhere
          cases t2 with
          | nil => exact absurd rfl h2
          | cons x t =>
            have hx := hE.lt _ _ _ h4.1
            simp only [List.length_cons, List.length_nil] at hl hn
            obtain ⟨s1, s2, s3, z, rfl, g2, g3, g4, g5⟩ := way_long hE hx.2.1 h4.2 (by omega)
            have hz := (way_lt hE s1 x.1 z hx.2.1 g3).1
            have gl : 1 ≤ s2.length := by cases s2 with
              | nil => exact absurd rfl g2
              | cons => simp
            simp only [List.length_append] at hn
            rw [wsum, wsum_append, wsum_append] at hs2
            by_cases hs3 : wsum s2 < 0
            · exact loop_short hE n s2 z (by omega) hz g4 hs3
            · exact loop_short hE n (x :: (s1 ++ s3)) v (by simp only [List.length_cons, List.length_append]; omega) hv ⟨h4.1, (way_append _ _ _ _).2 ⟨z, g3, g5⟩⟩ (by rw [wsum, wsum_append]; omega)
        · exact loop_short hE n t2 u (by omega) hu h4 hs2
      · exact loop_short hE n (t1 ++ t3) v (by rw [List.length_append]; omega) hv ((way_append _ _ _ _).2 ⟨u, h3, h5⟩) (by rw [wsum_append]; omega)
/-- What a matrix of single limits says. -/
structure FwBase (E : Nat → Nat → Int → Prop) (N : Nat) (D : Nat → Nat → Int) : Prop where
  ok : EOk E N
  n16 : N ≤ 16
  diag : ∀ a, a < N → D a a = 0
  le : ∀ a b L, E a b L → D a b ≤ L
  way : ∀ a b, a < N → b < N → D a b < 100000000000000000 → a = b ∨ E a b (D a b)
  top : ∀ a b, D a b ≤ 100000000000000000
theorem fw_le {E : Nat → Nat → Int → Prop} {N : Nat} {D : Nat → Nat → Int} (hB : FwBase E N D) : ∀ k, k ≤ N → (∀ j, j < k → 0 ≤ fwIt D j j j) → ∀ (t : List (Nat × Int)) (a b : Nat), a < N → b < N → IsWay E a t b → Via k t → t.length ≤ 40 → fwIt D k a b ≤ wsum t
  | 0, _, _, t, a, b, ha, hb, h, hv, _ => by
    match t, h, hv with
    | [], h, _ =>
      have : a = b := h
      subst this
      have := hB.diag a ha
      simp only [fwIt, wsum]; omega
    | [x], h, _ =>
      have e : x.1 = b := h.2
      have := hB.le a x.1 x.2 h.1
      rw [e] at this
      simp only [fwIt, wsum]; omega
    | x :: y :: t, h, hv =>
      have := hv x (by simp)
      omega
  | k + 1, hk, hd, t, a, b, ha, hb, h, hv, hl => by
    have ih := fw_le hB k (by omega) (fun j hj => hd j (by omega))
    have hkk := hd k (by omega)
    have hkN : k < N := by omega
    have hA : ∀ (n : Nat) (t : List (Nat × Int)) (a : Nat), t.length ≤ n → t.length ≤ 40 → a < N → IsWay E a t k → Via (k + 1) t → fwIt D k a k ≤ wsum t := by
      intro n
      induction n with
      | zero =>
        intro t a hn h40 ha h hv
        have : t = [] := List.length_eq_zero_iff.1 (by omega)
        subst this
        exact ih [] a k ha hkN h (fun x hx => by cases hx) (by simp)
      | succ n ihn =>
        intro t a hn h40 ha h hv
        by_cases hvk : Via k t
        · exact ih t a k ha hkN h hvk h40
        · obtain ⟨t1, t2, rfl, g1, g2, h1, h2⟩ := via_split h hv hvk
          have l1 : 1 ≤ t1.length := List.length_pos_iff.2 g1
          have l2 : 1 ≤ t2.length := List.length_pos_iff.2 g2
          have hp := via_parts hv g2
          rw [List.length_append] at hn h40
          have e1 := ihn t1 a (by omega) (by omega) ha h1 hp.2.1
          have e2 := ihn t2 k (by omega) (by omega) hkN h2 hp.2.2
          rw [wsum_append]
          omega
    have hBk : ∀ (n : Nat) (t : List (Nat × Int)), t.length ≤ n → t.length ≤ 40 → IsWay E k t b → Via (k + 1) t → fwIt D k k b ≤ wsum t := by
      intro n
      induction n with
      | zero =>
        intro t hn h40 h hv
        have : t = [] := List.length_eq_zero_iff.1 (by omega)
        subst this
        exact ih [] k b hkN hb h (fun x hx => by cases hx) (by simp)
      | succ n ihn =>
        intro t hn h40 h hv
        by_cases hvk : Via k t
        · exact ih t k b hkN hb h hvk h40
        · obtain ⟨t1, t2, rfl, g1, g2, h1, h2⟩ := via_split h hv hvk
          have l1 : 1 ≤ t1.length := List.length_pos_iff.2 g1
          have l2 : 1 ≤ t2.length := List.length_pos_iff.2 g2
          have hp := via_parts hv g2
          rw [List.length_append] at hn h40
          have e1 := hA _ t1 k (Nat.le_refl _) (by omega) hkN h1 hp.2.1
          have e2 := ihn t2 (by omega) (by omega) h2 hp.2.2
          rw [wsum_append]
          omega
    have hle : fwIt D (k + 1) a b ≤ fwIt D k a b := by
      show fwStep k (fwIt D k) a b ≤ _
      unfold fwStep; split <;> omega
    by_cases hvk : Via k t
    · have := ih t a b ha hb h hvk hl
      omega
    · obtain ⟨t1, t2, rfl, g1, g2, h1, h2⟩ := via_split h hv hvk
      have hp := via_parts hv g2
      rw [List.length_append] at hl
      have e1 := hA _ t1 a (Nat.le_refl _) (by omega) ha h1 hp.2.1
      have e2 := hBk _ t2 (Nat.le_refl _) (by omega) h2 hp.2.2
      have b1 := (way_bound hB.ok t1 _ _ h1).2
      have b2 := (way_bound hB.ok t2 _ _ h2).2
      have : fwIt D (k + 1) a b ≤ fwIt D k a k + fwIt D k k b := by
        show fwStep k (fwIt D k) a b ≤ _
        unfold fwStep
        rw [if_pos ⟨by omega, by omega⟩]
        omega
      rw [wsum_append]
      omega
theorem fw_way {E : Nat → Nat → Int → Prop} {N : Nat} {D : Nat → Nat → Int} (hB : FwBase E N D) : ∀ k, k ≤ N → (∀ j, j ≤ k → ∀ a, a < N → 0 ≤ fwIt D j a a) → ∀ a b, a < N → b < N → fwIt D k a b < 100000000000000000 → ∃ t, IsWay E a t b ∧ Via k t ∧ t.length ≤ N ∧ wsum t = fwIt D k a b
  | 0, _, _, a, b, ha, hb, h => by
    rcases hB.way a b ha hb h with rfl | he
    · exact ⟨[], rfl, (fun x hx => by cases hx), by simp, by have := hB.diag a ha; simp only [fwIt, wsum]; omega⟩
    · exact ⟨[(b, D a b)], ⟨he, rfl⟩, (fun x hx => by cases hx), by simp; omega, by simp [fwIt, wsum]⟩
  | k + 1, hk, hd, a, b, ha, hb, h => by
    have ih := fw_way hB k (by omega) (fun j hj => hd j (by omega))
    have hkN : k < N := by omega
    have hn := hB.n16
    have hle := fw_le hB (k + 1) hk (fun j hj => hd j (by omega) j (by omega))
    have mono : ∀ t, Via k t → Via (k + 1) t := fun t ht x hx => by have := ht x hx; omega
    have hs : fwIt D (k + 1) a b = fwStep k (fwIt D k) a b := rfl
    rw [hs] at h ⊢
    unfold fwStep at h ⊢
    split
    · rename_i hc
      rw [if_pos hc] at h
      by_cases hm : fwIt D k a b ≤ fwIt D k a k + fwIt D k k b
      · rw [Int.min_eq_left hm] at h ⊢
        obtain ⟨t, h1, h2, h3, h4⟩ := ih a b ha hb h
        exact ⟨t, h1, mono t h2, h3, h4⟩
      · obtain ⟨t1, x1, x2, x3, x4⟩ := ih a k ha hkN hc.1
        obtain ⟨t2, y1, y2, y3, y4⟩ := ih k b hkN hb hc.2
        have hall : ∀ x ∈ t1, x.1 < k + 1 := by
          intro x hx
          rcases List.eq_nil_or_concat t1 with rfl | ⟨s, z, rfl⟩
          · cases hx
          · rw [List.concat_eq_append] at x1 x2 hx
            have hz := way_last x1
            unfold Via at x2
            rw [List.dropLast_concat] at x2
            rcases List.mem_append.1 hx with hx | hx
            · have := x2 x hx; omega
            · have := List.mem_singleton.1 hx
              subst this; omega
        obtain ⟨t, z1, z2, z3, z4⟩ := way_short (k := k + 1) (b := b) hB.ok ha (fun t v hv hw hvia h40 => by
          have := hle t v v hv hv hw hvia h40
          have := hd (k + 1) (Nat.le_refl _) v hv
          omega) _ (t1 ++ t2) (Nat.le_refl _) (by rw [List.length_append]; omega) ((way_append _ _ _ _).2 ⟨k, x1, y1⟩) (via_join hall (mono t2 y2))
        have hl := hle t a b ha hb z1 z2 (by omega)
        rw [hs] at hl
        unfold fwStep at hl
        rw [if_pos hc, Int.min_eq_right (by omega)] at hl
        rw [Int.min_eq_right (by omega)]
        rw [wsum_append] at z4
        exact ⟨t, z1, z2, z3, by omega⟩
    · rename_i hc
      rw [if_neg hc] at h
      obtain ⟨t, h1, h2, h3, h4⟩ := ih a b ha hb h
      exact ⟨t, h1, mono t h2, h3, h4⟩
/-- Numbers stay in bounds. -/
theorem fw_bound {E : Nat → Nat → Int → Prop} {N : Nat} {D : Nat → Nat → Int} (hB : FwBase E N D) : ∀ k, k < N → (∀ j, j ≤ k → ∀ a, a < N → 0 ≤ fwIt D j a a) → (∀ a b, a < N → b < N → fwIt D k a b < 100000000000000000 → -20000000000000000 ≤ fwIt D k a b ∧ fwIt D k a b ≤ 20000000000000000) ∧ fwIt D k k k = 0 := by
  intro k hk hd
  have hn := hB.n16
  refine ⟨fun a b ha hb h => ?_, ?_⟩
  · obtain ⟨t, h1, _, h3, h4⟩ := fw_way hB k (by omega) hd a b ha hb h
    have := way_bound hB.ok t _ _ h1
    omega
  · have := fw_le hB k (by omega) (fun j hj => hd j (by omega) j (by omega)) [] k k hk hk rfl (fun x hx => by cases hx) (by simp)
    have := hd k (Nat.le_refl _) k hk
    simp only [wsum] at *
    omega
theorem via_all {E : Nat → Nat → Int → Prop} {N : Nat} (hE : EOk E N) {t : List (Nat × Int)} {a b : Nat} (ha : a < N) (h : IsWay E a t b) : Via N t := fun x hx =>
  (way_lt hE t a b ha h).2 _ (List.mem_cons_of_mem _ (List.mem_map_of_mem (List.dropLast_subset _ hx)))
/-- Without a loop of negative sum the rounds end well, and the other way round. -/
theorem fw_neg {E : Nat → Nat → Int → Prop} {N : Nat} {D : Nat → Nat → Int} (hB : FwBase E N D) : ∀ k, k ≤ N → (∀ j, j ≤ k → ∀ a, a < N → 0 ≤ fwIt D j a a) ∨ ∃ t v, v < N ∧ IsWay E v t v ∧ t.length ≤ 2 * N ∧ wsum t < 0
  | 0, _ => Or.inl (fun j hj a ha => by
    have : j = 0 := by omega
    subst this
    have := hB.diag a ha
    simp only [fwIt]; omega)
  | k + 1, hk => by
    rcases fw_neg hB k (by omega) with h | h
    · by_cases hall : ∀ a, a < N → 0 ≤ fwIt D (k + 1) a a
      · left
        intro j hj a ha
        rcases Nat.lt_or_ge j (k + 1) with hj2 | hj2
        · exact h j (by omega) a ha
        · have : j = k + 1 := by omega
          subst this
          exact hall a ha
      · right
        simp only [Classical.not_forall] at hall
        obtain ⟨a, ha, hneg⟩ := hall
        have h0 := h k (Nat.le_refl _) a ha
        have hs : fwIt D (k + 1) a a = fwStep k (fwIt D k) a a := rfl
        rw [hs] at hneg
        unfold fwStep at hneg
        split at hneg
        · rename_i hc
          obtain ⟨t1, x1, _, x3, x4⟩ := fw_way hB k (by omega) h a k ha (by omega) hc.1
          obtain ⟨t2, y1, _, y3, y4⟩ := fw_way hB k (by omega) h k a (by omega) ha hc.2
          exact ⟨t1 ++ t2, a, ha, (way_append _ _ _ _).2 ⟨k, x1, y1⟩, by rw [List.length_append]; omega, by rw [wsum_append]; omega⟩
        · exact absurd h0 hneg
    · exact Or.inr h
theorem okFw_iff {E : Nat → Nat → Int → Prop} {N : Nat} {D : Nat → Nat → Int} (hB : FwBase E N D) : okFw N D ↔ ∀ t v, v < N → IsWay E v t v → 0 ≤ wsum t := by
  constructor
  · intro h t v hv hw
    rcases Int.lt_or_le (wsum t) 0 with hneg | h0
    · have hn := hB.n16
      obtain ⟨t', v', h1, h2, h3, h4⟩ := loop_short hB.ok _ t v (Nat.le_refl _) hv hw hneg
      have := fw_le hB N (Nat.le_refl _) (fun j hj => h j (by omega) j hj) t' v' v' h1 h1 h2 (via_all hB.ok h1 h2) (by omega)
      have := h N (Nat.le_refl _) v' h1
      omega
    · exact h0
  · intro h k hk a ha
    rcases fw_neg hB N (Nat.le_refl _) with h1 | ⟨t, v, hv, hw, _, hneg⟩
    · exact h1 k hk a ha
    · have := h t v hv hw
      omega
end Go.Proofs.Ytjgnadighdbjlaa.C
