/- What Contradict finds is a contradiction. -/
import Derived.OwnWalk
import Derived.Deep.RegionHeld3
import Derived.Test.YtjgnadighdbjlaaEb
namespace Go.Proofs.Ytjgnadighdbjlaa.C
open Go.RowKit Go.Shelf Go.Maps Go.Proofs.YtjgnadighdbjlaaW.PrintWords Go.Proofs.YtjgnadighdbjlaaW.PrintLast Go.Proofs.YtjgnadighdbjlaaW.PrintMore
set_option linter.unusedVariables false
set_option linter.unusedSimpArgs false
/-- The limits on the way back from a clock, added. -/
def cycW (l : List Bd) (s : Ct) (x : Nat) : Nat → Int
  | 0 => 0
  | k + 1 => cycW l s x k + (sAt l (s.B (backN l s x k))).2.2
/-- What holds in round r behind i uses: T says in which round a clock changed last. -/
structure CInv (l : List Bd) (N r i : Nat) (s : Ct) (T : Nat → Nat) : Prop where
  i1 : ∀ c, c < N → 1 ≤ T c → ∃ (p : Nat) (L : Int), p < N ∧ s.B c < 2 * l.length ∧ sAt l (s.B c) = ((p : Int), (c : Int), L) ∧ s.D p + L ≤ s.D c ∧ T c ≤ T p + 1
  i2 : ∀ j, j < i → ∀ (p q : Nat) (L : Int), sAt l j = ((p : Int), (q : Int), L) → s.D q ≤ s.D p + L ∨ r ≤ T p
  i2' : ∀ j, j < 2 * l.length → ∀ (p q : Nat) (L : Int), sAt l j = ((p : Int), (q : Int), L) → s.D q ≤ s.D p + L ∨ r ≤ T p + 1
  i3 : ∀ x, x < N → ∀ k, 1 ≤ k → backN l s x k = x → (∀ j, j < k → 1 ≤ T (backN l s x j)) → cycW l s x k < 0
  i4 : s.L = -1 ∨ ∃ q : Nat, s.L = q ∧ q < N ∧ T q = r
  i5 : s.L = -1 → ∀ j, j < i → ∀ (p q : Nat) (L : Int), sAt l j = ((p : Int), (q : Int), L) → s.D q ≤ s.D p + L
  tr : ∀ c, T c ≤ r
theorem backN_eqB {l : List Bd} {s s' : Ct} {x : Nat} : ∀ k, (∀ j, j < k → s'.B (backN l s' x j) = s.B (backN l s' x j)) → backN l s' x k = backN l s x k
  | 0, _ => rfl
  | k + 1, h => by
    have ih := backN_eqB k (fun j hj => h j (by omega))
    show backF l s' (backN l s' x k) = backF l s (backN l s x k)
    unfold backF
    rw [h k (by omega), ih]
theorem cycW_eqB {l : List Bd} {s s' : Ct} {x : Nat} : ∀ k, (∀ j, j < k → s'.B (backN l s' x j) = s.B (backN l s' x j)) → cycW l s' x k = cycW l s x k
  | 0, _ => rfl
  | k + 1, h => by
    rw [cycW, cycW, cycW_eqB k (fun j hj => h j (by omega)), h k (by omega), backN_eqB k (fun j hj => h j (by omega))]
theorem CInv.step {l : List Bd} {N r i : Nat} {s : Ct} {T : Nat → Nat} (hn : NetOk l N) (h : CInv l N r i s T) (hi : i < 2 * l.length) (hr : 1 ≤ r) : ∃ T', CInv l N r (i + 1) (ctStep l s i) T' := by
  obtain ⟨p, q, L, hs, hp, hq, hL⟩ := sAt_ok hn.cl hn.sp hi
  have hpq := sAt_ne hn.ne hi hs
  unfold ctStep
  rw [hs]
  simp only [Int.toNat_natCast]
  by_cases hlt : s.D p + L < s.D q
  · rw [if_pos hlt]
    refine ⟨fun c => if c = q then r else T c, ?_⟩
    have hD : ∀ c, (fun c => if c = q then s.D p + L else s.D c) c ≤ s.D c := by
      intro c
      by_cases e : c = q
      · subst e; simp only [if_true]; omega
      · simp only [if_neg e]; omega
    have hT : ∀ c, T c ≤ (fun c => if c = q then r else T c) c := by
      intro c
      by_cases e : c = q
      · subst e; simp only [if_true]; exact h.tr c
      · simp only [if_neg e]; omega
    have hsT : r ≤ T p + 1 := by
      rcases h.i2' i hi p q L hs with h2 | h2
      · omega
      · exact h2
    refine ⟨fun c hc h1 => ?_, fun j hj p' q' L' hs' => ?_, fun j hj p' q' L' hs' => ?_, fun x hx k hk hb ht => ?_, Or.inr ⟨q, rfl, hq, by simp only [if_true]⟩, fun e => by have e' : ((q : Nat) : Int) = -1 := e; omega, fun c => ?_⟩
    · by_cases e : c = q
      · subst e
        refine ⟨p, L, hp, by simp only [if_true]; exact hi, by simp only [if_true]; exact hs, by simp only [if_true, if_neg hpq]; omega, by simp only [if_true, if_neg hpq]; exact hsT⟩
      · simp only [if_neg e] at h1
        obtain ⟨p', L', a1, a2, a3, a4, a5⟩ := h.i1 c hc h1
        have b1 := hD p'
        have b2 := hT p'
        simp only at b1 b2
        refine ⟨p', L', a1, by simp only [if_neg e]; exact a2, by simp only [if_neg e]; exact a3, ?_, ?_⟩
        · simp only [if_neg e]; omega
        · simp only [if_neg e]; omega
    · by_cases e : p' = q
      · right; subst e; simp only [if_true]; omega
      · have b1 := hD q'
        simp only [if_neg e] at b1 ⊢
        by_cases hji : j = i
        · subst hji
          rw [hs] at hs'
          simp only [Prod.mk.injEq] at hs'
          have e1 : p = p' := by omega
          have e2 : q = q' := by omega
          subst e1 e2
          left
          simp only [if_true]; omega
        · rcases h.i2 j (by omega) p' q' L' hs' with h2 | h2
          · left; omega
          · right; exact h2
    · by_cases e : p' = q
      · right; subst e; simp only [if_true]; omega
      · have b1 := hD q'
        simp only [if_neg e] at b1 ⊢
        rcases h.i2' j hj p' q' L' hs' with h2 | h2
        · left; omega
        · right; exact h2
    · obtain ⟨s', hs0⟩ : ∃ s' : Ct, (⟨fun c => if c = q then s.D p + L else s.D c, fun c => if c = q then i else s.B c, ((q : Nat) : Int)⟩ : Ct) = s' := ⟨_, rfl⟩
      have hB : ∀ c, s'.B c = if c = q then i else s.B c := by intro c; rw [← hs0]
      rw [hs0] at hb ht ⊢
      by_cases hon : ∃ j, j < k ∧ backN l s' x j = q
      · have key : ∀ m, m ≤ k → backN l s' x m < N ∧ cycW l s' x m ≤ s.D x - s.D (backN l s' x m) ∧ ((∃ j, j < m ∧ backN l s' x j = q) → cycW l s' x m < s.D x - s.D (backN l s' x m)) := by
          intro m
          induction m with
          | zero => intro _; exact ⟨hx, by simp [cycW, backN], fun ⟨j, hj, _⟩ => by omega⟩
          | succ m ih =>
            intro hm
            obtain ⟨c1, c2, c3⟩ := ih (by omega)
            have htm := ht m (by omega)
            have hst : backN l s' x (m + 1) = (sAt l (s'.B (backN l s' x m))).1.toNat := rfl
            rw [hst, cycW]
            generalize hcc : backN l s' x m = c at *
            rw [hB c]
            by_cases e : c = q
            · subst e
              rw [if_pos rfl, hs]
              simp only [Int.toNat_natCast]
              exact ⟨hp, by omega, fun _ => by omega⟩
            · simp only [if_neg e] at htm
              obtain ⟨p', L', a1, a2, a3, a4, a5⟩ := h.i1 c c1 htm
              rw [if_neg e, a3]
              simp only [Int.toNat_natCast]
              refine ⟨a1, by omega, fun ⟨j, hj, hjq⟩ => ?_⟩
              have hjm : j < m := by
                rcases Nat.lt_or_ge j m with h1 | h1
                · exact h1
                · exfalso
                  have : j = m := by omega
                  subst this
                  exact e (hcc.symm.trans hjq)
              have := c3 ⟨j, hjm, hjq⟩
              omega
        have := (key k (Nat.le_refl _)).2.2 hon
        rw [hb] at this
        omega
      · have hne : ∀ j, j < k → backN l s' x j ≠ q := fun j hj e => hon ⟨j, hj, e⟩
        have hBe : ∀ j, j < k → s'.B (backN l s' x j) = s.B (backN l s' x j) := fun j hj => by rw [hB, if_neg (hne j hj)]
        rw [cycW_eqB k hBe]
        refine h.i3 x hx k hk (by rw [← backN_eqB k hBe]; exact hb) (fun j hj => ?_)
        have hj2 := ht j hj
        rw [if_neg (hne j hj)] at hj2
        rw [← backN_eqB j (fun j' hj' => hBe j' (by omega))]
        exact hj2
    · by_cases e : c = q
      · simp only [if_pos e]; omega
      · simp only [if_neg e]; exact h.tr c
  · rw [if_neg hlt]
    refine ⟨T, h.i1, fun j hj p' q' L' hs' => ?_, h.i2', h.i3, h.i4, fun e j hj p' q' L' hs' => ?_, h.tr⟩
    · by_cases hji : j = i
      · subst hji
        rw [hs] at hs'
        simp only [Prod.mk.injEq] at hs'
        have e1 : p = p' := by omega
        have e2 : q = q' := by omega
        subst e1 e2
        left; omega
      · exact h.i2 j (by omega) p' q' L' hs'
    · by_cases hji : j = i
      · subst hji
        rw [hs] at hs'
        simp only [Prod.mk.injEq] at hs'
        have e1 : p = p' := by omega
        have e2 : q = q' := by omega
        subst e1 e2
        omega
      · exact h.i5 e j (by omega) p' q' L' hs'
theorem CInv.fold {l : List Bd} {N r : Nat} {s : Ct} {T : Nat → Nat} (hn : NetOk l N) (h : CInv l N r 0 s T) (hr : 1 ≤ r) : ∀ i, i ≤ 2 * l.length → ∃ T', CInv l N r i (ctFold l s i) T'
  | 0, _ => ⟨T, h⟩
  | i + 1, hi => by
    obtain ⟨T', h'⟩ := CInv.fold hn h hr i (by omega)
    exact h'.step hn (by omega) hr
theorem CInv.run {l : List Bd} {N : Nat} (hn : NetOk l N) : ∀ r, ∃ T, CInv l N (r + 1) (2 * l.length) (ctRun l (r + 1)) T
  | 0 => CInv.fold (T := fun _ => 0) hn ⟨fun c _ h => by omega, fun j hj => by omega, fun j _ p q L _ => Or.inr (by omega), fun x _ k hk _ ht => by have := ht 0 (by omega); omega, Or.inl rfl, fun _ j hj => by omega, fun c => by omega⟩ (by omega) _ (Nat.le_refl _)
  | r + 1 => by
    obtain ⟨T, h⟩ := CInv.run hn r
    refine CInv.fold (T := T) (s := ⟨(ctRun l (r + 1)).D, (ctRun l (r + 1)).B, -1⟩) hn ⟨h.i1, fun j hj => by omega, fun j hj p q L hs => ?_, fun x hx k hk hb ht => ?_, Or.inl rfl, fun _ j hj => by omega, fun c => by have := h.tr c; omega⟩ (by omega) _ (Nat.le_refl _)
    · rcases h.i2 j hj p q L hs with h2 | h2
      · exact Or.inl h2
      · exact Or.inr (by omega)
    · have e : ∀ j, backN l ⟨(ctRun l (r + 1)).D, (ctRun l (r + 1)).B, -1⟩ x j = backN l (ctRun l (r + 1)) x j := fun j => backN_eqB j (fun _ _ => rfl)
      have e2 := cycW_eqB (l := l) (s := ctRun l (r + 1)) (s' := ⟨(ctRun l (r + 1)).D, (ctRun l (r + 1)).B, -1⟩) (x := x) k (fun _ _ => rfl)
      rw [e2]
      exact h.i3 x hx k hk (by rw [← e]; exact hb) (fun j hj => by rw [← e]; exact ht j hj)
theorem pot_way {l : List Bd} {D : Nat → Int} (h : ∀ p q L, Ed l p q L → D q ≤ D p + L) : ∀ (t : List (Nat × Int)) (a b : Nat), IsWay (Ed l) a t b → D b ≤ D a + wsum t
  | [], a, b, hw => by
    have : a = b := hw
    subst this
    simp [wsum]
  | x :: t, a, b, hw => by
    have h1 := h _ _ _ hw.1
    have h2 := pot_way h t _ _ hw.2
    rw [wsum]
    omega
/-- Without a last clock there is no loop of negative sum. -/
theorem ct_none {l : List Bd} {N : Nat} (hn : NetOk l N) (h : (ctRun l N).L = -1) (t : List (Nat × Int)) (v : Nat) (hw : IsWay (Ed l) v t v) : 0 ≤ wsum t := by
  have hn1 := hn.n1
  obtain ⟨T, hI⟩ := CInv.run hn (N - 1)
  rw [show N - 1 + 1 = N by omega] at hI
  have := pot_way (D := (ctRun l N).D) (fun p q L ⟨i, hi, hs⟩ => hI.i5 h i hi p q L hs) t v v hw
  omega
theorem pigeon (N : Nat) (f : Nat → Nat) (hf : ∀ j, j ≤ N → f j < N) : ∃ i j, i < j ∧ j ≤ N ∧ f i = f j := by
  apply Classical.byContradiction
  intro hno
  have hnd : ((List.range (N + 1)).map f).Nodup := by
    rw [List.nodup_iff_pairwise_ne, List.pairwise_map]
    refine List.Pairwise.imp_of_mem ?_ (List.pairwise_lt_range (n := N + 1))
    intro a b ha hb hab e
    have hb2 := List.mem_range.1 hb
    exact hno ⟨a, b, hab, by omega, e⟩
  have := nodup_le N _ hnd (fun x hx => by
    obtain ⟨j, hj, rfl⟩ := List.mem_map.1 hx
    have := List.mem_range.1 hj
    exact hf j (by omega))
  simp at this
  omega
theorem least_of {P : Nat → Prop} : ∀ (n : Nat), 1 ≤ n → P n → ∃ k, 1 ≤ k ∧ k ≤ n ∧ P k ∧ ∀ j, 1 ≤ j → j < k → ¬ P j
  | n, h1, hP => by
    by_cases h : ∃ m, 1 ≤ m ∧ m < n ∧ P m
    · obtain ⟨m, a, b, c⟩ := h
      obtain ⟨k, k1, k2, k3, k4⟩ := least_of m a c
      exact ⟨k, k1, by omega, k3, k4⟩
    · exact ⟨n, h1, Nat.le_refl _, hP, fun j a b c => h ⟨j, a, b, c⟩⟩
  termination_by n => n
theorem backN_add (l : List Bd) (s : Ct) (q n : Nat) : ∀ k, backN l s (backN l s q n) k = backN l s q (n + k)
  | 0 => rfl
  | k + 1 => by
    show backF l s (backN l s (backN l s q n) k) = backF l s (backN l s q (n + k))
    rw [backN_add l s q n k]
/-- With a last clock one comes back to a loop. -/
theorem ct_cyc {l : List Bd} {N : Nat} (hn : NetOk l N) {q : Nat} (h : (ctRun l N).L = q) :
    (∃ k, 1 ≤ k ∧ k ≤ N ∧ backN l (ctRun l N) (backN l (ctRun l N) q N) k = backN l (ctRun l N) q N ∧ ∀ j, 1 ≤ j → j < k → backN l (ctRun l N) (backN l (ctRun l N) q N) j ≠ backN l (ctRun l N) q N) ∧
    ∀ k, 1 ≤ k → backN l (ctRun l N) (backN l (ctRun l N) q N) k = backN l (ctRun l N) q N → cycW l (ctRun l N) (backN l (ctRun l N) q N) k < 0 ∧ ∀ j, ∃ L : Int, (ctRun l N).B (backN l (ctRun l N) (backN l (ctRun l N) q N) j) < 2 * l.length ∧ sAt l ((ctRun l N).B (backN l (ctRun l N) (backN l (ctRun l N) q N) j)) = (((backN l (ctRun l N) (backN l (ctRun l N) q N) (j + 1) : Nat) : Int), ((backN l (ctRun l N) (backN l (ctRun l N) q N) j : Nat) : Int), L) := by
  have hn1 := hn.n1
  obtain ⟨T, hI⟩ := CInv.run hn (N - 1)
  rw [show N - 1 + 1 = N by omega] at hI
  generalize ctRun l N = s at *
  have hq : q < N ∧ T q = N := by
    rcases hI.i4 with e | ⟨q', e, h1, h2⟩
    · omega
    · have : q = q' := by omega
      subst this
      exact ⟨h1, h2⟩
  have hb : ∀ j, j ≤ N → backN l s q j < N ∧ N ≤ T (backN l s q j) + j := by
    intro j
    induction j with
    | zero => intro _; exact ⟨hq.1, by rw [show backN l s q 0 = q from rfl, hq.2]; omega⟩
    | succ j ih =>
      intro hj
      obtain ⟨c1, c2⟩ := ih (by omega)
      obtain ⟨p, L, a1, a2, a3, a4, a5⟩ := hI.i1 _ c1 (by omega)
      have e : backN l s q (j + 1) = p := by
        show (sAt l (s.B (backN l s q j))).1.toNat = p
        rw [a3]; simp
      rw [e]
      exact ⟨a1, by omega⟩
  obtain ⟨i, j, hij, hjN, he⟩ := pigeon N (backN l s q) (fun j hj => (hb j hj).1)
  have hper : ∀ m, backN l s q (i + m) = backN l s q (j + m) := by
    intro m
    induction m with
    | zero => exact he
    | succ m ih =>
      show backF l s (backN l s q (i + m)) = backF l s (backN l s q (j + m))
      rw [ih]
  have hred : ∀ n, i ≤ n → ∃ m, m < j ∧ backN l s q n = backN l s q m := by
    intro n
    induction n using Nat.strongRecOn with
    | _ n ih =>
      intro hin
      by_cases hnj : n < j
      · exact ⟨n, hnj, rfl⟩
      · obtain ⟨m, h1, h2⟩ := ih (n - (j - i)) (by omega) (by omega)
        refine ⟨m, h1, ?_⟩
        rw [← h2]
        have := hper (n - j)
        rw [show i + (n - j) = n - (j - i) by omega, show j + (n - j) = n by omega] at this
        exact this.symm
  have hT : ∀ n, i ≤ n → backN l s q n < N ∧ 1 ≤ T (backN l s q n) := by
    intro n hin
    obtain ⟨m, h1, h2⟩ := hred n hin
    have := hb m (by omega)
    rw [h2]
    exact ⟨this.1, by omega⟩
  refine ⟨?_, fun k hk hbk => ⟨?_, fun m => ?_⟩⟩
  · obtain ⟨k, k1, k2, k3, k4⟩ := least_of (P := fun k => backN l s (backN l s q N) k = backN l s q N) (j - i) (by omega) (by
      show backN l s (backN l s q N) (j - i) = backN l s q N
      rw [backN_add]
      have := hper (N - i)
      rw [show i + (N - i) = N by omega, show j + (N - i) = N + (j - i) by omega] at this
      exact this.symm)
    exact ⟨k, k1, by omega, k3, k4⟩
  · exact hI.i3 _ (hb N (Nat.le_refl _)).1 k hk hbk (fun m _ => by rw [backN_add]; exact (hT (N + m) (by omega)).2)
  · have hc := hT (N + m) (by omega)
    rw [← backN_add] at hc
    obtain ⟨p, L, a1, a2, a3, a4, a5⟩ := hI.i1 _ hc.1 hc.2
    refine ⟨L, a2, ?_⟩
    rw [a3]
    have e : backN l s (backN l s q N) (m + 1) = p := by
      show (sAt l (s.B (backN l s (backN l s q N) m))).1.toNat = p
      rw [a3]; simp
    rw [e]
theorem wayL_get (l : List Bd) (s : Ct) (x : Nat) : ∀ (k j : Nat), j < k → (wayL l s x k)[j]? = some ((usesL l.length).getD (s.B (backN l s x j)) (0, false))
  | 0, j, h => by omega
  | k + 1, j, h => by
    rw [wayL, List.getElem?_append, wayL_len]
    split
    · rename_i hlt; exact wayL_get l s x k j hlt
    · have : j = k := by omega
      subst this
      simp
theorem way_uAt {l : List Bd} {s : Ct} {x k i : Nat} (hi : i < k) : uAt l (wayL l s x k).reverse i = sAt l (s.B (backN l s x (k - 1 - i))) := by
  unfold uAt sAt
  congr 1
  rw [List.getD_eq_getElem?_getD, List.getElem?_reverse (by rw [wayL_len]; exact hi), wayL_len, wayL_get _ _ _ _ _ (by omega)]
  rfl
theorem way_total {l : List Bd} {s : Ct} {x k : Nat} : ∀ m, m ≤ k → totalTo l (wayL l s x k).reverse m = cycW l s x k - cycW l s x (k - m)
  | 0, _ => by simp [totalTo]
  | m + 1, hm => by
    rw [totalTo, way_total m (by omega), way_uAt (by omega)]
    have e : k - m = (k - 1 - m) + 1 := by omega
    rw [e, cycW, show k - (m + 1) = k - 1 - m by omega]
    omega
/-- What Contradict answers is a contradiction. -/
theorem ct_ref {l : List Bd} {N : Nat} (hn : NetOk l N) (hck : checkedF N l = 0) {q k : Nat} (h : (ctRun l N).L = q) (h1 : 1 ≤ k) (h2 : k ≤ N) (hb : backN l (ctRun l N) (backN l (ctRun l N) q N) k = backN l (ctRun l N) q N) :
    refuteF N l (wayL l (ctRun l N) (backN l (ctRun l N) q N) k).reverse = 0 := by
  have hn2 := hn.n2
  obtain ⟨hw, hs⟩ := (ct_cyc hn h).2 k h1 hb
  generalize ctRun l N = s at *
  generalize backN l s q N = x at *
  have hlen : (wayL l s x k).reverse.length = k := by rw [List.length_reverse, wayL_len]
  refine refuteF_zero hck (by rw [hlen]; omega) (by rw [hlen]; omega) ?_ ?_ ?_
  · rw [Bool.eq_false_iff]
    intro hany
    obtain ⟨u, hu, ho⟩ := List.any_eq_true.1 hany
    obtain ⟨j, hj⟩ := List.getElem?_of_mem (List.mem_reverse.1 hu)
    have hjk : j < k := by have := (List.getElem?_eq_some_iff.1 hj).1; rwa [wayL_len] at this
    rw [wayL_get _ _ _ _ _ hjk] at hj
    obtain ⟨L, hB, _⟩ := hs j
    rw [List.getD_eq_getElem?_getD, usesL_get _ _ hB, Option.getD_some] at hj
    cases hj
    unfold outU at ho
    simp at ho
    omega
  · intro i hi
    rw [hlen] at hi ⊢
    rw [way_uAt hi, way_uAt (Nat.mod_lt _ (by omega))]
    obtain ⟨L, _, e1⟩ := hs (k - 1 - i)
    rw [e1]
    by_cases hik : i + 1 = k
    · rw [hik, Nat.mod_self]
      obtain ⟨L2, _, e2⟩ := hs (k - 1 - 0)
      rw [e2, show k - 1 - 0 + 1 = k by omega, hb, show k - 1 - i = 0 by omega]
      rfl
    · rw [Nat.mod_eq_of_lt (by omega)]
      obtain ⟨L2, _, e2⟩ := hs (k - 1 - (i + 1))
      rw [e2, show k - 1 - (i + 1) + 1 = k - 1 - i by omega]
  · rw [hlen, way_total k (Nat.le_refl _), Nat.sub_self]
    simp only [cycW]
    omega
theorem ct_iff {l : List Bd} {N : Nat} (hn : NetOk l N) : (ctRun l N).L = -1 ↔ okFw N (mat1 l N (2 * l.length)) := by
  rw [okFw_iff (mat1_base hn)]
  constructor
  · exact fun h t v _ hw => ct_none hn h t v hw
  · intro hw
    have hn1 := hn.n1
    obtain ⟨T, hI⟩ := CInv.run hn (N - 1)
    rw [show N - 1 + 1 = N by omega] at hI
    rcases hI.i4 with e | ⟨q, e, hq, _⟩
    · exact e
    · obtain ⟨⟨k, k1, k2, k3, _⟩, hc⟩ := ct_cyc hn e
      obtain ⟨hneg, hs⟩ := hc k k1 k3
      exfalso
      generalize ctRun l N = s at *
      generalize hx : backN l s q N = x at *
      have hway : ∀ m, ∃ t, IsWay (Ed l) (backN l s x m) t x ∧ wsum t = cycW l s x m := by
        intro m
        induction m with
        | zero => exact ⟨[], rfl, rfl⟩
        | succ m ih =>
          obtain ⟨t, h1, h2⟩ := ih
          obtain ⟨L, hB, e1⟩ := hs m
          refine ⟨(backN l s x m, L) :: t, ⟨⟨_, hB, e1⟩, h1⟩, ?_⟩
          rw [wsum, cycW, e1, h2]
          simp only
          omega
      obtain ⟨t, h1, h2⟩ := hway k
      rw [k3] at h1
      have hxN : x < N := by
        obtain ⟨L, hB, e1⟩ := hs 0
        have := (Ed_ok hn).lt _ _ _ ⟨_, hB, e1⟩
        exact this.2.1
      have := hw t x hxN h1
      omega
end Go.Proofs.Ytjgnadighdbjlaa.C
