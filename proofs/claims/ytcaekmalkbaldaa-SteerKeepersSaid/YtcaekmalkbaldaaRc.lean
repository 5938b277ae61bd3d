/- The reference's chart of the steering chapter is the program's chart. -/
import Derived.Test.YtcaekmalkbaldaaRf
import Derived.Test.YtcaekmalkbaldaaM10
namespace Go.Proofs.Ytcaekmalkbaldaa.M
set_option linter.unusedVariables false
set_option linter.unusedSimpArgs false
open Go.RowKit Go.Shelf Go.Proofs.YtcaekmalkbaldaaW.PrintWords Go.Proofs.YtcaekmalkbaldaaW.PrintLast Go.Proofs.YtcaekmalkbaldaaW.PrintMore
set_option linter.unusedVariables false
section
variable (L R S N : Int)
def newV (n : Int) (o : List Int) (i : Nat) : Int := if lostB L R S N o i = true then 1000 + n else roundV L R S N o i
def outP (n : Int) (o : List Int) (j : Nat) : List Int := (List.range (siz L R)).map fun i => if i < j then newV L R S N n o i else rd o i
def nxtP (o : List Int) (j : Nat) : List Bool := (List.range (siz L R)).map fun i => if i < j then (decide (1000 ≤ rd o i) || lostB L R S N o i) else decide (1000 ≤ rd o i)
def morP (o : List Int) (j : Nat) : Bool := (List.range j).any (lostB L R S N o)
theorem outP_len (n : Int) (o : List Int) (j : Nat) : (outP L R S N n o j).length = siz L R := by simp [outP]
theorem nxtP_len (o : List Int) (j : Nat) : (nxtP L R S N o j).length = siz L R := by simp [nxtP]
theorem rd_map (f : Nat → Int) (n i : Nat) (h : i < n) : rd ((List.range n).map f) (i : Int) = f i := by simp [rd_nat, List.getD_eq_getElem?_getD, h]
theorem rdOf_map (f : Nat → Bool) (n i : Nat) (h : i < n) : rdOf false ((List.range n).map f) (i : Int) = f i := by simp [rdOf, List.getD_eq_getElem?_getD, h]
theorem set_map {α : Type} (f g : Nat → α) (n j : Nat) (v : α) (h : ∀ i, i < n → g i = if i = j then v else f i) : ((List.range n).map f).set j v = (List.range n).map g := by
  apply List.ext_getElem?
  intro i
  rw [List.getElem?_set]
  by_cases hi : i < n
  · by_cases hj : j = i
    · subst hj; simp [hi, h _ hi]
    · have := h i hi
      rw [if_neg (fun e => hj e.symm)] at this
      simp [hi, hj, this]
  · simp [hi]
    intro hji; omega
theorem same_map {α : Type} (f g : Nat → α) (n : Nat) (h : ∀ i, i < n → g i = f i) : (List.range n).map f = (List.range n).map g := by
  apply List.map_congr_left
  intro i hi
  exact (h i (List.mem_range.1 hi)).symm
theorem morP_succ (o : List Int) (j : Nat) : morP L R S N o (j + 1) = (morP L R S N o j || lostB L R S N o j) := by
  unfold morP
  rw [List.range_succ, List.any_append]
  simp
end
section
variable {L R S N : Int}
theorem goodL_nxt (hL0 : 1 ≤ L) (hR0 : 0 ≤ R) (o : List Int) {x y : Int} (hb : isB L R x y = true) : goodL L R (nxtP L R S N o 0) x y = goodO L R o x y := by
  obtain ⟨j, hj, e⟩ := idx_lt hL0 hR0 hb
  unfold goodL goodO nxtP
  rw [e, rdOf_map _ _ _ hj, if_neg (by omega)]
  rw [Bool.eq_iff_iff]
  simp
theorem ctl_keep (hL0 : 1 ≤ L) (hR0 : 0 ≤ R) (o : List Int) (j : Nat) : ((ratesL R S (stR R j)).filter fun q => holdsB L R N (stE L R j) q (goodL L R (nxtP L R S N o 0))) = keepO L R S N o j := by
  unfold keepO
  congr 1
  funext q
  exact holdsB_congr L R N fun x y hxy => goodL_nxt hL0 hR0 o hxy

theorem rc_l2 (hL0 : 1 ≤ L) (hL : L ≤ 40) (hR0 : 0 ≤ R) (hR : R ≤ 12) (hS0 : 1 ≤ S) (hS : S ≤ 24) (hN0 : 0 ≤ N) (hN : N ≤ 12) (n : Int) (hn0 : 0 ≤ n) (hn : n ≤ 5000) (o : List Int) (ho : o.length = siz L R) (a : Nat) (ha : a < (2 * L + 1).toNat) (v : Option (List Int × Int))
    (hk : ∃ K, ∀ k, K ≤ k → meridianref06_Chart.l1 k (nxtP L R S N o 0) (outP L R S N n o ((a + 1) * wid R)) (morP L R S N o ((a + 1) * wid R)) n (nxtP L R S N o ((a + 1) * wid R)) (-L + a + 1) L R S N = v) :
    ∀ (d b : Nat), b + d = wid R → ∃ K, ∀ k, K ≤ k → meridianref06_Chart.l2 k (nxtP L R S N o 0) (outP L R S N n o (a * wid R + b)) (morP L R S N o (a * wid R + b)) n (nxtP L R S N o (a * wid R + b)) (-L + a) (-R + b) L R S N = v
  | 0, b, hd => by
    obtain ⟨K, hK⟩ := hk
    obtain rfl : b = wid R := by omega
    have hw : ((wid R : Nat) : Int) = 2 * R + 1 := by unfold wid; omega
    refine ⟨K + 1, fun k hkk => ?_⟩
    obtain ⟨k, rfl⟩ : ∃ j, k = j + 1 := ⟨k - 1, by omega⟩
    unfold meridianref06_Chart.l2
    rw [if_neg (by omega), wrap_small _ (by omega) (by omega)]
    have := hK k (by omega)
    rw [Nat.add_mul, Nat.one_mul] at this
    exact this
  | d + 1, b, hd => by
    obtain ⟨K, hK⟩ := rc_l2 hL0 hL hR0 hR hS0 hS hN0 hN n hn0 hn o ho a ha v hk d (b + 1) (by omega)
    have hw : ((wid R : Nat) : Int) = 2 * R + 1 := by unfold wid; omega
    have hjlt := siz_lt L R a b ha (by omega)
    have hse := stE_at L R a b (by omega)
    have hsr := stR_at R a b (by omega)
    have hidx := st_index L R hR0 (a * wid R + b)
    have hck := ctl_keep (S := S) (N := N) hL0 hR0 o (a * wid R + b)
    rw [hse, hsr] at hidx hck
    have hb : isB L R (-L + a) (-R + b) = true := isB_iff.2 (by omega)
    have hc := ref_control_f hL0 hL hR0 hR hS0 hS hN0 hN (nxtP L R S N o 0) (nxtP_len ..) (-L + a) (-R + b) (by omega) (by omega) (by omega) (by omega)
    rw [hck] at hc
    have hri := ref_index_f (S := S) (N := N) hL0 hL hR0 hR hb
    rw [hidx] at hri
    have hlost : rdOf false (nxtP L R S N o 0) ((a * wid R + b : Nat) : Int) = decide (1000 ≤ rd o ((a * wid R + b : Nat) : Int)) := by
      unfold nxtP
      rw [rdOf_map _ _ _ hjlt, if_neg (by omega)]
    have HW : Aside0 (wrap64 (-R + (b : Int) + 1) = -R + ((b + 1 : Nat) : Int)) := ⟨by rw [wrap_small _ (by omega) (by omega)]; omega⟩
    have HK : Aside0 (∀ k, K ≤ k → meridianref06_Chart.l2 k (nxtP L R S N o 0) (outP L R S N n o (a * wid R + b + 1)) (morP L R S N o (a * wid R + b + 1)) n (nxtP L R S N o (a * wid R + b + 1)) (-L + a) (-R + ((b + 1 : Nat) : Int)) L R S N = v) := ⟨hK⟩
    have hWN : Aside0 (wrap64 (1000 + n) = 1000 + n) := ⟨wrap_small _ (by omega) (by omega)⟩
    clear hK hse hsr hidx hck hb
    have hle : -R + (b : Int) ≤ R := by omega
    generalize a * wid R + b = j at *
    refine ⟨K + 100, fun k hkk => ?_⟩
    obtain ⟨k, rfl⟩ : ∃ j, k = j + 1 := ⟨k - 1, by omega⟩
    unfold meridianref06_Chart.l2
    rw [if_pos hle, hri, HW.out]
    simp only [Option.bind_some]
    rw [if_pos (by omega), if_pos (by rw [nxtP_len]; omega), hlost]
    by_cases hlo : 1000 ≤ rd o (j : Int)
    · rw [if_pos (by simpa using hlo)]
      have hl : lostB L R S N o j = false := by unfold lostB; rw [decide_eq_false (by omega)]; rfl
      have e1 : outP L R S N n o (j + 1) = outP L R S N n o j := by
        unfold outP
        refine same_map _ _ _ fun i hi => ?_
        by_cases hij : i = j
        · subst hij
          rw [if_neg (by omega), if_pos (by omega)]
          unfold newV
          rw [if_neg (by rw [hl]; simp)]
          unfold roundV
          rw [if_neg (by omega)]
        · by_cases h : i < j
          · rw [if_pos h, if_pos (by omega)]
          · rw [if_neg h, if_neg (by omega)]
      have e2 : nxtP L R S N o (j + 1) = nxtP L R S N o j := by
        unfold nxtP
        refine same_map _ _ _ fun i hi => ?_
        by_cases hij : i = j
        · subst hij
          rw [if_neg (by omega), if_pos (by omega), hl]; simp
        · by_cases h : i < j
          · rw [if_pos h, if_pos (by omega)]
          · rw [if_neg h, if_neg (by omega)]
      have e3 : morP L R S N o (j + 1) = morP L R S N o j := by rw [morP_succ, hl, Bool.or_false]
      have := HK.out k (by omega)
      rw [e1, e2, e3] at this
      exact this
    · rw [if_neg (by simpa using hlo), hc k (by omega)]
      simp only [Option.bind_some]
      rw [if_pos (by rw [outP_len]; omega)]
      have hrs : rd ((outP L R S N n o j).set (j : Int).toNat (ctl (keepO L R S N o j))) (j : Int) = ctl (keepO L R S N o j) := by
        rw [Int.toNat_natCast, rd_set _ _ _ _ (by rw [outP_len]; omega), if_pos rfl]
      rw [hrs]
      cases hbest : bestOf nearF (keepO L R S N o j) with
      | none =>
        have hct : ctl (keepO L R S N o j) = 1000 := by unfold ctl; rw [hbest]
        have hl : lostB L R S N o j = true := by
          unfold lostB
          rw [decide_eq_true (by omega), bestOf_none.1 hbest]; rfl
        rw [if_pos hct, if_pos (by rw [nxtP_len]; omega), hWN.out, Int.toNat_natCast]
        have e1 : ((outP L R S N n o j).set j (ctl (keepO L R S N o j))).set j (1000 + n) = outP L R S N n o (j + 1) := by
          rw [List.set_set]
          unfold outP
          refine set_map _ _ _ _ _ fun i hi => ?_
          by_cases hij : i = j
          · subst hij
            rw [if_pos (by omega), if_pos rfl]
            unfold newV
            rw [if_pos hl]
          · rw [if_neg hij]
            by_cases h : i < j
            · rw [if_pos h, if_pos (by omega)]
            · rw [if_neg h, if_neg (by omega)]
        have e2 : (nxtP L R S N o j).set j true = nxtP L R S N o (j + 1) := by
          unfold nxtP
          refine set_map _ _ _ _ _ fun i hi => ?_
          by_cases hij : i = j
          · subst hij
            rw [if_pos (by omega), if_pos rfl, hl]; simp
          · rw [if_neg hij]
            by_cases h : i < j
            · rw [if_pos h, if_pos (by omega)]
            · rw [if_neg h, if_neg (by omega)]
        have e3 : morP L R S N o (j + 1) = true := by rw [morP_succ, hl, Bool.or_true]
        have := HK.out k (by omega)
        rw [e1, e2, ← e3]
        exact this
      | some q =>
        have hct : ctl (keepO L R S N o j) = q := by unfold ctl; rw [hbest]
        have hq := rates_mem (List.mem_filter.1 (bestOf_mem hbest)).1
        have hl : lostB L R S N o j = false := by
          have : keepO L R S N o j ≠ [] := fun e => by rw [e] at hbest; cases hbest
          unfold lostB
          cases hkk : keepO L R S N o j with
          | nil => exact absurd hkk this
          | cons x l => simp
        rw [hct, if_neg (by omega), Int.toNat_natCast]
        have e1 : (outP L R S N n o j).set j q = outP L R S N n o (j + 1) := by
          unfold outP
          refine set_map _ _ _ _ _ fun i hi => ?_
          by_cases hij : i = j
          · subst hij
            rw [if_pos (by omega), if_pos rfl]
            unfold newV
            rw [if_neg (by rw [hl]; simp)]
            unfold roundV
            rw [if_pos (by omega), hbest]
          · rw [if_neg hij]
            by_cases h : i < j
            · rw [if_pos h, if_pos (by omega)]
            · rw [if_neg h, if_neg (by omega)]
        have e2 : nxtP L R S N o (j + 1) = nxtP L R S N o j := by
          unfold nxtP
          refine same_map _ _ _ fun i hi => ?_
          by_cases hij : i = j
          · subst hij
            rw [if_neg (by omega), if_pos (by omega), hl]; simp
          · by_cases h : i < j
            · rw [if_pos h, if_pos (by omega)]
            · rw [if_neg h, if_neg (by omega)]
        have e3 : morP L R S N o (j + 1) = morP L R S N o j := by rw [morP_succ, hl, Bool.or_false]
        have := HK.out k (by omega)
        rw [e2, e3] at this
        rw [e1]
        exact this
theorem rc_l1 (hL0 : 1 ≤ L) (hL : L ≤ 40) (hR0 : 0 ≤ R) (hR : R ≤ 12) (hS0 : 1 ≤ S) (hS : S ≤ 24) (hN0 : 0 ≤ N) (hN : N ≤ 12) (n : Int) (hn0 : 0 ≤ n) (hn : n ≤ 5000) (o : List Int) (ho : o.length = siz L R) (v : Option (List Int × Int))
    (hk : ∃ K, ∀ k, K ≤ k → meridianref06_Chart.l0 k (nxtP L R S N o (siz L R)) (outP L R S N n o (siz L R)) (morP L R S N o (siz L R)) (n + 1) L R S N = v) :
    ∀ (d a : Nat), a + d = (2 * L + 1).toNat → ∃ K, ∀ k, K ≤ k → meridianref06_Chart.l1 k (nxtP L R S N o 0) (outP L R S N n o (a * wid R)) (morP L R S N o (a * wid R)) n (nxtP L R S N o (a * wid R)) (-L + a) L R S N = v
  | 0, a, hd => by
    obtain ⟨K, hK⟩ := hk
    have hz : a * wid R = siz L R := by unfold siz; rw [show a = (2 * L + 1).toNat by omega]
    refine ⟨K + 1, fun k hkk => ?_⟩
    obtain ⟨k, rfl⟩ : ∃ j, k = j + 1 := ⟨k - 1, by omega⟩
    unfold meridianref06_Chart.l1
    rw [if_neg (by omega), wrap_small (n + 1) (by omega) (by omega), hz]
    exact hK k (by omega)
  | d + 1, a, hd => by
    have h1 := rc_l1 hL0 hL hR0 hR hS0 hS hN0 hN n hn0 hn o ho v hk d (a + 1) (by omega)
    rw [show -L + ((a + 1 : Nat) : Int) = -L + a + 1 by omega] at h1
    obtain ⟨K, hK⟩ := rc_l2 hL0 hL hR0 hR hS0 hS hN0 hN n hn0 hn o ho a (by omega) v h1 (wid R) 0 (by omega)
    simp only [Nat.add_zero] at hK
    refine ⟨K + 1, fun k hkk => ?_⟩
    obtain ⟨k, rfl⟩ : ∃ j, k = j + 1 := ⟨k - 1, by omega⟩
    unfold meridianref06_Chart.l1
    rw [if_pos (by omega), wrap_small (-R) (by omega) (by omega)]
    have := hK k (by omega)
    rw [show -R + ((0 : Nat) : Int) = -R by omega] at this
    exact this

theorem outP_zero (n : Int) (o : List Int) (ho : o.length = siz L R) : outP L R S N n o 0 = o := by
  apply List.ext_getElem?
  intro i
  unfold outP
  by_cases hi : i < siz L R
  · simp [hi, rd_nat, List.getD_eq_getElem?_getD, show i < o.length by omega]
  · simp [hi, show ¬ i < o.length by omega]
theorem list_rd {a b : List Int} (h : a.length = b.length) (hr : ∀ j : Nat, j < a.length → rd a j = rd b j) : a = b := by
  apply List.ext_getElem h
  intro i h1 h2
  have := hr i h1
  simpa [rd_nat, List.getD_eq_getElem?_getD, h1, h2] using this

theorem rc_l0 (hL0 : 1 ≤ L) (hL : L ≤ 40) (hR0 : 0 ≤ R) (hR : R ≤ 12) (hS0 : 1 ≤ S) (hS : S ≤ 24) (hN0 : 0 ≤ N) (hN : N ≤ 12) : ∀ (f : Nat) (n : Int) (o c : List Int), 0 ≤ n → n + f ≤ 5000 → o.length = siz L R → chartF L R S N f n o = some c →
    ∃ K, ∀ k, K ≤ k → meridianref06_Chart.l0 k (nxtP L R S N o 0) o true n L R S N = some (c, 0)
  | 0, _, _, _, _, _, _, h => by simp [chartF] at h
  | f + 1, n, o, c, hn0, hn, ho, h => by
    obtain ⟨h1, h2, h3⟩ := fold_spec L R S N hL0 hR0 hR o ho (siz L R) (Nat.le_refl _)
    unfold chartF at h
    generalize (List.range (siz L R)).foldl (stepC L R S N) (o, []) = st at h1 h2 h3 h
    have hlen : ∀ i ∈ st.2, i < st.1.length := fun i hi => by
      rw [h3, List.mem_filter, List.mem_range] at hi
      rw [h1]; exact hi.1
    have ho' : outP L R S N n o (siz L R) = markC n st.1 st.2 := by
      refine list_rd (by rw [outP_len, markC_len, h1]) fun j hj => ?_
      rw [outP_len] at hj
      rw [markC_rd _ _ _ _ hlen, h2 j hj, if_pos hj]
      unfold outP
      rw [rd_map _ _ _ hj, if_pos hj]
      unfold newV
      by_cases hl : lostB L R S N o j = true
      · rw [if_pos hl, if_pos (by rw [h3, List.mem_filter, List.mem_range]; exact ⟨hj, hl⟩)]
      · rw [if_neg hl, if_neg (by rw [h3, List.mem_filter, List.mem_range]; exact fun h => hl h.2)]
    have hx' : nxtP L R S N o (siz L R) = nxtP L R S N (markC n st.1 st.2) 0 := by
      rw [← ho']
      unfold nxtP
      refine same_map _ _ _ fun i hi => ?_
      rw [if_pos hi, if_neg (by omega)]
      unfold outP
      rw [rd_map _ _ _ hi, if_pos hi]
      unfold newV
      cases hl : lostB L R S N o i
      · have hrv := roundV_lt L R S N hR o i
        rw [if_neg (by simp), Bool.or_false, Bool.eq_iff_iff, decide_eq_true_iff, decide_eq_true_iff]
        omega
      · rw [if_pos rfl, Bool.or_true]
        exact decide_eq_true (by omega)
    have hm' : morP L R S N o (siz L R) = !decide (st.2 = []) := by
      unfold morP
      rw [h3, Bool.eq_iff_iff, List.any_eq_true]
      simp only [Bool.not_eq_true', decide_eq_false_iff_not, List.filter_eq_nil_iff]
      constructor
      · rintro ⟨x, hx, hl⟩ hall
        exact hall x hx hl
      · intro hne
        exact Classical.byContradiction fun hno => hne fun x hx hl => hno ⟨x, hx, hl⟩
    have hlast : ∃ K, ∀ k, K ≤ k → meridianref06_Chart.l0 k (nxtP L R S N o (siz L R)) (outP L R S N n o (siz L R)) (morP L R S N o (siz L R)) (n + 1) L R S N = some (c, 0) := by
      rw [ho', hx', hm']
      by_cases hc : st.2 = []
      · rw [if_pos hc] at h
        refine ⟨1, fun k hk => ?_⟩
        obtain ⟨k, rfl⟩ : ∃ j, k = j + 1 := ⟨k - 1, by omega⟩
        unfold meridianref06_Chart.l0
        rw [if_neg (by simp [hc]), hc]
        have : st.1 = c := Option.some.inj h
        rw [← this]; rfl
      · rw [if_neg hc] at h
        rw [decide_eq_false hc, Bool.not_false]
        exact rc_l0 hL0 hL hR0 hR hS0 hS hN0 hN f (n + 1) _ c (by omega) (by omega) (by rw [markC_len, h1]) h
    obtain ⟨K, hK⟩ := rc_l1 hL0 hL hR0 hR hS0 hS hN0 hN n hn0 (by omega) o ho _ hlast (2 * L + 1).toNat 0 (by omega)
    simp only [Nat.zero_mul] at hK
    have hb : ([] : List Bool).length + (nxtP L R S N o 0).length < 140737488355328 := by
      have := siz_le L R hL hR
      rw [nxtP_len, List.length_nil]
      omega
    refine ⟨K + 1, fun k hkk => ?_⟩
    obtain ⟨k, rfl⟩ : ∃ j, k = j + 1 := ⟨k - 1, by omega⟩
    unfold meridianref06_Chart.l0
    rw [if_pos rfl, Option.bind_some, if_pos hb, List.nil_append, wrap_small (-L) (by omega) (by omega)]
    have := hK k (by omega)
    rw [outP_zero n o ho, show -L + ((0 : Nat) : Int) = -L by omega] at this
    exact this

theorem ref_chart_f {c : List Int} (hp : rightB L R S N = true) (h : steer_Plan_chart.f L R S N = some c) : ∃ K, ∀ k, K ≤ k → meridianref06_Chart.f k L R S N = some (c, 0) := by
  have h' := rightB_iff.1 hp
  have hs := siz_le L R (by omega) (by omega)
  have hs3 := siz_pos L R (by omega) (by omega)
  unfold steer_Plan_chart.f at h
  rw [if_pos hp] at h
  obtain ⟨K, hK⟩ := rc_l0 (by omega) (by omega) (by omega) (by omega) (by omega) (by omega) (by omega) (by omega) _ 1 _ c (by omega) (by omega) (by simp) h
  have hbb : isB L R L R = true := isB_iff.2 (by omega)
  have hsz : (L + L) * (2 * R + 1) + R + R + 1 = ((siz L R : Nat) : Int) := by
    unfold siz wid
    rw [Int.natCast_mul, Int.toNat_of_nonneg (by omega), Int.toNat_of_nonneg (by omega), Int.add_mul (2 * L) 1, Int.one_mul, show L + L = 2 * L by omega]
    omega
  have hw : (wrap64 ((L + L) * (2 * R + 1) + R + R + 1)) = ((siz L R : Nat) : Int) := by rw [hsz, wrap_small _ (by omega) (by omega)]
  have hrep : nxtP L R S N (List.replicate (siz L R) 0) 0 = List.replicate (siz L R) false := by
    unfold nxtP
    apply List.ext_getElem (by simp)
    intro i h1 h2
    have hi : i < siz L R := by simpa using h2
    simp [rd_nat, List.getD_eq_getElem?_getD, hi]
  have b1 : ((siz L R : Nat) : Int).toNat ≤ 281474976710656 := by rw [Int.toNat_natCast]; exact Nat.le_trans hs (by decide)
  have b2 : ((siz L R : Nat) : Int).toNat ≤ 35184372088832 := by rw [Int.toNat_natCast]; exact Nat.le_trans hs (by decide)
  have b0 : (0 : Int) ≤ ((siz L R : Nat) : Int) := by omega
  refine ⟨K, fun k hk => ?_⟩
  unfold meridianref06_Chart.f
  rw [refcheck_f, if_pos hp, Option.bind_some, if_pos rfl, ref_index_f (by omega) (by omega) (by omega) (by omega) hbb, Option.bind_some, hw, if_pos b0, if_pos b1, if_pos b2, Int.toNat_natCast]
  have := hK k hk
  rw [hrep] at this
  exact this
end
end Go.Proofs.Ytcaekmalkbaldaa.M
