/- A table and its beginning, in plain Lean. -/
import Derived.Test.YtleipbanadnchaaHb
import Derived.Test.YtleipbanadnchaaGa
namespace Go.Proofs.Ytleipbanadnchaa.C
/-- The leaps before a day. -/
def preL (au : Int) (l : List (Int × Int)) : List (Int × Int) := l.filter (fun x => decide (x.1 < au))
theorem idxG_shift (u : Int) : ∀ (l : List (Int × Int)) (i : Nat), idxG u l (i + 1) = if idxG u l i < 0 then -1 else idxG u l i + 1
  | [], i => rfl
  | y :: l, i => by
    unfold idxG
    by_cases h : u ≤ y.1
    · rw [if_pos h, if_pos h, if_neg (by omega)]; omega
    · rw [if_neg h, if_neg h, idxG_shift u l (i + 1)]
theorem cutN_cons {u : Int} {y : Int × Int} {l : List (Int × Int)} (h : ¬ u ≤ y.1) : cutN u (y :: l) = cutN u l + 1 := by
  unfold cutN
  rw [idxG, if_neg h, idxG_shift]
  have := idxG_bound u l 0
  by_cases h0 : idxG u l 0 < 0
  · rw [if_pos h0, if_pos (by omega), if_pos h0]; rfl
  · rw [if_neg h0, if_neg (by omega), if_neg h0]; omega
theorem preL_take (u : Int) : ∀ (l : List (Int × Int)), l.Pairwise (fun x y => x.1 < y.1) → preL u l = l.take (cutN u l)
  | [], _ => rfl
  | y :: l, hp => by
    obtain ⟨h1, h2⟩ := List.pairwise_cons.1 hp
    by_cases h : u ≤ y.1
    · have e : cutN u (y :: l) = 0 := by unfold cutN; rw [idxG, if_pos h]; rfl
      rw [e]
      unfold preL
      simp only [List.take_zero, List.filter_eq_nil_iff]
      intro x hx
      rcases List.mem_cons.1 hx with rfl | hx
      · simp; omega
      · have := h1 x hx; simp; omega
    · rw [cutN_cons h, List.take_succ_cons, ← preL_take u l h2]
      unfold preL
      rw [List.filter_cons, if_pos (by simp; omega)]
theorem pre_take {l : List (Int × Int)} {i : Nat} (au : Int) (h : i < l.length) : preL au (l.take (i + 1)) = if l[i].1 < au then preL au (l.take i) ++ [l[i]] else preL au (l.take i) := by
  unfold preL
  rw [List.take_add_one, List.getElem?_eq_getElem h, List.filter_append]
  by_cases hx : l[i].1 < au <;> simp [hx]
theorem pre_len (au : Int) (l : List (Int × Int)) : (preL au l).length ≤ l.length := List.length_filter_le ..
theorem pre_check {b u au : Int} {l : List (Int × Int)} (hk : checkF b l u = 0) (h0 : 41318 ≤ au) (h1 : au ≤ u) : checkF b (preL au l) au = 0 := by
  obtain ⟨a1, a2, a3, a4, a5, hR⟩ := checkF_right hk
  have hme := check_me hk
  have hl := pre_len au l
  unfold checkF
  rw [if_neg (by omega), if_neg (by omega)]
  refine leapsE_good _ _ (fun x hx => ?_) (hR.rising.filter _) (fun q hq => by cases hq)
  obtain ⟨hx1, hx2⟩ := List.mem_filter.1 hx
  have := hR.steps x hx1
  exact ⟨this.1, hme x hx1, this.2.1, of_decide_eq_true hx2⟩
theorem ext_ok {b u au : Int} {l : List (Int × Int)} (hk : checkF b l u = 0) (h0 : 41318 ≤ au) (h1 : au ≤ u) : extE b (preL au l) au b l u = 0 := by
  unfold extE
  rw [if_neg (by simp [pre_check hk h0 h1]), if_neg (by simp [hk]), if_neg (by omega), if_pos ⟨rfl, preL_take au l (checkF_right hk).2.2.2.2.2.rising⟩]
theorem flip_check {b au : Int} {l : List (Int × Int)} (hk : checkF b l au = 0) {n : Nat} (hn : n < l.length) : checkF b (l.set n (l[n].1, -l[n].2)) au = 0 := by
  obtain ⟨a1, a2, a3, a4, a5, hR⟩ := checkF_right hk
  have hme := check_me hk
  unfold checkF
  rw [if_neg (by omega), if_neg (by simp; omega)]
  refine leapsE_good _ _ (fun x hx => ?_) ?_ (fun q hq => by cases hq)
  · rcases List.mem_or_eq_of_mem_set hx with hx | rfl
    · have := hR.steps x hx
      exact ⟨this.1, hme x hx, this.2.1, this.2.2⟩
    · have := hR.steps l[n] (List.getElem_mem _)
      have hm := hme l[n] (List.getElem_mem _)
      exact ⟨by simp only; omega, hm, this.2.1, this.2.2⟩
  · have e : (l.set n (l[n].1, -l[n].2)).map (·.1) = l.map (·.1) := by
      rw [List.map_set]
      refine List.ext_getElem? (fun j => ?_)
      rw [List.getElem?_set]
      by_cases h : n = j
      · subst h; simp [hn]
      · rw [if_neg h]
    have h := List.pairwise_map.2 hR.rising
    rw [← e] at h
    exact List.pairwise_map.1 h
theorem ext_flip {b u au : Int} {l : List (Int × Int)} (hk : checkF b l u = 0) (h0 : 41318 ≤ au) (h1 : au ≤ u) {n : Nat} (hn : n < (preL au l).length) : extE b ((preL au l).set n ((preL au l)[n].1, -(preL au l)[n].2)) au b l u = 91 := by
  have hp := pre_check hk h0 h1
  unfold extE
  rw [if_neg (by simp [flip_check hp hn]), if_neg (by simp [hk]), if_neg (by omega), if_neg]
  rintro ⟨_, e⟩
  rw [← preL_take au l (checkF_right hk).2.2.2.2.2.rising] at e
  have h2 := congrArg (fun m => m[n]?) e
  simp only [List.getElem?_set, if_pos hn, if_true, List.getElem?_eq_getElem hn] at h2
  have hst := ((checkF_right hp).2.2.2.2.2.steps _ (List.getElem_mem hn)).1
  simp at h2
  have h3 := congrArg Prod.snd h2
  simp only at h3
  omega
theorem pre_grown (au : Int) {d : Int} (hd : d ≤ au) : ∀ (l : List (Int × Int)), grownF (preL au l) d = grownF l d
  | [] => rfl
  | y :: l => by
    have ih := pre_grown au hd l
    unfold preL at *
    rw [List.filter_cons]
    by_cases h : y.1 < au
    · rw [if_pos (by simpa using h)]; show _ + _ = _ + _; rw [ih]
    · rw [if_neg (by simpa using h)]; show _ = _ + _; rw [if_neg (by omega), ih]; omega
theorem pre_day {u au s D : Int} {l : List (Int × Int)} (h1 : au ≤ u) (h : IsDay (preL au l) au s D) : IsDay l u s D ∧ beginF (preL au l) D = beginF l D := by
  have e1 : ∀ d, d ≤ au → beginF (preL au l) d = beginF l d := fun d hd => by unfold beginF; rw [pre_grown au hd l]
  obtain ⟨a1, a2, a3, a4⟩ := h
  rw [e1 D (by omega)] at a3
  rw [e1 (D + 1) (by omega)] at a4
  exact ⟨⟨a1, by omega, a3, a4⟩, e1 D (by omega)⟩
end Go.Proofs.Ytleipbanadnchaa.C
