/- Unix seconds and GPS times lead back: plain Lean. -/
import Derived.Test.YtleipbanadnchaaGe
namespace Go.Proofs.Ytleipbanadnchaa.C
set_option linter.unusedVariables false
theorem ask_in {b u s : Int} {l : List (Int × Int)} (hk : checkF b l u = 0) (h0 : 0 ≤ s) (h1 : s < beginF l u) : askE b l u s = 0 ∧ ∃ D, IsDay l u s D := by
  refine ⟨?_, IsDay.exists (checkF_right hk).2.2.2.2.2 h0 h1⟩
  unfold askE
  rw [if_pos hk, if_pos (knowsB_iff.2 ⟨h0, h1⟩)]
theorem unixF_bound {l : List (Int × Int)} {u s D : Int} (hR : Right u l) (hu : u ≤ 88069) (h : IsDay l u s D) : 63072000 ≤ unixF l s D ∧ unixF l s D ≤ 4102444800 := by
  have h1 := h.clock hR
  have h2 := h.d0
  have h3 := h.d1
  unfold unixF; omega
/-- The seconds with Unix seconds are those whose Unix seconds they are. -/
theorem mem_secs {l : List (Int × Int)} {u k D x : Int} (hR : Right u l) (hu : u ≤ 88069) (h : IsDay l u k D) : k ∈ secsF l u x ↔ unixF l k D = x := by
  have hb := unixF_bound hR hu h
  have hc := h.clock hR
  have hd0 := h.d0
  have hd1 := h.d1
  constructor
  · intro hm
    unfold secsF at hm
    split at hm
    · cases hm
    · rcases List.mem_append.1 hm with hm | hm
      · unfold secA at hm
        split at hm
        · rename_i hx hA
          have e : k = beginF l (40587 + x / 86400) - 1 := by simpa using hm
          generalize hn : 40587 + x / 86400 = n at *
          have hnx := hR.next (n - 1)
          rw [show n - 1 + 1 = n by omega] at hnx
          have hD : IsDay l u k (n - 1) := ⟨by omega, by omega, by omega, by rw [show n - 1 + 1 = n by omega]; omega⟩
          obtain rfl := hD.unique hR h
          unfold unixF; omega
        · cases hm
      · unfold secB at hm
        split at hm
        · rename_i hx hA
          have e : k = beginF l (40587 + x / 86400) + x % 86400 := by simpa using hm
          generalize hn : 40587 + x / 86400 = n at *
          have hnx := hR.next n
          have hD : IsDay l u k n := ⟨by omega, by omega, by omega, by omega⟩
          obtain rfl := hD.unique hR h
          unfold unixF; omega
        · cases hm
  · intro e
    have hx := e
    unfold unixF at hx
    unfold secsF
    rw [if_neg (by omega)]
    have hn := hR.next D
    have hhi := h.hi
    refine List.mem_append.2 ?_
    by_cases hr : k - beginF l D = 86400
    · left
      have e1 : 40587 + x / 86400 = D + 1 := by omega
      have e2 : x % 86400 = 0 := by omega
      unfold secA
      rw [e1, e2, if_pos ⟨by omega, by omega, rfl, by rw [show D + 1 - 1 = D by omega]; omega⟩]
      exact List.mem_singleton.2 (by omega)
    · right
      have e1 : 40587 + x / 86400 = D := by omega
      have e2 : x % 86400 = k - beginF l D := by omega
      unfold secB
      rw [e1, e2, if_pos ⟨by omega, by omega⟩]
      exact List.mem_singleton.2 (by omega)
theorem secs_known {l : List (Int × Int)} {u k x : Int} (hR : Right u l) (hf : 0 ≤ beginF l 41317) (hm : k ∈ secsF l u x) : 0 ≤ k ∧ k < beginF l u := by
  unfold secsF at hm
  split at hm
  · cases hm
  · rename_i hx
    rcases List.mem_append.1 hm with hm | hm
    · unfold secA at hm
      split at hm
      · rename_i hA
        have e : k = beginF l (40587 + x / 86400) - 1 := by simpa using hm
        have h1 := hR.mono (d := 41317) (e := 40587 + x / 86400) (by omega)
        have h2 := hR.mono (d := 40587 + x / 86400) (e := u) (by omega)
        omega
      · cases hm
    · unfold secB at hm
      split at hm
      · rename_i hA
        have e : k = beginF l (40587 + x / 86400) + x % 86400 := by simpa using hm
        have h1 := hR.mono (d := 41317) (e := 40587 + x / 86400) (by omega)
        have h3 := hR.next (40587 + x / 86400)
        have h2 := hR.mono (d := 40587 + x / 86400 + 1) (e := u) (by omega)
        omega
      · cases hm
theorem secs_len (l : List (Int × Int)) (u x : Int) : (secsF l u x).length ≤ 2 := by
  unfold secsF
  split
  · simp
  · unfold secA secB
    split <;> split <;> simp
theorem gpsL_kept {near tot s : Int} (h0 : 0 ≤ s) (h1 : -300000000 ≤ near - s) (h2 : near - s ≤ 300000000) : ∀ (k : Nat) (n : Int), s + 619315200 ≤ n → gpsL near tot k s n = s
  | 0, _, _ => rfl
  | k + 1, n, h => by
    unfold gpsL
    split
    · rw [if_neg]
      · exact gpsL_kept h0 h1 h2 k _ (by omega)
      · unfold dF; split <;> split <;> omega
    · rfl
theorem gpsL_finds {near tot s : Int} (h0 : 0 ≤ s) (h1 : -300000000 ≤ near - s) (h2 : near - s ≤ 300000000) (ht : s < tot) : ∀ (k : Nat) (j : Nat) (best n : Int), 0 ≤ n → s = n + 619315200 * j → j < k → (best < 0 ∨ best ≤ s - 619315200) → gpsL near tot k best n = s
  | 0, _, _, _, _, _, h, _ => by omega
  | k + 1, 0, best, n, hn, e, _, hb => by
    obtain rfl : s = n := by omega
    rw [gpsL_in _ ht, if_pos]
    · exact gpsL_kept h0 h1 h2 k _ (by omega)
    · rcases hb with hb | hb
      · exact Or.inl hb
      · right; unfold dF; split <;> split <;> omega
  | k + 1, j + 1, best, n, hn, e, hj, hb => by
    have e' : s = n + 619315200 + 619315200 * (j : Int) := by push_cast at e; omega
    rw [gpsL_in _ (by omega)]
    refine gpsL_finds h0 h1 h2 ht k j _ _ (by omega) e' (by omega) ?_
    split
    · right; omega
    · exact hb
/-- 'FromGps' of a second's GPS time, near it, is the second. -/
theorem gps_back {b u s near : Int} {l : List (Int × Int)} (hk : checkF b l u = 0) (hz : ¬ (gpsF l u < 0 ∨ s < gpsF l u)) (h1 : s < beginF l u) (h2 : -300000000 ≤ near - s) (h3 : near - s ≤ 300000000) (ht : beginF l u ≤ 4039372900) :
    fromGB l u ((s - gpsF l u) / 604800 % 1024) ((s - gpsF l u) % 604800) near = s := by
  unfold fromGB
  rw [if_neg (by omega)]
  generalize gpsF l u = z at *
  refine gpsL_finds (by omega) h2 h3 h1 10 ((s - z) / 604800 / 1024).toNat _ _ (by omega) ?_ ?_ (Or.inl (by omega))
  · omega
  · omega
theorem gps_early {b u s : Int} {l : List (Int × Int)} (hk : checkF b l u = 0) (h1 : s < beginF l u) (hz : gpsF l u < 0 ∨ s < gpsF l u) : s < 252892900 := by
  obtain ⟨h1', h2, h3, h4, h5, h6⟩ := checkF_right hk
  have hgb := h6.take l.length u
  have hgb2 := h6.take l.length 44244
  rw [List.take_length] at hgb hgb2
  unfold gpsF at hz
  have e : beginF l u = 86400 * (u - 41317) + grownF l u := rfl
  have e2 : beginF l 44244 = 86400 * (44244 - 41317) + grownF l 44244 := rfl
  split at hz <;> omega
end Go.Proofs.Ytleipbanadnchaa.C
