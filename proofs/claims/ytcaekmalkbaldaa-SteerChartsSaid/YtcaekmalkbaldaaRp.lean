/- The proofs of laws of the steering chapter: the reference's answer is the program's. -/
import Derived.Test.YtcaekmalkbaldaaRc
import Derived.Test.YtcaekmalkbaldaaM13
import Derived.Test.YtcaekmalkbaldaaM14
namespace Go.Proofs.Ytcaekmalkbaldaa.M
set_option linter.unusedVariables false
set_option linter.unusedSimpArgs false
open Go.RowKit Go.Shelf Go.Proofs.YtcaekmalkbaldaaW.PrintWords Go.Proofs.YtcaekmalkbaldaaW.PrintLast Go.Proofs.YtcaekmalkbaldaaW.PrintMore
set_option linter.unusedVariables false
section
variable {L R S N : Int}
def leftP (L R : Int) (l : List Int) (j : Nat) : List Bool := (List.range (siz L R)).map fun t => if t < j then decide (rd l t ≥ 1000) else false
theorem leftP_len (l : List Int) (j : Nat) : (leftP L R l j).length = siz L R := by simp [leftP]
def resP (L R S N : Int) (l : List Int) (j : Nat) : Int := if ((List.range (siz L R - j)).all fun i => meantOK L R S N l (j + i)) = true then 0 else 7
theorem resP_step (l : List Int) (j : Nat) (hj : j < siz L R) : resP L R S N l j = if meantOK L R S N l j = true then resP L R S N l (j + 1) else 7 := by
  unfold resP
  rw [show siz L R - j = (siz L R - (j + 1)) + 1 by omega, List.range_succ_eq_map, List.all_cons, List.all_map]
  have : ((List.range (siz L R - (j + 1))).all ((fun i => meantOK L R S N l (j + i)) ∘ Nat.succ)) = ((List.range (siz L R - (j + 1))).all fun i => meantOK L R S N l (j + 1 + i)) := by
    congr 1
    funext i
    simp only [Function.comp]
    congr 1; omega
  rw [this, Nat.add_zero]
  cases meantOK L R S N l j <;> simp
theorem goodL_left (hL0 : 1 ≤ L) (hR0 : 0 ≤ R) (l : List Int) {x y : Int} (hb : isB L R x y = true) : goodL L R (leftP L R l (siz L R)) x y = goodO L R l x y := by
  obtain ⟨j, hj, e⟩ := idx_lt hL0 hR0 hb
  unfold goodL goodO leftP
  rw [e, rdOf_map _ _ _ hj, if_pos hj]
  rw [Bool.eq_iff_iff]
  simp
theorem rp_l2 (hp : rightB L R S N = true) (l : List Int) (hl : l.length = siz L R) (a : Nat) (ha : a < (2 * L + 1).toNat)
    (hk : ∃ K, ∀ k, K ≤ k → meridianref06_Prove.l1 k l (leftP L R l (siz L R)) (-L + a + 1) L R S N = some (resP L R S N l ((a + 1) * wid R))) :
    ∀ (d b : Nat), b + d = wid R → ∃ K, ∀ k, K ≤ k → meridianref06_Prove.l2 k l (leftP L R l (siz L R)) (-L + a) (-R + b) L R S N = some (resP L R S N l (a * wid R + b))
  | 0, b, hd => by
    obtain ⟨K, hK⟩ := hk
    have h' := rightB_iff.1 hp
    obtain rfl : b = wid R := by omega
    have hw : ((wid R : Nat) : Int) = 2 * R + 1 := by unfold wid; omega
    refine ⟨K + 1, fun k hkk => ?_⟩
    obtain ⟨k, rfl⟩ : ∃ j, k = j + 1 := ⟨k - 1, by omega⟩
    unfold meridianref06_Prove.l2
    rw [if_neg (by omega), wrap_small _ (by omega) (by omega)]
    have := hK k (by omega)
    rw [Nat.add_mul, Nat.one_mul] at this
    exact this
  | d + 1, b, hd => by
    obtain ⟨K, hK⟩ := rp_l2 hp l hl a ha hk d (b + 1) (by omega)
    have h' := rightB_iff.1 hp
    have hw : ((wid R : Nat) : Int) = 2 * R + 1 := by unfold wid; omega
    have hjlt := siz_lt L R a b ha (by omega)
    have hse := stE_at L R a b (by omega)
    have hsr := stR_at R a b (by omega)
    have hidx := st_index L R (by omega) (a * wid R + b)
    have hm : meantOK L R S N l (a * wid R + b) = (!decide (rd l ((a * wid R + b : Nat) : Int) < 1000) || ((ratesL R S (stR R (a * wid R + b))).contains (rd l ((a * wid R + b : Nat) : Int)) && holdsB L R N (stE L R (a * wid R + b)) (rd l ((a * wid R + b : Nat) : Int)) (goodO L R l))) := rfl
    have hstep := resP_step (S := S) (N := N) l (a * wid R + b) hjlt
    rw [hse, hsr] at hidx hm
    have hb : isB L R (-L + a) (-R + b) = true := isB_iff.2 (by omega)
    have hri := ref_index_f (S := S) (N := N) (by omega) (by omega) (by omega) (by omega) hb
    rw [hidx] at hri
    have hleft : rdOf false (leftP L R l (siz L R)) ((a * wid R + b : Nat) : Int) = decide (rd l ((a * wid R + b : Nat) : Int) ≥ 1000) := by
      unfold leftP
      rw [rdOf_map _ _ _ hjlt, if_pos hjlt]
    have hal := fun q => ref_allowed_f (L := L) (N := N) (S := S) (R := R) (by omega) (by omega) (by omega) (by omega) (-R + (b : Int)) q (by omega) (by omega)
    have hkp : ∀ q, -R ≤ q → q ≤ R → ∀ k, 30 ≤ k → meridianref06_keeps.f k L R S N (leftP L R l (siz L R)) (-L + a) q = some (holdsB L R N (-L + a) q (goodO L R l)) := fun q h1 h2 k hk => by
      rw [ref_keeps_f (by omega) (by omega) (by omega) (by omega) (by omega) (by omega) _ (leftP_len ..) (-L + a) q (by omega) (by omega) h1 h2 k hk]
      congr 1
      exact holdsB_congr L R N fun x y hxy => goodL_left (by omega) (by omega) l hxy
    have HW : Aside0 (wrap64 (-R + (b : Int) + 1) = -R + ((b + 1 : Nat) : Int)) := ⟨by rw [wrap_small _ (by omega) (by omega)]; omega⟩
    have HK : Aside0 (∀ k, K ≤ k → meridianref06_Prove.l2 k l (leftP L R l (siz L R)) (-L + a) (-R + ((b + 1 : Nat) : Int)) L R S N = some (resP L R S N l (a * wid R + b + 1))) := ⟨hK⟩
    clear hK hse hsr hidx hb
    have hle : -R + (b : Int) ≤ R := by omega
    generalize a * wid R + b = j at *
    refine ⟨K + 100, fun k hkk => ?_⟩
    obtain ⟨k, rfl⟩ : ∃ j, k = j + 1 := ⟨k - 1, by omega⟩
    unfold meridianref06_Prove.l2
    rw [if_pos hle, hri, HW.out, Option.bind_some, if_pos (by omega), if_pos (by rw [leftP_len]; omega), hleft, hstep]
    by_cases hlt : rd l (j : Int) < 1000
    · rw [decide_eq_true hlt, Bool.not_true, Bool.false_or] at hm
      rw [if_neg (by simp; omega), if_pos (by omega), hal, Option.bind_some]
      cases hc : (ratesL R S (-R + (b : Int))).contains (rd l (j : Int))
      · rw [hc, Bool.false_and] at hm
        rw [if_neg (by simp), if_neg (by rw [hm]; simp)]
      · have hq := rates_mem (List.contains_iff_mem.1 hc)
        rw [hc, Bool.true_and] at hm
        rw [if_pos rfl, hkp _ (by omega) (by omega) k (by omega), Option.bind_some, hm]
        cases hh : holdsB L R N (-L + a) (rd l (j : Int)) (goodO L R l)
        · rw [if_neg (by simp), if_neg (by simp)]
        · rw [if_pos rfl, if_pos rfl]
          exact HK.out k (by omega)
    · rw [decide_eq_false hlt] at hm
      rw [if_pos (by simpa using hlt), if_pos (by rw [hm]; rfl)]
      exact HK.out k (by omega)
theorem rp_l1 (hp : rightB L R S N = true) (l : List Int) (hl : l.length = siz L R) : ∀ (d a : Nat), a + d = (2 * L + 1).toNat → ∃ K, ∀ k, K ≤ k → meridianref06_Prove.l1 k l (leftP L R l (siz L R)) (-L + a) L R S N = some (resP L R S N l (a * wid R))
  | 0, a, hd => by
    have h' := rightB_iff.1 hp
    have hz : a * wid R = siz L R := by unfold siz; rw [show a = (2 * L + 1).toNat by omega]
    refine ⟨1, fun k hkk => ?_⟩
    obtain ⟨k, rfl⟩ : ∃ j, k = j + 1 := ⟨k - 1, by omega⟩
    unfold meridianref06_Prove.l1
    rw [if_neg (by omega), hz]
    unfold resP
    rw [Nat.sub_self]; rfl
  | d + 1, a, hd => by
    have h' := rightB_iff.1 hp
    have h1 := rp_l1 hp l hl d (a + 1) (by omega)
    rw [show -L + ((a + 1 : Nat) : Int) = -L + a + 1 by omega] at h1
    obtain ⟨K, hK⟩ := rp_l2 hp l hl a (by omega) h1 (wid R) 0 (by omega)
    simp only [Nat.add_zero] at hK
    refine ⟨K + 1, fun k hkk => ?_⟩
    obtain ⟨k, rfl⟩ : ∃ j, k = j + 1 := ⟨k - 1, by omega⟩
    unfold meridianref06_Prove.l1
    rw [if_pos (by omega), wrap_small (-R) (by omega) (by omega)]
    have := hK k (by omega)
    rw [show -R + ((0 : Nat) : Int) = -R by omega] at this
    exact this
theorem rp_l0 (hp : rightB L R S N = true) (l : List Int) (hl : l.length = siz L R) : ∀ (d j : Nat), j + d = siz L R → ∃ K, ∀ k, K ≤ k → meridianref06_Prove.l0 k l (leftP L R l j) (j : Int) L R S N = some (resP L R S N l 0)
  | 0, j, hd => by
    have h' := rightB_iff.1 hp
    obtain ⟨K, hK⟩ := rp_l1 hp l hl (2 * L + 1).toNat 0 (by omega)
    simp only [Nat.zero_mul] at hK
    refine ⟨K + 1, fun k hkk => ?_⟩
    obtain ⟨k, rfl⟩ : ∃ j, k = j + 1 := ⟨k - 1, by omega⟩
    unfold meridianref06_Prove.l0
    rw [if_neg (by omega), wrap_small (-L) (by omega) (by omega), show j = siz L R by omega]
    have := hK k (by omega)
    rw [show -L + ((0 : Nat) : Int) = -L by omega] at this
    exact this
  | d + 1, j, hd => by
    have h' := rightB_iff.1 hp
    have hs := siz_le L R (by omega) (by omega)
    obtain ⟨K, hK⟩ := rp_l0 hp l hl d (j + 1) (by omega)
    have hset : (leftP L R l j).set j (decide (rd l (j : Int) ≥ 1000)) = leftP L R l (j + 1) := by
      unfold leftP
      refine set_map _ _ _ _ _ fun i hi => ?_
      by_cases hij : i = j
      · subst hij
        rw [if_pos (by omega), if_pos rfl]
      · rw [if_neg hij]
        by_cases h : i < j
        · rw [if_pos h, if_pos (by omega)]
        · rw [if_neg h, if_neg (by omega)]
    refine ⟨K + 1, fun k hkk => ?_⟩
    obtain ⟨k, rfl⟩ : ∃ j, k = j + 1 := ⟨k - 1, by omega⟩
    unfold meridianref06_Prove.l0
    rw [if_pos (by omega), if_pos (by omega), if_pos (by rw [leftP_len]; omega), Int.toNat_natCast, hset, wrap_small _ (by omega) (by omega)]
    exact hK k (by omega)
theorem ref_prove_f (L R S N : Int) (l : List Int) : ∃ K, ∀ k, K ≤ k → meridianref06_Prove.f k L R S N l = steer_Prove.f L R S N l := by
  by_cases hp : rightB L R S N = true
  · have h' := rightB_iff.1 hp
    have hs := siz_le L R (by omega) (by omega)
    have hbb : isB L R L R = true := isB_iff.2 (by omega)
    have hsz : (L + L) * (2 * R + 1) + R + R + 1 = ((siz L R : Nat) : Int) := by
      unfold siz wid
      rw [Int.natCast_mul, Int.toNat_of_nonneg (by omega), Int.toNat_of_nonneg (by omega), Int.add_mul (2 * L) 1, Int.one_mul, show L + L = 2 * L by omega]
      omega
    have hw : (wrap64 ((L + L) * (2 * R + 1) + R + R + 1)) = ((siz L R : Nat) : Int) := by rw [hsz, wrap_small _ (by omega) (by omega)]
    have hri := ref_index_f (S := S) (N := N) (by omega) (by omega) (by omega) (by omega) hbb
    by_cases hl : l.length = siz L R
    · obtain ⟨K, hK⟩ := rp_l0 hp l hl (siz L R) 0 (by omega)
      have hrep : leftP L R l 0 = List.replicate (siz L R) false := by
        unfold leftP
        apply List.ext_getElem (by simp)
        intro i h1 h2
        simp
      rw [hrep] at hK
      have b0 : (0 : Int) ≤ ((siz L R : Nat) : Int) := by omega
      have b1 : ((siz L R : Nat) : Int).toNat ≤ 281474976710656 := by rw [Int.toNat_natCast]; exact Nat.le_trans hs (by decide)
      refine ⟨K, fun k hk => ?_⟩
      unfold meridianref06_Prove.f
      rw [refcheck_f, if_pos hp, Option.bind_some, if_pos rfl, hri, Option.bind_some, hw, hl, if_pos rfl, if_pos b0, if_pos b1, Int.toNat_natCast]
      have hKk := hK k hk
      rw [show ((0 : Nat) : Int) = 0 from rfl] at hKk
      rw [hKk]
      unfold steer_Prove.f resP
      rw [if_pos hp, if_pos hl]
      simp only [Nat.sub_zero, Nat.zero_add]
    · refine ⟨0, fun k hk => ?_⟩
      have hne : ¬ ((l.length : Int) = ((siz L R : Nat) : Int)) := by omega
      unfold meridianref06_Prove.f
      rw [refcheck_f, if_pos hp, Option.bind_some, if_pos rfl, hri, Option.bind_some, hw, if_neg hne]
      unfold steer_Prove.f
      rw [if_pos hp, if_neg hl]
  · refine ⟨0, fun k hk => ?_⟩
    unfold meridianref06_Prove.f
    rw [refcheck_f, if_neg hp, Option.bind_some, if_neg (by decide)]
    unfold steer_Prove.f
    rw [if_neg hp]
end
end Go.Proofs.Ytcaekmalkbaldaa.M
