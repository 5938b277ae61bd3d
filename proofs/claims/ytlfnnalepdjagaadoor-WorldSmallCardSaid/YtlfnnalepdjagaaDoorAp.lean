/- Contracts of Runs, Phase, Shown, Reach and Growth. -/
import Derived.OwnWalk
import Derived.BigRegion
import Derived.Deep.RegionHeld3
import Derived.Test.YtlfnnalepdjagaaDoorAo
namespace Go.Proofs.YtlfnnalepdjagaaDoor.C
open Go.RowKit Go.Shelf Go.Maps Go.Proofs.YtlfnnalepdjagaaDoorW.PrintWords Go.Proofs.YtlfnnalepdjagaaDoorW.PrintLast Go.Proofs.YtlfnnalepdjagaaDoorW.PrintMore
set_option linter.unusedVariables false
set_option linter.unusedSimpArgs false
/-- A world that is right. -/
structure WoOk (chs : List T3) (cks : List Ck) : Prop where
  ch : ∀ c ∈ chs, ChOk c
  ck : ∀ x ∈ cks, CkOk chs.length x
  ev : ∀ x ∈ cks, EvOk x.es
  nh : 1 ≤ chs.length ∧ chs.length ≤ 8
  nk : 1 ≤ cks.length ∧ cks.length ≤ 16
theorem woOk_of {chs : List T3} {cks : List Ck} (h : checkW chs cks = 0) : WoOk chs cks := by
  unfold checkW at h
  split at h
  · rename_i hc
    split at h
    · omega
    · rename_i h1
      split at h
      · omega
      · rename_i h2
        split at h
        · omega
        · rename_i h3
          simp only [Bool.and_eq_true, inW_iff] at hc
          refine ⟨fun c hm => chOk_of ?_, fun x hm => ckOk_of ?_, fun x hm => evOk_of ?_, by omega, by omega⟩
          · cases hb : badCh c
            · rfl
            · exact absurd (List.any_eq_true.2 ⟨c, hm, hb⟩) h1
          · cases hb : badCk chs.length x
            · rfl
            · exact absurd (List.any_eq_true.2 ⟨x, hm, hb⟩) h2
          · cases hb : badEv x.es
            · rfl
            · exact absurd (List.any_eq_true.2 ⟨x, hm, hb⟩) h3
  · omega
theorem errK_zero {chs : List T3} {cks : List Ck} {k : Int} (h : errK chs cks k = 0) : WoOk chs cks ∧ 0 ≤ k ∧ k < cks.length := by
  unfold errK at h
  split at h
  · rename_i h1
    split at h
    · rename_i h2
      have := (inW_iff _ _ _).1 h2
      exact ⟨woOk_of h1, by omega, by omega⟩
    · omega
  · rename_i h1; exact absurd h h1
theorem errS_zero {chs : List T3} {cks : List Ck} {k s : Int} (h : errS chs cks k s = 0) : errK chs cks k = 0 ∧ 0 ≤ s ∧ s ≤ 1000000 := by
  unfold errS at h
  split at h
  · rename_i h1
    unfold timedF at h
    split at h
    · rename_i h2; exact ⟨h1, h2⟩
    · omega
  · rename_i h1; exact absurd h h1
def ckAt (cks : List Ck) (k : Int) : Ck := cks.getD k.toNat ⟨0, 0, 0, 0, 0, 0, 0, 0, []⟩
def roomF (chs : List T3) (x : Ck) : T3 := chs.getD x.ch.toNat (0, 0, 0)
theorem ckAt_of {cks : List Ck} {i : Nat} (hi : i < cks.length) : ckAt cks (i : Int) = cks[i] := by unfold ckAt; rw [Int.toNat_natCast, List.getD_eq_getElem?_getD, List.getElem?_eq_getElem hi]; rfl
theorem room_of {chs : List T3} {x : Ck} {q : Nat} (hq : q < chs.length) (hx : x.ch = q) : roomF chs x = chs[q] := by unfold roomF; rw [hx, Int.toNat_natCast]; exact getD_at hq
theorem WoOk.at {chs : List T3} {cks : List Ck} (h : WoOk chs cks) {i : Nat} (hi : i < cks.length) : CkOk chs.length cks[i] ∧ EvOk cks[i].es ∧ ∃ q : Nat, ∃ hq : q < chs.length, cks[i].ch = q ∧ ChOk chs[q] := by
  have hm := List.getElem_mem hi
  have hc := h.ck _ hm
  have h2 := hc.ch
  exact ⟨hc, h.ev _ hm, cks[i].ch.toNat, by omega, by omega, h.ch _ (List.getElem_mem _)⟩
/-- The phase of a clock. -/
def phaseF (seed : Int) (chs : List T3) (cks : List Ck) (k s : Int) : Int := stillF (ckAt cks k) (roomF chs (ckAt cks k)) s + walkedF seed k (ckAt cks k).wk 0 s
def shownF (seed : Int) (chs : List T3) (cks : List Ck) (k s : Int) : Int := phaseF seed chs cks k s + drawF seed 2 k s (ckAt cks k).wh
def phaseR (seed : Int) (chs : List T3) (cks : List Ck) (k s : Int) : Int × Int := if errS chs cks k s = 0 then (phaseF seed chs cks k s, 0) else (0, errS chs cks k s)
def errN (chs : List T3) (cks : List Ck) (k s : Int) : Int := if errS chs cks k s = 0 then if runsF (ckAt cks k).es s then 0 else 22 else errS chs cks k s
def shownR (seed : Int) (chs : List T3) (cks : List Ck) (k s : Int) : Int × Int := if errN chs cks k s = 0 then (shownF seed chs cks k s, 0) else (0, errN chs cks k s)
theorem still_b {n : Nat} {x : Ck} {c : T3} {s : Int} (hO : CkOk n x) (hE : EvOk x.es) (hc : ChOk c) (hs : 0 ≤ s ∧ s ≤ 1000000) : -3000000000000000 ≤ stillF x c s ∧ stillF x c s ≤ 3000000000000000 := by
  have hb := rt_b hO
  have hph := hO.ph
  have hk := kick_b hE hs x.es.length (by omega)
  have hj := jump_b hE (s := s) x.es.length (by omega)
  have hf := hE.few
  have hrs := rt_s hb.1 hs
  have hdb := drift_b hb.2.1 hs
  have r1 := warm_range hc.b hc.s hc.p hs.1
  have r2 := warm_range hc.b hc.s hc.p (Int.le_refl 0)
  have hht := ht_b (h := x.ht) (t := warmF c.1 c.2.1 c.2.2 s - warmF c.1 c.2.1 c.2.2 0) hO.ht (by omega)
  unfold stillF rateF
  omega
theorem walked_b {n : Nat} {x : Ck} {s fr seed k : Int} (hO : CkOk n x) (hf : 0 ≤ fr) (hs : 0 ≤ s ∧ s ≤ 1000000) : -10000000000000 ≤ walkedF seed k x.wk fr s ∧ walkedF seed k x.wk fr s ≤ 10000000000000 := by
  have h1 := walkedF_b (seed := seed) (k := k) (wk := x.wk) (fr := fr) (to_ := s) hO.wk.1
  have h2 := (rt_b hO).2.2.2
  have hN := stepsN_b (fr := fr) (to_ := s) hf hs.2
  have h3 : x.wk * (stepsN fr s : Int) ≤ 1000000000 * 10000 := Int.mul_le_mul h2 (by omega) (by omega) (by omega)
  omega
theorem white_b {n : Nat} {x : Ck} {s seed k : Int} (hO : CkOk n x) : -1000000000000 ≤ drawF seed 2 k s x.wh ∧ drawF seed 2 k s x.wh ≤ 1000000000000 := by
  have h1 := drawF_range seed 2 k s x.wh hO.wh.1
  have h2 := (rt_b hO).2.2.1
  omega
end Go.Proofs.YtlfnnalepdjagaaDoor.C
