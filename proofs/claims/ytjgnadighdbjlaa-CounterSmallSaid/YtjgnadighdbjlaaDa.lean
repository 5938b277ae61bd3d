/- Contradict: its state in memory, and the way back, by hand. -/
import Derived.OwnWalk
import Derived.Deep.CutRange
import Derived.Deep.RegionHeld3
import Derived.Test.YtjgnadighdbjlaaCz
namespace Go.Proofs.Ytjgnadighdbjlaa.C
open Go.RowKit Go.Shelf Go.Maps Go.Proofs.YtjgnadighdbjlaaW.PrintWords Go.Proofs.YtjgnadighdbjlaaW.PrintLast Go.Proofs.YtjgnadighdbjlaaW.PrintMore
set_option linter.unusedVariables false
set_option linter.unusedSimpArgs false
/-- The i-th use's side. -/
def sAt (l : List Bd) (i : Nat) : Int × Int × Int := sideF l ((usesL l.length).getD i (0, false))
/-- Distances, the uses by which they were found, and the clock that changed last. -/
structure Ct where
  D : Nat → Int
  B : Nat → Nat
  L : Int
def ctStep (l : List Bd) (s : Ct) (i : Nat) : Ct :=
  if s.D (sAt l i).1.toNat + (sAt l i).2.2 < s.D (sAt l i).2.1.toNat then ⟨fun c => if c = (sAt l i).2.1.toNat then s.D (sAt l i).1.toNat + (sAt l i).2.2 else s.D c, fun c => if c = (sAt l i).2.1.toNat then i else s.B c, (sAt l i).2.1⟩ else s
def ctFold (l : List Bd) (s : Ct) : Nat → Ct
  | 0 => s
  | k + 1 => ctStep l (ctFold l s k) k
def ctRound (l : List Bd) (s : Ct) : Ct := ctFold l ⟨s.D, s.B, -1⟩ (2 * l.length)
def ctRun (l : List Bd) : Nat → Ct
  | 0 => ⟨fun _ => 0, fun _ => 0, -1⟩
  | r + 1 => ctRound l (ctRun l r)
theorem sAt_ok {l : List Bd} {N i : Nat} (hcl : ∀ x ∈ l, 0 ≤ x.1 ∧ x.1 < N ∧ 0 ≤ x.2.1 ∧ x.2.1 < N) (hsp : SpanOk l) (hi : i < 2 * l.length) :
    ∃ (p q : Nat) (L : Int), sAt l i = ((p : Int), (q : Int), L) ∧ p < N ∧ q < N ∧ -1000000000000000 ≤ L ∧ L ≤ 1000000000000000 := by
  have hu : (usesL l.length)[i]? = some ((usesL l.length).getD i (0, false)) := by
    rw [List.getD_eq_getElem?_getD, List.getElem?_eq_getElem (by rw [usesL_len]; exact hi)]; rfl
  obtain ⟨_, _, h⟩ := side_ok hcl hsp hi hu
  exact h
/-- Contradict's state, in memory. -/
structure CtM (w : World) (A : Option Addr) (c : Nat) (l : List Bd) (N M : Nat) (Au : Option Addr) (cu bu g3 g8 g9 gd gb : Nat) (W : World) (s : Ct) : Prop where
  kd : W.heap[gd]? = some (.cells (rowV N s.D).toArray 3 (0, 0))
  kb : W.heap[gb]? = some (.cells (rowV N (fun c => (s.B c : Int))).toArray 3 (0, 0))
  k8 : W.heap[g8]? = some (.cells #[.slice (some ⟨gb, 0, none⟩) N N] 59 (0, 0))
  k9 : W.heap[g9]? = some (.cells #[.slice Au M cu] 34 (0, 0))
  k3 : W.heap[g3]? = some (.cells #[.slice A l.length c] 25 (0, 0))
  ou : W.ownsRow bu 41 2 (.slice Au M cu) M (ucells (usesL l.length))
  bel : Below w.heap.size w W
  ne : gd ≠ gb
  gd0 : w.heap.size ≤ gd
  gb0 : w.heap.size ≤ gb
section
variable {w : World} {A : Option Addr} {c : Nat} {l : List Bd} {N M : Nat} {Au : Option Addr} {cu bu g3 g8 g9 gd gb : Nat} {W X : World} {s s' : Ct}
theorem CtM.below (h : CtM w A c l N M Au cu bu g3 g8 g9 gd gb W s) (hB : Below W.heap.size W X) : CtM w A c l N M Au cu bu g3 g8 g9 gd gb X s :=
  ⟨blk_on hB h.kd, blk_on hB h.kb, blk_on hB h.k8, blk_on hB h.k9, blk_on hB h.k3, own_keep h.ou hB, h.bel.trans (hB.mono h.bel.size), h.ne, h.gd0, h.gb0⟩
theorem blk_ty {W : World} {g r t t' : Nat} {cs cs' : Array Value} (h : W.heap[g]? = some (.cells cs t (0, 0))) (hr : W.heap[r]? = some (.cells cs' t' (0, 0))) (ht : t ≠ t') : g ≠ r := fun e => by
  subst e; rw [hr] at h; injection h with h; injection h with _ h; exact ht h.symm
theorem CtM.put (h : CtM w A c l N M Au cu bu g3 g8 g9 gd gb W s) {b : Nat} {x : Int} {k : Nat} (hb : b < N) (hD : ∀ c, c < N → s'.D c = if c = b then x else s.D c) (hB : ∀ c, c < N → s'.B c = if c = b then k else s.B c) :
    CtM w A c l N M Au cu bu g3 g8 g9 gd gb ((W.setCell ⟨gd, b, none⟩ (.int .i64 x)).setCell ⟨gb, b, none⟩ (.int .i64 k)) s' := by
  have hne := h.ne
  have h0 := h.gd0
  have h1 := h.gb0
  have d8 := blk_ty h.k8 h.kd (by decide)
  have d9 := blk_ty h.k9 h.kd (by decide)
  have d3 := blk_ty h.k3 h.kd (by decide)
  have b8 := blk_ty h.k8 h.kb (by decide)
  have b9 := blk_ty h.k9 h.kb (by decide)
  have b3 := blk_ty h.k3 h.kb (by decide)
  have hkb := blk_far (p := ⟨gd, b, none⟩) h.kb (by simpa using fun e => hne e.symm) (.int .i64 x)
  refine ⟨blk_far (blk_put h.kd b _ (rowV_set hb hD)) (by simpa using hne) _, blk_put hkb b _ (rowV_set (f := fun c => (s.B c : Int)) hb (fun c hc => by rw [hB c hc]; split <;> rfl)), blk_far (blk_far h.k8 (by simpa using d8) _) (by simpa using b8) _, blk_far (blk_far h.k9 (by simpa using d9) _) (by simpa using b9) _, blk_far (blk_far h.k3 (by simpa using d3) _) (by simpa using b3) _, own_cell (own_cell h.ou h.kd (by decide) _) hkb (by decide) _, (h.bel.setCell (by simpa using h0) _).setCell (by simpa using h1) _, hne, h0, h1⟩
theorem CtM.congr (h : CtM w A c l N M Au cu bu g3 g8 g9 gd gb W s) (hD : s'.D = s.D) (hB : s'.B = s.B) : CtM w A c l N M Au cu bu g3 g8 g9 gd gb W s' :=
  ⟨by rw [hD]; exact h.kd, by rw [hB]; exact h.kb, h.k8, h.k9, h.k3, h.ou, h.bel, h.ne, h.gd0, h.gb0⟩
theorem CtM.dist (h : CtM w A c l N M Au cu bu g3 g8 g9 gd gb W s) {b : Nat} (hb : b < N) : W.cell? ⟨gd, b, none⟩ = some (.int .i64 (s.D b)) ∧ W.frozen? ⟨gd, b, none⟩ = false := by
  refine ⟨?_, blk_frozen h.kd b⟩
  rw [blk_cell h.kd b]; simpa using rowV_get hb
theorem CtM.by_ (h : CtM w A c l N M Au cu bu g3 g8 g9 gd gb W s) {b : Nat} (hb : b < N) : W.cell? ⟨gb, b, none⟩ = some (.int .i64 (s.B b)) ∧ W.frozen? ⟨gb, b, none⟩ = false := by
  refine ⟨?_, blk_frozen h.kb b⟩
  rw [blk_cell h.kb b]; simpa using rowV_get hb
theorem CtM.use (h : CtM w A c l N M Au cu bu g3 g8 g9 gd gb W s) (hM : 2 * l.length = M) {i : Nat} (hi : i < M) :
    ∃ ad, Au = some ad ∧ W.cell? (ad.add (i * 2)) = some (.int .i64 ((usesL l.length).getD i (0, false)).1) ∧ W.cell? ⟨(ad.add (i * 2)).block, (ad.add (i * 2)).off + 1, none⟩ = some (.bool ((usesL l.length).getD i (0, false)).2) ∧ 0 ≤ ((usesL l.length).getD i (0, false)).1 ∧ ((usesL l.length).getD i (0, false)).1 < l.length := by
  have hl : (usesL l.length).length = M := by rw [usesL_len, hM]
  obtain ⟨A2, c2, e, hU⟩ := own_uses (l := usesL l.length) (by rw [hl]; exact h.ou)
  rw [hl] at e
  cases e
  obtain ⟨ad, rfl, h0, h1⟩ := C_us hU i (by omega) (by omega)
  have hg : (usesL l.length)[i]'(by omega) = (usesL l.length).getD i (0, false) := by rw [List.getD_eq_getElem?_getD, List.getElem?_eq_getElem (by omega)]; rfl
  rw [hg] at h0 h1
  refine ⟨ad, rfl, h0, h1, ?_⟩
  have := usesL_get l.length i (by omega)
  rw [List.getD_eq_getElem?_getD, this]
  simp only [Option.getD_some]
  omega
end
set_option maxHeartbeats 2000000 in
set_option maxRecDepth 100000 in
theorem back_calls {w : World} {A : Option Addr} {c : Nat} {l : List Bd} {N M : Nat} {Au : Option Addr} {cu bu g3 g8 g9 gd gb : Nat} {W : World} {s : Ct} (b : Nat) (hM : 2 * l.length = M) (hr : Kd.C kb w A l.length l) (hsp : SpanOk l) (hm : CtM w A c l N M Au cu bu g3 g8 g9 gd gb W s) (hb : b < N) (hk : s.B b < M) (hM2 : M ≤ 480) :
    Calls Try.prog 39 #[.int .i64 b, .pointer (some ⟨g9, 0, none⟩), .pointer (some ⟨g8, 0, none⟩), .pointer (some ⟨g3, 0, none⟩)] W fun e w' => e = .returned (.int .i64 (sAt l (s.B b)).1) ∧ Below W.heap.size W w' := by
  obtain ⟨ad, rfl, u0, u1, hu0, hu1⟩ := hm.use hM hk
  have y0 := (hm.by_ hb).1
  obtain ⟨k, hkk⟩ : ∃ k, s.B b = k := ⟨_, rfl⟩
  rw [hkk] at u0 u1 hu0 hu1 y0 hk ⊢
  unfold sAt
  have a8 : W.cell? ⟨g8, 0, none⟩ = some (.slice (some ⟨gb, 0, none⟩) N N) := blk_cell hm.k8 0
  have a9 : W.cell? ⟨g9, 0, none⟩ = some (.slice (some ad) M cu) := blk_cell hm.k9 0
  have a3 : W.cell? ⟨g3, 0, none⟩ = some (.slice A l.length c) := blk_cell hm.k3 0
  have HC := Aside0.mk (Kd.C_below hr hm.bel)
  obtain ⟨⟨uk, ub⟩, hu⟩ : ∃ z, (usesL l.length).getD k (0, false) = z := ⟨_, rfl⟩
  rw [hu] at u0 u1 hu0 hu1 ⊢
  simp only at u0 u1 hu0 hu1
  have c4 := fun w hC => side_calls uk ub A c l w hC hsp hu0 hu1
  obtain ⟨⟨s1, s2, s3⟩, hs⟩ : ∃ z, sideF l (uk, ub) = z := ⟨_, rfl⟩
  rw [hs]
  simp only [hs] at c4
  unfold sideV at c4
  simp only at c4 ⊢
  have hb0 : (0 : Int) ≤ (b : Int) := by omega
  have hb1 : (b : Int) < (N : Int) := by omega
  have hk0 : (0 : Int) ≤ (k : Int) := by omega
  have hk1 : (k : Int) < (M : Int) := by omega
  clear hr hsp hm hkk hu hs hM
  go_enter Try.func39, Try.ntmps39
  go_wp2_with fail
  have hS : ∀ w', Below W.heap.size W w' → ((w'.cell? ⟨g9, 0, none⟩ = some (.slice (some ad) M cu) ∧ w'.cell? ⟨g8, 0, none⟩ = some (.slice (some ⟨gb, 0, none⟩) N N) ∧ w'.cell? ⟨g3, 0, none⟩ = some (.slice A l.length c) ∧ w'.cell? ⟨gb, b, none⟩ = some (.int .i64 k) ∧ w'.cell? (ad.add (k * 2)) = some (.int .i64 uk) ∧ w'.cell? ⟨(ad.add (k * 2)).block, (ad.add (k * 2)).off + 1, none⟩ = some (.bool ub)) ∧ Below W.heap.size W w') := fun w' hB => ⟨⟨cell_on hB a9, cell_on hB a8, cell_on hB a3, cell_on hB y0, cell_on hB u0, cell_on hB u1⟩, hB⟩
  go_region_held3 (fun w' => (w'.cell? ⟨g9, 0, none⟩ = some (.slice (some ad) M cu) ∧ w'.cell? ⟨g8, 0, none⟩ = some (.slice (some ⟨gb, 0, none⟩) N N) ∧ w'.cell? ⟨g3, 0, none⟩ = some (.slice A l.length c) ∧ w'.cell? ⟨gb, b, none⟩ = some (.int .i64 k) ∧ w'.cell? (ad.add (k * 2)) = some (.int .i64 uk) ∧ w'.cell? ⟨(ad.add (k * 2)).block, (ad.add (k * 2)).off + 1, none⟩ = some (.bool ub)) ∧ Below W.heap.size W w') (first | exact hS _ (Below.refl _ _).drew | assumption | (have hh := ‹(_ ∧ _ ∧ _ ∧ _ ∧ _ ∧ _) ∧ Below W.heap.size W _›; exact hS _ (hh.2.trans (hB.mono hh.2.size))))
    (first | (go_at_call 32; with_reducible refine (c4 _ (by have hh := ‹(_ ∧ _ ∧ _ ∧ _ ∧ _ ∧ _) ∧ Below W.heap.size W _›; exact Kd.C_below HC.out hh.2)).mono ?_; rintro e w' ⟨rfl, hB⟩))
  all_goals
    rename_i hHeld
    go_wp2
    go_ret
    exact ⟨rfl, hHeld.2⟩
end Go.Proofs.Ytjgnadighdbjlaa.C
