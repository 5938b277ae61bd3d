import Derived.Test.YtcaekmalkbaldaaM6
import Derived.Test.YtcaekmalkbaldaaM12
import Derived.Test.YtcaekmalkbaldaaBe
namespace Go.Proofs.Ytcaekmalkbaldaa.M
open Go.RowKit Go.Proofs.YtcaekmalkbaldaaW.PrintWords Go.Proofs.YtcaekmalkbaldaaW.PrintLast Go.Proofs.YtcaekmalkbaldaaW.PrintMore
set_option linter.unusedVariables false
set_option linter.unusedSimpArgs false
section
open Go.Shelf
attribute [local go_sem] Oper.semAt_some
/-- What the escape of a state is, as 'Force' sees it. -/
def escF (L R : Int) (ch : List Int) (x : S59) : Int := if isB L R x.f0 x.f1 = true then (if rd ch ((x.f0 + L) * (2 * R + 1) + x.f1 + R) < 1000 then 2000 else wrap64 (rd ch ((x.f0 + L) * (2 * R + 1) + x.f1 + R) - 1000)) else 0
/-- The states that follow. -/
def afterL (N e q : Int) : List S59 := (List.range (2 * N + 1).toNat).map fun k : Nat => (⟨e + q + (-N + k), q⟩ : S59)

set_option maxRecDepth 100000 in
set_option maxHeartbeats 8000000 in
theorem esc_calls (L R S N x y : Int) (Bp Bc : Nat) (A : Option Addr) (cap : Nat) (ch : List Int) (w : World) (hL0 : 1 ≤ L) (hL : L ≤ 40) (hR0 : 0 ≤ R) (hR : R ≤ 12) (hx0 : -1000 ≤ x) (hx : x ≤ 1000) (hy0 : -1000 ≤ y) (hy : y ≤ 1000)
    (hp : w.heap[Bp]? = some (.cells #[.int .i64 L, .int .i64 R, .int .i64 S, .int .i64 N] 24 (0, 0))) (hc : w.heap[Bc]? = some (.cells #[.slice A ch.length cap] 30 (0, 0)))
    (hC : Kd.C (Kd.int .i64) w A ch.length ch) (hlen : ch.length = siz L R) :
    Calls Try.prog 52 #[.agg #[.int .i64 x, .int .i64 y], .pointer (some ⟨Bp, 0, none⟩), .pointer (some ⟨Bc, 0, none⟩)] w fun e w' => e = .returned (.int .i64 (escF L R ch ⟨x, y⟩)) ∧ Below w.heap.size w w' := by
  have lp := (Array.getElem?_eq_some_iff.1 hp).1
  have lc := (Array.getElem?_eq_some_iff.1 hc).1
  obtain ⟨w1, hw1⟩ : ∃ w1, w.alloc (.cells #[.int .i64 x, .int .i64 y] 59) = w1 := ⟨_, rfl⟩
  have hv : Below w.heap.size w w1 := by rw [← hw1]; exact (Below.refl w.heap.size w).alloc (Nat.le_refl _) _
  have hsz : w1.heap.size = w.heap.size + 1 := by rw [← hw1]; simp
  have kp := (hv.block _ lp).trans hp
  have kc := (hv.block _ lc).trans hc
  have kx : w1.heap[w.heap.size]? = some (.cells #[.int .i64 x, .int .i64 y] 59 (0, 0)) := by rw [← hw1]; exact World.alloc_heap_new _ _
  have hC1 := Kd.C_below hC hv
  clear hp hc hC
  have his := fun W => is_calls L R S N x y (by omega) (by omega) (by omega) (by omega) W
  have p0 : w1.cell? ⟨Bp, 0, none⟩ = some (.int .i64 L) := blk_cell kp 0
  have p1 : w1.cell? ⟨Bp, 1, none⟩ = some (.int .i64 R) := blk_cell kp 1
  have p2 : w1.cell? ⟨Bp, 2, none⟩ = some (.int .i64 S) := blk_cell kp 2
  have p3 : w1.cell? ⟨Bp, 3, none⟩ = some (.int .i64 N) := blk_cell kp 3
  have x0 : w1.cell? ⟨w.heap.size, 0, none⟩ = some (.int .i64 x) := blk_cell kx 0
  have x1 : w1.cell? ⟨w.heap.size, 1, none⟩ = some (.int .i64 y) := blk_cell kx 1
  cases hI : isB L R x y with
  | false =>
    have HE : escF L R ch ⟨x, y⟩ = 0 := by unfold escF; rw [if_neg (by simp [hI])]
    rw [HE, ]
    simp only [hI] at his
    clear HE hI hC1 kc
    go_enter Try.func52, Try.ntmps52
    go_wp2_with fail
    refine (his _).mono ?_
    rintro en w2 ⟨rfl, hB⟩
    go_wp2
    go_ret
    exact ⟨rfl, hv.trans (hB.mono (by omega))⟩
  | true =>
    have hbd : -L ≤ x ∧ x ≤ L ∧ -R ≤ y ∧ y ≤ R := by simpa only [isB, Bool.and_eq_true, decide_eq_true_eq, and_assoc] using hI
    obtain ⟨k, hk, hki⟩ := idx_lt hL0 hR0 hI
    have HE : escF L R ch ⟨x, y⟩ = if rd ch (k : Int) < 1000 then 2000 else wrap64 (rd ch (k : Int) - 1000) := by unfold escF; rw [if_pos (by simpa using hI), hki]
    rw [HE]
    have hi39 := fun W => index_calls L R S N x y k (by omega) hL hR0 hR hx0 hx hy0 hy hki W
    obtain ⟨ad, rfl, hcv⟩ := C_int hC1 k (by omega)
    have hkr : ch[k]'(by omega) = rd ch (k : Int) := by simp [rd, List.getD_eq_getElem?_getD, List.getElem?_eq_getElem (show k < ch.length by omega)]
    rw [hkr] at hcv
    simp only [hI] at his
    have c0 : w1.cell? ⟨Bc, 0, none⟩ = some (.slice (some ad) ch.length cap) := blk_cell kc 0
    have hkl : k < ch.length := by omega
    have hsl : siz L R ≤ 2025 := siz_le L R hL hR
    have hlen9 : ch.length ≤ 9223372036854775807 := by omega
    clear HE hI hkr hC1 hbd hki
    generalize rd ch (k : Int) = v at *
    obtain ⟨rv, hrv⟩ : ∃ rv, (if v < 1000 then (2000 : Int) else wrap64 (v - 1000)) = rv := ⟨_, rfl⟩
    rw [hrv]
    have HRV := Aside0.mk hrv
    clear hrv
    go_enter Try.func52, Try.ntmps52
    go_wp2_with fail
    refine (his _).mono ?_
    rintro en w2 ⟨rfl, hB2⟩
    go_wp2_with fail
    have hS : ∀ w', Below w2.heap.size w2 w' → ((w'.cell? ⟨Bp, 0, none⟩ = some (.int .i64 L) ∧ w'.cell? ⟨Bp, 1, none⟩ = some (.int .i64 R) ∧ w'.cell? ⟨Bp, 2, none⟩ = some (.int .i64 S) ∧ w'.cell? ⟨Bp, 3, none⟩ = some (.int .i64 N) ∧ w'.cell? ⟨w.heap.size, 0, none⟩ = some (.int .i64 x) ∧ w'.cell? ⟨w.heap.size, 1, none⟩ = some (.int .i64 y) ∧ w'.cell? ⟨Bc, 0, none⟩ = some (.slice (some ad) ch.length cap) ∧ w'.cell? (ad.add k) = some (.int .i64 v)) ∧ Below w2.heap.size w2 w') := fun w' hB =>
      have h0 : Below w1.heap.size w1 w' := hB2.trans (hB.mono hB2.size)
      ⟨⟨cell_on h0 p0, cell_on h0 p1, cell_on h0 p2, cell_on h0 p3, cell_on h0 x0, cell_on h0 x1, cell_on h0 c0, cell_on h0 hcv⟩, hB⟩
    go_region_held3 (fun w' => (w'.cell? ⟨Bp, 0, none⟩ = some (.int .i64 L) ∧ w'.cell? ⟨Bp, 1, none⟩ = some (.int .i64 R) ∧ w'.cell? ⟨Bp, 2, none⟩ = some (.int .i64 S) ∧ w'.cell? ⟨Bp, 3, none⟩ = some (.int .i64 N) ∧ w'.cell? ⟨w.heap.size, 0, none⟩ = some (.int .i64 x) ∧ w'.cell? ⟨w.heap.size, 1, none⟩ = some (.int .i64 y) ∧ w'.cell? ⟨Bc, 0, none⟩ = some (.slice (some ad) ch.length cap) ∧ w'.cell? (ad.add k) = some (.int .i64 v)) ∧ Below w2.heap.size w2 w') (first | exact hS _ (Below.refl _ _).drew | (have hh := ‹(_ ∧ _ ∧ _ ∧ _ ∧ _ ∧ _ ∧ _ ∧ _) ∧ Below w2.heap.size w2 _›; exact hS _ (hh.2.trans (hB.mono hh.2.size))))
      (first | (go_at_call 39; refine (hi39 _).mono ?_; rintro e w' ⟨rfl, hB⟩))
    rename_i hHeld
    have hT := hHeld.2
    clear hHeld hS
    rename World => w3
    have hB3 : Below w1.heap.size w1 w3 := hB2.trans (hT.mono hB2.size)
    have hV3 : Below w.heap.size w w3 := hv.trans (hB3.mono (by omega))
    clear hT hB2
    replace p0 := cell_on hB3 p0
    replace p1 := cell_on hB3 p1
    replace p2 := cell_on hB3 p2
    replace p3 := cell_on hB3 p3
    replace x0 := cell_on hB3 x0
    replace x1 := cell_on hB3 x1
    replace c0 := cell_on hB3 c0
    replace hcv := cell_on hB3 hcv
    by_cases hlt : v < 1000
    · have hd : decide (v < 1000) = true := by simpa using hlt
      obtain rfl : 2000 = rv := by rw [← HRV.out, if_pos hlt]
      clear hlt HRV
      rw [hd]
      clear hd
      go_wp2
      go_ret
      exact ⟨rfl, hV3⟩
    · have hd : decide (v < 1000) = false := by simpa using hlt
      obtain rfl : wrap64 (v - 1000) = rv := by rw [← HRV.out, if_neg hlt]
      clear hlt HRV
      rw [hd]
      clear hd
      go_wp2_with fail
      have hS : ∀ w', Below w3.heap.size w3 w' → ((w'.cell? ⟨Bp, 0, none⟩ = some (.int .i64 L) ∧ w'.cell? ⟨Bp, 1, none⟩ = some (.int .i64 R) ∧ w'.cell? ⟨Bp, 2, none⟩ = some (.int .i64 S) ∧ w'.cell? ⟨Bp, 3, none⟩ = some (.int .i64 N) ∧ w'.cell? ⟨w.heap.size, 0, none⟩ = some (.int .i64 x) ∧ w'.cell? ⟨w.heap.size, 1, none⟩ = some (.int .i64 y) ∧ w'.cell? ⟨Bc, 0, none⟩ = some (.slice (some ad) ch.length cap) ∧ w'.cell? (ad.add k) = some (.int .i64 v)) ∧ Below w3.heap.size w3 w') := fun w' h0 =>
        ⟨⟨cell_on h0 p0, cell_on h0 p1, cell_on h0 p2, cell_on h0 p3, cell_on h0 x0, cell_on h0 x1, cell_on h0 c0, cell_on h0 hcv⟩, h0⟩
      go_region_held3 (fun w' => (w'.cell? ⟨Bp, 0, none⟩ = some (.int .i64 L) ∧ w'.cell? ⟨Bp, 1, none⟩ = some (.int .i64 R) ∧ w'.cell? ⟨Bp, 2, none⟩ = some (.int .i64 S) ∧ w'.cell? ⟨Bp, 3, none⟩ = some (.int .i64 N) ∧ w'.cell? ⟨w.heap.size, 0, none⟩ = some (.int .i64 x) ∧ w'.cell? ⟨w.heap.size, 1, none⟩ = some (.int .i64 y) ∧ w'.cell? ⟨Bc, 0, none⟩ = some (.slice (some ad) ch.length cap) ∧ w'.cell? (ad.add k) = some (.int .i64 v)) ∧ Below w3.heap.size w3 w') (first | exact hS _ (Below.refl _ _).drew | (have hh := ‹(_ ∧ _ ∧ _ ∧ _ ∧ _ ∧ _ ∧ _ ∧ _) ∧ Below w3.heap.size w3 _›; exact hS _ (hh.2.trans (hB.mono hh.2.size))))
        (first | (go_at_call 39; refine (hi39 _).mono ?_; rintro e w' ⟨rfl, hB⟩))
      rename_i hHeld
      have hT := hHeld.2
      clear hHeld hS
      go_wp2
      go_ret
      exact ⟨by show Ending.returned (Value.int IntKind.i64 (IntKind.i64.wrap (v - 1000))) = _; simp only [IntKind.wrap_i64, wrap64], hV3.trans (hT.mono hV3.size)⟩
end
end Go.Proofs.Ytcaekmalkbaldaa.M
