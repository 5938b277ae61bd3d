/- Rows out of blocks; plain, phaseIs. -/
import Derived.OwnWalk
import Derived.BigRegion
import Derived.Maps.AppendAt
import Derived.Deep.RegionHeld3
import Derived.Test.YtlfnnalepdjagaaDoorAu
namespace Go.Proofs.YtlfnnalepdjagaaDoor.C
open Go.RowKit Go.Shelf Go.Maps Go.Proofs.YtlfnnalepdjagaaDoorW.PrintWords Go.Proofs.YtlfnnalepdjagaaDoorW.PrintLast Go.Proofs.YtlfnnalepdjagaaDoorW.PrintMore
set_option linter.unusedVariables false
set_option linter.unusedSimpArgs false
theorem row_own {W : World} {g e size : Nat} {xs : List Value} {n : Nat} (h : W.heap[g]? = some (.cells xs.toArray e (0, 0))) (hl : xs.length = n * size) (hn : n ≤ maxLen) : W.ownsRow 0 e size (.slice (some ⟨g, 0, none⟩) n n) n xs :=
  ⟨hl, .inr ⟨g, n, xs.toArray, rfl, Nat.zero_le _, h, Nat.le_refl _, hn, by simpa using hl, by rw [List.toList_toArray, ← hl, List.take_length]⟩⟩
/-- The cells of a row whose elements' cells are given. -/
def pcells {α : Type} : List (α × List Value) → List Value
  | [] => []
  | x :: l => x.2 ++ pcells l
theorem pcells_len {α : Type} (s : Nat) : ∀ (l : List (α × List Value)), (∀ x ∈ l, x.2.length = s) → (pcells l).length = l.length * s
  | [], _ => by simp [pcells]
  | x :: l, h => by
    rw [pcells, List.length_append, h x List.mem_cons_self, pcells_len s l (fun y hy => h y (List.mem_cons_of_mem _ hy)), List.length_cons, Nat.add_mul]; omega
theorem pcells_at {α : Type} (s : Nat) : ∀ (l : List (α × List Value)) (j : Nat) (x : α × List Value), (∀ x ∈ l, x.2.length = s) → l[j]? = some x → ((pcells l).drop (j * s)).take s = x.2
  | [], j, x, _, h => by simp at h
  | y :: l, 0, x, hl, h => by
    simp at h; subst h
    have := hl y List.mem_cons_self
    simp [pcells, ← this]
  | y :: l, j + 1, x, hl, h => by
    have e := pcells_at s l j x (fun z hz => hl z (List.mem_cons_of_mem _ hz)) (by simpa using h)
    have hy := hl y List.mem_cons_self
    have e2 : (pcells (y :: l)).drop ((j + 1) * s) = (pcells l).drop (j * s) := by
      rw [show (j + 1) * s = s + j * s by rw [Nat.add_mul]; omega, pcells, List.drop_append, List.drop_eq_nil_of_le (by omega), List.nil_append, hy, Nat.add_sub_cancel_left]
    rw [e2]
    exact e
theorem blk_C {α : Type} (d : Kd α) {W : World} {g e : Nat} (l : List (α × List Value)) (h : W.heap[g]? = some (.cells (pcells l).toArray e (0, 0))) (hl : ∀ x ∈ l, x.2.length = d.sz) (hK : ∀ x ∈ l, d.K W x.1 x.2) (hn : l.length ≤ 1000) :
    Kd.C d W (some ⟨g, 0, none⟩) l.length (l.map (·.1)) := by
  have ho := row_own (size := d.sz) (n := l.length) h (pcells_len _ l hl) (by unfold maxLen; omega)
  have hR : OwnRow (d.K W) e d.sz W 0 (.slice (some ⟨g, 0, none⟩) l.length l.length) (l.map (·.1)) := ⟨pcells l, by rw [List.length_map]; exact ho, by rw [List.length_map]; exact pcells_len _ l hl, fun j x hx => by
    rw [List.getElem?_map] at hx
    obtain ⟨y, hy, rfl⟩ := Option.map_eq_some_iff.1 hx
    rw [pcells_at d.sz l j y hl hy]
    exact hK y (List.mem_of_getElem? hy)⟩
  obtain ⟨A, c, e', _, hC⟩ := hR.reads
  rw [List.length_map] at e' hC
  cases e'
  exact hC
theorem C_nil {α : Type} (d : Kd α) (W : World) : Kd.C d W none 0 [] := by
  obtain ⟨A, c, e', _, hC⟩ := (OwnRow.none_ (d.K W) 0 d.sz W 0).reads
  cases e'
  exact hC
/-- A clock's cells. -/
theorem ck_K {e : Nat} {W : World} (x : Ck) (Ae : Option Addr) (ce : Nat) (hl : x.es.length ≤ ce) (h : Kd.C k3 W Ae x.es.length x.es) : (kck e).K W x [.int .i64 x.kd, .int .i64 x.ph, .int .i64 x.rt, .int .i64 x.dr, .int .i64 x.wh, .int .i64 x.wk, .int .i64 x.ht, .int .i64 x.ch, .slice Ae x.es.length ce] :=
  ⟨[.int .i64 x.kd], _, rfl, rfl, [.int .i64 x.ph], _, rfl, rfl, [.int .i64 x.rt], _, rfl, rfl, [.int .i64 x.dr], _, rfl, rfl, [.int .i64 x.wh], _, rfl, rfl, [.int .i64 x.wk], _, rfl, rfl, [.int .i64 x.ht], _, rfl, rfl, [.int .i64 x.ch], [.slice Ae x.es.length ce], rfl, rfl, Ae, ce, rfl, hl, h⟩
theorem info32 : (Tryd.prog.info? 32).map (·.size) = some 3 := by kernel_rfl
set_option maxHeartbeats 4000000 in
set_option maxRecDepth 100000 in
theorem plain_calls (x : Ck) (Ae : Option Addr) (ce : Nat) (hl : x.es.length ≤ ce) (w : World) (hC : Kd.C k3 w Ae x.es.length x.es) :
    Calls Tryd.prog 45 #[ckV x Ae ce] w fun e w' => ∃ Ah Ak, e = .returned (woV 0 Ah 1 1 Ak 1 1) ∧ WAt 51 w' Ah Ak [(20000, 1000, 10)] [{ x with kd := 1 }] ∧ Below w.heap.size w w' := by
  obtain ⟨kd, ph, rt, dr, wh, wk, ht, ch, es⟩ := x
  simp only at hl hC
  obtain ⟨n, hn⟩ : ∃ n, es.length = n := ⟨_, rfl⟩
  have HC := Aside0.mk hC
  clear hC
  unfold ckV
  simp only
  rw [hn]
  have HN := Aside0.mk hn
  have HL := Aside0.mk hl
  clear hn hl
  go_enter Tryd.func45, Tryd.ntmps45
  go_wp2
  obtain ⟨W0, hW0⟩ : ∃ W0, (((w.alloc (.cells #[.int .i64 1, .int .i64 ph, .int .i64 rt, .int .i64 dr, .int .i64 wh, .int .i64 wk, .int .i64 ht, .int .i64 ch, .slice Ae n ce] 48)).alloc (.cells #[.int .u64 0, .slice (some ⟨w.heap.size + 1 + 1, 0, none⟩) 1 1, .slice (some ⟨w.heap.size + 1 + 1 + 1, 0, none⟩) 1 1] 32)).alloc (.cells #[.int .i64 20000, .int .i64 1000, .int .i64 10] 53)).alloc (.cells #[.int .i64 1, .int .i64 ph, .int .i64 rt, .int .i64 dr, .int .i64 wh, .int .i64 wk, .int .i64 ht, .int .i64 ch, .slice Ae n ce] 48) = W0 := ⟨_, rfl⟩
  rw [hW0]
  have k1 : W0.heap[w.heap.size + 1]? = some (.cells #[.int .u64 0, .slice (some ⟨w.heap.size + 1 + 1, 0, none⟩) 1 1, .slice (some ⟨w.heap.size + 1 + 1 + 1, 0, none⟩) 1 1] 32 (0, 0)) := by rw [← hW0]; exact al_old (al_old (al_new _ _ _ (by simp)))
  have k2 : W0.heap[w.heap.size + 1 + 1]? = some (.cells #[.int .i64 20000, .int .i64 1000, .int .i64 10] 53 (0, 0)) := by rw [← hW0]; exact al_old (al_new _ _ _ (by simp))
  have k4 : W0.heap[w.heap.size + 1 + 1 + 1]? = some (.cells #[.int .i64 1, .int .i64 ph, .int .i64 rt, .int .i64 dr, .int .i64 wh, .int .i64 wk, .int .i64 ht, .int .i64 ch, .slice Ae n ce] 48 (0, 0)) := by rw [← hW0]; exact al_new _ _ _ (by simp)
  have hB : Below w.heap.size w W0 := by rw [← hW0]; exact ((((Below.refl _ _).alloc (Nat.le_refl _) _).alloc (by simp) _).alloc (by simp; omega) _).alloc (by simp; omega) _
  clear hW0
  refine bodyPost_ret (results_cell_row rfl _ _ (w.heap.size + 1) 32 _ (0, 0) _ rfl k1 Tryd.underlying32 rfl info32) rfl ⟨_, _, rfl, ⟨?_, ?_⟩, hB⟩
  · exact blk_C k3 [((20000, 1000, 10), [.int .i64 20000, .int .i64 1000, .int .i64 10])] k2 (by simp; rfl) (fun y hy => by simp at hy; subst hy; exact k3_mk _ (20000, 1000, 10)) (by simp)
  · have hN := HN.out
    subst hN
    exact blk_C (kck 51) [(⟨1, ph, rt, dr, wh, wk, ht, ch, es⟩, [.int .i64 1, .int .i64 ph, .int .i64 rt, .int .i64 dr, .int .i64 wh, .int .i64 wk, .int .i64 ht, .int .i64 ch, .slice Ae es.length ce])] k4 (by simp; rfl) (fun y hy => by simp at hy; subst hy; exact ck_K ⟨1, ph, rt, dr, wh, wk, ht, ch, es⟩ Ae ce HL.out (Kd.C_below HC.out hB)) (by simp)
end Go.Proofs.YtlfnnalepdjagaaDoor.C
