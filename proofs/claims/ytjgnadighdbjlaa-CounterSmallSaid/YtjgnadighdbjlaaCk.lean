/- Spans in memory, and what resolve finds, by hand. -/
import Derived.OwnWalk
import Derived.RangeFuncBox
import Derived.RangeFuncLeaves
import Derived.RangeFuncNested
import Derived.RangeFuncBound
import Derived.RangeFuncCalls
import Derived.Shelf.Abstract
import Derived.Shelf.AbstractIn
import Derived.WalkKit
import Derived.OwnWalkIn
import Derived.TacticsInMore
import Derived.LoopNIn
import Derived.LoopIn
import Derived.Maps.AppendAt
import Derived.Maps.OwnIn
import Derived.Laws.AppendOwn
import Derived.Lib.SliceRun
import Derived.Deep.RegionHeld3
import Derived.Test.YtjgnadighdbjlaaCj
namespace Go.Proofs.Ytjgnadighdbjlaa.C
open Go.RowKit Go.Shelf Go.Maps Go.Proofs.YtjgnadighdbjlaaW.PrintWords Go.Proofs.YtjgnadighdbjlaaW.PrintLast Go.Proofs.YtjgnadighdbjlaaW.PrintMore
set_option linter.unusedVariables false
set_option linter.unusedSimpArgs false
def kl : Kd (Int × Int) := Kd.pair (Kd.int .i64) (Kd.int .i64)
theorem kl_open {w : World} {x : Int × Int} {cs : List Value} (h : kl.K w x cs) : cs = [.int .i64 x.1, .int .i64 x.2] := by
  obtain ⟨c1, c2, rfl, h1, h2⟩ := h
  rw [show c1 = [.int .i64 x.1] from h1, show c2 = [.int .i64 x.2] from h2]
  rfl
theorem C_leap {w : World} {A : Option Addr} {n : Nat} {l : List (Int × Int)} (h : Kd.C kl w A n l) (k : Nat) (hk : k < l.length) (hn : k < n) :
    ∃ ad, A = some ad ∧ w.cell? (ad.add (k * 2)) = some (.int .i64 l[k].1) ∧ w.cell? ⟨(ad.add (k * 2)).block, (ad.add (k * 2)).off + 1, none⟩ = some (.int .i64 l[k].2) := by
  obtain ⟨ad, c, e, hs, hr, hc⟩ := ReadsRow.get_ h (0, 0) k (by omega) (by omega)
  have hx : l.getD (Int.toNat (k : Int)) (0, 0) = l[k] := by simp [List.getD_eq_getElem?_getD, hk]
  rw [hx] at hr
  obtain rfl := kl_open hr
  have e1 : ad.add (k * 2 + 1) = ⟨(ad.add (k * 2)).block, (ad.add (k * 2)).off + 1, none⟩ := by
    unfold Addr.add
    rw [if_neg (show ¬ k * 2 + 1 = 0 by omega)]
    split
    · rename_i h0; simp [h0]
    · simp [Nat.add_assoc]
  have c0 := hc 0 _ rfl
  have c1 := hc 1 _ rfl
  rw [show kl.sz = 2 from rfl, show Int.toNat (k : Int) = k by simp] at c0 c1
  exact ⟨ad, e, c0, by rw [← e1]; exact c1⟩
/-- A table, as a value. -/
abbrev tabV (b : Int) (A : Option Addr) (n c : Nat) (u : Int) : Value := .agg #[.int .i64 b, .slice A n c, .int .i64 u]
/-- The cells of a row of spans. -/
def lcells : List (Int × Int) → List Value
  | [] => []
  | x :: l => .int .i64 x.1 :: .int .i64 x.2 :: lcells l
theorem lcells_append : ∀ (l m : List (Int × Int)), lcells (l ++ m) = lcells l ++ lcells m
  | [], m => rfl
  | x :: l, m => by simp [lcells, lcells_append l m]
theorem lcells_len : ∀ (l : List (Int × Int)), (lcells l).length = l.length * 2
  | [] => rfl
  | x :: l => by simp [lcells, lcells_len l]; omega
theorem lcells_at : ∀ (l : List (Int × Int)) (j : Nat) (x : Int × Int), l[j]? = some x → ((lcells l).drop (j * 2)).take 2 = [.int .i64 x.1, .int .i64 x.2]
  | [], j, x, h => by simp at h
  | y :: l, 0, x, h => by simp at h; subst h; simp [lcells]
  | y :: l, j + 1, x, h => by
    have := lcells_at l j x (by simpa using h)
    rw [show (j + 1) * 2 = j * 2 + 2 by omega, lcells]
    simpa using this
theorem lcells_one : ∀ (l : List (Int × Int)), ∀ u ∈ lcells l, u.oneCell' = true
  | [], u, h => by cases h
  | x :: l, u, h => by
    simp only [lcells, List.mem_cons] at h
    rcases h with rfl | rfl | h
    · rfl
    · rfl
    · exact lcells_one l u h
theorem lcells_get : ∀ (l : List (Int × Int)) (j : Nat) (h : j < l.length), (lcells l)[j * 2]? = some (.int .i64 l[j].1) ∧ (lcells l)[j * 2 + 1]? = some (.int .i64 l[j].2)
  | [], j, h => by simp at h
  | y :: l, 0, h => by simp [lcells]
  | y :: l, j + 1, h => by
    have := lcells_get l j (by simpa using h)
    rw [show (j + 1) * 2 = j * 2 + 1 + 1 by omega, show j * 2 + 1 + 1 + 1 = (j * 2 + 1) + 1 + 1 by omega, lcells]
    simpa using this
theorem own_leaps {e : TypeId} {w : World} {base : Nat} {v : Value} {l : List (Int × Int)} (h : w.ownsRow base e 2 v l.length (lcells l)) : ∃ A c, v = .slice A l.length c ∧ Kd.C kl w A l.length l := by
  have hR : Kd.R kl e w base (fun _ => True) v l := ⟨fun _ _ => trivial, _, h, lcells_len l, fun j x hx => by
    rw [show kl.sz = 2 from rfl, lcells_at l j x hx]
    exact ⟨[.int .i64 x.1], [.int .i64 x.2], rfl, rfl, rfl⟩⟩
  obtain ⟨A, c, e, _, hC⟩ := Kd.R_reads hR
  exact ⟨A, c, e, hC⟩
theorem cells_kept {X Y : World} {row : Option Nat} {k : Nat} {cs : Array Value} {t : TypeId} {fr : Nat × Nat} (hg : X.grownBy Y row) (hr : ∀ r, row = some r → ∃ o : Obj, X.heap[r]? = some o ∧ o.isCells = false) (h : X.heap[k]? = some (.cells cs t fr)) : Y.heap[k]? = some (.cells cs t fr) :=
  (hg.block k (Array.getElem?_eq_some_iff.1 h).1 (fun e => by obtain ⟨o, h1, h2⟩ := hr k e.symm; rw [h] at h1; cases h1; cases h2)).trans h
theorem keeps_of_below {W W' : World} (h : Below W.heap.size W W') : KeepsOthers W W' := ⟨h.size, fun k _ hk _ => (h.block k (Array.getElem?_eq_some_iff.1 hk).1).trans hk⟩
/-- What stands in blocks of cells abides what a range's book-keeping does. -/
theorem blk_own {β : Type} (B : Nat) (g : β → Nat) (c : β → Array Value) (t : TypeId) (fr : Nat × Nat) : OwnFrom B (fun s W => W.heap[g s]? = some (.cells (c s) t fr)) :=
  fun _ _ _ _ h hg hr => (grownBy_keeps_cells hg (fun r e => (hr r e).2) h rfl).trans h
theorem info43n : (Try.prog.info? 43).map (fun i => (i.zero, i.size, i.bytes)) = some (some (.agg #[.int .i64 0, .int .i64 0]), 2, 16) := by kernel_rfl
theorem own_row43 {w : World} {base : Nat} {v : Value} {n : Nat} {xs : List Value} (h : w.ownsRow base 43 2 v n xs) (k : Nat) (hk : v.ownBlock = some k) : base ≤ k ∧ ∃ cs, w.heap[k]? = some (Obj.cells cs 43 (0, 0)) := by
  obtain ⟨_, h2⟩ := h
  rcases h2 with ⟨rfl, _⟩ | ⟨g, cap, cur, rfl, a1, a2, _⟩
  · cases hk
  · cases hk; exact ⟨a1, _, a2⟩
/-- What resolve has found, in memory: n is where the call's own blocks begin. -/
structure RsI (w W : World) (vo : Value) (pre : List (Int × Int)) : Prop where
  bel : Below w.heap.size w W
  k6 : W.heap[w.heap.size + 2]? = some (.cells #[.int .i64 0, .int .i64 0] 43 (0, 0))
  k7 : W.heap[w.heap.size + 3]? = some (.cells #[.int .i64 0] 28 (0, 0))
  k8 : W.heap[w.heap.size + 4]? = some (.cells #[vo] 108 (0, 0))
  own : W.ownsRow (w.heap.size + 8) 43 2 vo pre.length (lcells pre)
  sz : w.heap.size + 8 ≤ W.heap.size
theorem RsI.alloc {w W : World} {vo : Value} {pre : List (Int × Int)} (h : RsI w W vo pre) (ob : Obj) : RsI w (W.alloc ob) vo pre :=
  ⟨h.bel.alloc h.bel.size _, al_old h.k6, al_old h.k7, al_old h.k8, own_move h.own (fun k hk => Below.heap_alloc _ _ k (own_lt h.own k hk)), by have := h.sz; simp; omega⟩
theorem RsI.from (w : World) : OwnFrom (w.heap.size + 8) (fun pre W => ∃ vo, RsI w W vo pre ∧ pre.length ≤ 1) := by
  rintro s X Y row ⟨vo, h, hl⟩ hg hr
  refine ⟨vo, ⟨h.bel.grown hg h.bel.size (fun k e => by have := (hr k e).1; omega), cells_kept hg (fun r e => (hr r e).2) h.k6, cells_kept hg (fun r e => (hr r e).2) h.k7, cells_kept hg (fun r e => (hr r e).2) h.k8, own_move h.own (fun k hk => ?_), by have := h.sz; have := hg.size; omega⟩, hl⟩
  obtain ⟨_, cs, hcs⟩ := own_row43 h.own k hk
  rw [cells_kept hg (fun r e => (hr r e).2) hcs, hcs]
theorem rs_append {w X Y : World} {vo v2 : Value} {pre : List (Int × Int)} {x : Int × Int} {ob : Obj} (h : RsI w X vo pre)
    (hown : Y.ownsRow (w.heap.size + 8) 43 2 v2 (pre.length + 1) (lcells pre ++ [.int .i64 x.1, .int .i64 x.2])) (hg : (X.alloc ob).grownBy Y vo.ownBlock) :
    Y.cell? ⟨w.heap.size + 4, 0, none⟩ = some vo ∧ Y.frozen? ⟨w.heap.size + 4, 0, none⟩ = false ∧ (∃ Av cv, v2 = .slice Av (pre.length + 1) cv) ∧
    RsI w (Y.setCell ⟨w.heap.size + 4, 0, none⟩ v2) v2 (pre ++ [x]) ∧
    (∀ (k : Nat) (obj : Obj), X.heap[k]? = some obj → obj.isCells = false → (Y.setCell ⟨w.heap.size + 4, 0, none⟩ v2).heap[k]? = some obj) ∧
    X.heap.size ≤ (Y.setCell ⟨w.heap.size + 4, 0, none⟩ v2).heap.size ∧
    (∀ k, k < w.heap.size + 8 → k ≠ w.heap.size + 4 → (Y.setCell ⟨w.heap.size + 4, 0, none⟩ v2).heap[k]? = X.heap[k]?) ∧ (∀ k, k < w.heap.size + 8 → Y.heap[k]? = X.heap[k]?) := by
  have hA := h.alloc ob
  have hsz := h.sz
  have hY : ∀ k, k < w.heap.size + 8 → Y.heap[k]? = X.heap[k]? := fun k hk =>
    (hg.block k (by simp; omega) (fun e => by have := (own_row43 h.own k e.symm).1; omega)).trans (Below.heap_alloc _ _ _ (by omega))
  have hb : Below w.heap.size w Y := hA.bel.grown hg hA.bel.size (fun k e => by have := (own_row43 h.own k e).1; omega)
  have k8 := (hY (w.heap.size + 4) (by omega)).trans h.k8
  have e1 : lcells (pre ++ [x]) = lcells pre ++ [.int .i64 x.1, .int .i64 x.2] := by rw [lcells_append]; rfl
  have hown2 : Y.ownsRow (w.heap.size + 8) 43 2 v2 (pre ++ [x]).length (lcells (pre ++ [x])) := by rw [e1, List.length_append]; exact hown
  obtain ⟨Av, cv, hv, _⟩ := own_leaps hown2
  have hZ : ∀ k, k < w.heap.size + 8 → k ≠ w.heap.size + 4 → (Y.setCell ⟨w.heap.size + 4, 0, none⟩ v2).heap[k]? = X.heap[k]? := fun k hk hne => (Below.heap_setCell _ _ _ _ hne).trans (hY k hk)
  have hYs := hg.size
  simp at hYs
  refine ⟨blk_cell k8 0, blk_frozen k8 0, ⟨Av, cv, by rw [hv]; simp⟩, ⟨hb.setCell (by simp) _, (hZ _ (by omega) (by omega)).trans h.k6, (hZ _ (by omega) (by omega)).trans h.k7, blk_put k8 0 _ rfl, own_move hown2 (fun k hk => ?_), by simp [World.setCell]; omega⟩, fun k obj hk hc => ?_, by simp [World.setCell]; omega, hZ, hY⟩
  · have := own_base hown2 k hk
    rw [Below.heap_setCell _ _ _ k (by simp; omega)]
  · rw [Below.heap_setCell _ _ _ k (fun e => by simp at e; subst e; rw [h.k8] at hk; cases hk; cases hc)]
    have hlt := (Array.getElem?_eq_some_iff.1 hk).1
    refine (hg.block k (by simp; omega) (fun e => ?_)).trans ((Below.heap_alloc _ _ _ hlt).trans hk)
    obtain ⟨_, cs, hcs⟩ := own_row43 h.own k e.symm
    rw [hcs] at hk; cases hk; cases hc
/-- What resolve answers. -/
def resV (L : List (Int × Int)) : Value := match L with
  | [] => .tuple #[.agg #[.int .i64 0, .int .i64 0], .int .i64 12]
  | [x] => .tuple #[.agg #[.int .i64 x.1, .int .i64 x.2], .int .i64 0]
  | _ :: _ :: _ => .tuple #[.agg #[.int .i64 0, .int .i64 0], .int .i64 8]
theorem res_span {fn : Func} {p q : Tmp} (h : fn.results = #[.cell p 43, .cell q 28]) (tmps : Array Value) (w : World) (g g2 : Nat) (a b e : Int)
    (hp : tmps.getD p undef = .pointer (some ⟨g, 0, none⟩)) (hq : tmps.getD q undef = .pointer (some ⟨g2, 0, none⟩)) (h0 : w.cell? ⟨g, 0, none⟩ = some (.int .i64 a)) (h1 : w.cell? ⟨g, 1, none⟩ = some (.int .i64 b)) (h2 : w.cell? ⟨g2, 0, none⟩ = some (.int .i64 e)) :
    (results fn tmps).run Try.prog w = .ok (.tuple #[.agg #[.int .i64 a, .int .i64 b], .int .i64 e]) w := by
  have hp' : tmps[p]?.getD undef = .pointer (some ⟨g, 0, none⟩) := by simpa using hp
  have hq' : tmps[q]?.getD undef = .pointer (some ⟨g2, 0, none⟩) := by simpa using hq
  have l1 : (loadVar 43 ⟨g, 0, none⟩).run Try.prog w = .ok (.agg #[.int .i64 a, .int .i64 b]) w := by go_simp
  have l2 : (loadVar 28 ⟨g2, 0, none⟩).run Try.prog w = .ok (.int .i64 e) w := by go_simp
  simp [results, h, hp', hq', asAddr, l1, l2]
end Go.Proofs.Ytjgnadighdbjlaa.C
