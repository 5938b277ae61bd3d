/- Rows that Own makes: what lies in memory, by hand. -/
import Derived.OwnWalk
import Derived.BigRegion
import Derived.Maps.AppendAt
import Derived.Laws.AppendOwn
import Derived.Deep.RegionHeld3
import Derived.Test.YtlfnnalepdjagaaDoorAv
import Derived.Test.YtlfnnalepdjagaaDoorBc
namespace Go.Proofs.YtlfnnalepdjagaaDoor.C
open Go.RowKit Go.Shelf Go.Maps Go.Proofs.YtlfnnalepdjagaaDoorW.PrintWords Go.Proofs.YtlfnnalepdjagaaDoorW.PrintLast Go.Proofs.YtlfnnalepdjagaaDoorW.PrintMore
set_option linter.unusedVariables false
set_option linter.unusedSimpArgs false
def t3c (c : T3) : List Value := [.int .i64 c.1, .int .i64 c.2.1, .int .i64 c.2.2]
def tcells (l : List T3) : List Value := pcells (l.map fun c => (c, t3c c))
def ckc (x : Ck) (v : Value) : List Value := [.int .i64 x.kd, .int .i64 x.ph, .int .i64 x.rt, .int .i64 x.dr, .int .i64 x.wh, .int .i64 x.wk, .int .i64 x.ht, .int .i64 x.ch, v]
def kcells (l : List (Ck × Value)) : List Value := pcells (l.map fun p => (p.1, ckc p.1 p.2))
theorem pcells_append {α : Type} : ∀ (l m : List (α × List Value)), pcells (l ++ m) = pcells l ++ pcells m
  | [], m => rfl
  | x :: l, m => by simp [pcells, pcells_append l m]
theorem tcells_snoc {l : List T3} {i : Nat} (h : i < l.length) : tcells (l.take (i + 1)) = tcells (l.take i) ++ t3c l[i] := by
  unfold tcells
  rw [List.take_add_one, List.getElem?_eq_getElem h, List.map_append, pcells_append]
  simp [pcells]
theorem kcells_snoc (l : List (Ck × Value)) (p : Ck × Value) : kcells (l ++ [p]) = kcells l ++ ckc p.1 p.2 := by
  unfold kcells
  rw [List.map_append, pcells_append]
  simp [pcells]
theorem own_C {α : Type} (d : Kd α) {W : World} {base e : Nat} {v : Value} (l : List (α × List Value)) (h : W.ownsRow base e d.sz v l.length (pcells l)) (hl : ∀ x ∈ l, x.2.length = d.sz) (hK : ∀ x ∈ l, d.K W x.1 x.2) :
    ∃ A c, v = .slice A l.length c ∧ l.length ≤ c ∧ Kd.C d W A l.length (l.map (·.1)) := by
  have hR : OwnRow (d.K W) e d.sz W base v (l.map (·.1)) := ⟨pcells l, by rw [List.length_map]; exact h, by rw [List.length_map]; exact pcells_len _ l hl, fun j x hx => by
    rw [List.getElem?_map] at hx
    obtain ⟨y, hy, rfl⟩ := Option.map_eq_some_iff.1 hx
    rw [pcells_at d.sz l j y hl hy]
    exact hK y (List.mem_of_getElem? hy)⟩
  obtain ⟨A, c, e', _, hC⟩ := hR.reads
  rw [List.length_map] at e' hC
  subst e'
  exact ⟨A, c, rfl, own_le h, hC⟩
theorem own_T {W : World} {base e : Nat} {v : Value} {l : List T3} (h : W.ownsRow base e 3 v l.length (tcells l)) : ∃ A c, v = .slice A l.length c ∧ l.length ≤ c ∧ Kd.C k3 W A l.length l := by
  have h2 := own_C k3 (W := W) (l.map fun c => (c, t3c c)) (by rw [List.length_map]; exact h) (fun x hx => by obtain ⟨c, _, rfl⟩ := List.mem_map.1 hx; rfl) (fun x hx => by obtain ⟨c, _, rfl⟩ := List.mem_map.1 hx; exact k3_mk _ c)
  rw [List.length_map, List.map_map] at h2
  have e2 : ((fun x : T3 × List Value => x.1) ∘ fun c : T3 => (c, t3c c)) = id := rfl
  rw [e2, List.map_id] at h2
  exact h2
/-- append to a row of one's own, as one step of a region that draws its order. -/
theorem step_append_own {P : Program} {ops : Array Oper} {o : Oper} {a : Act} {w : World} {K : Act → World → Prop} {Q : Exit → Act → World → Prop} {E : Prop}
    (hg : o.guard = none) (s x : Operand) (t : TypeId) (hop : o.op = Op.call { callee := Callee.builtin Builtin.append, args := #[s, x], argTypes := #[t, t] })
    (base : Nat) (e : TypeId) (i : TypeInfo) (z : Value) (size bytes : Nat) (h1 : P.underlying t = some (.slice e)) (h2 : P.info? e = some i) (h3 : i.zero = some z) (h4 : i.size = size) (h5 : i.bytes = bytes) (h6 : z.cells.size = size) (h7 : 0 < size)
    (v : Value) (n : Nat) (olds : List Value) (hs : a.eval s = v) (hown : w.ownsRow base e size v n olds)
    (ad : Addr) (m c : Nat) (news : List Value) (hx : a.eval x = .slice (some ad) m c) (hn : news.length = m * size) (hc : ∀ j u, news[j]? = some u → w.cell? (ad.add j) = some u) (h1c : ∀ u ∈ news, u.oneCell' = true)
    (b1 : n + m ≤ maxLen) (b2 : (n + m) * bytes ≤ 140737488355328) (hbase : base ≤ w.heap.size)
    (hK : ∀ v' w', w'.ownsRow base e size v' (n + m) (olds ++ news) → w.grownBy w' v.ownBlock → K (a.put o.dst v') w') :
    if Region.wanted o (yielded ops a.tmps) = true then Oper.wp P o a w K Q else E := by
  have hw : Region.wanted o (yielded ops a.tmps) = true := by simp [Region.wanted, hg]
  rw [if_pos hw]
  obtain ⟨v', w', hrun, r1, r2, _⟩ := run_append_own (P := P) w base t o.type e i z size bytes h1 h2 h3 h4 h5 h6 h7 v n olds hown ad m c news hn hc h1c b1 b2 hbase
  unfold Oper.wp
  simp [execOp, hop, resolve, invoke, builtin, hs, hx, hrun, Result.andThen]
  exact hK v' w' r1 r2
theorem own_form {W : World} {base e size n : Nat} {v : Value} {xs : List Value} (h : W.ownsRow base e size v n xs) : ∃ A c, v = .slice A n c := by
  rcases h.2 with ⟨rfl, rfl⟩ | ⟨g, cap, cur, rfl, _⟩
  · exact ⟨none, 0, rfl⟩
  · exact ⟨_, _, rfl⟩
structure OwA (w wr : World) (seed : Int) (Sh Sk : Value) (chs : List T3) (i : Nat) (v1 : Value) : Prop where
  bel : Below w.heap.size w wr
  box : wr.heap[w.heap.size]? = some (.cells #[.int .u64 seed, Sh, Sk] 26 (0, 0))
  r1 : wr.heap[w.heap.size + 1]? = some (.cells #[.int .u64 0, .slice none 0 0, .slice none 0 0] 32 (0, 0))
  out : wr.heap[w.heap.size + 1 + 1]? = some (.cells #[.int .u64 seed, v1, .slice none 0 0] 32 (0, 0))
  own : wr.ownsRow (w.heap.size + 3) 53 3 v1 i (tcells (chs.take i))
structure OwK (w wr : World) (seed : Int) (Sh Sk : Value) (chs : List T3) (cks : List Ck) (i : Nat) (v1 v2 : Value) (l : List (Ck × Value)) : Prop where
  bel : Below w.heap.size w wr
  box : wr.heap[w.heap.size]? = some (.cells #[.int .u64 seed, Sh, Sk] 26 (0, 0))
  r1 : wr.heap[w.heap.size + 1]? = some (.cells #[.int .u64 0, .slice none 0 0, .slice none 0 0] 32 (0, 0))
  out : wr.heap[w.heap.size + 1 + 1]? = some (.cells #[.int .u64 seed, v1, v2] 32 (0, 0))
  own1 : wr.ownsRow (w.heap.size + 3) 53 3 v1 chs.length (tcells chs)
  own2 : wr.ownsRow (w.heap.size + 3) 48 9 v2 i (kcells l)
  fst : l.map (·.1) = cks.take i
  evs : ∀ p ∈ l, wr.ownsRow (w.heap.size + 3) 51 3 p.2 p.1.es.length (tcells p.1.es)
  ap : ∀ k, v2.ownBlock = some k → v1.ownBlock ≠ some k ∧ ∀ p ∈ l, p.2.ownBlock ≠ some k
structure OwE (wr wi : World) (x : Ck) (Ax : Option Addr) (cx : Nat) (k : Nat) (ve : Value) : Prop where
  bel : Below wr.heap.size wr wi
  xb : wi.heap[wr.heap.size]? = some (.cells #[.int .i64 x.kd, .int .i64 x.ph, .int .i64 x.rt, .int .i64 x.dr, .int .i64 x.wh, .int .i64 x.wk, .int .i64 x.ht, .int .i64 x.ch, .slice Ax x.es.length cx] 88 (0, 0))
  cb : wi.heap[wr.heap.size + 1]? = some (.cells #[.int .i64 x.kd, .int .i64 x.ph, .int .i64 x.rt, .int .i64 x.dr, .int .i64 x.wh, .int .i64 x.wk, .int .i64 x.ht, .int .i64 x.ch, ve] 48 (0, 0))
  own : wi.ownsRow (wr.heap.size + 2) 51 3 ve k (tcells (x.es.take k))
theorem OwA.next {w wr w1 : World} {seed : Int} {Sh Sk : Value} {chs : List T3} {i : Nat} {v1 v' : Value} (HI : OwA w wr seed Sh Sk chs i v1) (o : Obj) (hi : i < chs.length)
    (hown : w1.ownsRow (w.heap.size + 3) 53 3 v' (i + 1) (tcells (chs.take i) ++ t3c chs[i])) (hg : (wr.alloc o).grownBy w1 v1.ownBlock) : OwA w (w1.setCell ⟨w.heap.size + 1 + 1, 1, none⟩ v') seed Sh Sk chs (i + 1) v' := by
  have hob : ∀ k, v1.ownBlock = some k → w.heap.size + 3 ≤ k := fun k hk => own_base HI.own k hk
  have keep : ∀ (k : Nat) (o : Obj), k < w.heap.size + 3 → wr.heap[k]? = some o → w1.heap[k]? = some o := fun k o hk ho => by
    have h1 := (Array.getElem?_eq_some_iff.1 ho).1
    refine (hg.block k (by simp; omega) (fun e => by have := hob k e.symm; omega)).trans ?_
    exact al_old ho
  have hbel1 : Below w.heap.size w w1 := (HI.bel.alloc HI.bel.size _).grown hg (by have := HI.bel.size; simp; omega) (fun k hk => by have := hob k hk; omega)
  rw [← tcells_snoc hi] at hown
  refine ⟨hbel1.setCell (by simp; omega) _, ?_, ?_, ?_, ?_⟩
  · exact blk_far (keep _ _ (by omega) HI.box) (by simp; omega) _
  · exact blk_far (keep _ _ (by omega) HI.r1) (by simp) _
  · exact blk_put (keep _ _ (by omega) HI.out) 1 _ rfl
  · exact own_move hown (fun k hk => Below.heap_setCell _ _ _ k (by have := own_base hown k hk; simp; omega))
theorem OwA.to {w wr : World} {seed : Int} {Sh Sk : Value} {chs : List T3} {cks : List Ck} {v1 : Value} (HI : OwA w wr seed Sh Sk chs chs.length v1) : OwK w wr seed Sh Sk chs cks 0 v1 (.slice none 0 0) [] :=
  ⟨HI.bel, HI.box, HI.r1, HI.out, by have := HI.own; rwa [List.take_length] at this, own_nil _ _ _ _, by simp, (fun p hp => by cases hp), (fun k hk => by simp [Value.ownBlock] at hk)⟩
theorem OwE.first {wr : World} (x : Ck) (Ax : Option Addr) (cx : Nat) : OwE wr ((wr.alloc (.cells #[.int .i64 x.kd, .int .i64 x.ph, .int .i64 x.rt, .int .i64 x.dr, .int .i64 x.wh, .int .i64 x.wk, .int .i64 x.ht, .int .i64 x.ch, .slice Ax x.es.length cx] 88)).alloc (.cells #[.int .i64 x.kd, .int .i64 x.ph, .int .i64 x.rt, .int .i64 x.dr, .int .i64 x.wh, .int .i64 x.wk, .int .i64 x.ht, .int .i64 x.ch, .slice none 0 0] 48)) x Ax cx 0 (.slice none 0 0) :=
  ⟨((Below.refl _ _).alloc (Nat.le_refl _) _).alloc (by simp) _, al_old (al_new _ _ _ rfl), al_new _ _ _ (by simp), own_nil _ _ _ _⟩
theorem OwE.drew {wr wi : World} {x : Ck} {Ax : Option Addr} {cx k : Nat} {ve : Value} (HI : OwE wr wi x Ax cx k ve) : OwE wr wi.drew x Ax cx k ve := ⟨HI.bel.drew, HI.xb, HI.cb, own_move HI.own (fun _ _ => rfl)⟩
theorem OwE.next {wr wi w1 : World} {x : Ck} {Ax : Option Addr} {cx k : Nat} {ve v' : Value} (HI : OwE wr wi x Ax cx k ve) (o : Obj) (hk : k < x.es.length)
    (hown : w1.ownsRow (wr.heap.size + 2) 51 3 v' (k + 1) (tcells (x.es.take k) ++ t3c x.es[k])) (hg : (wi.alloc o).grownBy w1 ve.ownBlock) : OwE wr (w1.setCell ⟨wr.heap.size + 1, 8, none⟩ v') x Ax cx (k + 1) v' := by
  have hob : ∀ k, ve.ownBlock = some k → wr.heap.size + 2 ≤ k := fun k hk => own_base HI.own k hk
  have keep : ∀ (k : Nat) (o : Obj), k < wr.heap.size + 2 → wi.heap[k]? = some o → w1.heap[k]? = some o := fun k o hk ho => by
    have h1 := (Array.getElem?_eq_some_iff.1 ho).1
    refine (hg.block k (by simp; omega) (fun e => by have := hob k e.symm; omega)).trans ?_
    exact al_old ho
  have hbel1 : Below wr.heap.size wr w1 := (HI.bel.alloc HI.bel.size _).grown hg (by have := HI.bel.size; simp; omega) (fun k hk => by have := hob k hk; omega)
  rw [← tcells_snoc hk] at hown
  refine ⟨hbel1.setCell (by simp) _, ?_, ?_, ?_⟩
  · exact blk_far (keep _ _ (by omega) HI.xb) (by simp) _
  · exact blk_put (keep _ _ (by omega) HI.cb) 8 _ rfl
  · exact own_move hown (fun k hk => Below.heap_setCell _ _ _ k (by have := own_base hown k hk; simp; omega))
theorem OwE.grow {wr wi w1 : World} {x : Ck} {Ax : Option Addr} {cx k : Nat} {ve v' : Value} (HI : OwE wr wi x Ax cx k ve) (o : Obj) (hk : k < x.es.length)
    (hown : w1.ownsRow (wr.heap.size + 2) 51 3 v' (k + 1) (tcells (x.es.take k) ++ t3c x.es[k])) (hg : (wi.alloc o).grownBy w1 ve.ownBlock) :
    ∃ Av cv, v' = .slice Av (x.es.take (k + 1)).length cv ∧ OwE wr (w1.setCell ⟨wr.heap.size + 1, 8, none⟩ v') x Ax cx (k + 1) v' ∧ w1.cell? ⟨wr.heap.size + 1, 8, none⟩ = some ve ∧ w1.frozen? ⟨wr.heap.size + 1, 8, none⟩ = false ∧ Aside0 (∀ j, j < wr.heap.size + 1 → w1.heap[j]? = wi.heap[j]?) := by
  have hob : ∀ k, ve.ownBlock = some k → wr.heap.size + 2 ≤ k := fun k hk => own_base HI.own k hk
  have hn := HI.next o hk hown hg
  have kp : ∀ j, j < wr.heap.size + 2 → j < wi.heap.size → w1.heap[j]? = wi.heap[j]? := fun j hj hw => (hg.block j (by simp; omega) (fun e => by have := hob j e.symm; omega)).trans (Below.heap_alloc _ _ j hw)
  have hl : (x.es.take (k + 1)).length = k + 1 := by simp; omega
  have hcb := blk_lt HI.cb
  have h := hown
  rw [← tcells_snoc hk] at h
  obtain ⟨A, c, e, h2, _⟩ := own_T (show World.ownsRow _ _ 51 3 v' (x.es.take (k + 1)).length (tcells (x.es.take (k + 1))) by rw [hl]; exact h)
  have kb := (kp _ (by omega) hcb).trans HI.cb
  exact ⟨A, c, e, hn, blk_cell kb 8, blk_frozen kb 8, ⟨fun j hj => kp j (by omega) (by omega)⟩⟩
theorem OwK.next {w wr wi w1 : World} {seed : Int} {Sh Sk : Value} {chs : List T3} {cks : List Ck} {i : Nat} {v1 v2 v' ve : Value} {l : List (Ck × Value)} {x : Ck} {Ax : Option Addr} {cx : Nat} (HI : OwK w wr seed Sh Sk chs cks i v1 v2 l) (HE : OwE wr wi x Ax cx x.es.length ve) (o : Obj) (hi : i < cks.length) (hx : cks[i] = x)
    (hown : w1.ownsRow (w.heap.size + 3) 48 9 v' (i + 1) (kcells l ++ ckc x ve)) (hg : (wi.alloc o).grownBy w1 v2.ownBlock) (hat : v'.ownBlock = v2.ownBlock ∨ v'.ownBlock = some (wi.alloc o).heap.size) :
    OwK w (w1.setCell ⟨w.heap.size + 1 + 1, 2, none⟩ v') seed Sh Sk chs cks (i + 1) v1 v' (l ++ [(x, ve)]) := by
  have hob : ∀ k, v2.ownBlock = some k → w.heap.size + 3 ≤ k := fun k hk => own_base HI.own2 k hk
  have hol : ∀ k, v2.ownBlock = some k → k < wr.heap.size := fun k hk => own_lt HI.own2 k hk
  have hs1 := HI.bel.size
  have hs2 := HE.bel.size
  have hs3 := blk_lt HI.out
  have h1l : ∀ k, v1.ownBlock = some k → k < wr.heap.size := fun k hk => own_lt HI.own1 k hk
  have hel : ∀ p ∈ l, ∀ k, p.2.ownBlock = some k → k < wr.heap.size := fun p hp k hk => own_lt (HI.evs p hp) k hk
  have hve : ∀ k, ve.ownBlock = some k → wr.heap.size + 2 ≤ k ∧ k < wi.heap.size := fun k hk => ⟨own_base HE.own k hk, own_lt HE.own k hk⟩
  have keep0 : ∀ k : Nat, k < wr.heap.size → v2.ownBlock ≠ some k → w1.heap[k]? = wr.heap[k]? := fun k hk hne => by
    refine (hg.block k (by simp; omega) (fun e => hne e.symm)).trans ?_
    exact (Below.heap_alloc _ _ k (by omega)).trans (HE.bel.block k hk)
  have far : ∀ k : Nat, k ≠ w.heap.size + 1 + 1 → (w1.setCell ⟨w.heap.size + 1 + 1, 2, none⟩ v').heap[k]? = w1.heap[k]? := fun k hk => Below.heap_setCell _ _ _ k (by simpa using hk)
  have keep : ∀ (k : Nat) (o : Obj), k < w.heap.size + 3 → wr.heap[k]? = some o → w1.heap[k]? = some o := fun k o hk ho => (keep0 k (Array.getElem?_eq_some_iff.1 ho).1 (fun e => by have := hob k e; omega)).trans ho
  have hbi : Below w.heap.size w wi := HI.bel.trans (HE.bel.mono hs1)
  have hbel1 : Below w.heap.size w w1 := (hbi.alloc hbi.size _).grown hg (by simp; omega) (fun k hk => by have := hob k hk; omega)
  refine ⟨hbel1.setCell (by simp; omega) _, ?_, ?_, ?_, ?_, ?_, ?_, ?_, ?_⟩
  · exact blk_far (keep _ _ (by omega) HI.box) (by simp; omega) _
  · exact blk_far (keep _ _ (by omega) HI.r1) (by simp) _
  · exact blk_put (keep _ _ (by omega) HI.out) 2 _ rfl
  · exact own_move HI.own1 (fun k hk => (far k (by have := own_base HI.own1 k hk; omega)).trans (keep0 k (h1l k hk) (fun e => (HI.ap k e).1 hk)))
  · rw [kcells_snoc]
    exact own_move hown (fun k hk => far k (by have := own_base hown k hk; omega))
  · rw [List.map_append, HI.fst, List.take_add_one, List.getElem?_eq_getElem hi, hx]; rfl
  · intro p hp
    rcases List.mem_append.1 hp with hp | hp
    · exact own_move (HI.evs p hp) (fun k hk => (far k (by have := own_base (HI.evs p hp) k hk; omega)).trans (keep0 k (hel p hp k hk) (fun e => (HI.ap k e).2 p hp hk)))
    · obtain rfl := List.mem_singleton.1 hp
      have h := own_less HE.own (show w.heap.size + 3 ≤ wr.heap.size + 2 by omega)
      rw [List.take_length] at h
      refine own_move h (fun k hk => (far k (by have := hve k hk; omega)).trans ?_)
      have := hve k hk
      exact (hg.block k (by simp; omega) (fun e => by have := hol k e.symm; omega)).trans (Below.heap_alloc _ _ k (by omega))
  · intro k hk
    rcases hat with h | h
    · rw [h] at hk
      refine ⟨(HI.ap k hk).1, fun p hp => ?_⟩
      rcases List.mem_append.1 hp with hp | hp
      · exact (HI.ap k hk).2 p hp
      · obtain rfl := List.mem_singleton.1 hp
        intro e
        have := hve k e
        have := hol k hk
        omega
    · rw [h] at hk
      have hk' : k = wi.heap.size + 1 := by simpa using hk.symm
      refine ⟨fun e => by have := h1l k e; omega, fun p hp e => ?_⟩
      rcases List.mem_append.1 hp with hp | hp
      · have := hel p hp k e; omega
      · obtain rfl := List.mem_singleton.1 hp
        have := hve k e; omega
theorem OwK.world {w wr : World} {seed : Int} {Sh Sk : Value} {chs : List T3} {cks : List Ck} {v1 v2 : Value} {l : List (Ck × Value)} (HI : OwK w wr seed Sh Sk chs cks cks.length v1 v2 l) :
    ∃ A1 c1 A2 c2, v1 = .slice A1 chs.length c1 ∧ v2 = .slice A2 cks.length c2 ∧ ∀ W : World, (∀ k, w.heap.size + 3 ≤ k → W.heap[k]? = wr.heap[k]?) → WAt 51 W A1 A2 chs cks := by
  have hf := HI.fst
  rw [List.take_length] at hf
  have hl : l.length = cks.length := by rw [← hf, List.length_map]
  have main : ∀ W : World, (∀ k, w.heap.size + 3 ≤ k → W.heap[k]? = wr.heap[k]?) → ∃ A1 c1 A2 c2, v1 = .slice A1 chs.length c1 ∧ v2 = .slice A2 cks.length c2 ∧ WAt 51 W A1 A2 chs cks := by
    intro W hm
    obtain ⟨A1, c1, e1, _, hC1⟩ := own_T (own_move HI.own1 (fun k hk => hm k (own_base HI.own1 k hk)))
    have h2 := own_C (kck 51) (W := W) (v := v2) (base := w.heap.size + 3) (e := 48) (l.map fun p => (p.1, ckc p.1 p.2)) (by rw [List.length_map, hl]; exact own_move HI.own2 (fun k hk => hm k (own_base HI.own2 k hk))) (fun x hx => by obtain ⟨c, _, rfl⟩ := List.mem_map.1 hx; rfl) (fun x hx => by
      obtain ⟨p, hp, rfl⟩ := List.mem_map.1 hx
      obtain ⟨p1, p2⟩ := p
      obtain ⟨Ae, ce, e, hle, hC⟩ := own_T (own_move (HI.evs _ hp) (fun k hk => hm k (own_base (HI.evs _ hp) k hk)))
      simp only at e hle hC ⊢
      subst e
      exact ck_K p1 Ae ce hle hC)
    obtain ⟨A2, c2, e2, _, hC2⟩ := h2
    rw [List.length_map, hl] at e2 hC2
    rw [List.map_map] at hC2
    have e3 : ((fun x : Ck × List Value => x.1) ∘ fun p : Ck × Value => (p.1, ckc p.1 p.2)) = fun p => p.1 := rfl
    rw [e3, hf] at hC2
    exact ⟨A1, c1, A2, c2, e1, e2, hC1, hC2⟩
  obtain ⟨A1, c1, A2, c2, rfl, rfl, _⟩ := main wr (fun _ _ => rfl)
  refine ⟨A1, c1, A2, c2, rfl, rfl, fun W hm => ?_⟩
  obtain ⟨B1, d1, B2, d2, e1, e2, hW⟩ := main W hm
  cases e1; cases e2
  exact hW
end Go.Proofs.YtlfnnalepdjagaaDoor.C
