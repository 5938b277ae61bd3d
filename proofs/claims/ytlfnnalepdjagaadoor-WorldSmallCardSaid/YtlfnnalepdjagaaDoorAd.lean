/- Events, chambers and clocks in memory; slices.IndexFunc and ContainsFunc over them, by hand. -/
import Derived.OwnWalk
import Derived.BigRegion
import Derived.Deep.RegionHeld3
import Derived.Test.YtlfnnalepdjagaaDoorAc
namespace Go.Proofs.YtlfnnalepdjagaaDoor.C
open Go.RowKit Go.Shelf Go.Maps Go.Proofs.YtlfnnalepdjagaaDoorW.PrintWords Go.Proofs.YtlfnnalepdjagaaDoorW.PrintLast Go.Proofs.YtlfnnalepdjagaaDoorW.PrintMore
set_option linter.unusedVariables false
set_option linter.unusedSimpArgs false
theorem addr_plus (ad : Addr) (k i : Nat) : ad.add (k + (i + 1)) = ⟨(ad.add k).block, (ad.add k).off + (i + 1), none⟩ := by
  unfold Addr.add
  rw [if_neg (show ¬ k + (i + 1) = 0 by omega)]
  split
  · rename_i h0; simp [h0]
  · simp [Nat.add_assoc]
/-- Three numbers: an event (what, when, how much), or a chamber (base, swing, period). -/
abbrev T3 := Int × Int × Int
def k3 : Kd T3 := Kd.pair (Kd.int .i64) (Kd.pair (Kd.int .i64) (Kd.int .i64))
theorem k3_open {w : World} {x : T3} {cs : List Value} (h : k3.K w x cs) : cs = [.int .i64 x.1, .int .i64 x.2.1, .int .i64 x.2.2] := by
  obtain ⟨c1, c2, rfl, h1, c3, c4, rfl, h3, h4⟩ := h
  rw [show c1 = [.int .i64 x.1] from h1, show c3 = [.int .i64 x.2.1] from h3, show c4 = [.int .i64 x.2.2] from h4]
  rfl
theorem k3_mk (w : World) (x : T3) : k3.K w x [.int .i64 x.1, .int .i64 x.2.1, .int .i64 x.2.2] := ⟨[.int .i64 x.1], [.int .i64 x.2.1, .int .i64 x.2.2], rfl, rfl, [.int .i64 x.2.1], [.int .i64 x.2.2], rfl, rfl, rfl⟩
theorem C_3 {w : World} {A : Option Addr} {n : Nat} {l : List T3} (h : Kd.C k3 w A n l) (k : Nat) (hk : k < l.length) (hn : k < n) :
    ∃ ad, A = some ad ∧ w.cell? (ad.add (k * 3)) = some (.int .i64 l[k].1) ∧ w.cell? ⟨(ad.add (k * 3)).block, (ad.add (k * 3)).off + 1, none⟩ = some (.int .i64 l[k].2.1) ∧ w.cell? ⟨(ad.add (k * 3)).block, (ad.add (k * 3)).off + 2, none⟩ = some (.int .i64 l[k].2.2) := by
  obtain ⟨ad, c, e, hs, hr, hc⟩ := ReadsRow.get_ h (0, 0, 0) k (by omega) (by omega)
  have hx : l.getD (Int.toNat (k : Int)) (0, 0, 0) = l[k] := by simp [List.getD_eq_getElem?_getD, hk]
  rw [hx] at hr
  obtain rfl := k3_open hr
  refine ⟨ad, e, hc 0 _ rfl, ?_, ?_⟩
  · have := hc 1 _ rfl
    rwa [addr_plus ad _ 0] at this
  · have := hc 2 _ rfl
    rwa [addr_plus ad _ 1] at this
/-- A clock. -/
structure Ck where
  kd : Int
  ph : Int
  rt : Int
  dr : Int
  wh : Int
  wk : Int
  ht : Int
  ch : Int
  es : List T3
abbrev CkT := Int × Int × Int × Int × Int × Int × Int × Int × List T3
def Ck.t (x : Ck) : CkT := (x.kd, x.ph, x.rt, x.dr, x.wh, x.wk, x.ht, x.ch, x.es)
def kct (e : Nat) : Kd CkT := Kd.pair (Kd.int .i64) (Kd.pair (Kd.int .i64) (Kd.pair (Kd.int .i64) (Kd.pair (Kd.int .i64) (Kd.pair (Kd.int .i64) (Kd.pair (Kd.int .i64) (Kd.pair (Kd.int .i64) (Kd.pair (Kd.int .i64) (Kd.slice e k3))))))))
/-- Clocks in memory; e: the type of the events. -/
def kck (e : Nat) : Kd Ck := Kd.iso (kct e) Ck.t
abbrev ckV (x : Ck) (Ae : Option Addr) (ce : Nat) : Value := .agg #[.int .i64 x.kd, .int .i64 x.ph, .int .i64 x.rt, .int .i64 x.dr, .int .i64 x.wh, .int .i64 x.wk, .int .i64 x.ht, .int .i64 x.ch, .slice Ae x.es.length ce]
theorem kck_open {e : Nat} {w : World} {x : Ck} {cs : List Value} (h : (kck e).K w x cs) : ∃ Ae ce, cs = [.int .i64 x.kd, .int .i64 x.ph, .int .i64 x.rt, .int .i64 x.dr, .int .i64 x.wh, .int .i64 x.wk, .int .i64 x.ht, .int .i64 x.ch, .slice Ae x.es.length ce] ∧ x.es.length ≤ ce ∧ Kd.C k3 w Ae x.es.length x.es := by
  obtain ⟨c1, d1, rfl, h1, c2, d2, rfl, h2, c3, d3, rfl, h3, c4, d4, rfl, h4, c5, d5, rfl, h5, c6, d6, rfl, h6, c7, d7, rfl, h7, c8, d8, rfl, h8, Ae, ce, rfl, hl, hC⟩ := h
  rw [show c1 = [.int .i64 x.kd] from h1, show c2 = [.int .i64 x.ph] from h2, show c3 = [.int .i64 x.rt] from h3, show c4 = [.int .i64 x.dr] from h4, show c5 = [.int .i64 x.wh] from h5, show c6 = [.int .i64 x.wk] from h6, show c7 = [.int .i64 x.ht] from h7, show c8 = [.int .i64 x.ch] from h8]
  exact ⟨Ae, ce, rfl, hl, hC⟩
theorem C_ck {e : Nat} {w : World} {A : Option Addr} {n : Nat} {l : List Ck} (h : Kd.C (kck e) w A n l) (k : Nat) (hk : k < l.length) (hn : k < n) :
    ∃ ad Ae ce, A = some ad ∧ w.cell? (ad.add (k * 9)) = some (.int .i64 l[k].kd) ∧ w.cell? ⟨(ad.add (k * 9)).block, (ad.add (k * 9)).off + 1, none⟩ = some (.int .i64 l[k].ph) ∧ w.cell? ⟨(ad.add (k * 9)).block, (ad.add (k * 9)).off + 2, none⟩ = some (.int .i64 l[k].rt) ∧ w.cell? ⟨(ad.add (k * 9)).block, (ad.add (k * 9)).off + 3, none⟩ = some (.int .i64 l[k].dr) ∧ w.cell? ⟨(ad.add (k * 9)).block, (ad.add (k * 9)).off + 4, none⟩ = some (.int .i64 l[k].wh) ∧ w.cell? ⟨(ad.add (k * 9)).block, (ad.add (k * 9)).off + 5, none⟩ = some (.int .i64 l[k].wk) ∧ w.cell? ⟨(ad.add (k * 9)).block, (ad.add (k * 9)).off + 6, none⟩ = some (.int .i64 l[k].ht) ∧ w.cell? ⟨(ad.add (k * 9)).block, (ad.add (k * 9)).off + 7, none⟩ = some (.int .i64 l[k].ch) ∧ w.cell? ⟨(ad.add (k * 9)).block, (ad.add (k * 9)).off + 8, none⟩ = some (.slice Ae l[k].es.length ce) ∧ l[k].es.length ≤ ce ∧ Kd.C k3 w Ae l[k].es.length l[k].es := by
  obtain ⟨ad, c, e', hs, hr, hc⟩ := ReadsRow.get_ h ⟨0, 0, 0, 0, 0, 0, 0, 0, []⟩ k (by omega) (by omega)
  have hx : l.getD (Int.toNat (k : Int)) ⟨0, 0, 0, 0, 0, 0, 0, 0, []⟩ = l[k] := by simp [List.getD_eq_getElem?_getD, hk]
  rw [hx] at hr
  obtain ⟨Ae, ce, rfl, hl, hC⟩ := kck_open hr
  refine ⟨ad, Ae, ce, e', hc 0 _ rfl, ?_, ?_, ?_, ?_, ?_, ?_, ?_, ?_, hl, hC⟩
  · have := hc 1 _ rfl
    rwa [addr_plus ad _ 0] at this
  · have := hc 2 _ rfl
    rwa [addr_plus ad _ 1] at this
  · have := hc 3 _ rfl
    rwa [addr_plus ad _ 2] at this
  · have := hc 4 _ rfl
    rwa [addr_plus ad _ 3] at this
  · have := hc 5 _ rfl
    rwa [addr_plus ad _ 4] at this
  · have := hc 6 _ rfl
    rwa [addr_plus ad _ 5] at this
  · have := hc 7 _ rfl
    rwa [addr_plus ad _ 6] at this
  · have := hc 8 _ rfl
    rwa [addr_plus ad _ 7] at this
section
variable {α : Type}
/-- The first place at which p holds, or -1. -/
def idxOf (p : α → Bool) (l : List α) : Int := if l.findIdx p < l.length then (l.findIdx p : Int) else -1
theorem idxOf_hit (p : α → Bool) (l : List α) (k : Nat) (hk : k < l.length) (hp : p l[k] = true) (hn : ∀ j (hj : j < k), p (l[j]'(by omega)) = false) : idxOf p l = k := by
  have : l.findIdx p = k := (List.findIdx_eq hk).2 ⟨hp, hn⟩
  unfold idxOf
  rw [this, if_pos hk]
theorem idxOf_miss (p : α → Bool) (l : List α) (hn : ∀ x ∈ l, p x = false) : idxOf p l = -1 := by
  unfold idxOf
  rw [if_neg]
  intro h
  have := List.findIdx_getElem (w := h)
  rw [hn _ (List.getElem_mem _)] at this
  cases this
theorem idxOf_any (p : α → Bool) (l : List α) : decide (idxOf p l ≥ 0) = l.any p := by
  unfold idxOf
  by_cases h : l.findIdx p < l.length
  · rw [if_pos h]
    have h1 : l.any p = true := by rw [List.any_eq_true]; exact ⟨_, List.getElem_mem h, List.findIdx_getElem (w := h)⟩
    rw [h1]; simp
  · rw [if_neg h]
    have h1 : l.any p = false := by
      cases hh : l.any p with
      | false => rfl
      | true =>
        rw [List.any_eq_true] at hh
        obtain ⟨x, hx, hp⟩ := hh
        exact absurd (List.findIdx_lt_length_of_exists ⟨x, hx, hp⟩) h
    rw [h1]; simp
end
set_option maxRecDepth 100000 in
set_option maxHeartbeats 4000000 in
theorem indexFuncH_calls (A : Option Addr) (c : Nat) (l : List T3) (g : Nat) (cb : Array Value) (eg : ∀ args w, (callFunc g args).run Tryd.prog w = .ok (.enter g args) w) (p : T3 → Bool) (w : World) (hr : Kd.C k3 w A l.length l)
    (HP : ∀ W x, x ∈ l → Below w.heap.size w W → Calls Tryd.prog g (#[.agg #[.int .i64 x.1, .int .i64 x.2.1, .int .i64 x.2.2]] ++ cb) W fun e W' => e = .returned (.bool (p x)) ∧ Below W.heap.size W W') :
    Calls Tryd.prog 79 #[.slice A l.length c, .func (.func g) #[] cb] w fun e W' => e = .returned (.int .i64 (idxOf p l)) ∧ Below w.heap.size w W' := by
  have hlen : l.length ≤ 9223372036854775807 := hr.2.1
  have HR : Aside0 (Kd.C k3 w A l.length l) := ⟨hr⟩
  have H : Aside0 (∀ W x, x ∈ l → Below w.heap.size w W → Calls Tryd.prog g (#[.agg #[.int .i64 x.1, .int .i64 x.2.1, .int .i64 x.2.2]] ++ cb) W fun e W' => e = .returned (.bool (p x)) ∧ Below W.heap.size W W') := ⟨HP⟩
  clear hr HP
  go_enter Tryd.func79, Tryd.ntmps79
  go_wp2
  go_loopw [8] (fun v wr => ∃ k : Nat, k ≤ l.length ∧ v = .int .i64 k ∧ Aside0 (∀ j (hj : j < l.length), j < k → p l[j] = false) ∧ Aside0 (Below w.heap.size w wr))
    (fun v _ => l.length - (intOf v).toNat)
  case atStart => exact ⟨0, Nat.zero_le _, rfl, ⟨fun j _ hj => absurd hj (by omega)⟩, ⟨Below.refl _ _⟩⟩
  case round =>
    obtain ⟨k, hk, rfl, HN, HB⟩ := hrel
    by_cases hlt : k < l.length
    · obtain ⟨ad, rfl, hc0, hc1, hc2⟩ := C_3 (Kd.C_below HR.out HB.out) k hlt hlt
      have hcall := H.out wr l[k] (List.getElem_mem _) HB.out
      cases hp : p l[k] with
      | false =>
        rw [hp] at hcall
        have HPK : Aside0 (p l[k] = false) := ⟨hp⟩
        clear hp
        go_wp2_with (go_at_fn g; refine hcall.mono ?_; rintro e w' ⟨rfl, hB1⟩)
        go_roundw
        case rel => exact ⟨k + 1, by omega, by go_num, ⟨fun j hj hjk => by by_cases e : j = k; (subst e; exact HPK.out); exact HN.out j hj (by omega)⟩, ⟨HB.out.trans (hB1.mono HB.out.size)⟩⟩
        case measure => simp [intOf]; omega
      | true =>
        rw [hp] at hcall
        have HI : Aside0 (idxOf p l = k) := ⟨idxOf_hit p l k hlt hp (fun j hj => HN.out j (by omega) hj)⟩
        clear hp
        go_wp2_with (go_at_fn g; refine hcall.mono ?_; rintro e w' ⟨rfl, hB1⟩)
        go_ret
        exact ⟨by rw [HI.out]; rfl, HB.out.trans (hB1.mono HB.out.size)⟩
    · have HI : Aside0 (idxOf p l = -1) := ⟨idxOf_miss p l (fun x hx => by obtain ⟨j, hj, rfl⟩ := List.getElem_of_mem hx; exact HN.out j hj (by omega))⟩
      go_wp2
      go_ret
      exact ⟨by rw [HI.out]; rfl, HB.out⟩

set_option maxRecDepth 100000 in
set_option maxHeartbeats 4000000 in
theorem containsFuncH_calls (A : Option Addr) (c : Nat) (l : List T3) (g : Nat) (cb : Array Value) (eg : ∀ args w, (callFunc g args).run Tryd.prog w = .ok (.enter g args) w) (p : T3 → Bool) (w : World) (hr : Kd.C k3 w A l.length l)
    (HP : ∀ W x, x ∈ l → Below w.heap.size w W → Calls Tryd.prog g (#[.agg #[.int .i64 x.1, .int .i64 x.2.1, .int .i64 x.2.2]] ++ cb) W fun e W' => e = .returned (.bool (p x)) ∧ Below W.heap.size W W') :
    Calls Tryd.prog 64 #[.slice A l.length c, .func (.func g) #[] cb] w fun e W' => e = .returned (.bool (l.any p)) ∧ Below w.heap.size w W' := by
  have hi := indexFuncH_calls A c l g cb eg p w hr HP
  have HA : Aside0 _ := ⟨idxOf_any p l⟩
  clear hr HP
  generalize idxOf p l = i at hi HA
  go_enter Tryd.func64, Tryd.ntmps64
  go_wp2_with (go_at_call 79; refine hi.mono ?_; rintro e w' ⟨rfl, hB⟩)
  go_ret
  exact ⟨by rw [← HA.out]; rfl, hB⟩

set_option maxRecDepth 100000 in
set_option maxHeartbeats 4000000 in
theorem indexFuncK_calls (e : Nat) (A : Option Addr) (c : Nat) (l : List Ck) (g : Nat) (cb : Array Value) (eg : ∀ args w, (callFunc g args).run Tryd.prog w = .ok (.enter g args) w) (p : Ck → Bool) (w : World) (hr : Kd.C (kck e) w A l.length l)
    (HP : ∀ W x Ae ce, x ∈ l → x.es.length ≤ ce → Kd.C k3 W Ae x.es.length x.es → Below w.heap.size w W → Calls Tryd.prog g (#[ckV x Ae ce] ++ cb) W fun e W' => e = .returned (.bool (p x)) ∧ Below W.heap.size W W') :
    Calls Tryd.prog 80 #[.slice A l.length c, .func (.func g) #[] cb] w fun e W' => e = .returned (.int .i64 (idxOf p l)) ∧ Below w.heap.size w W' := by
  have hlen : l.length ≤ 9223372036854775807 := hr.2.1
  have HR : Aside0 (Kd.C (kck e) w A l.length l) := ⟨hr⟩
  have H : Aside0 (∀ W x Ae ce, x ∈ l → x.es.length ≤ ce → Kd.C k3 W Ae x.es.length x.es → Below w.heap.size w W → Calls Tryd.prog g (#[ckV x Ae ce] ++ cb) W fun e W' => e = .returned (.bool (p x)) ∧ Below W.heap.size W W') := ⟨HP⟩
  clear hr HP
  go_enter Tryd.func80, Tryd.ntmps80
  go_wp2
  go_loopw [8] (fun v wr => ∃ k : Nat, k ≤ l.length ∧ v = .int .i64 k ∧ Aside0 (∀ j (hj : j < l.length), j < k → p l[j] = false) ∧ Aside0 (Below w.heap.size w wr))
    (fun v _ => l.length - (intOf v).toNat)
  case atStart => exact ⟨0, Nat.zero_le _, rfl, ⟨fun j _ hj => absurd hj (by omega)⟩, ⟨Below.refl _ _⟩⟩
  case round =>
    obtain ⟨k, hk, rfl, HN, HB⟩ := hrel
    by_cases hlt : k < l.length
    · obtain ⟨ad, Ae, ce, rfl, hc0, hc1, hc2, hc3, hc4, hc5, hc6, hc7, hc8, hle, hCe⟩ := C_ck (Kd.C_below HR.out HB.out) k hlt hlt
      have hcall := H.out wr l[k] Ae ce (List.getElem_mem _) hle hCe HB.out
      clear hCe hle
      cases hp : p l[k] with
      | false =>
        rw [hp] at hcall
        have HPK : Aside0 (p l[k] = false) := ⟨hp⟩
        clear hp
        go_wp2_with (go_at_fn g; refine hcall.mono ?_; rintro en w' ⟨rfl, hB1⟩)
        go_roundw
        case rel => exact ⟨k + 1, by omega, by go_num, ⟨fun j hj hjk => by by_cases ej : j = k; (subst ej; exact HPK.out); exact HN.out j hj (by omega)⟩, ⟨HB.out.trans (hB1.mono HB.out.size)⟩⟩
        case measure => simp [intOf]; omega
      | true =>
        rw [hp] at hcall
        have HI : Aside0 (idxOf p l = k) := ⟨idxOf_hit p l k hlt hp (fun j hj => HN.out j (by omega) hj)⟩
        clear hp
        go_wp2_with (go_at_fn g; refine hcall.mono ?_; rintro en w' ⟨rfl, hB1⟩)
        go_ret
        exact ⟨by rw [HI.out]; rfl, HB.out.trans (hB1.mono HB.out.size)⟩
    · have HI : Aside0 (idxOf p l = -1) := ⟨idxOf_miss p l (fun x hx => by obtain ⟨j, hj, rfl⟩ := List.getElem_of_mem hx; exact HN.out j hj (by omega))⟩
      go_wp2
      go_ret
      exact ⟨by rw [HI.out]; rfl, HB.out⟩

set_option maxRecDepth 100000 in
set_option maxHeartbeats 4000000 in
theorem containsFuncK_calls (e : Nat) (A : Option Addr) (c : Nat) (l : List Ck) (g : Nat) (cb : Array Value) (eg : ∀ args w, (callFunc g args).run Tryd.prog w = .ok (.enter g args) w) (p : Ck → Bool) (w : World) (hr : Kd.C (kck e) w A l.length l)
    (HP : ∀ W x Ae ce, x ∈ l → x.es.length ≤ ce → Kd.C k3 W Ae x.es.length x.es → Below w.heap.size w W → Calls Tryd.prog g (#[ckV x Ae ce] ++ cb) W fun e W' => e = .returned (.bool (p x)) ∧ Below W.heap.size W W') :
    Calls Tryd.prog 65 #[.slice A l.length c, .func (.func g) #[] cb] w fun e W' => e = .returned (.bool (l.any p)) ∧ Below w.heap.size w W' := by
  have hi := indexFuncK_calls e A c l g cb eg p w hr HP
  have HA : Aside0 _ := ⟨idxOf_any p l⟩
  clear hr HP
  generalize idxOf p l = i at hi HA
  go_enter Tryd.func65, Tryd.ntmps65
  go_wp2_with (go_at_call 80; refine hi.mono ?_; rintro en w' ⟨rfl, hB⟩)
  go_ret
  exact ⟨by rw [← HA.out]; rfl, hB⟩

end Go.Proofs.YtlfnnalepdjagaaDoor.C
