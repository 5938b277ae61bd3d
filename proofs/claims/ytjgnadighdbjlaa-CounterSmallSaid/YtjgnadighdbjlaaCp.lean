/- Lists of numbers, bounds and uses in memory; slices.IndexFunc and ContainsFunc over them, by hand. -/
import Derived.OwnWalk
import Derived.Deep.RegionHeld3
import Derived.Test.YtjgnadighdbjlaaCn
namespace Go.Proofs.Ytjgnadighdbjlaa.C
open Go.RowKit Go.Shelf Go.Maps Go.Proofs.YtjgnadighdbjlaaW.PrintWords Go.Proofs.YtjgnadighdbjlaaW.PrintLast Go.Proofs.YtjgnadighdbjlaaW.PrintMore
set_option linter.unusedVariables false
set_option linter.unusedSimpArgs false
theorem addr_succ (ad : Addr) (k : Nat) : ad.add (k + 1) = ⟨(ad.add k).block, (ad.add k).off + 1, none⟩ := by
  unfold Addr.add
  rw [if_neg (show ¬ k + 1 = 0 by omega)]
  split
  · rename_i h0; simp [h0]
  · simp [Nat.add_assoc]
theorem C_int {w : World} {A : Option Addr} {l : List Int} (h : Kd.C (Kd.int .i64) w A l.length l) (k : Nat) (hk : k < l.length) : ∃ ad, A = some ad ∧ w.cell? (ad.add k) = some (.int .i64 (l[k])) := by
  obtain ⟨ad, c, e, _, hK, hc⟩ := Kd.C_get h 0 k (by omega) (by omega)
  refine ⟨ad, e, ?_⟩
  have hK' : c = [.int .i64 (l.getD k 0)] := hK
  subst hK'
  have := hc 0 _ rfl
  simp only [Int.toNat_natCast, Nat.add_zero] at this
  rw [show (Kd.int .i64).sz = 1 from rfl, Nat.mul_one] at this
  rw [this, List.getD_eq_getElem?_getD, List.getElem?_eq_getElem hk]
  rfl

/-- A bound: its clocks, and its span. -/
abbrev Bd := Int × Int × Int × Int
abbrev bdV (x : Bd) : Value := .agg #[.int .i64 x.1, .int .i64 x.2.1, .int .i64 x.2.2.1, .int .i64 x.2.2.2]
/-- A use: its bound, and its side. -/
abbrev Us := Int × Bool
abbrev usV (x : Us) : Value := .agg #[.int .i64 x.1, .bool x.2]
def kb : Kd Bd := Kd.pair (Kd.int .i64) (Kd.pair (Kd.int .i64) (Kd.pair (Kd.int .i64) (Kd.int .i64)))
def ku : Kd Us := Kd.pair (Kd.int .i64) Kd.bool
theorem kb_open {w : World} {x : Bd} {cs : List Value} (h : kb.K w x cs) : cs = [.int .i64 x.1, .int .i64 x.2.1, .int .i64 x.2.2.1, .int .i64 x.2.2.2] := by
  obtain ⟨c1, c2, rfl, h1, c3, c4, rfl, h3, c5, c6, rfl, h5, h6⟩ := h
  rw [show c1 = [.int .i64 x.1] from h1, show c3 = [.int .i64 x.2.1] from h3, show c5 = [.int .i64 x.2.2.1] from h5, show c6 = [.int .i64 x.2.2.2] from h6]
  rfl
theorem ku_open {w : World} {x : Us} {cs : List Value} (h : ku.K w x cs) : cs = [.int .i64 x.1, .bool x.2] := by
  obtain ⟨c1, c2, rfl, h1, h2⟩ := h
  rw [show c1 = [.int .i64 x.1] from h1, show c2 = [.bool x.2] from h2]
  rfl
theorem C_bd {w : World} {A : Option Addr} {n : Nat} {l : List Bd} (h : Kd.C kb w A n l) (k : Nat) (hk : k < l.length) (hn : k < n) :
    ∃ ad, A = some ad ∧ w.cell? (ad.add (k * 4)) = some (.int .i64 l[k].1) ∧ w.cell? ⟨(ad.add (k * 4)).block, (ad.add (k * 4)).off + 1, none⟩ = some (.int .i64 l[k].2.1) ∧
      w.cell? ⟨(ad.add (k * 4)).block, (ad.add (k * 4)).off + 2, none⟩ = some (.int .i64 l[k].2.2.1) ∧ w.cell? ⟨(ad.add (k * 4)).block, (ad.add (k * 4)).off + 3, none⟩ = some (.int .i64 l[k].2.2.2) := by
  obtain ⟨ad, c, e, hs, hr, hc⟩ := ReadsRow.get_ h (0, 0, 0, 0) k (by omega) (by omega)
  have hx : l.getD (Int.toNat (k : Int)) (0, 0, 0, 0) = l[k] := by simp [List.getD_eq_getElem?_getD, hk]
  rw [hx] at hr
  obtain rfl := kb_open hr
  refine ⟨ad, e, hc 0 _ rfl, ?_, ?_, ?_⟩
  · have := hc 1 _ rfl
    rw [← addr_succ]; exact this
  · have := hc 2 _ rfl
    rw [show (ad.add (k * 4)).off + 2 = (⟨(ad.add (k * 4)).block, (ad.add (k * 4)).off + 1, none⟩ : Addr).off + 1 from rfl, ← addr_succ, show (ad.add (k * 4)).block = (ad.add (k * 4 + 1)).block by rw [addr_succ], ← addr_succ]; exact this
  · have := hc 3 _ rfl
    rw [show (ad.add (k * 4)).off + 3 = (⟨(ad.add (k * 4)).block, (ad.add (k * 4)).off + 1, none⟩ : Addr).off + 1 + 1 from rfl, ← addr_succ, show (ad.add (k * 4 + 1)).off + 1 = (⟨(ad.add (k * 4 + 1)).block, (ad.add (k * 4 + 1)).off + 1, none⟩ : Addr).off from rfl, ← addr_succ, show (ad.add (k * 4)).block = (ad.add (k * 4 + 1 + 1)).block by rw [addr_succ, addr_succ], ← addr_succ]; exact this
theorem C_us {w : World} {A : Option Addr} {n : Nat} {l : List Us} (h : Kd.C ku w A n l) (k : Nat) (hk : k < l.length) (hn : k < n) :
    ∃ ad, A = some ad ∧ w.cell? (ad.add (k * 2)) = some (.int .i64 l[k].1) ∧ w.cell? ⟨(ad.add (k * 2)).block, (ad.add (k * 2)).off + 1, none⟩ = some (.bool l[k].2) := by
  obtain ⟨ad, c, e, hs, hr, hc⟩ := ReadsRow.get_ h (0, false) k (by omega) (by omega)
  have hx : l.getD (Int.toNat (k : Int)) (0, false) = l[k] := by simp [List.getD_eq_getElem?_getD, hk]
  rw [hx] at hr
  obtain rfl := ku_open hr
  refine ⟨ad, e, hc 0 _ rfl, ?_⟩
  have := hc 1 _ rfl
  rw [← addr_succ]; exact this
section
variable {α : Type}
/-- The first place at which p holds, or -1. -/
def idxOf (p : α → Bool) (l : List α) : Int := if l.findIdx p < l.length then (l.findIdx p : Int) else -1
theorem idxOf_hit (p : α → Bool) (l : List α) (k : Nat) (hk : k < l.length) (hp : p l[k] = true) (hn : ∀ j (hj : j < k), p (l[j]'(by omega)) = false) : idxOf p l = k := by
  have : l.findIdx p = k := (List.findIdx_eq hk).2 ⟨hp, hn⟩
  unfold idxOf
  rw [this, if_pos hk]
theorem idxOf_miss (p : α → Bool) (l : List α) (hn : ∀ x ∈ l, p x = false) : idxOf p l = -1 := by
  unfold idxOf
  rw [if_neg]
  intro h
  have := List.findIdx_getElem (w := h)
  rw [hn _ (List.getElem_mem _)] at this
  cases this
theorem idxOf_any (p : α → Bool) (l : List α) : decide (idxOf p l ≥ 0) = l.any p := by
  unfold idxOf
  by_cases h : l.findIdx p < l.length
  · rw [if_pos h]
    have h1 : l.any p = true := by rw [List.any_eq_true]; exact ⟨_, List.getElem_mem h, List.findIdx_getElem (w := h)⟩
    rw [h1]; simp
  · rw [if_neg h]
    have h1 : l.any p = false := by
      cases hh : l.any p with
      | false => rfl
      | true =>
        rw [List.any_eq_true] at hh
        obtain ⟨x, hx, hp⟩ := hh
        exact absurd (List.findIdx_lt_length_of_exists ⟨x, hx, hp⟩) h
    rw [h1]; simp
end
set_option maxRecDepth 100000 in
set_option maxHeartbeats 4000000 in
theorem indexFuncI_calls (A : Option Addr) (c : Nat) (l : List Int) (g : Nat) (cb : Array Value) (eg : ∀ args w, (callFunc g args).run Try.prog w = .ok (.enter g args) w) (p : Int → Bool) (w : World) (hr : Kd.C (Kd.int .i64) w A l.length l)
    (HP : ∀ W x, x ∈ l → Below w.heap.size w W → Calls Try.prog g (#[.int .i64 x] ++ cb) W fun e W' => e = .returned (.bool (p x)) ∧ Below W.heap.size W W') :
    Calls Try.prog 74 #[.slice A l.length c, .func (.func g) #[] cb] w fun e W' => e = .returned (.int .i64 (idxOf p l)) ∧ Below w.heap.size w W' := by
  have hlen : l.length ≤ 9223372036854775807 := hr.2.1
  have HR : Aside0 (Kd.C (Kd.int .i64) w A l.length l) := ⟨hr⟩
  have H : Aside0 (∀ W x, x ∈ l → Below w.heap.size w W → Calls Try.prog g (#[.int .i64 x] ++ cb) W fun e W' => e = .returned (.bool (p x)) ∧ Below W.heap.size W W') := ⟨HP⟩
  clear hr HP
  go_enter Try.func74, Try.ntmps74
  go_wp2
  go_loopw [8] (fun v wr => ∃ k : Nat, k ≤ l.length ∧ v = .int .i64 k ∧ Aside0 (∀ j (hj : j < l.length), j < k → p l[j] = false) ∧ Aside0 (Below w.heap.size w wr))
    (fun v _ => l.length - (intOf v).toNat)
  case atStart => exact ⟨0, Nat.zero_le _, rfl, ⟨fun j _ hj => absurd hj (by omega)⟩, ⟨Below.refl _ _⟩⟩
  case round =>
    obtain ⟨k, hk, rfl, HN, HB⟩ := hrel
    by_cases hlt : k < l.length
    · obtain ⟨ad, rfl, hc⟩ := C_int (Kd.C_below HR.out HB.out) k hlt
      have hcall := H.out wr l[k] (List.getElem_mem _) HB.out
      cases hp : p l[k] with
      | false =>
        rw [hp] at hcall
        have HPK : Aside0 (p l[k] = false) := ⟨hp⟩
        clear hp
        go_wp2_with (go_at_fn g; refine hcall.mono ?_; rintro e w' ⟨rfl, hB1⟩)
        go_roundw
        case rel => exact ⟨k + 1, by omega, by go_num, ⟨fun j hj hjk => by by_cases e : j = k; (subst e; exact HPK.out); exact HN.out j hj (by omega)⟩, ⟨HB.out.trans (hB1.mono HB.out.size)⟩⟩
        case measure => simp [intOf]; omega
      | true =>
        rw [hp] at hcall
        have HI : Aside0 (idxOf p l = k) := ⟨idxOf_hit p l k hlt hp (fun j hj => HN.out j (by omega) hj)⟩
        clear hp
        go_wp2_with (go_at_fn g; refine hcall.mono ?_; rintro e w' ⟨rfl, hB1⟩)
        go_ret
        exact ⟨by rw [HI.out]; rfl, HB.out.trans (hB1.mono HB.out.size)⟩
    · have HI : Aside0 (idxOf p l = -1) := ⟨idxOf_miss p l (fun x hx => by obtain ⟨j, hj, rfl⟩ := List.getElem_of_mem hx; exact HN.out j hj (by omega))⟩
      go_wp2
      go_ret
      exact ⟨by rw [HI.out]; rfl, HB.out⟩

set_option maxRecDepth 100000 in
set_option maxHeartbeats 4000000 in
theorem containsFuncI_calls (A : Option Addr) (c : Nat) (l : List Int) (g : Nat) (cb : Array Value) (eg : ∀ args w, (callFunc g args).run Try.prog w = .ok (.enter g args) w) (p : Int → Bool) (w : World) (hr : Kd.C (Kd.int .i64) w A l.length l)
    (HP : ∀ W x, x ∈ l → Below w.heap.size w W → Calls Try.prog g (#[.int .i64 x] ++ cb) W fun e W' => e = .returned (.bool (p x)) ∧ Below W.heap.size W W') :
    Calls Try.prog 46 #[.slice A l.length c, .func (.func g) #[] cb] w fun e W' => e = .returned (.bool (l.any p)) ∧ Below w.heap.size w W' := by
  have hi := indexFuncI_calls A c l g cb eg p w hr HP
  have HA : Aside0 _ := ⟨idxOf_any p l⟩
  clear hr HP
  generalize idxOf p l = i at hi HA
  go_enter Try.func46, Try.ntmps46
  go_wp2_with (go_at_call 74; refine hi.mono ?_; rintro e w' ⟨rfl, hB⟩)
  go_ret
  exact ⟨by rw [← HA.out]; rfl, hB⟩

set_option maxRecDepth 100000 in
set_option maxHeartbeats 4000000 in
theorem indexFuncB_calls (A : Option Addr) (c : Nat) (l : List Bd) (g : Nat) (cb : Array Value) (eg : ∀ args w, (callFunc g args).run Try.prog w = .ok (.enter g args) w) (p : Bd → Bool) (w : World) (hr : Kd.C kb w A l.length l)
    (HP : ∀ W x, x ∈ l → Below w.heap.size w W → Calls Try.prog g (#[bdV x] ++ cb) W fun e W' => e = .returned (.bool (p x)) ∧ Below W.heap.size W W') :
    Calls Try.prog 76 #[.slice A l.length c, .func (.func g) #[] cb] w fun e W' => e = .returned (.int .i64 (idxOf p l)) ∧ Below w.heap.size w W' := by
  have hlen : l.length ≤ 9223372036854775807 := hr.2.1
  have HR : Aside0 (Kd.C kb w A l.length l) := ⟨hr⟩
  have H : Aside0 (∀ W x, x ∈ l → Below w.heap.size w W → Calls Try.prog g (#[bdV x] ++ cb) W fun e W' => e = .returned (.bool (p x)) ∧ Below W.heap.size W W') := ⟨HP⟩
  clear hr HP
  go_enter Try.func76, Try.ntmps76
  go_wp2
  go_loopw [8] (fun v wr => ∃ k : Nat, k ≤ l.length ∧ v = .int .i64 k ∧ Aside0 (∀ j (hj : j < l.length), j < k → p l[j] = false) ∧ Aside0 (Below w.heap.size w wr))
    (fun v _ => l.length - (intOf v).toNat)
  case atStart => exact ⟨0, Nat.zero_le _, rfl, ⟨fun j _ hj => absurd hj (by omega)⟩, ⟨Below.refl _ _⟩⟩
  case round =>
    obtain ⟨k, hk, rfl, HN, HB⟩ := hrel
    by_cases hlt : k < l.length
    · obtain ⟨ad, rfl, hc0, hc1, hc2, hc3⟩ := C_bd (Kd.C_below HR.out HB.out) k hlt hlt
      have hcall := H.out wr l[k] (List.getElem_mem _) HB.out
      cases hp : p l[k] with
      | false =>
        rw [hp] at hcall
        have HPK : Aside0 (p l[k] = false) := ⟨hp⟩
        clear hp
        go_wp2_with (go_at_fn g; refine hcall.mono ?_; rintro e w' ⟨rfl, hB1⟩)
        go_roundw
        case rel => exact ⟨k + 1, by omega, by go_num, ⟨fun j hj hjk => by by_cases e : j = k; (subst e; exact HPK.out); exact HN.out j hj (by omega)⟩, ⟨HB.out.trans (hB1.mono HB.out.size)⟩⟩
        case measure => simp [intOf]; omega
      | true =>
        rw [hp] at hcall
        have HI : Aside0 (idxOf p l = k) := ⟨idxOf_hit p l k hlt hp (fun j hj => HN.out j (by omega) hj)⟩
        clear hp
        go_wp2_with (go_at_fn g; refine hcall.mono ?_; rintro e w' ⟨rfl, hB1⟩)
        go_ret
        exact ⟨by rw [HI.out]; rfl, HB.out.trans (hB1.mono HB.out.size)⟩
    · have HI : Aside0 (idxOf p l = -1) := ⟨idxOf_miss p l (fun x hx => by obtain ⟨j, hj, rfl⟩ := List.getElem_of_mem hx; exact HN.out j hj (by omega))⟩
      go_wp2
      go_ret
      exact ⟨by rw [HI.out]; rfl, HB.out⟩

set_option maxRecDepth 100000 in
set_option maxHeartbeats 4000000 in
theorem containsFuncB_calls (A : Option Addr) (c : Nat) (l : List Bd) (g : Nat) (cb : Array Value) (eg : ∀ args w, (callFunc g args).run Try.prog w = .ok (.enter g args) w) (p : Bd → Bool) (w : World) (hr : Kd.C kb w A l.length l)
    (HP : ∀ W x, x ∈ l → Below w.heap.size w W → Calls Try.prog g (#[bdV x] ++ cb) W fun e W' => e = .returned (.bool (p x)) ∧ Below W.heap.size W W') :
    Calls Try.prog 58 #[.slice A l.length c, .func (.func g) #[] cb] w fun e W' => e = .returned (.bool (l.any p)) ∧ Below w.heap.size w W' := by
  have hi := indexFuncB_calls A c l g cb eg p w hr HP
  have HA : Aside0 _ := ⟨idxOf_any p l⟩
  clear hr HP
  generalize idxOf p l = i at hi HA
  go_enter Try.func58, Try.ntmps58
  go_wp2_with (go_at_call 76; refine hi.mono ?_; rintro e w' ⟨rfl, hB⟩)
  go_ret
  exact ⟨by rw [← HA.out]; rfl, hB⟩

set_option maxRecDepth 100000 in
set_option maxHeartbeats 4000000 in
theorem indexFuncU_calls (A : Option Addr) (c : Nat) (l : List Us) (g : Nat) (cb : Array Value) (eg : ∀ args w, (callFunc g args).run Try.prog w = .ok (.enter g args) w) (p : Us → Bool) (w : World) (hr : Kd.C ku w A l.length l)
    (HP : ∀ W x, x ∈ l → Below w.heap.size w W → Calls Try.prog g (#[usV x] ++ cb) W fun e W' => e = .returned (.bool (p x)) ∧ Below W.heap.size W W') :
    Calls Try.prog 60 #[.slice A l.length c, .func (.func g) #[] cb] w fun e W' => e = .returned (.int .i64 (idxOf p l)) ∧ Below w.heap.size w W' := by
  have hlen : l.length ≤ 9223372036854775807 := hr.2.1
  have HR : Aside0 (Kd.C ku w A l.length l) := ⟨hr⟩
  have H : Aside0 (∀ W x, x ∈ l → Below w.heap.size w W → Calls Try.prog g (#[usV x] ++ cb) W fun e W' => e = .returned (.bool (p x)) ∧ Below W.heap.size W W') := ⟨HP⟩
  clear hr HP
  go_enter Try.func60, Try.ntmps60
  go_wp2
  go_loopw [8] (fun v wr => ∃ k : Nat, k ≤ l.length ∧ v = .int .i64 k ∧ Aside0 (∀ j (hj : j < l.length), j < k → p l[j] = false) ∧ Aside0 (Below w.heap.size w wr))
    (fun v _ => l.length - (intOf v).toNat)
  case atStart => exact ⟨0, Nat.zero_le _, rfl, ⟨fun j _ hj => absurd hj (by omega)⟩, ⟨Below.refl _ _⟩⟩
  case round =>
    obtain ⟨k, hk, rfl, HN, HB⟩ := hrel
    by_cases hlt : k < l.length
    · obtain ⟨ad, rfl, hc0, hc1⟩ := C_us (Kd.C_below HR.out HB.out) k hlt hlt
      have hcall := H.out wr l[k] (List.getElem_mem _) HB.out
      cases hp : p l[k] with
      | false =>
        rw [hp] at hcall
        have HPK : Aside0 (p l[k] = false) := ⟨hp⟩
        clear hp
        go_wp2_with (go_at_fn g; refine hcall.mono ?_; rintro e w' ⟨rfl, hB1⟩)
        go_roundw
        case rel => exact ⟨k + 1, by omega, by go_num, ⟨fun j hj hjk => by by_cases e : j = k; (subst e; exact HPK.out); exact HN.out j hj (by omega)⟩, ⟨HB.out.trans (hB1.mono HB.out.size)⟩⟩
        case measure => simp [intOf]; omega
      | true =>
        rw [hp] at hcall
        have HI : Aside0 (idxOf p l = k) := ⟨idxOf_hit p l k hlt hp (fun j hj => HN.out j (by omega) hj)⟩
        clear hp
        go_wp2_with (go_at_fn g; refine hcall.mono ?_; rintro e w' ⟨rfl, hB1⟩)
        go_ret
        exact ⟨by rw [HI.out]; rfl, HB.out.trans (hB1.mono HB.out.size)⟩
    · have HI : Aside0 (idxOf p l = -1) := ⟨idxOf_miss p l (fun x hx => by obtain ⟨j, hj, rfl⟩ := List.getElem_of_mem hx; exact HN.out j hj (by omega))⟩
      go_wp2
      go_ret
      exact ⟨by rw [HI.out]; rfl, HB.out⟩

set_option maxRecDepth 100000 in
set_option maxHeartbeats 4000000 in
theorem containsFuncU_calls (A : Option Addr) (c : Nat) (l : List Us) (g : Nat) (cb : Array Value) (eg : ∀ args w, (callFunc g args).run Try.prog w = .ok (.enter g args) w) (p : Us → Bool) (w : World) (hr : Kd.C ku w A l.length l)
    (HP : ∀ W x, x ∈ l → Below w.heap.size w W → Calls Try.prog g (#[usV x] ++ cb) W fun e W' => e = .returned (.bool (p x)) ∧ Below W.heap.size W W') :
    Calls Try.prog 35 #[.slice A l.length c, .func (.func g) #[] cb] w fun e W' => e = .returned (.bool (l.any p)) ∧ Below w.heap.size w W' := by
  have hi := indexFuncU_calls A c l g cb eg p w hr HP
  have HA : Aside0 _ := ⟨idxOf_any p l⟩
  clear hr HP
  generalize idxOf p l = i at hi HA
  go_enter Try.func35, Try.ntmps35
  go_wp2_with (go_at_call 60; refine hi.mono ?_; rintro e w' ⟨rfl, hB⟩)
  go_ret
  exact ⟨by rw [← HA.out]; rfl, hB⟩

end Go.Proofs.Ytjgnadighdbjlaa.C
