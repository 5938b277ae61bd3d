/- Zp, Za, Zb, Zc, Zd: joined. -/
import Derived.Test.YtleipbanadnchaaDp
import Derived.OwnWalk
import Derived.Test.YtleipbanadnchaaCk
import Derived.Test.YtleipbanadnchaaDa
import Derived.Test.YtleipbanadnchaaDe
import Derived.Test.YtleipbanadnchaaEd
section
/- Zones, in plain Lean: what is wrong with one, the offset that holds, shifted dates, the seconds of a local date. -/
namespace Go.Proofs.Ytleipbanadnchaa.C
/-- What is wrong with a change, behind those that were looked at. -/
def zleapE (p : Option Int) (x : Int × Int) : Int :=
  if x.2 < -1440 ∨ 1440 < x.2 ∨ x.1 < 0 then 6 else match p with | none => 0 | some q => if x.1 ≤ q then 11 else 0
def zlE : Option Int → List (Int × Int) → Int
  | _, [] => 0
  | p, x :: l => if zleapE p x = 0 then zlE (some x.1) l else zleapE p x
/-- What is wrong with a zone: 0 if nothing is. -/
def zcheckF (o : Int) (l : List (Int × Int)) : Int := if 200 < l.length then 2 else if o < -1440 ∨ 1440 < o then 6 else zlE none l
theorem zlE_offs : ∀ (l : List (Int × Int)) (p : Option Int), zlE p l = 0 → ∀ x ∈ l, -1440 ≤ x.2 ∧ x.2 ≤ 1440 ∧ 0 ≤ x.1
  | [], p, _ => by simp
  | x :: l, p, h => by
    unfold zlE at h
    split at h
    · rename_i h1
      intro z hz
      rcases List.mem_cons.1 hz with rfl | hz
      · unfold zleapE at h1
        split at h1
        · cases h1
        · omega
      · exact zlE_offs l _ h z hz
    · rename_i h1; exact absurd h h1
theorem zcheckF_right {o : Int} {l : List (Int × Int)} (h : zcheckF o l = 0) : l.length ≤ 200 ∧ -1440 ≤ o ∧ o ≤ 1440 ∧ ∀ x ∈ l, -1440 ≤ x.2 ∧ x.2 ≤ 1440 ∧ 0 ≤ x.1 := by
  unfold zcheckF at h
  split at h
  · cases h
  · split at h
    · cases h
    · exact ⟨by omega, by omega, by omega, zlE_offs l _ h⟩
/-- The offset that holds in a second. -/
def holdsF : Int → List (Int × Int) → Int → Int
  | o, [], _ => o
  | o, x :: l, s => holdsF (if x.1 ≤ s then x.2 else o) l s
theorem holds_append (s : Int) : ∀ (l m : List (Int × Int)) (o : Int), holdsF o (l ++ m) s = holdsF (holdsF o l s) m s
  | [], m, o => rfl
  | x :: l, m, o => by simp only [List.cons_append, holdsF]; exact holds_append s l m _
theorem holds_take (o s : Int) {l : List (Int × Int)} {i : Nat} (h : i < l.length) : holdsF o (l.take (i + 1)) s = if l[i].1 ≤ s then l[i].2 else holdsF o (l.take i) s := by
  rw [List.take_add_one, List.getElem?_eq_getElem h, holds_append]
  simp [holdsF]
/-- The offsets of a zone. -/
def offL (o : Int) (l : List (Int × Int)) : List Int := o :: l.map (·.2)
theorem holds_mem (s : Int) : ∀ (l : List (Int × Int)) (o : Int), holdsF o l s ∈ offL o l
  | [], o => by simp [holdsF, offL]
  | x :: l, o => by
    have h := holds_mem s l (if x.1 ≤ s then x.2 else o)
    rw [holdsF]
    unfold offL at *
    rcases List.mem_cons.1 h with e | h
    · rw [e]; split <;> simp
    · exact List.mem_cons_of_mem _ (List.mem_cons_of_mem _ h)
theorem offL_bound {o : Int} {l : List (Int × Int)} (h : zcheckF o l = 0) {n : Int} (hn : n ∈ offL o l) : -1440 ≤ n ∧ n ≤ 1440 := by
  obtain ⟨_, h1, h2, h3⟩ := zcheckF_right h
  unfold offL at hn
  rcases List.mem_cons.1 hn with rfl | hn
  · exact ⟨h1, h2⟩
  · obtain ⟨x, hx, rfl⟩ := List.mem_map.1 hn
    exact ⟨(h3 x hx).1, (h3 x hx).2.1⟩
/-- All offsets of a zone, each once, in the order in which they come. -/
def onceL : List Int → List Int → List Int
  | seen, [] => seen
  | seen, n :: l => onceL (if n ∈ seen then seen else seen ++ [n]) l
def offs (o : Int) (l : List (Int × Int)) : List Int := onceL [o] (l.map (·.2))
theorem onceL_append : ∀ (l m seen : List Int), onceL seen (l ++ m) = onceL (onceL seen l) m
  | [], m, seen => rfl
  | n :: l, m, seen => by simp only [List.cons_append, onceL]; exact onceL_append l m _
theorem onceL_mem (n : Int) : ∀ (l seen : List Int), n ∈ onceL seen l ↔ n ∈ seen ∨ n ∈ l
  | [], seen => by simp [onceL]
  | x :: l, seen => by
    rw [onceL, onceL_mem n l]
    by_cases h : x ∈ seen
    · rw [if_pos h]
      constructor
      · rintro (h1 | h1)
        · exact .inl h1
        · exact .inr (List.mem_cons_of_mem _ h1)
      · rintro (h1 | h1)
        · exact .inl h1
        · rcases List.mem_cons.1 h1 with rfl | h1
          · exact .inl h
          · exact .inr h1
    · rw [if_neg h]
      simp [or_assoc]
theorem onceL_nodup : ∀ (l seen : List Int), seen.Nodup → (onceL seen l).Nodup
  | [], seen, h => h
  | x :: l, seen, h => by
    rw [onceL]
    refine onceL_nodup l _ ?_
    by_cases hx : x ∈ seen
    · rw [if_pos hx]; exact h
    · rw [if_neg hx]
      refine List.nodup_append.2 ⟨h, by simp, fun a ha b hb => ?_⟩
      rw [List.mem_singleton] at hb
      rintro rfl
      exact hx (hb ▸ ha)
theorem offs_mem {o : Int} {l : List (Int × Int)} {n : Int} : n ∈ offs o l ↔ n ∈ offL o l := by
  unfold offs offL
  rw [onceL_mem]
  simp
theorem offs_nodup (o : Int) (l : List (Int × Int)) : (offs o l).Nodup := onceL_nodup _ _ (by simp)
theorem offs_take (o : Int) {l : List (Int × Int)} {i : Nat} (h : i < l.length) : offs o (l.take (i + 1)) = if l[i].2 ∈ offs o (l.take i) then offs o (l.take i) else offs o (l.take i) ++ [l[i].2] := by
  unfold offs
  rw [List.take_add_one, List.getElem?_eq_getElem h, List.map_append, onceL_append]
  simp [onceL]
/-- The minutes of a date some minutes later. -/
def shN (y m d h i q : Int) : Int := 1440 * dayN y m d + 60 * h + i + q
def knownD (n : Int) : Bool := decide (41317 ≤ n) && decide (n ≤ 88068)
/-- The second of a local date under an offset, if there is one. -/
def secU (u : Int) (L : List (Int × Int)) (y m d h i s q : Int) : Option Int :=
  let n := shN y m d h i (-q)
  if knownD (n / 1440) = true ∧ secOk L u (cY (n / 1440)) (cM (n / 1440)) (cD (n / 1440)) (n / 60 % 24) (n % 60) s = true then some (beginF L (n / 1440) + (3600 * (n / 60 % 24) + 60 * (n % 60) + s)) else none
/-- The second of a local date under an offset that holds in it. -/
def secF (u : Int) (L : List (Int × Int)) (o : Int) (l : List (Int × Int)) (y m d h i s q : Int) : Option Int :=
  match secU u L y m d h i s q with
  | none => none
  | some x => if holdsF o l x = q then some x else none
/-- From the greatest offset on. -/
def downF : Nat → Int → List Int
  | 0, _ => []
  | k + 1, n => n :: downF k (n - 1)
theorem downF_mem (x : Int) : ∀ (k : Nat) (n : Int), x ∈ downF k n ↔ n - k < x ∧ x ≤ n
  | 0, n => by simp [downF]
  | k + 1, n => by
    rw [downF, List.mem_cons, downF_mem x k]
    omega
theorem downF_sorted : ∀ (k : Nat) (n : Int), (downF k n).Pairwise (fun a b => b < a)
  | 0, n => List.Pairwise.nil
  | k + 1, n => List.Pairwise.cons (fun x hx => by rw [downF_mem] at hx; omega) (downF_sorted k (n - 1))
/-- The seconds of a local date. -/
def localL (u : Int) (L : List (Int × Int)) (o : Int) (l : List (Int × Int)) (y m d h i s : Int) : List Int := ((downF 2881 1440).filter (fun q => decide (q ∈ offL o l))).filterMap (secF u L o l y m d h i s)
theorem sorted_perm_eq : ∀ {a b : List Int}, a.Perm b → a.Pairwise (· ≤ ·) → b.Pairwise (· ≤ ·) → a = b
  | [], b, hp, _, _ => by simpa using hp.symm.eq_nil.symm
  | x :: a, [], hp, _, _ => by simpa using hp.eq_nil
  | x :: a, y :: b, hp, ha, hb => by
    obtain ⟨h1, h2⟩ := List.pairwise_cons.1 ha
    obtain ⟨h3, h4⟩ := List.pairwise_cons.1 hb
    have hx : x ∈ y :: b := hp.subset (List.mem_cons_self ..)
    have hy : y ∈ x :: a := hp.symm.subset (List.mem_cons_self ..)
    have e : x = y := by
      have e1 : y ≤ x := by rcases List.mem_cons.1 hx with rfl | hx; exact Int.le_refl _; exact h3 x hx
      have e2 : x ≤ y := by rcases List.mem_cons.1 hy with rfl | hy; exact Int.le_refl _; exact h1 y hy
      omega
    subst e
    rw [sorted_perm_eq (List.perm_cons x |>.1 hp) h2 h4]
theorem perm_of_mem {a b : List Int} (ha : a.Nodup) (hb : b.Nodup) (h : ∀ x, x ∈ a ↔ x ∈ b) : a.Perm b := (List.perm_ext_iff_of_nodup ha hb).2 h
theorem secU_some {u : Int} {L : List (Int × Int)} {y m d h i s q x : Int} (hx : secU u L y m d h i s q = some x) :
    knownD (shN y m d h i (-q) / 1440) = true ∧ secOk L u (cY (shN y m d h i (-q) / 1440)) (cM (shN y m d h i (-q) / 1440)) (cD (shN y m d h i (-q) / 1440)) (shN y m d h i (-q) / 60 % 24) (shN y m d h i (-q) % 60) s = true ∧
      x = beginF L (shN y m d h i (-q) / 1440) + (3600 * (shN y m d h i (-q) / 60 % 24) + 60 * (shN y m d h i (-q) % 60) + s) := by
  unfold secU at hx
  simp only at hx
  split at hx
  · rename_i h1; exact ⟨h1.1, h1.2, by injection hx with hx; exact hx.symm⟩
  · cases hx
theorem secOk_parts {L : List (Int × Int)} {u n h i s : Int} (hn : knownD n = true) (hk : secOk L u (cY n) (cM n) (cD n) h i s = true) : 0 ≤ s ∧ 3600 * h + 60 * i + s < 86400 + stepF L n ∧ n < u := by
  unfold knownD at hn
  simp at hn
  have hc := (civ_is hn.1 (by omega)).eq
  unfold secOk at hk
  rw [hc] at hk
  simp at hk
  omega
theorem secU_lt {u : Int} {L : List (Int × Int)} (hR : Right u L) {y m d h i s q1 q2 x1 x2 : Int} (hq : q2 < q1) (h1 : secU u L y m d h i s q1 = some x1) (h2 : secU u L y m d h i s q2 = some x2) : x1 < x2 := by
  obtain ⟨a1, a2, a3⟩ := secU_some h1
  obtain ⟨b1, b2, b3⟩ := secU_some h2
  have a4 := secOk_parts a1 a2
  have b4 := secOk_parts b1 b2
  have hn : shN y m d h i (-q1) < shN y m d h i (-q2) := by unfold shN; omega
  generalize shN y m d h i (-q1) = n1 at *
  generalize shN y m d h i (-q2) = n2 at *
  rcases Int.lt_or_le (n1 / 1440) (n2 / 1440) with hlt | hle
  · have e1 := (hR.next (n1 / 1440)).1
    have e2 := hR.mono (d := n1 / 1440 + 1) (e := n2 / 1440) (by omega)
    omega
  · have e : n1 / 1440 = n2 / 1440 := by omega
    rw [e] at a3
    omega
theorem secF_some {u : Int} {L : List (Int × Int)} {o : Int} {l : List (Int × Int)} {y m d h i s q x : Int} (hx : secF u L o l y m d h i s q = some x) : secU u L y m d h i s q = some x ∧ holdsF o l x = q := by
  unfold secF at hx
  split at hx
  · cases hx
  · rename_i z hz
    split at hx
    · rename_i hh; injection hx with hx; subst hx; exact ⟨hz, hh⟩
    · cases hx
theorem localL_sorted {u : Int} {L : List (Int × Int)} (hR : Right u L) (o : Int) (l : List (Int × Int)) (y m d h i s : Int) : (localL u L o l y m d h i s).Pairwise (· < ·) := by
  unfold localL
  refine List.Pairwise.filterMap _ (R := fun a b => b < a) (fun a a' hr b hb b' hb' => ?_) ((downF_sorted _ _).filter _)
  exact secU_lt hR hr (secF_some hb).1 (secF_some hb').1
theorem local_perm {u : Int} {L : List (Int × Int)} {o : Int} {l : List (Int × Int)} (hz : zcheckF o l = 0) (y m d h i s : Int) : ((offs o l).filterMap (secF u L o l y m d h i s)).Perm (localL u L o l y m d h i s) := by
  unfold localL
  refine List.Perm.filterMap _ (perm_of_mem (offs_nodup o l) (((downF_sorted _ _).imp (fun h => by omega)).filter _) (fun x => ?_))
  rw [offs_mem, List.mem_filter, downF_mem, decide_eq_true_iff]
  constructor
  · intro hx
    have := offL_bound hz hx
    exact ⟨by omega, hx⟩
  · exact fun hx => hx.2
theorem local_eq {u : Int} {L : List (Int × Int)} (hR : Right u L) {o : Int} {l : List (Int × Int)} (hz : zcheckF o l = 0) (y m d h i s : Int) {r : List Int} (hp : r.Perm ((offs o l).filterMap (secF u L o l y m d h i s))) (hs : r.Pairwise (· ≤ ·)) : r = localL u L o l y m d h i s :=
  sorted_perm_eq (hp.trans (local_perm hz y m d h i s)) hs ((localL_sorted hR o l y m d h i s).imp (fun h => by omega))
theorem local_len (u : Int) (L : List (Int × Int)) (o : Int) (l : List (Int × Int)) (y m d h i s : Int) : (localL u L o l y m d h i s).length ≤ 2881 := by
  unfold localL
  have hd : ∀ (k : Nat) (n : Int), (downF k n).length = k := by
    intro k
    induction k with
    | zero => intro n; rfl
    | succ k ih => intro n; simp [downF, ih]
  have h1 := List.length_filterMap_le (secF u L o l y m d h i s) ((downF 2881 1440).filter (fun q => decide (q ∈ offL o l)))
  have h2 := List.length_filter_le (fun q => decide (q ∈ offL o l)) (downF 2881 1440)
  rw [hd] at h2
  omega
end Go.Proofs.Ytleipbanadnchaa.C
end

section
/- The contract of calendar.CheckZone, by hand. -/
namespace Go.Proofs.Ytleipbanadnchaa.C
open Go.RowKit Go.Shelf Go.Maps Go.Proofs.YtleipbanadnchaaW.PrintWords Go.Proofs.YtleipbanadnchaaW.PrintLast Go.Proofs.YtleipbanadnchaaW.PrintMore
set_option linter.unusedVariables false
set_option linter.unusedSimpArgs false
/-- A zone, as Go holds it. -/
abbrev zoneV (o : Int) (A : Option Addr) (n c : Nat) : Value := .agg #[.int .i64 o, .slice A n c]
set_option maxHeartbeats 8000000 in
set_option maxRecDepth 100000 in
theorem zcheck_main (o : Int) (A : Option Addr) (c : Nat) (l : List (Int × Int)) (w : World) (hr : Kd.C kl w A l.length l) (h1 : -1440 ≤ o ∧ o ≤ 1440) (hlen : l.length ≤ 200) :
    Calls Try.prog 94 #[zoneV o A l.length c] w fun e w' => e = .returned (.int .i64 (zlE none l)) ∧ Below w.heap.size w w' := by
  have a81 := fun w => within_calls o (-1440) 1440 w
  rw [show (decide (-1440 ≤ o) && decide (o ≤ 1440)) = true by simp; omega] at a81
  have HR := Aside0.mk hr
  clear hr
  have dlen : decide (200 < (l.length : Int)) = false := decide_eq_false (by omega)
  go_enter Try.func94, Try.ntmps94
  go_wp2_with fail
  refine (a81 _).mono ?_
  rintro en w1 ⟨rfl, hB⟩
  have kx : w1.heap[w.heap.size]? = some (.cells #[.int .i64 o, .slice A l.length c] 76 (0, 0)) := (hB.block _ (by simp)).trans (al_new _ _ _ rfl)
  have hv : Below w.heap.size w w1 := ((Below.refl _ w).alloc (Nat.le_refl _) _).trans (hB.mono (by simp))
  have HV : Aside0 (Below w.heap.size w w1 ∧ w1.heap[w.heap.size]? = some (.cells #[.int .i64 o, .slice A l.length c] 76 (0, 0))) := ⟨hv, kx⟩
  have t1 : w1.cell? ⟨w.heap.size, 1, none⟩ = some (.slice A l.length c) := blk_cell kx 1
  clear hB a81 kx hv
  go_wp2_with fail
  clear t1
  go_loopw [16] (fun v16 wr => ∃ i : Nat, i ≤ l.length ∧ v16 = .int .i64 i ∧ Aside0 (zlE none l = zlE (prevF l i) (l.drop i)) ∧ Aside0 (Below w.heap.size w wr ∧ wr.heap[w.heap.size]? = some (.cells #[.int .i64 o, .slice A l.length c] 76 (0, 0))))
    (fun v _ => l.length - (intOf v).toNat)
  case atStart => exact ⟨0, by omega, rfl, ⟨by simp [prevF]⟩, HV⟩
  case round =>
    obtain ⟨i, hi, rfl, HL, HW⟩ := hrel
    by_cases hlt : i < l.length
    · obtain ⟨ad, rfl, hc0, hc1⟩ := C_leap (Kd.C_below HR.out HW.out.1) i hlt hlt
      have hdr : l.drop i = l[i] :: l.drop (i + 1) := List.drop_eq_getElem_cons hlt
      have hprev := prevF_succ hlt
      have hLL := HL.out
      rw [hdr, zlE] at hLL
      generalize l[i] = x at *
      obtain ⟨xd, xs⟩ := x
      have HLL := Aside0.mk hLL
      clear hdr hLL
      have d1 : decide ((i : Int) < (l.length : Int)) = true := decide_eq_true (by omega)
      have hB0 := HW.out.1
      have hT := HW.out.2
      have hsz : w.heap.size < wr.heap.size := (Array.getElem?_eq_some_iff.1 hT).1
      have c81 := fun w => within_calls xs (-1440) 1440 w
      by_cases hrg : -1440 ≤ xs ∧ xs ≤ 1440
      · rw [show (decide (-1440 ≤ xs) && decide (xs ≤ 1440)) = true by simp; omega] at c81
        have k4f : ∀ w3, Below (wr.heap.size + 1) (wr.alloc (.cells #[.int .i64 xd, .int .i64 xs] 140)) w3 → w3.heap[wr.heap.size]? = some (.cells #[.int .i64 xd, .int .i64 xs] 140 (0, 0)) ∧ Below w.heap.size w w3 ∧ w3.heap[w.heap.size]? = some (.cells #[.int .i64 o, .slice (some ad) l.length c] 76 (0, 0)) := fun w3 hB3 => ⟨(hB3.block _ (by simp)).trans (al_new _ _ _ rfl), (hB0.alloc (by omega) _).trans (hB3.mono (by omega)), (hB3.block _ (by omega)).trans (al_old hT)⟩
        have HKF := Aside0.mk k4f
        clear k4f
        by_cases hneg : xd < 0
        · have HE : Aside0 (zleapE (prevF l i) (xd, xs) = 6) := ⟨by unfold zleapE; rw [if_pos (.inr (.inr hneg))]⟩
          have dn : decide (xd < 0) = true := decide_eq_true hneg
          clear hneg
          go_wp2_with fail
          refine (c81 _).mono ?_
          rintro en w3 ⟨rfl, hB3⟩
          have HK3 := Aside0.mk (HKF.out w3 (by simpa using hB3))
          have e0 : w3.cell? ⟨wr.heap.size, 0, none⟩ = some (.int .i64 xd) := blk_cell HK3.out.1 0
          clear hB3
          go_wp2
          go_ret
          exact ⟨by rw [HLL.out, HE.out]; rfl, HK3.out.2.1⟩
        · have dn : decide (xd < 0) = false := decide_eq_false hneg
          by_cases hi0 : i = 0
          · have HE : Aside0 (zleapE (prevF l i) (xd, xs) = 0) := ⟨by unfold zleapE prevF; rw [if_neg (by simp; omega), if_pos hi0]⟩
            have hi1 : decide (0 < (i : Int)) = false := decide_eq_false (by omega)
            have hi2 : decide (0 < i) = false := decide_eq_false (by omega)
            clear hneg hi0
            go_wp2_with fail
            refine (c81 _).mono ?_
            rintro en w3 ⟨rfl, hB3⟩
            have HK3 := Aside0.mk (HKF.out w3 (by simpa using hB3))
            have e0 : w3.cell? ⟨wr.heap.size, 0, none⟩ = some (.int .i64 xd) := blk_cell HK3.out.1 0
            clear hB3
            go_wp2
            go_quiet (fail)
            try go_wp2
            go_roundw
            case rel => exact ⟨i + 1, by omega, by go_num, ⟨by rw [HLL.out, if_pos HE.out, hprev]⟩, ⟨by first | exact HK3.out.2.1 | exact pw_below_drewN HK3.out.2.1 _ | exact below_drew1 HK3.out.2.1, HK3.out.2.2⟩⟩
            case measure => simp [intOf]; omega
          · obtain ⟨_, ead, p0, _⟩ := C_leap (Kd.C_below HR.out hB0) (i - 1) (by omega) (by omega)
            cases ead
            obtain ⟨pd, hpd⟩ : ∃ pd, (l[i - 1]'(by omega)).1 = pd := ⟨_, rfl⟩
            have hpv : prevF l i = some pd := by unfold prevF; rw [if_neg hi0, List.getElem?_eq_getElem (by omega)]; simp [hpd]
            rw [hpd] at p0
            have hi1 : decide (0 < (i : Int)) = true := decide_eq_true (by omega)
            have hi2 : decide (0 < i) = true := decide_eq_true (by omega)
            have HP0 : Aside0 (wr.cell? (ad.add ((i - 1) * 2)) = some (.int .i64 pd)) := ⟨p0⟩
            have HWR : Aside0 (IntKind.i64.wrap ((i : Int) - 1) = (i : Int) - 1 ∧ (0 : Int) ≤ (i : Int) - 1 ∧ ((i : Int) - 1).toNat = i - 1 ∧ (i : Int) - 1 < (l.length : Int)) := ⟨by rw [show (i : Int) - 1 = ((i - 1 : Nat) : Int) by omega]; refine ⟨wrap_small _ (by omega) (by omega), by omega, by omega, by omega⟩⟩
            clear hpd hi0 p0
            have hcase : ∀ bb, decide (xd ≤ pd) = bb → decide (xd ≤ pd) = bb := fun _ h => h
            by_cases hle : xd ≤ pd
            · have HE : Aside0 (zleapE (prevF l i) (xd, xs) = 11) := ⟨by unfold zleapE; rw [if_neg (by simp; omega), hpv]; simp only; rw [if_pos hle]⟩
              have dle : decide (xd ≤ pd) = true := decide_eq_true hle
              clear hneg hle hpv hcase
              go_wp2_with fail
              refine (c81 _).mono ?_
              rintro en w3 ⟨rfl, hB3⟩
              have p4 : w3.cell? (ad.add ((i - 1) * 2)) = some (.int .i64 pd) := cell_on hB3 (cell_on ((Below.refl _ wr).alloc (Nat.le_refl _) _) HP0.out)
              have HK3 := Aside0.mk (HKF.out w3 (by simpa using hB3))
              have e0 : w3.cell? ⟨wr.heap.size, 0, none⟩ = some (.int .i64 xd) := blk_cell HK3.out.1 0
              have t14 : w3.cell? ⟨w.heap.size, 1, none⟩ = some (.slice (some ad) l.length c) := blk_cell HK3.out.2.2 1
              obtain ⟨wr1, wr2, wr3, wr4⟩ := HWR.out
              clear hB3
              go_wp2
              go_quiet (fail)
              clear wr1
              try go_wp2
              go_ret
              exact ⟨by rw [HLL.out, HE.out]; rfl, by first | exact HK3.out.2.1 | exact pw_below_drewN HK3.out.2.1 _ | exact below_drew1 HK3.out.2.1⟩
            · have HE : Aside0 (zleapE (prevF l i) (xd, xs) = 0) := ⟨by unfold zleapE; rw [if_neg (by simp; omega), hpv]; simp only; rw [if_neg hle]⟩
              have dle : decide (xd ≤ pd) = false := decide_eq_false hle
              clear hneg hle hpv hcase
              go_wp2_with fail
              refine (c81 _).mono ?_
              rintro en w3 ⟨rfl, hB3⟩
              have p4 : w3.cell? (ad.add ((i - 1) * 2)) = some (.int .i64 pd) := cell_on hB3 (cell_on ((Below.refl _ wr).alloc (Nat.le_refl _) _) HP0.out)
              have HK3 := Aside0.mk (HKF.out w3 (by simpa using hB3))
              have e0 : w3.cell? ⟨wr.heap.size, 0, none⟩ = some (.int .i64 xd) := blk_cell HK3.out.1 0
              have t14 : w3.cell? ⟨w.heap.size, 1, none⟩ = some (.slice (some ad) l.length c) := blk_cell HK3.out.2.2 1
              obtain ⟨wr1, wr2, wr3, wr4⟩ := HWR.out
              clear hB3
              go_wp2
              go_quiet (fail)
              clear wr1
              try go_wp2
              go_roundw
              case rel => exact ⟨i + 1, by omega, by go_num, ⟨by rw [HLL.out, if_pos HE.out, hprev]⟩, ⟨by first | exact HK3.out.2.1 | exact pw_below_drewN HK3.out.2.1 _ | exact below_drew1 HK3.out.2.1, HK3.out.2.2⟩⟩
              case measure => simp [intOf]; omega
      · rw [show (decide (-1440 ≤ xs) && decide (xs ≤ 1440)) = false by simp; omega] at c81
        have HE : Aside0 (zleapE (prevF l i) (xd, xs) = 6) := ⟨by unfold zleapE; rw [if_pos (by simp only; omega)]⟩
        clear hrg
        go_wp2_with fail
        refine (c81 _).mono ?_
        rintro en w3 ⟨rfl, hB3⟩
        go_wp2
        go_ret
        exact ⟨by rw [HLL.out, HE.out]; rfl, (hB0.alloc (by omega) _).trans (hB3.mono (by simp; omega))⟩
    · obtain rfl : i = l.length := by omega
      have hz := HL.out
      rw [List.drop_length] at hz
      have HZ := Aside0.mk hz
      clear hz
      go_wp2
      go_ret
      exact ⟨by rw [HZ.out]; rfl, HW.out.1⟩
theorem zcheck_calls (o : Int) (A : Option Addr) (c : Nat) (l : List (Int × Int)) (w : World) (hr : Kd.C kl w A l.length l) :
    Calls Try.prog 94 #[zoneV o A l.length c] w fun e w' => e = .returned (.int .i64 (zcheckF o l)) ∧ Below w.heap.size w w' := by
  unfold zcheckF
  have hm := hr.2.1
  by_cases h0 : 200 < l.length
  · rw [if_pos h0]
    have d0 : decide (200 < (l.length : Int)) = true := decide_eq_true (by omega)
    clear hr
    go_enter Try.func94, Try.ntmps94
    go_wp2
    go_ret
    exact ⟨rfl, (Below.refl _ w).alloc (Nat.le_refl _) _⟩
  · rw [if_neg h0]
    by_cases h1 : o < -1440 ∨ 1440 < o
    · rw [if_pos h1]
      have d0 : decide (200 < (l.length : Int)) = false := decide_eq_false (by omega)
      have a81 := fun w => within_calls o (-1440) 1440 w
      rw [show (decide (-1440 ≤ o) && decide (o ≤ 1440)) = false by simp; omega] at a81
      clear hr h1
      go_enter Try.func94, Try.ntmps94
      go_wp2_with fail
      refine (a81 _).mono ?_
      rintro en w1 ⟨rfl, hB⟩
      go_wp2
      go_ret
      exact ⟨rfl, ((Below.refl _ w).alloc (Nat.le_refl _) _).trans (hB.mono (by simp))⟩
    · rw [if_neg h1]
      exact zcheck_main o A c l w hr (by omega) (by omega)
end Go.Proofs.Ytleipbanadnchaa.C
end

section
/- The reference's CheckZone, and both holds, by hand. -/
namespace Go.Proofs.Ytleipbanadnchaa.C
open Go.RowKit Go.Shelf Go.Maps Go.Proofs.YtleipbanadnchaaW.PrintWords Go.Proofs.YtleipbanadnchaaW.PrintLast Go.Proofs.YtleipbanadnchaaW.PrintMore
set_option linter.unusedVariables false
set_option linter.unusedSimpArgs false
/-- The last second that was looked at. -/
def lastF (l : List (Int × Int)) (i : Nat) : Int := match prevF l i with | none => -1 | some q => q
set_option maxHeartbeats 8000000 in
set_option maxRecDepth 100000 in
theorem rzcheck_main (o : Int) (A : Option Addr) (c : Nat) (l : List (Int × Int)) (w : World) (hr : Kd.C kl w A l.length l) (h1 : -1440 ≤ o ∧ o ≤ 1440) (hlen : l.length ≤ 200) :
    Calls Try.prog 95 #[zoneV o A l.length c] w fun e w' => e = .returned (.int .i64 (zlE none l)) ∧ Below w.heap.size w w' := by
  have a81 := fun w => rin_calls o (-1440) 1440 w
  rw [show (decide (-1440 ≤ o) && decide (o ≤ 1440)) = true by simp; omega] at a81
  have HR := Aside0.mk hr
  clear hr
  have dlen : decide (200 < (l.length : Int)) = false := decide_eq_false (by omega)
  go_enter Try.func95, Try.ntmps95
  go_wp2_with fail
  refine (a81 _).mono ?_
  rintro en w1 ⟨rfl, hB⟩
  have kx : w1.heap[w.heap.size]? = some (.cells #[.int .i64 o, .slice A l.length c] 143 (0, 0)) := (hB.block _ (by simp)).trans (al_new _ _ _ rfl)
  have hv : Below w.heap.size w w1 := ((Below.refl _ w).alloc (Nat.le_refl _) _).trans (hB.mono (by simp))
  have HV : Aside0 (Below w.heap.size w w1 ∧ w1.heap[w.heap.size]? = some (.cells #[.int .i64 o, .slice A l.length c] 143 (0, 0))) := ⟨hv, kx⟩
  clear hB a81 kx hv
  go_wp2_with fail
  go_loopw [3, 4] (fun v3 v4 wr => ∃ i : Nat, i ≤ l.length ∧ v4 = .int .i64 i ∧ v3 = .int .i64 (lastF l i) ∧ Aside0 (zlE none l = zlE (prevF l i) (l.drop i)) ∧ Aside0 (Below w.heap.size w wr ∧ wr.heap[w.heap.size]? = some (.cells #[.int .i64 o, .slice A l.length c] 143 (0, 0))))
    (fun _ v _ => l.length - (intOf v).toNat)
  case atStart => exact ⟨0, by omega, rfl, rfl, ⟨by simp [prevF]⟩, HV⟩
  case round =>
    obtain ⟨i, hi, rfl, rfl, HL, HW⟩ := hrel
    have t1 : wr.cell? ⟨w.heap.size, 1, none⟩ = some (.slice A l.length c) := blk_cell HW.out.2 1
    by_cases hlt : i < l.length
    · obtain ⟨ad, rfl, hc0, hc1⟩ := C_leap (Kd.C_below HR.out HW.out.1) i hlt hlt
      have hdr : l.drop i = l[i] :: l.drop (i + 1) := List.drop_eq_getElem_cons hlt
      have hprev := prevF_succ hlt
      have hlast : lastF l (i + 1) = l[i].1 := by unfold lastF; rw [hprev]
      have hLL := HL.out
      rw [hdr, zlE] at hLL
      generalize l[i] = x at *
      obtain ⟨xd, xs⟩ := x
      have HLL := Aside0.mk hLL
      clear hdr hLL
      have d1 : decide ((i : Int) < (l.length : Int)) = true := decide_eq_true (by omega)
      have hB0 := HW.out.1
      have hT := HW.out.2
      have hsz : w.heap.size < wr.heap.size := (Array.getElem?_eq_some_iff.1 hT).1
      have c81 := fun w => rin_calls xs (-1440) 1440 w
      by_cases hrg : -1440 ≤ xs ∧ xs ≤ 1440
      · rw [show (decide (-1440 ≤ xs) && decide (xs ≤ 1440)) = true by simp; omega] at c81
        have HKF := Aside0.mk (show ∀ w3, Below (wr.heap.size + 1) (wr.alloc (.cells #[.int .i64 xd, .int .i64 xs] 144)) w3 → w3.heap[wr.heap.size]? = some (.cells #[.int .i64 xd, .int .i64 xs] 144 (0, 0)) ∧ Below w.heap.size w w3 ∧ w3.heap[w.heap.size]? = some (.cells #[.int .i64 o, .slice (some ad) l.length c] 143 (0, 0)) from fun w3 hB3 => ⟨(hB3.block _ (by simp)).trans (al_new _ _ _ rfl), (hB0.alloc (by omega) _).trans (hB3.mono (by omega)), (hB3.block _ (by omega)).trans (al_old hT)⟩)
        by_cases hneg : xd < 0
        · have HE : Aside0 (zleapE (prevF l i) (xd, xs) = 6) := ⟨by unfold zleapE; rw [if_pos (.inr (.inr hneg))]⟩
          have dn : decide (xd < 0) = true := decide_eq_true hneg
          clear hneg hlast
          go_wp2_with fail
          refine (c81 _).mono ?_
          rintro en w3 ⟨rfl, hB3⟩
          have HK3 := Aside0.mk (HKF.out w3 (by simpa using hB3))
          have e0 : w3.cell? ⟨wr.heap.size, 0, none⟩ = some (.int .i64 xd) := blk_cell HK3.out.1 0
          clear hB3
          go_wp2
          go_ret
          exact ⟨by rw [HLL.out, HE.out]; rfl, HK3.out.2.1⟩
        · have dn : decide (xd < 0) = false := decide_eq_false hneg
          by_cases hle : xd ≤ lastF l i
          · have HE : Aside0 (zleapE (prevF l i) (xd, xs) = 11) := ⟨by
              unfold zleapE
              rw [if_neg (by simp; omega)]
              unfold lastF at hle
              split at hle
              · omega
              · rename_i q hq
                try rw [hq]
                simp only
                rw [if_pos hle]⟩
            have dle : decide (xd ≤ lastF l i) = true := decide_eq_true hle
            generalize lastF l i = la at *
            clear hneg hle hlast
            go_wp2_with fail
            refine (c81 _).mono ?_
            rintro en w3 ⟨rfl, hB3⟩
            have HK3 := Aside0.mk (HKF.out w3 (by simpa using hB3))
            have e0 : w3.cell? ⟨wr.heap.size, 0, none⟩ = some (.int .i64 xd) := blk_cell HK3.out.1 0
            clear hB3
            go_wp2
            go_ret
            exact ⟨by rw [HLL.out, HE.out]; rfl, HK3.out.2.1⟩
          · have HE : Aside0 (zleapE (prevF l i) (xd, xs) = 0) := ⟨by
              unfold zleapE
              rw [if_neg (by simp; omega)]
              unfold lastF at hle
              split at hle
              · rename_i hq; first | rfl | rw [hq]
              · rename_i q hq
                try rw [hq]
                simp only
                rw [if_neg hle]⟩
            have dle : decide (xd ≤ lastF l i) = false := decide_eq_false hle
            have HLA := Aside0.mk hlast
            generalize lastF l i = la at *
            clear hneg hle hlast
            go_wp2_with fail
            refine (c81 _).mono ?_
            rintro en w3 ⟨rfl, hB3⟩
            have HK3 := Aside0.mk (HKF.out w3 (by simpa using hB3))
            have e0 : w3.cell? ⟨wr.heap.size, 0, none⟩ = some (.int .i64 xd) := blk_cell HK3.out.1 0
            clear hB3
            go_wp2
            go_roundw
            case rel => exact ⟨i + 1, by omega, by go_num, by rw [HLA.out], ⟨by rw [HLL.out, if_pos HE.out, hprev]⟩, ⟨HK3.out.2.1, HK3.out.2.2⟩⟩
            case measure => simp [intOf]; omega
      · rw [show (decide (-1440 ≤ xs) && decide (xs ≤ 1440)) = false by simp; omega] at c81
        have HE : Aside0 (zleapE (prevF l i) (xd, xs) = 6) := ⟨by unfold zleapE; rw [if_pos (by simp only; omega)]⟩
        clear hrg hlast
        go_wp2_with fail
        refine (c81 _).mono ?_
        rintro en w3 ⟨rfl, hB3⟩
        go_wp2
        go_ret
        exact ⟨by rw [HLL.out, HE.out]; rfl, (hB0.alloc (by omega) _).trans (hB3.mono (by simp; omega))⟩
    · obtain rfl : i = l.length := by omega
      have hz := HL.out
      rw [List.drop_length] at hz
      have HZ := Aside0.mk hz
      generalize lastF l l.length = la at *
      clear hz
      go_wp2
      go_ret
      exact ⟨by rw [HZ.out]; rfl, HW.out.1⟩
theorem rzcheck_calls (o : Int) (A : Option Addr) (c : Nat) (l : List (Int × Int)) (w : World) (hr : Kd.C kl w A l.length l) :
    Calls Try.prog 95 #[zoneV o A l.length c] w fun e w' => e = .returned (.int .i64 (zcheckF o l)) ∧ Below w.heap.size w w' := by
  unfold zcheckF
  have hm := hr.2.1
  by_cases h0 : 200 < l.length
  · rw [if_pos h0]
    have d0 : decide (200 < (l.length : Int)) = true := decide_eq_true (by omega)
    clear hr
    go_enter Try.func95, Try.ntmps95
    go_wp2
    go_ret
    exact ⟨rfl, (Below.refl _ w).alloc (Nat.le_refl _) _⟩
  · rw [if_neg h0]
    by_cases h1 : o < -1440 ∨ 1440 < o
    · rw [if_pos h1]
      have d0 : decide (200 < (l.length : Int)) = false := decide_eq_false (by omega)
      have a81 := fun w => rin_calls o (-1440) 1440 w
      rw [show (decide (-1440 ≤ o) && decide (o ≤ 1440)) = false by simp; omega] at a81
      clear hr h1
      go_enter Try.func95, Try.ntmps95
      go_wp2_with fail
      refine (a81 _).mono ?_
      rintro en w1 ⟨rfl, hB⟩
      go_wp2
      go_ret
      exact ⟨rfl, ((Below.refl _ w).alloc (Nat.le_refl _) _).trans (hB.mono (by simp))⟩
    · rw [if_neg h1]
      exact rzcheck_main o A c l w hr (by omega) (by omega)
set_option maxHeartbeats 1000000 in
set_option maxRecDepth 100000 in
theorem holds_calls (o : Int) (A : Option Addr) (c : Nat) (l : List (Int × Int)) (s : Int) (w : World) (hr : Kd.C kl w A l.length l) (hlen : l.length ≤ 1000) :
    Calls Try.prog 99 #[zoneV o A l.length c, .int .i64 s] w fun e w' => e = .returned (.int .i64 (holdsF o l s)) ∧ Below w.heap.size w w' := by
  have HR := Aside0.mk hr
  clear hr
  go_enter Try.func99, Try.ntmps99
  go_wp2_with fail
  go_loopw [13, 5] (fun v13 v5 wr => ∃ i : Nat, i ≤ l.length ∧ v13 = .int .i64 i ∧ v5 = .int .i64 (holdsF o (l.take i) s) ∧ Aside0 (Below w.heap.size w wr)) (fun v _ _ => l.length - (intOf v).toNat)
  case atStart => exact ⟨0, by omega, rfl, rfl, ⟨(Below.refl _ w).alloc (Nat.le_refl _) _⟩⟩
  case round =>
    obtain ⟨i, hi, rfl, rfl, HW⟩ := hrel
    by_cases hlt : i < l.length
    · obtain ⟨ad, rfl, hc0, hc1⟩ := C_leap (Kd.C_below HR.out HW.out) i hlt hlt
      have HS := Aside0.mk (holds_take o s hlt)
      generalize l[i] = x at *
      obtain ⟨xd, xs⟩ := x
      simp only at hc0 hc1 HS
      have d1 : decide ((i : Int) < (l.length : Int)) = true := decide_eq_true (by omega)
      by_cases hx : xd ≤ s
      · have d2 : decide (xd ≤ s) = true := decide_eq_true hx
        rw [if_pos hx] at HS
        generalize holdsF o (l.take i) s = g at *
        clear hx
        go_wp2
        go_roundw
        case rel => exact ⟨i + 1, by omega, by go_num, by rw [HS.out], ⟨HW.out.alloc HW.out.size _⟩⟩
        case measure => simp [intOf]; omega
      · have d2 : decide (xd ≤ s) = false := decide_eq_false hx
        rw [if_neg hx] at HS
        generalize holdsF o (l.take i) s = g at *
        clear hx
        go_wp2
        go_roundw
        case rel => exact ⟨i + 1, by omega, by go_num, by rw [HS.out], ⟨HW.out.alloc HW.out.size _⟩⟩
        case measure => simp [intOf]; omega
    · obtain rfl : i = l.length := by omega
      have HZ : Aside0 (holdsF o (l.take l.length) s = holdsF o l s) := ⟨by rw [List.take_length]⟩
      go_wp2
      go_ret
      exact ⟨by first | rfl | (rw [← HZ.out]; rfl), HW.out⟩
set_option maxHeartbeats 1000000 in
set_option maxRecDepth 100000 in
theorem rholds_calls (o : Int) (A : Option Addr) (c : Nat) (l : List (Int × Int)) (s : Int) (w : World) (hr : Kd.C kl w A l.length l) (hlen : l.length ≤ 1000) :
    Calls Try.prog 118 #[zoneV o A l.length c, .int .i64 s] w fun e w' => e = .returned (.int .i64 (holdsF o l s)) ∧ Below w.heap.size w w' := by
  have HR := Aside0.mk hr
  clear hr
  have hw0 : IntKind.i64.wrap ((l.length : Int) - 1) = (l.length : Int) - 1 := iw _ (by omega) (by omega)
  go_enter Try.func118, Try.ntmps118
  go_wp2_with fail
  clear hw0
  have HV : Aside0 (Below w.heap.size w (w.alloc (.cells #[.int .i64 o, .slice A l.length c] 143)) ∧ (w.alloc (.cells #[.int .i64 o, .slice A l.length c] 143)).heap[w.heap.size]? = some (.cells #[.int .i64 o, .slice A l.length c] 143 (0, 0))) := ⟨(Below.refl _ w).alloc (Nat.le_refl _) _, al_new _ _ _ rfl⟩
  generalize w.alloc (.cells #[.int .i64 o, .slice A l.length c] 143) = W0 at *
  go_loopw [5] (fun v5 wr => ∃ i : Nat, i ≤ l.length ∧ v5 = .int .i64 ((i : Int) - 1) ∧ wr = W0 ∧ Aside0 (holdsF o l s = holdsF o (l.take i) s)) (fun v _ => (intOf v + 1).toNat)
  case atStart => exact ⟨l.length, by omega, rfl, by first | rfl | trivial, ⟨by rw [List.take_length]⟩⟩
  case round =>
    obtain ⟨i, hi, rfl, rfl, HT⟩ := hrel
    have t0 : wr.cell? ⟨w.heap.size, 0, none⟩ = some (.int .i64 o) := blk_cell HV.out.2 0
    have t1 : wr.cell? ⟨w.heap.size, 1, none⟩ = some (.slice A l.length c) := blk_cell HV.out.2 1
    by_cases h0 : i = 0
    · subst h0
      have HZ : Aside0 (holdsF o l s = o) := ⟨by rw [HT.out]; rfl⟩
      go_wp2
      go_ret
      exact ⟨by rw [HZ.out]; rfl, HV.out.1⟩
    · obtain ⟨k, rfl⟩ : ∃ k, i = k + 1 := ⟨i - 1, by omega⟩
      have hlt : k < l.length := by omega
      obtain ⟨ad, rfl, hc0, hc1⟩ := C_leap (Kd.C_below HR.out HV.out.1) k hlt hlt
      have hT := HT.out
      rw [holds_take o s hlt] at hT
      generalize l[k] = x at *
      obtain ⟨xd, xs⟩ := x
      simp only at hc0 hc1 hT
      have e1 : ((k + 1 : Nat) : Int) - 1 = (k : Int) := by omega
      rw [e1]
      have d1 : decide (0 ≤ (k : Int)) = true := decide_eq_true (by omega)
      by_cases hx : xd ≤ s
      · have d2 : decide (xd ≤ s) = true := decide_eq_true hx
        have HZ : Aside0 (holdsF o l s = xs) := ⟨by rw [hT, if_pos hx]⟩
        clear hx hT
        go_wp2
        go_ret
        exact ⟨by rw [HZ.out]; rfl, HV.out.1⟩
      · have d2 : decide (xd ≤ s) = false := decide_eq_false hx
        have HZ : Aside0 (holdsF o l s = holdsF o (l.take k) s) := ⟨by rw [hT, if_neg hx]⟩
        clear hx hT
        go_wp2
        go_roundw
        case rel => exact ⟨k, by omega, by go_num, by first | rfl | trivial, HZ⟩
        case measure => simp [intOf]
end Go.Proofs.Ytleipbanadnchaa.C
end

section
/- Contracts of calendar.shift and the reference's moved, by hand. -/
namespace Go.Proofs.Ytleipbanadnchaa.C
open Go.RowKit Go.Shelf Go.Maps Go.Proofs.YtleipbanadnchaaW.PrintWords Go.Proofs.YtleipbanadnchaaW.PrintLast Go.Proofs.YtleipbanadnchaaW.PrintMore
set_option linter.unusedVariables false
set_option linter.unusedSimpArgs false
/-- What shift answers. -/
def shiftV (y m d h i s q : Int) : Value :=
  if knownD (shN y m d h i q / 1440) = true then dateV (cY (shN y m d h i q / 1440)) (cM (shN y m d h i q / 1440)) (cD (shN y m d h i q / 1440)) (shN y m d h i q / 60 % 24) (shN y m d h i q % 60) s else dateV 0 0 0 0 0 0
theorem shN_bound {y m d h i q : Int} (hok : okD y m d = true) (hh : 0 ≤ h ∧ h ≤ 23) (hi : 0 ≤ i ∧ i ≤ 59) (hq : -1440 ≤ q ∧ q ≤ 1440) : 41317 ≤ dayN y m d ∧ dayN y m d ≤ 88068 ∧ 41316 * 1440 ≤ shN y m d h i q ∧ shN y m d h i q ≤ 88071 * 1440 := by
  have hp := okD_iff.1 hok
  have hc : IsCiv (dayN y m d) y m d := ⟨hp.1, hp.2.2.1, hp.2.2.2.1, hp.2.2.2.2.1, hp.2.2.2.2.2, rfl⟩
  have h1 := hc.in_year
  have h2 := ny_mono (y := 1972) (z := y) hp.1
  have h3 := ny_mono (y := y + 1) (z := 2100) (by omega)
  have e1 : ny 1972 = 41316 := by decide
  have e2 : ny 2100 = 88068 := by decide
  unfold shN
  omega
set_option maxHeartbeats 4000000 in
set_option maxRecDepth 100000 in
theorem shift_calls (y m d h i s q : Int) (hok : okD y m d = true) (hh : 0 ≤ h ∧ h ≤ 23) (hi : 0 ≤ i ∧ i ≤ 59) (hq : -1440 ≤ q ∧ q ≤ 1440) (w : World) :
    Calls Try.prog 100 #[dateV y m d h i s, .int .i64 q] w fun e w' => e = .returned (.tuple #[shiftV y m d h i s q, .bool (knownD (shN y m d h i q / 1440))]) ∧ Below w.heap.size w w' := by
  have hb := shN_bound hok hh hi hq
  have hp := okD_iff.1 hok
  have hml := mlen_bound y m
  have a80 := fun w => number_calls y m d hp.1 (by omega) hp.2.2.1 hp.2.2.2.1 (by omega) (by omega) w
  have hn : shN y m d h i q = 1440 * dayN y m d + 60 * h + i + q := rfl
  unfold shiftV
  generalize shN y m d h i q = n at *
  generalize dayN y m d = N at *
  have hw1 : IntKind.i64.wrap (1440 * N) = 1440 * N := iw _ (by omega) (by omega)
  have hw2 : IntKind.i64.wrap (60 * h) = 60 * h := iw _ (by omega) (by omega)
  have hw3 : IntKind.i64.wrap (1440 * N + 60 * h) = 1440 * N + 60 * h := iw _ (by omega) (by omega)
  have hw4 : IntKind.i64.wrap (1440 * N + 60 * h + i) = 1440 * N + 60 * h + i := iw _ (by omega) (by omega)
  have hw5 : IntKind.i64.wrap (1440 * N + 60 * h + i + q) = n := by rw [hn]; exact iw _ (by omega) (by omega)
  have a87 := fun w => known_calls (n / 1440) w
  have hkn : (decide (41317 ≤ n / 1440) && decide (n / 1440 ≤ 88068)) = knownD (n / 1440) := rfl
  rw [hkn] at a87
  have a85 : knownD (n / 1440) = true → ∀ w, _ := fun hk w => civil_calls (n / 1440) (by unfold knownD at hk; simp at hk; exact hk.1) (by unfold knownD at hk; simp at hk; omega) w
  clear hok hp hml hkn hn
  obtain ⟨W0, hW0⟩ : ∃ W0, (w.alloc (.cells #[.int .i64 y, .int .i64 m, .int .i64 d, .int .i64 h, .int .i64 i, .int .i64 s] 30)).alloc (.cells #[.int .i64 0, .int .i64 0, .int .i64 0, .int .i64 0, .int .i64 0, .int .i64 0] 30) = W0 := ⟨_, rfl⟩
  have hv : Below w.heap.size w W0 := by rw [← hW0]; exact ((Below.refl _ w).alloc (Nat.le_refl _) _).alloc (by simp) _
  have kd : W0.heap[w.heap.size]? = some (.cells #[.int .i64 y, .int .i64 m, .int .i64 d, .int .i64 h, .int .i64 i, .int .i64 s] 30 (0, 0)) := by rw [← hW0]; exact al_old (al_new _ _ _ rfl)
  have kr : W0.heap[w.heap.size + 1]? = some (.cells #[.int .i64 0, .int .i64 0, .int .i64 0, .int .i64 0, .int .i64 0, .int .i64 0] 30 (0, 0)) := by rw [← hW0]; exact al_new _ _ _ (by simp)
  have c0 : W0.cell? ⟨w.heap.size, 0, none⟩ = some (.int .i64 y) := blk_cell kd 0
  have c1 : W0.cell? ⟨w.heap.size, 1, none⟩ = some (.int .i64 m) := blk_cell kd 1
  have c2 : W0.cell? ⟨w.heap.size, 2, none⟩ = some (.int .i64 d) := blk_cell kd 2
  have c3 : W0.cell? ⟨w.heap.size, 3, none⟩ = some (.int .i64 h) := blk_cell kd 3
  have c4 : W0.cell? ⟨w.heap.size, 4, none⟩ = some (.int .i64 i) := blk_cell kd 4
  have c5 : W0.cell? ⟨w.heap.size, 5, none⟩ = some (.int .i64 s) := blk_cell kd 5
  cases hk : knownD (n / 1440)
  · rw [hk] at a87
    rw [if_neg (by simp)]
    clear a85 hk
    go_enter Try.func100, Try.ntmps100
    go_wp2_with fail
    try rw [hW0]
    clear hW0
    have hS : ∀ w', Below W0.heap.size W0 w' → ((w'.cell? ⟨w.heap.size, 0, none⟩ = some (.int .i64 y) ∧ w'.cell? ⟨w.heap.size, 1, none⟩ = some (.int .i64 m) ∧ w'.cell? ⟨w.heap.size, 2, none⟩ = some (.int .i64 d) ∧ w'.cell? ⟨w.heap.size, 3, none⟩ = some (.int .i64 h) ∧ w'.cell? ⟨w.heap.size, 4, none⟩ = some (.int .i64 i)) ∧ Below W0.heap.size W0 w') := fun w' hB => ⟨⟨cell_on hB c0, cell_on hB c1, cell_on hB c2, cell_on hB c3, cell_on hB c4⟩, hB⟩
    go_region_held3 (fun w' => (w'.cell? ⟨w.heap.size, 0, none⟩ = some (.int .i64 y) ∧ w'.cell? ⟨w.heap.size, 1, none⟩ = some (.int .i64 m) ∧ w'.cell? ⟨w.heap.size, 2, none⟩ = some (.int .i64 d) ∧ w'.cell? ⟨w.heap.size, 3, none⟩ = some (.int .i64 h) ∧ w'.cell? ⟨w.heap.size, 4, none⟩ = some (.int .i64 i)) ∧ Below W0.heap.size W0 w') (first | exact hS _ (Below.refl _ _).drew | assumption | (have hh := ‹(_ ∧ _ ∧ _ ∧ _ ∧ _) ∧ Below W0.heap.size W0 _›; exact hS _ (hh.2.trans (hB.mono hh.2.size))))
      (first | (go_at_call 80; refine (a80 _).mono ?_; rintro e w' ⟨rfl, hB⟩))
    rename_i hHeld
    have hB := hHeld.2
    clear hHeld hS hw1 hw2 hw3 hw4 hw5
    rename World => w1
    replace hv := hv.trans (hB.mono hv.size)
    replace kr := (hB.block _ (Array.getElem?_eq_some_iff.1 kr).1).trans kr
    replace c5 := cell_on hB c5
    clear hB c0 c1 c2 c3 c4 kd a80
    go_wp2_with fail
    refine (a87 _).mono ?_
    rintro en w2 ⟨rfl, hB⟩
    replace hv := hv.trans (hB.mono hv.size)
    replace kr := (hB.block _ (Array.getElem?_eq_some_iff.1 kr).1).trans kr
    replace c5 := cell_on hB c5
    clear hB a87
    have hn0 : 0 ≤ n := by omega
    have r0 : w2.cell? ⟨w.heap.size + 1, 0, none⟩ = some (.int .i64 0) := blk_cell kr 0
    have r1 : w2.cell? ⟨w.heap.size + 1, 1, none⟩ = some (.int .i64 0) := blk_cell kr 1
    have r2 : w2.cell? ⟨w.heap.size + 1, 2, none⟩ = some (.int .i64 0) := blk_cell kr 2
    have r3 : w2.cell? ⟨w.heap.size + 1, 3, none⟩ = some (.int .i64 0) := blk_cell kr 3
    have r4 : w2.cell? ⟨w.heap.size + 1, 4, none⟩ = some (.int .i64 0) := blk_cell kr 4
    have r5 : w2.cell? ⟨w.heap.size + 1, 5, none⟩ = some (.int .i64 0) := blk_cell kr 5
    have z0 := blk_frozen kr 0
    have z1 := blk_frozen kr 1
    have z2 := blk_frozen kr 2
    have z3 := blk_frozen kr 3
    have z4 := blk_frozen kr 4
    have z5 := blk_frozen kr 5
    go_wp2
    exact bodyPost_ret (results_row_tmp rfl _ _ (w.heap.size + 1) 30 _ (0, 0) _ rfl (blk_put (blk_put (blk_put (blk_put (blk_put (blk_put kr 0 _ rfl) 1 _ rfl) 2 _ rfl) 3 _ rfl) 4 _ rfl) 5 _ rfl) Try.underlying30 rfl info30) rfl
      ⟨rfl, ((((((hv).setCell (by simp; try omega) _).setCell (by simp; try omega) _).setCell (by simp; try omega) _).setCell (by simp; try omega) _).setCell (by simp; try omega) _).setCell (by simp; try omega) _⟩
  · rw [hk] at a85 a87
    replace a85 := a85 rfl
    rw [if_pos rfl]
    clear hk
    generalize cY (n / 1440) = Y at *
    generalize cM (n / 1440) = M at *
    generalize cD (n / 1440) = D at *
    go_enter Try.func100, Try.ntmps100
    go_wp2_with fail
    try rw [hW0]
    clear hW0
    have hS : ∀ w', Below W0.heap.size W0 w' → ((w'.cell? ⟨w.heap.size, 0, none⟩ = some (.int .i64 y) ∧ w'.cell? ⟨w.heap.size, 1, none⟩ = some (.int .i64 m) ∧ w'.cell? ⟨w.heap.size, 2, none⟩ = some (.int .i64 d) ∧ w'.cell? ⟨w.heap.size, 3, none⟩ = some (.int .i64 h) ∧ w'.cell? ⟨w.heap.size, 4, none⟩ = some (.int .i64 i)) ∧ Below W0.heap.size W0 w') := fun w' hB => ⟨⟨cell_on hB c0, cell_on hB c1, cell_on hB c2, cell_on hB c3, cell_on hB c4⟩, hB⟩
    go_region_held3 (fun w' => (w'.cell? ⟨w.heap.size, 0, none⟩ = some (.int .i64 y) ∧ w'.cell? ⟨w.heap.size, 1, none⟩ = some (.int .i64 m) ∧ w'.cell? ⟨w.heap.size, 2, none⟩ = some (.int .i64 d) ∧ w'.cell? ⟨w.heap.size, 3, none⟩ = some (.int .i64 h) ∧ w'.cell? ⟨w.heap.size, 4, none⟩ = some (.int .i64 i)) ∧ Below W0.heap.size W0 w') (first | exact hS _ (Below.refl _ _).drew | assumption | (have hh := ‹(_ ∧ _ ∧ _ ∧ _ ∧ _) ∧ Below W0.heap.size W0 _›; exact hS _ (hh.2.trans (hB.mono hh.2.size))))
      (first | (go_at_call 80; refine (a80 _).mono ?_; rintro e w' ⟨rfl, hB⟩))
    rename_i hHeld
    have hB := hHeld.2
    clear hHeld hS hw1 hw2 hw3 hw4 hw5
    rename World => w1
    replace hv := hv.trans (hB.mono hv.size)
    replace kr := (hB.block _ (Array.getElem?_eq_some_iff.1 kr).1).trans kr
    replace c5 := cell_on hB c5
    clear hB c0 c1 c2 c3 c4 kd a80
    go_wp2_with fail
    refine (a87 _).mono ?_
    rintro en w2 ⟨rfl, hB⟩
    replace hv := hv.trans (hB.mono hv.size)
    replace kr := (hB.block _ (Array.getElem?_eq_some_iff.1 kr).1).trans kr
    replace c5 := cell_on hB c5
    clear hB a87
    have hn0 : 0 ≤ n := by omega
    have hs0 : w.heap.size + 1 < w2.heap.size := (Array.getElem?_eq_some_iff.1 kr).1
    go_wp2_with fail
    refine (a85 _).mono ?_
    rintro en w3 ⟨rfl, hB⟩
    have ko : w3.heap[w2.heap.size]? = some (.cells #[.int .i64 0, .int .i64 0, .int .i64 0, .int .i64 (n / 60 % 24), .int .i64 (n % 60), .int .i64 s] 30 (0, 0)) := (hB.block _ (by simp)).trans (al_new _ _ _ rfl)
    have kr3 : w3.heap[w.heap.size + 1]? = some (.cells #[.int .i64 0, .int .i64 0, .int .i64 0, .int .i64 0, .int .i64 0, .int .i64 0] 30 (0, 0)) := (hB.block _ (by simp; omega)).trans (al_old kr)
    have hv3 : Below w.heap.size w w3 := (hv.alloc hv.size _).trans (hB.mono (by have := hv.size; simp; omega))
    have hs3 : w.heap.size ≤ w2.heap.size := hv.size
    clear hB a85 hv kr c5
    have u0 : w3.cell? ⟨w2.heap.size, 0, none⟩ = some (.int .i64 0) := blk_cell ko 0
    have u1 : w3.cell? ⟨w2.heap.size, 1, none⟩ = some (.int .i64 0) := blk_cell ko 1
    have u2 : w3.cell? ⟨w2.heap.size, 2, none⟩ = some (.int .i64 0) := blk_cell ko 2
    have x0' : w3.cell? ⟨w2.heap.size, 0, none⟩ = some (.int .i64 0) := blk_cell ko 0
    have x1' : w3.cell? ⟨w2.heap.size, 1, none⟩ = some (.int .i64 0) := blk_cell ko 1
    have x2' : w3.cell? ⟨w2.heap.size, 2, none⟩ = some (.int .i64 0) := blk_cell ko 2
    have x3 : w3.cell? ⟨w2.heap.size, 3, none⟩ = some (.int .i64 (n / 60 % 24)) := blk_cell ko 3
    have x4 : w3.cell? ⟨w2.heap.size, 4, none⟩ = some (.int .i64 (n % 60)) := blk_cell ko 4
    have x5 : w3.cell? ⟨w2.heap.size, 5, none⟩ = some (.int .i64 s) := blk_cell ko 5
    have f0 := blk_frozen ko 0
    have f1 := blk_frozen ko 1
    have f2 := blk_frozen ko 2
    have r0 : w3.cell? ⟨w.heap.size + 1, 0, none⟩ = some (.int .i64 0) := blk_cell kr3 0
    have r1 : w3.cell? ⟨w.heap.size + 1, 1, none⟩ = some (.int .i64 0) := blk_cell kr3 1
    have r2 : w3.cell? ⟨w.heap.size + 1, 2, none⟩ = some (.int .i64 0) := blk_cell kr3 2
    have r3 : w3.cell? ⟨w.heap.size + 1, 3, none⟩ = some (.int .i64 0) := blk_cell kr3 3
    have r4 : w3.cell? ⟨w.heap.size + 1, 4, none⟩ = some (.int .i64 0) := blk_cell kr3 4
    have r5 : w3.cell? ⟨w.heap.size + 1, 5, none⟩ = some (.int .i64 0) := blk_cell kr3 5
    have z0 := blk_frozen kr3 0
    have z1 := blk_frozen kr3 1
    have z2 := blk_frozen kr3 2
    have z3 := blk_frozen kr3 3
    have z4 := blk_frozen kr3 4
    have z5 := blk_frozen kr3 5
    go_wp2
    exact bodyPost_ret (results_row_tmp rfl _ _ (w.heap.size + 1) 30 _ (0, 0) _ rfl (blk_put (blk_put (blk_put (blk_put (blk_put (blk_put (blk_far (blk_far (blk_far kr3 (by simp; omega) _) (by simp; omega) _) (by simp; omega) _) 0 _ rfl) 1 _ rfl) 2 _ rfl) 3 _ rfl) 4 _ rfl) 5 _ rfl) Try.underlying30 rfl info30) rfl
      ⟨rfl, (((((((((hv3.setCell (by simp; omega) _).setCell (by simp; omega) _).setCell (by simp; omega) _)).setCell (by simp; try omega) _).setCell (by simp; try omega) _).setCell (by simp; try omega) _).setCell (by simp; try omega) _).setCell (by simp; try omega) _).setCell (by simp; try omega) _⟩
end Go.Proofs.Ytleipbanadnchaa.C
end

section
/- The contract of the reference's moved, by hand. -/
namespace Go.Proofs.Ytleipbanadnchaa.C
open Go.RowKit Go.Shelf Go.Maps Go.Proofs.YtleipbanadnchaaW.PrintWords Go.Proofs.YtleipbanadnchaaW.PrintLast Go.Proofs.YtleipbanadnchaaW.PrintMore
set_option linter.unusedVariables false
set_option linter.unusedSimpArgs false
theorem info98m : (Try.prog.info? 98).map (·.size) = some 6 := by kernel_rfl
theorem moved_key {N n T : Int} (h0 : 0 ≤ n) (h1 : n < 1440) (ht : 1440 * N + n = T) : T / 1440 = N ∧ T / 60 % 24 = n / 60 ∧ T % 60 = n % 60 := by omega
set_option maxHeartbeats 4000000 in
set_option maxRecDepth 100000 in
theorem moved_calls (y m d h i s q : Int) (hok : okD y m d = true) (hh : 0 ≤ h ∧ h ≤ 23) (hi : 0 ≤ i ∧ i ≤ 59) (hq : -1440 ≤ q ∧ q ≤ 1440) (w : World) :
    Calls Try.prog 119 #[dateV y m d h i s, .int .i64 q] w fun e w' => e = .returned (.tuple #[shiftV y m d h i s q, .bool (knownD (shN y m d h i q / 1440))]) ∧ Below w.heap.size w w' := by
  have hb := shN_bound hok hh hi hq
  have a44 := fun w => refDay_true y m d hok w
  have hn : shN y m d h i q = 1440 * dayN y m d + 60 * h + i + q := rfl
  have a45 := fun w => refCivil_calls (shN y m d h i q / 1440) w
  have hkn : ke (shN y m d h i q / 1440) = if knownD (shN y m d h i q / 1440) = true then 0 else 6 := rfl
  have hkv : ∀ v, kv (shN y m d h i q / 1440) v = if knownD (shN y m d h i q / 1440) = true then v else 0 := fun v => rfl
  unfold shiftV
  generalize shN y m d h i q = T at *
  generalize dayN y m d = N at *
  have hw2 : IntKind.i64.wrap (60 * h) = 60 * h := iw _ (by omega) (by omega)
  have hw3 : IntKind.i64.wrap (60 * h + i) = 60 * h + i := iw _ (by omega) (by omega)
  have hw4 : IntKind.i64.wrap (60 * h + i + q) = 60 * h + i + q := iw _ (by omega) (by omega)
  clear hok
  obtain ⟨W0, hW0⟩ : ∃ W0, (w.alloc (.cells #[.int .i64 y, .int .i64 m, .int .i64 d, .int .i64 h, .int .i64 i, .int .i64 s] 98)).alloc (.cells #[.int .i64 0, .int .i64 0, .int .i64 0, .int .i64 0, .int .i64 0, .int .i64 0] 98) = W0 := ⟨_, rfl⟩
  have hv : Below w.heap.size w W0 := by rw [← hW0]; exact ((Below.refl _ w).alloc (Nat.le_refl _) _).alloc (by simp) _
  have kd : W0.heap[w.heap.size]? = some (.cells #[.int .i64 y, .int .i64 m, .int .i64 d, .int .i64 h, .int .i64 i, .int .i64 s] 98 (0, 0)) := by rw [← hW0]; exact al_old (al_new _ _ _ rfl)
  have kr : W0.heap[w.heap.size + 1]? = some (.cells #[.int .i64 0, .int .i64 0, .int .i64 0, .int .i64 0, .int .i64 0, .int .i64 0] 98 (0, 0)) := by rw [← hW0]; exact al_new _ _ _ (by simp)
  have c0 : W0.cell? ⟨w.heap.size, 0, none⟩ = some (.int .i64 y) := blk_cell kd 0
  have c1 : W0.cell? ⟨w.heap.size, 1, none⟩ = some (.int .i64 m) := blk_cell kd 1
  have c2 : W0.cell? ⟨w.heap.size, 2, none⟩ = some (.int .i64 d) := blk_cell kd 2
  have c3 : W0.cell? ⟨w.heap.size, 3, none⟩ = some (.int .i64 h) := blk_cell kd 3
  have c4 : W0.cell? ⟨w.heap.size, 4, none⟩ = some (.int .i64 i) := blk_cell kd 4
  have c5 : W0.cell? ⟨w.heap.size, 5, none⟩ = some (.int .i64 s) := blk_cell kd 5
  cases hk : knownD (T / 1440)
  · rw [hk] at hkn
    simp only [hk] at hkv
    rw [if_neg (by simp)]
    rw [if_neg (by simp)] at hkn
    rw [hkn] at a45
    clear hkn hkv hk
    go_enter Try.func119, Try.ntmps119
    go_wp2_with fail
    try rw [hW0]
    clear hW0
    refine (a44 _).mono ?_
    rintro en w1 ⟨rfl, hB⟩
    replace hv := hv.trans (hB.mono hv.size)
    replace kr := (hB.block _ (Array.getElem?_eq_some_iff.1 kr).1).trans kr
    replace c3 := cell_on hB c3
    replace c4 := cell_on hB c4
    replace c5 := cell_on hB c5
    clear hB c0 c1 c2 kd a44
    have HN : Aside0 (1440 * N + (60 * h + i + q) = T) := ⟨by omega⟩
    have hn0 : -1440 ≤ 60 * h + i + q ∧ 60 * h + i + q ≤ 2879 := by omega
    clear hn
    go_wp2_with fail
    clear hw2 hw3 hw4 c3 c4
    generalize 60 * h + i + q = n0 at *
    go_loopw [8, 6] (fun v8 v6 wr => ∃ n D : Int, -1440 ≤ n ∧ n ≤ 2879 ∧ v8 = .int .i64 n ∧ v6 = .int .i64 D ∧ Aside0 (1440 * D + n = T) ∧ wr = w1) (fun v _ _ => (4000 - intOf v).toNat)
    case atStart => exact ⟨n0, N, by omega, by omega, rfl, rfl, HN, by first | rfl | trivial⟩
    case round =>
      obtain ⟨n, D, h0, h1, rfl, rfl, HT, rfl⟩ := hrel
      have hDb : 41314 ≤ D ∧ D ≤ 88075 := by have := HT.out; omega
      by_cases hlt : n < 0
      · have d1 : decide (n < 0) = true := decide_eq_true hlt
        go_wp2
        go_roundw
        case rel => exact ⟨n + 1440, D - 1, by omega, by omega, by go_num, by go_num, ⟨by have := HT.out; omega⟩, by first | rfl | trivial⟩
        case measure => simp [intOf]; omega
      · have d1 : decide (n < 0) = false := decide_eq_false hlt
        go_wp2_with fail
        clear d1
        go_loopw [8, 6] (fun v8 v6 wx => ∃ n D : Int, 0 ≤ n ∧ n ≤ 2879 ∧ v8 = .int .i64 n ∧ v6 = .int .i64 D ∧ Aside0 (1440 * D + n = T) ∧ wx = wr) (fun v _ _ => (intOf v).toNat)
        case atStart => exact ⟨n, D, by omega, by omega, rfl, rfl, HT, by first | rfl | trivial⟩
        case round =>
          clear HT hDb hlt h0 h1
          obtain ⟨n, D, h0, h1, rfl, rfl, HT, rfl⟩ := hrel
          have hDb : 41312 ≤ D ∧ D ≤ 88075 := by have := HT.out; omega
          by_cases hlt : 1440 ≤ n
          · have d1 : decide (1440 ≤ n) = true := decide_eq_true hlt
            go_wp2
            go_roundw
            case rel => exact ⟨n - 1440, D + 1, by omega, by omega, by go_num, by go_num, ⟨by have := HT.out; omega⟩, by first | rfl | trivial⟩
            case measure => simp [intOf]; omega
          · have d1 : decide (1440 ≤ n) = false := decide_eq_false hlt
            obtain ⟨e1, e2, e3⟩ := moved_key h0 (by omega) HT.out
            rw [e1] at a45
            clear e1 e2 e3 HN
            go_wp2_with fail
            refine (a45 _).mono ?_
            rintro en w2 ⟨rfl, hB⟩
            have hv2 := hv.trans (hB.mono hv.size)
            have kr2 := (hB.block _ (Array.getElem?_eq_some_iff.1 kr).1).trans kr
            have c52 := cell_on hB c5
            clear hB a45
            have r0 : w2.cell? ⟨w.heap.size + 1, 0, none⟩ = some (.int .i64 0) := blk_cell kr2 0
            have r1 : w2.cell? ⟨w.heap.size + 1, 1, none⟩ = some (.int .i64 0) := blk_cell kr2 1
            have r2 : w2.cell? ⟨w.heap.size + 1, 2, none⟩ = some (.int .i64 0) := blk_cell kr2 2
            have r3 : w2.cell? ⟨w.heap.size + 1, 3, none⟩ = some (.int .i64 0) := blk_cell kr2 3
            have r4 : w2.cell? ⟨w.heap.size + 1, 4, none⟩ = some (.int .i64 0) := blk_cell kr2 4
            have r5 : w2.cell? ⟨w.heap.size + 1, 5, none⟩ = some (.int .i64 0) := blk_cell kr2 5
            have z0 := blk_frozen kr2 0
            have z1 := blk_frozen kr2 1
            have z2 := blk_frozen kr2 2
            have z3 := blk_frozen kr2 3
            have z4 := blk_frozen kr2 4
            have z5 := blk_frozen kr2 5
            go_wp2
            exact bodyPost_ret (results_row_tmp rfl _ _ (w.heap.size + 1) 98 _ (0, 0) _ rfl (blk_put (blk_put (blk_put (blk_put (blk_put (blk_put kr2 0 _ rfl) 1 _ rfl) 2 _ rfl) 3 _ rfl) 4 _ rfl) 5 _ rfl) Try.underlying98 rfl info98m) rfl
              ⟨rfl, ((((((hv2).setCell (by simp; try omega) _).setCell (by simp; try omega) _).setCell (by simp; try omega) _).setCell (by simp; try omega) _).setCell (by simp; try omega) _).setCell (by simp; try omega) _⟩
  · rw [hk] at hkn
    simp only [hk] at hkv
    rw [if_pos rfl]
    rw [if_pos rfl] at hkn
    simp only [hkn, hkv, if_true] at a45
    have HX := Aside0.mk (show ∀ D n, 0 ≤ n → n < 1440 → 1440 * D + n = T → T / 1440 = D ∧ T / 60 % 24 = n / 60 ∧ T % 60 = n % 60 from fun D n a b c => moved_key a b c)
    clear hkn hkv hk
    generalize cY (T / 1440) = Y at *
    generalize cM (T / 1440) = M at *
    generalize cD (T / 1440) = K at *
    obtain ⟨P, hP⟩ : ∃ P, T / 60 % 24 = P := ⟨_, rfl⟩
    obtain ⟨R, hR⟩ : ∃ R, T % 60 = R := ⟨_, rfl⟩
    rw [hP, hR]
    have HPR := Aside0.mk (And.intro hP hR)
    clear hP hR
    go_enter Try.func119, Try.ntmps119
    go_wp2_with fail
    try rw [hW0]
    clear hW0
    refine (a44 _).mono ?_
    rintro en w1 ⟨rfl, hB⟩
    replace hv := hv.trans (hB.mono hv.size)
    replace kr := (hB.block _ (Array.getElem?_eq_some_iff.1 kr).1).trans kr
    replace c3 := cell_on hB c3
    replace c4 := cell_on hB c4
    replace c5 := cell_on hB c5
    clear hB c0 c1 c2 kd a44
    have HN : Aside0 (1440 * N + (60 * h + i + q) = T) := ⟨by omega⟩
    have hn0 : -1440 ≤ 60 * h + i + q ∧ 60 * h + i + q ≤ 2879 := by omega
    clear hn
    go_wp2_with fail
    clear hw2 hw3 hw4 c3 c4
    generalize 60 * h + i + q = n0 at *
    go_loopw [8, 6] (fun v8 v6 wr => ∃ n D : Int, -1440 ≤ n ∧ n ≤ 2879 ∧ v8 = .int .i64 n ∧ v6 = .int .i64 D ∧ Aside0 (1440 * D + n = T) ∧ wr = w1) (fun v _ _ => (4000 - intOf v).toNat)
    case atStart => exact ⟨n0, N, by omega, by omega, rfl, rfl, HN, by first | rfl | trivial⟩
    case round =>
      obtain ⟨n, D, h0, h1, rfl, rfl, HT, rfl⟩ := hrel
      have hDb : 41314 ≤ D ∧ D ≤ 88075 := by have := HT.out; omega
      by_cases hlt : n < 0
      · have d1 : decide (n < 0) = true := decide_eq_true hlt
        go_wp2
        go_roundw
        case rel => exact ⟨n + 1440, D - 1, by omega, by omega, by go_num, by go_num, ⟨by have := HT.out; omega⟩, by first | rfl | trivial⟩
        case measure => simp [intOf]; omega
      · have d1 : decide (n < 0) = false := decide_eq_false hlt
        go_wp2_with fail
        clear d1
        go_loopw [8, 6] (fun v8 v6 wx => ∃ n D : Int, 0 ≤ n ∧ n ≤ 2879 ∧ v8 = .int .i64 n ∧ v6 = .int .i64 D ∧ Aside0 (1440 * D + n = T) ∧ wx = wr) (fun v _ _ => (intOf v).toNat)
        case atStart => exact ⟨n, D, by omega, by omega, rfl, rfl, HT, by first | rfl | trivial⟩
        case round =>
          clear HT hDb hlt h0 h1
          obtain ⟨n, D, h0, h1, rfl, rfl, HT, rfl⟩ := hrel
          have hDb : 41312 ≤ D ∧ D ≤ 88075 := by have := HT.out; omega
          by_cases hlt : 1440 ≤ n
          · have d1 : decide (1440 ≤ n) = true := decide_eq_true hlt
            go_wp2
            go_roundw
            case rel => exact ⟨n - 1440, D + 1, by omega, by omega, by go_num, by go_num, ⟨by have := HT.out; omega⟩, by first | rfl | trivial⟩
            case measure => simp [intOf]; omega
          · have d1 : decide (1440 ≤ n) = false := decide_eq_false hlt
            obtain ⟨e1, e2, e3⟩ := moved_key h0 (by omega) HT.out
            have eP : n / 60 = P := by rw [← e2]; exact HPR.out.1
            have eR : n % 60 = R := by rw [← e3]; exact HPR.out.2
            rw [e1] at a45
            clear e1 e2 e3 HN
            go_wp2_with fail
            refine (a45 _).mono ?_
            rintro en w2 ⟨rfl, hB⟩
            have hv2 := hv.trans (hB.mono hv.size)
            have kr2 := (hB.block _ (Array.getElem?_eq_some_iff.1 kr).1).trans kr
            have c52 := cell_on hB c5
            clear hB a45
            have r0 : w2.cell? ⟨w.heap.size + 1, 0, none⟩ = some (.int .i64 0) := blk_cell kr2 0
            have r1 : w2.cell? ⟨w.heap.size + 1, 1, none⟩ = some (.int .i64 0) := blk_cell kr2 1
            have r2 : w2.cell? ⟨w.heap.size + 1, 2, none⟩ = some (.int .i64 0) := blk_cell kr2 2
            have r3 : w2.cell? ⟨w.heap.size + 1, 3, none⟩ = some (.int .i64 0) := blk_cell kr2 3
            have r4 : w2.cell? ⟨w.heap.size + 1, 4, none⟩ = some (.int .i64 0) := blk_cell kr2 4
            have r5 : w2.cell? ⟨w.heap.size + 1, 5, none⟩ = some (.int .i64 0) := blk_cell kr2 5
            have z0 := blk_frozen kr2 0
            have z1 := blk_frozen kr2 1
            have z2 := blk_frozen kr2 2
            have z3 := blk_frozen kr2 3
            have z4 := blk_frozen kr2 4
            have z5 := blk_frozen kr2 5
            clear HPR HX
            go_wp2
            try rw [eP, eR]
            exact bodyPost_ret (results_row_tmp rfl _ _ (w.heap.size + 1) 98 _ (0, 0) _ rfl (blk_put (blk_put (blk_put (blk_put (blk_put (blk_put kr2 0 _ rfl) 1 _ rfl) 2 _ rfl) 3 _ rfl) 4 _ rfl) 5 _ rfl) Try.underlying98 rfl info98m) rfl
              ⟨by first | rfl | (rw [← eP, ← eR]; rfl), ((((((hv2).setCell (by simp; try omega) _).setCell (by simp; try omega) _).setCell (by simp; try omega) _).setCell (by simp; try omega) _).setCell (by simp; try omega) _).setCell (by simp; try omega) _⟩
end Go.Proofs.Ytleipbanadnchaa.C
end
