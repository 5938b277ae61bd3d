/- The contract of 'Force', by hand. -/
import Derived.Test.YtcaekmalkbaldaaFo
namespace Go.Proofs.Ytcaekmalkbaldaa.M
open Go.RowKit Go.Proofs.YtcaekmalkbaldaaW.PrintWords Go.Proofs.YtcaekmalkbaldaaW.PrintLast Go.Proofs.YtcaekmalkbaldaaW.PrintMore
set_option linter.unusedVariables false
set_option linter.unusedSimpArgs false
section
open Go.Shelf
attribute [local go_sem] Oper.semAt_some
/-- The cells of a row of states. -/
def ents : List S59 → List Value
  | [] => []
  | x :: l => .int .i64 x.f0 :: .int .i64 x.f1 :: ents l
theorem ents_append : ∀ (l m : List S59), ents (l ++ m) = ents l ++ ents m
  | [], m => rfl
  | x :: l, m => by simp [ents, ents_append l m]
theorem ents_len : ∀ (l : List S59), (ents l).length = l.length * 2
  | [] => rfl
  | x :: l => by simp [ents, ents_len l]; omega
theorem ents_at : ∀ (l : List S59) (j : Nat) (x : S59), l[j]? = some x → ((ents l).drop (j * 2)).take 2 = [.int .i64 x.f0, .int .i64 x.f1]
  | [], j, x, h => by simp at h
  | y :: l, 0, x, h => by simp at h; subst h; simp [ents]
  | y :: l, j + 1, x, h => by
    have := ents_at l j x (by simpa using h)
    rw [show (j + 1) * 2 = j * 2 + 2 by omega, ents]
    simpa using this
theorem R_ents {X : World} {base : Nat} {v : Value} {l : List S59} (h : X.ownsRow base 59 2 v l.length (ents l)) : Kd.R k59 59 X base (fun _ => True) v l :=
  ⟨fun _ _ => trivial, ents l, h, ents_len l, fun j x hx => by rw [show j * k59.sz = j * 2 from rfl, show k59.sz = 2 from rfl, ents_at l j x hx]; exact k59_mkM _ _ _ x⟩

/-- What 'Force' answers, from a state that is lost. -/
def forceL (L R S N : Int) (ch : List Int) : List Int → Int → Int → List Int → List Int × Int
  | [], _, _, _ => ([], 21)
  | q :: qs, e, r, out =>
    if (ratesL R S r).contains q = true then
      if isB L R ((bestOf (escF L R ch) (afterL N e q)).getD z59).f0 ((bestOf (escF L R ch) (afterL N e q)).getD z59).f1 = true
      then forceL L R S N ch qs ((bestOf (escF L R ch) (afterL N e q)).getD z59).f0 ((bestOf (escF L R ch) (afterL N e q)).getD z59).f1 (out ++ [((bestOf (escF L R ch) (afterL N e q)).getD z59).f0 - e - q])
      else (out ++ [((bestOf (escF L R ch) (afterL N e q)).getD z59).f0 - e - q], 0)
    else ([], 1)

/-- The frame of 'Force' at the head of a round. -/
def frF (pl ve vr sl p4 p12 p13 vo ln vi : Value) (u : Nat → Value) : Array Value := #[pl, ve, vr, sl, p4, u 5, u 6, u 7, .slice none 0 0, .int .i64 0, u 10, u 11, p12, p13, vo, u 15, u 16, u 17, u 18, u 19, u 20, u 21, u 22, u 23, u 24, u 25, u 26, u 27, u 28, u 29, u 30, u 31, u 32, u 33, u 34, u 35, u 36, u 37, u 38, u 39, u 40, u 41, u 42, u 43, u 44, sl, ln, vi, u 48, u 49, u 50, u 51, u 52, u 53, u 54, u 55, u 56, u 57, u 58, u 59, u 60, u 61, u 62, u 63, u 64, u 65, u 66, u 67, u 68, u 69, u 70, u 71, u 72, u 73, u 74, u 75, u 76, u 77, u 78, u 79, u 80, u 81, u 82, u 83, u 84, u 85, u 86, u 87, u 88, u 89, u 90]
theorem frF_intro (pl ve vr sl p4 p12 p13 vo ln vi x5 x6 x7 x10 x11 x15 x16 x17 x18 x19 x20 x21 x22 x23 x24 x25 x26 x27 x28 x29 x30 x31 x32 x33 x34 x35 x36 x37 x38 x39 x40 x41 x42 x43 x44 x48 x49 x50 x51 x52 x53 x54 x55 x56 x57 x58 x59 x60 x61 x62 x63 x64 x65 x66 x67 x68 x69 x70 x71 x72 x73 x74 x75 x76 x77 x78 x79 x80 x81 x82 x83 x84 x85 x86 x87 x88 x89 x90 : Value) : ∃ u, (#[pl, ve, vr, sl, p4, x5, x6, x7, .slice none 0 0, .int .i64 0, x10, x11, p12, p13, vo, x15, x16, x17, x18, x19, x20, x21, x22, x23, x24, x25, x26, x27, x28, x29, x30, x31, x32, x33, x34, x35, x36, x37, x38, x39, x40, x41, x42, x43, x44, sl, ln, vi, x48, x49, x50, x51, x52, x53, x54, x55, x56, x57, x58, x59, x60, x61, x62, x63, x64, x65, x66, x67, x68, x69, x70, x71, x72, x73, x74, x75, x76, x77, x78, x79, x80, x81, x82, x83, x84, x85, x86, x87, x88, x89, x90] : Array Value) = frF pl ve vr sl p4 p12 p13 vo ln vi u :=
  ⟨fun k => match k with
    | 5 => x5
    | 6 => x6
    | 7 => x7
    | 10 => x10
    | 11 => x11
    | 15 => x15
    | 16 => x16
    | 17 => x17
    | 18 => x18
    | 19 => x19
    | 20 => x20
    | 21 => x21
    | 22 => x22
    | 23 => x23
    | 24 => x24
    | 25 => x25
    | 26 => x26
    | 27 => x27
    | 28 => x28
    | 29 => x29
    | 30 => x30
    | 31 => x31
    | 32 => x32
    | 33 => x33
    | 34 => x34
    | 35 => x35
    | 36 => x36
    | 37 => x37
    | 38 => x38
    | 39 => x39
    | 40 => x40
    | 41 => x41
    | 42 => x42
    | 43 => x43
    | 44 => x44
    | 48 => x48
    | 49 => x49
    | 50 => x50
    | 51 => x51
    | 52 => x52
    | 53 => x53
    | 54 => x54
    | 55 => x55
    | 56 => x56
    | 57 => x57
    | 58 => x58
    | 59 => x59
    | 60 => x60
    | 61 => x61
    | 62 => x62
    | 63 => x63
    | 64 => x64
    | 65 => x65
    | 66 => x66
    | 67 => x67
    | 68 => x68
    | 69 => x69
    | 70 => x70
    | 71 => x71
    | 72 => x72
    | 73 => x73
    | 74 => x74
    | 75 => x75
    | 76 => x76
    | 77 => x77
    | 78 => x78
    | 79 => x79
    | 80 => x80
    | 81 => x81
    | 82 => x82
    | 83 => x83
    | 84 => x84
    | 85 => x85
    | 86 => x86
    | 87 => x87
    | 88 => x88
    | 89 => x89
    | 90 => x90
    | _ => undef, rfl⟩
theorem fo_index_l0 (l : List Int) (a : Int) (hl : l.length ≤ 1000) : ∀ (d k : Nat) (i : Nat), l.length - i = d → d < k → i ≤ l.length → ∃ r, slices_Index_int_int.l0 k l a l.length i = some r ∧ (decide (r ≥ 0)) = (l.drop i).contains a
  | 0, k, i, hd, hk, hi => by
    obtain ⟨k, rfl⟩ : ∃ j, k = j + 1 := ⟨k - 1, by omega⟩
    refine ⟨-1, ?_, ?_⟩
    · unfold slices_Index_int_int.l0
      rw [if_neg (by omega)]
    · rw [List.drop_of_length_le (by omega)]; rfl
  | d + 1, k, i, hd, hk, hi => by
    obtain ⟨k, rfl⟩ : ∃ j, k = j + 1 := ⟨k - 1, by omega⟩
    have hlt : i < l.length := by omega
    have hdr : l.drop i = l[i] :: l.drop (i + 1) := List.drop_eq_getElem_cons hlt
    have hrd : rd l (i : Int) = l[i] := by simp [rd, List.getD_eq_getElem?_getD, hlt]
    by_cases he : a = l[i]
    · refine ⟨i, ?_, ?_⟩
      · unfold slices_Index_int_int.l0
        rw [if_pos (by omega), if_pos (by omega), if_pos (by omega), hrd, if_pos he]
      · rw [hdr, List.contains_cons]; simp [he]
    · obtain ⟨r, h1, h2⟩ := fo_index_l0 l a hl d k (i + 1) (by omega) (by omega) (by omega)
      refine ⟨r, ?_, ?_⟩
      · unfold slices_Index_int_int.l0
        rw [if_pos (by omega), if_pos (by omega), if_pos (by omega), hrd, if_neg he, wrap_small _ (by omega) (by omega)]
        rw [← h1]; congr 1
      · rw [h2, hdr, List.contains_cons]
        simp [he]
theorem fo_contains (l : List Int) (a : Int) (hl : l.length ≤ 1000) : slices_Contains_int_int.f 1001 l a = some (l.contains a) := by
  obtain ⟨r, h1, h2⟩ := fo_index_l0 l a hl l.length 1001 0 (by omega) (by omega) (by omega)
  unfold slices_Contains_int_int.f slices_Index_int_int.f
  rw [show ((0 : Nat) : Int) = 0 from rfl] at h1
  rw [h1]
  simp only [Option.bind_some, h2, List.drop_zero]


theorem cell_two_new (w : World) (a b : Value) (t : TypeId) : ∀ j u, [a, b][j]? = some u → (w.alloc (.cells #[a, b] t)).cell? ((⟨w.heap.size, 0, none⟩ : Addr).add j) = some u := by
  intro j u hj
  match j, hj with
  | 0, hj => simp at hj; subst hj; simp [Addr.add]
  | 1, hj => simp at hj; subst hj; simp [Addr.add]
  | j + 2, hj => simp at hj
theorem info59m : (Try.prog.info? 59).map (fun i => (i.zero, i.size, i.bytes)) = some (some (.agg #[.int .i64 0, .int .i64 0]), 2, 16) := by kernel_rfl
/-- What holds while the states that follow are gathered. -/
def IA (b w3 : Nat) (V : World) (l : List S59) (X : World) : Prop := (∃ vl : Value, X.heap[b]? = some (.cells #[vl] 48 (0, 0)) ∧ X.ownsRow w3 59 2 vl l.length (ents l)) ∧ Below b V X ∧ w3 ≤ X.heap.size
theorem IA.below {b w3 : Nat} {V X Y : World} {l : List S59} (h : IA b w3 V l X) (hb : b ≤ X.heap.size) (hB : Below X.heap.size X Y) : IA b w3 V l Y := by
  obtain ⟨⟨vl, h1, h2⟩, h3, h4⟩ := h
  exact ⟨⟨vl, (hB.block b (Array.getElem?_eq_some_iff.1 h1).1).trans h1, own_move h2 (fun k hk => hB.block k (own_lt h2 k hk))⟩, h3.trans (hB.mono hb), Nat.le_trans h4 hB.size⟩
theorem IA.own {b w3 : Nat} {V : World} (hb : b < w3) (hV : b ≤ V.heap.size) {β : Type} (f : β → List S59) : OwnFrom w3 (fun s X => IA b w3 V (f s) X) := by
  rintro s A B row ⟨⟨vl, h1, h2⟩, h3, h4⟩ hg hr
  have hr2 : ∀ r, row = some r → ∃ o : Obj, A.heap[r]? = some o ∧ o.isCells = false := fun r e => (hr r e).2
  exact ⟨⟨vl, (grownBy_keeps_cells hg hr2 h1 rfl).trans h1, own_kept h2 hg hr2⟩, h3.grown hg (by omega) (fun k e => by have := (hr k e).1; omega), Nat.le_trans h4 hg.size⟩
set_option maxRecDepth 100000 in
set_option maxHeartbeats 16000000 in
theorem force_calls (L R S N e r : Int) (A3 : Option Addr) (c3 : Nat) (rs : List Int) (k0 : Nat) (ch : List Int) (w : World)
    (hi : steer_Index.f L R S N e r = some ((k0 : Int), 0)) (hk0 : k0 < siz L R) (hki : (e + L) * (2 * R + 1) + r + R = k0) (hlen : ch.length = siz L R) (hch : steer_Plan_chart.f L R S N = some ch) (hr3 : Kd.C (Kd.int .i64) w A3 rs.length rs) (hc3 : rs.length ≤ c3) (hrs : rs.length ≤ 100000) (he : isB L R e r = true) (o : List Int) (x : Int) (hres : (if rd ch (k0 : Int) < 1000 then ([], 9) else forceL L R S N ch rs e r []) = (o, x)) :
    Calls Try.prog 28 #[.agg #[.int .i64 L, .int .i64 R, .int .i64 S, .int .i64 N], .int .i64 e, .int .i64 r, .slice A3 rs.length c3] w fun en w' => ∃ (A : Option Addr) (c : Nat), en = .returned (.tuple #[.slice A o.length c, .int .i64 x]) ∧ (o.length ≤ c ∧ Kd.C (Kd.int .i64) w' A o.length o) ∧ Below w.heap.size w w' := by
  have hb : 1 ≤ L ∧ L ≤ 40 ∧ 0 ≤ R ∧ R ≤ 12 ∧ 1 ≤ S ∧ S ≤ 24 ∧ 0 ≤ N ∧ N ≤ 12 := by
    unfold steer_Plan_chart.f rightB at hch
    split at hch
    · rename_i hh; simp at hh; omega
    · cases hch
  obtain ⟨hL0, hL, hR0, hR, hS0, hS, hN0, hN⟩ := hb
  have hbd : -L ≤ e ∧ e ≤ L ∧ -R ≤ r ∧ r ≤ R := by simpa only [isB, Bool.and_eq_true, decide_eq_true_eq, and_assoc] using he
  have hsz := siz_le L R hL hR
  have hsz3 := siz_pos L R hL0 hR0
  have HR3 := Aside0.mk hr3
  have HCH := Aside0.mk hch
  have hkl : k0 < ch.length := by omega
  have hcl9 : ch.length ≤ 9223372036854775807 := by omega
  have HLEN := Aside0.mk hlen
  have HRES := Aside0.mk hres
  clear hr3 hch hlen hres
  refine (callsIn_wide (n := 9)).1 ?_
  refine callsIn_of_wp_marks Try.func28 rfl trivial ?_ rfl
  simp only [Try.ntmps28, List.size_toArray, List.length_cons, List.length_nil, Nat.reduceAdd, Nat.reduceSub, Array.replicate_succ, Array.replicate_zero, List.push_toArray, List.append_toArray, List.nil_append, List.cons_append]
  have f15 : Fence.wide.fn 15 := trivial
  have f37 : Fence.wide.fn 37 := trivial
  have i15 : ∀ W', CallsIn Fence.wide (9 - 1) Try.prog 15 #[.agg #[.int .i64 L, .int .i64 R, .int .i64 S, .int .i64 N], .int .i64 e, .int .i64 r] W' _ := fun W' => callsIn_wide.2 (steer_Index.calls L R S N e r k0 0 W' hi)
  have i37 : ∀ W', CallsIn Fence.wide (9 - 1) Try.prog 37 #[.agg #[.int .i64 L, .int .i64 R, .int .i64 S, .int .i64 N]] W' _ := fun W' => callsIn_wide.2 (steer_Plan_chart.calls L R S N ch W' HCH.out)
  gi_wp2_with (first
    | (gi_at_call 15
       refine (i15 _).mono ?_
       rintro en W1 ⟨rfl, hB1⟩
       have hB1' : Below w.heap.size w W1 := ((Below.refl _ w).alloc (Nat.le_refl _) _).trans (hB1.mono (by simp))
       have kp1 : W1.heap[w.heap.size]? = some (.cells #[.int .i64 L, .int .i64 R, .int .i64 S, .int .i64 N] 24 (0, 0)) := (hB1.block _ (by simp)).trans (al_new _ _ _ rfl)
       have p0 : W1.cell? ⟨w.heap.size, 0, none⟩ = some (.int .i64 L) := blk_cell kp1 0
       have p1 : W1.cell? ⟨w.heap.size, 1, none⟩ = some (.int .i64 R) := blk_cell kp1 1
       have p2 : W1.cell? ⟨w.heap.size, 2, none⟩ = some (.int .i64 S) := blk_cell kp1 2
       have p3 : W1.cell? ⟨w.heap.size, 3, none⟩ = some (.int .i64 N) := blk_cell kp1 3
       clear i15 f15 hB1)
    | (gi_at_call 37
       refine (i37 _).mono ?_
       rintro en W4 ⟨v0, rfl, hRv, hB2⟩
       obtain ⟨Ac, cc, rfl, hcc, hCc⟩ := Kd.R_reads hRv
       have HCc := Aside0.mk hCc
       have HB2 := Aside0.mk hB2
       clear i37 f37 hRv hCc hB2))
  obtain ⟨W5, hW5⟩ : ∃ W5, ((W4.alloc (.cells #[.slice Ac ch.length cc] 30)).alloc (.cells #[.int .i64 e, .int .i64 r] 59)) = W5 := ⟨_, rfl⟩
  rw [hW5]
  have hs1 : w.heap.size + 1 ≤ W1.heap.size := (Array.getElem?_eq_some_iff.1 kp1).1
  have hs4 : W1.heap.size ≤ W4.heap.size := HB2.out.size
  have hs5 : W5.heap.size = W4.heap.size + 2 := by rw [← hW5]; simp
  have hB45 : Below W4.heap.size W4 W5 := by rw [← hW5]; exact ((Below.refl _ W4).alloc (Nat.le_refl _) _).alloc (by simp) _
  have kp4 : W4.heap[w.heap.size]? = some (.cells #[.int .i64 L, .int .i64 R, .int .i64 S, .int .i64 N] 24 (0, 0)) := (HB2.out.block _ (by omega)).trans kp1
  have kp5 : W5.heap[w.heap.size]? = some (.cells #[.int .i64 L, .int .i64 R, .int .i64 S, .int .i64 N] 24 (0, 0)) := (hB45.block _ (by omega)).trans kp4
  have kc5 : W5.heap[W4.heap.size]? = some (.cells #[.slice Ac ch.length cc] 30 (0, 0)) := by rw [← hW5]; exact al_old (al_new _ _ _ rfl)
  have kn5 : W5.heap[W4.heap.size + 1]? = some (.cells #[.int .i64 e, .int .i64 r] 59 (0, 0)) := by rw [← hW5]; exact al_new _ _ _ (by simp)
  obtain ⟨ad, rfl, hcv⟩ := C_int HCc.out k0 (by omega)
  have hkr : ch[k0]'(by omega) = rd ch (k0 : Int) := by simp [rd, List.getD_eq_getElem?_getD, List.getElem?_eq_getElem (show k0 < ch.length by omega)]
  rw [hkr] at hcv
  clear hkr
  have hcv5 : W5.cell? (ad.add k0) = some (.int .i64 (rd ch (k0 : Int))) := cell_on hB45 hcv
  have HW5 := Aside0.mk hW5
  clear hW5 hcv p0 p1 p2 p3 kp1
  have i39 := fun W => index_calls L R S N e r k0 (by omega) hL hR0 hR (by omega) (by omega) (by omega) (by omega) hki W
  have hS5 : ∀ w', Below W5.heap.size W5 w' → ((w'.cell? ⟨w.heap.size, 0, none⟩ = some (.int .i64 L) ∧ w'.cell? ⟨w.heap.size, 1, none⟩ = some (.int .i64 R) ∧ w'.cell? ⟨w.heap.size, 2, none⟩ = some (.int .i64 S) ∧ w'.cell? ⟨w.heap.size, 3, none⟩ = some (.int .i64 N) ∧ w'.cell? ⟨W4.heap.size + 1, 0, none⟩ = some (.int .i64 e) ∧ w'.cell? ⟨W4.heap.size + 1, 1, none⟩ = some (.int .i64 r) ∧ w'.cell? ⟨W4.heap.size, 0, none⟩ = some (.slice (some ad) ch.length cc) ∧ w'.cell? (ad.add k0) = some (.int .i64 (rd ch (k0 : Int)))) ∧ Below W5.heap.size W5 w') := fun w' h0 =>
    have e1 := (h0.block _ (by omega)).trans kp5
    have e2 := (h0.block _ (by omega)).trans kc5
    have e3 := (h0.block _ (by omega)).trans kn5
    ⟨⟨blk_cell e1 0, blk_cell e1 1, blk_cell e1 2, blk_cell e1 3, blk_cell e3 0, blk_cell e3 1, blk_cell e2 0, cell_on h0 hcv5⟩, h0⟩
  refine wpIn_wide.2 ?_
  go_region_held3 (fun w' => (w'.cell? ⟨w.heap.size, 0, none⟩ = some (.int .i64 L) ∧ w'.cell? ⟨w.heap.size, 1, none⟩ = some (.int .i64 R) ∧ w'.cell? ⟨w.heap.size, 2, none⟩ = some (.int .i64 S) ∧ w'.cell? ⟨w.heap.size, 3, none⟩ = some (.int .i64 N) ∧ w'.cell? ⟨W4.heap.size + 1, 0, none⟩ = some (.int .i64 e) ∧ w'.cell? ⟨W4.heap.size + 1, 1, none⟩ = some (.int .i64 r) ∧ w'.cell? ⟨W4.heap.size, 0, none⟩ = some (.slice (some ad) ch.length cc) ∧ w'.cell? (ad.add k0) = some (.int .i64 (rd ch (k0 : Int)))) ∧ Below W5.heap.size W5 w') (first | exact hS5 _ (Below.refl _ _).drew | (have hh := ‹(_ ∧ _ ∧ _ ∧ _ ∧ _ ∧ _ ∧ _ ∧ _) ∧ Below W5.heap.size W5 _›; exact hS5 _ (hh.2.trans (hB.mono hh.2.size))))
    (first | (go_at_call 39; refine (i39 _).mono ?_; rintro e w' ⟨rfl, hB⟩))
  rename_i hHeld
  have hT := hHeld.2
  clear hHeld hS5 i39
  rename World => W6
  have kp6 := (hT.block _ (by omega)).trans kp5
  have kc6 := (hT.block _ (by omega)).trans kc5
  have kn6 := (hT.block _ (by omega)).trans kn5
  have HB46 : Aside0 (Below W4.heap.size W4 W6) := ⟨hB45.trans (hT.mono (by omega))⟩
  have hs6 : W4.heap.size + 2 ≤ W6.heap.size := by have := hT.size; omega
  clear hT kp5 kc5 kn5 hcv5 hB45 HW5 kp4
  have hBw4 : Below w.heap.size w W4 := hB1'.trans (HB2.out.mono (by omega))
  have hBw6 : Below w.heap.size w W6 := hBw4.trans (HB46.out.mono (by omega))
  have HBW := Aside0.mk (And.intro hBw4 hBw6)
  clear hBw4 hBw6 hB1' HB2
  by_cases hlt : rd ch (k0 : Int) < 1000
  · have hd : decide (rd ch (k0 : Int) < 1000) = true := by simpa using hlt
    obtain ⟨rfl, rfl⟩ : [] = o ∧ 9 = x := by have := HRES.out; rw [if_pos hlt] at this; exact Prod.mk.inj this
    clear hlt HRES
    rw [hd]
    clear hd
    gi_wp2
    show LeavesInM Fence.wide 9 Try.prog Try.f28 _ _ _ _ _
    refine leavesM w.heap.size [] W6 List.nodup_nil (fun d hd => by cases hd) (fun Y hY hc => ⟨_, results_tmp2 rfl _ _ _, none, 0, rfl, ⟨Nat.le_refl _, ?_⟩, HBW.out.2.trans hY⟩)
    exact (Kd.R_reads' (Kd.R_nil (Kd.int .i64) 3 Y 0 (fun _ => True))).2.2
  · have hd : decide (rd ch (k0 : Int) < 1000) = false := by simpa using hlt
    have HFL : Aside0 (forceL L R S N ch rs e r [] = (o, x)) := ⟨by have := HRES.out; rwa [if_neg hlt] at this⟩
    clear hlt HRES
    rw [hd]
    clear hd
    gi_wp2
    refine wpIn_loop (fun a W => ∃ (j : Nat) (e1 r1 : Int) (out : List Int) (vo : Value) (ds : List Nat), (∃ u, a.tmps = frF (.agg #[.int .i64 L, .int .i64 R, .int .i64 S, .int .i64 N]) (.int .i64 e) (.int .i64 r) (.slice A3 rs.length c3) (.pointer (some ⟨w.heap.size, 0, none⟩)) (.pointer (some ⟨W4.heap.size, 0, none⟩)) (.pointer (some ⟨W4.heap.size + 1, 0, none⟩)) vo (.int .i64 rs.length) (.int .i64 j) u) ∧ (a.defers = ds.map fun d => { target := .collected d, args := #[] }) ∧
        j ≤ rs.length ∧ isB L R e1 r1 = true ∧ forceL L R S N ch (rs.drop j) e1 r1 out = (o, x) ∧
        W.heap[w.heap.size]? = some (.cells #[.int .i64 L, .int .i64 R, .int .i64 S, .int .i64 N] 24 (0, 0)) ∧ W.heap[W4.heap.size]? = some (.cells #[.slice (some ad) ch.length cc] 30 (0, 0)) ∧ W.heap[W4.heap.size + 1]? = some (.cells #[.int .i64 e1, .int .i64 r1] 59 (0, 0)) ∧
        (W.ownsRow (W4.heap.size + 2) 3 1 vo out.length (nums .i64 out) ∧ out.length = j) ∧ ((∀ d, d ∈ ds → W4.heap.size + 2 ≤ d ∧ W.heap[d]? = some (.deferred (some []))) ∧ ds.Nodup) ∧ Below W4.heap.size W4 W ∧ W4.heap.size + 2 ≤ W.heap.size)
      (fun a _ => rs.length - (intOf (a.tmps.getD 47 undef)).toNat) ?start ?round
    case start =>
      exact ⟨0, e, r, [], .slice none 0 0, [], frF_intro .., rfl, Nat.zero_le _, he, HFL.out, kp6, kc6, kn6, ⟨own_nil _ _ _ _, rfl⟩, ⟨fun d hd => (by cases hd), List.nodup_nil⟩, HB46.out, hs6⟩
    case round =>
      have HW46 := HBW.out.1
      clear kp6 kc6 kn6 HB46 hs6 hB HBW HFL W6 hi hki he hbd
      rintro ⟨tm, df⟩ W ⟨j, e1, r1, out, vo, ds, ⟨u, htm⟩, hdf, hj, hb1, hfl, kp, kc, kn, ⟨hown, hol⟩, ⟨hds, hnd⟩, hB4, hWs⟩
      simp only at htm hdf
      subst htm
      have HND : Aside0 ds.Nodup := ⟨hnd⟩
      have HFL := Aside0.mk hfl
      have HDS := Aside0.mk hds
      have HOWN := Aside0.mk hown
      have HOL := Aside0.mk hol
      have HB1 := Aside0.mk hb1
      have hbd : -L ≤ e1 ∧ e1 ≤ L ∧ -R ≤ r1 ∧ r1 ≤ R := by simpa only [isB, Bool.and_eq_true, decide_eq_true_eq, and_assoc] using hb1
      have HDD := Aside0.mk hdf.symm
      clear hnd hfl hds hown hol hdf hb1
      generalize df = DD at *
      unfold frF
      have hBw : Below w.heap.size w W := HW46.trans (hB4.mono (by omega))
      by_cases hlt : j < rs.length
      · obtain ⟨ad3, rfl, hcq⟩ := C_int (Kd.C_below HR3.out hBw) j hlt
        have HDR : Aside0 (rs.drop j = rs[j] :: rs.drop (j + 1)) := ⟨List.drop_eq_getElem_cons hlt⟩
        generalize rs[j] = q at hcq HDR
        have HBW := Aside0.mk hBw
        have HB4 := Aside0.mk hB4
        clear hBw hB4
        have p0 : W.cell? ⟨w.heap.size, 0, none⟩ = some (.int .i64 L) := blk_cell kp 0
        have p1 : W.cell? ⟨w.heap.size, 1, none⟩ = some (.int .i64 R) := blk_cell kp 1
        have p2 : W.cell? ⟨w.heap.size, 2, none⟩ = some (.int .i64 S) := blk_cell kp 2
        have p3 : W.cell? ⟨w.heap.size, 3, none⟩ = some (.int .i64 N) := blk_cell kp 3
        have n0 : W.cell? ⟨W4.heap.size + 1, 0, none⟩ = some (.int .i64 e1) := blk_cell kn 0
        have n1 : W.cell? ⟨W4.heap.size + 1, 1, none⟩ = some (.int .i64 r1) := blk_cell kn 1
        gi_wp2_with fail
        refine ⟨trivial, ?_⟩
        refine (callsIn_wide.2 (steer_Plan_rates.calls 200 L R S N e1 r1 (ratesL R S r1) W (rates_f L R S N e1 r1 hR0 hR hS0 hS hbd.2.2.1 hbd.2.2.2))).mono ?_
        rintro en X1 ⟨v1, rfl, hRv, hBa⟩
        obtain ⟨A1, cap1, rfl, hcap1, hC1⟩ := Kd.R_reads hRv
        have HBa := Aside0.mk hBa
        clear hRv hBa p0 p1 p2 p3 n0 n1
        have hcon := slices_Contains_int_int.calls 1001 A1 cap1 (ratesL R S r1) q _ X1 hC1 hcap1 (fo_contains (ratesL R S r1) q (by unfold ratesL; rw [List.length_map, List.length_range]; unfold mn mx; split <;> split <;> omega))
        have HMQ : Aside0 ((ratesL R S r1).contains q = true → -R ≤ q ∧ q ≤ R ∧ q ≤ r1 + S ∧ r1 - S ≤ q) := ⟨fun h => rates_mem (by simpa using h)⟩
        have HFL2 : Aside0 (forceL L R S N ch (rs.drop j) e1 r1 out = if (ratesL R S r1).contains q = true then
          if isB L R ((bestOf (escF L R ch) (afterL N e1 q)).getD z59).f0 ((bestOf (escF L R ch) (afterL N e1 q)).getD z59).f1 = true
          then forceL L R S N ch (rs.drop (j + 1)) ((bestOf (escF L R ch) (afterL N e1 q)).getD z59).f0 ((bestOf (escF L R ch) (afterL N e1 q)).getD z59).f1 (out ++ [((bestOf (escF L R ch) (afterL N e1 q)).getD z59).f0 - e1 - q])
          else (out ++ [((bestOf (escF L R ch) (afterL N e1 q)).getD z59).f0 - e1 - q], 0)
          else ([], 1)) := ⟨by rw [HDR.out]; rfl⟩
        clear hC1
        generalize (ratesL R S r1).contains q = cb at hcon HFL2 HMQ
        generalize (ratesL R S r1).length = rl at hcon hcap1
        gi_wp2_with fail
        refine ⟨trivial, ?_⟩
        refine (callsIn_wide.2 hcon).mono ?_
        rintro en X2 ⟨rfl, hDr⟩
        have HBX2 : Aside0 (Below W.heap.size W X2) := ⟨HBa.out.trans (hDr.below.mono HBa.out.size)⟩
        clear hcon hDr HBa
        have hsX2 := HBX2.out.size
        have kp2 := (HBX2.out.block _ (by omega)).trans kp
        have kc2 := (HBX2.out.block _ (by omega)).trans kc
        have kn2 := (HBX2.out.block _ (by omega)).trans kn
        cases cb with
        | false =>
          obtain ⟨rfl, rfl⟩ : [] = o ∧ 1 = x := by have := HFL2.out.symm.trans HFL.out; rw [if_neg (by simp)] at this; exact Prod.mk.inj this
          clear HFL HFL2 kp kc kn
          gi_wp2
          show LeavesInM Fence.wide 9 Try.prog Try.f28 _ _ _ _ _
          rw [← HDD.out]
          refine leavesM w.heap.size ds X2 HND.out (fun d hd => ⟨by have := (HDS.out d hd).1; omega, (HBX2.out.block d (Array.getElem?_eq_some_iff.1 (HDS.out d hd).2).1).trans (HDS.out d hd).2⟩) (fun Y hY hc => ⟨_, results_tmp2 rfl _ _ _, none, 0, rfl, ⟨Nat.le_refl _, ?_⟩, (HBW.out.trans (HBX2.out.mono HBW.out.size)).trans hY⟩)
          exact (Kd.R_reads' (Kd.R_nil (Kd.int .i64) 3 Y 0 (fun _ => True))).2.2
        | true =>
          have hqb := HMQ.out rfl
          have HFL3 : Aside0 ((if isB L R ((bestOf (escF L R ch) (afterL N e1 q)).getD z59).f0 ((bestOf (escF L R ch) (afterL N e1 q)).getD z59).f1 = true
            then forceL L R S N ch (rs.drop (j + 1)) ((bestOf (escF L R ch) (afterL N e1 q)).getD z59).f0 ((bestOf (escF L R ch) (afterL N e1 q)).getD z59).f1 (out ++ [((bestOf (escF L R ch) (afterL N e1 q)).getD z59).f0 - e1 - q])
            else (out ++ [((bestOf (escF L R ch) (afterL N e1 q)).getD z59).f0 - e1 - q], 0)) = (o, x)) := ⟨by have := HFL2.out.symm.trans HFL.out; rwa [if_pos rfl] at this⟩
          clear HFL HFL2 HMQ kp kc kn
          have p0 : X2.cell? ⟨w.heap.size, 0, none⟩ = some (.int .i64 L) := blk_cell kp2 0
          have p1 : X2.cell? ⟨w.heap.size, 1, none⟩ = some (.int .i64 R) := blk_cell kp2 1
          have p2 : X2.cell? ⟨w.heap.size, 2, none⟩ = some (.int .i64 S) := blk_cell kp2 2
          have p3 : X2.cell? ⟨w.heap.size, 3, none⟩ = some (.int .i64 N) := blk_cell kp2 3
          have n0 : X2.cell? ⟨W4.heap.size + 1, 0, none⟩ = some (.int .i64 e1) := blk_cell kn2 0
          have n1 : X2.cell? ⟨W4.heap.size + 1, 1, none⟩ = some (.int .i64 r1) := blk_cell kn2 1
          have l0 : w.heap.size < X2.heap.size := by omega
          have l1 : W4.heap.size + 1 < X2.heap.size := by omega
          have f53 : Fence.wide.fn 53 := trivial
          have a53 : ∀ W', CallsIn Fence.wide (9 - 1) Try.prog 53 #[.agg #[.int .i64 L, .int .i64 R, .int .i64 S, .int .i64 N], .agg #[.int .i64 e1, .int .i64 r1], .int .i64 q] W' _ := fun W' => callsIn_wide.2 (after_calls L R S N e1 r1 q W')
          gi_wp2_with (gi_at_call 53; refine (a53 _).mono ?_; rintro en w' ⟨rfl, rfl⟩)
          obtain ⟨W3, hW3⟩ : ∃ W3, ((((X2.alloc (.cells #[.slice none 0 0] 48)).alloc (.cells #[.int .i64 L, .int .i64 R, .int .i64 S, .int .i64 N] 24)).alloc (.cells #[.int .i64 e1, .int .i64 r1] 59)).alloc (.cells #[.int .i64 q] 3)) = W3 := ⟨_, rfl⟩
          rw [hW3]
          have hs3 : W3.heap.size = X2.heap.size + 4 := by rw [← hW3]; simp
          have hB3 : Below X2.heap.size X2 W3 := by rw [← hW3]; exact ((((Below.refl _ X2).alloc (Nat.le_refl _) _).alloc (by simp) _).alloc (by simp; omega) _).alloc (by simp; omega) _
          have ka : W3.heap[X2.heap.size]? = some (.cells #[.slice none 0 0] 48 (0, 0)) := by rw [← hW3]; exact al_old (al_old (al_old (al_new _ _ _ rfl)))
          have k1 : W3.heap[X2.heap.size + 1]? = some (.cells #[.int .i64 L, .int .i64 R, .int .i64 S, .int .i64 N] 24 (0, 0)) := by rw [← hW3]; exact al_old (al_old (al_new _ _ _ (by simp)))
          have k2 : W3.heap[X2.heap.size + 1 + 1]? = some (.cells #[.int .i64 e1, .int .i64 r1] 59 (0, 0)) := by rw [← hW3]; exact al_old (al_new _ _ _ (by simp))
          have k3 : W3.heap[X2.heap.size + 1 + 2]? = some (.cells #[.int .i64 q] 3 (0, 0)) := by rw [← hW3]; exact al_new _ _ _ (by simp)
          clear hW3 p0 p1 p2 p3 n0 n1 a53 f53
          refine wpIn_rangeFunc_ownH rfl (by decide) (gf := 68) (lb := #[.pointer (some ⟨X2.heap.size + 1, 0, none⟩), .pointer (some ⟨X2.heap.size + 1 + 1, 0, none⟩), .pointer (some ⟨X2.heap.size + 1 + 2, 0, none⟩)]) rfl trivial (enters_of Try.func68 (by kernel_rfl) rfl)
            (after_stops (9 - 1) (by decide) L R S N e1 r1 q _ _ _ W3 k1 k2 k3 hN0 hN (by omega) (by omega) (by omega) (by omega)) SameAt.t (SameAt.b (by simp; omega)) (Below.refl _ _) (fun _ => rfl)
            (fun pre X => IA X2.heap.size W3.heap.size X2 (pre.map fun k : Nat => (⟨e1 + q + (-N + k), q⟩ : S59)) X)
            (fun _ _ _ => False)
            ?hI (fun c _ _ _ _ hs _ _ => hs) ?h0
            (fun k a' X => ∃ Bx, W3.heap.size ≤ Bx ∧ X.heap[Bx]? = some (.cells #[.int .i64 (e1 + q + (-N + k)), .int .i64 q] 59 (0, 0)) ∧ a' = { tmps := #[.agg #[.int .i64 L, .int .i64 R, .int .i64 S, .int .i64 N], .int .i64 e, .int .i64 r, .slice (some ad3) rs.length c3, .pointer (some ⟨w.heap.size, 0, none⟩), u 5, u 6, u 7, .slice none 0 0, .int .i64 0, u 10, u 11, .pointer (some ⟨W4.heap.size, 0, none⟩), .pointer (some ⟨W4.heap.size + 1, 0, none⟩), vo, u 15, .int .i64 q, .func (.func 52) #[] #[.pointer (some ⟨w.heap.size, 0, none⟩), .pointer (some ⟨W4.heap.size, 0, none⟩)], .pointer (some ⟨X2.heap.size, 0, none⟩), u 19, .pointer (some ⟨Bx, 0, none⟩), u 21, u 22, u 23, u 24, u 25, u 26, u 27, u 28, u 29, u 30, u 31, u 32, u 33, u 34, u 35, u 36, u 37, u 38, u 39, u 40, u 41, u 42, u 43, u 44, .slice (some ad3) rs.length c3, .int .i64 rs.length, .int .i64 j, .bool true, .pointer (some (ad3.add j)), .int .i64 q, .agg #[.int .i64 L, .int .i64 R, .int .i64 S, .int .i64 N], .agg #[.int .i64 e1, .int .i64 r1], .slice A1 rl cap1, .int .i64 q, .bool true, .bool false, .func (.func 52) #[] #[.pointer (some ⟨w.heap.size, 0, none⟩), .pointer (some ⟨W4.heap.size, 0, none⟩)], .agg #[.int .i64 L, .int .i64 R, .int .i64 S, .int .i64 N], .agg #[.int .i64 e1, .int .i64 r1], .int .i64 q, .func (.func 68) #[] #[.pointer (some ⟨X2.heap.size + 1, 0, none⟩), .pointer (some ⟨X2.heap.size + 1 + 1, 0, none⟩), .pointer (some ⟨X2.heap.size + 1 + 2, 0, none⟩)], .int .i64 (-N + k), .agg #[.int .i64 (e1 + q + (-N + k)), .int .i64 q], u 64, u 65, u 66, u 67, u 68, u 69, u 70, u 71, u 72, u 73, u 74, u 75, u 76, u 77, u 78, u 79, u 80, u 81, u 82, u 83, u 84, u 85, u 86, u 87, u 88, u 89, u 90], defers := [] })
            ?hAx ?assign ?body ?done ?stop
          case hI => exact IA.own (by omega) (Nat.le_refl _) _
          case h0 => exact ⟨⟨_, ka, own_nil _ _ _ _⟩, hB3, Nat.le_refl _⟩
          case hAx =>
            rintro k a' s A B row ⟨Bx, h1, h2, h3⟩ hg hr
            exact ⟨Bx, h1, (grownBy_keeps_cells hg (fun r e => (hr r e).2) h2 rfl).trans h2, h3⟩
          case assign =>
            rintro l pre k X K hI hK
            have h9 := hI.2.2
            gi_wp2
            exact hK _ _ ((KeepsOthers.alloc _ _).from _) (fun b hb => Below.heap_alloc _ _ _ (by simp at hb; omega)) (hI.below (by omega) ((Below.refl _ _).alloc (Nat.le_refl _) _)) ⟨X.heap.size, h9, al_new _ _ _ rfl, rfl⟩
          case body =>
            rintro l pre k a' X hl ⟨r', hr'⟩ hI ⟨Bx, hBx, hX, rfl⟩ hlt2
            obtain ⟨⟨vl, h1, h2⟩, h3, h4⟩ := hI
            have hv : Boxed X X2.heap.size 48 vl := h1
            have hcl := hv.cell
            have x0 : X.cell? ⟨Bx, 0, none⟩ = some (.int .i64 (e1 + q + (-N + k))) := blk_cell hX 0
            have x1 : X.cell? ⟨Bx, 1, none⟩ = some (.int .i64 q) := blk_cell hX 1
            have hBxl := (Array.getElem?_eq_some_iff.1 hX).1
            have H2 := Aside0.mk h2
            have H3 := Aside0.mk h3
            have hlp : (pre.map fun k : Nat => (⟨e1 + q + (-N + k), q⟩ : S59)).length ≤ 1000 := by rw [List.length_map]; omega
            have HAP : Aside0 ((pre ++ [k]).map (fun k : Nat => (⟨e1 + q + (-N + k), q⟩ : S59)) = (pre.map fun k : Nat => (⟨e1 + q + (-N + k), q⟩ : S59)) ++ [(⟨e1 + q + (-N + k), q⟩ : S59)]) := ⟨by simp⟩
            clear h1 h2 h3 hX
            generalize (pre.map fun k : Nat => (⟨e1 + q + (-N + k), q⟩ : S59)) = pl1 at H2 hlp HAP
            obtain ⟨ii, hii, hz0, hz1, hz2⟩ := info_parts info59m
            gi_wp2_with (gi_at_builtin; refine wpListIn_append_own _ rfl _ _ 48 rfl W3.heap.size 59 ii (.agg #[.int .i64 0, .int .i64 0]) 2 16 Try.underlying48 hii hz0 hz1 hz2 rfl (by decide) _ _ _ rfl (H2.out.alloc _) ⟨X.heap.size, 0, none⟩ 1 1 [.int .i64 (e1 + q + (-N + k)), .int .i64 q] rfl rfl (cell_two_new _ _ _ _) (by simp [Value.oneCell']) (by unfold maxLen; omega) (by omega) (by simp; omega) ?_; intro v' w1 hown' hgrow _; obtain ⟨g', cap', rfl⟩ := ownsRow_succ hown'; obtain ⟨hv1, hv2, hr2, hk2, hb2⟩ := hv.appended (n₀ := X2.heap.size) (by decide) (own_weaken H2.out (by omega)) (by omega) (by omega) (own_weaken hown' (by omega)) hgrow; have hc1 := hv1.cell; have hf1 := hv1.frozen; have HA : Aside0 _ := ⟨And.intro hown' (And.intro hgrow (And.intro hv2 (And.intro hr2 (And.intro hk2 hb2))))⟩; clear hown' hgrow hv1 hv2 hr2 hk2 hb2)
            obtain ⟨hown', hgrow, hv2, hr2, hk2, hb2⟩ := HA.out
            refine ⟨hk2.from _, fun b hb => ?_, ?_⟩
            · simp at hb
              exact appended_block hgrow (by omega) (fun e => by have := own_base H2.out _ e.symm; omega) (by omega)
            · dsimp only
              rw [HAP.out]
              have h5 := own_base hown'
              have h6 := own_move (w1 := w1.setCell ⟨X2.heap.size, 0, none⟩ (.slice (some ⟨g', 0, none⟩) (pl1.length + 1) cap')) hown' (fun q hq => Below.heap_setCell _ _ _ _ (by have := h5 q hq; simp; omega))
              refine ⟨⟨_, hv2, ?_⟩, H3.out.trans hb2, Nat.le_trans h4 hb2.size⟩
              rw [List.length_append, ents_append]
              exact h6
          case done =>
            rintro D xs X hD hxs hI hDK
            rw [hxs] at hI
            replace hI : IA X2.heap.size W3.heap.size X2 (afterL N e1 q) X := hI
            obtain ⟨⟨vl, h1, h2⟩, h3, h4⟩ := hI
            obtain ⟨Aa, capa, rfl, hla, hCa⟩ := Kd.R_reads (R_ents h2)
            have kp7 := (h3.block _ (by omega)).trans kp2
            have kc7 := (h3.block _ (by omega)).trans kc2
            have kn7 := (h3.block _ (by omega)).trans kn2
            have ca : X.cell? ⟨X2.heap.size, 0, none⟩ = some (.slice Aa (afterL N e1 q).length capa) := blk_cell h1 0
            have hCh : Kd.C (Kd.int .i64) X (some ad) ch.length ch := Kd.C_below HCc.out (HB4.out.trans ((HBX2.out.mono (by omega)).trans (h3.mono (by omega))))
            have hbest := bestEnt_calls Aa capa (afterL N e1 q) 52 #[.pointer (some ⟨w.heap.size, 0, none⟩), .pointer (some ⟨W4.heap.size, 0, none⟩)] (enters_of Try.func52 (by kernel_rfl) rfl) (escF L R ch) X hCa (fun Y y hy hY => by
              have hyb : y.f0 = y.f0 ∧ e1 + q - N ≤ y.f0 ∧ y.f0 ≤ e1 + q + N ∧ y.f1 = q := by
                unfold afterL at hy
                obtain ⟨k, hk, rfl⟩ := List.mem_map.1 hy
                rw [List.mem_range] at hk
                refine ⟨rfl, ?_, ?_, rfl⟩ <;> simp only <;> omega
              exact esc_calls L R S N y.f0 y.f1 _ _ (some ad) cc ch Y hL0 hL hR0 hR (by omega) (by omega) (by omega) (by omega) ((hY.block _ (by omega)).trans kp7) ((hY.block _ (by omega)).trans kc7) (Kd.C_below hCh hY) HLEN.out)
            have hnb : (-1000 ≤ ((bestOf (escF L R ch) (afterL N e1 q)).getD z59).f0 ∧ ((bestOf (escF L R ch) (afterL N e1 q)).getD z59).f0 ≤ 1000) ∧ (-100 ≤ ((bestOf (escF L R ch) (afterL N e1 q)).getD z59).f1 ∧ ((bestOf (escF L R ch) (afterL N e1 q)).getD z59).f1 ≤ 100) := by
              cases hbo : bestOf (escF L R ch) (afterL N e1 q) with
              | none => simp [z59]
              | some y =>
                have hy := bestOf_mem hbo
                unfold afterL at hy
                obtain ⟨k, hk, rfl⟩ := List.mem_map.1 hy
                rw [List.mem_range] at hk
                simp only [Option.getD_some]
                omega
            have HI7 := Aside0.mk (And.intro h3 h4)
            have HDK := Aside0.mk hDK
            clear h1 h2 h3 hla hCa hDK k1 k2 k3 ka hB3
            generalize (bestOf (escF L R ch) (afterL N e1 q)).getD z59 = nx at *
            generalize (bestOf (escF L R ch) (afterL N e1 q)).isSome = bs at *
            generalize (afterL N e1 q).length = al at *
            obtain ⟨nx0, nx1⟩ := nx
            simp only at hnb hbest HFL3
            gi_wp2_with fail
            refine ⟨trivial, ?_⟩
            refine (callsIn_wide.2 hbest).mono ?_
            rintro en X5 ⟨rfl, hB5⟩
            have hs5 := hB5.size
            have h37 := HI7.out.1.size
            have kp8 := (hB5.block _ (by omega)).trans kp7
            have kc8 := (hB5.block _ (by omega)).trans kc7
            have kn8 := (hB5.block _ (by omega)).trans kn7
            have HO8 : Aside0 (X5.ownsRow (W4.heap.size + 2) 3 1 vo out.length (nums .i64 out)) := ⟨own_move HOWN.out (fun k hk => by
              have hkl := own_lt HOWN.out k hk
              exact (hB5.block k (by omega)).trans ((HI7.out.1.block k (by omega)).trans (HBX2.out.block k hkl)))⟩
            have HB5 := Aside0.mk hB5
            clear hbest hB5 kp7 kc7 kn7 ca hCh
            have p0 : X5.cell? ⟨w.heap.size, 0, none⟩ = some (.int .i64 L) := blk_cell kp8 0
            have p1 : X5.cell? ⟨w.heap.size, 1, none⟩ = some (.int .i64 R) := blk_cell kp8 1
            have p2 : X5.cell? ⟨w.heap.size, 2, none⟩ = some (.int .i64 S) := blk_cell kp8 2
            have p3 : X5.cell? ⟨w.heap.size, 3, none⟩ = some (.int .i64 N) := blk_cell kp8 3
            have n0 : X5.cell? ⟨W4.heap.size + 1, 0, none⟩ = some (.int .i64 e1) := blk_cell kn8 0
            have n1 : X5.cell? ⟨W4.heap.size + 1, 1, none⟩ = some (.int .i64 r1) := blk_cell kn8 1
            have g0 := blk_frozen kn8 0
            have g1 := blk_frozen kn8 1
            have l5 : w.heap.size < X5.heap.size := by omega
            have l6 : W4.heap.size + 1 < X5.heap.size := by omega
            obtain ⟨ii, hii, hz0, hz1, hz2⟩ := info_parts info3m
            have hol9 : out.length ≤ 100000 := by have := HOL.out; omega
            have hob := own_base HO8.out
            have hol8 := own_lt HO8.out
            have hne1 : w.heap.size ≠ W4.heap.size + 1 := by omega
            have hne2 : W4.heap.size + 1 ≠ w.heap.size := by omega
            have f38 : Fence.wide.fn 38 := trivial
            have a38 : ∀ W', CallsIn Fence.wide (9 - 1) Try.prog 38 #[.agg #[.int .i64 L, .int .i64 R, .int .i64 S, .int .i64 N], .agg #[.int .i64 nx0, .int .i64 nx1]] W' (fun en w' => en = .returned (.bool (isB L R nx0 nx1)) ∧ Below W'.heap.size W' w') := fun W' => callsIn_wide.2 (is_calls L R S N nx0 nx1 (by omega) (by omega) (by omega) (by omega) W')
            generalize hib : isB L R nx0 nx1 = ib at a38
            have HIB := Aside0.mk hib
            clear hib
            gi_wp2_with (first
              | (gi_at_builtin
                 refine wpListIn_append_own _ rfl _ _ 30 rfl (W4.heap.size + 2) 3 ii (.int .i64 0) 1 8 Try.underlying30 hii hz0 hz1 hz2 rfl (by decide) _ _ _ rfl ((HO8.out.alloc _).alloc _) ⟨X5.heap.size + 1, 0, none⟩ 1 1 [.int .i64 (nx0 - e1 - q)] rfl rfl (by intro jj uu hjj; have := cell_one_new (X5.alloc (Obj.cells #[Value.int IntKind.i64 nx0, Value.int IntKind.i64 nx1] 59)) (.int .i64 (nx0 - e1 - q)) 3 jj uu hjj; simpa using this) (by simp [Value.oneCell']) (by unfold maxLen; omega) (by omega) (by simp; omega) ?_
                 intro v' w1 hown' hgrow _
                 obtain ⟨g', cap', rfl⟩ := ownsRow_succ hown'
                 have hm : ∀ {qq : Nat}, qq < W4.heap.size + 2 → w1.heap[qq]? = X5.heap[qq]? := fun {qq} h2 => (hgrow.block _ (by simp; omega) (fun e => by have := hob _ e.symm; omega)).trans ((Below.heap_alloc _ _ _ (by simp; omega)).trans (Below.heap_alloc _ _ _ (by omega)))
                 have hx9 : w1.heap[X5.heap.size]? = some (.cells #[.int .i64 nx0, .int .i64 nx1] 59 (0, 0)) := (hgrow.block _ (by simp <;> omega) (fun e => by have := hol8 _ e.symm; omega)).trans ((Below.heap_alloc _ _ _ (by simp)).trans (World.alloc_heap_new _ _))
                 have kp9 := (hm (by omega)).trans kp8
                 have kc9 := (hm (by omega)).trans kc8
                 have kn9 := (hm (by omega)).trans kn8
                 have hs9 : X5.heap.size + 2 ≤ w1.heap.size := by have := hgrow.size; simpa using this
                 have q0 : w1.cell? ⟨w.heap.size, 0, none⟩ = some (.int .i64 L) := blk_cell kp9 0
                 have q1 : w1.cell? ⟨w.heap.size, 1, none⟩ = some (.int .i64 R) := blk_cell kp9 1
                 have q2 : w1.cell? ⟨w.heap.size, 2, none⟩ = some (.int .i64 S) := blk_cell kp9 2
                 have q3 : w1.cell? ⟨w.heap.size, 3, none⟩ = some (.int .i64 N) := blk_cell kp9 3
                 have m0 : w1.cell? ⟨W4.heap.size + 1, 0, none⟩ = some (.int .i64 e1) := blk_cell kn9 0
                 have m1 : w1.cell? ⟨W4.heap.size + 1, 1, none⟩ = some (.int .i64 r1) := blk_cell kn9 1
                 have y0 : w1.cell? ⟨X5.heap.size, 0, none⟩ = some (.int .i64 nx0) := blk_cell hx9 0
                 have y1 : w1.cell? ⟨X5.heap.size, 1, none⟩ = some (.int .i64 nx1) := blk_cell hx9 1
                 have g2 := blk_frozen kn9 0
                 have g3 := blk_frozen kn9 1
                 have HA := Aside0.mk (And.intro hown' hgrow)
                 clear hown' hgrow hx9 p0 p1 p2 p3 n0 n1 g0 g1)
              | (gi_at_call 38
                 refine (a38 _).mono ?_
                 rintro en X9 ⟨rfl, hB9⟩
                 clear a38 f38))
            · rename_i hib
              obtain ⟨hown', hgrow⟩ := HA.out
              have hob2 := own_base hown'
              have hol2 := own_lt hown'
              have hA1 : Below W4.heap.size X5 w1 := (((Below.refl _ X5).alloc (by omega) _).alloc (by simp; omega) _).grown hgrow (by simp; omega) (fun k e => by have := hob k e; omega)
              have hA2 := (hA1.setCell (p := ⟨W4.heap.size + 1, 0, none⟩) (by simp) (.int .i64 nx0)).setCell (p := ⟨W4.heap.size + 1, 1, none⟩) (by simp) (.int .i64 nx1)
              have hYs : ((w1.setCell ⟨W4.heap.size + 1, 0, none⟩ (.int .i64 nx0)).setCell ⟨W4.heap.size + 1, 1, none⟩ (.int .i64 nx1)).heap.size = w1.heap.size := by simp [World.setCell]
              have hY : ∀ qq : Nat, qq ≠ W4.heap.size + 1 → ((w1.setCell ⟨W4.heap.size + 1, 0, none⟩ (.int .i64 nx0)).setCell ⟨W4.heap.size + 1, 1, none⟩ (.int .i64 nx1)).heap[qq]? = w1.heap[qq]? := fun qq h => (Below.heap_setCell _ _ _ _ h).trans (Below.heap_setCell _ _ _ _ h)
              have hkn := blk_set (blk_set kn9 0 (.int .i64 nx0)) 1 (.int .i64 nx1)
              have hs10 := hB9.size
              generalize ((w1.setCell ⟨W4.heap.size + 1, 0, none⟩ (.int .i64 nx0)).setCell ⟨W4.heap.size + 1, 1, none⟩ (.int .i64 nx1)) = Y1 at *
              have kp10 := (hB9.block _ (by omega)).trans ((hY _ hne1).trans kp9)
              have kc10 := (hB9.block _ (by omega)).trans ((hY _ (by omega)).trans kc9)
              have kn10 := (hB9.block _ (by omega)).trans hkn
              have hA3 : Below W4.heap.size W4 X9 := HB4.out.trans ((HBX2.out.mono (by omega)).trans ((HI7.out.1.mono (by omega)).trans ((HB5.out.mono (by omega)).trans (hA2.trans (hB9.mono (by omega))))))
              have hnl : nums .i64 out ++ [.int .i64 (nx0 - e1 - q)] = nums .i64 (out ++ [nx0 - e1 - q]) := by simp [nums]
              have hown10 : X9.ownsRow (W4.heap.size + 2) 3 1 (.slice (some ⟨g', 0, none⟩) (out.length + 1) cap') (out ++ [nx0 - e1 - q]).length (nums .i64 (out ++ [nx0 - e1 - q])) := by
                have := own_move (w1 := X9) hown' (fun k hk => (hB9.block k (by have := hol2 k hk; omega)).trans (hY k (by have := hob2 k hk; omega)))
                rw [hnl] at this
                simpa using this
              have hmark : ∀ d : Nat, X5.heap[d]? = some (.deferred (some [])) → X9.heap[d]? = some (.deferred (some [])) := fun d hd =>
                have hdl := (Array.getElem?_eq_some_iff.1 hd).1
                have hdne : d ≠ W4.heap.size + 1 := fun e => by subst e; rw [kn8] at hd; cases hd
                (hB9.block d (by omega)).trans ((hY d hdne).trans ((hgrow.block d (by simp; omega) (not_own HO8.out hd (fun c e => by cases e))).trans ((Below.heap_alloc _ _ _ (by simp; omega)).trans ((Below.heap_alloc _ _ _ hdl).trans hd))))
              have hmarks : ∀ d : Nat, d ∈ D :: ds → W4.heap.size + 2 ≤ d ∧ X9.heap[d]? = some (.deferred (some [])) := fun d hd => by
                rcases List.mem_cons.1 hd with rfl | hd
                · exact ⟨by omega, hmark _ ((HB5.out.block _ (Array.getElem?_eq_some_iff.1 HDK.out).1).trans HDK.out)⟩
                · have h1 := HDS.out d hd
                  have h2 := (Array.getElem?_eq_some_iff.1 h1.2).1
                  exact ⟨h1.1, hmark d ((HB5.out.block d (by omega)).trans ((HI7.out.1.block d (by omega)).trans ((HBX2.out.block d h2).trans h1.2)))⟩
              have hnod : (D :: ds).Nodup := List.nodup_cons.2 ⟨fun hm => by have := (Array.getElem?_eq_some_iff.1 (HDS.out D hm).2).1; omega, HND.out⟩
              have hdd : ({ target := .collected D, args := #[] } :: DD : List Deferred) = (D :: ds).map fun d => { target := .collected d, args := #[] } := by rw [List.map_cons, HDD.out]
              obtain rfl : ib = false := by simpa using hib
              obtain ⟨rfl, rfl⟩ : out ++ [nx0 - e1 - q] = o ∧ 0 = x := by have := HFL3.out; rw [if_neg (by rw [HIB.out]; simp)] at this; exact Prod.mk.inj this
              show LeavesInM Fence.wide 9 Try.prog Try.f28 _ _ _ _ _
              rw [hdd]
              refine leavesM w.heap.size (D :: ds) X9 hnod (fun d hd => ⟨by have := (hmarks d hd).1; omega, (hmarks d hd).2⟩) (fun Z hZ hc => ⟨_, results_tmp2 rfl _ _ _, some ⟨g', 0, none⟩, cap', by simp, ?_, (HW46.trans (hA3.mono (by omega))).trans hZ⟩)
              have h9 := Kd.R_reads' (Kd.R_of_own (h1 := fun _ => rfl) (own_move (w1 := Z) hown10 (fun k hk => by
                obtain ⟨cells, hcq⟩ := own_typed hown10 k hk
                rw [hc k _ hcq rfl, hcq])) (fun _ _ => trivial) (ok := fun _ => True))
              rw [h9.1] at h9
              exact ⟨h9.2.1, h9.2.2⟩
            · rename_i hib
              obtain ⟨hown', hgrow⟩ := HA.out
              have hob2 := own_base hown'
              have hol2 := own_lt hown'
              have hA1 : Below W4.heap.size X5 w1 := (((Below.refl _ X5).alloc (by omega) _).alloc (by simp; omega) _).grown hgrow (by simp; omega) (fun k e => by have := hob k e; omega)
              have hA2 := (hA1.setCell (p := ⟨W4.heap.size + 1, 0, none⟩) (by simp) (.int .i64 nx0)).setCell (p := ⟨W4.heap.size + 1, 1, none⟩) (by simp) (.int .i64 nx1)
              have hYs : ((w1.setCell ⟨W4.heap.size + 1, 0, none⟩ (.int .i64 nx0)).setCell ⟨W4.heap.size + 1, 1, none⟩ (.int .i64 nx1)).heap.size = w1.heap.size := by simp [World.setCell]
              have hY : ∀ qq : Nat, qq ≠ W4.heap.size + 1 → ((w1.setCell ⟨W4.heap.size + 1, 0, none⟩ (.int .i64 nx0)).setCell ⟨W4.heap.size + 1, 1, none⟩ (.int .i64 nx1)).heap[qq]? = w1.heap[qq]? := fun qq h => (Below.heap_setCell _ _ _ _ h).trans (Below.heap_setCell _ _ _ _ h)
              have hkn := blk_set (blk_set kn9 0 (.int .i64 nx0)) 1 (.int .i64 nx1)
              have hs10 := hB9.size
              generalize ((w1.setCell ⟨W4.heap.size + 1, 0, none⟩ (.int .i64 nx0)).setCell ⟨W4.heap.size + 1, 1, none⟩ (.int .i64 nx1)) = Y1 at *
              have kp10 := (hB9.block _ (by omega)).trans ((hY _ hne1).trans kp9)
              have kc10 := (hB9.block _ (by omega)).trans ((hY _ (by omega)).trans kc9)
              have kn10 := (hB9.block _ (by omega)).trans hkn
              have hA3 : Below W4.heap.size W4 X9 := HB4.out.trans ((HBX2.out.mono (by omega)).trans ((HI7.out.1.mono (by omega)).trans ((HB5.out.mono (by omega)).trans (hA2.trans (hB9.mono (by omega))))))
              have hnl : nums .i64 out ++ [.int .i64 (nx0 - e1 - q)] = nums .i64 (out ++ [nx0 - e1 - q]) := by simp [nums]
              have hown10 : X9.ownsRow (W4.heap.size + 2) 3 1 (.slice (some ⟨g', 0, none⟩) (out.length + 1) cap') (out ++ [nx0 - e1 - q]).length (nums .i64 (out ++ [nx0 - e1 - q])) := by
                have := own_move (w1 := X9) hown' (fun k hk => (hB9.block k (by have := hol2 k hk; omega)).trans (hY k (by have := hob2 k hk; omega)))
                rw [hnl] at this
                simpa using this
              have hmark : ∀ d : Nat, X5.heap[d]? = some (.deferred (some [])) → X9.heap[d]? = some (.deferred (some [])) := fun d hd =>
                have hdl := (Array.getElem?_eq_some_iff.1 hd).1
                have hdne : d ≠ W4.heap.size + 1 := fun e => by subst e; rw [kn8] at hd; cases hd
                (hB9.block d (by omega)).trans ((hY d hdne).trans ((hgrow.block d (by simp; omega) (not_own HO8.out hd (fun c e => by cases e))).trans ((Below.heap_alloc _ _ _ (by simp; omega)).trans ((Below.heap_alloc _ _ _ hdl).trans hd))))
              have hmarks : ∀ d : Nat, d ∈ D :: ds → W4.heap.size + 2 ≤ d ∧ X9.heap[d]? = some (.deferred (some [])) := fun d hd => by
                rcases List.mem_cons.1 hd with rfl | hd
                · exact ⟨by omega, hmark _ ((HB5.out.block _ (Array.getElem?_eq_some_iff.1 HDK.out).1).trans HDK.out)⟩
                · have h1 := HDS.out d hd
                  have h2 := (Array.getElem?_eq_some_iff.1 h1.2).1
                  exact ⟨h1.1, hmark d ((HB5.out.block d (by omega)).trans ((HI7.out.1.block d (by omega)).trans ((HBX2.out.block d h2).trans h1.2)))⟩
              have hnod : (D :: ds).Nodup := List.nodup_cons.2 ⟨fun hm => by have := (Array.getElem?_eq_some_iff.1 (HDS.out D hm).2).1; omega, HND.out⟩
              have hdd : ({ target := .collected D, args := #[] } :: DD : List Deferred) = (D :: ds).map fun d => { target := .collected d, args := #[] } := by rw [List.map_cons, HDD.out]
              obtain rfl : ib = true := by simpa using hib
              have hfl : forceL L R S N ch (rs.drop (j + 1)) nx0 nx1 (out ++ [nx0 - e1 - q]) = (o, x) := by have := HFL3.out; rwa [if_pos HIB.out] at this
              refine ⟨⟨j + 1, nx0, nx1, out ++ [nx0 - e1 - q], _, D :: ds, frF_intro .., hdd, by omega, HIB.out, hfl, kp10, kc10, kn10, ⟨hown10, by simp [HOL.out]⟩, ⟨hmarks, hnod⟩, hA3, by omega⟩, ?_⟩
              simp [intOf]
              omega
          case stop =>
            rintro D c pre X _ _ h _
            exact h.elim
      · obtain rfl : j = rs.length := by omega
        obtain ⟨rfl, rfl⟩ : [] = o ∧ 21 = x := by have := HFL.out; rw [List.drop_length] at this; exact Prod.mk.inj this
        clear HFL kp kc kn
        gi_wp2
        show LeavesInM Fence.wide 9 Try.prog Try.f28 _ _ _ _ _
        rw [← HDD.out]
        refine leavesM w.heap.size ds W HND.out (fun d hd => ⟨by have := (HDS.out d hd).1; omega, (HDS.out d hd).2⟩) (fun Y hY hc => ⟨_, results_tmp2 rfl _ _ _, none, 0, rfl, ⟨Nat.le_refl _, ?_⟩, hBw.trans hY⟩)
        exact (Kd.R_reads' (Kd.R_nil (Kd.int .i64) 3 Y 0 (fun _ => True))).2.2

end
end Go.Proofs.Ytcaekmalkbaldaa.M
