/- Part 5 of what the proof of FnExactMoveSpot needs: contracts of functions, as plain functions over numbers and lists, and laws of these. -/
import Derived.Test.YtcinaflmpdmdaaaCFnExactMoveSpot3
import Derived.Test.YtcinaflmpdmdaaaCFnExactMoveSpot1
import Derived.Test.YtcinaflmpdmdaaaCFnExactMoveSpot2
set_option linter.unusedVariables false
set_option linter.unusedSimpArgs false
section
namespace Go.Proofs.Ytcinaflmpdmdaaa.M
open Go.RowKit Go.Proofs.Ytcinaflmpdmdaaa.Q Go.Proofs.YtcinaflmpdmdaaaW.PrintWords Go.Proofs.YtcinaflmpdmdaaaW.PrintLast Go.Proofs.YtcinaflmpdmdaaaW.PrintMore Go.Proofs.Ytcinaflmpdmdaaa.L
set_option linter.unusedSimpArgs false
set_option linter.unusedVariables false
theorem linesOf_loop (l : List Int) (hl : l.length ≤ 1048576) : ∀ (d i f : Nat) (out : List S141), l.length - i = d → i ≤ l.length → f ≤ i → out.length ≤ i → Ev (fun k => impl_linesOf.l0 k l out (f : Int) l (l.length : Int) (i : Int)) (out ++ lin (l.drop i) i f)
  | 0, i, f, out, hd, hi, hf, ho => by
    obtain rfl : i = l.length := by omega
    refine Ev.succ ?_
    simp only [impl_linesOf.l0]
    refine Ev.neg (by omega) ?_
    rw [List.drop_length, lin]
    by_cases h : f < l.length
    · rw [if_pos h]
      refine Ev.pos (by omega) (Ev.pos (by omega) ?_)
      rw [w64 (by omega) (by omega)]
      exact Ev.now _
    · rw [if_neg h, List.append_nil]
      exact Ev.neg (by omega) (Ev.now _)
  | d + 1, i, f, out, hd, hi, hf, ho => by
    have h : i < l.length := by omega
    refine Ev.succ ?_
    simp only [impl_linesOf.l0, rd_nat l i h]
    refine Ev.pos (by omega) (Ev.pos (by omega) (Ev.pos (by omega) ?_))
    rw [List.drop_eq_getElem_cons h, lin]
    by_cases h10 : l[i] = 10
    · rw [if_pos h10]
      refine Ev.pos h10 (Ev.pos (by omega) ?_)
      rw [w64 (x := (i : Int) - (f : Int)) (by omega) (by omega), w64 (x := (i : Int) + 1) (by omega) (by omega)]
      have := linesOf_loop l hl d (i + 1) (i + 1) (out ++ [⟨(f : Int), (i : Int) - (f : Int)⟩]) (by omega) (by omega) (by omega) (by rw [List.length_append]; simp; omega)
      rw [List.append_assoc] at this
      exact this
    · rw [if_neg h10]
      refine Ev.neg h10 ?_
      rw [w64 (x := (i : Int) + 1) (by omega) (by omega)]
      exact linesOf_loop l hl d (i + 1) f out (by omega) (by omega) (by omega) (by omega)
theorem linesOf_ev (l : List Int) (hl : l.length ≤ 1048576) : Ev (fun k => impl_linesOf.f k l) (linL l) := by
  unfold impl_linesOf.f
  have := linesOf_loop l hl l.length 0 0 [] (by omega) (by omega) (by omega) (by simp)
  rw [List.drop_zero, List.nil_append] at this
  exact this
theorem linesOf_c (A : Option Addr) (n c : Nat) (l : List Int) (w : World) (hn : l.length = n) (hx : Row eU 1 w A l) (hc : n ≤ c) (hm : n ≤ 1048576)
    (R : Ending → World → Prop) (h : ∀ A' c' w', Own eLn 2 141 w' w.heap.size (.slice A' (linL l).length c') (linL l) → (linL l).length ≤ c' → c' ≤ maxLen → Below w.heap.size w w' → R (.returned (.slice A' (linL l).length c')) w') :
    Calls Try.prog 112 #[.slice A n c] w R := by
  subst hn
  obtain ⟨k, hk⟩ := Ev.rounds (linesOf_ev l hm)
  refine (impl_linesOf.calls k A c l (linL l) w (C_ints (by omega) hx) hc hk).mono ?_
  rintro e w' ⟨v, rfl, hR, hb⟩
  have ho := own_of_R (d := k141) (enc := eLn) (f := id) (k := 2) rfl (fun h => k141_openM h) eLn_len hR
  rw [List.map_id] at ho
  obtain ⟨A', c', rfl, h1, h2, _⟩ := ho.row
  exact h A' c' w' ho h1 h2 hb
set_option maxRecDepth 20000 in
set_option maxHeartbeats 2000000 in
theorem lineBytes_c (A : Option Addr) (n c : Nat) (l : List Int) (w : World) (hn : l.length = n) (hx : Row eU 1 w A l) (hc : n ≤ c) (hm : n ≤ 1048576) (a b : Nat) (hab : a + b ≤ n)
    (R : Ending → World → Prop) (h : ∀ A' c' w', Row eU 1 w' A' (subL l a b) → b ≤ c' → Below w.heap.size w w' → R (.returned (.slice A' b c')) w') :
    Calls Try.prog 113 #[.agg #[.slice A n c], .agg #[.int .i64 a, .int .i64 b]] w R := by
  have H := Lib.hid h
  have HX := Lib.hid hx
  have HN := Lib.hid hn
  clear h hx hn
  have hs := Go.Proofs.YtcinaflmpdmdaaaW.PrintWords.cut_mid (P := Try.prog) 28 5 .i64 .i64 Try.underlying28 info_u8e 1 (by kernel_rfl) A n c (a : Int) ((a : Int) + (b : Int)) (by omega) (by omega) (by omega) hc
  have hL : ((a : Int) + (b : Int)).toNat - (a : Int).toNat = b := by omega
  have hmid := (HX.out).mid (c := c) (lo := (a : Int).toNat) (hi := ((a : Int) + (b : Int)).toNat) (by omega) (by rw [HN.out]; omega) (by rw [HN.out]; exact hc)
  rw [hL] at hs
  have e1 : (a : Int).toNat = a := Int.toNat_natCast a
  have e2 : ((a : Int) + (b : Int)).toNat = a + b := by omega
  rw [e2] at hmid
  rw [e1] at hs hmid
  obtain ⟨A2, hA2⟩ : ∃ A2, (if c = a then A else A.map (·.add (a * 1))) = A2 := ⟨_, rfl⟩
  rw [hA2] at hs hmid
  obtain ⟨c2, hc2⟩ : ∃ c2, c - a = c2 := ⟨_, rfl⟩
  rw [hc2] at hs
  have HM := Lib.hid (show Row eU 1 w A2 (subL l a b) from hmid)
  have HCC := Lib.hid (show b ≤ c2 by omega)
  have w1 : wrap64 ((a : Int) + (b : Int)) = (a : Int) + (b : Int) := by unfold wrap64; omega
  clear hmid hL e1 e2 hA2 hc2
  (change Calls _ _ _ _ (Fin R); go_enter Try.func113, Try.ntmps113)
  go_wp2_with (fail)
  go_ret
  exact H.out A2 c2 _ (HM.out.below (by (repeat' (first | (with_reducible exact Below.refl _ _) | (with_reducible assumption) | (with_reducible refine Below.alloc ?_ ?_ _) | (with_reducible refine bdN ?_ _) | (with_reducible refine Below.drew ?_) | (with_reducible refine Below.setCell ?_ ?_ _) | go_size)))) HCC.out (by (repeat' (first | (with_reducible exact Below.refl _ _) | (with_reducible assumption) | (with_reducible refine Below.alloc ?_ ?_ _) | (with_reducible refine bdN ?_ _) | (with_reducible refine Below.drew ?_) | (with_reducible refine Below.setCell ?_ ?_ _) | go_size)))
theorem own_i64 {w : World} {e : TypeId} {base : Nat} {v : Value} {xs : List Int} (h : Kd.R (Kd.int .i64) e w base (fun _ => True) v xs) : Own eI 1 e w base v xs := by
  have := own_of_R (d := Kd.int .i64) (enc := eI) (f := id) (k := 1) rfl (fun h => h) (fun _ => rfl) h
  simpa using this
theorem r_i64 {w : World} {e : TypeId} {base : Nat} {v : Value} {xs : List Int} (h : Own eI 1 e w base v xs) : Kd.R (Kd.int .i64) e w base (fun _ => True) v xs :=
  R_of_own (d := Kd.int .i64) (enc := eI) (f := id) (k := 1) rfl (fun _ _ _ _ => rfl) (fun _ => rfl) (by simpa using h)
/-- How many rows a line has, by the program. -/
theorem rowCount_c (A : Option Addr) (n c : Nat) (l : List Int) (wd : Int) (ch : Bool) (sh : Int) (w : World) (hn : l.length = n) (hx : Row eU 1 w A l) (hc : n ≤ c) (ho : lineOk l = true) (h1 : 1 ≤ wd) (h2 : wd ≤ 40) (q : Int) (hq : rowN (cellsS l).length wd ch = q)
    (R : Ending → World → Prop) (h : ∀ w', Below w.heap.size w w' → R (.returned (.int .i64 q)) w') :
    Calls Try.prog 63 #[.slice A n c, .agg #[.int .i64 wd, .bool ch, .int .i64 sh]] w R := by
  subst hn
  refine (impl_rowCount.calls A c l wd ch sh q w (C_ints (by have := lineOk_len ho; omega) hx) hc (by rw [i_rowN l ho wd ch sh h1 h2, hq])).mono ?_
  rintro e w' ⟨rfl, hb'⟩
  exact h w' hb'
set_option maxRecDepth 20000 in
set_option maxHeartbeats 4000000 in
theorem rowsOf_c (A : Option Addr) (n c : Nat) (l : List Int) (wd : Int) (ch : Bool) (sh : Int) (w : World) (hn : l.length = n) (hx : Row eU 1 w A l) (hc : n ≤ c) (ho : lineOk l = true) (h1 : 1 ≤ wd) (h2 : wd ≤ 40)
    (R : Ending → World → Prop) (h : ∀ A' c' w', Own eI 1 2 w' w.heap.size (.slice A' (cntL l wd ch).length c') (cntL l wd ch) → (cntL l wd ch).length ≤ c' → c' ≤ maxLen → Below w.heap.size w w' → R (.returned (.slice A' (cntL l wd ch).length c')) w') :
    Calls Try.prog 80 #[.agg #[.slice A n c], .agg #[.int .i64 wd, .bool ch, .int .i64 sh]] w R := by
  have H := Lib.hid h
  have HX := Lib.hid hx
  have HN := Lib.hid hn
  have HO := Lib.hid ho
  have hm : n ≤ 1048576 := by rw [← hn]; exact lineOk_len ho
  clear h hx hn ho
  obtain ⟨W, hW⟩ : ∃ W, W = ((w.alloc (Obj.cells #[.slice A n c] 61)).alloc (Obj.cells #[.int .i64 wd, .bool ch, .int .i64 sh] 25)).alloc (Obj.cells #[] 2) := ⟨_, rfl⟩
  obtain ⟨b1, b2, b3, f1, f2, f3, hz, G0⟩ := box3 _ _ _ _ _ _ _ W hW
  have HOW := Lib.hid (show Own eI 1 2 W w.heap.size (.slice (some ⟨w.heap.size + 1 + 1, 0, none⟩) 0 0) [] by
    rw [hW]
    have := Own.lit (enc := eI) (k := 1) (e := 2) (base := w.heap.size) ((w.alloc (Obj.cells #[.slice A n c] 61)).alloc (Obj.cells #[.int .i64 wd, .bool ch, .int .i64 sh] 25)) #[] [] 0 (by simp; omega) rfl (by unfold maxLen; omega) ⟨rfl, fun i x hx => by simp at hx⟩
    simpa using this)
  have HW := Lib.hid hW
  clear hW b3 f1 f2 f3
  (change Calls _ _ _ _ (Fin R); go_enter Try.func80, Try.ntmps80)
  go_wp2_with (fail)
  rw [← HW.out]
  refine linesOf_c A n c l W HN.out (HX.out.below G0) hc hm _ ?_
  intro A1 c1 w1 ho1 hc1 hm1 hb1
  obtain ⟨m, hm'⟩ : ∃ m, (linL l).length = m := ⟨_, rfl⟩
  rw [hm'] at ho1 hc1 ⊢
  have HM := Lib.hid hm'
  have HL1 := Lib.hid ho1
  have hz1 : w.heap.size + 3 ≤ w1.heap.size := by have := hb1.size; omega
  have B1 := Lib.hid (blk_keep b1 (by omega) hb1)
  have B2 := Lib.hid (blk_keep b2 (by omega) hb1)
  have HOW1 := Lib.hid (HOW.out.below hb1)
  have hb1' := G0.trans (hb1.mono G0.size)
  have hWs : w.heap.size + 3 ≤ W.heap.size := by omega
  clear hm' ho1 b1 b2 hb1
  go_wp2_with (fail)
  go_loopg [5, 13] m (fun gk v5 v13 wr => ∃ (i d : Nat) (B : Option Addr), gk = m - i ∧ i ≤ m ∧ v5 = .slice B i d ∧ v13 = .int .i64 i ∧ i ≤ d ∧ d ≤ maxLen ∧ Own eI 1 2 wr w.heap.size (.slice B i d) (((linL l).take i).map (cntS l wd ch)) ∧ Own eLn 2 141 wr W.heap.size (.slice A1 m c1) (linL l) ∧ Hid (∀ i, wr.cell? ⟨w.heap.size, i, none⟩ = #[Value.slice A n c][i]?) ∧ Hid (∀ i, wr.cell? ⟨w.heap.size + 1, i, none⟩ = #[Value.int .i64 wd, .bool ch, .int .i64 sh][i]?) ∧ ((Value.slice B i d).ownBlock ≠ some w.heap.size ∧ (Value.slice B i d).ownBlock ≠ some (w.heap.size + 1)) ∧ Below w.heap.size w wr ∧ w.heap.size + 3 ≤ wr.heap.size)
  case atStart => exact ⟨0, 0, some ⟨w.heap.size + 1 + 1, 0, none⟩, rfl, by omega, rfl, rfl, Nat.le_refl _, by unfold maxLen; omega, HOW1.out, HL1.out, B1.out, B2.out, ⟨by simp [Value.ownBlock]; omega, by simp [Value.ownBlock]⟩, hb1', hz1⟩
  case round =>
    obtain ⟨i, d, B, rfl, hi, rfl, rfl, hd1, hd2, ho, hl, hB1, hB2, hBn, hG, hzr⟩ := hrel
    have HO1 := Lib.hid ho
    have HL2 := Lib.hid hl
    have HBN := Lib.hid hBn
    clear ho hl hBn
    by_cases hlt : i < m
    · obtain ⟨s, hs⟩ := get_lt (xs := linL l) (i := i) (by rw [HM.out]; exact hlt)
      obtain ⟨a, b, rfl, hab⟩ := linL_in (List.mem_of_getElem? hs)
      obtain ⟨ad, rfl, ha⟩ := HL2.out.rowOf i _ hs
      obtain ⟨x0, x1⟩ := At.two (a := .int .i64 (a : Int)) (b := .int .i64 (b : Int)) ha
      have HS := Lib.hid hs
      have hab' : a + b ≤ n := by rw [← HN.out]; exact hab
      obtain ⟨W2, hW2⟩ : ∃ W2, W2 = wr.alloc (Obj.cells #[.int .i64 a, .int .i64 b] 141) := ⟨_, rfl⟩
      obtain ⟨y1, _, yz, Y0⟩ := box1 _ _ _ W2 hW2
      have HW2 := Lib.hid hW2
      have z1 := blk_keep hB1.out (by omega) Y0
      have z2 := blk_keep hB2.out (by omega) Y0
      have hG2 := hG.trans (Y0.mono hG.size)
      have HO2 := Lib.hid (HO1.out.below Y0)
      have HL3 := Lib.hid (HL2.out.below Y0)
      obtain ⟨q, hq⟩ : ∃ q, rowN (cellsS (subL l a b)).length wd ch = q := ⟨_, rfl⟩
      have HQ := Lib.hid hq
      have hml : m ≤ 1048577 := by have := linL_len l; rw [HM.out, HN.out] at this; omega
      have hlen : (((linL l).take i).map (cntS l wd ch)).length = i := by rw [List.length_map, List.length_take, HM.out]; omega
      have HLN := Lib.hid hlen
      have HBD := Lib.hid (show (((linL l).take i).map (cntS l wd ch)).length + 1 ≤ 1048577 by rw [hlen]; omega)
      have HX2 := Lib.hid (show Row eU 1 W2.drew A l from (HX.out.below hG2).keeps (keeps_refl W2))
      have HSB := Lib.hid (subL_len (l := l) (a := a) (b := b) (by rw [HN.out]; exact hab'))
      have HOS := Lib.hid (lineOk_sub HO.out a b)
      clear hs hab ha hW2 hq hlen Y0 hB1 hB2
      go_wp2_with (fail)
      rw [← HW2.out]
      clear x0 x1
      have y_0 : W2.drew.cell? ⟨w.heap.size, 0, none⟩ = some (.slice A n c) := z1 0
      have y_1 : W2.drew.cell? ⟨w.heap.size + 1, 0, none⟩ = some (.int .i64 wd) := z2 0
      have y_2 : W2.drew.cell? ⟨w.heap.size + 1, 1, none⟩ = some (.bool ch) := z2 1
      have y_3 : W2.drew.cell? ⟨w.heap.size + 1, 2, none⟩ = some (.int .i64 sh) := z2 2
      have y_4 : W2.drew.cell? ⟨wr.heap.size, 0, none⟩ = some (.int .i64 a) := y1 0
      have y_5 : W2.drew.cell? ⟨wr.heap.size, 1, none⟩ = some (.int .i64 b) := y1 1
      refine start_ (n := 9) (S := fun w' => w'.cell? ⟨w.heap.size, 0, none⟩ = some (.slice A n c) ∧ w'.cell? ⟨w.heap.size + 1, 0, none⟩ = some (.int .i64 wd) ∧ w'.cell? ⟨w.heap.size + 1, 1, none⟩ = some (.bool ch) ∧ w'.cell? ⟨w.heap.size + 1, 2, none⟩ = some (.int .i64 sh) ∧ w'.cell? ⟨wr.heap.size, 0, none⟩ = some (.int .i64 a) ∧ w'.cell? ⟨wr.heap.size, 1, none⟩ = some (.int .i64 b)) (ds := [7]) #[false, false, false, false, false, false, false, false, false] (by kernel_rfl) rfl rfl ⟨y_0, y_1, y_2, y_3, y_4, y_5⟩ (fun hHeld => ?_)
      refine pure_ (i := 0) (N := some 17) (v := ?_) (a' := ?_) #[true, false, false, false, false, false, false, false, false] rfl rfl (by kernel_rfl) (fun _ _ _ h => h) (Or.inl ⟨by rfl, ?_⟩) ?_ ?_
      rotate_left
      · intro w'
        go_simp
        with_reducible rfl
      rotate_left
      · simp only [Act.put, List.setIfInBounds_toArray, List.set_cons_zero, List.set_cons_succ, i64_w, i32_w]
        rfl
      refine take_ (i := 1) (N := some 18) (v := ?_) (a' := ?_) #[true, true, false, false, false, false, false, false, false] rfl rfl (by kernel_rfl) (fun _ _ _ h => h) (Or.inl ⟨by rfl, ?_⟩) hHeld ?_ ?_
      rotate_left
      · rintro w' ⟨s0, s1, s2, s3, s4, s5⟩
        go_simp
        with_reducible rfl
      rotate_left
      · simp only [Act.put, List.setIfInBounds_toArray, List.set_cons_zero, List.set_cons_succ, i64_w, i32_w]
        rfl
      refine take_ (i := 2) (N := some 19) (v := ?_) (a' := ?_) #[true, true, true, false, false, false, false, false, false] rfl rfl (by kernel_rfl) (fun _ _ _ h => h) (Or.inl ⟨by rfl, ?_⟩) hHeld ?_ ?_
      rotate_left
      · rintro w' ⟨s0, s1, s2, s3, s4, s5⟩
        go_simp
        with_reducible rfl
      rotate_left
      · simp only [Act.put, List.setIfInBounds_toArray, List.set_cons_zero, List.set_cons_succ, i64_w, i32_w]
        rfl
      refine take_ (i := 4) (N := some 21) (v := ?_) (a' := ?_) #[true, true, true, false, true, false, false, false, false] rfl rfl (by kernel_rfl) (fun _ _ _ h => h) (Or.inl ⟨by rfl, ?_⟩) hHeld ?_ ?_
      rotate_left
      · rintro w' ⟨s0, s1, s2, s3, s4, s5⟩
        go_simp
        with_reducible rfl
      rotate_left
      · simp only [Act.put, List.setIfInBounds_toArray, List.set_cons_zero, List.set_cons_succ, i64_w, i32_w]
        rfl
      refine one_ (i := 3) (N := some 20) #[true, true, true, true, true, false, false, false, false] rfl rfl (by kernel_rfl) (by decide) (fun K hK => ?_)
      refine goes_ Try.func113 (by kernel_rfl) rfl #[.agg #[.slice A n c], .agg #[.int .i64 a, .int .i64 b]] (by rfl) rfl rfl (by simp only [List.map_toArray, List.map_cons, List.map_nil]; rfl) ?_
      refine lineBytes_c A n c l _ HN.out HX2.out hc hm a b hab' _ ?_
      intro A2 c2 w3 hr2 hc2 hb3
      refine ⟨_, rfl, ?_⟩
      have hG3 := hG2.trans ((below_drew hb3).mono hG2.size)
      have HO3 := Lib.hid (HO2.out.below (below_drew hb3))
      have HL4 := Lib.hid (HL3.out.below (below_drew hb3))
      have HR2 := Lib.hid hr2
      have hz3 : W2.heap.size ≤ w3.heap.size := (below_drew hb3).size
      have k0 := cell_below hb3 y_0
      have k1 := cell_below hb3 y_1
      have k2 := cell_below hb3 y_2
      have k3 := cell_below hb3 y_3
      have k4 := cell_below hb3 y_4
      have k5 := cell_below hb3 y_5
      refine hK.out _ _ ⟨k0, k1, k2, k3, k4, k5⟩ (fun hHeld => ?_)
      clear hK K
      refine norm_ (a' := ?_) ?_ ?_
      rotate_left
      · show Act.put _ (some 20) _ = _
        simp only [Act.put, List.setIfInBounds_toArray, List.set_cons_zero, List.set_cons_succ, i64_w, i32_w]
        rfl
      refine one_ (i := 5) (N := some 22) #[true, true, true, true, true, true, false, false, false] rfl rfl (by kernel_rfl) (by decide) (fun K hK => ?_)
      refine goes_ Try.func63 (by kernel_rfl) rfl #[.slice A2 b c2, .agg #[.int .i64 wd, .bool ch, .int .i64 sh]] (by rfl) rfl rfl (by simp only [List.map_toArray, List.map_cons, List.map_nil]; rfl) ?_
      refine rowCount_c A2 b c2 (subL l a b) wd ch sh _ HSB.out HR2.out hc2 HOS.out h1 h2 q HQ.out _ ?_
      intro w4 hb4
      refine ⟨_, rfl, ?_⟩
      have hG4 := hG3.trans (hb4.mono hG3.size)
      have HO4 := Lib.hid (HO3.out.below hb4)
      have HL5 := Lib.hid (HL4.out.below hb4)
      have hz4 : w3.heap.size ≤ w4.heap.size := hb4.size
      have j0 := cell_below hb4 k0
      have j1 := cell_below hb4 k1
      have j2 := cell_below hb4 k2
      have j3 := cell_below hb4 k3
      have j4 := cell_below hb4 k4
      have j5 := cell_below hb4 k5
      refine hK.out _ _ ⟨j0, j1, j2, j3, j4, j5⟩ (fun hHeld => ?_)
      clear hK K
      refine norm_ (a' := ?_) ?_ ?_
      rotate_left
      · show Act.put _ (some 22) _ = _
        simp only [Act.put, List.setIfInBounds_toArray, List.set_cons_zero, List.set_cons_succ, i64_w, i32_w]
        rfl
      refine one_ (i := 6) (N := some 23) #[true, true, true, true, true, true, true, false, false] rfl rfl (by kernel_rfl) (by decide) (fun K hK => ?_)
      refine value_ (w1 := ?_) (v := ?_) (by rfl) rfl ?_ ?_
      rotate_left 2
      · go_simp
        constructor
        · rfl
        · rfl
      have i0 := cell_below ((Below.refl _ _).alloc (Nat.le_refl _) (Obj.cells #[.int .i64 q] 2)) j0
      have i1 := cell_below ((Below.refl _ _).alloc (Nat.le_refl _) (Obj.cells #[.int .i64 q] 2)) j1
      have i2 := cell_below ((Below.refl _ _).alloc (Nat.le_refl _) (Obj.cells #[.int .i64 q] 2)) j2
      have i3 := cell_below ((Below.refl _ _).alloc (Nat.le_refl _) (Obj.cells #[.int .i64 q] 2)) j3
      have i4 := cell_below ((Below.refl _ _).alloc (Nat.le_refl _) (Obj.cells #[.int .i64 q] 2)) j4
      have i5 := cell_below ((Below.refl _ _).alloc (Nat.le_refl _) (Obj.cells #[.int .i64 q] 2)) j5
      refine hK.out _ _ ⟨i0, i1, i2, i3, i4, i5⟩ (fun hHeld => ?_)
      clear hK K
      refine norm_ (a' := ?_) ?_ ?_
      rotate_left
      · show Act.put _ (some 23) _ = _
        simp only [Act.put, List.setIfInBounds_toArray, List.set_cons_zero, List.set_cons_succ, i64_w, i32_w]
        rfl
      refine last_ (i := 7) (N := some 24) #[true, true, true, true, true, true, true, true, false] rfl rfl (by kernel_rfl) (by decide) (fun K hK => ?_)
      refine Kd.R_append_step (Kd.int .i64) (w0 := w) w.heap.size (by rfl) (.tmp 17) (.tmp 23) 75 2 (.int .i64 0) 8 rfl Try.underlying75 info_eI rfl (by decide) (by decide) (.slice B i d) (((linL l).take i).map (cntS l wd ch)) q [.int .i64 q] (fun _ => True) (fun _ => False) rfl rfl rfl (fun _ h => h.elim) (fun _ _ => trivial) (r_i64 HO4.out) hG4 hG4.size (by have := HBD.out; omega) ?_
      intro v' w' hr' hG' hg' hob
      have ho' := own_i64 hr'
      refine hK.out _ _ ?_
      clear hK K
      refine norm_ (a' := ?_) ?_ ?_
      rotate_left
      · show Act.put _ (some 24) _ = _
        simp only [Act.put, List.setIfInBounds_toArray, List.set_cons_zero, List.set_cons_succ, i64_w, i32_w]
        rfl
      refine pure_ (i := 8) (N := some 5) (v := ?_) (a' := ?_) #[true, true, true, true, true, true, true, true, true] rfl rfl (by kernel_rfl) (fun _ _ _ h => h) (Or.inl ⟨by rfl, ?_⟩) ?_ ?_
      rotate_left
      · intro w'
        go_simp
        with_reducible rfl
      rotate_left
      · simp only [Act.put, List.setIfInBounds_toArray, List.set_cons_zero, List.set_cons_succ, i64_w, i32_w]
        rfl
      refine done_ (by kernel_rfl) ?_
      have Z1 := blk_keep (blk_keep z1 (by omega) (below_drew hb3)) (by omega) hb4
      have Z2 := blk_keep (blk_keep z2 (by omega) (below_drew hb3)) (by omega) hb4
      have Z3 := Lib.hid (blk_grown Z1 (by omega) hg' HBN.out.1)
      have Z4 := Lib.hid (blk_grown Z2 (by omega) hg' HBN.out.2)
      have HL6 := Lib.hid (HL5.out.grown hg' (HL5.out.apart_ty HO4.out (by decide)))
      have hob1 : v'.ownBlock ≠ some w.heap.size ∧ v'.ownBlock ≠ some (w.heap.size + 1) := by
        rcases hob with e | ⟨b', e, hb'⟩
        · rw [e]; exact HBN.out
        · rw [e]
          have := hb4.size
          exact ⟨fun q => by have := Option.some.inj q; omega, fun q => by have := Option.some.inj q; omega⟩
      have hz6 : w.heap.size + 3 ≤ w'.heap.size := by have := hg'.size; omega
      have e4 : ((linL l).take (i + 1)).map (cntS l wd ch) = ((linL l).take i).map (cntS l wd ch) ++ [q] := by
        rw [List.take_add_one, HS.out, List.map_append, ← HQ.out]
        simp [cntS]
      obtain ⟨B', d', rfl, e1, e2, _⟩ := ho'.row
      have hll : (((linL l).take i).map (cntS l wd ch) ++ [q]).length = i + 1 := by rw [List.length_append, HLN.out]; rfl
      rw [hll] at e1 ho' hob1
      rw [← e4] at ho'
      rw [hll]
      have HO6 := Lib.hid ho'
      have HOB := Lib.hid hob1
      clear hll e4 ho' hob1 Z1 Z2 hob y_0 y_1 y_2 y_3 y_4 y_5 k0 k1 k2 k3 k4 k5 j0 j1 j2 j3 j4 j5 i0 i1 i2 i3 i4 i5 hr' z1 z2 y1
      go_wp2_with (fail)
      go_roundg (m - (i + 1))
      case measure => omega
      case rel => exact ⟨i + 1, d', B', rfl, by omega, rfl, by go_num, e1, e2, HO6.out, HL6.out, Z3, Z4, HOB.out, hG', hz6⟩
    · obtain rfl : i = m := by omega
      have e5 : (linL l).take i = linL l := List.take_of_length_le (by rw [HM.out]; exact Nat.le_refl _)
      have hlen : (cntL l wd ch).length = i := by rw [cntL, List.length_map, HM.out]
      go_wp2_with (fail)
      go_ret
      have ho2 := HO1.out
      rw [e5] at ho2
      have := H.out B d _ (by rw [hlen]; exact ho2) (by rw [hlen]; exact hd1) hd2 hG
      rw [hlen] at this
      exact this
end Go.Proofs.Ytcinaflmpdmdaaa.M
end
section
namespace Go.Proofs.Ytcinaflmpdmdaaa.Q
open Go.RowKit Go.Proofs.YtcinaflmpdmdaaaW.PrintWords Go.Proofs.YtcinaflmpdmdaaaW.PrintLast Go.Proofs.YtcinaflmpdmdaaaW.PrintMore
attribute [local go_sem] max2_int min2_int max_two min_two max_three min_three max_four min_four   -- for this text's walks alone
set_option linter.unusedVariables false
set_option linter.unusedSimpArgs false
/-! ### impl_rowsOf: function 80 -/
def impl_rowsOf.f (l0_0 : List Int) (a1_0 : Int) (a1_1 : Bool) (a1_2 : Int) : Option (List Int):=if (M.lineOk l0_0 && decide (1 ≤ a1_0 ∧ a1_0 ≤ 40)) = true then some (M.cntL l0_0 a1_0 a1_1) else none
theorem impl_rowsOf.calls (A0_0 : Option Addr) (c0_0 : Nat) (l0_0 : List Int) (a1_0 : Int) (a1_1 : Bool) (a1_2 : Int) (r : List Int) (w : World) (hr0_0 : Kd.C (Kd.int .u8) w A0_0 l0_0.length l0_0) (hc0_0 : l0_0.length ≤ c0_0) (h : impl_rowsOf.f l0_0 a1_0 a1_1 a1_2 = some r) :
 Calls Try.prog 80 #[.agg #[.slice A0_0 l0_0.length c0_0],.agg #[.int .i64 a1_0,.bool a1_1,.int .i64 a1_2]] w fun e w' => ∃ v0_ : Value,e = .returned (v0_) ∧ Kd.R (Kd.int .i64) 2 w' w.heap.size (fun _ => True) v0_ r ∧ Below w.heap.size w w':=by
 unfold impl_rowsOf.f at h
 split at h
 · rename_i hok
   obtain rfl:=Option.some.inj h
   rw [Bool.and_eq_true,decide_eq_true_eq] at hok
   exact M.rowsOf_c A0_0 l0_0.length c0_0 l0_0 a1_0 a1_1 a1_2 w rfl (M.row_ints hr0_0) hc0_0 hok.1 hok.2.1 hok.2.2 _ (fun A' c' w' ho _ _ hb => ⟨_,rfl,M.r_i64 ho,hb⟩)
 · cases h
end Go.Proofs.Ytcinaflmpdmdaaa.Q
end
section
namespace Go.Proofs.Ytcinaflmpdmdaaa.Q
open Go.RowKit Go.Proofs.YtcinaflmpdmdaaaW.PrintWords Go.Proofs.YtcinaflmpdmdaaaW.PrintLast Go.Proofs.YtcinaflmpdmdaaaW.PrintMore Go.Proofs.Ytcinaflmpdmdaaa.L
theorem layoutCode_ev (l : List Int) (wd : Int) (ch : Bool) (sh : Int) : Ev (fun k => impl_layoutCode.f k l wd ch sh) (M.baseF l.length wd ch sh) := by
  unfold impl_layoutCode.f impl_FileFault.f impl_isLong.f M.baseF
  by_cases h : 400 < l.length
  · rw [if_pos h]
    have : ((l.length : Int) > 400) := by omega
    refine Ev.bind0 (a := 2) (by simp [this]) (Ev.neg (by decide) (Ev.now _))
  · rw [if_neg h]
    have : ¬ ((l.length : Int) > 400) := by omega
    exact Ev.bind0 (a := 0) (by simp [this]) (Ev.pos rfl (Ev.bind (i_layout wd ch sh) (Ev.now _)))
theorem rowsOf_eq {l : List Int} (ho : M.lineOk l = true) {wd : Int} (ch : Bool) (sh : Int) (h1 : 1 ≤ wd) (h2 : wd ≤ 40) : impl_rowsOf.f l wd ch sh = some (M.cntL l wd ch) := by
  unfold impl_rowsOf.f
  rw [ho, if_pos (by simp [h1, h2])]
end Go.Proofs.Ytcinaflmpdmdaaa.Q
end
section
namespace Go.Proofs.Ytcinaflmpdmdaaa.Q
open Go.RowKit Go.Proofs.YtcinaflmpdmdaaaW.PrintWords Go.Proofs.YtcinaflmpdmdaaaW.PrintLast Go.Proofs.YtcinaflmpdmdaaaW.PrintMore
attribute [local go_sem] max2_int min2_int max_two min_two max_three min_three max_four min_four   -- for this text's walks alone
set_option linter.unusedVariables false
set_option linter.unusedSimpArgs false
/-! ### impl_SpotFault: function 42 -/
def impl_SpotFault.f (k : Nat) (l0_0 : List Int) (a1_0 : Int) (a1_1 : Bool) (a1_2 : Int) (a2_0 : Int) (a2_1 : Int) : Option (Int):=(impl_layoutCode.f k l0_0 a1_0 a1_1 a1_2).bind fun t104 => (if t104 = 0 then ((impl_rowsOf.f l0_0 a1_0 a1_1 a1_2).bind fun t105 => ((impl_isSpot.f t105 a2_0 a2_1).bind fun t108 => (if t108 = true then (some 0) else (if (t105.length : Int) = 0 then (some 4) else (some 3))))) else (some t104))
theorem impl_SpotFault.mono : ∀ a0 a1 a2 a3 a4 a5 k,LeO (impl_SpotFault.f k a0 a1 a2 a3 a4 a5) (impl_SpotFault.f (k + 1) a0 a1 a2 a3 a4 a5):=by
 intro a0 a1 a2 a3 a4 a5 k
 unfold impl_SpotFault.f
 repeat' first
  | (with_reducible exact impl_layoutCode.mono _ _ _ _ _)
  | (with_reducible exact LeO.refl _)
  | (with_reducible exact LeO.none _)
  | (with_reducible refine LeO.ite ?_ ?_)
  | (with_reducible refine LeO.bind ?_ (fun _ => ?_))
  | exact impl_layoutCode.mono _ _ _ _ _
  | exact LeO.none _
  | refine LeO.ite ?_ ?_
  | refine LeO.bind ?_ (fun _ => ?_)
set_option maxHeartbeats 8000000 in
set_option maxRecDepth 100000 in
theorem impl_SpotFault.calls (k : Nat) (A0_0 : Option Addr) (c0_0 : Nat) (l0_0 : List Int) (a1_0 : Int) (a1_1 : Bool) (a1_2 : Int) (a2_0 : Int) (a2_1 : Int) (r : Int) (w : World) (hr0_0 : Kd.C (Kd.int .u8) w A0_0 l0_0.length l0_0) (hc0_0 : l0_0.length ≤ c0_0) (h : impl_SpotFault.f k l0_0 a1_0 a1_1 a1_2 a2_0 a2_1 = some r) :
 Calls Try.prog 42 #[.agg #[.slice A0_0 l0_0.length c0_0],.agg #[.int .i64 a1_0,.bool a1_1,.int .i64 a1_2],.agg #[.int .i64 a2_0,.int .i64 a2_1]] w fun e w' => e = .returned (.int .i64 r) ∧ Below w.heap.size w w':=by
 have hu61:=Try.underlying61
 have hu25:=Try.underlying25
 have hu63:=Try.underlying63
 have HR0_0:=Aside0.mk hr0_0
 have HC0_0:=Aside0.mk hc0_0
 clear hr0_0 hc0_0
 have HB:=Aside0.mk (Below.refl w.heap.size w)
 have H : ((impl_layoutCode.f k l0_0 a1_0 a1_1 a1_2).bind fun t104 => (if t104 = 0 then ((impl_rowsOf.f l0_0 a1_0 a1_1 a1_2).bind fun t105 => ((impl_isSpot.f t105 a2_0 a2_1).bind fun t108 => (if t108 = true then (some 0) else (if (t105.length : Int) = 0 then (some 4) else (some 3))))) else (some t104))) = some r:=h
 clear h
 replace H:=Option.bind_eq_some_iff.mp H
 obtain ⟨t104,A40,H⟩:=H
 replace H : (if t104 = 0 then ((impl_rowsOf.f l0_0 a1_0 a1_1 a1_2).bind fun t105 => ((impl_isSpot.f t105 a2_0 a2_1).bind fun t108 => (if t108 = true then (some 0) else (if (t105.length : Int) = 0 then (some 4) else (some 3))))) else (some t104)) = some r:=H
 have A4:=Aside0.mk A40
 clear A40
 by_cases c5 : t104 = 0
 · rw [if_pos c5] at H
   have c5b0 : (t104 == 0) = true:=beq_iff_eq.mpr c5
   have c5b1 : (t104 != 0) = false:=bne_eq_false_iff_eq.mpr c5
   clear c5
   replace H:=Option.bind_eq_some_iff.mp H
   obtain ⟨t105,A60,H⟩:=H
   replace H : ((impl_isSpot.f t105 a2_0 a2_1).bind fun t108 => (if t108 = true then (some 0) else (if (t105.length : Int) = 0 then (some 4) else (some 3)))) = some r:=H
   have A6:=Aside0.mk A60
   clear A60
   replace H:=Option.bind_eq_some_iff.mp H
   obtain ⟨t108,A70,H⟩:=H
   replace H : (if t108 = true then (some 0) else (if (t105.length : Int) = 0 then (some 4) else (some 3))) = some r:=H
   have A7:=Aside0.mk A70
   clear A70
   by_cases c8 : t108 = true
   · subst c8
     have H1 : (some 0) = some r:=by rw [if_pos rfl] at H;exact H
     clear H
     have H:=H1
     clear H1
     obtain rfl:=Option.some.inj H
     go_enter Try.func42,Try.ntmps42
     go_wp2_with (first|((with_reducible refine gate_dst (N:=3) rfl ?_);refine box_event ?hg (N:=3) ?hd (cs:=#[.slice A0_0 l0_0.length c0_0]) (t:=61) ?hr ?_;(case hd => rfl);(case hg => rfl);(case hr => first|(go_simp;done)|(go_simp;rfl));intro gb101 hg w9 hbox hb;have n0_:=Aside0.mk (below_step (by repeat (first|(with_reducible first|exact HB.out|apply below_alloc|apply pw_below_drewN|apply below_drew1)|exact HB.out)) hb);have n1_:=Aside0.mk (hbox);have n2_:=Aside0.mk ((by rw [hg];exact (below_size (by repeat (first|(with_reducible first|exact HB.out|apply below_alloc|apply pw_below_drewN|apply below_drew1)|exact HB.out))) : w.heap.size ≤ gb101));have n3_:=Aside0.mk ((by rw [hg];exact (below_size (by repeat (first|(with_reducible first|exact HB.out|apply below_alloc|apply pw_below_drewN|apply below_drew1)|exact HB.out))) : w.heap.size ≤ gb101));clear HB;have HB:=n0_;have BK101:=n1_;have GW101:=n2_;have GE101:=n3_;clear n0_ n1_ n2_ n3_;clear hb hbox hg)|((with_reducible refine gate_dst (N:=4) rfl ?_);refine box_event ?hg (N:=4) ?hd (cs:=#[.int .i64 a1_0,.bool a1_1,.int .i64 a1_2]) (t:=25) ?hr ?_;(case hd => rfl);(case hg => rfl);(case hr => first|(go_simp;done)|(go_simp;rfl));intro gb102 hg w10 hbox hb;have n0_:=Aside0.mk (blk_below (g:=gb101) (o:=.cells #[.slice A0_0 l0_0.length c0_0] 61 (0,0)) (by (with_reducible repeat (first|refine blk_drewN ?_ _|refine blk_drew ?_|refine blk_alloc ?_ _));exact BK101.out) hb);have n1_:=Aside0.mk (below_step (by repeat (first|(with_reducible first|exact HB.out|apply below_alloc|apply pw_below_drewN|apply below_drew1|refine below_set ?_ GE101.out)|exact HB.out)) hb);have n2_:=Aside0.mk (hbox);have n3_:=Aside0.mk ((by rw [hg];exact (below_size (by repeat (first|(with_reducible first|exact HB.out|apply below_alloc|apply pw_below_drewN|apply below_drew1|refine below_set ?_ GE101.out)|exact HB.out))) : w.heap.size ≤ gb102));have n4_:=Aside0.mk ((by rw [hg];exact (below_size (by repeat (first|(with_reducible first|exact HB.out|apply below_alloc|apply pw_below_drewN|apply below_drew1|refine below_set ?_ GE101.out)|exact HB.out))) : w.heap.size ≤ gb102));have n5_:=Aside0.mk ((by rw [hg];exact Nat.ne_of_lt (blk_lt (g:=gb101) (o:=.cells #[.slice A0_0 l0_0.length c0_0] 61 (0,0)) (by (with_reducible repeat (first|refine blk_drewN ?_ _|refine blk_drew ?_|refine blk_alloc ?_ _));exact BK101.out)) : gb101 ≠ gb102));have n6_:=Aside0.mk ((by rw [hg];exact Nat.ne_of_gt (blk_lt (g:=gb101) (o:=.cells #[.slice A0_0 l0_0.length c0_0] 61 (0,0)) (by (with_reducible repeat (first|refine blk_drewN ?_ _|refine blk_drew ?_|refine blk_alloc ?_ _));exact BK101.out)) : gb102 ≠ gb101));clear BK101;clear HB;have BK101:=n0_;have HB:=n1_;have BK102:=n2_;have GW102:=n3_;have GE102:=n4_;have NB101_102:=n5_;have NB102_101:=n6_;clear n0_ n1_ n2_ n3_ n4_ n5_ n6_;clear hb hbox hg)|((with_reducible refine gate_dst (N:=5) rfl ?_);refine box_event ?hg (N:=5) ?hd (cs:=#[.int .i64 a2_0,.int .i64 a2_1]) (t:=63) ?hr ?_;(case hd => rfl);(case hg => rfl);(case hr => first|(go_simp;done)|(go_simp;rfl));intro gb103 hg w11 hbox hb;have n0_:=Aside0.mk (blk_below (g:=gb101) (o:=.cells #[.slice A0_0 l0_0.length c0_0] 61 (0,0)) (by (with_reducible repeat (first|refine blk_drewN ?_ _|refine blk_drew ?_|refine blk_alloc ?_ _));exact BK101.out) hb);have n1_:=Aside0.mk (blk_below (g:=gb102) (o:=.cells #[.int .i64 a1_0,.bool a1_1,.int .i64 a1_2] 25 (0,0)) (by (with_reducible repeat (first|refine blk_drewN ?_ _|refine blk_drew ?_|refine blk_alloc ?_ _));exact BK102.out) hb);have n2_:=Aside0.mk (below_step (by repeat (first|(with_reducible first|exact HB.out|apply below_alloc|apply pw_below_drewN|apply below_drew1|refine below_set ?_ GE101.out|refine below_set ?_ GE102.out)|exact HB.out)) hb);have n3_:=Aside0.mk (hbox);have n4_:=Aside0.mk ((by rw [hg];exact (below_size (by repeat (first|(with_reducible first|exact HB.out|apply below_alloc|apply pw_below_drewN|apply below_drew1|refine below_set ?_ GE101.out|refine below_set ?_ GE102.out)|exact HB.out))) : w.heap.size ≤ gb103));have n5_:=Aside0.mk ((by rw [hg];exact (below_size (by repeat (first|(with_reducible first|exact HB.out|apply below_alloc|apply pw_below_drewN|apply below_drew1|refine below_set ?_ GE101.out|refine below_set ?_ GE102.out)|exact HB.out))) : w.heap.size ≤ gb103));have n6_:=Aside0.mk ((by rw [hg];exact Nat.ne_of_lt (blk_lt (g:=gb101) (o:=.cells #[.slice A0_0 l0_0.length c0_0] 61 (0,0)) (by (with_reducible repeat (first|refine blk_drewN ?_ _|refine blk_drew ?_|refine blk_alloc ?_ _));exact BK101.out)) : gb101 ≠ gb103));have n7_:=Aside0.mk ((by rw [hg];exact Nat.ne_of_gt (blk_lt (g:=gb101) (o:=.cells #[.slice A0_0 l0_0.length c0_0] 61 (0,0)) (by (with_reducible repeat (first|refine blk_drewN ?_ _|refine blk_drew ?_|refine blk_alloc ?_ _));exact BK101.out)) : gb103 ≠ gb101));have n8_:=Aside0.mk ((by rw [hg];exact Nat.ne_of_lt (blk_lt (g:=gb102) (o:=.cells #[.int .i64 a1_0,.bool a1_1,.int .i64 a1_2] 25 (0,0)) (by (with_reducible repeat (first|refine blk_drewN ?_ _|refine blk_drew ?_|refine blk_alloc ?_ _));exact BK102.out)) : gb102 ≠ gb103));have n9_:=Aside0.mk ((by rw [hg];exact Nat.ne_of_gt (blk_lt (g:=gb102) (o:=.cells #[.int .i64 a1_0,.bool a1_1,.int .i64 a1_2] 25 (0,0)) (by (with_reducible repeat (first|refine blk_drewN ?_ _|refine blk_drew ?_|refine blk_alloc ?_ _));exact BK102.out)) : gb103 ≠ gb102));clear BK101;clear BK102;clear HB;have BK101:=n0_;have BK102:=n1_;have HB:=n2_;have BK103:=n3_;have GW103:=n4_;have GE103:=n5_;have NB101_103:=n6_;have NB103_101:=n7_;have NB102_103:=n8_;have NB103_102:=n9_;clear n0_ n1_ n2_ n3_ n4_ n5_ n6_ n7_ n8_ n9_;clear hb hbox hg;have hnb12:=NB101_102.out;have hnc12:=NB102_101.out;have hnb13:=NB101_103.out;have hnc13:=NB103_101.out;have hcz14_0 : w11.cell? ⟨gb101,0,none⟩ = some (.slice A0_0 l0_0.length c0_0):=(blk_cell BK101.out 0).trans rfl;have hfz14_0:=blk_frozen BK101.out 0;have hnb15:=NB102_103.out;have hnc15:=NB103_102.out;have hcz16_0 : w11.cell? ⟨gb102,0,none⟩ = some (.int .i64 a1_0):=(blk_cell BK102.out 0).trans rfl;have hcz16_1 : w11.cell? ⟨gb102,1,none⟩ = some (.bool a1_1):=(blk_cell BK102.out 1).trans rfl;have hcz16_2 : w11.cell? ⟨gb102,2,none⟩ = some (.int .i64 a1_2):=(blk_cell BK102.out 2).trans rfl;have hfz16_0:=blk_frozen BK102.out 0;have hfz16_1:=blk_frozen BK102.out 1;have hfz16_2:=blk_frozen BK102.out 2)|((with_reducible refine gate_callee (f:=79) rfl ?_);refine goesL_ (some 11) rfl rfl Try.func79 (by kernel_rfl) rfl #[.agg #[.slice A0_0 l0_0.length c0_0],.agg #[.int .i64 a1_0,.bool a1_1,.int .i64 a1_2]] rfl (by (try simp only [List.map_toArray,List.map_cons,List.map_nil]);first|done|rfl|(simp only [List.length_drop,List.length_take];rfl)) ?_;(with_reducible refine (impl_layoutCode.calls k _ _ l0_0 a1_0 a1_1 a1_2 t104 _ ?side1 ?side2 A4.out).mono ?_);(case side1 => repeat (first|exact (Kd.C_below HR0_0.out HB.out)|(with_reducible refine Kd.C_alloc ?_ _)|(with_reducible refine Kd.C_drewN ?_ _)|(with_reducible refine Kd.C_drew ?_)));(case side2 => exact HC0_0.out);rintro e w17 ⟨rfl,hb⟩;refine ⟨_,rfl,?_⟩;have n0_:=Aside0.mk (blk_below (g:=gb101) (o:=.cells #[.slice A0_0 l0_0.length c0_0] 61 (0,0)) (by (with_reducible repeat (first|refine blk_drewN ?_ _|refine blk_drew ?_|refine blk_alloc ?_ _));exact BK101.out) hb);have n1_:=Aside0.mk (blk_below (g:=gb102) (o:=.cells #[.int .i64 a1_0,.bool a1_1,.int .i64 a1_2] 25 (0,0)) (by (with_reducible repeat (first|refine blk_drewN ?_ _|refine blk_drew ?_|refine blk_alloc ?_ _));exact BK102.out) hb);have n2_:=Aside0.mk (blk_below (g:=gb103) (o:=.cells #[.int .i64 a2_0,.int .i64 a2_1] 63 (0,0)) (by (with_reducible repeat (first|refine blk_drewN ?_ _|refine blk_drew ?_|refine blk_alloc ?_ _));exact BK103.out) hb);have n3_:=Aside0.mk (below_step (by repeat (first|(with_reducible first|exact HB.out|apply below_alloc|apply pw_below_drewN|apply below_drew1|refine below_set ?_ GE101.out|refine below_set ?_ GE102.out|refine below_set ?_ GE103.out)|exact HB.out)) hb);clear BK101;clear BK102;clear BK103;clear HB;have BK101:=n0_;have BK102:=n1_;have BK103:=n2_;have HB:=n3_;clear n0_ n1_ n2_ n3_;(try clear hb);(try clear hb2);(try clear hk);(try clear hi);have hcz18_0 : w17.cell? ⟨gb101,0,none⟩ = some (.slice A0_0 l0_0.length c0_0):=(blk_cell BK101.out 0).trans rfl;have hfz18_0:=blk_frozen BK101.out 0;have hcz19_0 : w17.cell? ⟨gb102,0,none⟩ = some (.int .i64 a1_0):=(blk_cell BK102.out 0).trans rfl;have hcz19_1 : w17.cell? ⟨gb102,1,none⟩ = some (.bool a1_1):=(blk_cell BK102.out 1).trans rfl;have hcz19_2 : w17.cell? ⟨gb102,2,none⟩ = some (.int .i64 a1_2):=(blk_cell BK102.out 2).trans rfl;have hfz19_0:=blk_frozen BK102.out 0;have hfz19_1:=blk_frozen BK102.out 1;have hfz19_2:=blk_frozen BK102.out 2)|((with_reducible refine gate_callee (f:=80) rfl ?_);refine goesL_ (some 17) rfl rfl Try.func80 (by kernel_rfl) rfl #[.agg #[.slice A0_0 l0_0.length c0_0],.agg #[.int .i64 a1_0,.bool a1_1,.int .i64 a1_2]] rfl (by (try simp only [List.map_toArray,List.map_cons,List.map_nil]);first|done|rfl|(simp only [List.length_drop,List.length_take];rfl)) ?_;(with_reducible refine (impl_rowsOf.calls _ _ l0_0 a1_0 a1_1 a1_2 t105 _ ?side1 ?side2 A6.out).mono ?_);(case side1 => repeat (first|exact (Kd.C_below HR0_0.out HB.out)|(with_reducible refine Kd.C_alloc ?_ _)|(with_reducible refine Kd.C_drewN ?_ _)|(with_reducible refine Kd.C_drew ?_)));(case side2 => exact HC0_0.out);rintro e w20 ⟨v106,rfl,ho0,hb⟩;refine ⟨_,rfl,?_⟩;have n0_:=Aside0.mk (Kd.R_lower ho0 (below_size (by repeat (first|(with_reducible first|exact HB.out|apply below_alloc|apply pw_below_drewN|apply below_drew1|refine below_set ?_ GE101.out|refine below_set ?_ GE102.out|refine below_set ?_ GE103.out)|exact HB.out))));have n1_:=Aside0.mk (blk_below (g:=gb101) (o:=.cells #[.slice A0_0 l0_0.length c0_0] 61 (0,0)) (by (with_reducible repeat (first|refine blk_drewN ?_ _|refine blk_drew ?_|refine blk_alloc ?_ _));exact BK101.out) hb);have n2_:=Aside0.mk (blk_below (g:=gb102) (o:=.cells #[.int .i64 a1_0,.bool a1_1,.int .i64 a1_2] 25 (0,0)) (by (with_reducible repeat (first|refine blk_drewN ?_ _|refine blk_drew ?_|refine blk_alloc ?_ _));exact BK102.out) hb);have n3_:=Aside0.mk (blk_below (g:=gb103) (o:=.cells #[.int .i64 a2_0,.int .i64 a2_1] 63 (0,0)) (by (with_reducible repeat (first|refine blk_drewN ?_ _|refine blk_drew ?_|refine blk_alloc ?_ _));exact BK103.out) hb);have n4_:=Aside0.mk (below_step (by repeat (first|(with_reducible first|exact HB.out|apply below_alloc|apply pw_below_drewN|apply below_drew1|refine below_set ?_ GE101.out|refine below_set ?_ GE102.out|refine below_set ?_ GE103.out)|exact HB.out)) hb);clear BK101;clear BK102;clear BK103;clear HB;have HO107:=n0_;have BK101:=n1_;have BK102:=n2_;have BK103:=n3_;have HB:=n4_;clear n0_ n1_ n2_ n3_ n4_;(try clear hb);(try clear hb2);(try clear hk);(try clear hi);(try clear ho0);have hcz21_0 : w20.cell? ⟨gb103,0,none⟩ = some (.int .i64 a2_0):=(blk_cell BK103.out 0).trans rfl;have hcz21_1 : w20.cell? ⟨gb103,1,none⟩ = some (.int .i64 a2_1):=(blk_cell BK103.out 1).trans rfl;have hfz21_0:=blk_frozen BK103.out 0;have hfz21_1:=blk_frozen BK103.out 1;obtain ⟨Ao22,co22,eo22⟩:=Kd.R_slice HO107.out;subst eo22)|((with_reducible refine gate_callee (f:=81) rfl ?_);refine goesL_ (some 21) rfl rfl Try.func81 (by kernel_rfl) rfl #[.slice Ao22 t105.length co22,.agg #[.int .i64 a2_0,.int .i64 a2_1]] rfl (by (try simp only [List.map_toArray,List.map_cons,List.map_nil]);first|done|rfl|(simp only [List.length_drop,List.length_take];rfl)) ?_;(with_reducible refine (impl_isSpot.calls _ _ t105 a2_0 a2_1 true _ ?side1 ?side2 A7.out).mono ?_);(case side1 => repeat (first|exact (Kd.R_reads' HO107.out).2.2|(with_reducible refine Kd.C_alloc ?_ _)|(with_reducible refine Kd.C_drewN ?_ _)|(with_reducible refine Kd.C_drew ?_)));(case side2 => exact (Kd.R_reads' HO107.out).2.1);rintro e w23 ⟨rfl,hb⟩;refine ⟨_,rfl,?_⟩;have n0_:=Aside0.mk (Kd.R_below (by (with_reducible repeat (first|apply Kd.R_alloc|apply Kd.R_drewN|apply Kd.R_drew));exact HO107.out) hb);have n1_:=Aside0.mk (blk_below (g:=gb101) (o:=.cells #[.slice A0_0 l0_0.length c0_0] 61 (0,0)) (by (with_reducible repeat (first|refine blk_drewN ?_ _|refine blk_drew ?_|refine blk_alloc ?_ _));exact BK101.out) hb);have n2_:=Aside0.mk (blk_below (g:=gb102) (o:=.cells #[.int .i64 a1_0,.bool a1_1,.int .i64 a1_2] 25 (0,0)) (by (with_reducible repeat (first|refine blk_drewN ?_ _|refine blk_drew ?_|refine blk_alloc ?_ _));exact BK102.out) hb);have n3_:=Aside0.mk (blk_below (g:=gb103) (o:=.cells #[.int .i64 a2_0,.int .i64 a2_1] 63 (0,0)) (by (with_reducible repeat (first|refine blk_drewN ?_ _|refine blk_drew ?_|refine blk_alloc ?_ _));exact BK103.out) hb);have n4_:=Aside0.mk (below_step (by repeat (first|(with_reducible first|exact HB.out|apply below_alloc|apply pw_below_drewN|apply below_drew1|refine below_set ?_ GE101.out|refine below_set ?_ GE102.out|refine below_set ?_ GE103.out)|exact HB.out)) hb);clear HO107;clear BK101;clear BK102;clear BK103;clear HB;have HO107:=n0_;have BK101:=n1_;have BK102:=n2_;have BK103:=n3_;have HB:=n4_;clear n0_ n1_ n2_ n3_ n4_;(try clear hb);(try clear hb2);(try clear hk);(try clear hi)))
     go_ret
     exact ⟨by first|rfl|(simp [errW_none,errW_some] <;> rfl)|(simp [*,errW_none,errW_some] <;> rfl),by repeat (first|(with_reducible first|exact HB.out|apply below_alloc|apply pw_below_drewN|apply below_drew1|refine below_set ?_ GE101.out|refine below_set ?_ GE102.out|refine below_set ?_ GE103.out)|exact HB.out)⟩
   · replace c8:=Bool.eq_false_iff.mpr c8
     subst c8
     have H1 : (if (t105.length : Int) = 0 then (some 4) else (some 3)) = some r:=by rw [if_neg (show ¬ (false = true) by decide)] at H;exact H
     clear H
     have H:=H1
     clear H1
     by_cases c24 : (t105.length : Int) = 0
     · rw [if_pos c24] at H
       have c24b0 : ((t105.length : Int) == 0) = true:=beq_iff_eq.mpr c24
       have c24b1 : ((t105.length : Int) != 0) = false:=bne_eq_false_iff_eq.mpr c24
       clear c24
       obtain rfl:=Option.some.inj H
       go_enter Try.func42,Try.ntmps42
       go_wp2_with (first|((with_reducible refine gate_dst (N:=3) rfl ?_);refine box_event ?hg (N:=3) ?hd (cs:=#[.slice A0_0 l0_0.length c0_0]) (t:=61) ?hr ?_;(case hd => rfl);(case hg => rfl);(case hr => first|(go_simp;done)|(go_simp;rfl));intro gb101 hg w25 hbox hb;have n0_:=Aside0.mk (below_step (by repeat (first|(with_reducible first|exact HB.out|apply below_alloc|apply pw_below_drewN|apply below_drew1)|exact HB.out)) hb);have n1_:=Aside0.mk (hbox);have n2_:=Aside0.mk ((by rw [hg];exact (below_size (by repeat (first|(with_reducible first|exact HB.out|apply below_alloc|apply pw_below_drewN|apply below_drew1)|exact HB.out))) : w.heap.size ≤ gb101));have n3_:=Aside0.mk ((by rw [hg];exact (below_size (by repeat (first|(with_reducible first|exact HB.out|apply below_alloc|apply pw_below_drewN|apply below_drew1)|exact HB.out))) : w.heap.size ≤ gb101));clear HB;have HB:=n0_;have BK101:=n1_;have GW101:=n2_;have GE101:=n3_;clear n0_ n1_ n2_ n3_;clear hb hbox hg)|((with_reducible refine gate_dst (N:=4) rfl ?_);refine box_event ?hg (N:=4) ?hd (cs:=#[.int .i64 a1_0,.bool a1_1,.int .i64 a1_2]) (t:=25) ?hr ?_;(case hd => rfl);(case hg => rfl);(case hr => first|(go_simp;done)|(go_simp;rfl));intro gb102 hg w26 hbox hb;have n0_:=Aside0.mk (blk_below (g:=gb101) (o:=.cells #[.slice A0_0 l0_0.length c0_0] 61 (0,0)) (by (with_reducible repeat (first|refine blk_drewN ?_ _|refine blk_drew ?_|refine blk_alloc ?_ _));exact BK101.out) hb);have n1_:=Aside0.mk (below_step (by repeat (first|(with_reducible first|exact HB.out|apply below_alloc|apply pw_below_drewN|apply below_drew1|refine below_set ?_ GE101.out)|exact HB.out)) hb);have n2_:=Aside0.mk (hbox);have n3_:=Aside0.mk ((by rw [hg];exact (below_size (by repeat (first|(with_reducible first|exact HB.out|apply below_alloc|apply pw_below_drewN|apply below_drew1|refine below_set ?_ GE101.out)|exact HB.out))) : w.heap.size ≤ gb102));have n4_:=Aside0.mk ((by rw [hg];exact (below_size (by repeat (first|(with_reducible first|exact HB.out|apply below_alloc|apply pw_below_drewN|apply below_drew1|refine below_set ?_ GE101.out)|exact HB.out))) : w.heap.size ≤ gb102));have n5_:=Aside0.mk ((by rw [hg];exact Nat.ne_of_lt (blk_lt (g:=gb101) (o:=.cells #[.slice A0_0 l0_0.length c0_0] 61 (0,0)) (by (with_reducible repeat (first|refine blk_drewN ?_ _|refine blk_drew ?_|refine blk_alloc ?_ _));exact BK101.out)) : gb101 ≠ gb102));have n6_:=Aside0.mk ((by rw [hg];exact Nat.ne_of_gt (blk_lt (g:=gb101) (o:=.cells #[.slice A0_0 l0_0.length c0_0] 61 (0,0)) (by (with_reducible repeat (first|refine blk_drewN ?_ _|refine blk_drew ?_|refine blk_alloc ?_ _));exact BK101.out)) : gb102 ≠ gb101));clear BK101;clear HB;have BK101:=n0_;have HB:=n1_;have BK102:=n2_;have GW102:=n3_;have GE102:=n4_;have NB101_102:=n5_;have NB102_101:=n6_;clear n0_ n1_ n2_ n3_ n4_ n5_ n6_;clear hb hbox hg)|((with_reducible refine gate_dst (N:=5) rfl ?_);refine box_event ?hg (N:=5) ?hd (cs:=#[.int .i64 a2_0,.int .i64 a2_1]) (t:=63) ?hr ?_;(case hd => rfl);(case hg => rfl);(case hr => first|(go_simp;done)|(go_simp;rfl));intro gb103 hg w27 hbox hb;have n0_:=Aside0.mk (blk_below (g:=gb101) (o:=.cells #[.slice A0_0 l0_0.length c0_0] 61 (0,0)) (by (with_reducible repeat (first|refine blk_drewN ?_ _|refine blk_drew ?_|refine blk_alloc ?_ _));exact BK101.out) hb);have n1_:=Aside0.mk (blk_below (g:=gb102) (o:=.cells #[.int .i64 a1_0,.bool a1_1,.int .i64 a1_2] 25 (0,0)) (by (with_reducible repeat (first|refine blk_drewN ?_ _|refine blk_drew ?_|refine blk_alloc ?_ _));exact BK102.out) hb);have n2_:=Aside0.mk (below_step (by repeat (first|(with_reducible first|exact HB.out|apply below_alloc|apply pw_below_drewN|apply below_drew1|refine below_set ?_ GE101.out|refine below_set ?_ GE102.out)|exact HB.out)) hb);have n3_:=Aside0.mk (hbox);have n4_:=Aside0.mk ((by rw [hg];exact (below_size (by repeat (first|(with_reducible first|exact HB.out|apply below_alloc|apply pw_below_drewN|apply below_drew1|refine below_set ?_ GE101.out|refine below_set ?_ GE102.out)|exact HB.out))) : w.heap.size ≤ gb103));have n5_:=Aside0.mk ((by rw [hg];exact (below_size (by repeat (first|(with_reducible first|exact HB.out|apply below_alloc|apply pw_below_drewN|apply below_drew1|refine below_set ?_ GE101.out|refine below_set ?_ GE102.out)|exact HB.out))) : w.heap.size ≤ gb103));have n6_:=Aside0.mk ((by rw [hg];exact Nat.ne_of_lt (blk_lt (g:=gb101) (o:=.cells #[.slice A0_0 l0_0.length c0_0] 61 (0,0)) (by (with_reducible repeat (first|refine blk_drewN ?_ _|refine blk_drew ?_|refine blk_alloc ?_ _));exact BK101.out)) : gb101 ≠ gb103));have n7_:=Aside0.mk ((by rw [hg];exact Nat.ne_of_gt (blk_lt (g:=gb101) (o:=.cells #[.slice A0_0 l0_0.length c0_0] 61 (0,0)) (by (with_reducible repeat (first|refine blk_drewN ?_ _|refine blk_drew ?_|refine blk_alloc ?_ _));exact BK101.out)) : gb103 ≠ gb101));have n8_:=Aside0.mk ((by rw [hg];exact Nat.ne_of_lt (blk_lt (g:=gb102) (o:=.cells #[.int .i64 a1_0,.bool a1_1,.int .i64 a1_2] 25 (0,0)) (by (with_reducible repeat (first|refine blk_drewN ?_ _|refine blk_drew ?_|refine blk_alloc ?_ _));exact BK102.out)) : gb102 ≠ gb103));have n9_:=Aside0.mk ((by rw [hg];exact Nat.ne_of_gt (blk_lt (g:=gb102) (o:=.cells #[.int .i64 a1_0,.bool a1_1,.int .i64 a1_2] 25 (0,0)) (by (with_reducible repeat (first|refine blk_drewN ?_ _|refine blk_drew ?_|refine blk_alloc ?_ _));exact BK102.out)) : gb103 ≠ gb102));clear BK101;clear BK102;clear HB;have BK101:=n0_;have BK102:=n1_;have HB:=n2_;have BK103:=n3_;have GW103:=n4_;have GE103:=n5_;have NB101_103:=n6_;have NB103_101:=n7_;have NB102_103:=n8_;have NB103_102:=n9_;clear n0_ n1_ n2_ n3_ n4_ n5_ n6_ n7_ n8_ n9_;clear hb hbox hg;have hnb28:=NB101_102.out;have hnc28:=NB102_101.out;have hnb29:=NB101_103.out;have hnc29:=NB103_101.out;have hcz30_0 : w27.cell? ⟨gb101,0,none⟩ = some (.slice A0_0 l0_0.length c0_0):=(blk_cell BK101.out 0).trans rfl;have hfz30_0:=blk_frozen BK101.out 0;have hnb31:=NB102_103.out;have hnc31:=NB103_102.out;have hcz32_0 : w27.cell? ⟨gb102,0,none⟩ = some (.int .i64 a1_0):=(blk_cell BK102.out 0).trans rfl;have hcz32_1 : w27.cell? ⟨gb102,1,none⟩ = some (.bool a1_1):=(blk_cell BK102.out 1).trans rfl;have hcz32_2 : w27.cell? ⟨gb102,2,none⟩ = some (.int .i64 a1_2):=(blk_cell BK102.out 2).trans rfl;have hfz32_0:=blk_frozen BK102.out 0;have hfz32_1:=blk_frozen BK102.out 1;have hfz32_2:=blk_frozen BK102.out 2)|((with_reducible refine gate_callee (f:=79) rfl ?_);refine goesL_ (some 11) rfl rfl Try.func79 (by kernel_rfl) rfl #[.agg #[.slice A0_0 l0_0.length c0_0],.agg #[.int .i64 a1_0,.bool a1_1,.int .i64 a1_2]] rfl (by (try simp only [List.map_toArray,List.map_cons,List.map_nil]);first|done|rfl|(simp only [List.length_drop,List.length_take];rfl)) ?_;(with_reducible refine (impl_layoutCode.calls k _ _ l0_0 a1_0 a1_1 a1_2 t104 _ ?side1 ?side2 A4.out).mono ?_);(case side1 => repeat (first|exact (Kd.C_below HR0_0.out HB.out)|(with_reducible refine Kd.C_alloc ?_ _)|(with_reducible refine Kd.C_drewN ?_ _)|(with_reducible refine Kd.C_drew ?_)));(case side2 => exact HC0_0.out);rintro e w33 ⟨rfl,hb⟩;refine ⟨_,rfl,?_⟩;have n0_:=Aside0.mk (blk_below (g:=gb101) (o:=.cells #[.slice A0_0 l0_0.length c0_0] 61 (0,0)) (by (with_reducible repeat (first|refine blk_drewN ?_ _|refine blk_drew ?_|refine blk_alloc ?_ _));exact BK101.out) hb);have n1_:=Aside0.mk (blk_below (g:=gb102) (o:=.cells #[.int .i64 a1_0,.bool a1_1,.int .i64 a1_2] 25 (0,0)) (by (with_reducible repeat (first|refine blk_drewN ?_ _|refine blk_drew ?_|refine blk_alloc ?_ _));exact BK102.out) hb);have n2_:=Aside0.mk (blk_below (g:=gb103) (o:=.cells #[.int .i64 a2_0,.int .i64 a2_1] 63 (0,0)) (by (with_reducible repeat (first|refine blk_drewN ?_ _|refine blk_drew ?_|refine blk_alloc ?_ _));exact BK103.out) hb);have n3_:=Aside0.mk (below_step (by repeat (first|(with_reducible first|exact HB.out|apply below_alloc|apply pw_below_drewN|apply below_drew1|refine below_set ?_ GE101.out|refine below_set ?_ GE102.out|refine below_set ?_ GE103.out)|exact HB.out)) hb);clear BK101;clear BK102;clear BK103;clear HB;have BK101:=n0_;have BK102:=n1_;have BK103:=n2_;have HB:=n3_;clear n0_ n1_ n2_ n3_;(try clear hb);(try clear hb2);(try clear hk);(try clear hi);have hcz34_0 : w33.cell? ⟨gb101,0,none⟩ = some (.slice A0_0 l0_0.length c0_0):=(blk_cell BK101.out 0).trans rfl;have hfz34_0:=blk_frozen BK101.out 0;have hcz35_0 : w33.cell? ⟨gb102,0,none⟩ = some (.int .i64 a1_0):=(blk_cell BK102.out 0).trans rfl;have hcz35_1 : w33.cell? ⟨gb102,1,none⟩ = some (.bool a1_1):=(blk_cell BK102.out 1).trans rfl;have hcz35_2 : w33.cell? ⟨gb102,2,none⟩ = some (.int .i64 a1_2):=(blk_cell BK102.out 2).trans rfl;have hfz35_0:=blk_frozen BK102.out 0;have hfz35_1:=blk_frozen BK102.out 1;have hfz35_2:=blk_frozen BK102.out 2)|((with_reducible refine gate_callee (f:=80) rfl ?_);refine goesL_ (some 17) rfl rfl Try.func80 (by kernel_rfl) rfl #[.agg #[.slice A0_0 l0_0.length c0_0],.agg #[.int .i64 a1_0,.bool a1_1,.int .i64 a1_2]] rfl (by (try simp only [List.map_toArray,List.map_cons,List.map_nil]);first|done|rfl|(simp only [List.length_drop,List.length_take];rfl)) ?_;(with_reducible refine (impl_rowsOf.calls _ _ l0_0 a1_0 a1_1 a1_2 t105 _ ?side1 ?side2 A6.out).mono ?_);(case side1 => repeat (first|exact (Kd.C_below HR0_0.out HB.out)|(with_reducible refine Kd.C_alloc ?_ _)|(with_reducible refine Kd.C_drewN ?_ _)|(with_reducible refine Kd.C_drew ?_)));(case side2 => exact HC0_0.out);rintro e w36 ⟨v106,rfl,ho0,hb⟩;refine ⟨_,rfl,?_⟩;have n0_:=Aside0.mk (Kd.R_lower ho0 (below_size (by repeat (first|(with_reducible first|exact HB.out|apply below_alloc|apply pw_below_drewN|apply below_drew1|refine below_set ?_ GE101.out|refine below_set ?_ GE102.out|refine below_set ?_ GE103.out)|exact HB.out))));have n1_:=Aside0.mk (blk_below (g:=gb101) (o:=.cells #[.slice A0_0 l0_0.length c0_0] 61 (0,0)) (by (with_reducible repeat (first|refine blk_drewN ?_ _|refine blk_drew ?_|refine blk_alloc ?_ _));exact BK101.out) hb);have n2_:=Aside0.mk (blk_below (g:=gb102) (o:=.cells #[.int .i64 a1_0,.bool a1_1,.int .i64 a1_2] 25 (0,0)) (by (with_reducible repeat (first|refine blk_drewN ?_ _|refine blk_drew ?_|refine blk_alloc ?_ _));exact BK102.out) hb);have n3_:=Aside0.mk (blk_below (g:=gb103) (o:=.cells #[.int .i64 a2_0,.int .i64 a2_1] 63 (0,0)) (by (with_reducible repeat (first|refine blk_drewN ?_ _|refine blk_drew ?_|refine blk_alloc ?_ _));exact BK103.out) hb);have n4_:=Aside0.mk (below_step (by repeat (first|(with_reducible first|exact HB.out|apply below_alloc|apply pw_below_drewN|apply below_drew1|refine below_set ?_ GE101.out|refine below_set ?_ GE102.out|refine below_set ?_ GE103.out)|exact HB.out)) hb);clear BK101;clear BK102;clear BK103;clear HB;have HO107:=n0_;have BK101:=n1_;have BK102:=n2_;have BK103:=n3_;have HB:=n4_;clear n0_ n1_ n2_ n3_ n4_;(try clear hb);(try clear hb2);(try clear hk);(try clear hi);(try clear ho0);have hcz37_0 : w36.cell? ⟨gb103,0,none⟩ = some (.int .i64 a2_0):=(blk_cell BK103.out 0).trans rfl;have hcz37_1 : w36.cell? ⟨gb103,1,none⟩ = some (.int .i64 a2_1):=(blk_cell BK103.out 1).trans rfl;have hfz37_0:=blk_frozen BK103.out 0;have hfz37_1:=blk_frozen BK103.out 1;obtain ⟨Ao38,co38,eo38⟩:=Kd.R_slice HO107.out;subst eo38)|((with_reducible refine gate_callee (f:=81) rfl ?_);refine goesL_ (some 21) rfl rfl Try.func81 (by kernel_rfl) rfl #[.slice Ao38 t105.length co38,.agg #[.int .i64 a2_0,.int .i64 a2_1]] rfl (by (try simp only [List.map_toArray,List.map_cons,List.map_nil]);first|done|rfl|(simp only [List.length_drop,List.length_take];rfl)) ?_;(with_reducible refine (impl_isSpot.calls _ _ t105 a2_0 a2_1 false _ ?side1 ?side2 A7.out).mono ?_);(case side1 => repeat (first|exact (Kd.R_reads' HO107.out).2.2|(with_reducible refine Kd.C_alloc ?_ _)|(with_reducible refine Kd.C_drewN ?_ _)|(with_reducible refine Kd.C_drew ?_)));(case side2 => exact (Kd.R_reads' HO107.out).2.1);rintro e w39 ⟨rfl,hb⟩;refine ⟨_,rfl,?_⟩;have n0_:=Aside0.mk (Kd.R_below (by (with_reducible repeat (first|apply Kd.R_alloc|apply Kd.R_drewN|apply Kd.R_drew));exact HO107.out) hb);have n1_:=Aside0.mk (blk_below (g:=gb101) (o:=.cells #[.slice A0_0 l0_0.length c0_0] 61 (0,0)) (by (with_reducible repeat (first|refine blk_drewN ?_ _|refine blk_drew ?_|refine blk_alloc ?_ _));exact BK101.out) hb);have n2_:=Aside0.mk (blk_below (g:=gb102) (o:=.cells #[.int .i64 a1_0,.bool a1_1,.int .i64 a1_2] 25 (0,0)) (by (with_reducible repeat (first|refine blk_drewN ?_ _|refine blk_drew ?_|refine blk_alloc ?_ _));exact BK102.out) hb);have n3_:=Aside0.mk (blk_below (g:=gb103) (o:=.cells #[.int .i64 a2_0,.int .i64 a2_1] 63 (0,0)) (by (with_reducible repeat (first|refine blk_drewN ?_ _|refine blk_drew ?_|refine blk_alloc ?_ _));exact BK103.out) hb);have n4_:=Aside0.mk (below_step (by repeat (first|(with_reducible first|exact HB.out|apply below_alloc|apply pw_below_drewN|apply below_drew1|refine below_set ?_ GE101.out|refine below_set ?_ GE102.out|refine below_set ?_ GE103.out)|exact HB.out)) hb);clear HO107;clear BK101;clear BK102;clear BK103;clear HB;have HO107:=n0_;have BK101:=n1_;have BK102:=n2_;have BK103:=n3_;have HB:=n4_;clear n0_ n1_ n2_ n3_ n4_;(try clear hb);(try clear hb2);(try clear hk);(try clear hi)))
       go_ret
       exact ⟨by first|rfl|(simp [errW_none,errW_some] <;> rfl)|(simp [*,errW_none,errW_some] <;> rfl),by repeat (first|(with_reducible first|exact HB.out|apply below_alloc|apply pw_below_drewN|apply below_drew1|refine below_set ?_ GE101.out|refine below_set ?_ GE102.out|refine below_set ?_ GE103.out)|exact HB.out)⟩
     · rw [if_neg c24] at H
       have c24b0 : ((t105.length : Int) == 0) = false:=beq_eq_false_iff_ne.mpr c24
       have c24b1 : ((t105.length : Int) != 0) = true:=bne_iff_ne.mpr c24
       have c24b2 : ¬ (t105 = []):=fun h_ => c24 (by rw [h_];rfl)
       obtain rfl:=Option.some.inj H
       go_enter Try.func42,Try.ntmps42
       go_wp2_with (first|((with_reducible refine gate_dst (N:=3) rfl ?_);refine box_event ?hg (N:=3) ?hd (cs:=#[.slice A0_0 l0_0.length c0_0]) (t:=61) ?hr ?_;(case hd => rfl);(case hg => rfl);(case hr => first|(go_simp;done)|(go_simp;rfl));intro gb101 hg w40 hbox hb;have n0_:=Aside0.mk (below_step (by repeat (first|(with_reducible first|exact HB.out|apply below_alloc|apply pw_below_drewN|apply below_drew1)|exact HB.out)) hb);have n1_:=Aside0.mk (hbox);have n2_:=Aside0.mk ((by rw [hg];exact (below_size (by repeat (first|(with_reducible first|exact HB.out|apply below_alloc|apply pw_below_drewN|apply below_drew1)|exact HB.out))) : w.heap.size ≤ gb101));have n3_:=Aside0.mk ((by rw [hg];exact (below_size (by repeat (first|(with_reducible first|exact HB.out|apply below_alloc|apply pw_below_drewN|apply below_drew1)|exact HB.out))) : w.heap.size ≤ gb101));clear HB;have HB:=n0_;have BK101:=n1_;have GW101:=n2_;have GE101:=n3_;clear n0_ n1_ n2_ n3_;clear hb hbox hg)|((with_reducible refine gate_dst (N:=4) rfl ?_);refine box_event ?hg (N:=4) ?hd (cs:=#[.int .i64 a1_0,.bool a1_1,.int .i64 a1_2]) (t:=25) ?hr ?_;(case hd => rfl);(case hg => rfl);(case hr => first|(go_simp;done)|(go_simp;rfl));intro gb102 hg w41 hbox hb;have n0_:=Aside0.mk (blk_below (g:=gb101) (o:=.cells #[.slice A0_0 l0_0.length c0_0] 61 (0,0)) (by (with_reducible repeat (first|refine blk_drewN ?_ _|refine blk_drew ?_|refine blk_alloc ?_ _));exact BK101.out) hb);have n1_:=Aside0.mk (below_step (by repeat (first|(with_reducible first|exact HB.out|apply below_alloc|apply pw_below_drewN|apply below_drew1|refine below_set ?_ GE101.out)|exact HB.out)) hb);have n2_:=Aside0.mk (hbox);have n3_:=Aside0.mk ((by rw [hg];exact (below_size (by repeat (first|(with_reducible first|exact HB.out|apply below_alloc|apply pw_below_drewN|apply below_drew1|refine below_set ?_ GE101.out)|exact HB.out))) : w.heap.size ≤ gb102));have n4_:=Aside0.mk ((by rw [hg];exact (below_size (by repeat (first|(with_reducible first|exact HB.out|apply below_alloc|apply pw_below_drewN|apply below_drew1|refine below_set ?_ GE101.out)|exact HB.out))) : w.heap.size ≤ gb102));have n5_:=Aside0.mk ((by rw [hg];exact Nat.ne_of_lt (blk_lt (g:=gb101) (o:=.cells #[.slice A0_0 l0_0.length c0_0] 61 (0,0)) (by (with_reducible repeat (first|refine blk_drewN ?_ _|refine blk_drew ?_|refine blk_alloc ?_ _));exact BK101.out)) : gb101 ≠ gb102));have n6_:=Aside0.mk ((by rw [hg];exact Nat.ne_of_gt (blk_lt (g:=gb101) (o:=.cells #[.slice A0_0 l0_0.length c0_0] 61 (0,0)) (by (with_reducible repeat (first|refine blk_drewN ?_ _|refine blk_drew ?_|refine blk_alloc ?_ _));exact BK101.out)) : gb102 ≠ gb101));clear BK101;clear HB;have BK101:=n0_;have HB:=n1_;have BK102:=n2_;have GW102:=n3_;have GE102:=n4_;have NB101_102:=n5_;have NB102_101:=n6_;clear n0_ n1_ n2_ n3_ n4_ n5_ n6_;clear hb hbox hg)|((with_reducible refine gate_dst (N:=5) rfl ?_);refine box_event ?hg (N:=5) ?hd (cs:=#[.int .i64 a2_0,.int .i64 a2_1]) (t:=63) ?hr ?_;(case hd => rfl);(case hg => rfl);(case hr => first|(go_simp;done)|(go_simp;rfl));intro gb103 hg w42 hbox hb;have n0_:=Aside0.mk (blk_below (g:=gb101) (o:=.cells #[.slice A0_0 l0_0.length c0_0] 61 (0,0)) (by (with_reducible repeat (first|refine blk_drewN ?_ _|refine blk_drew ?_|refine blk_alloc ?_ _));exact BK101.out) hb);have n1_:=Aside0.mk (blk_below (g:=gb102) (o:=.cells #[.int .i64 a1_0,.bool a1_1,.int .i64 a1_2] 25 (0,0)) (by (with_reducible repeat (first|refine blk_drewN ?_ _|refine blk_drew ?_|refine blk_alloc ?_ _));exact BK102.out) hb);have n2_:=Aside0.mk (below_step (by repeat (first|(with_reducible first|exact HB.out|apply below_alloc|apply pw_below_drewN|apply below_drew1|refine below_set ?_ GE101.out|refine below_set ?_ GE102.out)|exact HB.out)) hb);have n3_:=Aside0.mk (hbox);have n4_:=Aside0.mk ((by rw [hg];exact (below_size (by repeat (first|(with_reducible first|exact HB.out|apply below_alloc|apply pw_below_drewN|apply below_drew1|refine below_set ?_ GE101.out|refine below_set ?_ GE102.out)|exact HB.out))) : w.heap.size ≤ gb103));have n5_:=Aside0.mk ((by rw [hg];exact (below_size (by repeat (first|(with_reducible first|exact HB.out|apply below_alloc|apply pw_below_drewN|apply below_drew1|refine below_set ?_ GE101.out|refine below_set ?_ GE102.out)|exact HB.out))) : w.heap.size ≤ gb103));have n6_:=Aside0.mk ((by rw [hg];exact Nat.ne_of_lt (blk_lt (g:=gb101) (o:=.cells #[.slice A0_0 l0_0.length c0_0] 61 (0,0)) (by (with_reducible repeat (first|refine blk_drewN ?_ _|refine blk_drew ?_|refine blk_alloc ?_ _));exact BK101.out)) : gb101 ≠ gb103));have n7_:=Aside0.mk ((by rw [hg];exact Nat.ne_of_gt (blk_lt (g:=gb101) (o:=.cells #[.slice A0_0 l0_0.length c0_0] 61 (0,0)) (by (with_reducible repeat (first|refine blk_drewN ?_ _|refine blk_drew ?_|refine blk_alloc ?_ _));exact BK101.out)) : gb103 ≠ gb101));have n8_:=Aside0.mk ((by rw [hg];exact Nat.ne_of_lt (blk_lt (g:=gb102) (o:=.cells #[.int .i64 a1_0,.bool a1_1,.int .i64 a1_2] 25 (0,0)) (by (with_reducible repeat (first|refine blk_drewN ?_ _|refine blk_drew ?_|refine blk_alloc ?_ _));exact BK102.out)) : gb102 ≠ gb103));have n9_:=Aside0.mk ((by rw [hg];exact Nat.ne_of_gt (blk_lt (g:=gb102) (o:=.cells #[.int .i64 a1_0,.bool a1_1,.int .i64 a1_2] 25 (0,0)) (by (with_reducible repeat (first|refine blk_drewN ?_ _|refine blk_drew ?_|refine blk_alloc ?_ _));exact BK102.out)) : gb103 ≠ gb102));clear BK101;clear BK102;clear HB;have BK101:=n0_;have BK102:=n1_;have HB:=n2_;have BK103:=n3_;have GW103:=n4_;have GE103:=n5_;have NB101_103:=n6_;have NB103_101:=n7_;have NB102_103:=n8_;have NB103_102:=n9_;clear n0_ n1_ n2_ n3_ n4_ n5_ n6_ n7_ n8_ n9_;clear hb hbox hg;have hnb43:=NB101_102.out;have hnc43:=NB102_101.out;have hnb44:=NB101_103.out;have hnc44:=NB103_101.out;have hcz45_0 : w42.cell? ⟨gb101,0,none⟩ = some (.slice A0_0 l0_0.length c0_0):=(blk_cell BK101.out 0).trans rfl;have hfz45_0:=blk_frozen BK101.out 0;have hnb46:=NB102_103.out;have hnc46:=NB103_102.out;have hcz47_0 : w42.cell? ⟨gb102,0,none⟩ = some (.int .i64 a1_0):=(blk_cell BK102.out 0).trans rfl;have hcz47_1 : w42.cell? ⟨gb102,1,none⟩ = some (.bool a1_1):=(blk_cell BK102.out 1).trans rfl;have hcz47_2 : w42.cell? ⟨gb102,2,none⟩ = some (.int .i64 a1_2):=(blk_cell BK102.out 2).trans rfl;have hfz47_0:=blk_frozen BK102.out 0;have hfz47_1:=blk_frozen BK102.out 1;have hfz47_2:=blk_frozen BK102.out 2)|((with_reducible refine gate_callee (f:=79) rfl ?_);refine goesL_ (some 11) rfl rfl Try.func79 (by kernel_rfl) rfl #[.agg #[.slice A0_0 l0_0.length c0_0],.agg #[.int .i64 a1_0,.bool a1_1,.int .i64 a1_2]] rfl (by (try simp only [List.map_toArray,List.map_cons,List.map_nil]);first|done|rfl|(simp only [List.length_drop,List.length_take];rfl)) ?_;(with_reducible refine (impl_layoutCode.calls k _ _ l0_0 a1_0 a1_1 a1_2 t104 _ ?side1 ?side2 A4.out).mono ?_);(case side1 => repeat (first|exact (Kd.C_below HR0_0.out HB.out)|(with_reducible refine Kd.C_alloc ?_ _)|(with_reducible refine Kd.C_drewN ?_ _)|(with_reducible refine Kd.C_drew ?_)));(case side2 => exact HC0_0.out);rintro e w48 ⟨rfl,hb⟩;refine ⟨_,rfl,?_⟩;have n0_:=Aside0.mk (blk_below (g:=gb101) (o:=.cells #[.slice A0_0 l0_0.length c0_0] 61 (0,0)) (by (with_reducible repeat (first|refine blk_drewN ?_ _|refine blk_drew ?_|refine blk_alloc ?_ _));exact BK101.out) hb);have n1_:=Aside0.mk (blk_below (g:=gb102) (o:=.cells #[.int .i64 a1_0,.bool a1_1,.int .i64 a1_2] 25 (0,0)) (by (with_reducible repeat (first|refine blk_drewN ?_ _|refine blk_drew ?_|refine blk_alloc ?_ _));exact BK102.out) hb);have n2_:=Aside0.mk (blk_below (g:=gb103) (o:=.cells #[.int .i64 a2_0,.int .i64 a2_1] 63 (0,0)) (by (with_reducible repeat (first|refine blk_drewN ?_ _|refine blk_drew ?_|refine blk_alloc ?_ _));exact BK103.out) hb);have n3_:=Aside0.mk (below_step (by repeat (first|(with_reducible first|exact HB.out|apply below_alloc|apply pw_below_drewN|apply below_drew1|refine below_set ?_ GE101.out|refine below_set ?_ GE102.out|refine below_set ?_ GE103.out)|exact HB.out)) hb);clear BK101;clear BK102;clear BK103;clear HB;have BK101:=n0_;have BK102:=n1_;have BK103:=n2_;have HB:=n3_;clear n0_ n1_ n2_ n3_;(try clear hb);(try clear hb2);(try clear hk);(try clear hi);have hcz49_0 : w48.cell? ⟨gb101,0,none⟩ = some (.slice A0_0 l0_0.length c0_0):=(blk_cell BK101.out 0).trans rfl;have hfz49_0:=blk_frozen BK101.out 0;have hcz50_0 : w48.cell? ⟨gb102,0,none⟩ = some (.int .i64 a1_0):=(blk_cell BK102.out 0).trans rfl;have hcz50_1 : w48.cell? ⟨gb102,1,none⟩ = some (.bool a1_1):=(blk_cell BK102.out 1).trans rfl;have hcz50_2 : w48.cell? ⟨gb102,2,none⟩ = some (.int .i64 a1_2):=(blk_cell BK102.out 2).trans rfl;have hfz50_0:=blk_frozen BK102.out 0;have hfz50_1:=blk_frozen BK102.out 1;have hfz50_2:=blk_frozen BK102.out 2)|((with_reducible refine gate_callee (f:=80) rfl ?_);refine goesL_ (some 17) rfl rfl Try.func80 (by kernel_rfl) rfl #[.agg #[.slice A0_0 l0_0.length c0_0],.agg #[.int .i64 a1_0,.bool a1_1,.int .i64 a1_2]] rfl (by (try simp only [List.map_toArray,List.map_cons,List.map_nil]);first|done|rfl|(simp only [List.length_drop,List.length_take];rfl)) ?_;(with_reducible refine (impl_rowsOf.calls _ _ l0_0 a1_0 a1_1 a1_2 t105 _ ?side1 ?side2 A6.out).mono ?_);(case side1 => repeat (first|exact (Kd.C_below HR0_0.out HB.out)|(with_reducible refine Kd.C_alloc ?_ _)|(with_reducible refine Kd.C_drewN ?_ _)|(with_reducible refine Kd.C_drew ?_)));(case side2 => exact HC0_0.out);rintro e w51 ⟨v106,rfl,ho0,hb⟩;refine ⟨_,rfl,?_⟩;have n0_:=Aside0.mk (Kd.R_lower ho0 (below_size (by repeat (first|(with_reducible first|exact HB.out|apply below_alloc|apply pw_below_drewN|apply below_drew1|refine below_set ?_ GE101.out|refine below_set ?_ GE102.out|refine below_set ?_ GE103.out)|exact HB.out))));have n1_:=Aside0.mk (blk_below (g:=gb101) (o:=.cells #[.slice A0_0 l0_0.length c0_0] 61 (0,0)) (by (with_reducible repeat (first|refine blk_drewN ?_ _|refine blk_drew ?_|refine blk_alloc ?_ _));exact BK101.out) hb);have n2_:=Aside0.mk (blk_below (g:=gb102) (o:=.cells #[.int .i64 a1_0,.bool a1_1,.int .i64 a1_2] 25 (0,0)) (by (with_reducible repeat (first|refine blk_drewN ?_ _|refine blk_drew ?_|refine blk_alloc ?_ _));exact BK102.out) hb);have n3_:=Aside0.mk (blk_below (g:=gb103) (o:=.cells #[.int .i64 a2_0,.int .i64 a2_1] 63 (0,0)) (by (with_reducible repeat (first|refine blk_drewN ?_ _|refine blk_drew ?_|refine blk_alloc ?_ _));exact BK103.out) hb);have n4_:=Aside0.mk (below_step (by repeat (first|(with_reducible first|exact HB.out|apply below_alloc|apply pw_below_drewN|apply below_drew1|refine below_set ?_ GE101.out|refine below_set ?_ GE102.out|refine below_set ?_ GE103.out)|exact HB.out)) hb);clear BK101;clear BK102;clear BK103;clear HB;have HO107:=n0_;have BK101:=n1_;have BK102:=n2_;have BK103:=n3_;have HB:=n4_;clear n0_ n1_ n2_ n3_ n4_;(try clear hb);(try clear hb2);(try clear hk);(try clear hi);(try clear ho0);have hcz52_0 : w51.cell? ⟨gb103,0,none⟩ = some (.int .i64 a2_0):=(blk_cell BK103.out 0).trans rfl;have hcz52_1 : w51.cell? ⟨gb103,1,none⟩ = some (.int .i64 a2_1):=(blk_cell BK103.out 1).trans rfl;have hfz52_0:=blk_frozen BK103.out 0;have hfz52_1:=blk_frozen BK103.out 1;obtain ⟨Ao53,co53,eo53⟩:=Kd.R_slice HO107.out;subst eo53)|((with_reducible refine gate_callee (f:=81) rfl ?_);refine goesL_ (some 21) rfl rfl Try.func81 (by kernel_rfl) rfl #[.slice Ao53 t105.length co53,.agg #[.int .i64 a2_0,.int .i64 a2_1]] rfl (by (try simp only [List.map_toArray,List.map_cons,List.map_nil]);first|done|rfl|(simp only [List.length_drop,List.length_take];rfl)) ?_;(with_reducible refine (impl_isSpot.calls _ _ t105 a2_0 a2_1 false _ ?side1 ?side2 A7.out).mono ?_);(case side1 => repeat (first|exact (Kd.R_reads' HO107.out).2.2|(with_reducible refine Kd.C_alloc ?_ _)|(with_reducible refine Kd.C_drewN ?_ _)|(with_reducible refine Kd.C_drew ?_)));(case side2 => exact (Kd.R_reads' HO107.out).2.1);rintro e w54 ⟨rfl,hb⟩;refine ⟨_,rfl,?_⟩;have n0_:=Aside0.mk (Kd.R_below (by (with_reducible repeat (first|apply Kd.R_alloc|apply Kd.R_drewN|apply Kd.R_drew));exact HO107.out) hb);have n1_:=Aside0.mk (blk_below (g:=gb101) (o:=.cells #[.slice A0_0 l0_0.length c0_0] 61 (0,0)) (by (with_reducible repeat (first|refine blk_drewN ?_ _|refine blk_drew ?_|refine blk_alloc ?_ _));exact BK101.out) hb);have n2_:=Aside0.mk (blk_below (g:=gb102) (o:=.cells #[.int .i64 a1_0,.bool a1_1,.int .i64 a1_2] 25 (0,0)) (by (with_reducible repeat (first|refine blk_drewN ?_ _|refine blk_drew ?_|refine blk_alloc ?_ _));exact BK102.out) hb);have n3_:=Aside0.mk (blk_below (g:=gb103) (o:=.cells #[.int .i64 a2_0,.int .i64 a2_1] 63 (0,0)) (by (with_reducible repeat (first|refine blk_drewN ?_ _|refine blk_drew ?_|refine blk_alloc ?_ _));exact BK103.out) hb);have n4_:=Aside0.mk (below_step (by repeat (first|(with_reducible first|exact HB.out|apply below_alloc|apply pw_below_drewN|apply below_drew1|refine below_set ?_ GE101.out|refine below_set ?_ GE102.out|refine below_set ?_ GE103.out)|exact HB.out)) hb);clear HO107;clear BK101;clear BK102;clear BK103;clear HB;have HO107:=n0_;have BK101:=n1_;have BK102:=n2_;have BK103:=n3_;have HB:=n4_;clear n0_ n1_ n2_ n3_ n4_;(try clear hb);(try clear hb2);(try clear hk);(try clear hi)))
       go_ret
       exact ⟨by first|rfl|(simp [errW_none,errW_some] <;> rfl)|(simp [*,errW_none,errW_some] <;> rfl),by repeat (first|(with_reducible first|exact HB.out|apply below_alloc|apply pw_below_drewN|apply below_drew1|refine below_set ?_ GE101.out|refine below_set ?_ GE102.out|refine below_set ?_ GE103.out)|exact HB.out)⟩
 · rw [if_neg c5] at H
   have c5b0 : (t104 == 0) = false:=beq_eq_false_iff_ne.mpr c5
   have c5b1 : (t104 != 0) = true:=bne_iff_ne.mpr c5
   obtain rfl:=Option.some.inj H
   go_enter Try.func42,Try.ntmps42
   go_wp2_with (first|((with_reducible refine gate_dst (N:=3) rfl ?_);refine box_event ?hg (N:=3) ?hd (cs:=#[.slice A0_0 l0_0.length c0_0]) (t:=61) ?hr ?_;(case hd => rfl);(case hg => rfl);(case hr => first|(go_simp;done)|(go_simp;rfl));intro gb101 hg w55 hbox hb;have n0_:=Aside0.mk (below_step (by repeat (first|(with_reducible first|exact HB.out|apply below_alloc|apply pw_below_drewN|apply below_drew1)|exact HB.out)) hb);have n1_:=Aside0.mk (hbox);have n2_:=Aside0.mk ((by rw [hg];exact (below_size (by repeat (first|(with_reducible first|exact HB.out|apply below_alloc|apply pw_below_drewN|apply below_drew1)|exact HB.out))) : w.heap.size ≤ gb101));have n3_:=Aside0.mk ((by rw [hg];exact (below_size (by repeat (first|(with_reducible first|exact HB.out|apply below_alloc|apply pw_below_drewN|apply below_drew1)|exact HB.out))) : w.heap.size ≤ gb101));clear HB;have HB:=n0_;have BK101:=n1_;have GW101:=n2_;have GE101:=n3_;clear n0_ n1_ n2_ n3_;clear hb hbox hg)|((with_reducible refine gate_dst (N:=4) rfl ?_);refine box_event ?hg (N:=4) ?hd (cs:=#[.int .i64 a1_0,.bool a1_1,.int .i64 a1_2]) (t:=25) ?hr ?_;(case hd => rfl);(case hg => rfl);(case hr => first|(go_simp;done)|(go_simp;rfl));intro gb102 hg w56 hbox hb;have n0_:=Aside0.mk (blk_below (g:=gb101) (o:=.cells #[.slice A0_0 l0_0.length c0_0] 61 (0,0)) (by (with_reducible repeat (first|refine blk_drewN ?_ _|refine blk_drew ?_|refine blk_alloc ?_ _));exact BK101.out) hb);have n1_:=Aside0.mk (below_step (by repeat (first|(with_reducible first|exact HB.out|apply below_alloc|apply pw_below_drewN|apply below_drew1|refine below_set ?_ GE101.out)|exact HB.out)) hb);have n2_:=Aside0.mk (hbox);have n3_:=Aside0.mk ((by rw [hg];exact (below_size (by repeat (first|(with_reducible first|exact HB.out|apply below_alloc|apply pw_below_drewN|apply below_drew1|refine below_set ?_ GE101.out)|exact HB.out))) : w.heap.size ≤ gb102));have n4_:=Aside0.mk ((by rw [hg];exact (below_size (by repeat (first|(with_reducible first|exact HB.out|apply below_alloc|apply pw_below_drewN|apply below_drew1|refine below_set ?_ GE101.out)|exact HB.out))) : w.heap.size ≤ gb102));have n5_:=Aside0.mk ((by rw [hg];exact Nat.ne_of_lt (blk_lt (g:=gb101) (o:=.cells #[.slice A0_0 l0_0.length c0_0] 61 (0,0)) (by (with_reducible repeat (first|refine blk_drewN ?_ _|refine blk_drew ?_|refine blk_alloc ?_ _));exact BK101.out)) : gb101 ≠ gb102));have n6_:=Aside0.mk ((by rw [hg];exact Nat.ne_of_gt (blk_lt (g:=gb101) (o:=.cells #[.slice A0_0 l0_0.length c0_0] 61 (0,0)) (by (with_reducible repeat (first|refine blk_drewN ?_ _|refine blk_drew ?_|refine blk_alloc ?_ _));exact BK101.out)) : gb102 ≠ gb101));clear BK101;clear HB;have BK101:=n0_;have HB:=n1_;have BK102:=n2_;have GW102:=n3_;have GE102:=n4_;have NB101_102:=n5_;have NB102_101:=n6_;clear n0_ n1_ n2_ n3_ n4_ n5_ n6_;clear hb hbox hg)|((with_reducible refine gate_dst (N:=5) rfl ?_);refine box_event ?hg (N:=5) ?hd (cs:=#[.int .i64 a2_0,.int .i64 a2_1]) (t:=63) ?hr ?_;(case hd => rfl);(case hg => rfl);(case hr => first|(go_simp;done)|(go_simp;rfl));intro gb103 hg w57 hbox hb;have n0_:=Aside0.mk (blk_below (g:=gb101) (o:=.cells #[.slice A0_0 l0_0.length c0_0] 61 (0,0)) (by (with_reducible repeat (first|refine blk_drewN ?_ _|refine blk_drew ?_|refine blk_alloc ?_ _));exact BK101.out) hb);have n1_:=Aside0.mk (blk_below (g:=gb102) (o:=.cells #[.int .i64 a1_0,.bool a1_1,.int .i64 a1_2] 25 (0,0)) (by (with_reducible repeat (first|refine blk_drewN ?_ _|refine blk_drew ?_|refine blk_alloc ?_ _));exact BK102.out) hb);have n2_:=Aside0.mk (below_step (by repeat (first|(with_reducible first|exact HB.out|apply below_alloc|apply pw_below_drewN|apply below_drew1|refine below_set ?_ GE101.out|refine below_set ?_ GE102.out)|exact HB.out)) hb);have n3_:=Aside0.mk (hbox);have n4_:=Aside0.mk ((by rw [hg];exact (below_size (by repeat (first|(with_reducible first|exact HB.out|apply below_alloc|apply pw_below_drewN|apply below_drew1|refine below_set ?_ GE101.out|refine below_set ?_ GE102.out)|exact HB.out))) : w.heap.size ≤ gb103));have n5_:=Aside0.mk ((by rw [hg];exact (below_size (by repeat (first|(with_reducible first|exact HB.out|apply below_alloc|apply pw_below_drewN|apply below_drew1|refine below_set ?_ GE101.out|refine below_set ?_ GE102.out)|exact HB.out))) : w.heap.size ≤ gb103));have n6_:=Aside0.mk ((by rw [hg];exact Nat.ne_of_lt (blk_lt (g:=gb101) (o:=.cells #[.slice A0_0 l0_0.length c0_0] 61 (0,0)) (by (with_reducible repeat (first|refine blk_drewN ?_ _|refine blk_drew ?_|refine blk_alloc ?_ _));exact BK101.out)) : gb101 ≠ gb103));have n7_:=Aside0.mk ((by rw [hg];exact Nat.ne_of_gt (blk_lt (g:=gb101) (o:=.cells #[.slice A0_0 l0_0.length c0_0] 61 (0,0)) (by (with_reducible repeat (first|refine blk_drewN ?_ _|refine blk_drew ?_|refine blk_alloc ?_ _));exact BK101.out)) : gb103 ≠ gb101));have n8_:=Aside0.mk ((by rw [hg];exact Nat.ne_of_lt (blk_lt (g:=gb102) (o:=.cells #[.int .i64 a1_0,.bool a1_1,.int .i64 a1_2] 25 (0,0)) (by (with_reducible repeat (first|refine blk_drewN ?_ _|refine blk_drew ?_|refine blk_alloc ?_ _));exact BK102.out)) : gb102 ≠ gb103));have n9_:=Aside0.mk ((by rw [hg];exact Nat.ne_of_gt (blk_lt (g:=gb102) (o:=.cells #[.int .i64 a1_0,.bool a1_1,.int .i64 a1_2] 25 (0,0)) (by (with_reducible repeat (first|refine blk_drewN ?_ _|refine blk_drew ?_|refine blk_alloc ?_ _));exact BK102.out)) : gb103 ≠ gb102));clear BK101;clear BK102;clear HB;have BK101:=n0_;have BK102:=n1_;have HB:=n2_;have BK103:=n3_;have GW103:=n4_;have GE103:=n5_;have NB101_103:=n6_;have NB103_101:=n7_;have NB102_103:=n8_;have NB103_102:=n9_;clear n0_ n1_ n2_ n3_ n4_ n5_ n6_ n7_ n8_ n9_;clear hb hbox hg;have hnb58:=NB101_102.out;have hnc58:=NB102_101.out;have hnb59:=NB101_103.out;have hnc59:=NB103_101.out;have hcz60_0 : w57.cell? ⟨gb101,0,none⟩ = some (.slice A0_0 l0_0.length c0_0):=(blk_cell BK101.out 0).trans rfl;have hfz60_0:=blk_frozen BK101.out 0;have hnb61:=NB102_103.out;have hnc61:=NB103_102.out;have hcz62_0 : w57.cell? ⟨gb102,0,none⟩ = some (.int .i64 a1_0):=(blk_cell BK102.out 0).trans rfl;have hcz62_1 : w57.cell? ⟨gb102,1,none⟩ = some (.bool a1_1):=(blk_cell BK102.out 1).trans rfl;have hcz62_2 : w57.cell? ⟨gb102,2,none⟩ = some (.int .i64 a1_2):=(blk_cell BK102.out 2).trans rfl;have hfz62_0:=blk_frozen BK102.out 0;have hfz62_1:=blk_frozen BK102.out 1;have hfz62_2:=blk_frozen BK102.out 2)|((with_reducible refine gate_callee (f:=79) rfl ?_);refine goesL_ (some 11) rfl rfl Try.func79 (by kernel_rfl) rfl #[.agg #[.slice A0_0 l0_0.length c0_0],.agg #[.int .i64 a1_0,.bool a1_1,.int .i64 a1_2]] rfl (by (try simp only [List.map_toArray,List.map_cons,List.map_nil]);first|done|rfl|(simp only [List.length_drop,List.length_take];rfl)) ?_;(with_reducible refine (impl_layoutCode.calls k _ _ l0_0 a1_0 a1_1 a1_2 t104 _ ?side1 ?side2 A4.out).mono ?_);(case side1 => repeat (first|exact (Kd.C_below HR0_0.out HB.out)|(with_reducible refine Kd.C_alloc ?_ _)|(with_reducible refine Kd.C_drewN ?_ _)|(with_reducible refine Kd.C_drew ?_)));(case side2 => exact HC0_0.out);rintro e w63 ⟨rfl,hb⟩;refine ⟨_,rfl,?_⟩;have n0_:=Aside0.mk (blk_below (g:=gb101) (o:=.cells #[.slice A0_0 l0_0.length c0_0] 61 (0,0)) (by (with_reducible repeat (first|refine blk_drewN ?_ _|refine blk_drew ?_|refine blk_alloc ?_ _));exact BK101.out) hb);have n1_:=Aside0.mk (blk_below (g:=gb102) (o:=.cells #[.int .i64 a1_0,.bool a1_1,.int .i64 a1_2] 25 (0,0)) (by (with_reducible repeat (first|refine blk_drewN ?_ _|refine blk_drew ?_|refine blk_alloc ?_ _));exact BK102.out) hb);have n2_:=Aside0.mk (blk_below (g:=gb103) (o:=.cells #[.int .i64 a2_0,.int .i64 a2_1] 63 (0,0)) (by (with_reducible repeat (first|refine blk_drewN ?_ _|refine blk_drew ?_|refine blk_alloc ?_ _));exact BK103.out) hb);have n3_:=Aside0.mk (below_step (by repeat (first|(with_reducible first|exact HB.out|apply below_alloc|apply pw_below_drewN|apply below_drew1|refine below_set ?_ GE101.out|refine below_set ?_ GE102.out|refine below_set ?_ GE103.out)|exact HB.out)) hb);clear BK101;clear BK102;clear BK103;clear HB;have BK101:=n0_;have BK102:=n1_;have BK103:=n2_;have HB:=n3_;clear n0_ n1_ n2_ n3_;(try clear hb);(try clear hb2);(try clear hk);(try clear hi)))
   go_ret
   exact ⟨by first|rfl|(simp [errW_none,errW_some] <;> rfl)|(simp [*,errW_none,errW_some] <;> rfl),by repeat (first|(with_reducible first|exact HB.out|apply below_alloc|apply pw_below_drewN|apply below_drew1|refine below_set ?_ GE101.out|refine below_set ?_ GE102.out|refine below_set ?_ GE103.out)|exact HB.out)⟩
end Go.Proofs.Ytcinaflmpdmdaaa.Q
end
section
namespace Go.Proofs.Ytcinaflmpdmdaaa.Q
open Go.RowKit Go.Proofs.YtcinaflmpdmdaaaW.PrintWords Go.Proofs.YtcinaflmpdmdaaaW.PrintLast Go.Proofs.YtcinaflmpdmdaaaW.PrintMore Go.Proofs.Ytcinaflmpdmdaaa.L
theorem isSpot_eq {cs : List Int} (h : ∀ x ∈ cs, 1 ≤ x ∧ x ≤ 1073741824) (hl : cs.length ≤ 1073741824) (a b : Int) : impl_isSpot.f cs a b = some (decide (M.spotInF cs a b = 0)) := by
  have hr := M.rd_bd h a
  unfold impl_isSpot.f M.spotInF
  by_cases h0 : cs.length = 0
  · rw [if_pos (by omega), if_pos h0]
    by_cases ha : a = 0 <;> by_cases hb : b = 0 <;> simp [ha, hb]
  · rw [if_neg (by omega), if_neg h0, w64 (by omega) (by omega)]
    simp only [within_eq, Option.bind_some]
    by_cases h1 : 0 ≤ a ∧ a < (cs.length : Int)
    · rw [if_pos (decide_eq_true (by omega)), if_pos h1.1, if_pos h1.2, w64 (by omega) (by omega)]
      by_cases h2 : 0 ≤ b ∧ b < rd cs a
      · rw [if_pos ⟨h1, h2⟩]
        congr 1
        simp
        omega
      · rw [if_neg (fun q => h2 q.2)]
        congr 1
        simp
        omega
    · rw [if_neg (by simp; omega), if_neg (fun q => h1 q.1)]
      rfl
theorem i_spot {l : List Int} (ho : M.lineOk l = true) (wd : Int) (ch : Bool) (sh a b : Int) : Ev (fun k => impl_SpotFault.f k l wd ch sh a b) (M.spotF l wd ch sh a b) := by
  have hl := M.lineOk_len ho
  by_cases hz : M.baseF l.length wd ch sh = 0
  · have e : M.spotF l wd ch sh a b = M.spotInF (M.cntL l wd ch) a b := by unfold M.spotF; rw [if_pos hz]
    rw [e]
    unfold impl_SpotFault.f
    refine Ev.bind (layoutCode_ev l wd ch sh) ?_
    obtain ⟨_, hlay⟩ := M.baseF_zero hz
    obtain ⟨w1, w2, _⟩ := layF_zero hlay
    have hc := M.cntL_len l wd ch
    refine Ev.pos hz (Ev.bind0 (rowsOf_eq ho ch sh w1 w2) (Ev.bind0 (isSpot_eq (M.cntL_in hl ch w1) (by omega) a b) ?_))
    by_cases hs : M.spotInF (M.cntL l wd ch) a b = 0
    · rw [hs]
      exact Ev.pos (decide_eq_true rfl) (Ev.now _)
    · refine Ev.neg (by simpa using hs) ?_
      unfold M.spotInF at hs ⊢
      by_cases h0 : (M.cntL l wd ch).length = 0
      · rw [if_pos h0] at hs ⊢
        have : ¬ (a = 0 ∧ b = 0) := fun q => hs (if_pos q)
        rw [if_neg this]
        exact Ev.pos (by omega) (Ev.now _)
      · rw [if_neg h0] at hs ⊢
        have : ¬ ((0 ≤ a ∧ a < ((M.cntL l wd ch).length : Int)) ∧ (0 ≤ b ∧ b < rd (M.cntL l wd ch) a)) := fun q => hs (if_pos q)
        rw [if_neg this]
        exact Ev.neg (by omega) (Ev.now _)
  · have e : M.spotF l wd ch sh a b = M.baseF l.length wd ch sh := by unfold M.spotF; rw [if_neg hz]
    rw [e]
    unfold impl_SpotFault.f
    refine Ev.bind (layoutCode_ev l wd ch sh) ?_
    exact Ev.neg hz (Ev.now _)
end Go.Proofs.Ytcinaflmpdmdaaa.Q
end
section
namespace Go.Proofs.Ytcinaflmpdmdaaa.Q
open Go.RowKit Go.Proofs.YtcinaflmpdmdaaaW.PrintWords Go.Proofs.YtcinaflmpdmdaaaW.PrintLast Go.Proofs.YtcinaflmpdmdaaaW.PrintMore
attribute [local go_sem] max2_int min2_int max_two min_two max_three min_three max_four min_four   -- for this text's walks alone
set_option linter.unusedVariables false
set_option linter.unusedSimpArgs false
/-! ### impl_MoveSpot: function 49 -/
def impl_MoveSpot.f (k : Nat) (l0_0 : List Int) (a1_0 : Int) (a1_1 : Bool) (a1_2 : Int) (a2_0 : Int) (a2_1 : Int) (a3 : Int) : Option (Int × Int × Int):=(impl_SpotFault.f k l0_0 a1_0 a1_1 a1_2 a2_0 a2_1).bind fun t105 => (if t105 = 0 then ((impl_within.f a3 (-9999) 9999).bind fun t106 => (if t106 = true then ((impl_rowsOf.f l0_0 a1_0 a1_1 a1_2).bind fun t107 => ((impl_moved.f k t107 a2_0 a2_1 a3).bind fun bt110 => (some (0,bt110.1,bt110.2)))) else (some (3,0,0)))) else (some (t105,0,0)))
theorem impl_MoveSpot.mono : ∀ a0 a1 a2 a3 a4 a5 a6 k,LeO (impl_MoveSpot.f k a0 a1 a2 a3 a4 a5 a6) (impl_MoveSpot.f (k + 1) a0 a1 a2 a3 a4 a5 a6):=by
 intro a0 a1 a2 a3 a4 a5 a6 k
 unfold impl_MoveSpot.f
 repeat' first
  | (with_reducible exact impl_SpotFault.mono _ _ _ _ _ _ _)
  | (with_reducible exact impl_moved.mono _ _ _ _ _)
  | (with_reducible exact LeO.refl _)
  | (with_reducible exact LeO.none _)
  | (with_reducible refine LeO.ite ?_ ?_)
  | (with_reducible refine LeO.bind ?_ (fun _ => ?_))
  | exact impl_SpotFault.mono _ _ _ _ _ _ _
  | exact impl_moved.mono _ _ _ _ _
  | exact LeO.none _
  | refine LeO.ite ?_ ?_
  | refine LeO.bind ?_ (fun _ => ?_)
def impl_MoveSpot.T6 : Bool × List (List Nat × List Nat):=(true,[([],[]),([],[]),([0,1],[0,1]),([],[]),([],[]),([2,3,4,2],[2,3,4]),([5],[5]),([6,5,0,1,2,3,4,5,6],[6])])
def impl_MoveSpot.B6 : List Nat:=[0,0,3,0,0,31,63,127]
theorem impl_MoveSpot.tab6 : rtab .any (opsOf Try.f49 6) = impl_MoveSpot.T6:=by kernel_rfl
theorem impl_MoveSpot.bits6 : waitsOk impl_MoveSpot.T6.2 impl_MoveSpot.B6 = true:=by kernel_rfl
set_option maxHeartbeats 8000000 in
set_option maxRecDepth 100000 in
theorem impl_MoveSpot.calls (k : Nat) (A0_0 : Option Addr) (c0_0 : Nat) (l0_0 : List Int) (a1_0 : Int) (a1_1 : Bool) (a1_2 : Int) (a2_0 : Int) (a2_1 : Int) (a3 : Int) (r1 : Int) (r2 : Int) (r3 : Int) (w : World) (hr0_0 : Kd.C (Kd.int .u8) w A0_0 l0_0.length l0_0) (hc0_0 : l0_0.length ≤ c0_0) (h : impl_MoveSpot.f k l0_0 a1_0 a1_1 a1_2 a2_0 a2_1 a3 = some (r1,r2,r3)) :
 Calls Try.prog 49 #[.agg #[.slice A0_0 l0_0.length c0_0],.agg #[.int .i64 a1_0,.bool a1_1,.int .i64 a1_2],.agg #[.int .i64 a2_0,.int .i64 a2_1],.int .i64 a3] w fun e w' => e = .returned (.agg #[.int .i64 r1,.int .i64 r2,.int .i64 r3]) ∧ Below w.heap.size w w':=by
 have hu61:=Try.underlying61
 have hu25:=Try.underlying25
 have hu63:=Try.underlying63
 have hu69:=Try.underlying69
 have HR0_0:=Aside0.mk hr0_0
 have HC0_0:=Aside0.mk hc0_0
 clear hr0_0 hc0_0
 have HB:=Aside0.mk (Below.refl w.heap.size w)
 have H : ((impl_SpotFault.f k l0_0 a1_0 a1_1 a1_2 a2_0 a2_1).bind fun t105 => (if t105 = 0 then ((impl_within.f a3 (-9999) 9999).bind fun t106 => (if t106 = true then ((impl_rowsOf.f l0_0 a1_0 a1_1 a1_2).bind fun t107 => ((impl_moved.f k t107 a2_0 a2_1 a3).bind fun bt110 => (some (0,bt110.1,bt110.2)))) else (some (3,0,0)))) else (some (t105,0,0)))) = some (r1,r2,r3):=h
 clear h
 replace H:=Option.bind_eq_some_iff.mp H
 obtain ⟨t105,A50,H⟩:=H
 replace H : (if t105 = 0 then ((impl_within.f a3 (-9999) 9999).bind fun t106 => (if t106 = true then ((impl_rowsOf.f l0_0 a1_0 a1_1 a1_2).bind fun t107 => ((impl_moved.f k t107 a2_0 a2_1 a3).bind fun bt110 => (some (0,bt110.1,bt110.2)))) else (some (3,0,0)))) else (some (t105,0,0))) = some (r1,r2,r3):=H
 have A5:=Aside0.mk A50
 clear A50
 by_cases c6 : t105 = 0
 · rw [if_pos c6] at H
   have c6b0 : (t105 == 0) = true:=beq_iff_eq.mpr c6
   have c6b1 : (t105 != 0) = false:=bne_eq_false_iff_eq.mpr c6
   clear c6
   replace H:=Option.bind_eq_some_iff.mp H
   obtain ⟨t106,A70,H⟩:=H
   replace H : (if t106 = true then ((impl_rowsOf.f l0_0 a1_0 a1_1 a1_2).bind fun t107 => ((impl_moved.f k t107 a2_0 a2_1 a3).bind fun bt110 => (some (0,bt110.1,bt110.2)))) else (some (3,0,0))) = some (r1,r2,r3):=H
   have A7:=Aside0.mk A70
   clear A70
   by_cases c8 : t106 = true
   · subst c8
     have H1 : ((impl_rowsOf.f l0_0 a1_0 a1_1 a1_2).bind fun t107 => ((impl_moved.f k t107 a2_0 a2_1 a3).bind fun bt110 => (some (0,bt110.1,bt110.2)))) = some (r1,r2,r3):=by rw [if_pos rfl] at H;exact H
     clear H
     have H:=H1
     clear H1
     replace H:=Option.bind_eq_some_iff.mp H
     obtain ⟨t107,A90,H⟩:=H
     replace H : ((impl_moved.f k t107 a2_0 a2_1 a3).bind fun bt110 => (some (0,bt110.1,bt110.2))) = some (r1,r2,r3):=H
     have A9:=Aside0.mk A90
     clear A90
     replace H:=Option.bind_eq_some_iff.mp H
     obtain ⟨⟨t110,t111⟩,A100,H⟩:=H
     replace H : (some (0,t110,t111)) = some (r1,r2,r3):=H
     have A10:=Aside0.mk A100
     clear A100
     simp only [Option.some.injEq,Prod.mk.injEq] at H
     obtain ⟨rfl,rfl,rfl⟩:=H
     go_enter Try.func49,Try.ntmps49
     try go_wp2_with (first|((with_reducible refine gate_dst (N:=4) rfl ?_);refine box_event ?hg (N:=4) ?hd (cs:=#[.slice A0_0 l0_0.length c0_0]) (t:=61) ?hr ?_;(case hd => rfl);(case hg => rfl);(case hr => first|(go_simp;done)|(go_simp;rfl));intro gb101 hg w11 hbox hb;have n0_:=Aside0.mk (below_step (by repeat (first|(with_reducible first|exact HB.out|apply below_alloc|apply pw_below_drewN|apply below_drew1)|exact HB.out)) hb);have n1_:=Aside0.mk (hbox);have n2_:=Aside0.mk ((by rw [hg];exact (below_size (by repeat (first|(with_reducible first|exact HB.out|apply below_alloc|apply pw_below_drewN|apply below_drew1)|exact HB.out))) : w.heap.size ≤ gb101));have n3_:=Aside0.mk ((by rw [hg];exact (below_size (by repeat (first|(with_reducible first|exact HB.out|apply below_alloc|apply pw_below_drewN|apply below_drew1)|exact HB.out))) : w.heap.size ≤ gb101));clear HB;have HB:=n0_;have BK101:=n1_;have GW101:=n2_;have GE101:=n3_;clear n0_ n1_ n2_ n3_;clear hb hbox hg)|((with_reducible refine gate_dst (N:=5) rfl ?_);refine box_event ?hg (N:=5) ?hd (cs:=#[.int .i64 a1_0,.bool a1_1,.int .i64 a1_2]) (t:=25) ?hr ?_;(case hd => rfl);(case hg => rfl);(case hr => first|(go_simp;done)|(go_simp;rfl));intro gb102 hg w12 hbox hb;have n0_:=Aside0.mk (blk_below (g:=gb101) (o:=.cells #[.slice A0_0 l0_0.length c0_0] 61 (0,0)) (by (with_reducible repeat (first|refine blk_drewN ?_ _|refine blk_drew ?_|refine blk_alloc ?_ _));exact BK101.out) hb);have n1_:=Aside0.mk (below_step (by repeat (first|(with_reducible first|exact HB.out|apply below_alloc|apply pw_below_drewN|apply below_drew1|refine below_set ?_ GE101.out)|exact HB.out)) hb);have n2_:=Aside0.mk (hbox);have n3_:=Aside0.mk ((by rw [hg];exact (below_size (by repeat (first|(with_reducible first|exact HB.out|apply below_alloc|apply pw_below_drewN|apply below_drew1|refine below_set ?_ GE101.out)|exact HB.out))) : w.heap.size ≤ gb102));have n4_:=Aside0.mk ((by rw [hg];exact (below_size (by repeat (first|(with_reducible first|exact HB.out|apply below_alloc|apply pw_below_drewN|apply below_drew1|refine below_set ?_ GE101.out)|exact HB.out))) : w.heap.size ≤ gb102));have n5_:=Aside0.mk ((by rw [hg];exact Nat.ne_of_lt (blk_lt (g:=gb101) (o:=.cells #[.slice A0_0 l0_0.length c0_0] 61 (0,0)) (by (with_reducible repeat (first|refine blk_drewN ?_ _|refine blk_drew ?_|refine blk_alloc ?_ _));exact BK101.out)) : gb101 ≠ gb102));have n6_:=Aside0.mk ((by rw [hg];exact Nat.ne_of_gt (blk_lt (g:=gb101) (o:=.cells #[.slice A0_0 l0_0.length c0_0] 61 (0,0)) (by (with_reducible repeat (first|refine blk_drewN ?_ _|refine blk_drew ?_|refine blk_alloc ?_ _));exact BK101.out)) : gb102 ≠ gb101));clear BK101;clear HB;have BK101:=n0_;have HB:=n1_;have BK102:=n2_;have GW102:=n3_;have GE102:=n4_;have NB101_102:=n5_;have NB102_101:=n6_;clear n0_ n1_ n2_ n3_ n4_ n5_ n6_;clear hb hbox hg)|((with_reducible refine gate_dst (N:=6) rfl ?_);refine box_event ?hg (N:=6) ?hd (cs:=#[.int .i64 a2_0,.int .i64 a2_1]) (t:=63) ?hr ?_;(case hd => rfl);(case hg => rfl);(case hr => first|(go_simp;done)|(go_simp;rfl));intro gb103 hg w13 hbox hb;have n0_:=Aside0.mk (blk_below (g:=gb101) (o:=.cells #[.slice A0_0 l0_0.length c0_0] 61 (0,0)) (by (with_reducible repeat (first|refine blk_drewN ?_ _|refine blk_drew ?_|refine blk_alloc ?_ _));exact BK101.out) hb);have n1_:=Aside0.mk (blk_below (g:=gb102) (o:=.cells #[.int .i64 a1_0,.bool a1_1,.int .i64 a1_2] 25 (0,0)) (by (with_reducible repeat (first|refine blk_drewN ?_ _|refine blk_drew ?_|refine blk_alloc ?_ _));exact BK102.out) hb);have n2_:=Aside0.mk (below_step (by repeat (first|(with_reducible first|exact HB.out|apply below_alloc|apply pw_below_drewN|apply below_drew1|refine below_set ?_ GE101.out|refine below_set ?_ GE102.out)|exact HB.out)) hb);have n3_:=Aside0.mk (hbox);have n4_:=Aside0.mk ((by rw [hg];exact (below_size (by repeat (first|(with_reducible first|exact HB.out|apply below_alloc|apply pw_below_drewN|apply below_drew1|refine below_set ?_ GE101.out|refine below_set ?_ GE102.out)|exact HB.out))) : w.heap.size ≤ gb103));have n5_:=Aside0.mk ((by rw [hg];exact (below_size (by repeat (first|(with_reducible first|exact HB.out|apply below_alloc|apply pw_below_drewN|apply below_drew1|refine below_set ?_ GE101.out|refine below_set ?_ GE102.out)|exact HB.out))) : w.heap.size ≤ gb103));have n6_:=Aside0.mk ((by rw [hg];exact Nat.ne_of_lt (blk_lt (g:=gb101) (o:=.cells #[.slice A0_0 l0_0.length c0_0] 61 (0,0)) (by (with_reducible repeat (first|refine blk_drewN ?_ _|refine blk_drew ?_|refine blk_alloc ?_ _));exact BK101.out)) : gb101 ≠ gb103));have n7_:=Aside0.mk ((by rw [hg];exact Nat.ne_of_gt (blk_lt (g:=gb101) (o:=.cells #[.slice A0_0 l0_0.length c0_0] 61 (0,0)) (by (with_reducible repeat (first|refine blk_drewN ?_ _|refine blk_drew ?_|refine blk_alloc ?_ _));exact BK101.out)) : gb103 ≠ gb101));have n8_:=Aside0.mk ((by rw [hg];exact Nat.ne_of_lt (blk_lt (g:=gb102) (o:=.cells #[.int .i64 a1_0,.bool a1_1,.int .i64 a1_2] 25 (0,0)) (by (with_reducible repeat (first|refine blk_drewN ?_ _|refine blk_drew ?_|refine blk_alloc ?_ _));exact BK102.out)) : gb102 ≠ gb103));have n9_:=Aside0.mk ((by rw [hg];exact Nat.ne_of_gt (blk_lt (g:=gb102) (o:=.cells #[.int .i64 a1_0,.bool a1_1,.int .i64 a1_2] 25 (0,0)) (by (with_reducible repeat (first|refine blk_drewN ?_ _|refine blk_drew ?_|refine blk_alloc ?_ _));exact BK102.out)) : gb103 ≠ gb102));clear BK101;clear BK102;clear HB;have BK101:=n0_;have BK102:=n1_;have HB:=n2_;have BK103:=n3_;have GW103:=n4_;have GE103:=n5_;have NB101_103:=n6_;have NB103_101:=n7_;have NB102_103:=n8_;have NB103_102:=n9_;clear n0_ n1_ n2_ n3_ n4_ n5_ n6_ n7_ n8_ n9_;clear hb hbox hg)|((with_reducible refine gate_dst (N:=8) rfl ?_);refine box_event ?hg (N:=8) ?hd (cs:=#[.int .i64 0,.int .i64 0,.int .i64 0]) (t:=69) ?hr ?_;(case hd => rfl);(case hg => rfl);(case hr => first|(go_simp;done)|(go_simp;rfl));intro gb104 hg w14 hbox hb;have n0_:=Aside0.mk (blk_below (g:=gb101) (o:=.cells #[.slice A0_0 l0_0.length c0_0] 61 (0,0)) (by (with_reducible repeat (first|refine blk_drewN ?_ _|refine blk_drew ?_|refine blk_alloc ?_ _));exact BK101.out) hb);have n1_:=Aside0.mk (blk_below (g:=gb102) (o:=.cells #[.int .i64 a1_0,.bool a1_1,.int .i64 a1_2] 25 (0,0)) (by (with_reducible repeat (first|refine blk_drewN ?_ _|refine blk_drew ?_|refine blk_alloc ?_ _));exact BK102.out) hb);have n2_:=Aside0.mk (blk_below (g:=gb103) (o:=.cells #[.int .i64 a2_0,.int .i64 a2_1] 63 (0,0)) (by (with_reducible repeat (first|refine blk_drewN ?_ _|refine blk_drew ?_|refine blk_alloc ?_ _));exact BK103.out) hb);have n3_:=Aside0.mk (below_step (by repeat (first|(with_reducible first|exact HB.out|apply below_alloc|apply pw_below_drewN|apply below_drew1|refine below_set ?_ GE101.out|refine below_set ?_ GE102.out|refine below_set ?_ GE103.out)|exact HB.out)) hb);have n4_:=Aside0.mk (hbox);have n5_:=Aside0.mk ((by rw [hg];exact (below_size (by repeat (first|(with_reducible first|exact HB.out|apply below_alloc|apply pw_below_drewN|apply below_drew1|refine below_set ?_ GE101.out|refine below_set ?_ GE102.out|refine below_set ?_ GE103.out)|exact HB.out))) : w.heap.size ≤ gb104));have n6_:=Aside0.mk ((by rw [hg];exact (below_size (by repeat (first|(with_reducible first|exact HB.out|apply below_alloc|apply pw_below_drewN|apply below_drew1|refine below_set ?_ GE101.out|refine below_set ?_ GE102.out|refine below_set ?_ GE103.out)|exact HB.out))) : w.heap.size ≤ gb104));have n7_:=Aside0.mk ((by rw [hg];exact Nat.ne_of_lt (blk_lt (g:=gb101) (o:=.cells #[.slice A0_0 l0_0.length c0_0] 61 (0,0)) (by (with_reducible repeat (first|refine blk_drewN ?_ _|refine blk_drew ?_|refine blk_alloc ?_ _));exact BK101.out)) : gb101 ≠ gb104));have n8_:=Aside0.mk ((by rw [hg];exact Nat.ne_of_gt (blk_lt (g:=gb101) (o:=.cells #[.slice A0_0 l0_0.length c0_0] 61 (0,0)) (by (with_reducible repeat (first|refine blk_drewN ?_ _|refine blk_drew ?_|refine blk_alloc ?_ _));exact BK101.out)) : gb104 ≠ gb101));have n9_:=Aside0.mk ((by rw [hg];exact Nat.ne_of_lt (blk_lt (g:=gb102) (o:=.cells #[.int .i64 a1_0,.bool a1_1,.int .i64 a1_2] 25 (0,0)) (by (with_reducible repeat (first|refine blk_drewN ?_ _|refine blk_drew ?_|refine blk_alloc ?_ _));exact BK102.out)) : gb102 ≠ gb104));have n10_:=Aside0.mk ((by rw [hg];exact Nat.ne_of_gt (blk_lt (g:=gb102) (o:=.cells #[.int .i64 a1_0,.bool a1_1,.int .i64 a1_2] 25 (0,0)) (by (with_reducible repeat (first|refine blk_drewN ?_ _|refine blk_drew ?_|refine blk_alloc ?_ _));exact BK102.out)) : gb104 ≠ gb102));have n11_:=Aside0.mk ((by rw [hg];exact Nat.ne_of_lt (blk_lt (g:=gb103) (o:=.cells #[.int .i64 a2_0,.int .i64 a2_1] 63 (0,0)) (by (with_reducible repeat (first|refine blk_drewN ?_ _|refine blk_drew ?_|refine blk_alloc ?_ _));exact BK103.out)) : gb103 ≠ gb104));have n12_:=Aside0.mk ((by rw [hg];exact Nat.ne_of_gt (blk_lt (g:=gb103) (o:=.cells #[.int .i64 a2_0,.int .i64 a2_1] 63 (0,0)) (by (with_reducible repeat (first|refine blk_drewN ?_ _|refine blk_drew ?_|refine blk_alloc ?_ _));exact BK103.out)) : gb104 ≠ gb103));clear BK101;clear BK102;clear BK103;clear HB;have BK101:=n0_;have BK102:=n1_;have BK103:=n2_;have HB:=n3_;have BK104:=n4_;have GW104:=n5_;have GE104:=n6_;have NB101_104:=n7_;have NB104_101:=n8_;have NB102_104:=n9_;have NB104_102:=n10_;have NB103_104:=n11_;have NB104_103:=n12_;clear n0_ n1_ n2_ n3_ n4_ n5_ n6_ n7_ n8_ n9_ n10_ n11_ n12_;clear hb hbox hg;have hnb15:=NB101_102.out;have hnc15:=NB102_101.out;have hnb16:=NB101_103.out;have hnc16:=NB103_101.out;have hnb17:=NB101_104.out;have hnc17:=NB104_101.out;have hcz18_0 : w14.cell? ⟨gb101,0,none⟩ = some (.slice A0_0 l0_0.length c0_0):=(blk_cell BK101.out 0).trans rfl;have hfz18_0:=blk_frozen BK101.out 0;have hnb19:=NB102_103.out;have hnc19:=NB103_102.out;have hnb20:=NB102_104.out;have hnc20:=NB104_102.out;have hcz21_0 : w14.cell? ⟨gb102,0,none⟩ = some (.int .i64 a1_0):=(blk_cell BK102.out 0).trans rfl;have hcz21_1 : w14.cell? ⟨gb102,1,none⟩ = some (.bool a1_1):=(blk_cell BK102.out 1).trans rfl;have hcz21_2 : w14.cell? ⟨gb102,2,none⟩ = some (.int .i64 a1_2):=(blk_cell BK102.out 2).trans rfl;have hfz21_0:=blk_frozen BK102.out 0;have hfz21_1:=blk_frozen BK102.out 1;have hfz21_2:=blk_frozen BK102.out 2;have hnb22:=NB103_104.out;have hnc22:=NB104_103.out;have hcz23_0 : w14.cell? ⟨gb103,0,none⟩ = some (.int .i64 a2_0):=(blk_cell BK103.out 0).trans rfl;have hcz23_1 : w14.cell? ⟨gb103,1,none⟩ = some (.int .i64 a2_1):=(blk_cell BK103.out 1).trans rfl;have hfz23_0:=blk_frozen BK103.out 0;have hfz23_1:=blk_frozen BK103.out 1)|((with_reducible refine gate_callee (f:=42) rfl ?_);refine goesL_ (some 13) rfl rfl Try.func42 (by kernel_rfl) rfl #[.agg #[.slice A0_0 l0_0.length c0_0],.agg #[.int .i64 a1_0,.bool a1_1,.int .i64 a1_2],.agg #[.int .i64 a2_0,.int .i64 a2_1]] rfl (by (try simp only [List.map_toArray,List.map_cons,List.map_nil]);first|done|rfl|(simp only [List.length_drop,List.length_take];rfl)) ?_;(with_reducible refine (impl_SpotFault.calls k _ _ l0_0 a1_0 a1_1 a1_2 a2_0 a2_1 t105 _ ?side1 ?side2 A5.out).mono ?_);(case side1 => repeat (first|exact (Kd.C_below HR0_0.out HB.out)|(with_reducible refine Kd.C_alloc ?_ _)|(with_reducible refine Kd.C_drewN ?_ _)|(with_reducible refine Kd.C_drew ?_)));(case side2 => exact HC0_0.out);rintro e w24 ⟨rfl,hb⟩;refine ⟨_,rfl,?_⟩;have n0_:=Aside0.mk (blk_below (g:=gb101) (o:=.cells #[.slice A0_0 l0_0.length c0_0] 61 (0,0)) (by (with_reducible repeat (first|refine blk_drewN ?_ _|refine blk_drew ?_|refine blk_alloc ?_ _));exact BK101.out) hb);have n1_:=Aside0.mk (blk_below (g:=gb102) (o:=.cells #[.int .i64 a1_0,.bool a1_1,.int .i64 a1_2] 25 (0,0)) (by (with_reducible repeat (first|refine blk_drewN ?_ _|refine blk_drew ?_|refine blk_alloc ?_ _));exact BK102.out) hb);have n2_:=Aside0.mk (blk_below (g:=gb103) (o:=.cells #[.int .i64 a2_0,.int .i64 a2_1] 63 (0,0)) (by (with_reducible repeat (first|refine blk_drewN ?_ _|refine blk_drew ?_|refine blk_alloc ?_ _));exact BK103.out) hb);have n3_:=Aside0.mk (blk_below (g:=gb104) (o:=.cells #[.int .i64 0,.int .i64 0,.int .i64 0] 69 (0,0)) (by (with_reducible repeat (first|refine blk_drewN ?_ _|refine blk_drew ?_|refine blk_alloc ?_ _));exact BK104.out) hb);have n4_:=Aside0.mk (below_step (by repeat (first|(with_reducible first|exact HB.out|apply below_alloc|apply pw_below_drewN|apply below_drew1|refine below_set ?_ GE101.out|refine below_set ?_ GE102.out|refine below_set ?_ GE103.out|refine below_set ?_ GE104.out)|exact HB.out)) hb);clear BK101;clear BK102;clear BK103;clear BK104;clear HB;have BK101:=n0_;have BK102:=n1_;have BK103:=n2_;have BK104:=n3_;have HB:=n4_;clear n0_ n1_ n2_ n3_ n4_;(try clear hb);(try clear hb2);(try clear hk);(try clear hi))|((with_reducible refine gate_callee (f:=56) rfl ?_);refine goesL_ (some 19) rfl rfl Try.func56 (by kernel_rfl) rfl #[.int .i64 a3,.int .i64 (-9999),.int .i64 9999] rfl (by (try simp only [List.map_toArray,List.map_cons,List.map_nil]);first|done|rfl|(simp only [List.length_drop,List.length_take];rfl)) ?_;(with_reducible refine (impl_within.calls a3 (-9999) 9999 true _ A7.out).mono ?_);rintro e w' ⟨rfl,⟨nd,rfl⟩⟩;refine ⟨_,rfl,?_⟩;(try (rw [drewN_self w24];generalize hq_ : World.drewN w24 _ = w24;have n0_ : Aside0 (w24.heap[gb101]? = some (.cells #[.slice A0_0 l0_0.length c0_0] 61 (0,0))):=⟨by rw [← hq_];exact (by (with_reducible repeat (first|refine blk_drewN ?_ _|refine blk_drew ?_|refine blk_alloc ?_ _));exact BK101.out)⟩;have n1_ : Aside0 (w24.heap[gb102]? = some (.cells #[.int .i64 a1_0,.bool a1_1,.int .i64 a1_2] 25 (0,0))):=⟨by rw [← hq_];exact (by (with_reducible repeat (first|refine blk_drewN ?_ _|refine blk_drew ?_|refine blk_alloc ?_ _));exact BK102.out)⟩;have n2_ : Aside0 (w24.heap[gb103]? = some (.cells #[.int .i64 a2_0,.int .i64 a2_1] 63 (0,0))):=⟨by rw [← hq_];exact (by (with_reducible repeat (first|refine blk_drewN ?_ _|refine blk_drew ?_|refine blk_alloc ?_ _));exact BK103.out)⟩;have n3_ : Aside0 (w24.heap[gb104]? = some (.cells #[.int .i64 0,.int .i64 0,.int .i64 0] 69 (0,0))):=⟨by rw [← hq_];exact (by (with_reducible repeat (first|refine blk_drewN ?_ _|refine blk_drew ?_|refine blk_alloc ?_ _));exact BK104.out)⟩;have n4_ : Aside0 (Below w.heap.size w w24):=⟨by rw [← hq_];exact (by repeat (first|(with_reducible first|exact HB.out|apply below_alloc|apply pw_below_drewN|apply below_drew1|refine below_set ?_ GE101.out|refine below_set ?_ GE102.out|refine below_set ?_ GE103.out|refine below_set ?_ GE104.out)|exact HB.out))⟩;clear BK101 BK102 BK103 BK104 HB hq_;have BK101:=n0_;have BK102:=n1_;have BK103:=n2_;have BK104:=n3_;have HB:=n4_;clear n0_ n1_ n2_ n3_ n4_))))
     have n0_:=Aside0.mk (blk_drew BK101.out)
     have n1_:=Aside0.mk (blk_drew BK102.out)
     have n2_:=Aside0.mk (blk_drew BK103.out)
     have n3_:=Aside0.mk (blk_drew BK104.out)
     have n4_:=Aside0.mk (below_drew1 HB.out)
     clear BK101
     clear BK102
     clear BK103
     clear BK104
     clear HB
     have BK101:=n0_
     have BK102:=n1_
     have BK103:=n2_
     have BK104:=n3_
     have HB:=n4_
     clear n0_ n1_ n2_ n3_ n4_
     refine start_ (n:=8) (S:=fun w' => w'.cell? ⟨gb101,0,none⟩ = some (.slice A0_0 l0_0.length c0_0) ∧ w'.cell? ⟨gb102,0,none⟩ = some (.int .i64 a1_0) ∧ w'.cell? ⟨gb102,1,none⟩ = some (.bool a1_1) ∧ w'.cell? ⟨gb102,2,none⟩ = some (.int .i64 a1_2) ∧ w'.cell? ⟨gb103,0,none⟩ = some (.int .i64 a2_0) ∧ w'.cell? ⟨gb103,1,none⟩ = some (.int .i64 a2_1)) (ds:=[]) #[false,false,false,false,false,false,false,false] (by kernel_rfl) rfl rfl ⟨(blk_cell BK101.out 0).trans rfl,(blk_cell BK102.out 0).trans rfl,(blk_cell BK102.out 1).trans rfl,(blk_cell BK102.out 2).trans rfl,(blk_cell BK103.out 0).trans rfl,(blk_cell BK103.out 1).trans rfl⟩ (fun hHeld => ?_);refine with_tabW impl_MoveSpot.tab6 impl_MoveSpot.bits6 (fun HT_ HW_ => ?_)
     generalize w24.drew = w25 at BK101 BK102 BK103 BK104 HB hHeld ⊢
     refine pure_ (i:=4) (N:=some 26) (v:=?_) (a':=?_) #[false,false,false,false,true,false,false,false] rfl rfl (any_of HT_.out (by kernel_rfl)) (fun _ _ _ h => h) (Or.inl ⟨by rfl,?_⟩) ?_ ?_
     rotate_left
     · intro w'
       go_simp
       with_reducible rfl
     rotate_left
     · simp only [Act.put,List.setIfInBounds_toArray,List.set_cons_zero,List.set_cons_succ,i64_w,i32_w]
       rfl
     refine take_ (i:=0) (N:=some 22) (v:=?_) (a':=?_) #[true,false,false,false,true,false,false,false] rfl rfl (take_ofW HT_.out HW_.out (by kernel_rfl)) (fun _ _ _ h => h) (Or.inl ⟨by rfl,?_⟩) hHeld ?_ ?_
     rotate_left
     · rintro w' ⟨s0,s1,s2,s3,s4,s5⟩
       go_simp
       with_reducible rfl
     rotate_left
     · simp only [Act.put,List.setIfInBounds_toArray,List.set_cons_zero,List.set_cons_succ,i64_w,i32_w]
       rfl
     refine take_ (i:=1) (N:=some 23) (v:=?_) (a':=?_) #[true,true,false,false,true,false,false,false] rfl rfl (take_ofW HT_.out HW_.out (by kernel_rfl)) (fun _ _ _ h => h) (Or.inl ⟨by rfl,?_⟩) hHeld ?_ ?_
     rotate_left
     · rintro w' ⟨s0,s1,s2,s3,s4,s5⟩
       go_simp
       with_reducible rfl
     rotate_left
     · simp only [Act.put,List.setIfInBounds_toArray,List.set_cons_zero,List.set_cons_succ,i64_w,i32_w]
       rfl
     refine take_ (i:=3) (N:=some 25) (v:=?_) (a':=?_) #[true,true,false,true,true,false,false,false] rfl rfl (take_ofW HT_.out HW_.out (by kernel_rfl)) (fun _ _ _ h => h) (Or.inl ⟨by rfl,?_⟩) hHeld ?_ ?_
     rotate_left
     · rintro w' ⟨s0,s1,s2,s3,s4,s5⟩
       go_simp
       with_reducible rfl
     rotate_left
     · simp only [Act.put,List.setIfInBounds_toArray,List.set_cons_zero,List.set_cons_succ,i64_w,i32_w]
       rfl
     refine one_ (i:=2) (N:=some 24) #[true,true,true,true,true,false,false,false] rfl rfl (one_of HT_.out (by kernel_rfl)) (by decide) (fun K hK => ?_)
     refine goes_ Try.func80 (by kernel_rfl) rfl #[.agg #[.slice A0_0 l0_0.length c0_0],.agg #[.int .i64 a1_0,.bool a1_1,.int .i64 a1_2]] (by rfl) rfl rfl (by (try simp only [List.map_toArray,List.map_cons,List.map_nil]);first|done|rfl|(simp only [List.length_drop,List.length_take];rfl)) ?_
     with_reducible refine (impl_rowsOf.calls _ _ l0_0 a1_0 a1_1 a1_2 t107 _ ?side1 ?side2 A9.out).mono ?_
     (case side1 => repeat (first|exact (Kd.C_below HR0_0.out HB.out)|(with_reducible refine Kd.C_alloc ?_ _)|(with_reducible refine Kd.C_drewN ?_ _)|(with_reducible refine Kd.C_drew ?_)))
     (case side2 => exact HC0_0.out)
     rintro e w26 ⟨v108,rfl,ho0,hb⟩
     refine ⟨_,rfl,?_⟩
     have n0_:=Aside0.mk (Kd.R_lower ho0 (below_size (by repeat (first|(with_reducible first|exact HB.out|apply below_alloc|apply pw_below_drewN|apply below_drew1|refine below_set ?_ GE101.out|refine below_set ?_ GE102.out|refine below_set ?_ GE103.out|refine below_set ?_ GE104.out)|exact HB.out))))
     have n1_:=Aside0.mk (blk_below (g:=gb101) (o:=.cells #[.slice A0_0 l0_0.length c0_0] 61 (0,0)) (by (with_reducible repeat (first|refine blk_drewN ?_ _|refine blk_drew ?_|refine blk_alloc ?_ _));exact BK101.out) hb)
     have n2_:=Aside0.mk (blk_below (g:=gb102) (o:=.cells #[.int .i64 a1_0,.bool a1_1,.int .i64 a1_2] 25 (0,0)) (by (with_reducible repeat (first|refine blk_drewN ?_ _|refine blk_drew ?_|refine blk_alloc ?_ _));exact BK102.out) hb)
     have n3_:=Aside0.mk (blk_below (g:=gb103) (o:=.cells #[.int .i64 a2_0,.int .i64 a2_1] 63 (0,0)) (by (with_reducible repeat (first|refine blk_drewN ?_ _|refine blk_drew ?_|refine blk_alloc ?_ _));exact BK103.out) hb)
     have n4_:=Aside0.mk (blk_below (g:=gb104) (o:=.cells #[.int .i64 0,.int .i64 0,.int .i64 0] 69 (0,0)) (by (with_reducible repeat (first|refine blk_drewN ?_ _|refine blk_drew ?_|refine blk_alloc ?_ _));exact BK104.out) hb)
     have n5_:=Aside0.mk (below_step (by repeat (first|(with_reducible first|exact HB.out|apply below_alloc|apply pw_below_drewN|apply below_drew1|refine below_set ?_ GE101.out|refine below_set ?_ GE102.out|refine below_set ?_ GE103.out|refine below_set ?_ GE104.out)|exact HB.out)) hb)
     clear BK101
     clear BK102
     clear BK103
     clear BK104
     clear HB
     have HO109:=n0_
     have BK101:=n1_
     have BK102:=n2_
     have BK103:=n3_
     have BK104:=n4_
     have HB:=n5_
     clear n0_ n1_ n2_ n3_ n4_ n5_
     (try clear hb)
     (try clear hb2)
     (try clear hk)
     (try clear hi)
     (try clear ho0)
     obtain ⟨Ao27,co27,eo27⟩:=Kd.R_slice HO109.out
     (first|subst eo27|(injection eo27 with f1_ f2_ f3_;have f4_:=f1_.symm;have f5_:=f3_.symm;clear f1_ f2_ f3_;subst f4_;subst f5_))
     refine hK.out _ _ ⟨(blk_cell BK101.out 0).trans rfl,(blk_cell BK102.out 0).trans rfl,(blk_cell BK102.out 1).trans rfl,(blk_cell BK102.out 2).trans rfl,(blk_cell BK103.out 0).trans rfl,(blk_cell BK103.out 1).trans rfl⟩ (fun hHeld => ?_)
     clear hK K
     refine norm_ (a':=?_) ?_ ?_
     rotate_left
     · show Act.put _ (some 24) _ = _
       simp only [Act.put,List.setIfInBounds_toArray,List.set_cons_zero,List.set_cons_succ,i64_w,i32_w]
       rfl
     refine one_ (i:=5) (N:=some 27) #[true,true,true,true,true,true,false,false] rfl rfl (one_of HT_.out (by kernel_rfl)) (by decide) (fun K hK => ?_)
     refine goes_ Try.func90 (by kernel_rfl) rfl #[.slice Ao27 t107.length co27,.agg #[.int .i64 a2_0,.int .i64 a2_1],.int .i64 a3] (by rfl) rfl rfl (by (try simp only [List.map_toArray,List.map_cons,List.map_nil]);first|done|rfl|(simp only [List.length_drop,List.length_take];rfl)) ?_
     with_reducible refine (impl_moved.calls k _ _ t107 a2_0 a2_1 a3 t110 t111 _ ?side1 ?side2 A10.out).mono ?_
     (case side1 => repeat (first|exact (Kd.R_reads' HO109.out).2.2|(with_reducible refine Kd.C_alloc ?_ _)|(with_reducible refine Kd.C_drewN ?_ _)|(with_reducible refine Kd.C_drew ?_)))
     (case side2 => exact (Kd.R_reads' HO109.out).2.1)
     rintro e w28 ⟨rfl,hb⟩
     refine ⟨_,rfl,?_⟩
     have n0_:=Aside0.mk (Kd.R_below (by (with_reducible repeat (first|apply Kd.R_alloc|apply Kd.R_drewN|apply Kd.R_drew));exact HO109.out) hb)
     have n1_:=Aside0.mk (blk_below (g:=gb101) (o:=.cells #[.slice A0_0 l0_0.length c0_0] 61 (0,0)) (by (with_reducible repeat (first|refine blk_drewN ?_ _|refine blk_drew ?_|refine blk_alloc ?_ _));exact BK101.out) hb)
     have n2_:=Aside0.mk (blk_below (g:=gb102) (o:=.cells #[.int .i64 a1_0,.bool a1_1,.int .i64 a1_2] 25 (0,0)) (by (with_reducible repeat (first|refine blk_drewN ?_ _|refine blk_drew ?_|refine blk_alloc ?_ _));exact BK102.out) hb)
     have n3_:=Aside0.mk (blk_below (g:=gb103) (o:=.cells #[.int .i64 a2_0,.int .i64 a2_1] 63 (0,0)) (by (with_reducible repeat (first|refine blk_drewN ?_ _|refine blk_drew ?_|refine blk_alloc ?_ _));exact BK103.out) hb)
     have n4_:=Aside0.mk (blk_below (g:=gb104) (o:=.cells #[.int .i64 0,.int .i64 0,.int .i64 0] 69 (0,0)) (by (with_reducible repeat (first|refine blk_drewN ?_ _|refine blk_drew ?_|refine blk_alloc ?_ _));exact BK104.out) hb)
     have n5_:=Aside0.mk (below_step (by repeat (first|(with_reducible first|exact HB.out|apply below_alloc|apply pw_below_drewN|apply below_drew1|refine below_set ?_ GE101.out|refine below_set ?_ GE102.out|refine below_set ?_ GE103.out|refine below_set ?_ GE104.out)|exact HB.out)) hb)
     clear HO109
     clear BK101
     clear BK102
     clear BK103
     clear BK104
     clear HB
     have HO109:=n0_
     have BK101:=n1_
     have BK102:=n2_
     have BK103:=n3_
     have BK104:=n4_
     have HB:=n5_
     clear n0_ n1_ n2_ n3_ n4_ n5_
     (try clear hb)
     (try clear hb2)
     (try clear hk)
     (try clear hi)
     refine hK.out _ _ ⟨(blk_cell BK101.out 0).trans rfl,(blk_cell BK102.out 0).trans rfl,(blk_cell BK102.out 1).trans rfl,(blk_cell BK102.out 2).trans rfl,(blk_cell BK103.out 0).trans rfl,(blk_cell BK103.out 1).trans rfl⟩ (fun hHeld => ?_)
     clear hK K
     refine norm_ (a':=?_) ?_ ?_
     rotate_left
     · show Act.put _ (some 27) _ = _
       simp only [Act.put,List.setIfInBounds_toArray,List.set_cons_zero,List.set_cons_succ,i64_w,i32_w]
       rfl
     refine pure_ (i:=6) (N:=some 28) (v:=?_) (a':=?_) #[true,true,true,true,true,true,true,false] rfl rfl (any_of HT_.out (by kernel_rfl)) (fun _ _ _ h => h) (Or.inl ⟨by rfl,?_⟩) ?_ ?_
     rotate_left
     · intro w'
       go_simp
       with_reducible rfl
     rotate_left
     · simp only [Act.put,List.setIfInBounds_toArray,List.set_cons_zero,List.set_cons_succ,i64_w,i32_w]
       rfl
     refine one_ (i:=7) (N:=none) #[true,true,true,true,true,true,true,true] rfl rfl (one_of HT_.out (by kernel_rfl)) (by decide) (fun K hK => ?_)
     have hs29 : w28.cell? ⟨gb104,0,none⟩ = some (.int .i64 0):=(blk_cell BK104.out 0).trans rfl
     have hfs29:=blk_frozen BK104.out 0
     have hns29_0:=NB101_104.out
     have hns29_1:=NB102_104.out
     have hns29_2:=NB103_104.out
     have hms29_0:=NB104_101.out
     have hms29_1:=NB104_102.out
     have hms29_2:=NB104_103.out
     have hs30 : w28.cell? ⟨gb104,1,none⟩ = some (.int .i64 0):=(blk_cell BK104.out 1).trans rfl
     have hfs30:=blk_frozen BK104.out 1
     have hns30_0:=NB101_104.out
     have hns30_1:=NB102_104.out
     have hns30_2:=NB103_104.out
     have hms30_0:=NB104_101.out
     have hms30_1:=NB104_102.out
     have hms30_2:=NB104_103.out
     have hs31 : w28.cell? ⟨gb104,2,none⟩ = some (.int .i64 0):=(blk_cell BK104.out 2).trans rfl
     have hfs31:=blk_frozen BK104.out 2
     have hns31_0:=NB101_104.out
     have hns31_1:=NB102_104.out
     have hns31_2:=NB103_104.out
     have hms31_0:=NB104_101.out
     have hms31_1:=NB104_102.out
     have hms31_2:=NB104_103.out
     refine skip_ (w1:=?_) (by rfl) rfl ?_ ?_
     rotate_left
     · go_simp
       rfl
     refine hK.out _ _ ⟨((cell_far (p:=⟨gb104,_,none⟩) NB101_104.out _).trans (((cell_far (p:=⟨gb104,_,none⟩) NB101_104.out _).trans (((cell_far (p:=⟨gb104,_,none⟩) NB101_104.out _).trans (hHeld.1)))))),((cell_far (p:=⟨gb104,_,none⟩) NB102_104.out _).trans (((cell_far (p:=⟨gb104,_,none⟩) NB102_104.out _).trans (((cell_far (p:=⟨gb104,_,none⟩) NB102_104.out _).trans (hHeld.2.1)))))),((cell_far (p:=⟨gb104,_,none⟩) NB102_104.out _).trans (((cell_far (p:=⟨gb104,_,none⟩) NB102_104.out _).trans (((cell_far (p:=⟨gb104,_,none⟩) NB102_104.out _).trans (hHeld.2.2.1)))))),((cell_far (p:=⟨gb104,_,none⟩) NB102_104.out _).trans (((cell_far (p:=⟨gb104,_,none⟩) NB102_104.out _).trans (((cell_far (p:=⟨gb104,_,none⟩) NB102_104.out _).trans (hHeld.2.2.2.1)))))),((cell_far (p:=⟨gb104,_,none⟩) NB103_104.out _).trans (((cell_far (p:=⟨gb104,_,none⟩) NB103_104.out _).trans (((cell_far (p:=⟨gb104,_,none⟩) NB103_104.out _).trans (hHeld.2.2.2.2.1)))))),((cell_far (p:=⟨gb104,_,none⟩) NB103_104.out _).trans (((cell_far (p:=⟨gb104,_,none⟩) NB103_104.out _).trans (((cell_far (p:=⟨gb104,_,none⟩) NB103_104.out _).trans (hHeld.2.2.2.2.2))))))⟩ (fun hHeld => ?_)
     clear hK K
     refine done_ (done_of HT_.out (by kernel_rfl)) ?_
     try go_wp2
     refine bodyPost_ret (results_cell_row rfl _ _ gb104 69 #[.int .i64 0,.int .i64 t110,.int .i64 t111] (0,0) _ rfl (by (with_reducible repeat (first|refine blk_drewN ?_ _|refine blk_drew ?_|refine blk_alloc ?_ _));refine blk_put (cs:=#[.int .i64 0,.int .i64 t110,.int .i64 0]) ?_ 2 _ rfl;(with_reducible repeat (first|refine blk_drewN ?_ _|refine blk_drew ?_|refine blk_alloc ?_ _));refine blk_put (cs:=#[.int .i64 0,.int .i64 0,.int .i64 0]) ?_ 1 _ rfl;(with_reducible repeat (first|refine blk_drewN ?_ _|refine blk_drew ?_|refine blk_alloc ?_ _));refine blk_put (cs:=#[.int .i64 0,.int .i64 0,.int .i64 0]) ?_ 0 _ rfl;(with_reducible repeat (first|refine blk_drewN ?_ _|refine blk_drew ?_|refine blk_alloc ?_ _));exact BK104.out) Try.underlying69 rfl (by kernel_rfl)) rfl ?_
     exact ⟨by first|rfl|(simp [errW_none,errW_some] <;> rfl)|(simp [*,errW_none,errW_some] <;> rfl),by repeat (first|(with_reducible first|exact HB.out|apply below_alloc|apply pw_below_drewN|apply below_drew1|refine below_set ?_ GE101.out|refine below_set ?_ GE102.out|refine below_set ?_ GE103.out|refine below_set ?_ GE104.out)|exact HB.out)⟩
   · replace c8:=Bool.eq_false_iff.mpr c8
     subst c8
     have H1 : (some (3,0,0)) = some (r1,r2,r3):=by rw [if_neg (show ¬ (false = true) by decide)] at H;exact H
     clear H
     have H:=H1
     clear H1
     simp only [Option.some.injEq,Prod.mk.injEq] at H
     obtain ⟨rfl,rfl,rfl⟩:=H
     go_enter Try.func49,Try.ntmps49
     go_wp2_with (first|((with_reducible refine gate_dst (N:=4) rfl ?_);refine box_event ?hg (N:=4) ?hd (cs:=#[.slice A0_0 l0_0.length c0_0]) (t:=61) ?hr ?_;(case hd => rfl);(case hg => rfl);(case hr => first|(go_simp;done)|(go_simp;rfl));intro gb101 hg w32 hbox hb;have n0_:=Aside0.mk (below_step (by repeat (first|(with_reducible first|exact HB.out|apply below_alloc|apply pw_below_drewN|apply below_drew1)|exact HB.out)) hb);have n1_:=Aside0.mk (hbox);have n2_:=Aside0.mk ((by rw [hg];exact (below_size (by repeat (first|(with_reducible first|exact HB.out|apply below_alloc|apply pw_below_drewN|apply below_drew1)|exact HB.out))) : w.heap.size ≤ gb101));have n3_:=Aside0.mk ((by rw [hg];exact (below_size (by repeat (first|(with_reducible first|exact HB.out|apply below_alloc|apply pw_below_drewN|apply below_drew1)|exact HB.out))) : w.heap.size ≤ gb101));clear HB;have HB:=n0_;have BK101:=n1_;have GW101:=n2_;have GE101:=n3_;clear n0_ n1_ n2_ n3_;clear hb hbox hg)|((with_reducible refine gate_dst (N:=5) rfl ?_);refine box_event ?hg (N:=5) ?hd (cs:=#[.int .i64 a1_0,.bool a1_1,.int .i64 a1_2]) (t:=25) ?hr ?_;(case hd => rfl);(case hg => rfl);(case hr => first|(go_simp;done)|(go_simp;rfl));intro gb102 hg w33 hbox hb;have n0_:=Aside0.mk (blk_below (g:=gb101) (o:=.cells #[.slice A0_0 l0_0.length c0_0] 61 (0,0)) (by (with_reducible repeat (first|refine blk_drewN ?_ _|refine blk_drew ?_|refine blk_alloc ?_ _));exact BK101.out) hb);have n1_:=Aside0.mk (below_step (by repeat (first|(with_reducible first|exact HB.out|apply below_alloc|apply pw_below_drewN|apply below_drew1|refine below_set ?_ GE101.out)|exact HB.out)) hb);have n2_:=Aside0.mk (hbox);have n3_:=Aside0.mk ((by rw [hg];exact (below_size (by repeat (first|(with_reducible first|exact HB.out|apply below_alloc|apply pw_below_drewN|apply below_drew1|refine below_set ?_ GE101.out)|exact HB.out))) : w.heap.size ≤ gb102));have n4_:=Aside0.mk ((by rw [hg];exact (below_size (by repeat (first|(with_reducible first|exact HB.out|apply below_alloc|apply pw_below_drewN|apply below_drew1|refine below_set ?_ GE101.out)|exact HB.out))) : w.heap.size ≤ gb102));have n5_:=Aside0.mk ((by rw [hg];exact Nat.ne_of_lt (blk_lt (g:=gb101) (o:=.cells #[.slice A0_0 l0_0.length c0_0] 61 (0,0)) (by (with_reducible repeat (first|refine blk_drewN ?_ _|refine blk_drew ?_|refine blk_alloc ?_ _));exact BK101.out)) : gb101 ≠ gb102));have n6_:=Aside0.mk ((by rw [hg];exact Nat.ne_of_gt (blk_lt (g:=gb101) (o:=.cells #[.slice A0_0 l0_0.length c0_0] 61 (0,0)) (by (with_reducible repeat (first|refine blk_drewN ?_ _|refine blk_drew ?_|refine blk_alloc ?_ _));exact BK101.out)) : gb102 ≠ gb101));clear BK101;clear HB;have BK101:=n0_;have HB:=n1_;have BK102:=n2_;have GW102:=n3_;have GE102:=n4_;have NB101_102:=n5_;have NB102_101:=n6_;clear n0_ n1_ n2_ n3_ n4_ n5_ n6_;clear hb hbox hg)|((with_reducible refine gate_dst (N:=6) rfl ?_);refine box_event ?hg (N:=6) ?hd (cs:=#[.int .i64 a2_0,.int .i64 a2_1]) (t:=63) ?hr ?_;(case hd => rfl);(case hg => rfl);(case hr => first|(go_simp;done)|(go_simp;rfl));intro gb103 hg w34 hbox hb;have n0_:=Aside0.mk (blk_below (g:=gb101) (o:=.cells #[.slice A0_0 l0_0.length c0_0] 61 (0,0)) (by (with_reducible repeat (first|refine blk_drewN ?_ _|refine blk_drew ?_|refine blk_alloc ?_ _));exact BK101.out) hb);have n1_:=Aside0.mk (blk_below (g:=gb102) (o:=.cells #[.int .i64 a1_0,.bool a1_1,.int .i64 a1_2] 25 (0,0)) (by (with_reducible repeat (first|refine blk_drewN ?_ _|refine blk_drew ?_|refine blk_alloc ?_ _));exact BK102.out) hb);have n2_:=Aside0.mk (below_step (by repeat (first|(with_reducible first|exact HB.out|apply below_alloc|apply pw_below_drewN|apply below_drew1|refine below_set ?_ GE101.out|refine below_set ?_ GE102.out)|exact HB.out)) hb);have n3_:=Aside0.mk (hbox);have n4_:=Aside0.mk ((by rw [hg];exact (below_size (by repeat (first|(with_reducible first|exact HB.out|apply below_alloc|apply pw_below_drewN|apply below_drew1|refine below_set ?_ GE101.out|refine below_set ?_ GE102.out)|exact HB.out))) : w.heap.size ≤ gb103));have n5_:=Aside0.mk ((by rw [hg];exact (below_size (by repeat (first|(with_reducible first|exact HB.out|apply below_alloc|apply pw_below_drewN|apply below_drew1|refine below_set ?_ GE101.out|refine below_set ?_ GE102.out)|exact HB.out))) : w.heap.size ≤ gb103));have n6_:=Aside0.mk ((by rw [hg];exact Nat.ne_of_lt (blk_lt (g:=gb101) (o:=.cells #[.slice A0_0 l0_0.length c0_0] 61 (0,0)) (by (with_reducible repeat (first|refine blk_drewN ?_ _|refine blk_drew ?_|refine blk_alloc ?_ _));exact BK101.out)) : gb101 ≠ gb103));have n7_:=Aside0.mk ((by rw [hg];exact Nat.ne_of_gt (blk_lt (g:=gb101) (o:=.cells #[.slice A0_0 l0_0.length c0_0] 61 (0,0)) (by (with_reducible repeat (first|refine blk_drewN ?_ _|refine blk_drew ?_|refine blk_alloc ?_ _));exact BK101.out)) : gb103 ≠ gb101));have n8_:=Aside0.mk ((by rw [hg];exact Nat.ne_of_lt (blk_lt (g:=gb102) (o:=.cells #[.int .i64 a1_0,.bool a1_1,.int .i64 a1_2] 25 (0,0)) (by (with_reducible repeat (first|refine blk_drewN ?_ _|refine blk_drew ?_|refine blk_alloc ?_ _));exact BK102.out)) : gb102 ≠ gb103));have n9_:=Aside0.mk ((by rw [hg];exact Nat.ne_of_gt (blk_lt (g:=gb102) (o:=.cells #[.int .i64 a1_0,.bool a1_1,.int .i64 a1_2] 25 (0,0)) (by (with_reducible repeat (first|refine blk_drewN ?_ _|refine blk_drew ?_|refine blk_alloc ?_ _));exact BK102.out)) : gb103 ≠ gb102));clear BK101;clear BK102;clear HB;have BK101:=n0_;have BK102:=n1_;have HB:=n2_;have BK103:=n3_;have GW103:=n4_;have GE103:=n5_;have NB101_103:=n6_;have NB103_101:=n7_;have NB102_103:=n8_;have NB103_102:=n9_;clear n0_ n1_ n2_ n3_ n4_ n5_ n6_ n7_ n8_ n9_;clear hb hbox hg)|((with_reducible refine gate_dst (N:=8) rfl ?_);refine box_event ?hg (N:=8) ?hd (cs:=#[.int .i64 0,.int .i64 0,.int .i64 0]) (t:=69) ?hr ?_;(case hd => rfl);(case hg => rfl);(case hr => first|(go_simp;done)|(go_simp;rfl));intro gb104 hg w35 hbox hb;have n0_:=Aside0.mk (blk_below (g:=gb101) (o:=.cells #[.slice A0_0 l0_0.length c0_0] 61 (0,0)) (by (with_reducible repeat (first|refine blk_drewN ?_ _|refine blk_drew ?_|refine blk_alloc ?_ _));exact BK101.out) hb);have n1_:=Aside0.mk (blk_below (g:=gb102) (o:=.cells #[.int .i64 a1_0,.bool a1_1,.int .i64 a1_2] 25 (0,0)) (by (with_reducible repeat (first|refine blk_drewN ?_ _|refine blk_drew ?_|refine blk_alloc ?_ _));exact BK102.out) hb);have n2_:=Aside0.mk (blk_below (g:=gb103) (o:=.cells #[.int .i64 a2_0,.int .i64 a2_1] 63 (0,0)) (by (with_reducible repeat (first|refine blk_drewN ?_ _|refine blk_drew ?_|refine blk_alloc ?_ _));exact BK103.out) hb);have n3_:=Aside0.mk (below_step (by repeat (first|(with_reducible first|exact HB.out|apply below_alloc|apply pw_below_drewN|apply below_drew1|refine below_set ?_ GE101.out|refine below_set ?_ GE102.out|refine below_set ?_ GE103.out)|exact HB.out)) hb);have n4_:=Aside0.mk (hbox);have n5_:=Aside0.mk ((by rw [hg];exact (below_size (by repeat (first|(with_reducible first|exact HB.out|apply below_alloc|apply pw_below_drewN|apply below_drew1|refine below_set ?_ GE101.out|refine below_set ?_ GE102.out|refine below_set ?_ GE103.out)|exact HB.out))) : w.heap.size ≤ gb104));have n6_:=Aside0.mk ((by rw [hg];exact (below_size (by repeat (first|(with_reducible first|exact HB.out|apply below_alloc|apply pw_below_drewN|apply below_drew1|refine below_set ?_ GE101.out|refine below_set ?_ GE102.out|refine below_set ?_ GE103.out)|exact HB.out))) : w.heap.size ≤ gb104));have n7_:=Aside0.mk ((by rw [hg];exact Nat.ne_of_lt (blk_lt (g:=gb101) (o:=.cells #[.slice A0_0 l0_0.length c0_0] 61 (0,0)) (by (with_reducible repeat (first|refine blk_drewN ?_ _|refine blk_drew ?_|refine blk_alloc ?_ _));exact BK101.out)) : gb101 ≠ gb104));have n8_:=Aside0.mk ((by rw [hg];exact Nat.ne_of_gt (blk_lt (g:=gb101) (o:=.cells #[.slice A0_0 l0_0.length c0_0] 61 (0,0)) (by (with_reducible repeat (first|refine blk_drewN ?_ _|refine blk_drew ?_|refine blk_alloc ?_ _));exact BK101.out)) : gb104 ≠ gb101));have n9_:=Aside0.mk ((by rw [hg];exact Nat.ne_of_lt (blk_lt (g:=gb102) (o:=.cells #[.int .i64 a1_0,.bool a1_1,.int .i64 a1_2] 25 (0,0)) (by (with_reducible repeat (first|refine blk_drewN ?_ _|refine blk_drew ?_|refine blk_alloc ?_ _));exact BK102.out)) : gb102 ≠ gb104));have n10_:=Aside0.mk ((by rw [hg];exact Nat.ne_of_gt (blk_lt (g:=gb102) (o:=.cells #[.int .i64 a1_0,.bool a1_1,.int .i64 a1_2] 25 (0,0)) (by (with_reducible repeat (first|refine blk_drewN ?_ _|refine blk_drew ?_|refine blk_alloc ?_ _));exact BK102.out)) : gb104 ≠ gb102));have n11_:=Aside0.mk ((by rw [hg];exact Nat.ne_of_lt (blk_lt (g:=gb103) (o:=.cells #[.int .i64 a2_0,.int .i64 a2_1] 63 (0,0)) (by (with_reducible repeat (first|refine blk_drewN ?_ _|refine blk_drew ?_|refine blk_alloc ?_ _));exact BK103.out)) : gb103 ≠ gb104));have n12_:=Aside0.mk ((by rw [hg];exact Nat.ne_of_gt (blk_lt (g:=gb103) (o:=.cells #[.int .i64 a2_0,.int .i64 a2_1] 63 (0,0)) (by (with_reducible repeat (first|refine blk_drewN ?_ _|refine blk_drew ?_|refine blk_alloc ?_ _));exact BK103.out)) : gb104 ≠ gb103));clear BK101;clear BK102;clear BK103;clear HB;have BK101:=n0_;have BK102:=n1_;have BK103:=n2_;have HB:=n3_;have BK104:=n4_;have GW104:=n5_;have GE104:=n6_;have NB101_104:=n7_;have NB104_101:=n8_;have NB102_104:=n9_;have NB104_102:=n10_;have NB103_104:=n11_;have NB104_103:=n12_;clear n0_ n1_ n2_ n3_ n4_ n5_ n6_ n7_ n8_ n9_ n10_ n11_ n12_;clear hb hbox hg;have hnb36:=NB101_102.out;have hnc36:=NB102_101.out;have hnb37:=NB101_103.out;have hnc37:=NB103_101.out;have hnb38:=NB101_104.out;have hnc38:=NB104_101.out;have hcz39_0 : w35.cell? ⟨gb101,0,none⟩ = some (.slice A0_0 l0_0.length c0_0):=(blk_cell BK101.out 0).trans rfl;have hfz39_0:=blk_frozen BK101.out 0;have hnb40:=NB102_103.out;have hnc40:=NB103_102.out;have hnb41:=NB102_104.out;have hnc41:=NB104_102.out;have hcz42_0 : w35.cell? ⟨gb102,0,none⟩ = some (.int .i64 a1_0):=(blk_cell BK102.out 0).trans rfl;have hcz42_1 : w35.cell? ⟨gb102,1,none⟩ = some (.bool a1_1):=(blk_cell BK102.out 1).trans rfl;have hcz42_2 : w35.cell? ⟨gb102,2,none⟩ = some (.int .i64 a1_2):=(blk_cell BK102.out 2).trans rfl;have hfz42_0:=blk_frozen BK102.out 0;have hfz42_1:=blk_frozen BK102.out 1;have hfz42_2:=blk_frozen BK102.out 2;have hnb43:=NB103_104.out;have hnc43:=NB104_103.out;have hcz44_0 : w35.cell? ⟨gb103,0,none⟩ = some (.int .i64 a2_0):=(blk_cell BK103.out 0).trans rfl;have hcz44_1 : w35.cell? ⟨gb103,1,none⟩ = some (.int .i64 a2_1):=(blk_cell BK103.out 1).trans rfl;have hfz44_0:=blk_frozen BK103.out 0;have hfz44_1:=blk_frozen BK103.out 1)|((with_reducible refine gate_callee (f:=42) rfl ?_);refine goesL_ (some 13) rfl rfl Try.func42 (by kernel_rfl) rfl #[.agg #[.slice A0_0 l0_0.length c0_0],.agg #[.int .i64 a1_0,.bool a1_1,.int .i64 a1_2],.agg #[.int .i64 a2_0,.int .i64 a2_1]] rfl (by (try simp only [List.map_toArray,List.map_cons,List.map_nil]);first|done|rfl|(simp only [List.length_drop,List.length_take];rfl)) ?_;(with_reducible refine (impl_SpotFault.calls k _ _ l0_0 a1_0 a1_1 a1_2 a2_0 a2_1 t105 _ ?side1 ?side2 A5.out).mono ?_);(case side1 => repeat (first|exact (Kd.C_below HR0_0.out HB.out)|(with_reducible refine Kd.C_alloc ?_ _)|(with_reducible refine Kd.C_drewN ?_ _)|(with_reducible refine Kd.C_drew ?_)));(case side2 => exact HC0_0.out);rintro e w45 ⟨rfl,hb⟩;refine ⟨_,rfl,?_⟩;have n0_:=Aside0.mk (blk_below (g:=gb101) (o:=.cells #[.slice A0_0 l0_0.length c0_0] 61 (0,0)) (by (with_reducible repeat (first|refine blk_drewN ?_ _|refine blk_drew ?_|refine blk_alloc ?_ _));exact BK101.out) hb);have n1_:=Aside0.mk (blk_below (g:=gb102) (o:=.cells #[.int .i64 a1_0,.bool a1_1,.int .i64 a1_2] 25 (0,0)) (by (with_reducible repeat (first|refine blk_drewN ?_ _|refine blk_drew ?_|refine blk_alloc ?_ _));exact BK102.out) hb);have n2_:=Aside0.mk (blk_below (g:=gb103) (o:=.cells #[.int .i64 a2_0,.int .i64 a2_1] 63 (0,0)) (by (with_reducible repeat (first|refine blk_drewN ?_ _|refine blk_drew ?_|refine blk_alloc ?_ _));exact BK103.out) hb);have n3_:=Aside0.mk (blk_below (g:=gb104) (o:=.cells #[.int .i64 0,.int .i64 0,.int .i64 0] 69 (0,0)) (by (with_reducible repeat (first|refine blk_drewN ?_ _|refine blk_drew ?_|refine blk_alloc ?_ _));exact BK104.out) hb);have n4_:=Aside0.mk (below_step (by repeat (first|(with_reducible first|exact HB.out|apply below_alloc|apply pw_below_drewN|apply below_drew1|refine below_set ?_ GE101.out|refine below_set ?_ GE102.out|refine below_set ?_ GE103.out|refine below_set ?_ GE104.out)|exact HB.out)) hb);clear BK101;clear BK102;clear BK103;clear BK104;clear HB;have BK101:=n0_;have BK102:=n1_;have BK103:=n2_;have BK104:=n3_;have HB:=n4_;clear n0_ n1_ n2_ n3_ n4_;(try clear hb);(try clear hb2);(try clear hk);(try clear hi))|((with_reducible refine gate_callee (f:=56) rfl ?_);refine goesL_ (some 19) rfl rfl Try.func56 (by kernel_rfl) rfl #[.int .i64 a3,.int .i64 (-9999),.int .i64 9999] rfl (by (try simp only [List.map_toArray,List.map_cons,List.map_nil]);first|done|rfl|(simp only [List.length_drop,List.length_take];rfl)) ?_;(with_reducible refine (impl_within.calls a3 (-9999) 9999 false _ A7.out).mono ?_);rintro e w' ⟨rfl,⟨nd,rfl⟩⟩;refine ⟨_,rfl,?_⟩;(try (rw [drewN_self w45];generalize hq_ : World.drewN w45 _ = w45;have n0_ : Aside0 (w45.heap[gb101]? = some (.cells #[.slice A0_0 l0_0.length c0_0] 61 (0,0))):=⟨by rw [← hq_];exact (by (with_reducible repeat (first|refine blk_drewN ?_ _|refine blk_drew ?_|refine blk_alloc ?_ _));exact BK101.out)⟩;have n1_ : Aside0 (w45.heap[gb102]? = some (.cells #[.int .i64 a1_0,.bool a1_1,.int .i64 a1_2] 25 (0,0))):=⟨by rw [← hq_];exact (by (with_reducible repeat (first|refine blk_drewN ?_ _|refine blk_drew ?_|refine blk_alloc ?_ _));exact BK102.out)⟩;have n2_ : Aside0 (w45.heap[gb103]? = some (.cells #[.int .i64 a2_0,.int .i64 a2_1] 63 (0,0))):=⟨by rw [← hq_];exact (by (with_reducible repeat (first|refine blk_drewN ?_ _|refine blk_drew ?_|refine blk_alloc ?_ _));exact BK103.out)⟩;have n3_ : Aside0 (w45.heap[gb104]? = some (.cells #[.int .i64 0,.int .i64 0,.int .i64 0] 69 (0,0))):=⟨by rw [← hq_];exact (by (with_reducible repeat (first|refine blk_drewN ?_ _|refine blk_drew ?_|refine blk_alloc ?_ _));exact BK104.out)⟩;have n4_ : Aside0 (Below w.heap.size w w45):=⟨by rw [← hq_];exact (by repeat (first|(with_reducible first|exact HB.out|apply below_alloc|apply pw_below_drewN|apply below_drew1|refine below_set ?_ GE101.out|refine below_set ?_ GE102.out|refine below_set ?_ GE103.out|refine below_set ?_ GE104.out)|exact HB.out))⟩;clear BK101 BK102 BK103 BK104 HB hq_;have BK101:=n0_;have BK102:=n1_;have BK103:=n2_;have BK104:=n3_;have HB:=n4_;clear n0_ n1_ n2_ n3_ n4_));have hcz46_0 : w45.cell? ⟨gb104,0,none⟩ = some (.int .i64 0):=(blk_cell BK104.out 0).trans rfl;have hcz46_1 : w45.cell? ⟨gb104,1,none⟩ = some (.int .i64 0):=(blk_cell BK104.out 1).trans rfl;have hcz46_2 : w45.cell? ⟨gb104,2,none⟩ = some (.int .i64 0):=(blk_cell BK104.out 2).trans rfl;have hfz46_0:=blk_frozen BK104.out 0;have hfz46_1:=blk_frozen BK104.out 1;have hfz46_2:=blk_frozen BK104.out 2))
     refine bodyPost_ret (results_cell_row rfl _ _ gb104 69 #[.int .i64 3,.int .i64 0,.int .i64 0] (0,0) _ rfl (by (with_reducible repeat (first|refine blk_drewN ?_ _|refine blk_drew ?_|refine blk_alloc ?_ _));refine blk_put (cs:=#[.int .i64 3,.int .i64 0,.int .i64 0]) ?_ 2 _ rfl;(with_reducible repeat (first|refine blk_drewN ?_ _|refine blk_drew ?_|refine blk_alloc ?_ _));refine blk_put (cs:=#[.int .i64 3,.int .i64 0,.int .i64 0]) ?_ 1 _ rfl;(with_reducible repeat (first|refine blk_drewN ?_ _|refine blk_drew ?_|refine blk_alloc ?_ _));refine blk_put (cs:=#[.int .i64 0,.int .i64 0,.int .i64 0]) ?_ 0 _ rfl;(with_reducible repeat (first|refine blk_drewN ?_ _|refine blk_drew ?_|refine blk_alloc ?_ _));exact BK104.out) Try.underlying69 rfl (by kernel_rfl)) rfl ?_
     exact ⟨by first|rfl|(simp [errW_none,errW_some] <;> rfl)|(simp [*,errW_none,errW_some] <;> rfl),by repeat (first|(with_reducible first|exact HB.out|apply below_alloc|apply pw_below_drewN|apply below_drew1|refine below_set ?_ GE101.out|refine below_set ?_ GE102.out|refine below_set ?_ GE103.out|refine below_set ?_ GE104.out)|exact HB.out)⟩
 · rw [if_neg c6] at H
   have c6b0 : (t105 == 0) = false:=beq_eq_false_iff_ne.mpr c6
   have c6b1 : (t105 != 0) = true:=bne_iff_ne.mpr c6
   simp only [Option.some.injEq,Prod.mk.injEq] at H
   obtain ⟨rfl,rfl,rfl⟩:=H
   go_enter Try.func49,Try.ntmps49
   go_wp2_with (first|((with_reducible refine gate_dst (N:=4) rfl ?_);refine box_event ?hg (N:=4) ?hd (cs:=#[.slice A0_0 l0_0.length c0_0]) (t:=61) ?hr ?_;(case hd => rfl);(case hg => rfl);(case hr => first|(go_simp;done)|(go_simp;rfl));intro gb101 hg w47 hbox hb;have n0_:=Aside0.mk (below_step (by repeat (first|(with_reducible first|exact HB.out|apply below_alloc|apply pw_below_drewN|apply below_drew1)|exact HB.out)) hb);have n1_:=Aside0.mk (hbox);have n2_:=Aside0.mk ((by rw [hg];exact (below_size (by repeat (first|(with_reducible first|exact HB.out|apply below_alloc|apply pw_below_drewN|apply below_drew1)|exact HB.out))) : w.heap.size ≤ gb101));have n3_:=Aside0.mk ((by rw [hg];exact (below_size (by repeat (first|(with_reducible first|exact HB.out|apply below_alloc|apply pw_below_drewN|apply below_drew1)|exact HB.out))) : w.heap.size ≤ gb101));clear HB;have HB:=n0_;have BK101:=n1_;have GW101:=n2_;have GE101:=n3_;clear n0_ n1_ n2_ n3_;clear hb hbox hg)|((with_reducible refine gate_dst (N:=5) rfl ?_);refine box_event ?hg (N:=5) ?hd (cs:=#[.int .i64 a1_0,.bool a1_1,.int .i64 a1_2]) (t:=25) ?hr ?_;(case hd => rfl);(case hg => rfl);(case hr => first|(go_simp;done)|(go_simp;rfl));intro gb102 hg w48 hbox hb;have n0_:=Aside0.mk (blk_below (g:=gb101) (o:=.cells #[.slice A0_0 l0_0.length c0_0] 61 (0,0)) (by (with_reducible repeat (first|refine blk_drewN ?_ _|refine blk_drew ?_|refine blk_alloc ?_ _));exact BK101.out) hb);have n1_:=Aside0.mk (below_step (by repeat (first|(with_reducible first|exact HB.out|apply below_alloc|apply pw_below_drewN|apply below_drew1|refine below_set ?_ GE101.out)|exact HB.out)) hb);have n2_:=Aside0.mk (hbox);have n3_:=Aside0.mk ((by rw [hg];exact (below_size (by repeat (first|(with_reducible first|exact HB.out|apply below_alloc|apply pw_below_drewN|apply below_drew1|refine below_set ?_ GE101.out)|exact HB.out))) : w.heap.size ≤ gb102));have n4_:=Aside0.mk ((by rw [hg];exact (below_size (by repeat (first|(with_reducible first|exact HB.out|apply below_alloc|apply pw_below_drewN|apply below_drew1|refine below_set ?_ GE101.out)|exact HB.out))) : w.heap.size ≤ gb102));have n5_:=Aside0.mk ((by rw [hg];exact Nat.ne_of_lt (blk_lt (g:=gb101) (o:=.cells #[.slice A0_0 l0_0.length c0_0] 61 (0,0)) (by (with_reducible repeat (first|refine blk_drewN ?_ _|refine blk_drew ?_|refine blk_alloc ?_ _));exact BK101.out)) : gb101 ≠ gb102));have n6_:=Aside0.mk ((by rw [hg];exact Nat.ne_of_gt (blk_lt (g:=gb101) (o:=.cells #[.slice A0_0 l0_0.length c0_0] 61 (0,0)) (by (with_reducible repeat (first|refine blk_drewN ?_ _|refine blk_drew ?_|refine blk_alloc ?_ _));exact BK101.out)) : gb102 ≠ gb101));clear BK101;clear HB;have BK101:=n0_;have HB:=n1_;have BK102:=n2_;have GW102:=n3_;have GE102:=n4_;have NB101_102:=n5_;have NB102_101:=n6_;clear n0_ n1_ n2_ n3_ n4_ n5_ n6_;clear hb hbox hg)|((with_reducible refine gate_dst (N:=6) rfl ?_);refine box_event ?hg (N:=6) ?hd (cs:=#[.int .i64 a2_0,.int .i64 a2_1]) (t:=63) ?hr ?_;(case hd => rfl);(case hg => rfl);(case hr => first|(go_simp;done)|(go_simp;rfl));intro gb103 hg w49 hbox hb;have n0_:=Aside0.mk (blk_below (g:=gb101) (o:=.cells #[.slice A0_0 l0_0.length c0_0] 61 (0,0)) (by (with_reducible repeat (first|refine blk_drewN ?_ _|refine blk_drew ?_|refine blk_alloc ?_ _));exact BK101.out) hb);have n1_:=Aside0.mk (blk_below (g:=gb102) (o:=.cells #[.int .i64 a1_0,.bool a1_1,.int .i64 a1_2] 25 (0,0)) (by (with_reducible repeat (first|refine blk_drewN ?_ _|refine blk_drew ?_|refine blk_alloc ?_ _));exact BK102.out) hb);have n2_:=Aside0.mk (below_step (by repeat (first|(with_reducible first|exact HB.out|apply below_alloc|apply pw_below_drewN|apply below_drew1|refine below_set ?_ GE101.out|refine below_set ?_ GE102.out)|exact HB.out)) hb);have n3_:=Aside0.mk (hbox);have n4_:=Aside0.mk ((by rw [hg];exact (below_size (by repeat (first|(with_reducible first|exact HB.out|apply below_alloc|apply pw_below_drewN|apply below_drew1|refine below_set ?_ GE101.out|refine below_set ?_ GE102.out)|exact HB.out))) : w.heap.size ≤ gb103));have n5_:=Aside0.mk ((by rw [hg];exact (below_size (by repeat (first|(with_reducible first|exact HB.out|apply below_alloc|apply pw_below_drewN|apply below_drew1|refine below_set ?_ GE101.out|refine below_set ?_ GE102.out)|exact HB.out))) : w.heap.size ≤ gb103));have n6_:=Aside0.mk ((by rw [hg];exact Nat.ne_of_lt (blk_lt (g:=gb101) (o:=.cells #[.slice A0_0 l0_0.length c0_0] 61 (0,0)) (by (with_reducible repeat (first|refine blk_drewN ?_ _|refine blk_drew ?_|refine blk_alloc ?_ _));exact BK101.out)) : gb101 ≠ gb103));have n7_:=Aside0.mk ((by rw [hg];exact Nat.ne_of_gt (blk_lt (g:=gb101) (o:=.cells #[.slice A0_0 l0_0.length c0_0] 61 (0,0)) (by (with_reducible repeat (first|refine blk_drewN ?_ _|refine blk_drew ?_|refine blk_alloc ?_ _));exact BK101.out)) : gb103 ≠ gb101));have n8_:=Aside0.mk ((by rw [hg];exact Nat.ne_of_lt (blk_lt (g:=gb102) (o:=.cells #[.int .i64 a1_0,.bool a1_1,.int .i64 a1_2] 25 (0,0)) (by (with_reducible repeat (first|refine blk_drewN ?_ _|refine blk_drew ?_|refine blk_alloc ?_ _));exact BK102.out)) : gb102 ≠ gb103));have n9_:=Aside0.mk ((by rw [hg];exact Nat.ne_of_gt (blk_lt (g:=gb102) (o:=.cells #[.int .i64 a1_0,.bool a1_1,.int .i64 a1_2] 25 (0,0)) (by (with_reducible repeat (first|refine blk_drewN ?_ _|refine blk_drew ?_|refine blk_alloc ?_ _));exact BK102.out)) : gb103 ≠ gb102));clear BK101;clear BK102;clear HB;have BK101:=n0_;have BK102:=n1_;have HB:=n2_;have BK103:=n3_;have GW103:=n4_;have GE103:=n5_;have NB101_103:=n6_;have NB103_101:=n7_;have NB102_103:=n8_;have NB103_102:=n9_;clear n0_ n1_ n2_ n3_ n4_ n5_ n6_ n7_ n8_ n9_;clear hb hbox hg)|((with_reducible refine gate_dst (N:=8) rfl ?_);refine box_event ?hg (N:=8) ?hd (cs:=#[.int .i64 0,.int .i64 0,.int .i64 0]) (t:=69) ?hr ?_;(case hd => rfl);(case hg => rfl);(case hr => first|(go_simp;done)|(go_simp;rfl));intro gb104 hg w50 hbox hb;have n0_:=Aside0.mk (blk_below (g:=gb101) (o:=.cells #[.slice A0_0 l0_0.length c0_0] 61 (0,0)) (by (with_reducible repeat (first|refine blk_drewN ?_ _|refine blk_drew ?_|refine blk_alloc ?_ _));exact BK101.out) hb);have n1_:=Aside0.mk (blk_below (g:=gb102) (o:=.cells #[.int .i64 a1_0,.bool a1_1,.int .i64 a1_2] 25 (0,0)) (by (with_reducible repeat (first|refine blk_drewN ?_ _|refine blk_drew ?_|refine blk_alloc ?_ _));exact BK102.out) hb);have n2_:=Aside0.mk (blk_below (g:=gb103) (o:=.cells #[.int .i64 a2_0,.int .i64 a2_1] 63 (0,0)) (by (with_reducible repeat (first|refine blk_drewN ?_ _|refine blk_drew ?_|refine blk_alloc ?_ _));exact BK103.out) hb);have n3_:=Aside0.mk (below_step (by repeat (first|(with_reducible first|exact HB.out|apply below_alloc|apply pw_below_drewN|apply below_drew1|refine below_set ?_ GE101.out|refine below_set ?_ GE102.out|refine below_set ?_ GE103.out)|exact HB.out)) hb);have n4_:=Aside0.mk (hbox);have n5_:=Aside0.mk ((by rw [hg];exact (below_size (by repeat (first|(with_reducible first|exact HB.out|apply below_alloc|apply pw_below_drewN|apply below_drew1|refine below_set ?_ GE101.out|refine below_set ?_ GE102.out|refine below_set ?_ GE103.out)|exact HB.out))) : w.heap.size ≤ gb104));have n6_:=Aside0.mk ((by rw [hg];exact (below_size (by repeat (first|(with_reducible first|exact HB.out|apply below_alloc|apply pw_below_drewN|apply below_drew1|refine below_set ?_ GE101.out|refine below_set ?_ GE102.out|refine below_set ?_ GE103.out)|exact HB.out))) : w.heap.size ≤ gb104));have n7_:=Aside0.mk ((by rw [hg];exact Nat.ne_of_lt (blk_lt (g:=gb101) (o:=.cells #[.slice A0_0 l0_0.length c0_0] 61 (0,0)) (by (with_reducible repeat (first|refine blk_drewN ?_ _|refine blk_drew ?_|refine blk_alloc ?_ _));exact BK101.out)) : gb101 ≠ gb104));have n8_:=Aside0.mk ((by rw [hg];exact Nat.ne_of_gt (blk_lt (g:=gb101) (o:=.cells #[.slice A0_0 l0_0.length c0_0] 61 (0,0)) (by (with_reducible repeat (first|refine blk_drewN ?_ _|refine blk_drew ?_|refine blk_alloc ?_ _));exact BK101.out)) : gb104 ≠ gb101));have n9_:=Aside0.mk ((by rw [hg];exact Nat.ne_of_lt (blk_lt (g:=gb102) (o:=.cells #[.int .i64 a1_0,.bool a1_1,.int .i64 a1_2] 25 (0,0)) (by (with_reducible repeat (first|refine blk_drewN ?_ _|refine blk_drew ?_|refine blk_alloc ?_ _));exact BK102.out)) : gb102 ≠ gb104));have n10_:=Aside0.mk ((by rw [hg];exact Nat.ne_of_gt (blk_lt (g:=gb102) (o:=.cells #[.int .i64 a1_0,.bool a1_1,.int .i64 a1_2] 25 (0,0)) (by (with_reducible repeat (first|refine blk_drewN ?_ _|refine blk_drew ?_|refine blk_alloc ?_ _));exact BK102.out)) : gb104 ≠ gb102));have n11_:=Aside0.mk ((by rw [hg];exact Nat.ne_of_lt (blk_lt (g:=gb103) (o:=.cells #[.int .i64 a2_0,.int .i64 a2_1] 63 (0,0)) (by (with_reducible repeat (first|refine blk_drewN ?_ _|refine blk_drew ?_|refine blk_alloc ?_ _));exact BK103.out)) : gb103 ≠ gb104));have n12_:=Aside0.mk ((by rw [hg];exact Nat.ne_of_gt (blk_lt (g:=gb103) (o:=.cells #[.int .i64 a2_0,.int .i64 a2_1] 63 (0,0)) (by (with_reducible repeat (first|refine blk_drewN ?_ _|refine blk_drew ?_|refine blk_alloc ?_ _));exact BK103.out)) : gb104 ≠ gb103));clear BK101;clear BK102;clear BK103;clear HB;have BK101:=n0_;have BK102:=n1_;have BK103:=n2_;have HB:=n3_;have BK104:=n4_;have GW104:=n5_;have GE104:=n6_;have NB101_104:=n7_;have NB104_101:=n8_;have NB102_104:=n9_;have NB104_102:=n10_;have NB103_104:=n11_;have NB104_103:=n12_;clear n0_ n1_ n2_ n3_ n4_ n5_ n6_ n7_ n8_ n9_ n10_ n11_ n12_;clear hb hbox hg;have hnb51:=NB101_102.out;have hnc51:=NB102_101.out;have hnb52:=NB101_103.out;have hnc52:=NB103_101.out;have hnb53:=NB101_104.out;have hnc53:=NB104_101.out;have hcz54_0 : w50.cell? ⟨gb101,0,none⟩ = some (.slice A0_0 l0_0.length c0_0):=(blk_cell BK101.out 0).trans rfl;have hfz54_0:=blk_frozen BK101.out 0;have hnb55:=NB102_103.out;have hnc55:=NB103_102.out;have hnb56:=NB102_104.out;have hnc56:=NB104_102.out;have hcz57_0 : w50.cell? ⟨gb102,0,none⟩ = some (.int .i64 a1_0):=(blk_cell BK102.out 0).trans rfl;have hcz57_1 : w50.cell? ⟨gb102,1,none⟩ = some (.bool a1_1):=(blk_cell BK102.out 1).trans rfl;have hcz57_2 : w50.cell? ⟨gb102,2,none⟩ = some (.int .i64 a1_2):=(blk_cell BK102.out 2).trans rfl;have hfz57_0:=blk_frozen BK102.out 0;have hfz57_1:=blk_frozen BK102.out 1;have hfz57_2:=blk_frozen BK102.out 2;have hnb58:=NB103_104.out;have hnc58:=NB104_103.out;have hcz59_0 : w50.cell? ⟨gb103,0,none⟩ = some (.int .i64 a2_0):=(blk_cell BK103.out 0).trans rfl;have hcz59_1 : w50.cell? ⟨gb103,1,none⟩ = some (.int .i64 a2_1):=(blk_cell BK103.out 1).trans rfl;have hfz59_0:=blk_frozen BK103.out 0;have hfz59_1:=blk_frozen BK103.out 1)|((with_reducible refine gate_callee (f:=42) rfl ?_);refine goesL_ (some 13) rfl rfl Try.func42 (by kernel_rfl) rfl #[.agg #[.slice A0_0 l0_0.length c0_0],.agg #[.int .i64 a1_0,.bool a1_1,.int .i64 a1_2],.agg #[.int .i64 a2_0,.int .i64 a2_1]] rfl (by (try simp only [List.map_toArray,List.map_cons,List.map_nil]);first|done|rfl|(simp only [List.length_drop,List.length_take];rfl)) ?_;(with_reducible refine (impl_SpotFault.calls k _ _ l0_0 a1_0 a1_1 a1_2 a2_0 a2_1 t105 _ ?side1 ?side2 A5.out).mono ?_);(case side1 => repeat (first|exact (Kd.C_below HR0_0.out HB.out)|(with_reducible refine Kd.C_alloc ?_ _)|(with_reducible refine Kd.C_drewN ?_ _)|(with_reducible refine Kd.C_drew ?_)));(case side2 => exact HC0_0.out);rintro e w60 ⟨rfl,hb⟩;refine ⟨_,rfl,?_⟩;have n0_:=Aside0.mk (blk_below (g:=gb101) (o:=.cells #[.slice A0_0 l0_0.length c0_0] 61 (0,0)) (by (with_reducible repeat (first|refine blk_drewN ?_ _|refine blk_drew ?_|refine blk_alloc ?_ _));exact BK101.out) hb);have n1_:=Aside0.mk (blk_below (g:=gb102) (o:=.cells #[.int .i64 a1_0,.bool a1_1,.int .i64 a1_2] 25 (0,0)) (by (with_reducible repeat (first|refine blk_drewN ?_ _|refine blk_drew ?_|refine blk_alloc ?_ _));exact BK102.out) hb);have n2_:=Aside0.mk (blk_below (g:=gb103) (o:=.cells #[.int .i64 a2_0,.int .i64 a2_1] 63 (0,0)) (by (with_reducible repeat (first|refine blk_drewN ?_ _|refine blk_drew ?_|refine blk_alloc ?_ _));exact BK103.out) hb);have n3_:=Aside0.mk (blk_below (g:=gb104) (o:=.cells #[.int .i64 0,.int .i64 0,.int .i64 0] 69 (0,0)) (by (with_reducible repeat (first|refine blk_drewN ?_ _|refine blk_drew ?_|refine blk_alloc ?_ _));exact BK104.out) hb);have n4_:=Aside0.mk (below_step (by repeat (first|(with_reducible first|exact HB.out|apply below_alloc|apply pw_below_drewN|apply below_drew1|refine below_set ?_ GE101.out|refine below_set ?_ GE102.out|refine below_set ?_ GE103.out|refine below_set ?_ GE104.out)|exact HB.out)) hb);clear BK101;clear BK102;clear BK103;clear BK104;clear HB;have BK101:=n0_;have BK102:=n1_;have BK103:=n2_;have BK104:=n3_;have HB:=n4_;clear n0_ n1_ n2_ n3_ n4_;(try clear hb);(try clear hb2);(try clear hk);(try clear hi);have hcz61_0 : w60.cell? ⟨gb104,0,none⟩ = some (.int .i64 0):=(blk_cell BK104.out 0).trans rfl;have hcz61_1 : w60.cell? ⟨gb104,1,none⟩ = some (.int .i64 0):=(blk_cell BK104.out 1).trans rfl;have hcz61_2 : w60.cell? ⟨gb104,2,none⟩ = some (.int .i64 0):=(blk_cell BK104.out 2).trans rfl;have hfz61_0:=blk_frozen BK104.out 0;have hfz61_1:=blk_frozen BK104.out 1;have hfz61_2:=blk_frozen BK104.out 2))
   refine bodyPost_ret (results_cell_row rfl _ _ gb104 69 #[.int .i64 t105,.int .i64 0,.int .i64 0] (0,0) _ rfl (by (with_reducible repeat (first|refine blk_drewN ?_ _|refine blk_drew ?_|refine blk_alloc ?_ _));refine blk_put (cs:=#[.int .i64 t105,.int .i64 0,.int .i64 0]) ?_ 2 _ rfl;(with_reducible repeat (first|refine blk_drewN ?_ _|refine blk_drew ?_|refine blk_alloc ?_ _));refine blk_put (cs:=#[.int .i64 t105,.int .i64 0,.int .i64 0]) ?_ 1 _ rfl;(with_reducible repeat (first|refine blk_drewN ?_ _|refine blk_drew ?_|refine blk_alloc ?_ _));refine blk_put (cs:=#[.int .i64 0,.int .i64 0,.int .i64 0]) ?_ 0 _ rfl;(with_reducible repeat (first|refine blk_drewN ?_ _|refine blk_drew ?_|refine blk_alloc ?_ _));exact BK104.out) Try.underlying69 rfl (by kernel_rfl)) rfl ?_
   exact ⟨by first|rfl|(simp [errW_none,errW_some] <;> rfl)|(simp [*,errW_none,errW_some] <;> rfl),by repeat (first|(with_reducible first|exact HB.out|apply below_alloc|apply pw_below_drewN|apply below_drew1|refine below_set ?_ GE101.out|refine below_set ?_ GE102.out|refine below_set ?_ GE103.out|refine below_set ?_ GE104.out)|exact HB.out)⟩
end Go.Proofs.Ytcinaflmpdmdaaa.Q
end
section
namespace Go.Proofs.Ytcinaflmpdmdaaa.M
open Go.RowKit Go.Proofs.Ytcinaflmpdmdaaa.Q Go.Proofs.YtcinaflmpdmdaaaW.PrintWords Go.Proofs.YtcinaflmpdmdaaaW.PrintLast Go.Proofs.YtcinaflmpdmdaaaW.PrintMore Go.Proofs.Ytcinaflmpdmdaaa.L
theorem spotIn_eq {cs : List Int} (h : ∀ x ∈ cs, 1 ≤ x ∧ x ≤ 1073741824) (hl : cs.length ≤ 1073741824) (a b : Int) : spec_l10SpotIn.f cs a b = some (spotInF cs a b) := by
  have hr := rd_bd h a
  unfold spec_l10SpotIn.f spotInF
  by_cases h0 : cs.length = 0
  · rw [if_pos (by omega), if_pos h0]
    by_cases ha : a = 0 <;> by_cases hb : b = 0 <;> simp [ha, hb]
  · rw [if_neg (by omega), if_neg h0, w64 (by omega) (by omega)]
    simp only [l1In_eq, Option.bind_some]
    by_cases h1 : 0 ≤ a ∧ a < (cs.length : Int)
    · rw [if_pos (decide_eq_true (by omega)), if_pos h1.1, if_pos h1.2, w64 (by omega) (by omega)]
      by_cases h2 : 0 ≤ b ∧ b < rd cs a
      · rw [if_pos (decide_eq_true (by omega)), if_pos ⟨h1, h2⟩]
      · rw [if_neg (by simp; omega), if_neg (fun q => h2 q.2)]
    · rw [if_neg (by simp; omega), if_neg (fun q => h1 q.1)]
theorem l10SpotIn_c (A : Option Addr) (c : Nat) (cs : List Int) (a b q : Int) (w : World) (hx : Kd.C (Kd.int .i64) w A cs.length cs) (hc : cs.length ≤ c) (hq : spec_l10SpotIn.f cs a b = some q)
    (R : Ending → World → Prop) (h : ∀ w', Below w.heap.size w w' → R (.returned (.int .i64 q)) w') :
    Calls Try.prog 110 #[.slice A cs.length c, .agg #[.int .i64 a, .int .i64 b]] w R := by
  refine (spec_l10SpotIn.calls A c cs a b q w hx hc hq).mono ?_
  rintro e w' ⟨rfl, hb⟩
  exact h w' hb
set_option maxRecDepth 20000 in
set_option maxHeartbeats 2000000 in
theorem l10Spot_c (gf gl : Nat) (A : Option Addr) (n c : Nat) (l : List Int) (wd : Int) (ch : Bool) (sh a b : Int) (w : World) (hp : w.cell? ⟨gf, 0, none⟩ = some (.slice A n c)) (hI : w.heap[gl]? = some (.cells #[.int .i64 wd, .bool ch, .int .i64 sh] 25 (0, 0))) (hn : l.length = n) (hx : Row eU 1 w A l) (hc : n ≤ c) (ho : lineOk l = true) (hgl : gl < w.heap.size) (hgf : gf < w.heap.size) (q : Int) (hq : spotF l wd ch sh a b = q)
    (R : Ending → World → Prop) (h : ∀ w', Below w.heap.size w w' → R (.returned (.int .i64 q)) w') :
    Calls Try.prog 78 #[.pointer (some ⟨gf, 0, none⟩), .pointer (some ⟨gl, 0, none⟩), .agg #[.int .i64 a, .int .i64 b]] w R := by
  have H := Lib.hid h
  have HX := Lib.hid hx
  have HN := Lib.hid hn
  have HO := Lib.hid ho
  have hm : n ≤ 1048576 := by rw [← hn]; exact lineOk_len ho
  obtain ⟨q0, hq0⟩ : ∃ q0, baseF n wd ch sh = q0 := ⟨_, rfl⟩
  obtain ⟨W, hW⟩ : ∃ W, W = w.alloc (Obj.cells #[.int .i64 a, .int .i64 b] 63) := ⟨_, rfl⟩
  obtain ⟨b1, f1, hz1, G0⟩ := box1 _ _ _ W hW
  have HW := Lib.hid hW
  have hp0 := cell_below G0 hp
  have hI0 := (G0.block gl hgl).trans hI
  have hgl0 : gl < W.heap.size := by omega
  unfold spotF at hq
  rw [hn, hq0] at hq
  clear h hx hn ho hW f1 hp hI
  by_cases hz : q0 = 0
  · subst hz
    rw [if_pos rfl] at hq
    obtain ⟨h400, hlay⟩ := baseF_zero hq0
    obtain ⟨w1', w2', _, _, _⟩ := layF_zero hlay
    have HQ := Lib.hid hq
    have HL := Lib.hid hlay
    have HQ0 := Lib.hid hq0
    clear hq hlay hq0
    (change Calls _ _ _ _ (Fin R); go_enter Try.func78, Try.ntmps78)
    go_wp2_with (fail)
    rw [← HW.out]
    refine l10Base_c gf gl A n c wd ch sh _ hp0 hI0 hgl0 hm 0 HQ0.out _ ?_
    intro w1 hb1
    have hp1 := cell_below hb1 hp0
    have hI1 := (hb1.block gl hgl0).trans hI0
    have hgl1 : gl < w1.heap.size := Nat.lt_of_lt_of_le hgl0 hb1.size
    have b2 := blk_keep b1 (by omega) hb1
    have hz2 : w.heap.size < w1.heap.size := by have := hb1.size; omega
    have hG1 := G0.trans (hb1.mono G0.size)
    clear b1 hb1 hp0 hI0
    have hx1 := Lib.hid (HX.out.below hG1)
    have hcl := cntL_len l wd ch
    rw [HN.out] at hcl
    have hF := spotIn_eq (cntL_in (l := l) (by rw [HN.out]; exact hm) ch w1') (by omega) a b
    rw [HQ.out] at hF
    have HF := Lib.hid hF
    have hp1' : w1.drew.cell? ⟨gf, 0, none⟩ = some (.slice A n c) := hp1
    have hI1' : w1.drew.heap[gl]? = some (.cells #[.int .i64 wd, .bool ch, .int .i64 sh] 25 (0, 0)) := hI1
    have hx1' := Lib.hid (show Row eU 1 w1.drew A l from hx1.out.keeps (keeps_refl w1))
    clear hF hp1 hI1
    go_wp2_with (fail)
    go_region_with (first | (go_at_call 86; refine l10Counts_c gf gl A n c l wd ch sh _ hp1' hI1' HN.out hx1'.out hc HO.out w1' w2' hgl1 _ ?_; intro A2 c2 w2 ho2 hc2 hm2 hb2; have hG2 := hG1.trans ((below_drew hb2).mono hG1.size); have b3 := blk_keep b2 hz2 (below_drew hb2); have HR2 := Lib.hid (show Kd.C (Kd.int .i64) w2 A2 (cntL l wd ch).length (cntL l wd ch) from C_ints (by omega) ho2.rowOf); clear ho2 hb2) | (go_at_call 110; refine l10SpotIn_c A2 c2 (cntL l wd ch) a b q _ HR2.out hc2 HF.out _ ?_; intro w3 hb3; have hG3 := hG2.trans (hb3.mono hG2.size)))
    all_goals go_wp2
    all_goals go_ret
    all_goals exact H.out _ hG3
  · rw [if_neg hz] at hq
    subst hq
    have hz1 : (q0 != 0) = true := by simpa using hz
    have hz2 : (q0 == 0) = false := by simpa using hz
    have HQ0 := Lib.hid hq0
    clear hq0
    (change Calls _ _ _ _ (Fin R); go_enter Try.func78, Try.ntmps78)
    go_wp2_with (fail)
    rw [← HW.out]
    refine l10Base_c gf gl A n c wd ch sh _ hp0 hI0 hgl0 hm q0 HQ0.out _ ?_
    intro w1 hb1
    go_wp2_with (fail)
    go_ret
    exact H.out _ (G0.trans (hb1.mono G0.size))
end Go.Proofs.Ytcinaflmpdmdaaa.M
end
section
namespace Go.Proofs.Ytcinaflmpdmdaaa.Q
open Go.RowKit Go.Proofs.YtcinaflmpdmdaaaW.PrintWords Go.Proofs.YtcinaflmpdmdaaaW.PrintLast Go.Proofs.YtcinaflmpdmdaaaW.PrintMore
attribute [local go_sem] max2_int min2_int max_two min_two max_three min_three max_four min_four   -- for this text's walks alone
set_option linter.unusedVariables false
set_option linter.unusedSimpArgs false
/-! ### spec_MoveSpot: function 48 -/
def spec_MoveSpot.f (k : Nat) (l0_0 : List Int) (a1_0 : Int) (a1_1 : Bool) (a1_2 : Int) (a2_0 a2_1 a3 : Int) : Option (Int × Int × Int):=if M.lineOk l0_0 = true then (if M.spotF l0_0 a1_0 a1_1 a1_2 a2_0 a2_1 = 0 then (if -9999 ≤ a3 ∧ a3 ≤ 9999 then (spec_l10Move.f k (M.cntL l0_0 a1_0 a1_1) a2_0 a2_1 a3).bind fun t => some (0,t.1,t.2) else some (3,0,0)) else some (M.spotF l0_0 a1_0 a1_1 a1_2 a2_0 a2_1,0,0)) else none
theorem spec_MoveSpot.mono : ∀ a0 a1 a2 a3 a4 a5 a6 k,LeO (spec_MoveSpot.f k a0 a1 a2 a3 a4 a5 a6) (spec_MoveSpot.f (k + 1) a0 a1 a2 a3 a4 a5 a6):=fun a0 a1 a2 a3 a4 a5 a6 k => by
 unfold spec_MoveSpot.f
 exact LeO.ite (LeO.ite (LeO.ite (LeO.bind (spec_l10Move.mono _ _ _ _ k) (fun _ => LeO.refl _)) (LeO.refl _)) (LeO.refl _)) (LeO.refl _)
set_option maxRecDepth 20000 in
set_option maxHeartbeats 4000000 in
theorem spec_MoveSpot.calls (k : Nat) (A0_0 : Option Addr) (c0_0 : Nat) (l0_0 : List Int) (a1_0 : Int) (a1_1 : Bool) (a1_2 : Int) (a2_0 a2_1 a3 : Int) (r1 r2 r3 : Int) (w : World) (hr0_0 : Kd.C (Kd.int .u8) w A0_0 l0_0.length l0_0) (hc0_0 : l0_0.length ≤ c0_0) (h : spec_MoveSpot.f k l0_0 a1_0 a1_1 a1_2 a2_0 a2_1 a3 = some (r1,r2,r3)) :
 Calls Try.prog 48 #[.agg #[.slice A0_0 l0_0.length c0_0],.agg #[.int .i64 a1_0,.bool a1_1,.int .i64 a1_2],.agg #[.int .i64 a2_0,.int .i64 a2_1],.int .i64 a3] w fun e w' => e = .returned (.agg #[.int .i64 r1,.int .i64 r2,.int .i64 r3]) ∧ Below w.heap.size w w':=by
 unfold spec_MoveSpot.f at h
 by_cases hok : M.lineOk l0_0 = true
 case neg => rw [if_neg hok] at h;cases h
 rw [if_pos hok] at h
 have HX:=Aside0.mk (M.row_ints hr0_0)
 have HOK:=Aside0.mk hok
 have hm:=M.lineOk_len hok
 obtain ⟨n,hn⟩ : ∃ n,l0_0.length = n:=⟨_,rfl⟩
 rw [hn] at hm hc0_0 ⊢
 have HN:=Aside0.mk hn
 clear hok hr0_0 hn
 obtain ⟨V,hV⟩ : ∃ V,V = ((w.alloc (.cells #[.slice A0_0 n c0_0] 61)).alloc (.cells #[.int .i64 a1_0,.bool a1_1,.int .i64 a1_2] 25)).alloc (.cells #[.int .i64 a2_0,.int .i64 a2_1] 63):=⟨_,rfl⟩
 obtain ⟨W,hW⟩ : ∃ W,W = V.alloc (.cells #[.int .i64 0,.int .i64 0,.int .i64 0] 69):=⟨_,rfl⟩
 obtain ⟨c1,c2',c3,g1,g2,g3,hzv,G1⟩:=M.box3 _ _ _ _ _ _ _ V hV
 obtain ⟨b3,f3,hz,G2⟩:=M.box1 _ _ _ W hW
 have G0:=G1.trans (G2.mono G1.size)
 have hIV : V.heap[w.heap.size + 1]? = some (.cells #[.int .i64 a1_0,.bool a1_1,.int .i64 a1_2] 25 (0,0)):=by
  subst hV
  have:=heap_alloc_new (w.alloc (.cells #[.slice A0_0 n c0_0] 61)) (.cells #[.int .i64 a1_0,.bool a1_1,.int .i64 a1_2] 25)
  rw [heap_alloc_old _ _ (by simp)]
  simpa using this
 have hI:=(G2.block (w.heap.size + 1) (by omega)).trans hIV
 have hW' : W = (((w.alloc (.cells #[.slice A0_0 n c0_0] 61)).alloc (.cells #[.int .i64 a1_0,.bool a1_1,.int .i64 a1_2] 25)).alloc (.cells #[.int .i64 a2_0,.int .i64 a2_1] 63)).alloc (.cells #[.int .i64 0,.int .i64 0,.int .i64 0] 69):=by rw [hW,hV]
 have b2:=M.blk_keep c3 (by omega) G2
 have HW:=Aside0.mk hW'
 have HI:=Aside0.mk hI
 have hp : W.cell? ⟨w.heap.size,0,none⟩ = some (.slice A0_0 n c0_0):=M.cell_below G2 (c1 0)
 have HX2:=Aside0.mk (HX.out.below G0)
 rw [hzv] at b3 f3 hz
 clear hW hI hV hW' hIV c1 c2' c3 g1 g2 g3 G1 G2
 obtain ⟨q0,hq0⟩ : ∃ q0,M.spotF l0_0 a1_0 a1_1 a1_2 a2_0 a2_1 = q0:=⟨_,rfl⟩
 rw [hq0] at h
 have HQ0:=Aside0.mk hq0
 clear hq0
 by_cases hz0 : q0 = 0
 case neg =>
  rw [if_neg hz0] at h
  simp only [Option.some.injEq,Prod.mk.injEq] at h
  obtain ⟨rfl,rfl,rfl⟩:=h
  have hz1 : (q0 != 0) = true:=by simpa using hz0
  have hz2 : (q0 == 0) = false:=by simpa using hz0
  go_enter Try.func48,Try.ntmps48
  go_wp2_with (fail)
  rw [← HW.out]
  refine M.l10Spot_c w.heap.size (w.heap.size + 1) A0_0 n c0_0 l0_0 a1_0 a1_1 a1_2 a2_0 a2_1 W hp HI.out HN.out HX2.out hc0_0 HOK.out (by omega) (by omega) q0 HQ0.out _ ?_
  intro w1 hb1
  have b4:=M.blk_keep b3 (by omega) hb1
  have f4:=M.frz_keep f3 (by omega) hb1
  have hlt : w.heap.size + 3 < w1.heap.size:=by have:=hb1.size;omega
  have hG:=G0.trans (hb1.mono G0.size)
  clear b3 f3 hb1
  go_wp2_with (fail)
  refine bodyPost_ret (by simp [results,Try.results48,go_sem,b4,f4];try rfl) rfl ?_
  refine ⟨rfl,?_⟩
  repeat (first|exact hG|apply below_alloc|apply pw_below_drewN|apply below_drew1|refine below_set ?_ (by omega))
 subst hz0
 rw [if_pos rfl] at h
 obtain ⟨_,hlay⟩:=M.baseF_zero (M.spotF_base HQ0.out)
 obtain ⟨w1',w2',_,_,_⟩:=layF_zero hlay
 clear hlay
 by_cases hh : -9999 ≤ a3 ∧ a3 ≤ 9999
 case neg =>
  rw [if_neg hh] at h
  simp only [Option.some.injEq,Prod.mk.injEq] at h
  obtain ⟨rfl,rfl,rfl⟩:=h
  have HH : Aside0 (spec_l1In.f a3 (-9999) 9999 = some false):=⟨by rw [l1In_eq,decide_eq_false hh]⟩
  go_enter Try.func48,Try.ntmps48
  go_wp2_with (fail)
  rw [← HW.out]
  refine M.l10Spot_c w.heap.size (w.heap.size + 1) A0_0 n c0_0 l0_0 a1_0 a1_1 a1_2 a2_0 a2_1 W hp HI.out HN.out HX2.out hc0_0 HOK.out (by omega) (by omega) 0 HQ0.out _ ?_
  intro w1 hb1
  have b4:=M.blk_keep b3 (by omega) hb1
  have f4:=M.frz_keep f3 (by omega) hb1
  have hlt : w.heap.size + 3 < w1.heap.size:=by have:=hb1.size;omega
  have hG:=G0.trans (hb1.mono G0.size)
  clear b3 f3 hb1
  go_wp2_with (first|(go_at_call 82;refine (spec_l1In.calls a3 (-9999) 9999 false _ HH.out).mono ?_;rintro e w' ⟨rfl,⟨nd,rfl⟩⟩))
  refine bodyPost_ret (by simp [results,Try.results48,go_sem,b4,f4];try rfl) rfl ?_
  refine ⟨rfl,?_⟩
  repeat (first|exact hG|apply below_alloc|apply pw_below_drewN|apply below_drew1|refine below_set ?_ (by omega))
 rw [if_pos hh] at h
 have HH : Aside0 (spec_l1In.f a3 (-9999) 9999 = some true):=⟨by rw [l1In_eq,decide_eq_true hh]⟩
 obtain ⟨⟨t1,t2⟩,h3,h4⟩:=Option.bind_eq_some_iff.mp h
 simp only [Option.some.injEq,Prod.mk.injEq] at h4
 obtain ⟨rfl,rfl,rfl⟩:=h4
 have H3:=Aside0.mk h3
 clear h h3 hh
 go_enter Try.func48,Try.ntmps48
 go_wp2_with (fail)
 rw [← HW.out]
 refine M.l10Spot_c w.heap.size (w.heap.size + 1) A0_0 n c0_0 l0_0 a1_0 a1_1 a1_2 a2_0 a2_1 W hp HI.out HN.out HX2.out hc0_0 HOK.out (by omega) (by omega) 0 HQ0.out _ ?_
 intro w1 hb1
 have b4:=M.blk_keep b3 (by omega) hb1
 have f4:=M.frz_keep f3 (by omega) hb1
 have hlt : w.heap.size + 3 < w1.heap.size:=by have:=hb1.size;omega
 have hG:=G0.trans (hb1.mono G0.size)
 have hp1:=M.cell_below hb1 hp
 have HI1:=Aside0.mk ((hb1.block (w.heap.size + 1) (by omega)).trans HI.out)
 have HX3:=Aside0.mk (HX2.out.below hb1)
 have b5:=M.blk_keep b2 (by omega) hb1
 clear b3 f3 hb1 hp b2
 go_wp2_with (first|(go_at_call 82;refine (spec_l1In.calls a3 (-9999) 9999 true _ HH.out).mono ?_;rintro e w' ⟨rfl,⟨nd,rfl⟩⟩))
 obtain ⟨w2,hw2⟩ : ∃ w2,w2 = w1.drewN nd:=⟨_,rfl⟩
 rw [← hw2]
 have hb2 : Below w1.heap.size w1 w2:=by rw [hw2];exact M.bdN (Below.refl _ _) nd
 have y_0 : w2.drew.cell? ⟨w.heap.size + 1 + 1,0,none⟩ = some (.int .i64 a2_0):=M.blk_keep b5 (by omega) hb2 0
 have y_1 : w2.drew.cell? ⟨w.heap.size + 1 + 1,1,none⟩ = some (.int .i64 a2_1):=M.blk_keep b5 (by omega) hb2 1
 have hp2 : w2.drew.cell? ⟨w.heap.size,0,none⟩ = some (.slice A0_0 n c0_0):=(show w2.cell? ⟨w.heap.size,0,none⟩ = some (.slice A0_0 n c0_0) from M.cell_below hb2 hp1)
 have hi2 : w2.drew.heap[w.heap.size + 1]? = some (.cells #[.int .i64 a1_0,.bool a1_1,.int .i64 a1_2] 25 (0,0)):=(show w2.heap[w.heap.size + 1]? = _ from (hb2.block (w.heap.size + 1) (by omega)).trans HI1.out)
 have hx2:=Aside0.mk (show M.Row M.eU 1 w2.drew A0_0 l0_0 from M.Row.keeps (M.Row.below HX3.out hb2) (M.keeps_refl w2))
 have hlt2 : w.heap.size + 3 < w2.heap.size:=by have:=hb2.size;omega
 have hl2 : w.heap.size + 1 < w2.drew.heap.size:=by show w.heap.size + 1 < w2.heap.size;omega
 have bb2:=M.blk_keep b4 hlt hb2
 have ff2:=M.frz_keep f4 hlt hb2
 have hG2:=hG.trans (hb2.mono hG.size)
 clear hw2 hb2 b4 f4 b5 hG
 refine start_ (n:=6) (S:=fun w' => w'.cell? ⟨w.heap.size + 1 + 1,0,none⟩ = some (.int .i64 a2_0) ∧ w'.cell? ⟨w.heap.size + 1 + 1,1,none⟩ = some (.int .i64 a2_1)) (ds:=[5]) #[false,false,false,false,false,false] (by kernel_rfl) rfl rfl ⟨y_0,y_1⟩ (fun hHeld => ?_)
 refine pure_ (i:=2) (N:=some 22) (v:=?_) (a':=?_) #[false,false,true,false,false,false] rfl rfl (by kernel_rfl) (fun _ _ _ h => h) (Or.inl ⟨by rfl,?_⟩) ?_ ?_
 rotate_left
 · intro w'
   go_simp
   with_reducible rfl
 rotate_left
 · simp only [Act.put,List.setIfInBounds_toArray,List.set_cons_zero,List.set_cons_succ,i64_w,i32_w]
   rfl
 refine take_ (i:=1) (N:=some 21) (v:=?_) (a':=?_) #[false,true,true,false,false,false] rfl rfl (by kernel_rfl) (fun _ _ _ h => h) (Or.inl ⟨by rfl,?_⟩) hHeld ?_ ?_
 rotate_left
 · rintro w' ⟨s0,s1⟩
   go_simp
   with_reducible rfl
 rotate_left
 · simp only [Act.put,List.setIfInBounds_toArray,List.set_cons_zero,List.set_cons_succ,i64_w,i32_w]
   rfl
 refine one_ (i:=0) (N:=some 20) #[true,true,true,false,false,false] rfl rfl (by kernel_rfl) (by decide) (fun K hK => ?_)
 refine goes_ Try.func86 (by kernel_rfl) rfl #[.pointer (some ⟨w.heap.size,0,none⟩),.pointer (some ⟨w.heap.size + 1,0,none⟩)] (by rfl) rfl rfl (by simp only [List.map_toArray,List.map_cons,List.map_nil];rfl) ?_
 refine M.l10Counts_c w.heap.size (w.heap.size + 1) A0_0 n c0_0 l0_0 a1_0 a1_1 a1_2 _ hp2 hi2 HN.out hx2.out hc0_0 HOK.out w1' w2' hl2 _ ?_
 intro A2 c2 w3 ho2 hc2 hm2 hb3
 refine ⟨_,rfl,?_⟩
 have hG3:=hG2.trans ((M.below_drew hb3).mono hG2.size)
 have HC:=Aside0.mk (show Kd.C (Kd.int .i64) w3 A2 (M.cntL l0_0 a1_0 a1_1).length (M.cntL l0_0 a1_0 a1_1) from M.C_ints (by unfold maxLen at hm2;omega) ho2.rowOf)
 have bb3:=M.blk_keep bb2 hlt2 (M.below_drew hb3)
 have ff3:=M.frz_keep ff2 hlt2 (M.below_drew hb3)
 have hlt3 : w.heap.size + 3 < w3.heap.size:=by have:=(M.below_drew hb3).size;omega
 have k0:=M.cell_below hb3 y_0
 have k1:=M.cell_below hb3 y_1
 clear ho2 hb3
 refine hK.out _ _ ⟨k0,k1⟩ (fun hHeld => ?_)
 clear hK K
 refine norm_ (a':=?_) ?_ ?_
 rotate_left
 · show Act.put _ (some 20) _ = _
   simp only [Act.put,List.setIfInBounds_toArray,List.set_cons_zero,List.set_cons_succ,i64_w,i32_w]
   rfl
 refine one_ (i:=3) (N:=some 23) #[true,true,true,true,false,false] rfl rfl (by kernel_rfl) (by decide) (fun K hK => ?_)
 refine goes_ Try.func89 (by kernel_rfl) rfl #[.slice A2 (M.cntL l0_0 a1_0 a1_1).length c2,.agg #[.int .i64 a2_0,.int .i64 a2_1],.int .i64 a3] (by rfl) rfl rfl (by simp only [List.map_toArray,List.map_cons,List.map_nil];rfl) ?_
 refine (spec_l10Move.calls k A2 c2 (M.cntL l0_0 a1_0 a1_1) a2_0 a2_1 a3 t1 t2 _ HC.out hc2 H3.out).mono ?_
 rintro e w4 ⟨rfl,hb4⟩
 refine ⟨_,rfl,?_⟩
 have hG4:=hG3.trans (hb4.mono hG3.size)
 have bb4:=M.blk_keep bb3 hlt3 hb4
 have ff4:=M.frz_keep ff3 hlt3 hb4
 have hlt4 : w.heap.size + 3 < w4.heap.size:=by have:=hb4.size;omega
 have j0:=M.cell_below hb4 k0
 have j1:=M.cell_below hb4 k1
 clear hb4
 refine hK.out _ _ ⟨j0,j1⟩ (fun hHeld => ?_)
 clear hK K
 refine norm_ (a':=?_) ?_ ?_
 rotate_left
 · show Act.put _ (some 23) _ = _
   simp only [Act.put,List.setIfInBounds_toArray,List.set_cons_zero,List.set_cons_succ,i64_w,i32_w]
   rfl
 refine pure_ (i:=4) (N:=some 24) (v:=?_) (a':=?_) #[true,true,true,true,true,false] rfl rfl (by kernel_rfl) (fun _ _ _ h => h) (Or.inl ⟨by rfl,?_⟩) ?_ ?_
 rotate_left
 · intro w'
   go_simp
   with_reducible rfl
 rotate_left
 · simp only [Act.put,List.setIfInBounds_toArray,List.set_cons_zero,List.set_cons_succ,i64_w,i32_w]
   rfl
 refine last_ (i:=5) (N:=none) #[true,true,true,true,true,true] rfl rfl (by kernel_rfl) (by decide) (fun K hK => ?_)
 refine skip_ (w1:=?_) (by rfl) rfl ?_ ?_
 rotate_left
 · go_simp
   rfl
 refine hK.out _ _ ?_
 clear hK K
 refine done_ (by kernel_rfl) ?_
 go_wp2
 refine bodyPost_ret (by simp [results,Try.results48,go_sem,bb4,ff4];try rfl) rfl ?_
 refine ⟨rfl,?_⟩
 repeat (first|exact hG4|apply below_alloc|apply pw_below_drewN|apply below_drew1|refine below_set ?_ (by omega))
end Go.Proofs.Ytcinaflmpdmdaaa.Q
end
section
namespace Go.Proofs.Ytcinaflmpdmdaaa.Q
open Go.RowKit Go.Proofs.YtcinaflmpdmdaaaW.PrintWords Go.Proofs.YtcinaflmpdmdaaaW.PrintLast Go.Proofs.YtcinaflmpdmdaaaW.PrintMore Go.Proofs.Ytcinaflmpdmdaaa.L
/-- A spot moved, in lines of so many rows: where there are no lines it stays. -/
def movF (cs : List Int) (a b m : Int) : Int × Int := if cs.length = 0 then (a, b) else (((moveS cs (a.toNat, b) m).1 : Int), (moveS cs (a.toNat, b) m).2)
theorem spotIn_zero {cs : List Int} {a b : Int} (h0 : ¬ cs.length = 0) (h : M.spotInF cs a b = 0) : OkS cs a.toNat b ∧ 0 ≤ a := by
  unfold M.spotInF at h
  rw [if_neg h0] at h
  split at h
  · rename_i q
    obtain ⟨⟨q1, q2⟩, q3, q4⟩ := q
    have hlt : a.toNat < cs.length := by omega
    have e : rd cs a = cs[a.toNat] := by
      have := rd_nat cs a.toNat hlt
      rwa [Int.toNat_of_nonneg q1] at this
    exact ⟨⟨cs[a.toNat], List.getElem?_eq_getElem hlt, q3, by omega⟩, q1⟩
  · cases h
theorem i_mov {cs : List Int} (h : CntOk cs) {a b : Int} (hs : M.spotInF cs a b = 0) (m : Int) (hm : -9999 ≤ m ∧ m ≤ 9999) : Ev (fun k => impl_moved.f k cs a b m) (movF cs a b m) := by
  by_cases h0 : cs.length = 0
  · have e : movF cs a b m = (a, b) := by unfold movF; rw [if_pos h0]
    rw [e]
    unfold impl_moved.f
    exact Ev.pos (by omega) (Ev.now _)
  · have e : movF cs a b m = (((moveS cs (a.toNat, b) m).1 : Int), (moveS cs (a.toNat, b) m).2) := by unfold movF; rw [if_neg h0]
    obtain ⟨ho, ha⟩ := spotIn_zero h0 hs
    rw [e]
    have := moved_ev h ho m (by omega)
    rwa [Int.toNat_of_nonneg ha] at this
theorem move_none (m : Nat) : m ≤ 1000000 → Ev (fun k => spec_l10Move.l0 k [] (m : Int) 0 0) (0, 0) := by
  induction m with
  | zero =>
    intro _
    refine Ev.succ ?_
    simp only [spec_l10Move.l0]
    refine Ev.neg (by omega) (Ev.succ ?_)
    simp only [spec_l10Move.l1]
    exact Ev.neg (by omega) (Ev.now _)
  | succ m ih =>
    intro hm
    refine Ev.succ ?_
    simp only [spec_l10Move.l0]
    have e : spec_l10At.f [] 0 = some 1 := by unfold spec_l10At.f; simp
    refine Ev.pos (by omega) (Ev.bind0 e ?_)
    rw [w64 (x := (0 : Int) + 1) (by omega) (by omega), w64 (x := ((m + 1 : Nat) : Int) - 1) (by omega) (by omega), show ((m + 1 : Nat) : Int) - 1 = (m : Int) by omega]
    exact Ev.neg (by omega) (Ev.neg (by simp) (ih (by omega)))
theorem move_none_dn (m : Nat) : m ≤ 1000000 → Ev (fun k => spec_l10Move.l1 k [] (-(m : Int)) 0 0) (0, 0) := by
  induction m with
  | zero =>
    intro _
    refine Ev.succ ?_
    simp only [spec_l10Move.l1]
    exact Ev.neg (by omega) (Ev.now _)
  | succ m ih =>
    intro hm
    refine Ev.succ ?_
    simp only [spec_l10Move.l1]
    refine Ev.pos (by omega) (Ev.neg (by omega) (Ev.neg (by omega) ?_))
    rw [w64 (x := -((m + 1 : Nat) : Int) + 1) (by omega) (by omega), show -((m + 1 : Nat) : Int) + 1 = -(m : Int) by omega]
    exact ih (by omega)
theorem s_mov {cs : List Int} (h : CntOk cs) {a b : Int} (hs : M.spotInF cs a b = 0) (m : Int) (hm : -9999 ≤ m ∧ m ≤ 9999) : Ev (fun k => spec_l10Move.f k cs a b m) (movF cs a b m) := by
  by_cases h0 : cs.length = 0
  · have e : movF cs a b m = (a, b) := by unfold movF; rw [if_pos h0]
    have hc : cs = [] := List.eq_nil_of_length_eq_zero h0
    have hab : a = 0 ∧ b = 0 := by
      unfold M.spotInF at hs
      rw [if_pos h0] at hs
      split at hs
      · assumption
      · cases hs
    rw [e]
    obtain ⟨rfl, rfl⟩ := hab
    subst hc
    unfold spec_l10Move.f
    by_cases hp : 0 ≤ m
    · obtain ⟨q, rfl⟩ : ∃ q : Nat, m = q := ⟨m.toNat, by omega⟩
      exact move_none q (by omega)
    · obtain ⟨q, rfl⟩ : ∃ q : Nat, m = -(q : Int) := ⟨(-m).toNat, by omega⟩
      refine Ev.succ ?_
      simp only [spec_l10Move.l0]
      exact Ev.neg (by omega) (move_none_dn q (by omega))
  · have e : movF cs a b m = (((moveS cs (a.toNat, b) m).1 : Int), (moveS cs (a.toNat, b) m).2) := by unfold movF; rw [if_neg h0]
    obtain ⟨ho, ha⟩ := spotIn_zero h0 hs
    rw [e]
    have := move_ev h ho m (by omega)
    rwa [Int.toNat_of_nonneg ha] at this
theorem spotF_in {l : List Int} {wd : Int} {ch : Bool} {sh a b : Int} (h : M.spotF l wd ch sh a b = 0) : M.spotInF (M.cntL l wd ch) a b = 0 := by
  have hb := M.spotF_base h
  unfold M.spotF at h
  rwa [if_pos hb] at h
theorem i_moveSpot {l : List Int} (ho : M.lineOk l = true) (wd : Int) (ch : Bool) (sh a b m : Int) : Ev (fun k => impl_MoveSpot.f k l wd ch sh a b m) (if M.spotF l wd ch sh a b = 0 then (if -9999 ≤ m ∧ m ≤ 9999 then (0, movF (M.cntL l wd ch) a b m) else (3, 0, 0)) else (M.spotF l wd ch sh a b, 0, 0)) := by
  unfold impl_MoveSpot.f
  by_cases hz : M.spotF l wd ch sh a b = 0
  · obtain ⟨_, hlay⟩ := M.baseF_zero (M.spotF_base hz)
    obtain ⟨w1, w2, _⟩ := layF_zero hlay
    by_cases hm : -9999 ≤ m ∧ m ≤ 9999
    · refine Ev.eq (Ev.bind (i_spot ho wd ch sh a b) (Ev.pos hz (Ev.bind0 (within_eq m (-9999) 9999) (Ev.pos (decide_eq_true hm) (Ev.bind0 (rowsOf_eq ho ch sh w1 w2) (Ev.bind (i_mov (cntOk (M.lineOk_len ho) ch w1) (spotF_in hz) m hm) (Ev.now _))))))) ?_
      simp [hz, hm]
    · refine Ev.eq (Ev.bind (i_spot ho wd ch sh a b) (Ev.pos hz (Ev.bind0 (within_eq m (-9999) 9999) (Ev.neg (by simpa using hm) (Ev.now _))))) ?_
      simp [hz, hm]
  · refine Ev.eq (Ev.bind (i_spot ho wd ch sh a b) (Ev.neg hz (Ev.now _))) ?_
    simp [hz]
theorem s_moveSpot {l : List Int} (ho : M.lineOk l = true) (wd : Int) (ch : Bool) (sh a b m : Int) : Ev (fun k => spec_MoveSpot.f k l wd ch sh a b m) (if M.spotF l wd ch sh a b = 0 then (if -9999 ≤ m ∧ m ≤ 9999 then (0, movF (M.cntL l wd ch) a b m) else (3, 0, 0)) else (M.spotF l wd ch sh a b, 0, 0)) := by
  unfold spec_MoveSpot.f
  by_cases hz : M.spotF l wd ch sh a b = 0
  · obtain ⟨_, hlay⟩ := M.baseF_zero (M.spotF_base hz)
    obtain ⟨w1, w2, _⟩ := layF_zero hlay
    by_cases hm : -9999 ≤ m ∧ m ≤ 9999
    · refine Ev.eq (Ev.pos ho (Ev.pos hz (Ev.pos hm (Ev.bind (s_mov (cntOk (M.lineOk_len ho) ch w1) (spotF_in hz) m hm) (Ev.now _))))) ?_
      simp [hz, hm]
    · refine Ev.eq (Ev.pos ho (Ev.pos hz (Ev.neg hm (Ev.now _)))) ?_
      simp [hz, hm]
  · refine Ev.eq (Ev.pos ho (Ev.neg hz (Ev.now _))) ?_
    simp [hz]
end Go.Proofs.Ytcinaflmpdmdaaa.Q
end
