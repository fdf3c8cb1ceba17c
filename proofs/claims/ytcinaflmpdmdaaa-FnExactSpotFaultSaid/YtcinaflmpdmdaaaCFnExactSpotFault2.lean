/- For every input FnExactSpotFault returns true: the program's SpotFault tells what the reference's tells, and leaves its arguments as they were. No condition. -/
import Derived.Test.YtcinaflmpdmdaaaCFnExactSpotFault1
import Derived.Test.YtcinaflmpdmdaaaCFnExactSpotFault0
import Derived.Test.YtcinaflmpdmdaaaRows
set_option linter.unusedVariables false
set_option linter.unusedSimpArgs false
section
namespace Go.Proofs.Ytcinaflmpdmdaaa.M
open Go.RowKit Go.Proofs.Ytcinaflmpdmdaaa.Q Go.Proofs.YtcinaflmpdmdaaaW.PrintWords Go.Proofs.YtcinaflmpdmdaaaW.PrintLast Go.Proofs.YtcinaflmpdmdaaaW.PrintMore Go.Proofs.Ytcinaflmpdmdaaa.L
set_option linter.unusedSimpArgs false
set_option linter.unusedVariables false
theorem linesOf_loop (l : List Int) (hl : l.length ≤ 1048576) : ∀ (d i f : Nat) (out : List S141), l.length - i = d → i ≤ l.length → f ≤ i → out.length ≤ i → Ev (fun k => impl_linesOf.l0 k l out (f : Int) l (l.length : Int) (i : Int)) (out ++ lin (l.drop i) i f)
  | 0, i, f, out, hd, hi, hf, ho => by
    obtain rfl : i = l.length := by omega
    refine Ev.succ ?_
    simp only [impl_linesOf.l0]
    refine Ev.neg (by omega) ?_
    rw [List.drop_length, lin]
    by_cases h : f < l.length
    · rw [if_pos h]
      refine Ev.pos (by omega) (Ev.pos (by omega) ?_)
      rw [w64 (by omega) (by omega)]
      exact Ev.now _
    · rw [if_neg h, List.append_nil]
      exact Ev.neg (by omega) (Ev.now _)
  | d + 1, i, f, out, hd, hi, hf, ho => by
    have h : i < l.length := by omega
    refine Ev.succ ?_
    simp only [impl_linesOf.l0, rd_nat l i h]
    refine Ev.pos (by omega) (Ev.pos (by omega) (Ev.pos (by omega) ?_))
    rw [List.drop_eq_getElem_cons h, lin]
    by_cases h10 : l[i] = 10
    · rw [if_pos h10]
      refine Ev.pos h10 (Ev.pos (by omega) ?_)
      rw [w64 (x := (i : Int) - (f : Int)) (by omega) (by omega), w64 (x := (i : Int) + 1) (by omega) (by omega)]
      have := linesOf_loop l hl d (i + 1) (i + 1) (out ++ [⟨(f : Int), (i : Int) - (f : Int)⟩]) (by omega) (by omega) (by omega) (by rw [List.length_append]; simp; omega)
      rw [List.append_assoc] at this
      exact this
    · rw [if_neg h10]
      refine Ev.neg h10 ?_
      rw [w64 (x := (i : Int) + 1) (by omega) (by omega)]
      exact linesOf_loop l hl d (i + 1) f out (by omega) (by omega) (by omega) (by omega)
theorem linesOf_ev (l : List Int) (hl : l.length ≤ 1048576) : Ev (fun k => impl_linesOf.f k l) (linL l) := by
  unfold impl_linesOf.f
  have := linesOf_loop l hl l.length 0 0 [] (by omega) (by omega) (by omega) (by simp)
  rw [List.drop_zero, List.nil_append] at this
  exact this
theorem linesOf_c (A : Option Addr) (n c : Nat) (l : List Int) (w : World) (hn : l.length = n) (hx : Row eU 1 w A l) (hc : n ≤ c) (hm : n ≤ 1048576)
    (R : Ending → World → Prop) (h : ∀ A' c' w', Own eLn 2 141 w' w.heap.size (.slice A' (linL l).length c') (linL l) → (linL l).length ≤ c' → c' ≤ maxLen → Below w.heap.size w w' → R (.returned (.slice A' (linL l).length c')) w') :
    Calls Try.prog 112 #[.slice A n c] w R := by
  subst hn
  obtain ⟨k, hk⟩ := Ev.rounds (linesOf_ev l hm)
  refine (impl_linesOf.calls k A c l (linL l) w (C_ints (by omega) hx) hc hk).mono ?_
  rintro e w' ⟨v, rfl, hR, hb⟩
  have ho := own_of_R (d := k141) (enc := eLn) (f := id) (k := 2) rfl (fun h => k141_openM h) eLn_len hR
  rw [List.map_id] at ho
  obtain ⟨A', c', rfl, h1, h2, _⟩ := ho.row
  exact h A' c' w' ho h1 h2 hb
set_option maxRecDepth 20000 in
set_option maxHeartbeats 2000000 in
theorem lineBytes_c (A : Option Addr) (n c : Nat) (l : List Int) (w : World) (hn : l.length = n) (hx : Row eU 1 w A l) (hc : n ≤ c) (hm : n ≤ 1048576) (a b : Nat) (hab : a + b ≤ n)
    (R : Ending → World → Prop) (h : ∀ A' c' w', Row eU 1 w' A' (subL l a b) → b ≤ c' → Below w.heap.size w w' → R (.returned (.slice A' b c')) w') :
    Calls Try.prog 113 #[.agg #[.slice A n c], .agg #[.int .i64 a, .int .i64 b]] w R := by
  have H := Lib.hid h
  have HX := Lib.hid hx
  have HN := Lib.hid hn
  clear h hx hn
  have hs := Go.Proofs.YtcinaflmpdmdaaaW.PrintWords.cut_mid (P := Try.prog) 28 5 .i64 .i64 Try.underlying28 info_u8e 1 (by kernel_rfl) A n c (a : Int) ((a : Int) + (b : Int)) (by omega) (by omega) (by omega) hc
  have hL : ((a : Int) + (b : Int)).toNat - (a : Int).toNat = b := by omega
  have hmid := (HX.out).mid (c := c) (lo := (a : Int).toNat) (hi := ((a : Int) + (b : Int)).toNat) (by omega) (by rw [HN.out]; omega) (by rw [HN.out]; exact hc)
  rw [hL] at hs
  have e1 : (a : Int).toNat = a := Int.toNat_natCast a
  have e2 : ((a : Int) + (b : Int)).toNat = a + b := by omega
  rw [e2] at hmid
  rw [e1] at hs hmid
  obtain ⟨A2, hA2⟩ : ∃ A2, (if c = a then A else A.map (·.add (a * 1))) = A2 := ⟨_, rfl⟩
  rw [hA2] at hs hmid
  obtain ⟨c2, hc2⟩ : ∃ c2, c - a = c2 := ⟨_, rfl⟩
  rw [hc2] at hs
  have HM := Lib.hid (show Row eU 1 w A2 (subL l a b) from hmid)
  have HCC := Lib.hid (show b ≤ c2 by omega)
  have w1 : wrap64 ((a : Int) + (b : Int)) = (a : Int) + (b : Int) := by unfold wrap64; omega
  clear hmid hL e1 e2 hA2 hc2
  (change Calls _ _ _ _ (Fin R); go_enter Try.func113, Try.ntmps113)
  go_wp2_with (fail)
  go_ret
  exact H.out A2 c2 _ (HM.out.below (by (repeat' (first | (with_reducible exact Below.refl _ _) | (with_reducible assumption) | (with_reducible refine Below.alloc ?_ ?_ _) | (with_reducible refine bdN ?_ _) | (with_reducible refine Below.drew ?_) | (with_reducible refine Below.setCell ?_ ?_ _) | go_size)))) HCC.out (by (repeat' (first | (with_reducible exact Below.refl _ _) | (with_reducible assumption) | (with_reducible refine Below.alloc ?_ ?_ _) | (with_reducible refine bdN ?_ _) | (with_reducible refine Below.drew ?_) | (with_reducible refine Below.setCell ?_ ?_ _) | go_size)))
theorem own_i64 {w : World} {e : TypeId} {base : Nat} {v : Value} {xs : List Int} (h : Kd.R (Kd.int .i64) e w base (fun _ => True) v xs) : Own eI 1 e w base v xs := by
  have := own_of_R (d := Kd.int .i64) (enc := eI) (f := id) (k := 1) rfl (fun h => h) (fun _ => rfl) h
  simpa using this
theorem r_i64 {w : World} {e : TypeId} {base : Nat} {v : Value} {xs : List Int} (h : Own eI 1 e w base v xs) : Kd.R (Kd.int .i64) e w base (fun _ => True) v xs :=
  R_of_own (d := Kd.int .i64) (enc := eI) (f := id) (k := 1) rfl (fun _ _ _ _ => rfl) (fun _ => rfl) (by simpa using h)
/-- How many rows a line has, by the program. -/
theorem rowCount_c (A : Option Addr) (n c : Nat) (l : List Int) (wd : Int) (ch : Bool) (sh : Int) (w : World) (hn : l.length = n) (hx : Row eU 1 w A l) (hc : n ≤ c) (ho : lineOk l = true) (h1 : 1 ≤ wd) (h2 : wd ≤ 40) (q : Int) (hq : rowN (cellsS l).length wd ch = q)
    (R : Ending → World → Prop) (h : ∀ w', Below w.heap.size w w' → R (.returned (.int .i64 q)) w') :
    Calls Try.prog 63 #[.slice A n c, .agg #[.int .i64 wd, .bool ch, .int .i64 sh]] w R := by
  subst hn
  refine (impl_rowCount.calls A c l wd ch sh q w (C_ints (by have := lineOk_len ho; omega) hx) hc (by rw [i_rowN l ho wd ch sh h1 h2, hq])).mono ?_
  rintro e w' ⟨rfl, hb'⟩
  exact h w' hb'
set_option maxRecDepth 20000 in
set_option maxHeartbeats 4000000 in
theorem rowsOf_c (A : Option Addr) (n c : Nat) (l : List Int) (wd : Int) (ch : Bool) (sh : Int) (w : World) (hn : l.length = n) (hx : Row eU 1 w A l) (hc : n ≤ c) (ho : lineOk l = true) (h1 : 1 ≤ wd) (h2 : wd ≤ 40)
    (R : Ending → World → Prop) (h : ∀ A' c' w', Own eI 1 2 w' w.heap.size (.slice A' (cntL l wd ch).length c') (cntL l wd ch) → (cntL l wd ch).length ≤ c' → c' ≤ maxLen → Below w.heap.size w w' → R (.returned (.slice A' (cntL l wd ch).length c')) w') :
    Calls Try.prog 80 #[.agg #[.slice A n c], .agg #[.int .i64 wd, .bool ch, .int .i64 sh]] w R := by
  have H := Lib.hid h
  have HX := Lib.hid hx
  have HN := Lib.hid hn
  have HO := Lib.hid ho
  have hm : n ≤ 1048576 := by rw [← hn]; exact lineOk_len ho
  clear h hx hn ho
  obtain ⟨W, hW⟩ : ∃ W, W = ((w.alloc (Obj.cells #[.slice A n c] 61)).alloc (Obj.cells #[.int .i64 wd, .bool ch, .int .i64 sh] 25)).alloc (Obj.cells #[] 2) := ⟨_, rfl⟩
  obtain ⟨b1, b2, b3, f1, f2, f3, hz, G0⟩ := box3 _ _ _ _ _ _ _ W hW
  have HOW := Lib.hid (show Own eI 1 2 W w.heap.size (.slice (some ⟨w.heap.size + 1 + 1, 0, none⟩) 0 0) [] by
    rw [hW]
    have := Own.lit (enc := eI) (k := 1) (e := 2) (base := w.heap.size) ((w.alloc (Obj.cells #[.slice A n c] 61)).alloc (Obj.cells #[.int .i64 wd, .bool ch, .int .i64 sh] 25)) #[] [] 0 (by simp; omega) rfl (by unfold maxLen; omega) ⟨rfl, fun i x hx => by simp at hx⟩
    simpa using this)
  have HW := Lib.hid hW
  clear hW b3 f1 f2 f3
  (change Calls _ _ _ _ (Fin R); go_enter Try.func80, Try.ntmps80)
  go_wp2_with (fail)
  rw [← HW.out]
  refine linesOf_c A n c l W HN.out (HX.out.below G0) hc hm _ ?_
  intro A1 c1 w1 ho1 hc1 hm1 hb1
  obtain ⟨m, hm'⟩ : ∃ m, (linL l).length = m := ⟨_, rfl⟩
  rw [hm'] at ho1 hc1 ⊢
  have HM := Lib.hid hm'
  have HL1 := Lib.hid ho1
  have hz1 : w.heap.size + 3 ≤ w1.heap.size := by have := hb1.size; omega
  have B1 := Lib.hid (blk_keep b1 (by omega) hb1)
  have B2 := Lib.hid (blk_keep b2 (by omega) hb1)
  have HOW1 := Lib.hid (HOW.out.below hb1)
  have hb1' := G0.trans (hb1.mono G0.size)
  have hWs : w.heap.size + 3 ≤ W.heap.size := by omega
  clear hm' ho1 b1 b2 hb1
  go_wp2_with (fail)
  go_loopg [5, 13] m (fun gk v5 v13 wr => ∃ (i d : Nat) (B : Option Addr), gk = m - i ∧ i ≤ m ∧ v5 = .slice B i d ∧ v13 = .int .i64 i ∧ i ≤ d ∧ d ≤ maxLen ∧ Own eI 1 2 wr w.heap.size (.slice B i d) (((linL l).take i).map (cntS l wd ch)) ∧ Own eLn 2 141 wr W.heap.size (.slice A1 m c1) (linL l) ∧ Hid (∀ i, wr.cell? ⟨w.heap.size, i, none⟩ = #[Value.slice A n c][i]?) ∧ Hid (∀ i, wr.cell? ⟨w.heap.size + 1, i, none⟩ = #[Value.int .i64 wd, .bool ch, .int .i64 sh][i]?) ∧ ((Value.slice B i d).ownBlock ≠ some w.heap.size ∧ (Value.slice B i d).ownBlock ≠ some (w.heap.size + 1)) ∧ Below w.heap.size w wr ∧ w.heap.size + 3 ≤ wr.heap.size)
  case atStart => exact ⟨0, 0, some ⟨w.heap.size + 1 + 1, 0, none⟩, rfl, by omega, rfl, rfl, Nat.le_refl _, by unfold maxLen; omega, HOW1.out, HL1.out, B1.out, B2.out, ⟨by simp [Value.ownBlock]; omega, by simp [Value.ownBlock]⟩, hb1', hz1⟩
  case round =>
    obtain ⟨i, d, B, rfl, hi, rfl, rfl, hd1, hd2, ho, hl, hB1, hB2, hBn, hG, hzr⟩ := hrel
    have HO1 := Lib.hid ho
    have HL2 := Lib.hid hl
    have HBN := Lib.hid hBn
    clear ho hl hBn
    by_cases hlt : i < m
    · obtain ⟨s, hs⟩ := get_lt (xs := linL l) (i := i) (by rw [HM.out]; exact hlt)
      obtain ⟨a, b, rfl, hab⟩ := linL_in (List.mem_of_getElem? hs)
      obtain ⟨ad, rfl, ha⟩ := HL2.out.rowOf i _ hs
      obtain ⟨x0, x1⟩ := At.two (a := .int .i64 (a : Int)) (b := .int .i64 (b : Int)) ha
      have HS := Lib.hid hs
      have hab' : a + b ≤ n := by rw [← HN.out]; exact hab
      obtain ⟨W2, hW2⟩ : ∃ W2, W2 = wr.alloc (Obj.cells #[.int .i64 a, .int .i64 b] 141) := ⟨_, rfl⟩
      obtain ⟨y1, _, yz, Y0⟩ := box1 _ _ _ W2 hW2
      have HW2 := Lib.hid hW2
      have z1 := blk_keep hB1.out (by omega) Y0
      have z2 := blk_keep hB2.out (by omega) Y0
      have hG2 := hG.trans (Y0.mono hG.size)
      have HO2 := Lib.hid (HO1.out.below Y0)
      have HL3 := Lib.hid (HL2.out.below Y0)
      obtain ⟨q, hq⟩ : ∃ q, rowN (cellsS (subL l a b)).length wd ch = q := ⟨_, rfl⟩
      have HQ := Lib.hid hq
      have hml : m ≤ 1048577 := by have := linL_len l; rw [HM.out, HN.out] at this; omega
      have hlen : (((linL l).take i).map (cntS l wd ch)).length = i := by rw [List.length_map, List.length_take, HM.out]; omega
      have HLN := Lib.hid hlen
      have HBD := Lib.hid (show (((linL l).take i).map (cntS l wd ch)).length + 1 ≤ 1048577 by rw [hlen]; omega)
      have HX2 := Lib.hid (show Row eU 1 W2.drew A l from (HX.out.below hG2).keeps (keeps_refl W2))
      have HSB := Lib.hid (subL_len (l := l) (a := a) (b := b) (by rw [HN.out]; exact hab'))
      have HOS := Lib.hid (lineOk_sub HO.out a b)
      clear hs hab ha hW2 hq hlen Y0 hB1 hB2
      go_wp2_with (fail)
      rw [← HW2.out]
      clear x0 x1
      have y_0 : W2.drew.cell? ⟨w.heap.size, 0, none⟩ = some (.slice A n c) := z1 0
      have y_1 : W2.drew.cell? ⟨w.heap.size + 1, 0, none⟩ = some (.int .i64 wd) := z2 0
      have y_2 : W2.drew.cell? ⟨w.heap.size + 1, 1, none⟩ = some (.bool ch) := z2 1
      have y_3 : W2.drew.cell? ⟨w.heap.size + 1, 2, none⟩ = some (.int .i64 sh) := z2 2
      have y_4 : W2.drew.cell? ⟨wr.heap.size, 0, none⟩ = some (.int .i64 a) := y1 0
      have y_5 : W2.drew.cell? ⟨wr.heap.size, 1, none⟩ = some (.int .i64 b) := y1 1
      refine start_ (n := 9) (S := fun w' => w'.cell? ⟨w.heap.size, 0, none⟩ = some (.slice A n c) ∧ w'.cell? ⟨w.heap.size + 1, 0, none⟩ = some (.int .i64 wd) ∧ w'.cell? ⟨w.heap.size + 1, 1, none⟩ = some (.bool ch) ∧ w'.cell? ⟨w.heap.size + 1, 2, none⟩ = some (.int .i64 sh) ∧ w'.cell? ⟨wr.heap.size, 0, none⟩ = some (.int .i64 a) ∧ w'.cell? ⟨wr.heap.size, 1, none⟩ = some (.int .i64 b)) (ds := [7]) #[false, false, false, false, false, false, false, false, false] (by kernel_rfl) rfl rfl ⟨y_0, y_1, y_2, y_3, y_4, y_5⟩ (fun hHeld => ?_)
      refine pure_ (i := 0) (N := some 17) (v := ?_) (a' := ?_) #[true, false, false, false, false, false, false, false, false] rfl rfl (by kernel_rfl) (fun _ _ _ h => h) (Or.inl ⟨by rfl, ?_⟩) ?_ ?_
      rotate_left
      · intro w'
        go_simp
        with_reducible rfl
      rotate_left
      · simp only [Act.put, List.setIfInBounds_toArray, List.set_cons_zero, List.set_cons_succ, i64_w, i32_w]
        rfl
      refine take_ (i := 1) (N := some 18) (v := ?_) (a' := ?_) #[true, true, false, false, false, false, false, false, false] rfl rfl (by kernel_rfl) (fun _ _ _ h => h) (Or.inl ⟨by rfl, ?_⟩) hHeld ?_ ?_
      rotate_left
      · rintro w' ⟨s0, s1, s2, s3, s4, s5⟩
        go_simp
        with_reducible rfl
      rotate_left
      · simp only [Act.put, List.setIfInBounds_toArray, List.set_cons_zero, List.set_cons_succ, i64_w, i32_w]
        rfl
      refine take_ (i := 2) (N := some 19) (v := ?_) (a' := ?_) #[true, true, true, false, false, false, false, false, false] rfl rfl (by kernel_rfl) (fun _ _ _ h => h) (Or.inl ⟨by rfl, ?_⟩) hHeld ?_ ?_
      rotate_left
      · rintro w' ⟨s0, s1, s2, s3, s4, s5⟩
        go_simp
        with_reducible rfl
      rotate_left
      · simp only [Act.put, List.setIfInBounds_toArray, List.set_cons_zero, List.set_cons_succ, i64_w, i32_w]
        rfl
      refine take_ (i := 4) (N := some 21) (v := ?_) (a' := ?_) #[true, true, true, false, true, false, false, false, false] rfl rfl (by kernel_rfl) (fun _ _ _ h => h) (Or.inl ⟨by rfl, ?_⟩) hHeld ?_ ?_
      rotate_left
      · rintro w' ⟨s0, s1, s2, s3, s4, s5⟩
        go_simp
        with_reducible rfl
      rotate_left
      · simp only [Act.put, List.setIfInBounds_toArray, List.set_cons_zero, List.set_cons_succ, i64_w, i32_w]
        rfl
      refine one_ (i := 3) (N := some 20) #[true, true, true, true, true, false, false, false, false] rfl rfl (by kernel_rfl) (by decide) (fun K hK => ?_)
      refine goes_ Try.func113 (by kernel_rfl) rfl #[.agg #[.slice A n c], .agg #[.int .i64 a, .int .i64 b]] (by rfl) rfl rfl (by simp only [List.map_toArray, List.map_cons, List.map_nil]; rfl) ?_
      refine lineBytes_c A n c l _ HN.out HX2.out hc hm a b hab' _ ?_
      intro A2 c2 w3 hr2 hc2 hb3
      refine ⟨_, rfl, ?_⟩
      have hG3 := hG2.trans ((below_drew hb3).mono hG2.size)
      have HO3 := Lib.hid (HO2.out.below (below_drew hb3))
      have HL4 := Lib.hid (HL3.out.below (below_drew hb3))
      have HR2 := Lib.hid hr2
      have hz3 : W2.heap.size ≤ w3.heap.size := (below_drew hb3).size
      have k0 := cell_below hb3 y_0
      have k1 := cell_below hb3 y_1
      have k2 := cell_below hb3 y_2
      have k3 := cell_below hb3 y_3
      have k4 := cell_below hb3 y_4
      have k5 := cell_below hb3 y_5
      refine hK.out _ _ ⟨k0, k1, k2, k3, k4, k5⟩ (fun hHeld => ?_)
      clear hK K
      refine norm_ (a' := ?_) ?_ ?_
      rotate_left
      · show Act.put _ (some 20) _ = _
        simp only [Act.put, List.setIfInBounds_toArray, List.set_cons_zero, List.set_cons_succ, i64_w, i32_w]
        rfl
      refine one_ (i := 5) (N := some 22) #[true, true, true, true, true, true, false, false, false] rfl rfl (by kernel_rfl) (by decide) (fun K hK => ?_)
      refine goes_ Try.func63 (by kernel_rfl) rfl #[.slice A2 b c2, .agg #[.int .i64 wd, .bool ch, .int .i64 sh]] (by rfl) rfl rfl (by simp only [List.map_toArray, List.map_cons, List.map_nil]; rfl) ?_
      refine rowCount_c A2 b c2 (subL l a b) wd ch sh _ HSB.out HR2.out hc2 HOS.out h1 h2 q HQ.out _ ?_
      intro w4 hb4
      refine ⟨_, rfl, ?_⟩
      have hG4 := hG3.trans (hb4.mono hG3.size)
      have HO4 := Lib.hid (HO3.out.below hb4)
      have HL5 := Lib.hid (HL4.out.below hb4)
      have hz4 : w3.heap.size ≤ w4.heap.size := hb4.size
      have j0 := cell_below hb4 k0
      have j1 := cell_below hb4 k1
      have j2 := cell_below hb4 k2
      have j3 := cell_below hb4 k3
      have j4 := cell_below hb4 k4
      have j5 := cell_below hb4 k5
      refine hK.out _ _ ⟨j0, j1, j2, j3, j4, j5⟩ (fun hHeld => ?_)
      clear hK K
      refine norm_ (a' := ?_) ?_ ?_
      rotate_left
      · show Act.put _ (some 22) _ = _
        simp only [Act.put, List.setIfInBounds_toArray, List.set_cons_zero, List.set_cons_succ, i64_w, i32_w]
        rfl
      refine one_ (i := 6) (N := some 23) #[true, true, true, true, true, true, true, false, false] rfl rfl (by kernel_rfl) (by decide) (fun K hK => ?_)
      refine value_ (w1 := ?_) (v := ?_) (by rfl) rfl ?_ ?_
      rotate_left 2
      · go_simp
        constructor
        · rfl
        · rfl
      have i0 := cell_below ((Below.refl _ _).alloc (Nat.le_refl _) (Obj.cells #[.int .i64 q] 2)) j0
      have i1 := cell_below ((Below.refl _ _).alloc (Nat.le_refl _) (Obj.cells #[.int .i64 q] 2)) j1
      have i2 := cell_below ((Below.refl _ _).alloc (Nat.le_refl _) (Obj.cells #[.int .i64 q] 2)) j2
      have i3 := cell_below ((Below.refl _ _).alloc (Nat.le_refl _) (Obj.cells #[.int .i64 q] 2)) j3
      have i4 := cell_below ((Below.refl _ _).alloc (Nat.le_refl _) (Obj.cells #[.int .i64 q] 2)) j4
      have i5 := cell_below ((Below.refl _ _).alloc (Nat.le_refl _) (Obj.cells #[.int .i64 q] 2)) j5
      refine hK.out _ _ ⟨i0, i1, i2, i3, i4, i5⟩ (fun hHeld => ?_)
      clear hK K
      refine norm_ (a' := ?_) ?_ ?_
      rotate_left
      · show Act.put _ (some 23) _ = _
        simp only [Act.put, List.setIfInBounds_toArray, List.set_cons_zero, List.set_cons_succ, i64_w, i32_w]
        rfl
      refine last_ (i := 7) (N := some 24) #[true, true, true, true, true, true, true, true, false] rfl rfl (by kernel_rfl) (by decide) (fun K hK => ?_)
      refine Kd.R_append_step (Kd.int .i64) (w0 := w) w.heap.size (by rfl) (.tmp 17) (.tmp 23) 75 2 (.int .i64 0) 8 rfl Try.underlying75 info_eI rfl (by decide) (by decide) (.slice B i d) (((linL l).take i).map (cntS l wd ch)) q [.int .i64 q] (fun _ => True) (fun _ => False) rfl rfl rfl (fun _ h => h.elim) (fun _ _ => trivial) (r_i64 HO4.out) hG4 hG4.size (by have := HBD.out; omega) ?_
      intro v' w' hr' hG' hg' hob
      have ho' := own_i64 hr'
      refine hK.out _ _ ?_
      clear hK K
      refine norm_ (a' := ?_) ?_ ?_
      rotate_left
      · show Act.put _ (some 24) _ = _
        simp only [Act.put, List.setIfInBounds_toArray, List.set_cons_zero, List.set_cons_succ, i64_w, i32_w]
        rfl
      refine pure_ (i := 8) (N := some 5) (v := ?_) (a' := ?_) #[true, true, true, true, true, true, true, true, true] rfl rfl (by kernel_rfl) (fun _ _ _ h => h) (Or.inl ⟨by rfl, ?_⟩) ?_ ?_
      rotate_left
      · intro w'
        go_simp
        with_reducible rfl
      rotate_left
      · simp only [Act.put, List.setIfInBounds_toArray, List.set_cons_zero, List.set_cons_succ, i64_w, i32_w]
        rfl
      refine done_ (by kernel_rfl) ?_
      have Z1 := blk_keep (blk_keep z1 (by omega) (below_drew hb3)) (by omega) hb4
      have Z2 := blk_keep (blk_keep z2 (by omega) (below_drew hb3)) (by omega) hb4
      have Z3 := Lib.hid (blk_grown Z1 (by omega) hg' HBN.out.1)
      have Z4 := Lib.hid (blk_grown Z2 (by omega) hg' HBN.out.2)
      have HL6 := Lib.hid (HL5.out.grown hg' (HL5.out.apart_ty HO4.out (by decide)))
      have hob1 : v'.ownBlock ≠ some w.heap.size ∧ v'.ownBlock ≠ some (w.heap.size + 1) := by
        rcases hob with e | ⟨b', e, hb'⟩
        · rw [e]; exact HBN.out
        · rw [e]
          have := hb4.size
          exact ⟨fun q => by have := Option.some.inj q; omega, fun q => by have := Option.some.inj q; omega⟩
      have hz6 : w.heap.size + 3 ≤ w'.heap.size := by have := hg'.size; omega
      have e4 : ((linL l).take (i + 1)).map (cntS l wd ch) = ((linL l).take i).map (cntS l wd ch) ++ [q] := by
        rw [List.take_add_one, HS.out, List.map_append, ← HQ.out]
        simp [cntS]
      obtain ⟨B', d', rfl, e1, e2, _⟩ := ho'.row
      have hll : (((linL l).take i).map (cntS l wd ch) ++ [q]).length = i + 1 := by rw [List.length_append, HLN.out]; rfl
      rw [hll] at e1 ho' hob1
      rw [← e4] at ho'
      rw [hll]
      have HO6 := Lib.hid ho'
      have HOB := Lib.hid hob1
      clear hll e4 ho' hob1 Z1 Z2 hob y_0 y_1 y_2 y_3 y_4 y_5 k0 k1 k2 k3 k4 k5 j0 j1 j2 j3 j4 j5 i0 i1 i2 i3 i4 i5 hr' z1 z2 y1
      go_wp2_with (fail)
      go_roundg (m - (i + 1))
      case measure => omega
      case rel => exact ⟨i + 1, d', B', rfl, by omega, rfl, by go_num, e1, e2, HO6.out, HL6.out, Z3, Z4, HOB.out, hG', hz6⟩
    · obtain rfl : i = m := by omega
      have e5 : (linL l).take i = linL l := List.take_of_length_le (by rw [HM.out]; exact Nat.le_refl _)
      have hlen : (cntL l wd ch).length = i := by rw [cntL, List.length_map, HM.out]
      go_wp2_with (fail)
      go_ret
      have ho2 := HO1.out
      rw [e5] at ho2
      have := H.out B d _ (by rw [hlen]; exact ho2) (by rw [hlen]; exact hd1) hd2 hG
      rw [hlen] at this
      exact this
end Go.Proofs.Ytcinaflmpdmdaaa.M
end
section
namespace Go.Proofs.Ytcinaflmpdmdaaa.M
open Go.RowKit Go.Proofs.Ytcinaflmpdmdaaa.Q Go.Proofs.YtcinaflmpdmdaaaW.PrintWords Go.Proofs.YtcinaflmpdmdaaaW.PrintLast Go.Proofs.YtcinaflmpdmdaaaW.PrintMore Go.Proofs.Ytcinaflmpdmdaaa.L
theorem l2Fault_c (g : Nat) (A : Option Addr) (n c : Nat) (w : World) (hp : w.cell? ⟨g, 0, none⟩ = some (.slice A n c)) (hm : n ≤ 1048576) (q : Int) (hq : (if 400 < n then 2 else 0) = q)
    (R : Ending → World → Prop) (h : ∀ w', Below w.heap.size w w' → R (.returned (.int .i64 q)) w') :
    Calls Try.prog 115 #[.pointer (some ⟨g, 0, none⟩)] w R := by
  have H := Lib.hid h
  clear h
  by_cases h4 : 400 < n
  · rw [if_pos h4] at hq
    subst hq
    (change Calls _ _ _ _ (Fin R); go_enter Try.func115, Try.ntmps115)
    go_wp2_with (fail)
    go_ret
    exact H.out _ (by (repeat' (first | (with_reducible exact Below.refl _ _) | (with_reducible assumption) | (with_reducible refine Below.alloc ?_ ?_ _) | (with_reducible refine bdN ?_ _) | (with_reducible refine Below.drew ?_) | (with_reducible refine Below.setCell ?_ ?_ _) | go_size)))
  · rw [if_neg h4] at hq
    subst hq
    (change Calls _ _ _ _ (Fin R); go_enter Try.func115, Try.ntmps115)
    go_wp2_with (fail)
    go_ret
    exact H.out _ (by (repeat' (first | (with_reducible exact Below.refl _ _) | (with_reducible assumption) | (with_reducible refine Below.alloc ?_ ?_ _) | (with_reducible refine bdN ?_ _) | (with_reducible refine Below.drew ?_) | (with_reducible refine Below.setCell ?_ ?_ _) | go_size)))
theorem l10Fault_c (g : Nat) (wd : Int) (ch : Bool) (sh : Int) (w : World) (hI : w.heap[g]? = some (.cells #[.int .i64 wd, .bool ch, .int .i64 sh] 25 (0, 0))) (q : Int) (hq : layF wd ch sh = q)
    (R : Ending → World → Prop) (h : ∀ w', Below w.heap.size w w' → R (.returned (.int .i64 q)) w') :
    Calls Try.prog 55 #[.pointer (some ⟨g, 0, none⟩)] w R := by
  obtain ⟨w0, hw0⟩ : ∃ w0 : World, w0 = { w with heap := #[] } := ⟨_, rfl⟩
  have hs : w0.heap.size = 0 := by rw [hw0]; rfl
  have hB : Below w0.heap.size w0 w := by subst hw0; exact ⟨rfl, rfl, rfl, Nat.zero_le _, fun k hk => absurd hk (Nat.not_lt_zero k)⟩
  obtain ⟨k, hk⟩ := Ev.rounds (s_layout wd ch sh)
  rw [hq] at hk
  refine (spec_l10Fault.calls k g wd ch sh q wd ch sh w0 w ⟨hI, by omega⟩ hB hk).mono ?_
  rintro e w' ⟨rfl, hI', hb', hk⟩
  exact h w' (below_keep hB hb' hk (hI'.1.trans hI.symm))
/-- What is wrong with a file of so many bytes and a layout. -/
def baseF (n : Nat) (wd : Int) (ch : Bool) (sh : Int) : Int := if 400 < n then 2 else layF wd ch sh
theorem l10Base_c (gf gl : Nat) (A : Option Addr) (n c : Nat) (wd : Int) (ch : Bool) (sh : Int) (w : World) (hp : w.cell? ⟨gf, 0, none⟩ = some (.slice A n c)) (hI : w.heap[gl]? = some (.cells #[.int .i64 wd, .bool ch, .int .i64 sh] 25 (0, 0))) (hgl : gl < w.heap.size) (hm : n ≤ 1048576) (q : Int) (hq : baseF n wd ch sh = q)
    (R : Ending → World → Prop) (h : ∀ w', Below w.heap.size w w' → R (.returned (.int .i64 q)) w') :
    Calls Try.prog 84 #[.pointer (some ⟨gf, 0, none⟩), .pointer (some ⟨gl, 0, none⟩)] w R := by
  have H := Lib.hid h
  clear h
  unfold baseF at hq
  by_cases h4 : 400 < n
  · rw [if_pos h4] at hq
    subst hq
    (change Calls _ _ _ _ (Fin R); go_enter Try.func84, Try.ntmps84)
    go_wp2_with (fail)
    refine l2Fault_c gf A n c _ hp hm 2 (if_pos h4) _ ?_
    intro w1 hb1
    go_wp2_with (fail)
    go_ret
    exact H.out _ hb1
  · rw [if_neg h4] at hq
    (change Calls _ _ _ _ (Fin R); go_enter Try.func84, Try.ntmps84)
    go_wp2_with (fail)
    refine l2Fault_c gf A n c _ hp hm 0 (if_neg h4) _ ?_
    intro w1 hb1
    have hI1 := (hb1.block gl hgl).trans hI
    go_wp2_with (fail)
    refine l10Fault_c gl wd ch sh _ hI1 q hq _ ?_
    intro w2 hb2
    go_wp2_with (fail)
    go_ret
    exact H.out _ (hb1.trans (hb2.mono hb1.size))
/-- What is wrong with a spot in lines of so many rows. -/
def spotInF (cs : List Int) (a b : Int) : Int := if cs.length = 0 then (if a = 0 ∧ b = 0 then 0 else 4) else if (0 ≤ a ∧ a < (cs.length : Int)) ∧ (0 ≤ b ∧ b < rd cs a) then 0 else 3
theorem rd_bd {cs : List Int} (h : ∀ x ∈ cs, 1 ≤ x ∧ x ≤ 1073741824) (a : Int) : 0 ≤ rd cs a ∧ rd cs a ≤ 1073741824 := by
  unfold rd
  rw [List.getD_eq_getElem?_getD]
  cases e : cs[a.toNat]? with
  | none => simp
  | some x => have := h x (List.mem_of_getElem? e); simp; omega
theorem spotIn_eq {cs : List Int} (h : ∀ x ∈ cs, 1 ≤ x ∧ x ≤ 1073741824) (hl : cs.length ≤ 1073741824) (a b : Int) : spec_l10SpotIn.f cs a b = some (spotInF cs a b) := by
  have hr := rd_bd h a
  unfold spec_l10SpotIn.f spotInF
  by_cases h0 : cs.length = 0
  · rw [if_pos (by omega), if_pos h0]
    by_cases ha : a = 0 <;> by_cases hb : b = 0 <;> simp [ha, hb]
  · rw [if_neg (by omega), if_neg h0, w64 (by omega) (by omega)]
    simp only [l1In_eq, Option.bind_some]
    by_cases h1 : 0 ≤ a ∧ a < (cs.length : Int)
    · rw [if_pos (decide_eq_true (by omega)), if_pos h1.1, if_pos h1.2, w64 (by omega) (by omega)]
      by_cases h2 : 0 ≤ b ∧ b < rd cs a
      · rw [if_pos (decide_eq_true (by omega)), if_pos ⟨h1, h2⟩]
      · rw [if_neg (by simp; omega), if_neg (fun q => h2 q.2)]
    · rw [if_neg (by simp; omega), if_neg (fun q => h1 q.1)]
theorem cntL_in {l : List Int} (hl : l.length ≤ 1048576) {wd : Int} (ch : Bool) (h1 : 1 ≤ wd) : ∀ x ∈ cntL l wd ch, 1 ≤ x ∧ x ≤ 1073741824 := by
  intro x hx
  rw [cntL] at hx
  obtain ⟨s, hs, rfl⟩ := List.mem_map.mp hx
  have := rowN_in (n := (cellsS (subL l s.f0.toNat s.f1.toNat)).length) ch h1
  have hc := cellsS_len (subL l s.f0.toNat s.f1.toNat)
  have hs2 : (subL l s.f0.toNat s.f1.toNat).length ≤ l.length := by rw [subL, List.length_drop, List.length_take]; omega
  unfold cntS
  omega
theorem cntL_len (l : List Int) (wd : Int) (ch : Bool) : (cntL l wd ch).length ≤ l.length + 1 := by rw [cntL, List.length_map]; exact linL_len l
/-- What is wrong with a file, a layout and a spot. -/
def spotF (l : List Int) (wd : Int) (ch : Bool) (sh a b : Int) : Int := if baseF l.length wd ch sh = 0 then spotInF (cntL l wd ch) a b else baseF l.length wd ch sh
theorem baseF_zero {n : Nat} {wd : Int} {ch : Bool} {sh : Int} (h : baseF n wd ch sh = 0) : n ≤ 400 ∧ layF wd ch sh = 0 := by
  unfold baseF at h
  split at h
  · cases h
  · exact ⟨by omega, h⟩
theorem l10SpotIn_c (A : Option Addr) (c : Nat) (cs : List Int) (a b q : Int) (w : World) (hx : Kd.C (Kd.int .i64) w A cs.length cs) (hc : cs.length ≤ c) (hq : spec_l10SpotIn.f cs a b = some q)
    (R : Ending → World → Prop) (h : ∀ w', Below w.heap.size w w' → R (.returned (.int .i64 q)) w') :
    Calls Try.prog 110 #[.slice A cs.length c, .agg #[.int .i64 a, .int .i64 b]] w R := by
  refine (spec_l10SpotIn.calls A c cs a b q w hx hc hq).mono ?_
  rintro e w' ⟨rfl, hb⟩
  exact h w' hb
set_option maxRecDepth 20000 in
set_option maxHeartbeats 2000000 in
theorem l10Spot_c (gf gl : Nat) (A : Option Addr) (n c : Nat) (l : List Int) (wd : Int) (ch : Bool) (sh a b : Int) (w : World) (hp : w.cell? ⟨gf, 0, none⟩ = some (.slice A n c)) (hI : w.heap[gl]? = some (.cells #[.int .i64 wd, .bool ch, .int .i64 sh] 25 (0, 0))) (hn : l.length = n) (hx : Row eU 1 w A l) (hc : n ≤ c) (ho : lineOk l = true) (hgl : gl < w.heap.size) (hgf : gf < w.heap.size) (q : Int) (hq : spotF l wd ch sh a b = q)
    (R : Ending → World → Prop) (h : ∀ w', Below w.heap.size w w' → R (.returned (.int .i64 q)) w') :
    Calls Try.prog 78 #[.pointer (some ⟨gf, 0, none⟩), .pointer (some ⟨gl, 0, none⟩), .agg #[.int .i64 a, .int .i64 b]] w R := by
  have H := Lib.hid h
  have HX := Lib.hid hx
  have HN := Lib.hid hn
  have HO := Lib.hid ho
  have hm : n ≤ 1048576 := by rw [← hn]; exact lineOk_len ho
  obtain ⟨q0, hq0⟩ : ∃ q0, baseF n wd ch sh = q0 := ⟨_, rfl⟩
  obtain ⟨W, hW⟩ : ∃ W, W = w.alloc (Obj.cells #[.int .i64 a, .int .i64 b] 63) := ⟨_, rfl⟩
  obtain ⟨b1, f1, hz1, G0⟩ := box1 _ _ _ W hW
  have HW := Lib.hid hW
  have hp0 := cell_below G0 hp
  have hI0 := (G0.block gl hgl).trans hI
  have hgl0 : gl < W.heap.size := by omega
  unfold spotF at hq
  rw [hn, hq0] at hq
  clear h hx hn ho hW f1 hp hI
  by_cases hz : q0 = 0
  · subst hz
    rw [if_pos rfl] at hq
    obtain ⟨h400, hlay⟩ := baseF_zero hq0
    obtain ⟨w1', w2', _, _, _⟩ := layF_zero hlay
    have HQ := Lib.hid hq
    have HL := Lib.hid hlay
    have HQ0 := Lib.hid hq0
    clear hq hlay hq0
    (change Calls _ _ _ _ (Fin R); go_enter Try.func78, Try.ntmps78)
    go_wp2_with (fail)
    rw [← HW.out]
    refine l10Base_c gf gl A n c wd ch sh _ hp0 hI0 hgl0 hm 0 HQ0.out _ ?_
    intro w1 hb1
    have hp1 := cell_below hb1 hp0
    have hI1 := (hb1.block gl hgl0).trans hI0
    have hgl1 : gl < w1.heap.size := Nat.lt_of_lt_of_le hgl0 hb1.size
    have b2 := blk_keep b1 (by omega) hb1
    have hz2 : w.heap.size < w1.heap.size := by have := hb1.size; omega
    have hG1 := G0.trans (hb1.mono G0.size)
    clear b1 hb1 hp0 hI0
    have hx1 := Lib.hid (HX.out.below hG1)
    have hcl := cntL_len l wd ch
    rw [HN.out] at hcl
    have hF := spotIn_eq (cntL_in (l := l) (by rw [HN.out]; exact hm) ch w1') (by omega) a b
    rw [HQ.out] at hF
    have HF := Lib.hid hF
    have hp1' : w1.drew.cell? ⟨gf, 0, none⟩ = some (.slice A n c) := hp1
    have hI1' : w1.drew.heap[gl]? = some (.cells #[.int .i64 wd, .bool ch, .int .i64 sh] 25 (0, 0)) := hI1
    have hx1' := Lib.hid (show Row eU 1 w1.drew A l from hx1.out.keeps (keeps_refl w1))
    clear hF hp1 hI1
    go_wp2_with (fail)
    go_region_with (first | (go_at_call 86; refine l10Counts_c gf gl A n c l wd ch sh _ hp1' hI1' HN.out hx1'.out hc HO.out w1' w2' hgl1 _ ?_; intro A2 c2 w2 ho2 hc2 hm2 hb2; have hG2 := hG1.trans ((below_drew hb2).mono hG1.size); have b3 := blk_keep b2 hz2 (below_drew hb2); have HR2 := Lib.hid (show Kd.C (Kd.int .i64) w2 A2 (cntL l wd ch).length (cntL l wd ch) from C_ints (by omega) ho2.rowOf); clear ho2 hb2) | (go_at_call 110; refine l10SpotIn_c A2 c2 (cntL l wd ch) a b q _ HR2.out hc2 HF.out _ ?_; intro w3 hb3; have hG3 := hG2.trans (hb3.mono hG2.size)))
    all_goals go_wp2
    all_goals go_ret
    all_goals exact H.out _ hG3
  · rw [if_neg hz] at hq
    subst hq
    have hz1 : (q0 != 0) = true := by simpa using hz
    have hz2 : (q0 == 0) = false := by simpa using hz
    have HQ0 := Lib.hid hq0
    clear hq0
    (change Calls _ _ _ _ (Fin R); go_enter Try.func78, Try.ntmps78)
    go_wp2_with (fail)
    rw [← HW.out]
    refine l10Base_c gf gl A n c wd ch sh _ hp0 hI0 hgl0 hm q0 HQ0.out _ ?_
    intro w1 hb1
    go_wp2_with (fail)
    go_ret
    exact H.out _ (G0.trans (hb1.mono G0.size))
end Go.Proofs.Ytcinaflmpdmdaaa.M
end
section
namespace Go.Proofs.Ytcinaflmpdmdaaa.Q
open Go.RowKit Go.Proofs.YtcinaflmpdmdaaaW.PrintWords Go.Proofs.YtcinaflmpdmdaaaW.PrintLast Go.Proofs.YtcinaflmpdmdaaaW.PrintMore
attribute [local go_sem] max2_int min2_int max_two min_two max_three min_three max_four min_four   -- for this text's walks alone
set_option linter.unusedVariables false
set_option linter.unusedSimpArgs false
/-! ### impl_rowsOf: function 80 -/
def impl_rowsOf.f (l0_0 : List Int) (a1_0 : Int) (a1_1 : Bool) (a1_2 : Int) : Option (List Int):=if (M.lineOk l0_0 && decide (1 ≤ a1_0 ∧ a1_0 ≤ 40)) = true then some (M.cntL l0_0 a1_0 a1_1) else none
theorem impl_rowsOf.calls (A0_0 : Option Addr) (c0_0 : Nat) (l0_0 : List Int) (a1_0 : Int) (a1_1 : Bool) (a1_2 : Int) (r : List Int) (w : World) (hr0_0 : Kd.C (Kd.int .u8) w A0_0 l0_0.length l0_0) (hc0_0 : l0_0.length ≤ c0_0) (h : impl_rowsOf.f l0_0 a1_0 a1_1 a1_2 = some r) :
 Calls Try.prog 80 #[.agg #[.slice A0_0 l0_0.length c0_0],.agg #[.int .i64 a1_0,.bool a1_1,.int .i64 a1_2]] w fun e w' => ∃ v0_ : Value,e = .returned (v0_) ∧ Kd.R (Kd.int .i64) 2 w' w.heap.size (fun _ => True) v0_ r ∧ Below w.heap.size w w':=by
 unfold impl_rowsOf.f at h
 split at h
 · rename_i hok
   obtain rfl:=Option.some.inj h
   rw [Bool.and_eq_true,decide_eq_true_eq] at hok
   exact M.rowsOf_c A0_0 l0_0.length c0_0 l0_0 a1_0 a1_1 a1_2 w rfl (M.row_ints hr0_0) hc0_0 hok.1 hok.2.1 hok.2.2 _ (fun A' c' w' ho _ _ hb => ⟨_,rfl,M.r_i64 ho,hb⟩)
 · cases h
end Go.Proofs.Ytcinaflmpdmdaaa.Q
end
section
namespace Go.Proofs.Ytcinaflmpdmdaaa.Q
open Go.RowKit Go.Proofs.YtcinaflmpdmdaaaW.PrintWords Go.Proofs.YtcinaflmpdmdaaaW.PrintLast Go.Proofs.YtcinaflmpdmdaaaW.PrintMore
attribute [local go_sem] max2_int min2_int max_two min_two max_three min_three max_four min_four   -- for this text's walks alone
set_option linter.unusedVariables false
set_option linter.unusedSimpArgs false
/-! ### impl_SpotFault: function 42 -/
def impl_SpotFault.f (k : Nat) (l0_0 : List Int) (a1_0 : Int) (a1_1 : Bool) (a1_2 : Int) (a2_0 : Int) (a2_1 : Int) : Option (Int):=(impl_layoutCode.f k l0_0 a1_0 a1_1 a1_2).bind fun t104 => (if t104 = 0 then ((impl_rowsOf.f l0_0 a1_0 a1_1 a1_2).bind fun t105 => ((impl_isSpot.f t105 a2_0 a2_1).bind fun t108 => (if t108 = true then (some 0) else (if (t105.length : Int) = 0 then (some 4) else (some 3))))) else (some t104))
theorem impl_SpotFault.mono : ∀ a0 a1 a2 a3 a4 a5 k,LeO (impl_SpotFault.f k a0 a1 a2 a3 a4 a5) (impl_SpotFault.f (k + 1) a0 a1 a2 a3 a4 a5):=by
 intro a0 a1 a2 a3 a4 a5 k
 unfold impl_SpotFault.f
 repeat' first
  | (with_reducible exact impl_layoutCode.mono _ _ _ _ _)
  | (with_reducible exact LeO.refl _)
  | (with_reducible exact LeO.none _)
  | (with_reducible refine LeO.ite ?_ ?_)
  | (with_reducible refine LeO.bind ?_ (fun _ => ?_))
  | exact impl_layoutCode.mono _ _ _ _ _
  | exact LeO.none _
  | refine LeO.ite ?_ ?_
  | refine LeO.bind ?_ (fun _ => ?_)
set_option maxHeartbeats 8000000 in
set_option maxRecDepth 100000 in
theorem impl_SpotFault.calls (k : Nat) (A0_0 : Option Addr) (c0_0 : Nat) (l0_0 : List Int) (a1_0 : Int) (a1_1 : Bool) (a1_2 : Int) (a2_0 : Int) (a2_1 : Int) (r : Int) (w : World) (hr0_0 : Kd.C (Kd.int .u8) w A0_0 l0_0.length l0_0) (hc0_0 : l0_0.length ≤ c0_0) (h : impl_SpotFault.f k l0_0 a1_0 a1_1 a1_2 a2_0 a2_1 = some r) :
 Calls Try.prog 42 #[.agg #[.slice A0_0 l0_0.length c0_0],.agg #[.int .i64 a1_0,.bool a1_1,.int .i64 a1_2],.agg #[.int .i64 a2_0,.int .i64 a2_1]] w fun e w' => e = .returned (.int .i64 r) ∧ Below w.heap.size w w':=by
 have hu61:=Try.underlying61
 have hu25:=Try.underlying25
 have hu63:=Try.underlying63
 have HR0_0:=Aside0.mk hr0_0
 have HC0_0:=Aside0.mk hc0_0
 clear hr0_0 hc0_0
 have HB:=Aside0.mk (Below.refl w.heap.size w)
 have H : ((impl_layoutCode.f k l0_0 a1_0 a1_1 a1_2).bind fun t104 => (if t104 = 0 then ((impl_rowsOf.f l0_0 a1_0 a1_1 a1_2).bind fun t105 => ((impl_isSpot.f t105 a2_0 a2_1).bind fun t108 => (if t108 = true then (some 0) else (if (t105.length : Int) = 0 then (some 4) else (some 3))))) else (some t104))) = some r:=h
 clear h
 replace H:=Option.bind_eq_some_iff.mp H
 obtain ⟨t104,A40,H⟩:=H
 replace H : (if t104 = 0 then ((impl_rowsOf.f l0_0 a1_0 a1_1 a1_2).bind fun t105 => ((impl_isSpot.f t105 a2_0 a2_1).bind fun t108 => (if t108 = true then (some 0) else (if (t105.length : Int) = 0 then (some 4) else (some 3))))) else (some t104)) = some r:=H
 have A4:=Aside0.mk A40
 clear A40
 by_cases c5 : t104 = 0
 · rw [if_pos c5] at H
   have c5b0 : (t104 == 0) = true:=beq_iff_eq.mpr c5
   have c5b1 : (t104 != 0) = false:=bne_eq_false_iff_eq.mpr c5
   clear c5
   replace H:=Option.bind_eq_some_iff.mp H
   obtain ⟨t105,A60,H⟩:=H
   replace H : ((impl_isSpot.f t105 a2_0 a2_1).bind fun t108 => (if t108 = true then (some 0) else (if (t105.length : Int) = 0 then (some 4) else (some 3)))) = some r:=H
   have A6:=Aside0.mk A60
   clear A60
   replace H:=Option.bind_eq_some_iff.mp H
   obtain ⟨t108,A70,H⟩:=H
   replace H : (if t108 = true then (some 0) else (if (t105.length : Int) = 0 then (some 4) else (some 3))) = some r:=H
   have A7:=Aside0.mk A70
   clear A70
   by_cases c8 : t108 = true
   · subst c8
     have H1 : (some 0) = some r:=by rw [if_pos rfl] at H;exact H
     clear H
     have H:=H1
     clear H1
     obtain rfl:=Option.some.inj H
     go_enter Try.func42,Try.ntmps42
     go_wp2_with (first|((with_reducible refine gate_dst (N:=3) rfl ?_);refine box_event ?hg (N:=3) ?hd (cs:=#[.slice A0_0 l0_0.length c0_0]) (t:=61) ?hr ?_;(case hd => rfl);(case hg => rfl);(case hr => first|(go_simp;done)|(go_simp;rfl));intro gb101 hg w9 hbox hb;have n0_:=Aside0.mk (below_step (by repeat (first|(with_reducible first|exact HB.out|apply below_alloc|apply pw_below_drewN|apply below_drew1)|exact HB.out)) hb);have n1_:=Aside0.mk (hbox);have n2_:=Aside0.mk ((by rw [hg];exact (below_size (by repeat (first|(with_reducible first|exact HB.out|apply below_alloc|apply pw_below_drewN|apply below_drew1)|exact HB.out))) : w.heap.size ≤ gb101));have n3_:=Aside0.mk ((by rw [hg];exact (below_size (by repeat (first|(with_reducible first|exact HB.out|apply below_alloc|apply pw_below_drewN|apply below_drew1)|exact HB.out))) : w.heap.size ≤ gb101));clear HB;have HB:=n0_;have BK101:=n1_;have GW101:=n2_;have GE101:=n3_;clear n0_ n1_ n2_ n3_;clear hb hbox hg)|((with_reducible refine gate_dst (N:=4) rfl ?_);refine box_event ?hg (N:=4) ?hd (cs:=#[.int .i64 a1_0,.bool a1_1,.int .i64 a1_2]) (t:=25) ?hr ?_;(case hd => rfl);(case hg => rfl);(case hr => first|(go_simp;done)|(go_simp;rfl));intro gb102 hg w10 hbox hb;have n0_:=Aside0.mk (blk_below (g:=gb101) (o:=.cells #[.slice A0_0 l0_0.length c0_0] 61 (0,0)) (by (with_reducible repeat (first|refine blk_drewN ?_ _|refine blk_drew ?_|refine blk_alloc ?_ _));exact BK101.out) hb);have n1_:=Aside0.mk (below_step (by repeat (first|(with_reducible first|exact HB.out|apply below_alloc|apply pw_below_drewN|apply below_drew1|refine below_set ?_ GE101.out)|exact HB.out)) hb);have n2_:=Aside0.mk (hbox);have n3_:=Aside0.mk ((by rw [hg];exact (below_size (by repeat (first|(with_reducible first|exact HB.out|apply below_alloc|apply pw_below_drewN|apply below_drew1|refine below_set ?_ GE101.out)|exact HB.out))) : w.heap.size ≤ gb102));have n4_:=Aside0.mk ((by rw [hg];exact (below_size (by repeat (first|(with_reducible first|exact HB.out|apply below_alloc|apply pw_below_drewN|apply below_drew1|refine below_set ?_ GE101.out)|exact HB.out))) : w.heap.size ≤ gb102));have n5_:=Aside0.mk ((by rw [hg];exact Nat.ne_of_lt (blk_lt (g:=gb101) (o:=.cells #[.slice A0_0 l0_0.length c0_0] 61 (0,0)) (by (with_reducible repeat (first|refine blk_drewN ?_ _|refine blk_drew ?_|refine blk_alloc ?_ _));exact BK101.out)) : gb101 ≠ gb102));have n6_:=Aside0.mk ((by rw [hg];exact Nat.ne_of_gt (blk_lt (g:=gb101) (o:=.cells #[.slice A0_0 l0_0.length c0_0] 61 (0,0)) (by (with_reducible repeat (first|refine blk_drewN ?_ _|refine blk_drew ?_|refine blk_alloc ?_ _));exact BK101.out)) : gb102 ≠ gb101));clear BK101;clear HB;have BK101:=n0_;have HB:=n1_;have BK102:=n2_;have GW102:=n3_;have GE102:=n4_;have NB101_102:=n5_;have NB102_101:=n6_;clear n0_ n1_ n2_ n3_ n4_ n5_ n6_;clear hb hbox hg)|((with_reducible refine gate_dst (N:=5) rfl ?_);refine box_event ?hg (N:=5) ?hd (cs:=#[.int .i64 a2_0,.int .i64 a2_1]) (t:=63) ?hr ?_;(case hd => rfl);(case hg => rfl);(case hr => first|(go_simp;done)|(go_simp;rfl));intro gb103 hg w11 hbox hb;have n0_:=Aside0.mk (blk_below (g:=gb101) (o:=.cells #[.slice A0_0 l0_0.length c0_0] 61 (0,0)) (by (with_reducible repeat (first|refine blk_drewN ?_ _|refine blk_drew ?_|refine blk_alloc ?_ _));exact BK101.out) hb);have n1_:=Aside0.mk (blk_below (g:=gb102) (o:=.cells #[.int .i64 a1_0,.bool a1_1,.int .i64 a1_2] 25 (0,0)) (by (with_reducible repeat (first|refine blk_drewN ?_ _|refine blk_drew ?_|refine blk_alloc ?_ _));exact BK102.out) hb);have n2_:=Aside0.mk (below_step (by repeat (first|(with_reducible first|exact HB.out|apply below_alloc|apply pw_below_drewN|apply below_drew1|refine below_set ?_ GE101.out|refine below_set ?_ GE102.out)|exact HB.out)) hb);have n3_:=Aside0.mk (hbox);have n4_:=Aside0.mk ((by rw [hg];exact (below_size (by repeat (first|(with_reducible first|exact HB.out|apply below_alloc|apply pw_below_drewN|apply below_drew1|refine below_set ?_ GE101.out|refine below_set ?_ GE102.out)|exact HB.out))) : w.heap.size ≤ gb103));have n5_:=Aside0.mk ((by rw [hg];exact (below_size (by repeat (first|(with_reducible first|exact HB.out|apply below_alloc|apply pw_below_drewN|apply below_drew1|refine below_set ?_ GE101.out|refine below_set ?_ GE102.out)|exact HB.out))) : w.heap.size ≤ gb103));have n6_:=Aside0.mk ((by rw [hg];exact Nat.ne_of_lt (blk_lt (g:=gb101) (o:=.cells #[.slice A0_0 l0_0.length c0_0] 61 (0,0)) (by (with_reducible repeat (first|refine blk_drewN ?_ _|refine blk_drew ?_|refine blk_alloc ?_ _));exact BK101.out)) : gb101 ≠ gb103));have n7_:=Aside0.mk ((by rw [hg];exact Nat.ne_of_gt (blk_lt (g:=gb101) (o:=.cells #[.slice A0_0 l0_0.length c0_0] 61 (0,0)) (by (with_reducible repeat (first|refine blk_drewN ?_ _|refine blk_drew ?_|refine blk_alloc ?_ _));exact BK101.out)) : gb103 ≠ gb101));have n8_:=Aside0.mk ((by rw [hg];exact Nat.ne_of_lt (blk_lt (g:=gb102) (o:=.cells #[.int .i64 a1_0,.bool a1_1,.int .i64 a1_2] 25 (0,0)) (by (with_reducible repeat (first|refine blk_drewN ?_ _|refine blk_drew ?_|refine blk_alloc ?_ _));exact BK102.out)) : gb102 ≠ gb103));have n9_:=Aside0.mk ((by rw [hg];exact Nat.ne_of_gt (blk_lt (g:=gb102) (o:=.cells #[.int .i64 a1_0,.bool a1_1,.int .i64 a1_2] 25 (0,0)) (by (with_reducible repeat (first|refine blk_drewN ?_ _|refine blk_drew ?_|refine blk_alloc ?_ _));exact BK102.out)) : gb103 ≠ gb102));clear BK101;clear BK102;clear HB;have BK101:=n0_;have BK102:=n1_;have HB:=n2_;have BK103:=n3_;have GW103:=n4_;have GE103:=n5_;have NB101_103:=n6_;have NB103_101:=n7_;have NB102_103:=n8_;have NB103_102:=n9_;clear n0_ n1_ n2_ n3_ n4_ n5_ n6_ n7_ n8_ n9_;clear hb hbox hg;have hnb12:=NB101_102.out;have hnc12:=NB102_101.out;have hnb13:=NB101_103.out;have hnc13:=NB103_101.out;have hcz14_0 : w11.cell? ⟨gb101,0,none⟩ = some (.slice A0_0 l0_0.length c0_0):=(blk_cell BK101.out 0).trans rfl;have hfz14_0:=blk_frozen BK101.out 0;have hnb15:=NB102_103.out;have hnc15:=NB103_102.out;have hcz16_0 : w11.cell? ⟨gb102,0,none⟩ = some (.int .i64 a1_0):=(blk_cell BK102.out 0).trans rfl;have hcz16_1 : w11.cell? ⟨gb102,1,none⟩ = some (.bool a1_1):=(blk_cell BK102.out 1).trans rfl;have hcz16_2 : w11.cell? ⟨gb102,2,none⟩ = some (.int .i64 a1_2):=(blk_cell BK102.out 2).trans rfl;have hfz16_0:=blk_frozen BK102.out 0;have hfz16_1:=blk_frozen BK102.out 1;have hfz16_2:=blk_frozen BK102.out 2)|((with_reducible refine gate_callee (f:=79) rfl ?_);refine goesL_ (some 11) rfl rfl Try.func79 (by kernel_rfl) rfl #[.agg #[.slice A0_0 l0_0.length c0_0],.agg #[.int .i64 a1_0,.bool a1_1,.int .i64 a1_2]] rfl (by (try simp only [List.map_toArray,List.map_cons,List.map_nil]);first|done|rfl|(simp only [List.length_drop,List.length_take];rfl)) ?_;(with_reducible refine (impl_layoutCode.calls k _ _ l0_0 a1_0 a1_1 a1_2 t104 _ ?side1 ?side2 A4.out).mono ?_);(case side1 => repeat (first|exact (Kd.C_below HR0_0.out HB.out)|(with_reducible refine Kd.C_alloc ?_ _)|(with_reducible refine Kd.C_drewN ?_ _)|(with_reducible refine Kd.C_drew ?_)));(case side2 => exact HC0_0.out);rintro e w17 ⟨rfl,hb⟩;refine ⟨_,rfl,?_⟩;have n0_:=Aside0.mk (blk_below (g:=gb101) (o:=.cells #[.slice A0_0 l0_0.length c0_0] 61 (0,0)) (by (with_reducible repeat (first|refine blk_drewN ?_ _|refine blk_drew ?_|refine blk_alloc ?_ _));exact BK101.out) hb);have n1_:=Aside0.mk (blk_below (g:=gb102) (o:=.cells #[.int .i64 a1_0,.bool a1_1,.int .i64 a1_2] 25 (0,0)) (by (with_reducible repeat (first|refine blk_drewN ?_ _|refine blk_drew ?_|refine blk_alloc ?_ _));exact BK102.out) hb);have n2_:=Aside0.mk (blk_below (g:=gb103) (o:=.cells #[.int .i64 a2_0,.int .i64 a2_1] 63 (0,0)) (by (with_reducible repeat (first|refine blk_drewN ?_ _|refine blk_drew ?_|refine blk_alloc ?_ _));exact BK103.out) hb);have n3_:=Aside0.mk (below_step (by repeat (first|(with_reducible first|exact HB.out|apply below_alloc|apply pw_below_drewN|apply below_drew1|refine below_set ?_ GE101.out|refine below_set ?_ GE102.out|refine below_set ?_ GE103.out)|exact HB.out)) hb);clear BK101;clear BK102;clear BK103;clear HB;have BK101:=n0_;have BK102:=n1_;have BK103:=n2_;have HB:=n3_;clear n0_ n1_ n2_ n3_;(try clear hb);(try clear hb2);(try clear hk);(try clear hi);have hcz18_0 : w17.cell? ⟨gb101,0,none⟩ = some (.slice A0_0 l0_0.length c0_0):=(blk_cell BK101.out 0).trans rfl;have hfz18_0:=blk_frozen BK101.out 0;have hcz19_0 : w17.cell? ⟨gb102,0,none⟩ = some (.int .i64 a1_0):=(blk_cell BK102.out 0).trans rfl;have hcz19_1 : w17.cell? ⟨gb102,1,none⟩ = some (.bool a1_1):=(blk_cell BK102.out 1).trans rfl;have hcz19_2 : w17.cell? ⟨gb102,2,none⟩ = some (.int .i64 a1_2):=(blk_cell BK102.out 2).trans rfl;have hfz19_0:=blk_frozen BK102.out 0;have hfz19_1:=blk_frozen BK102.out 1;have hfz19_2:=blk_frozen BK102.out 2)|((with_reducible refine gate_callee (f:=80) rfl ?_);refine goesL_ (some 17) rfl rfl Try.func80 (by kernel_rfl) rfl #[.agg #[.slice A0_0 l0_0.length c0_0],.agg #[.int .i64 a1_0,.bool a1_1,.int .i64 a1_2]] rfl (by (try simp only [List.map_toArray,List.map_cons,List.map_nil]);first|done|rfl|(simp only [List.length_drop,List.length_take];rfl)) ?_;(with_reducible refine (impl_rowsOf.calls _ _ l0_0 a1_0 a1_1 a1_2 t105 _ ?side1 ?side2 A6.out).mono ?_);(case side1 => repeat (first|exact (Kd.C_below HR0_0.out HB.out)|(with_reducible refine Kd.C_alloc ?_ _)|(with_reducible refine Kd.C_drewN ?_ _)|(with_reducible refine Kd.C_drew ?_)));(case side2 => exact HC0_0.out);rintro e w20 ⟨v106,rfl,ho0,hb⟩;refine ⟨_,rfl,?_⟩;have n0_:=Aside0.mk (Kd.R_lower ho0 (below_size (by repeat (first|(with_reducible first|exact HB.out|apply below_alloc|apply pw_below_drewN|apply below_drew1|refine below_set ?_ GE101.out|refine below_set ?_ GE102.out|refine below_set ?_ GE103.out)|exact HB.out))));have n1_:=Aside0.mk (blk_below (g:=gb101) (o:=.cells #[.slice A0_0 l0_0.length c0_0] 61 (0,0)) (by (with_reducible repeat (first|refine blk_drewN ?_ _|refine blk_drew ?_|refine blk_alloc ?_ _));exact BK101.out) hb);have n2_:=Aside0.mk (blk_below (g:=gb102) (o:=.cells #[.int .i64 a1_0,.bool a1_1,.int .i64 a1_2] 25 (0,0)) (by (with_reducible repeat (first|refine blk_drewN ?_ _|refine blk_drew ?_|refine blk_alloc ?_ _));exact BK102.out) hb);have n3_:=Aside0.mk (blk_below (g:=gb103) (o:=.cells #[.int .i64 a2_0,.int .i64 a2_1] 63 (0,0)) (by (with_reducible repeat (first|refine blk_drewN ?_ _|refine blk_drew ?_|refine blk_alloc ?_ _));exact BK103.out) hb);have n4_:=Aside0.mk (below_step (by repeat (first|(with_reducible first|exact HB.out|apply below_alloc|apply pw_below_drewN|apply below_drew1|refine below_set ?_ GE101.out|refine below_set ?_ GE102.out|refine below_set ?_ GE103.out)|exact HB.out)) hb);clear BK101;clear BK102;clear BK103;clear HB;have HO107:=n0_;have BK101:=n1_;have BK102:=n2_;have BK103:=n3_;have HB:=n4_;clear n0_ n1_ n2_ n3_ n4_;(try clear hb);(try clear hb2);(try clear hk);(try clear hi);(try clear ho0);have hcz21_0 : w20.cell? ⟨gb103,0,none⟩ = some (.int .i64 a2_0):=(blk_cell BK103.out 0).trans rfl;have hcz21_1 : w20.cell? ⟨gb103,1,none⟩ = some (.int .i64 a2_1):=(blk_cell BK103.out 1).trans rfl;have hfz21_0:=blk_frozen BK103.out 0;have hfz21_1:=blk_frozen BK103.out 1;obtain ⟨Ao22,co22,eo22⟩:=Kd.R_slice HO107.out;subst eo22)|((with_reducible refine gate_callee (f:=81) rfl ?_);refine goesL_ (some 21) rfl rfl Try.func81 (by kernel_rfl) rfl #[.slice Ao22 t105.length co22,.agg #[.int .i64 a2_0,.int .i64 a2_1]] rfl (by (try simp only [List.map_toArray,List.map_cons,List.map_nil]);first|done|rfl|(simp only [List.length_drop,List.length_take];rfl)) ?_;(with_reducible refine (impl_isSpot.calls _ _ t105 a2_0 a2_1 true _ ?side1 ?side2 A7.out).mono ?_);(case side1 => repeat (first|exact (Kd.R_reads' HO107.out).2.2|(with_reducible refine Kd.C_alloc ?_ _)|(with_reducible refine Kd.C_drewN ?_ _)|(with_reducible refine Kd.C_drew ?_)));(case side2 => exact (Kd.R_reads' HO107.out).2.1);rintro e w23 ⟨rfl,hb⟩;refine ⟨_,rfl,?_⟩;have n0_:=Aside0.mk (Kd.R_below (by (with_reducible repeat (first|apply Kd.R_alloc|apply Kd.R_drewN|apply Kd.R_drew));exact HO107.out) hb);have n1_:=Aside0.mk (blk_below (g:=gb101) (o:=.cells #[.slice A0_0 l0_0.length c0_0] 61 (0,0)) (by (with_reducible repeat (first|refine blk_drewN ?_ _|refine blk_drew ?_|refine blk_alloc ?_ _));exact BK101.out) hb);have n2_:=Aside0.mk (blk_below (g:=gb102) (o:=.cells #[.int .i64 a1_0,.bool a1_1,.int .i64 a1_2] 25 (0,0)) (by (with_reducible repeat (first|refine blk_drewN ?_ _|refine blk_drew ?_|refine blk_alloc ?_ _));exact BK102.out) hb);have n3_:=Aside0.mk (blk_below (g:=gb103) (o:=.cells #[.int .i64 a2_0,.int .i64 a2_1] 63 (0,0)) (by (with_reducible repeat (first|refine blk_drewN ?_ _|refine blk_drew ?_|refine blk_alloc ?_ _));exact BK103.out) hb);have n4_:=Aside0.mk (below_step (by repeat (first|(with_reducible first|exact HB.out|apply below_alloc|apply pw_below_drewN|apply below_drew1|refine below_set ?_ GE101.out|refine below_set ?_ GE102.out|refine below_set ?_ GE103.out)|exact HB.out)) hb);clear HO107;clear BK101;clear BK102;clear BK103;clear HB;have HO107:=n0_;have BK101:=n1_;have BK102:=n2_;have BK103:=n3_;have HB:=n4_;clear n0_ n1_ n2_ n3_ n4_;(try clear hb);(try clear hb2);(try clear hk);(try clear hi)))
     go_ret
     exact ⟨by first|rfl|(simp [errW_none,errW_some] <;> rfl)|(simp [*,errW_none,errW_some] <;> rfl),by repeat (first|(with_reducible first|exact HB.out|apply below_alloc|apply pw_below_drewN|apply below_drew1|refine below_set ?_ GE101.out|refine below_set ?_ GE102.out|refine below_set ?_ GE103.out)|exact HB.out)⟩
   · replace c8:=Bool.eq_false_iff.mpr c8
     subst c8
     have H1 : (if (t105.length : Int) = 0 then (some 4) else (some 3)) = some r:=by rw [if_neg (show ¬ (false = true) by decide)] at H;exact H
     clear H
     have H:=H1
     clear H1
     by_cases c24 : (t105.length : Int) = 0
     · rw [if_pos c24] at H
       have c24b0 : ((t105.length : Int) == 0) = true:=beq_iff_eq.mpr c24
       have c24b1 : ((t105.length : Int) != 0) = false:=bne_eq_false_iff_eq.mpr c24
       clear c24
       obtain rfl:=Option.some.inj H
       go_enter Try.func42,Try.ntmps42
       go_wp2_with (first|((with_reducible refine gate_dst (N:=3) rfl ?_);refine box_event ?hg (N:=3) ?hd (cs:=#[.slice A0_0 l0_0.length c0_0]) (t:=61) ?hr ?_;(case hd => rfl);(case hg => rfl);(case hr => first|(go_simp;done)|(go_simp;rfl));intro gb101 hg w25 hbox hb;have n0_:=Aside0.mk (below_step (by repeat (first|(with_reducible first|exact HB.out|apply below_alloc|apply pw_below_drewN|apply below_drew1)|exact HB.out)) hb);have n1_:=Aside0.mk (hbox);have n2_:=Aside0.mk ((by rw [hg];exact (below_size (by repeat (first|(with_reducible first|exact HB.out|apply below_alloc|apply pw_below_drewN|apply below_drew1)|exact HB.out))) : w.heap.size ≤ gb101));have n3_:=Aside0.mk ((by rw [hg];exact (below_size (by repeat (first|(with_reducible first|exact HB.out|apply below_alloc|apply pw_below_drewN|apply below_drew1)|exact HB.out))) : w.heap.size ≤ gb101));clear HB;have HB:=n0_;have BK101:=n1_;have GW101:=n2_;have GE101:=n3_;clear n0_ n1_ n2_ n3_;clear hb hbox hg)|((with_reducible refine gate_dst (N:=4) rfl ?_);refine box_event ?hg (N:=4) ?hd (cs:=#[.int .i64 a1_0,.bool a1_1,.int .i64 a1_2]) (t:=25) ?hr ?_;(case hd => rfl);(case hg => rfl);(case hr => first|(go_simp;done)|(go_simp;rfl));intro gb102 hg w26 hbox hb;have n0_:=Aside0.mk (blk_below (g:=gb101) (o:=.cells #[.slice A0_0 l0_0.length c0_0] 61 (0,0)) (by (with_reducible repeat (first|refine blk_drewN ?_ _|refine blk_drew ?_|refine blk_alloc ?_ _));exact BK101.out) hb);have n1_:=Aside0.mk (below_step (by repeat (first|(with_reducible first|exact HB.out|apply below_alloc|apply pw_below_drewN|apply below_drew1|refine below_set ?_ GE101.out)|exact HB.out)) hb);have n2_:=Aside0.mk (hbox);have n3_:=Aside0.mk ((by rw [hg];exact (below_size (by repeat (first|(with_reducible first|exact HB.out|apply below_alloc|apply pw_below_drewN|apply below_drew1|refine below_set ?_ GE101.out)|exact HB.out))) : w.heap.size ≤ gb102));have n4_:=Aside0.mk ((by rw [hg];exact (below_size (by repeat (first|(with_reducible first|exact HB.out|apply below_alloc|apply pw_below_drewN|apply below_drew1|refine below_set ?_ GE101.out)|exact HB.out))) : w.heap.size ≤ gb102));have n5_:=Aside0.mk ((by rw [hg];exact Nat.ne_of_lt (blk_lt (g:=gb101) (o:=.cells #[.slice A0_0 l0_0.length c0_0] 61 (0,0)) (by (with_reducible repeat (first|refine blk_drewN ?_ _|refine blk_drew ?_|refine blk_alloc ?_ _));exact BK101.out)) : gb101 ≠ gb102));have n6_:=Aside0.mk ((by rw [hg];exact Nat.ne_of_gt (blk_lt (g:=gb101) (o:=.cells #[.slice A0_0 l0_0.length c0_0] 61 (0,0)) (by (with_reducible repeat (first|refine blk_drewN ?_ _|refine blk_drew ?_|refine blk_alloc ?_ _));exact BK101.out)) : gb102 ≠ gb101));clear BK101;clear HB;have BK101:=n0_;have HB:=n1_;have BK102:=n2_;have GW102:=n3_;have GE102:=n4_;have NB101_102:=n5_;have NB102_101:=n6_;clear n0_ n1_ n2_ n3_ n4_ n5_ n6_;clear hb hbox hg)|((with_reducible refine gate_dst (N:=5) rfl ?_);refine box_event ?hg (N:=5) ?hd (cs:=#[.int .i64 a2_0,.int .i64 a2_1]) (t:=63) ?hr ?_;(case hd => rfl);(case hg => rfl);(case hr => first|(go_simp;done)|(go_simp;rfl));intro gb103 hg w27 hbox hb;have n0_:=Aside0.mk (blk_below (g:=gb101) (o:=.cells #[.slice A0_0 l0_0.length c0_0] 61 (0,0)) (by (with_reducible repeat (first|refine blk_drewN ?_ _|refine blk_drew ?_|refine blk_alloc ?_ _));exact BK101.out) hb);have n1_:=Aside0.mk (blk_below (g:=gb102) (o:=.cells #[.int .i64 a1_0,.bool a1_1,.int .i64 a1_2] 25 (0,0)) (by (with_reducible repeat (first|refine blk_drewN ?_ _|refine blk_drew ?_|refine blk_alloc ?_ _));exact BK102.out) hb);have n2_:=Aside0.mk (below_step (by repeat (first|(with_reducible first|exact HB.out|apply below_alloc|apply pw_below_drewN|apply below_drew1|refine below_set ?_ GE101.out|refine below_set ?_ GE102.out)|exact HB.out)) hb);have n3_:=Aside0.mk (hbox);have n4_:=Aside0.mk ((by rw [hg];exact (below_size (by repeat (first|(with_reducible first|exact HB.out|apply below_alloc|apply pw_below_drewN|apply below_drew1|refine below_set ?_ GE101.out|refine below_set ?_ GE102.out)|exact HB.out))) : w.heap.size ≤ gb103));have n5_:=Aside0.mk ((by rw [hg];exact (below_size (by repeat (first|(with_reducible first|exact HB.out|apply below_alloc|apply pw_below_drewN|apply below_drew1|refine below_set ?_ GE101.out|refine below_set ?_ GE102.out)|exact HB.out))) : w.heap.size ≤ gb103));have n6_:=Aside0.mk ((by rw [hg];exact Nat.ne_of_lt (blk_lt (g:=gb101) (o:=.cells #[.slice A0_0 l0_0.length c0_0] 61 (0,0)) (by (with_reducible repeat (first|refine blk_drewN ?_ _|refine blk_drew ?_|refine blk_alloc ?_ _));exact BK101.out)) : gb101 ≠ gb103));have n7_:=Aside0.mk ((by rw [hg];exact Nat.ne_of_gt (blk_lt (g:=gb101) (o:=.cells #[.slice A0_0 l0_0.length c0_0] 61 (0,0)) (by (with_reducible repeat (first|refine blk_drewN ?_ _|refine blk_drew ?_|refine blk_alloc ?_ _));exact BK101.out)) : gb103 ≠ gb101));have n8_:=Aside0.mk ((by rw [hg];exact Nat.ne_of_lt (blk_lt (g:=gb102) (o:=.cells #[.int .i64 a1_0,.bool a1_1,.int .i64 a1_2] 25 (0,0)) (by (with_reducible repeat (first|refine blk_drewN ?_ _|refine blk_drew ?_|refine blk_alloc ?_ _));exact BK102.out)) : gb102 ≠ gb103));have n9_:=Aside0.mk ((by rw [hg];exact Nat.ne_of_gt (blk_lt (g:=gb102) (o:=.cells #[.int .i64 a1_0,.bool a1_1,.int .i64 a1_2] 25 (0,0)) (by (with_reducible repeat (first|refine blk_drewN ?_ _|refine blk_drew ?_|refine blk_alloc ?_ _));exact BK102.out)) : gb103 ≠ gb102));clear BK101;clear BK102;clear HB;have BK101:=n0_;have BK102:=n1_;have HB:=n2_;have BK103:=n3_;have GW103:=n4_;have GE103:=n5_;have NB101_103:=n6_;have NB103_101:=n7_;have NB102_103:=n8_;have NB103_102:=n9_;clear n0_ n1_ n2_ n3_ n4_ n5_ n6_ n7_ n8_ n9_;clear hb hbox hg;have hnb28:=NB101_102.out;have hnc28:=NB102_101.out;have hnb29:=NB101_103.out;have hnc29:=NB103_101.out;have hcz30_0 : w27.cell? ⟨gb101,0,none⟩ = some (.slice A0_0 l0_0.length c0_0):=(blk_cell BK101.out 0).trans rfl;have hfz30_0:=blk_frozen BK101.out 0;have hnb31:=NB102_103.out;have hnc31:=NB103_102.out;have hcz32_0 : w27.cell? ⟨gb102,0,none⟩ = some (.int .i64 a1_0):=(blk_cell BK102.out 0).trans rfl;have hcz32_1 : w27.cell? ⟨gb102,1,none⟩ = some (.bool a1_1):=(blk_cell BK102.out 1).trans rfl;have hcz32_2 : w27.cell? ⟨gb102,2,none⟩ = some (.int .i64 a1_2):=(blk_cell BK102.out 2).trans rfl;have hfz32_0:=blk_frozen BK102.out 0;have hfz32_1:=blk_frozen BK102.out 1;have hfz32_2:=blk_frozen BK102.out 2)|((with_reducible refine gate_callee (f:=79) rfl ?_);refine goesL_ (some 11) rfl rfl Try.func79 (by kernel_rfl) rfl #[.agg #[.slice A0_0 l0_0.length c0_0],.agg #[.int .i64 a1_0,.bool a1_1,.int .i64 a1_2]] rfl (by (try simp only [List.map_toArray,List.map_cons,List.map_nil]);first|done|rfl|(simp only [List.length_drop,List.length_take];rfl)) ?_;(with_reducible refine (impl_layoutCode.calls k _ _ l0_0 a1_0 a1_1 a1_2 t104 _ ?side1 ?side2 A4.out).mono ?_);(case side1 => repeat (first|exact (Kd.C_below HR0_0.out HB.out)|(with_reducible refine Kd.C_alloc ?_ _)|(with_reducible refine Kd.C_drewN ?_ _)|(with_reducible refine Kd.C_drew ?_)));(case side2 => exact HC0_0.out);rintro e w33 ⟨rfl,hb⟩;refine ⟨_,rfl,?_⟩;have n0_:=Aside0.mk (blk_below (g:=gb101) (o:=.cells #[.slice A0_0 l0_0.length c0_0] 61 (0,0)) (by (with_reducible repeat (first|refine blk_drewN ?_ _|refine blk_drew ?_|refine blk_alloc ?_ _));exact BK101.out) hb);have n1_:=Aside0.mk (blk_below (g:=gb102) (o:=.cells #[.int .i64 a1_0,.bool a1_1,.int .i64 a1_2] 25 (0,0)) (by (with_reducible repeat (first|refine blk_drewN ?_ _|refine blk_drew ?_|refine blk_alloc ?_ _));exact BK102.out) hb);have n2_:=Aside0.mk (blk_below (g:=gb103) (o:=.cells #[.int .i64 a2_0,.int .i64 a2_1] 63 (0,0)) (by (with_reducible repeat (first|refine blk_drewN ?_ _|refine blk_drew ?_|refine blk_alloc ?_ _));exact BK103.out) hb);have n3_:=Aside0.mk (below_step (by repeat (first|(with_reducible first|exact HB.out|apply below_alloc|apply pw_below_drewN|apply below_drew1|refine below_set ?_ GE101.out|refine below_set ?_ GE102.out|refine below_set ?_ GE103.out)|exact HB.out)) hb);clear BK101;clear BK102;clear BK103;clear HB;have BK101:=n0_;have BK102:=n1_;have BK103:=n2_;have HB:=n3_;clear n0_ n1_ n2_ n3_;(try clear hb);(try clear hb2);(try clear hk);(try clear hi);have hcz34_0 : w33.cell? ⟨gb101,0,none⟩ = some (.slice A0_0 l0_0.length c0_0):=(blk_cell BK101.out 0).trans rfl;have hfz34_0:=blk_frozen BK101.out 0;have hcz35_0 : w33.cell? ⟨gb102,0,none⟩ = some (.int .i64 a1_0):=(blk_cell BK102.out 0).trans rfl;have hcz35_1 : w33.cell? ⟨gb102,1,none⟩ = some (.bool a1_1):=(blk_cell BK102.out 1).trans rfl;have hcz35_2 : w33.cell? ⟨gb102,2,none⟩ = some (.int .i64 a1_2):=(blk_cell BK102.out 2).trans rfl;have hfz35_0:=blk_frozen BK102.out 0;have hfz35_1:=blk_frozen BK102.out 1;have hfz35_2:=blk_frozen BK102.out 2)|((with_reducible refine gate_callee (f:=80) rfl ?_);refine goesL_ (some 17) rfl rfl Try.func80 (by kernel_rfl) rfl #[.agg #[.slice A0_0 l0_0.length c0_0],.agg #[.int .i64 a1_0,.bool a1_1,.int .i64 a1_2]] rfl (by (try simp only [List.map_toArray,List.map_cons,List.map_nil]);first|done|rfl|(simp only [List.length_drop,List.length_take];rfl)) ?_;(with_reducible refine (impl_rowsOf.calls _ _ l0_0 a1_0 a1_1 a1_2 t105 _ ?side1 ?side2 A6.out).mono ?_);(case side1 => repeat (first|exact (Kd.C_below HR0_0.out HB.out)|(with_reducible refine Kd.C_alloc ?_ _)|(with_reducible refine Kd.C_drewN ?_ _)|(with_reducible refine Kd.C_drew ?_)));(case side2 => exact HC0_0.out);rintro e w36 ⟨v106,rfl,ho0,hb⟩;refine ⟨_,rfl,?_⟩;have n0_:=Aside0.mk (Kd.R_lower ho0 (below_size (by repeat (first|(with_reducible first|exact HB.out|apply below_alloc|apply pw_below_drewN|apply below_drew1|refine below_set ?_ GE101.out|refine below_set ?_ GE102.out|refine below_set ?_ GE103.out)|exact HB.out))));have n1_:=Aside0.mk (blk_below (g:=gb101) (o:=.cells #[.slice A0_0 l0_0.length c0_0] 61 (0,0)) (by (with_reducible repeat (first|refine blk_drewN ?_ _|refine blk_drew ?_|refine blk_alloc ?_ _));exact BK101.out) hb);have n2_:=Aside0.mk (blk_below (g:=gb102) (o:=.cells #[.int .i64 a1_0,.bool a1_1,.int .i64 a1_2] 25 (0,0)) (by (with_reducible repeat (first|refine blk_drewN ?_ _|refine blk_drew ?_|refine blk_alloc ?_ _));exact BK102.out) hb);have n3_:=Aside0.mk (blk_below (g:=gb103) (o:=.cells #[.int .i64 a2_0,.int .i64 a2_1] 63 (0,0)) (by (with_reducible repeat (first|refine blk_drewN ?_ _|refine blk_drew ?_|refine blk_alloc ?_ _));exact BK103.out) hb);have n4_:=Aside0.mk (below_step (by repeat (first|(with_reducible first|exact HB.out|apply below_alloc|apply pw_below_drewN|apply below_drew1|refine below_set ?_ GE101.out|refine below_set ?_ GE102.out|refine below_set ?_ GE103.out)|exact HB.out)) hb);clear BK101;clear BK102;clear BK103;clear HB;have HO107:=n0_;have BK101:=n1_;have BK102:=n2_;have BK103:=n3_;have HB:=n4_;clear n0_ n1_ n2_ n3_ n4_;(try clear hb);(try clear hb2);(try clear hk);(try clear hi);(try clear ho0);have hcz37_0 : w36.cell? ⟨gb103,0,none⟩ = some (.int .i64 a2_0):=(blk_cell BK103.out 0).trans rfl;have hcz37_1 : w36.cell? ⟨gb103,1,none⟩ = some (.int .i64 a2_1):=(blk_cell BK103.out 1).trans rfl;have hfz37_0:=blk_frozen BK103.out 0;have hfz37_1:=blk_frozen BK103.out 1;obtain ⟨Ao38,co38,eo38⟩:=Kd.R_slice HO107.out;subst eo38)|((with_reducible refine gate_callee (f:=81) rfl ?_);refine goesL_ (some 21) rfl rfl Try.func81 (by kernel_rfl) rfl #[.slice Ao38 t105.length co38,.agg #[.int .i64 a2_0,.int .i64 a2_1]] rfl (by (try simp only [List.map_toArray,List.map_cons,List.map_nil]);first|done|rfl|(simp only [List.length_drop,List.length_take];rfl)) ?_;(with_reducible refine (impl_isSpot.calls _ _ t105 a2_0 a2_1 false _ ?side1 ?side2 A7.out).mono ?_);(case side1 => repeat (first|exact (Kd.R_reads' HO107.out).2.2|(with_reducible refine Kd.C_alloc ?_ _)|(with_reducible refine Kd.C_drewN ?_ _)|(with_reducible refine Kd.C_drew ?_)));(case side2 => exact (Kd.R_reads' HO107.out).2.1);rintro e w39 ⟨rfl,hb⟩;refine ⟨_,rfl,?_⟩;have n0_:=Aside0.mk (Kd.R_below (by (with_reducible repeat (first|apply Kd.R_alloc|apply Kd.R_drewN|apply Kd.R_drew));exact HO107.out) hb);have n1_:=Aside0.mk (blk_below (g:=gb101) (o:=.cells #[.slice A0_0 l0_0.length c0_0] 61 (0,0)) (by (with_reducible repeat (first|refine blk_drewN ?_ _|refine blk_drew ?_|refine blk_alloc ?_ _));exact BK101.out) hb);have n2_:=Aside0.mk (blk_below (g:=gb102) (o:=.cells #[.int .i64 a1_0,.bool a1_1,.int .i64 a1_2] 25 (0,0)) (by (with_reducible repeat (first|refine blk_drewN ?_ _|refine blk_drew ?_|refine blk_alloc ?_ _));exact BK102.out) hb);have n3_:=Aside0.mk (blk_below (g:=gb103) (o:=.cells #[.int .i64 a2_0,.int .i64 a2_1] 63 (0,0)) (by (with_reducible repeat (first|refine blk_drewN ?_ _|refine blk_drew ?_|refine blk_alloc ?_ _));exact BK103.out) hb);have n4_:=Aside0.mk (below_step (by repeat (first|(with_reducible first|exact HB.out|apply below_alloc|apply pw_below_drewN|apply below_drew1|refine below_set ?_ GE101.out|refine below_set ?_ GE102.out|refine below_set ?_ GE103.out)|exact HB.out)) hb);clear HO107;clear BK101;clear BK102;clear BK103;clear HB;have HO107:=n0_;have BK101:=n1_;have BK102:=n2_;have BK103:=n3_;have HB:=n4_;clear n0_ n1_ n2_ n3_ n4_;(try clear hb);(try clear hb2);(try clear hk);(try clear hi)))
       go_ret
       exact ⟨by first|rfl|(simp [errW_none,errW_some] <;> rfl)|(simp [*,errW_none,errW_some] <;> rfl),by repeat (first|(with_reducible first|exact HB.out|apply below_alloc|apply pw_below_drewN|apply below_drew1|refine below_set ?_ GE101.out|refine below_set ?_ GE102.out|refine below_set ?_ GE103.out)|exact HB.out)⟩
     · rw [if_neg c24] at H
       have c24b0 : ((t105.length : Int) == 0) = false:=beq_eq_false_iff_ne.mpr c24
       have c24b1 : ((t105.length : Int) != 0) = true:=bne_iff_ne.mpr c24
       have c24b2 : ¬ (t105 = []):=fun h_ => c24 (by rw [h_];rfl)
       obtain rfl:=Option.some.inj H
       go_enter Try.func42,Try.ntmps42
       go_wp2_with (first|((with_reducible refine gate_dst (N:=3) rfl ?_);refine box_event ?hg (N:=3) ?hd (cs:=#[.slice A0_0 l0_0.length c0_0]) (t:=61) ?hr ?_;(case hd => rfl);(case hg => rfl);(case hr => first|(go_simp;done)|(go_simp;rfl));intro gb101 hg w40 hbox hb;have n0_:=Aside0.mk (below_step (by repeat (first|(with_reducible first|exact HB.out|apply below_alloc|apply pw_below_drewN|apply below_drew1)|exact HB.out)) hb);have n1_:=Aside0.mk (hbox);have n2_:=Aside0.mk ((by rw [hg];exact (below_size (by repeat (first|(with_reducible first|exact HB.out|apply below_alloc|apply pw_below_drewN|apply below_drew1)|exact HB.out))) : w.heap.size ≤ gb101));have n3_:=Aside0.mk ((by rw [hg];exact (below_size (by repeat (first|(with_reducible first|exact HB.out|apply below_alloc|apply pw_below_drewN|apply below_drew1)|exact HB.out))) : w.heap.size ≤ gb101));clear HB;have HB:=n0_;have BK101:=n1_;have GW101:=n2_;have GE101:=n3_;clear n0_ n1_ n2_ n3_;clear hb hbox hg)|((with_reducible refine gate_dst (N:=4) rfl ?_);refine box_event ?hg (N:=4) ?hd (cs:=#[.int .i64 a1_0,.bool a1_1,.int .i64 a1_2]) (t:=25) ?hr ?_;(case hd => rfl);(case hg => rfl);(case hr => first|(go_simp;done)|(go_simp;rfl));intro gb102 hg w41 hbox hb;have n0_:=Aside0.mk (blk_below (g:=gb101) (o:=.cells #[.slice A0_0 l0_0.length c0_0] 61 (0,0)) (by (with_reducible repeat (first|refine blk_drewN ?_ _|refine blk_drew ?_|refine blk_alloc ?_ _));exact BK101.out) hb);have n1_:=Aside0.mk (below_step (by repeat (first|(with_reducible first|exact HB.out|apply below_alloc|apply pw_below_drewN|apply below_drew1|refine below_set ?_ GE101.out)|exact HB.out)) hb);have n2_:=Aside0.mk (hbox);have n3_:=Aside0.mk ((by rw [hg];exact (below_size (by repeat (first|(with_reducible first|exact HB.out|apply below_alloc|apply pw_below_drewN|apply below_drew1|refine below_set ?_ GE101.out)|exact HB.out))) : w.heap.size ≤ gb102));have n4_:=Aside0.mk ((by rw [hg];exact (below_size (by repeat (first|(with_reducible first|exact HB.out|apply below_alloc|apply pw_below_drewN|apply below_drew1|refine below_set ?_ GE101.out)|exact HB.out))) : w.heap.size ≤ gb102));have n5_:=Aside0.mk ((by rw [hg];exact Nat.ne_of_lt (blk_lt (g:=gb101) (o:=.cells #[.slice A0_0 l0_0.length c0_0] 61 (0,0)) (by (with_reducible repeat (first|refine blk_drewN ?_ _|refine blk_drew ?_|refine blk_alloc ?_ _));exact BK101.out)) : gb101 ≠ gb102));have n6_:=Aside0.mk ((by rw [hg];exact Nat.ne_of_gt (blk_lt (g:=gb101) (o:=.cells #[.slice A0_0 l0_0.length c0_0] 61 (0,0)) (by (with_reducible repeat (first|refine blk_drewN ?_ _|refine blk_drew ?_|refine blk_alloc ?_ _));exact BK101.out)) : gb102 ≠ gb101));clear BK101;clear HB;have BK101:=n0_;have HB:=n1_;have BK102:=n2_;have GW102:=n3_;have GE102:=n4_;have NB101_102:=n5_;have NB102_101:=n6_;clear n0_ n1_ n2_ n3_ n4_ n5_ n6_;clear hb hbox hg)|((with_reducible refine gate_dst (N:=5) rfl ?_);refine box_event ?hg (N:=5) ?hd (cs:=#[.int .i64 a2_0,.int .i64 a2_1]) (t:=63) ?hr ?_;(case hd => rfl);(case hg => rfl);(case hr => first|(go_simp;done)|(go_simp;rfl));intro gb103 hg w42 hbox hb;have n0_:=Aside0.mk (blk_below (g:=gb101) (o:=.cells #[.slice A0_0 l0_0.length c0_0] 61 (0,0)) (by (with_reducible repeat (first|refine blk_drewN ?_ _|refine blk_drew ?_|refine blk_alloc ?_ _));exact BK101.out) hb);have n1_:=Aside0.mk (blk_below (g:=gb102) (o:=.cells #[.int .i64 a1_0,.bool a1_1,.int .i64 a1_2] 25 (0,0)) (by (with_reducible repeat (first|refine blk_drewN ?_ _|refine blk_drew ?_|refine blk_alloc ?_ _));exact BK102.out) hb);have n2_:=Aside0.mk (below_step (by repeat (first|(with_reducible first|exact HB.out|apply below_alloc|apply pw_below_drewN|apply below_drew1|refine below_set ?_ GE101.out|refine below_set ?_ GE102.out)|exact HB.out)) hb);have n3_:=Aside0.mk (hbox);have n4_:=Aside0.mk ((by rw [hg];exact (below_size (by repeat (first|(with_reducible first|exact HB.out|apply below_alloc|apply pw_below_drewN|apply below_drew1|refine below_set ?_ GE101.out|refine below_set ?_ GE102.out)|exact HB.out))) : w.heap.size ≤ gb103));have n5_:=Aside0.mk ((by rw [hg];exact (below_size (by repeat (first|(with_reducible first|exact HB.out|apply below_alloc|apply pw_below_drewN|apply below_drew1|refine below_set ?_ GE101.out|refine below_set ?_ GE102.out)|exact HB.out))) : w.heap.size ≤ gb103));have n6_:=Aside0.mk ((by rw [hg];exact Nat.ne_of_lt (blk_lt (g:=gb101) (o:=.cells #[.slice A0_0 l0_0.length c0_0] 61 (0,0)) (by (with_reducible repeat (first|refine blk_drewN ?_ _|refine blk_drew ?_|refine blk_alloc ?_ _));exact BK101.out)) : gb101 ≠ gb103));have n7_:=Aside0.mk ((by rw [hg];exact Nat.ne_of_gt (blk_lt (g:=gb101) (o:=.cells #[.slice A0_0 l0_0.length c0_0] 61 (0,0)) (by (with_reducible repeat (first|refine blk_drewN ?_ _|refine blk_drew ?_|refine blk_alloc ?_ _));exact BK101.out)) : gb103 ≠ gb101));have n8_:=Aside0.mk ((by rw [hg];exact Nat.ne_of_lt (blk_lt (g:=gb102) (o:=.cells #[.int .i64 a1_0,.bool a1_1,.int .i64 a1_2] 25 (0,0)) (by (with_reducible repeat (first|refine blk_drewN ?_ _|refine blk_drew ?_|refine blk_alloc ?_ _));exact BK102.out)) : gb102 ≠ gb103));have n9_:=Aside0.mk ((by rw [hg];exact Nat.ne_of_gt (blk_lt (g:=gb102) (o:=.cells #[.int .i64 a1_0,.bool a1_1,.int .i64 a1_2] 25 (0,0)) (by (with_reducible repeat (first|refine blk_drewN ?_ _|refine blk_drew ?_|refine blk_alloc ?_ _));exact BK102.out)) : gb103 ≠ gb102));clear BK101;clear BK102;clear HB;have BK101:=n0_;have BK102:=n1_;have HB:=n2_;have BK103:=n3_;have GW103:=n4_;have GE103:=n5_;have NB101_103:=n6_;have NB103_101:=n7_;have NB102_103:=n8_;have NB103_102:=n9_;clear n0_ n1_ n2_ n3_ n4_ n5_ n6_ n7_ n8_ n9_;clear hb hbox hg;have hnb43:=NB101_102.out;have hnc43:=NB102_101.out;have hnb44:=NB101_103.out;have hnc44:=NB103_101.out;have hcz45_0 : w42.cell? ⟨gb101,0,none⟩ = some (.slice A0_0 l0_0.length c0_0):=(blk_cell BK101.out 0).trans rfl;have hfz45_0:=blk_frozen BK101.out 0;have hnb46:=NB102_103.out;have hnc46:=NB103_102.out;have hcz47_0 : w42.cell? ⟨gb102,0,none⟩ = some (.int .i64 a1_0):=(blk_cell BK102.out 0).trans rfl;have hcz47_1 : w42.cell? ⟨gb102,1,none⟩ = some (.bool a1_1):=(blk_cell BK102.out 1).trans rfl;have hcz47_2 : w42.cell? ⟨gb102,2,none⟩ = some (.int .i64 a1_2):=(blk_cell BK102.out 2).trans rfl;have hfz47_0:=blk_frozen BK102.out 0;have hfz47_1:=blk_frozen BK102.out 1;have hfz47_2:=blk_frozen BK102.out 2)|((with_reducible refine gate_callee (f:=79) rfl ?_);refine goesL_ (some 11) rfl rfl Try.func79 (by kernel_rfl) rfl #[.agg #[.slice A0_0 l0_0.length c0_0],.agg #[.int .i64 a1_0,.bool a1_1,.int .i64 a1_2]] rfl (by (try simp only [List.map_toArray,List.map_cons,List.map_nil]);first|done|rfl|(simp only [List.length_drop,List.length_take];rfl)) ?_;(with_reducible refine (impl_layoutCode.calls k _ _ l0_0 a1_0 a1_1 a1_2 t104 _ ?side1 ?side2 A4.out).mono ?_);(case side1 => repeat (first|exact (Kd.C_below HR0_0.out HB.out)|(with_reducible refine Kd.C_alloc ?_ _)|(with_reducible refine Kd.C_drewN ?_ _)|(with_reducible refine Kd.C_drew ?_)));(case side2 => exact HC0_0.out);rintro e w48 ⟨rfl,hb⟩;refine ⟨_,rfl,?_⟩;have n0_:=Aside0.mk (blk_below (g:=gb101) (o:=.cells #[.slice A0_0 l0_0.length c0_0] 61 (0,0)) (by (with_reducible repeat (first|refine blk_drewN ?_ _|refine blk_drew ?_|refine blk_alloc ?_ _));exact BK101.out) hb);have n1_:=Aside0.mk (blk_below (g:=gb102) (o:=.cells #[.int .i64 a1_0,.bool a1_1,.int .i64 a1_2] 25 (0,0)) (by (with_reducible repeat (first|refine blk_drewN ?_ _|refine blk_drew ?_|refine blk_alloc ?_ _));exact BK102.out) hb);have n2_:=Aside0.mk (blk_below (g:=gb103) (o:=.cells #[.int .i64 a2_0,.int .i64 a2_1] 63 (0,0)) (by (with_reducible repeat (first|refine blk_drewN ?_ _|refine blk_drew ?_|refine blk_alloc ?_ _));exact BK103.out) hb);have n3_:=Aside0.mk (below_step (by repeat (first|(with_reducible first|exact HB.out|apply below_alloc|apply pw_below_drewN|apply below_drew1|refine below_set ?_ GE101.out|refine below_set ?_ GE102.out|refine below_set ?_ GE103.out)|exact HB.out)) hb);clear BK101;clear BK102;clear BK103;clear HB;have BK101:=n0_;have BK102:=n1_;have BK103:=n2_;have HB:=n3_;clear n0_ n1_ n2_ n3_;(try clear hb);(try clear hb2);(try clear hk);(try clear hi);have hcz49_0 : w48.cell? ⟨gb101,0,none⟩ = some (.slice A0_0 l0_0.length c0_0):=(blk_cell BK101.out 0).trans rfl;have hfz49_0:=blk_frozen BK101.out 0;have hcz50_0 : w48.cell? ⟨gb102,0,none⟩ = some (.int .i64 a1_0):=(blk_cell BK102.out 0).trans rfl;have hcz50_1 : w48.cell? ⟨gb102,1,none⟩ = some (.bool a1_1):=(blk_cell BK102.out 1).trans rfl;have hcz50_2 : w48.cell? ⟨gb102,2,none⟩ = some (.int .i64 a1_2):=(blk_cell BK102.out 2).trans rfl;have hfz50_0:=blk_frozen BK102.out 0;have hfz50_1:=blk_frozen BK102.out 1;have hfz50_2:=blk_frozen BK102.out 2)|((with_reducible refine gate_callee (f:=80) rfl ?_);refine goesL_ (some 17) rfl rfl Try.func80 (by kernel_rfl) rfl #[.agg #[.slice A0_0 l0_0.length c0_0],.agg #[.int .i64 a1_0,.bool a1_1,.int .i64 a1_2]] rfl (by (try simp only [List.map_toArray,List.map_cons,List.map_nil]);first|done|rfl|(simp only [List.length_drop,List.length_take];rfl)) ?_;(with_reducible refine (impl_rowsOf.calls _ _ l0_0 a1_0 a1_1 a1_2 t105 _ ?side1 ?side2 A6.out).mono ?_);(case side1 => repeat (first|exact (Kd.C_below HR0_0.out HB.out)|(with_reducible refine Kd.C_alloc ?_ _)|(with_reducible refine Kd.C_drewN ?_ _)|(with_reducible refine Kd.C_drew ?_)));(case side2 => exact HC0_0.out);rintro e w51 ⟨v106,rfl,ho0,hb⟩;refine ⟨_,rfl,?_⟩;have n0_:=Aside0.mk (Kd.R_lower ho0 (below_size (by repeat (first|(with_reducible first|exact HB.out|apply below_alloc|apply pw_below_drewN|apply below_drew1|refine below_set ?_ GE101.out|refine below_set ?_ GE102.out|refine below_set ?_ GE103.out)|exact HB.out))));have n1_:=Aside0.mk (blk_below (g:=gb101) (o:=.cells #[.slice A0_0 l0_0.length c0_0] 61 (0,0)) (by (with_reducible repeat (first|refine blk_drewN ?_ _|refine blk_drew ?_|refine blk_alloc ?_ _));exact BK101.out) hb);have n2_:=Aside0.mk (blk_below (g:=gb102) (o:=.cells #[.int .i64 a1_0,.bool a1_1,.int .i64 a1_2] 25 (0,0)) (by (with_reducible repeat (first|refine blk_drewN ?_ _|refine blk_drew ?_|refine blk_alloc ?_ _));exact BK102.out) hb);have n3_:=Aside0.mk (blk_below (g:=gb103) (o:=.cells #[.int .i64 a2_0,.int .i64 a2_1] 63 (0,0)) (by (with_reducible repeat (first|refine blk_drewN ?_ _|refine blk_drew ?_|refine blk_alloc ?_ _));exact BK103.out) hb);have n4_:=Aside0.mk (below_step (by repeat (first|(with_reducible first|exact HB.out|apply below_alloc|apply pw_below_drewN|apply below_drew1|refine below_set ?_ GE101.out|refine below_set ?_ GE102.out|refine below_set ?_ GE103.out)|exact HB.out)) hb);clear BK101;clear BK102;clear BK103;clear HB;have HO107:=n0_;have BK101:=n1_;have BK102:=n2_;have BK103:=n3_;have HB:=n4_;clear n0_ n1_ n2_ n3_ n4_;(try clear hb);(try clear hb2);(try clear hk);(try clear hi);(try clear ho0);have hcz52_0 : w51.cell? ⟨gb103,0,none⟩ = some (.int .i64 a2_0):=(blk_cell BK103.out 0).trans rfl;have hcz52_1 : w51.cell? ⟨gb103,1,none⟩ = some (.int .i64 a2_1):=(blk_cell BK103.out 1).trans rfl;have hfz52_0:=blk_frozen BK103.out 0;have hfz52_1:=blk_frozen BK103.out 1;obtain ⟨Ao53,co53,eo53⟩:=Kd.R_slice HO107.out;subst eo53)|((with_reducible refine gate_callee (f:=81) rfl ?_);refine goesL_ (some 21) rfl rfl Try.func81 (by kernel_rfl) rfl #[.slice Ao53 t105.length co53,.agg #[.int .i64 a2_0,.int .i64 a2_1]] rfl (by (try simp only [List.map_toArray,List.map_cons,List.map_nil]);first|done|rfl|(simp only [List.length_drop,List.length_take];rfl)) ?_;(with_reducible refine (impl_isSpot.calls _ _ t105 a2_0 a2_1 false _ ?side1 ?side2 A7.out).mono ?_);(case side1 => repeat (first|exact (Kd.R_reads' HO107.out).2.2|(with_reducible refine Kd.C_alloc ?_ _)|(with_reducible refine Kd.C_drewN ?_ _)|(with_reducible refine Kd.C_drew ?_)));(case side2 => exact (Kd.R_reads' HO107.out).2.1);rintro e w54 ⟨rfl,hb⟩;refine ⟨_,rfl,?_⟩;have n0_:=Aside0.mk (Kd.R_below (by (with_reducible repeat (first|apply Kd.R_alloc|apply Kd.R_drewN|apply Kd.R_drew));exact HO107.out) hb);have n1_:=Aside0.mk (blk_below (g:=gb101) (o:=.cells #[.slice A0_0 l0_0.length c0_0] 61 (0,0)) (by (with_reducible repeat (first|refine blk_drewN ?_ _|refine blk_drew ?_|refine blk_alloc ?_ _));exact BK101.out) hb);have n2_:=Aside0.mk (blk_below (g:=gb102) (o:=.cells #[.int .i64 a1_0,.bool a1_1,.int .i64 a1_2] 25 (0,0)) (by (with_reducible repeat (first|refine blk_drewN ?_ _|refine blk_drew ?_|refine blk_alloc ?_ _));exact BK102.out) hb);have n3_:=Aside0.mk (blk_below (g:=gb103) (o:=.cells #[.int .i64 a2_0,.int .i64 a2_1] 63 (0,0)) (by (with_reducible repeat (first|refine blk_drewN ?_ _|refine blk_drew ?_|refine blk_alloc ?_ _));exact BK103.out) hb);have n4_:=Aside0.mk (below_step (by repeat (first|(with_reducible first|exact HB.out|apply below_alloc|apply pw_below_drewN|apply below_drew1|refine below_set ?_ GE101.out|refine below_set ?_ GE102.out|refine below_set ?_ GE103.out)|exact HB.out)) hb);clear HO107;clear BK101;clear BK102;clear BK103;clear HB;have HO107:=n0_;have BK101:=n1_;have BK102:=n2_;have BK103:=n3_;have HB:=n4_;clear n0_ n1_ n2_ n3_ n4_;(try clear hb);(try clear hb2);(try clear hk);(try clear hi)))
       go_ret
       exact ⟨by first|rfl|(simp [errW_none,errW_some] <;> rfl)|(simp [*,errW_none,errW_some] <;> rfl),by repeat (first|(with_reducible first|exact HB.out|apply below_alloc|apply pw_below_drewN|apply below_drew1|refine below_set ?_ GE101.out|refine below_set ?_ GE102.out|refine below_set ?_ GE103.out)|exact HB.out)⟩
 · rw [if_neg c5] at H
   have c5b0 : (t104 == 0) = false:=beq_eq_false_iff_ne.mpr c5
   have c5b1 : (t104 != 0) = true:=bne_iff_ne.mpr c5
   obtain rfl:=Option.some.inj H
   go_enter Try.func42,Try.ntmps42
   go_wp2_with (first|((with_reducible refine gate_dst (N:=3) rfl ?_);refine box_event ?hg (N:=3) ?hd (cs:=#[.slice A0_0 l0_0.length c0_0]) (t:=61) ?hr ?_;(case hd => rfl);(case hg => rfl);(case hr => first|(go_simp;done)|(go_simp;rfl));intro gb101 hg w55 hbox hb;have n0_:=Aside0.mk (below_step (by repeat (first|(with_reducible first|exact HB.out|apply below_alloc|apply pw_below_drewN|apply below_drew1)|exact HB.out)) hb);have n1_:=Aside0.mk (hbox);have n2_:=Aside0.mk ((by rw [hg];exact (below_size (by repeat (first|(with_reducible first|exact HB.out|apply below_alloc|apply pw_below_drewN|apply below_drew1)|exact HB.out))) : w.heap.size ≤ gb101));have n3_:=Aside0.mk ((by rw [hg];exact (below_size (by repeat (first|(with_reducible first|exact HB.out|apply below_alloc|apply pw_below_drewN|apply below_drew1)|exact HB.out))) : w.heap.size ≤ gb101));clear HB;have HB:=n0_;have BK101:=n1_;have GW101:=n2_;have GE101:=n3_;clear n0_ n1_ n2_ n3_;clear hb hbox hg)|((with_reducible refine gate_dst (N:=4) rfl ?_);refine box_event ?hg (N:=4) ?hd (cs:=#[.int .i64 a1_0,.bool a1_1,.int .i64 a1_2]) (t:=25) ?hr ?_;(case hd => rfl);(case hg => rfl);(case hr => first|(go_simp;done)|(go_simp;rfl));intro gb102 hg w56 hbox hb;have n0_:=Aside0.mk (blk_below (g:=gb101) (o:=.cells #[.slice A0_0 l0_0.length c0_0] 61 (0,0)) (by (with_reducible repeat (first|refine blk_drewN ?_ _|refine blk_drew ?_|refine blk_alloc ?_ _));exact BK101.out) hb);have n1_:=Aside0.mk (below_step (by repeat (first|(with_reducible first|exact HB.out|apply below_alloc|apply pw_below_drewN|apply below_drew1|refine below_set ?_ GE101.out)|exact HB.out)) hb);have n2_:=Aside0.mk (hbox);have n3_:=Aside0.mk ((by rw [hg];exact (below_size (by repeat (first|(with_reducible first|exact HB.out|apply below_alloc|apply pw_below_drewN|apply below_drew1|refine below_set ?_ GE101.out)|exact HB.out))) : w.heap.size ≤ gb102));have n4_:=Aside0.mk ((by rw [hg];exact (below_size (by repeat (first|(with_reducible first|exact HB.out|apply below_alloc|apply pw_below_drewN|apply below_drew1|refine below_set ?_ GE101.out)|exact HB.out))) : w.heap.size ≤ gb102));have n5_:=Aside0.mk ((by rw [hg];exact Nat.ne_of_lt (blk_lt (g:=gb101) (o:=.cells #[.slice A0_0 l0_0.length c0_0] 61 (0,0)) (by (with_reducible repeat (first|refine blk_drewN ?_ _|refine blk_drew ?_|refine blk_alloc ?_ _));exact BK101.out)) : gb101 ≠ gb102));have n6_:=Aside0.mk ((by rw [hg];exact Nat.ne_of_gt (blk_lt (g:=gb101) (o:=.cells #[.slice A0_0 l0_0.length c0_0] 61 (0,0)) (by (with_reducible repeat (first|refine blk_drewN ?_ _|refine blk_drew ?_|refine blk_alloc ?_ _));exact BK101.out)) : gb102 ≠ gb101));clear BK101;clear HB;have BK101:=n0_;have HB:=n1_;have BK102:=n2_;have GW102:=n3_;have GE102:=n4_;have NB101_102:=n5_;have NB102_101:=n6_;clear n0_ n1_ n2_ n3_ n4_ n5_ n6_;clear hb hbox hg)|((with_reducible refine gate_dst (N:=5) rfl ?_);refine box_event ?hg (N:=5) ?hd (cs:=#[.int .i64 a2_0,.int .i64 a2_1]) (t:=63) ?hr ?_;(case hd => rfl);(case hg => rfl);(case hr => first|(go_simp;done)|(go_simp;rfl));intro gb103 hg w57 hbox hb;have n0_:=Aside0.mk (blk_below (g:=gb101) (o:=.cells #[.slice A0_0 l0_0.length c0_0] 61 (0,0)) (by (with_reducible repeat (first|refine blk_drewN ?_ _|refine blk_drew ?_|refine blk_alloc ?_ _));exact BK101.out) hb);have n1_:=Aside0.mk (blk_below (g:=gb102) (o:=.cells #[.int .i64 a1_0,.bool a1_1,.int .i64 a1_2] 25 (0,0)) (by (with_reducible repeat (first|refine blk_drewN ?_ _|refine blk_drew ?_|refine blk_alloc ?_ _));exact BK102.out) hb);have n2_:=Aside0.mk (below_step (by repeat (first|(with_reducible first|exact HB.out|apply below_alloc|apply pw_below_drewN|apply below_drew1|refine below_set ?_ GE101.out|refine below_set ?_ GE102.out)|exact HB.out)) hb);have n3_:=Aside0.mk (hbox);have n4_:=Aside0.mk ((by rw [hg];exact (below_size (by repeat (first|(with_reducible first|exact HB.out|apply below_alloc|apply pw_below_drewN|apply below_drew1|refine below_set ?_ GE101.out|refine below_set ?_ GE102.out)|exact HB.out))) : w.heap.size ≤ gb103));have n5_:=Aside0.mk ((by rw [hg];exact (below_size (by repeat (first|(with_reducible first|exact HB.out|apply below_alloc|apply pw_below_drewN|apply below_drew1|refine below_set ?_ GE101.out|refine below_set ?_ GE102.out)|exact HB.out))) : w.heap.size ≤ gb103));have n6_:=Aside0.mk ((by rw [hg];exact Nat.ne_of_lt (blk_lt (g:=gb101) (o:=.cells #[.slice A0_0 l0_0.length c0_0] 61 (0,0)) (by (with_reducible repeat (first|refine blk_drewN ?_ _|refine blk_drew ?_|refine blk_alloc ?_ _));exact BK101.out)) : gb101 ≠ gb103));have n7_:=Aside0.mk ((by rw [hg];exact Nat.ne_of_gt (blk_lt (g:=gb101) (o:=.cells #[.slice A0_0 l0_0.length c0_0] 61 (0,0)) (by (with_reducible repeat (first|refine blk_drewN ?_ _|refine blk_drew ?_|refine blk_alloc ?_ _));exact BK101.out)) : gb103 ≠ gb101));have n8_:=Aside0.mk ((by rw [hg];exact Nat.ne_of_lt (blk_lt (g:=gb102) (o:=.cells #[.int .i64 a1_0,.bool a1_1,.int .i64 a1_2] 25 (0,0)) (by (with_reducible repeat (first|refine blk_drewN ?_ _|refine blk_drew ?_|refine blk_alloc ?_ _));exact BK102.out)) : gb102 ≠ gb103));have n9_:=Aside0.mk ((by rw [hg];exact Nat.ne_of_gt (blk_lt (g:=gb102) (o:=.cells #[.int .i64 a1_0,.bool a1_1,.int .i64 a1_2] 25 (0,0)) (by (with_reducible repeat (first|refine blk_drewN ?_ _|refine blk_drew ?_|refine blk_alloc ?_ _));exact BK102.out)) : gb103 ≠ gb102));clear BK101;clear BK102;clear HB;have BK101:=n0_;have BK102:=n1_;have HB:=n2_;have BK103:=n3_;have GW103:=n4_;have GE103:=n5_;have NB101_103:=n6_;have NB103_101:=n7_;have NB102_103:=n8_;have NB103_102:=n9_;clear n0_ n1_ n2_ n3_ n4_ n5_ n6_ n7_ n8_ n9_;clear hb hbox hg;have hnb58:=NB101_102.out;have hnc58:=NB102_101.out;have hnb59:=NB101_103.out;have hnc59:=NB103_101.out;have hcz60_0 : w57.cell? ⟨gb101,0,none⟩ = some (.slice A0_0 l0_0.length c0_0):=(blk_cell BK101.out 0).trans rfl;have hfz60_0:=blk_frozen BK101.out 0;have hnb61:=NB102_103.out;have hnc61:=NB103_102.out;have hcz62_0 : w57.cell? ⟨gb102,0,none⟩ = some (.int .i64 a1_0):=(blk_cell BK102.out 0).trans rfl;have hcz62_1 : w57.cell? ⟨gb102,1,none⟩ = some (.bool a1_1):=(blk_cell BK102.out 1).trans rfl;have hcz62_2 : w57.cell? ⟨gb102,2,none⟩ = some (.int .i64 a1_2):=(blk_cell BK102.out 2).trans rfl;have hfz62_0:=blk_frozen BK102.out 0;have hfz62_1:=blk_frozen BK102.out 1;have hfz62_2:=blk_frozen BK102.out 2)|((with_reducible refine gate_callee (f:=79) rfl ?_);refine goesL_ (some 11) rfl rfl Try.func79 (by kernel_rfl) rfl #[.agg #[.slice A0_0 l0_0.length c0_0],.agg #[.int .i64 a1_0,.bool a1_1,.int .i64 a1_2]] rfl (by (try simp only [List.map_toArray,List.map_cons,List.map_nil]);first|done|rfl|(simp only [List.length_drop,List.length_take];rfl)) ?_;(with_reducible refine (impl_layoutCode.calls k _ _ l0_0 a1_0 a1_1 a1_2 t104 _ ?side1 ?side2 A4.out).mono ?_);(case side1 => repeat (first|exact (Kd.C_below HR0_0.out HB.out)|(with_reducible refine Kd.C_alloc ?_ _)|(with_reducible refine Kd.C_drewN ?_ _)|(with_reducible refine Kd.C_drew ?_)));(case side2 => exact HC0_0.out);rintro e w63 ⟨rfl,hb⟩;refine ⟨_,rfl,?_⟩;have n0_:=Aside0.mk (blk_below (g:=gb101) (o:=.cells #[.slice A0_0 l0_0.length c0_0] 61 (0,0)) (by (with_reducible repeat (first|refine blk_drewN ?_ _|refine blk_drew ?_|refine blk_alloc ?_ _));exact BK101.out) hb);have n1_:=Aside0.mk (blk_below (g:=gb102) (o:=.cells #[.int .i64 a1_0,.bool a1_1,.int .i64 a1_2] 25 (0,0)) (by (with_reducible repeat (first|refine blk_drewN ?_ _|refine blk_drew ?_|refine blk_alloc ?_ _));exact BK102.out) hb);have n2_:=Aside0.mk (blk_below (g:=gb103) (o:=.cells #[.int .i64 a2_0,.int .i64 a2_1] 63 (0,0)) (by (with_reducible repeat (first|refine blk_drewN ?_ _|refine blk_drew ?_|refine blk_alloc ?_ _));exact BK103.out) hb);have n3_:=Aside0.mk (below_step (by repeat (first|(with_reducible first|exact HB.out|apply below_alloc|apply pw_below_drewN|apply below_drew1|refine below_set ?_ GE101.out|refine below_set ?_ GE102.out|refine below_set ?_ GE103.out)|exact HB.out)) hb);clear BK101;clear BK102;clear BK103;clear HB;have BK101:=n0_;have BK102:=n1_;have BK103:=n2_;have HB:=n3_;clear n0_ n1_ n2_ n3_;(try clear hb);(try clear hb2);(try clear hk);(try clear hi)))
   go_ret
   exact ⟨by first|rfl|(simp [errW_none,errW_some] <;> rfl)|(simp [*,errW_none,errW_some] <;> rfl),by repeat (first|(with_reducible first|exact HB.out|apply below_alloc|apply pw_below_drewN|apply below_drew1|refine below_set ?_ GE101.out|refine below_set ?_ GE102.out|refine below_set ?_ GE103.out)|exact HB.out)⟩
end Go.Proofs.Ytcinaflmpdmdaaa.Q
end
section
namespace Go.Proofs.Ytcinaflmpdmdaaa.Q
open Go.RowKit Go.Proofs.YtcinaflmpdmdaaaW.PrintWords Go.Proofs.YtcinaflmpdmdaaaW.PrintLast Go.Proofs.YtcinaflmpdmdaaaW.PrintMore Go.Proofs.Ytcinaflmpdmdaaa.L
theorem layoutCode_ev (l : List Int) (wd : Int) (ch : Bool) (sh : Int) : Ev (fun k => impl_layoutCode.f k l wd ch sh) (M.baseF l.length wd ch sh) := by
  unfold impl_layoutCode.f impl_FileFault.f impl_isLong.f M.baseF
  by_cases h : 400 < l.length
  · rw [if_pos h]
    have : ((l.length : Int) > 400) := by omega
    refine Ev.bind0 (a := 2) (by simp [this]) (Ev.neg (by decide) (Ev.now _))
  · rw [if_neg h]
    have : ¬ ((l.length : Int) > 400) := by omega
    exact Ev.bind0 (a := 0) (by simp [this]) (Ev.pos rfl (Ev.bind (i_layout wd ch sh) (Ev.now _)))
theorem isSpot_eq {cs : List Int} (h : ∀ x ∈ cs, 1 ≤ x ∧ x ≤ 1073741824) (hl : cs.length ≤ 1073741824) (a b : Int) : impl_isSpot.f cs a b = some (decide (M.spotInF cs a b = 0)) := by
  have hr := M.rd_bd h a
  unfold impl_isSpot.f M.spotInF
  by_cases h0 : cs.length = 0
  · rw [if_pos (by omega), if_pos h0]
    by_cases ha : a = 0 <;> by_cases hb : b = 0 <;> simp [ha, hb]
  · rw [if_neg (by omega), if_neg h0, w64 (by omega) (by omega)]
    simp only [within_eq, Option.bind_some]
    by_cases h1 : 0 ≤ a ∧ a < (cs.length : Int)
    · rw [if_pos (decide_eq_true (by omega)), if_pos h1.1, if_pos h1.2, w64 (by omega) (by omega)]
      by_cases h2 : 0 ≤ b ∧ b < rd cs a
      · rw [if_pos ⟨h1, h2⟩]
        congr 1
        simp
        omega
      · rw [if_neg (fun q => h2 q.2)]
        congr 1
        simp
        omega
    · rw [if_neg (by simp; omega), if_neg (fun q => h1 q.1)]
      rfl
theorem rowsOf_eq {l : List Int} (ho : M.lineOk l = true) {wd : Int} (ch : Bool) (sh : Int) (h1 : 1 ≤ wd) (h2 : wd ≤ 40) : impl_rowsOf.f l wd ch sh = some (M.cntL l wd ch) := by
  unfold impl_rowsOf.f
  rw [ho, if_pos (by simp [h1, h2])]
theorem i_spot {l : List Int} (ho : M.lineOk l = true) (wd : Int) (ch : Bool) (sh a b : Int) : Ev (fun k => impl_SpotFault.f k l wd ch sh a b) (M.spotF l wd ch sh a b) := by
  have hl := M.lineOk_len ho
  by_cases hz : M.baseF l.length wd ch sh = 0
  · have e : M.spotF l wd ch sh a b = M.spotInF (M.cntL l wd ch) a b := by unfold M.spotF; rw [if_pos hz]
    rw [e]
    unfold impl_SpotFault.f
    refine Ev.bind (layoutCode_ev l wd ch sh) ?_
    obtain ⟨_, hlay⟩ := M.baseF_zero hz
    obtain ⟨w1, w2, _⟩ := layF_zero hlay
    have hc := M.cntL_len l wd ch
    refine Ev.pos hz (Ev.bind0 (rowsOf_eq ho ch sh w1 w2) (Ev.bind0 (isSpot_eq (M.cntL_in hl ch w1) (by omega) a b) ?_))
    by_cases hs : M.spotInF (M.cntL l wd ch) a b = 0
    · rw [hs]
      exact Ev.pos (decide_eq_true rfl) (Ev.now _)
    · refine Ev.neg (by simpa using hs) ?_
      unfold M.spotInF at hs ⊢
      by_cases h0 : (M.cntL l wd ch).length = 0
      · rw [if_pos h0] at hs ⊢
        have : ¬ (a = 0 ∧ b = 0) := fun q => hs (if_pos q)
        rw [if_neg this]
        exact Ev.pos (by omega) (Ev.now _)
      · rw [if_neg h0] at hs ⊢
        have : ¬ ((0 ≤ a ∧ a < ((M.cntL l wd ch).length : Int)) ∧ (0 ≤ b ∧ b < rd (M.cntL l wd ch) a)) := fun q => hs (if_pos q)
        rw [if_neg this]
        exact Ev.neg (by omega) (Ev.now _)
  · have e : M.spotF l wd ch sh a b = M.baseF l.length wd ch sh := by unfold M.spotF; rw [if_neg hz]
    rw [e]
    unfold impl_SpotFault.f
    refine Ev.bind (layoutCode_ev l wd ch sh) ?_
    exact Ev.neg hz (Ev.now _)
end Go.Proofs.Ytcinaflmpdmdaaa.Q
end
section
namespace Go.Proofs.Ytcinaflmpdmdaaa.Q
open Go.RowKit Go.Proofs.YtcinaflmpdmdaaaW.PrintWords Go.Proofs.YtcinaflmpdmdaaaW.PrintLast Go.Proofs.YtcinaflmpdmdaaaW.PrintMore
attribute [local go_sem] max2_int min2_int max_two min_two max_three min_three max_four min_four   -- for this text's walks alone
set_option linter.unusedVariables false
set_option linter.unusedSimpArgs false
/-! ### spec_SpotFault: function 39 -/
def spec_SpotFault.f (l0_0 : List Int) (a1_0 : Int) (a1_1 : Bool) (a1_2 : Int) (a2_0 a2_1 : Int) : Option Int:=if M.lineOk l0_0 = true then some (M.spotF l0_0 a1_0 a1_1 a1_2 a2_0 a2_1) else none
theorem spec_SpotFault.calls (A0_0 : Option Addr) (c0_0 : Nat) (l0_0 : List Int) (a1_0 : Int) (a1_1 : Bool) (a1_2 : Int) (a2_0 a2_1 : Int) (r : Int) (w : World) (hr0_0 : Kd.C (Kd.int .u8) w A0_0 l0_0.length l0_0) (hc0_0 : l0_0.length ≤ c0_0) (h : spec_SpotFault.f l0_0 a1_0 a1_1 a1_2 a2_0 a2_1 = some r) :
 Calls Try.prog 39 #[.agg #[.slice A0_0 l0_0.length c0_0],.agg #[.int .i64 a1_0,.bool a1_1,.int .i64 a1_2],.agg #[.int .i64 a2_0,.int .i64 a2_1]] w fun e w' => e = .returned (.int .i64 r) ∧ Below w.heap.size w w':=by
 unfold spec_SpotFault.f at h
 split at h
 · rename_i hok
   have HQ:=Aside0.mk (Option.some.inj h)
   have HX:=Aside0.mk (M.row_ints hr0_0)
   have HOK:=Aside0.mk hok
   clear h hok hr0_0
   obtain ⟨W,hW⟩ : ∃ W,W = ((w.alloc (.cells #[.slice A0_0 l0_0.length c0_0] 61)).alloc (.cells #[.int .i64 a1_0,.bool a1_1,.int .i64 a1_2] 25)).alloc (.cells #[.int .i64 a2_0,.int .i64 a2_1] 63):=⟨_,rfl⟩
   obtain ⟨b1,b2,b3,f1,f2,f3,hz,G0⟩:=M.box3 _ _ _ _ _ _ _ W hW
   have hI : W.heap[w.heap.size + 1]? = some (.cells #[.int .i64 a1_0,.bool a1_1,.int .i64 a1_2] 25 (0,0)):=by
    subst hW
    have:=heap_alloc_new (w.alloc (.cells #[.slice A0_0 l0_0.length c0_0] 61)) (.cells #[.int .i64 a1_0,.bool a1_1,.int .i64 a1_2] 25)
    rw [heap_alloc_old _ _ (by simp)]
    simpa using this
   have HW:=Aside0.mk hW
   have HI:=Aside0.mk hI
   have hp : W.cell? ⟨w.heap.size,0,none⟩ = some (.slice A0_0 l0_0.length c0_0):=b1 0
   have HX2:=Aside0.mk (HX.out.below G0)
   clear hW hI f1 f2 f3 b1 b2 b3
   go_enter Try.func39,Try.ntmps39
   go_wp2_with (fail)
   rw [← HW.out]
   refine M.l10Spot_c w.heap.size (w.heap.size + 1) A0_0 l0_0.length c0_0 l0_0 a1_0 a1_1 a1_2 a2_0 a2_1 W hp HI.out rfl HX2.out hc0_0 HOK.out (by omega) (by omega) r HQ.out _ ?_
   intro w1 hb1
   go_wp2_with (fail)
   go_ret
   exact ⟨rfl,G0.trans (hb1.mono G0.size)⟩
 · cases h
end Go.Proofs.Ytcinaflmpdmdaaa.Q
end
section
namespace Go.Proofs.Ytcinaflmpdmdaaa.Q
open Go.RowKit Go.Proofs.YtcinaflmpdmdaaaW.PrintWords Go.Proofs.YtcinaflmpdmdaaaW.PrintLast Go.Proofs.YtcinaflmpdmdaaaW.PrintMore
attribute [local go_sem] max2_int min2_int max_two min_two max_three min_three max_four min_four   -- for this text's walks alone
set_option linter.unusedVariables false
set_option linter.unusedSimpArgs false
/-! ### laws_FnExactSpotFault: function 9 -/
def laws_FnExactSpotFault.f (k : Nat) (l0_0 : List Int) (a1_0 : Int) (a1_1 : Bool) (a1_2 : Int) (a2_0 : Int) (a2_1 : Int) : Option (Bool):=(laws_szFile.f l0_0 1048576).bind fun t104 => (if t104 < 0 then (some true) else ((laws_toFile.f k l0_0).bind fun t105 => ((laws_toLayout.f a1_0 a1_1 a1_2).bind fun bt108 => ((laws_toSpot.f a2_0 a2_1).bind fun bt111 => ((spec_SpotFault.f t105 bt108.1 bt108.2.1 bt108.2.2 bt111.1 bt111.2).bind fun t113 => ((laws_toFile.f k l0_0).bind fun t114 => ((laws_toLayout.f a1_0 a1_1 a1_2).bind fun bt118 => ((laws_toSpot.f a2_0 a2_1).bind fun bt121 => ((impl_SpotFault.f k t114 bt118.1 bt118.2.1 bt118.2.2 bt121.1 bt121.2).bind fun t123 => (if t123 = t113 then ((laws_toFile.f k l0_0).bind fun t124 => ((laws_eqFile.f k t114 t124).bind fun t127 => (if t127 = true then (some true) else (some false)))) else (some false)))))))))))
theorem laws_FnExactSpotFault.mono : ∀ a0 a1 a2 a3 a4 a5 k,LeO (laws_FnExactSpotFault.f k a0 a1 a2 a3 a4 a5) (laws_FnExactSpotFault.f (k + 1) a0 a1 a2 a3 a4 a5):=by
 intro a0 a1 a2 a3 a4 a5 k
 unfold laws_FnExactSpotFault.f
 repeat' first
  | (with_reducible exact impl_SpotFault.mono _ _ _ _ _ _ _)
  | (with_reducible exact laws_eqFile.mono _ _ _)
  | (with_reducible exact laws_toFile.mono _ _)
  | (with_reducible exact LeO.refl _)
  | (with_reducible exact LeO.none _)
  | (with_reducible refine LeO.ite ?_ ?_)
  | (with_reducible refine LeO.bind ?_ (fun _ => ?_))
  | exact impl_SpotFault.mono _ _ _ _ _ _ _
  | exact laws_eqFile.mono _ _ _
  | exact laws_toFile.mono _ _
  | exact LeO.none _
  | refine LeO.ite ?_ ?_
  | refine LeO.bind ?_ (fun _ => ?_)
def laws_FnExactSpotFault.T5 : Bool × List (List Nat × List Nat):=(true,[([],[]),([0],[0]),([],[]),([2,1],[2]),([],[]),([4,3],[4]),([1,3,5,5],[1,3,5]),([6,6,0,1,2,3,4,5,6],[6])])
def laws_FnExactSpotFault.B5 : List Nat:=[0,1,0,7,0,31,63,127]
theorem laws_FnExactSpotFault.tab5 : rtab .any (opsOf Try.f9 5) = laws_FnExactSpotFault.T5:=by kernel_rfl
theorem laws_FnExactSpotFault.bits5 : waitsOk laws_FnExactSpotFault.T5.2 laws_FnExactSpotFault.B5 = true:=by kernel_rfl
set_option maxHeartbeats 8000000 in
set_option maxRecDepth 100000 in
theorem laws_FnExactSpotFault.calls (k : Nat) (A0_0 : Option Addr) (c0_0 : Nat) (l0_0 : List Int) (a1_0 : Int) (a1_1 : Bool) (a1_2 : Int) (a2_0 : Int) (a2_1 : Int) (r : Bool) (w : World) (hr0_0 : Kd.C (Kd.int .u8) w A0_0 l0_0.length l0_0) (hc0_0 : l0_0.length ≤ c0_0) (h : laws_FnExactSpotFault.f k l0_0 a1_0 a1_1 a1_2 a2_0 a2_1 = some r) :
 Calls Try.prog 9 #[.agg #[.slice A0_0 l0_0.length c0_0],.agg #[.int .i64 a1_0,.bool a1_1,.int .i64 a1_2],.agg #[.int .i64 a2_0,.int .i64 a2_1]] w fun e w' => e = .returned (.bool r) ∧ Below w.heap.size w w':=by
 have hu56:=Try.underlying56
 have hu23:=Try.underlying23
 have hu58:=Try.underlying58
 have hu61:=Try.underlying61
 have HR0_0:=Aside0.mk hr0_0
 have HC0_0:=Aside0.mk hc0_0
 clear hr0_0 hc0_0
 have HB:=Aside0.mk (Below.refl w.heap.size w)
 have H : ((laws_szFile.f l0_0 1048576).bind fun t104 => (if t104 < 0 then (some true) else ((laws_toFile.f k l0_0).bind fun t105 => ((laws_toLayout.f a1_0 a1_1 a1_2).bind fun bt108 => ((laws_toSpot.f a2_0 a2_1).bind fun bt111 => ((spec_SpotFault.f t105 bt108.1 bt108.2.1 bt108.2.2 bt111.1 bt111.2).bind fun t113 => ((laws_toFile.f k l0_0).bind fun t114 => ((laws_toLayout.f a1_0 a1_1 a1_2).bind fun bt118 => ((laws_toSpot.f a2_0 a2_1).bind fun bt121 => ((impl_SpotFault.f k t114 bt118.1 bt118.2.1 bt118.2.2 bt121.1 bt121.2).bind fun t123 => (if t123 = t113 then ((laws_toFile.f k l0_0).bind fun t124 => ((laws_eqFile.f k t114 t124).bind fun t127 => (if t127 = true then (some true) else (some false)))) else (some false)))))))))))) = some r:=h
 clear h
 replace H:=Option.bind_eq_some_iff.mp H
 obtain ⟨t104,A40,H⟩:=H
 replace H : (if t104 < 0 then (some true) else ((laws_toFile.f k l0_0).bind fun t105 => ((laws_toLayout.f a1_0 a1_1 a1_2).bind fun bt108 => ((laws_toSpot.f a2_0 a2_1).bind fun bt111 => ((spec_SpotFault.f t105 bt108.1 bt108.2.1 bt108.2.2 bt111.1 bt111.2).bind fun t113 => ((laws_toFile.f k l0_0).bind fun t114 => ((laws_toLayout.f a1_0 a1_1 a1_2).bind fun bt118 => ((laws_toSpot.f a2_0 a2_1).bind fun bt121 => ((impl_SpotFault.f k t114 bt118.1 bt118.2.1 bt118.2.2 bt121.1 bt121.2).bind fun t123 => (if t123 = t113 then ((laws_toFile.f k l0_0).bind fun t124 => ((laws_eqFile.f k t114 t124).bind fun t127 => (if t127 = true then (some true) else (some false)))) else (some false))))))))))) = some r:=H
 have A4:=Aside0.mk A40
 clear A40
 have HC5:=Aside0.mk H
 clear H
 go_enter Try.func9,Try.ntmps9
 go_upto_if 15 with (first|((with_reducible refine gate_dst (N:=3) rfl ?_);refine box_event ?hg (N:=3) ?hd (cs:=#[.slice A0_0 l0_0.length c0_0]) (t:=56) ?hr ?_;(case hd => rfl);(case hg => rfl);(case hr => first|(go_simp;done)|(go_simp;rfl));intro gb101 hg w6 hbox hb;have n0_:=Aside0.mk (below_step (by repeat (first|(with_reducible first|exact HB.out|apply below_alloc|apply pw_below_drewN|apply below_drew1)|exact HB.out)) hb);have n1_:=Aside0.mk (hbox);have n2_:=Aside0.mk ((by rw [hg];exact (below_size (by repeat (first|(with_reducible first|exact HB.out|apply below_alloc|apply pw_below_drewN|apply below_drew1)|exact HB.out))) : w.heap.size ≤ gb101));have n3_:=Aside0.mk ((by rw [hg];exact (below_size (by repeat (first|(with_reducible first|exact HB.out|apply below_alloc|apply pw_below_drewN|apply below_drew1)|exact HB.out))) : w.heap.size ≤ gb101));clear HB;have HB:=n0_;have BK101:=n1_;have GW101:=n2_;have GE101:=n3_;clear n0_ n1_ n2_ n3_;clear hb hbox hg)|((with_reducible refine gate_dst (N:=4) rfl ?_);refine box_event ?hg (N:=4) ?hd (cs:=#[.int .i64 a1_0,.bool a1_1,.int .i64 a1_2]) (t:=23) ?hr ?_;(case hd => rfl);(case hg => rfl);(case hr => first|(go_simp;done)|(go_simp;rfl));intro gb102 hg w7 hbox hb;have n0_:=Aside0.mk (blk_below (g:=gb101) (o:=.cells #[.slice A0_0 l0_0.length c0_0] 56 (0,0)) (by (with_reducible repeat (first|refine blk_drewN ?_ _|refine blk_drew ?_|refine blk_alloc ?_ _));exact BK101.out) hb);have n1_:=Aside0.mk (below_step (by repeat (first|(with_reducible first|exact HB.out|apply below_alloc|apply pw_below_drewN|apply below_drew1|refine below_set ?_ GE101.out)|exact HB.out)) hb);have n2_:=Aside0.mk (hbox);have n3_:=Aside0.mk ((by rw [hg];exact (below_size (by repeat (first|(with_reducible first|exact HB.out|apply below_alloc|apply pw_below_drewN|apply below_drew1|refine below_set ?_ GE101.out)|exact HB.out))) : w.heap.size ≤ gb102));have n4_:=Aside0.mk ((by rw [hg];exact (below_size (by repeat (first|(with_reducible first|exact HB.out|apply below_alloc|apply pw_below_drewN|apply below_drew1|refine below_set ?_ GE101.out)|exact HB.out))) : w.heap.size ≤ gb102));have n5_:=Aside0.mk ((by rw [hg];exact Nat.ne_of_lt (blk_lt (g:=gb101) (o:=.cells #[.slice A0_0 l0_0.length c0_0] 56 (0,0)) (by (with_reducible repeat (first|refine blk_drewN ?_ _|refine blk_drew ?_|refine blk_alloc ?_ _));exact BK101.out)) : gb101 ≠ gb102));have n6_:=Aside0.mk ((by rw [hg];exact Nat.ne_of_gt (blk_lt (g:=gb101) (o:=.cells #[.slice A0_0 l0_0.length c0_0] 56 (0,0)) (by (with_reducible repeat (first|refine blk_drewN ?_ _|refine blk_drew ?_|refine blk_alloc ?_ _));exact BK101.out)) : gb102 ≠ gb101));clear BK101;clear HB;have BK101:=n0_;have HB:=n1_;have BK102:=n2_;have GW102:=n3_;have GE102:=n4_;have NB101_102:=n5_;have NB102_101:=n6_;clear n0_ n1_ n2_ n3_ n4_ n5_ n6_;clear hb hbox hg)|((with_reducible refine gate_dst (N:=5) rfl ?_);refine box_event ?hg (N:=5) ?hd (cs:=#[.int .i64 a2_0,.int .i64 a2_1]) (t:=58) ?hr ?_;(case hd => rfl);(case hg => rfl);(case hr => first|(go_simp;done)|(go_simp;rfl));intro gb103 hg w8 hbox hb;have n0_:=Aside0.mk (blk_below (g:=gb101) (o:=.cells #[.slice A0_0 l0_0.length c0_0] 56 (0,0)) (by (with_reducible repeat (first|refine blk_drewN ?_ _|refine blk_drew ?_|refine blk_alloc ?_ _));exact BK101.out) hb);have n1_:=Aside0.mk (blk_below (g:=gb102) (o:=.cells #[.int .i64 a1_0,.bool a1_1,.int .i64 a1_2] 23 (0,0)) (by (with_reducible repeat (first|refine blk_drewN ?_ _|refine blk_drew ?_|refine blk_alloc ?_ _));exact BK102.out) hb);have n2_:=Aside0.mk (below_step (by repeat (first|(with_reducible first|exact HB.out|apply below_alloc|apply pw_below_drewN|apply below_drew1|refine below_set ?_ GE101.out|refine below_set ?_ GE102.out)|exact HB.out)) hb);have n3_:=Aside0.mk (hbox);have n4_:=Aside0.mk ((by rw [hg];exact (below_size (by repeat (first|(with_reducible first|exact HB.out|apply below_alloc|apply pw_below_drewN|apply below_drew1|refine below_set ?_ GE101.out|refine below_set ?_ GE102.out)|exact HB.out))) : w.heap.size ≤ gb103));have n5_:=Aside0.mk ((by rw [hg];exact (below_size (by repeat (first|(with_reducible first|exact HB.out|apply below_alloc|apply pw_below_drewN|apply below_drew1|refine below_set ?_ GE101.out|refine below_set ?_ GE102.out)|exact HB.out))) : w.heap.size ≤ gb103));have n6_:=Aside0.mk ((by rw [hg];exact Nat.ne_of_lt (blk_lt (g:=gb101) (o:=.cells #[.slice A0_0 l0_0.length c0_0] 56 (0,0)) (by (with_reducible repeat (first|refine blk_drewN ?_ _|refine blk_drew ?_|refine blk_alloc ?_ _));exact BK101.out)) : gb101 ≠ gb103));have n7_:=Aside0.mk ((by rw [hg];exact Nat.ne_of_gt (blk_lt (g:=gb101) (o:=.cells #[.slice A0_0 l0_0.length c0_0] 56 (0,0)) (by (with_reducible repeat (first|refine blk_drewN ?_ _|refine blk_drew ?_|refine blk_alloc ?_ _));exact BK101.out)) : gb103 ≠ gb101));have n8_:=Aside0.mk ((by rw [hg];exact Nat.ne_of_lt (blk_lt (g:=gb102) (o:=.cells #[.int .i64 a1_0,.bool a1_1,.int .i64 a1_2] 23 (0,0)) (by (with_reducible repeat (first|refine blk_drewN ?_ _|refine blk_drew ?_|refine blk_alloc ?_ _));exact BK102.out)) : gb102 ≠ gb103));have n9_:=Aside0.mk ((by rw [hg];exact Nat.ne_of_gt (blk_lt (g:=gb102) (o:=.cells #[.int .i64 a1_0,.bool a1_1,.int .i64 a1_2] 23 (0,0)) (by (with_reducible repeat (first|refine blk_drewN ?_ _|refine blk_drew ?_|refine blk_alloc ?_ _));exact BK102.out)) : gb103 ≠ gb102));clear BK101;clear BK102;clear HB;have BK101:=n0_;have BK102:=n1_;have HB:=n2_;have BK103:=n3_;have GW103:=n4_;have GE103:=n5_;have NB101_103:=n6_;have NB103_101:=n7_;have NB102_103:=n8_;have NB103_102:=n9_;clear n0_ n1_ n2_ n3_ n4_ n5_ n6_ n7_ n8_ n9_;clear hb hbox hg;have hnb9:=NB101_102.out;have hnc9:=NB102_101.out;have hnb10:=NB101_103.out;have hnc10:=NB103_101.out;have hcz11_0 : w8.cell? ⟨gb101,0,none⟩ = some (.slice A0_0 l0_0.length c0_0):=(blk_cell BK101.out 0).trans rfl;have hfz11_0:=blk_frozen BK101.out 0)|((with_reducible refine gate_callee (f:=38) rfl ?_);refine goesL_ (some 13) rfl rfl Try.func38 (by kernel_rfl) rfl #[.agg #[.slice A0_0 l0_0.length c0_0],.int .i64 1048576] rfl (by (try simp only [List.map_toArray,List.map_cons,List.map_nil]);first|done|rfl|(simp only [List.length_drop,List.length_take];rfl)) ?_;(with_reducible refine (laws_szFile.calls _ _ l0_0 1048576 t104 _ ?side1 ?side2 A4.out).mono ?_);(case side1 => repeat (first|exact (Kd.C_below HR0_0.out HB.out)|(with_reducible refine Kd.C_alloc ?_ _)|(with_reducible refine Kd.C_drewN ?_ _)|(with_reducible refine Kd.C_drew ?_)));(case side2 => exact HC0_0.out);rintro e w12 ⟨rfl,hb⟩;refine ⟨_,rfl,?_⟩;have n0_:=Aside0.mk (blk_below (g:=gb101) (o:=.cells #[.slice A0_0 l0_0.length c0_0] 56 (0,0)) (by (with_reducible repeat (first|refine blk_drewN ?_ _|refine blk_drew ?_|refine blk_alloc ?_ _));exact BK101.out) hb);have n1_:=Aside0.mk (blk_below (g:=gb102) (o:=.cells #[.int .i64 a1_0,.bool a1_1,.int .i64 a1_2] 23 (0,0)) (by (with_reducible repeat (first|refine blk_drewN ?_ _|refine blk_drew ?_|refine blk_alloc ?_ _));exact BK102.out) hb);have n2_:=Aside0.mk (blk_below (g:=gb103) (o:=.cells #[.int .i64 a2_0,.int .i64 a2_1] 58 (0,0)) (by (with_reducible repeat (first|refine blk_drewN ?_ _|refine blk_drew ?_|refine blk_alloc ?_ _));exact BK103.out) hb);have n3_:=Aside0.mk (below_step (by repeat (first|(with_reducible first|exact HB.out|apply below_alloc|apply pw_below_drewN|apply below_drew1|refine below_set ?_ GE101.out|refine below_set ?_ GE102.out|refine below_set ?_ GE103.out)|exact HB.out)) hb);clear BK101;clear BK102;clear BK103;clear HB;have BK101:=n0_;have BK102:=n1_;have BK103:=n2_;have HB:=n3_;clear n0_ n1_ n2_ n3_;(try clear hb);(try clear hb2);(try clear hk);(try clear hi)))
 (try simp only [Act.put,List.setIfInBounds_toArray,List.set_cons_zero,List.set_cons_succ])
 have H:=HC5.out
 clear HC5
 by_cases c13 : t104 < 0
 · rw [if_pos c13] at H
   have c13b0 : decide (t104 < 0) = true:=decide_eq_true c13
   clear c13
   (first|rw [c13b0]|(simp only [i64_w,i32_w];rw [c13b0])|skip)
   obtain rfl:=Option.some.inj H
   go_wp2
   go_ret
   exact ⟨by first|rfl|(simp [errW_none,errW_some] <;> rfl)|(simp [*,errW_none,errW_some] <;> rfl),by repeat (first|(with_reducible first|exact HB.out|apply below_alloc|apply pw_below_drewN|apply below_drew1|refine below_set ?_ GE101.out|refine below_set ?_ GE102.out|refine below_set ?_ GE103.out)|exact HB.out)⟩
 · rw [if_neg c13] at H
   have c13b0 : decide (t104 < 0) = false:=decide_eq_false c13
   clear c13
   (first|rw [c13b0]|(simp only [i64_w,i32_w];rw [c13b0])|skip)
   replace H:=Option.bind_eq_some_iff.mp H
   obtain ⟨t105,A140,H⟩:=H
   replace H : ((laws_toLayout.f a1_0 a1_1 a1_2).bind fun bt108 => ((laws_toSpot.f a2_0 a2_1).bind fun bt111 => ((spec_SpotFault.f t105 bt108.1 bt108.2.1 bt108.2.2 bt111.1 bt111.2).bind fun t113 => ((laws_toFile.f k l0_0).bind fun t114 => ((laws_toLayout.f a1_0 a1_1 a1_2).bind fun bt118 => ((laws_toSpot.f a2_0 a2_1).bind fun bt121 => ((impl_SpotFault.f k t114 bt118.1 bt118.2.1 bt118.2.2 bt121.1 bt121.2).bind fun t123 => (if t123 = t113 then ((laws_toFile.f k l0_0).bind fun t124 => ((laws_eqFile.f k t114 t124).bind fun t127 => (if t127 = true then (some true) else (some false)))) else (some false))))))))) = some r:=H
   have A14:=Aside0.mk A140
   clear A140
   replace H:=Option.bind_eq_some_iff.mp H
   obtain ⟨⟨t108,t109,t110⟩,A150,H⟩:=H
   replace H : ((laws_toSpot.f a2_0 a2_1).bind fun bt111 => ((spec_SpotFault.f t105 t108 t109 t110 bt111.1 bt111.2).bind fun t113 => ((laws_toFile.f k l0_0).bind fun t114 => ((laws_toLayout.f a1_0 a1_1 a1_2).bind fun bt118 => ((laws_toSpot.f a2_0 a2_1).bind fun bt121 => ((impl_SpotFault.f k t114 bt118.1 bt118.2.1 bt118.2.2 bt121.1 bt121.2).bind fun t123 => (if t123 = t113 then ((laws_toFile.f k l0_0).bind fun t124 => ((laws_eqFile.f k t114 t124).bind fun t127 => (if t127 = true then (some true) else (some false)))) else (some false)))))))) = some r:=H
   have A15:=Aside0.mk A150
   clear A150
   replace H:=Option.bind_eq_some_iff.mp H
   obtain ⟨⟨t111,t112⟩,A160,H⟩:=H
   replace H : ((spec_SpotFault.f t105 t108 t109 t110 t111 t112).bind fun t113 => ((laws_toFile.f k l0_0).bind fun t114 => ((laws_toLayout.f a1_0 a1_1 a1_2).bind fun bt118 => ((laws_toSpot.f a2_0 a2_1).bind fun bt121 => ((impl_SpotFault.f k t114 bt118.1 bt118.2.1 bt118.2.2 bt121.1 bt121.2).bind fun t123 => (if t123 = t113 then ((laws_toFile.f k l0_0).bind fun t124 => ((laws_eqFile.f k t114 t124).bind fun t127 => (if t127 = true then (some true) else (some false)))) else (some false))))))) = some r:=H
   have A16:=Aside0.mk A160
   clear A160
   replace H:=Option.bind_eq_some_iff.mp H
   obtain ⟨t113,A170,H⟩:=H
   replace H : ((laws_toFile.f k l0_0).bind fun t114 => ((laws_toLayout.f a1_0 a1_1 a1_2).bind fun bt118 => ((laws_toSpot.f a2_0 a2_1).bind fun bt121 => ((impl_SpotFault.f k t114 bt118.1 bt118.2.1 bt118.2.2 bt121.1 bt121.2).bind fun t123 => (if t123 = t113 then ((laws_toFile.f k l0_0).bind fun t124 => ((laws_eqFile.f k t114 t124).bind fun t127 => (if t127 = true then (some true) else (some false)))) else (some false)))))) = some r:=H
   have A17:=Aside0.mk A170
   clear A170
   replace H:=Option.bind_eq_some_iff.mp H
   obtain ⟨t114,A180,H⟩:=H
   replace H : ((laws_toLayout.f a1_0 a1_1 a1_2).bind fun bt118 => ((laws_toSpot.f a2_0 a2_1).bind fun bt121 => ((impl_SpotFault.f k t114 bt118.1 bt118.2.1 bt118.2.2 bt121.1 bt121.2).bind fun t123 => (if t123 = t113 then ((laws_toFile.f k l0_0).bind fun t124 => ((laws_eqFile.f k t114 t124).bind fun t127 => (if t127 = true then (some true) else (some false)))) else (some false))))) = some r:=H
   have A18:=Aside0.mk A180
   clear A180
   replace H:=Option.bind_eq_some_iff.mp H
   obtain ⟨⟨t118,t119,t120⟩,A190,H⟩:=H
   replace H : ((laws_toSpot.f a2_0 a2_1).bind fun bt121 => ((impl_SpotFault.f k t114 t118 t119 t120 bt121.1 bt121.2).bind fun t123 => (if t123 = t113 then ((laws_toFile.f k l0_0).bind fun t124 => ((laws_eqFile.f k t114 t124).bind fun t127 => (if t127 = true then (some true) else (some false)))) else (some false)))) = some r:=H
   have A19:=Aside0.mk A190
   clear A190
   replace H:=Option.bind_eq_some_iff.mp H
   obtain ⟨⟨t121,t122⟩,A200,H⟩:=H
   replace H : ((impl_SpotFault.f k t114 t118 t119 t120 t121 t122).bind fun t123 => (if t123 = t113 then ((laws_toFile.f k l0_0).bind fun t124 => ((laws_eqFile.f k t114 t124).bind fun t127 => (if t127 = true then (some true) else (some false)))) else (some false))) = some r:=H
   have A20:=Aside0.mk A200
   clear A200
   replace H:=Option.bind_eq_some_iff.mp H
   obtain ⟨t123,A210,H⟩:=H
   replace H : (if t123 = t113 then ((laws_toFile.f k l0_0).bind fun t124 => ((laws_eqFile.f k t114 t124).bind fun t127 => (if t127 = true then (some true) else (some false)))) else (some false)) = some r:=H
   have A21:=Aside0.mk A210
   clear A210
   have HC22:=Aside0.mk H
   clear H
   try go_wp2
   have n0_:=Aside0.mk (blk_drew BK101.out)
   have n1_:=Aside0.mk (blk_drew BK102.out)
   have n2_:=Aside0.mk (blk_drew BK103.out)
   have n3_:=Aside0.mk (below_drew1 HB.out)
   clear BK101
   clear BK102
   clear BK103
   clear HB
   have BK101:=n0_
   have BK102:=n1_
   have BK103:=n2_
   have HB:=n3_
   clear n0_ n1_ n2_ n3_
   refine start_ (n:=8) (S:=fun w' => w'.cell? ⟨gb101,0,none⟩ = some (.slice A0_0 l0_0.length c0_0) ∧ w'.cell? ⟨gb102,0,none⟩ = some (.int .i64 a1_0) ∧ w'.cell? ⟨gb102,1,none⟩ = some (.bool a1_1) ∧ w'.cell? ⟨gb102,2,none⟩ = some (.int .i64 a1_2) ∧ w'.cell? ⟨gb103,0,none⟩ = some (.int .i64 a2_0) ∧ w'.cell? ⟨gb103,1,none⟩ = some (.int .i64 a2_1)) (ds:=[]) #[false,false,false,false,false,false,false,false] (by kernel_rfl) rfl rfl ⟨(blk_cell BK101.out 0).trans rfl,(blk_cell BK102.out 0).trans rfl,(blk_cell BK102.out 1).trans rfl,(blk_cell BK102.out 2).trans rfl,(blk_cell BK103.out 0).trans rfl,(blk_cell BK103.out 1).trans rfl⟩ (fun hHeld => ?_);refine with_tabW laws_FnExactSpotFault.tab5 laws_FnExactSpotFault.bits5 (fun HT_ HW_ => ?_)
   generalize w12.drew = w23 at BK101 BK102 BK103 HB hHeld ⊢
   refine take_ (i:=0) (N:=some 16) (v:=?_) (a':=?_) #[true,false,false,false,false,false,false,false] rfl rfl (take_ofW HT_.out HW_.out (by kernel_rfl)) (fun _ _ _ h => h) (Or.inl ⟨by rfl,?_⟩) hHeld ?_ ?_
   rotate_left
   · rintro w' ⟨s0,s1,s2,s3,s4,s5⟩
     go_simp
     with_reducible rfl
   rotate_left
   · simp only [Act.put,List.setIfInBounds_toArray,List.set_cons_zero,List.set_cons_succ,i64_w,i32_w]
     rfl
   refine take_ (i:=2) (N:=some 18) (v:=?_) (a':=?_) #[true,false,true,false,false,false,false,false] rfl rfl (take_ofW HT_.out HW_.out (by kernel_rfl)) (fun _ _ _ h => h) (Or.inl ⟨by rfl,?_⟩) hHeld ?_ ?_
   rotate_left
   · rintro w' ⟨s0,s1,s2,s3,s4,s5⟩
     go_simp
     with_reducible rfl
   rotate_left
   · simp only [Act.put,List.setIfInBounds_toArray,List.set_cons_zero,List.set_cons_succ,i64_w,i32_w]
     rfl
   refine take_ (i:=4) (N:=some 20) (v:=?_) (a':=?_) #[true,false,true,false,true,false,false,false] rfl rfl (take_ofW HT_.out HW_.out (by kernel_rfl)) (fun _ _ _ h => h) (Or.inl ⟨by rfl,?_⟩) hHeld ?_ ?_
   rotate_left
   · rintro w' ⟨s0,s1,s2,s3,s4,s5⟩
     go_simp
     with_reducible rfl
   rotate_left
   · simp only [Act.put,List.setIfInBounds_toArray,List.set_cons_zero,List.set_cons_succ,i64_w,i32_w]
     rfl
   refine one_ (i:=1) (N:=some 17) #[true,true,true,false,true,false,false,false] rfl rfl (one_of HT_.out (by kernel_rfl)) (by decide) (fun K hK => ?_)
   refine goes_ Try.func40 (by kernel_rfl) rfl #[.agg #[.slice A0_0 l0_0.length c0_0]] (by rfl) rfl rfl (by (try simp only [List.map_toArray,List.map_cons,List.map_nil]);first|done|rfl|(simp only [List.length_drop,List.length_take];rfl)) ?_
   with_reducible refine (laws_toFile.calls k _ _ l0_0 t105 _ ?side1 ?side2 A14.out).mono ?_
   (case side1 => repeat (first|exact (Kd.C_below HR0_0.out HB.out)|(with_reducible refine Kd.C_alloc ?_ _)|(with_reducible refine Kd.C_drewN ?_ _)|(with_reducible refine Kd.C_drew ?_)))
   (case side2 => exact HC0_0.out)
   rintro e w24 ⟨v106,rfl,ho0,hb⟩
   refine ⟨_,rfl,?_⟩
   have n0_:=Aside0.mk (Kd.R_lower ho0 (below_size (by repeat (first|(with_reducible first|exact HB.out|apply below_alloc|apply pw_below_drewN|apply below_drew1|refine below_set ?_ GE101.out|refine below_set ?_ GE102.out|refine below_set ?_ GE103.out)|exact HB.out))))
   have n1_:=Aside0.mk (blk_below (g:=gb101) (o:=.cells #[.slice A0_0 l0_0.length c0_0] 56 (0,0)) (by (with_reducible repeat (first|refine blk_drewN ?_ _|refine blk_drew ?_|refine blk_alloc ?_ _));exact BK101.out) hb)
   have n2_:=Aside0.mk (blk_below (g:=gb102) (o:=.cells #[.int .i64 a1_0,.bool a1_1,.int .i64 a1_2] 23 (0,0)) (by (with_reducible repeat (first|refine blk_drewN ?_ _|refine blk_drew ?_|refine blk_alloc ?_ _));exact BK102.out) hb)
   have n3_:=Aside0.mk (blk_below (g:=gb103) (o:=.cells #[.int .i64 a2_0,.int .i64 a2_1] 58 (0,0)) (by (with_reducible repeat (first|refine blk_drewN ?_ _|refine blk_drew ?_|refine blk_alloc ?_ _));exact BK103.out) hb)
   have n4_:=Aside0.mk (below_step (by repeat (first|(with_reducible first|exact HB.out|apply below_alloc|apply pw_below_drewN|apply below_drew1|refine below_set ?_ GE101.out|refine below_set ?_ GE102.out|refine below_set ?_ GE103.out)|exact HB.out)) hb)
   clear BK101
   clear BK102
   clear BK103
   clear HB
   have HO107:=n0_
   have BK101:=n1_
   have BK102:=n2_
   have BK103:=n3_
   have HB:=n4_
   clear n0_ n1_ n2_ n3_ n4_
   (try clear hb)
   (try clear hb2)
   (try clear hk)
   (try clear hi)
   (try clear ho0)
   refine hK.out _ _ ⟨(blk_cell BK101.out 0).trans rfl,(blk_cell BK102.out 0).trans rfl,(blk_cell BK102.out 1).trans rfl,(blk_cell BK102.out 2).trans rfl,(blk_cell BK103.out 0).trans rfl,(blk_cell BK103.out 1).trans rfl⟩ (fun hHeld => ?_)
   clear hK K
   refine norm_ (a':=?_) ?_ ?_
   rotate_left
   · show Act.put _ (some 17) _ = _
     simp only [Act.put,List.setIfInBounds_toArray,List.set_cons_zero,List.set_cons_succ,i64_w,i32_w]
     rfl
   refine one_ (i:=3) (N:=some 19) #[true,true,true,true,true,false,false,false] rfl rfl (one_of HT_.out (by kernel_rfl)) (by decide) (fun K hK => ?_)
   refine goes_ Try.func15 (by kernel_rfl) rfl #[.agg #[.int .i64 a1_0,.bool a1_1,.int .i64 a1_2]] (by rfl) rfl rfl (by (try simp only [List.map_toArray,List.map_cons,List.map_nil]);first|done|rfl|(simp only [List.length_drop,List.length_take];rfl)) ?_
   with_reducible refine (laws_toLayout.calls a1_0 a1_1 a1_2 t108 t109 t110 _ A15.out).mono ?_
   rintro e w25 ⟨rfl,hb⟩
   refine ⟨_,rfl,?_⟩
   have n0_:=Aside0.mk (Kd.R_below (by (with_reducible repeat (first|apply Kd.R_alloc|apply Kd.R_drewN|apply Kd.R_drew));exact HO107.out) hb)
   have n1_:=Aside0.mk (blk_below (g:=gb101) (o:=.cells #[.slice A0_0 l0_0.length c0_0] 56 (0,0)) (by (with_reducible repeat (first|refine blk_drewN ?_ _|refine blk_drew ?_|refine blk_alloc ?_ _));exact BK101.out) hb)
   have n2_:=Aside0.mk (blk_below (g:=gb102) (o:=.cells #[.int .i64 a1_0,.bool a1_1,.int .i64 a1_2] 23 (0,0)) (by (with_reducible repeat (first|refine blk_drewN ?_ _|refine blk_drew ?_|refine blk_alloc ?_ _));exact BK102.out) hb)
   have n3_:=Aside0.mk (blk_below (g:=gb103) (o:=.cells #[.int .i64 a2_0,.int .i64 a2_1] 58 (0,0)) (by (with_reducible repeat (first|refine blk_drewN ?_ _|refine blk_drew ?_|refine blk_alloc ?_ _));exact BK103.out) hb)
   have n4_:=Aside0.mk (below_step (by repeat (first|(with_reducible first|exact HB.out|apply below_alloc|apply pw_below_drewN|apply below_drew1|refine below_set ?_ GE101.out|refine below_set ?_ GE102.out|refine below_set ?_ GE103.out)|exact HB.out)) hb)
   clear HO107
   clear BK101
   clear BK102
   clear BK103
   clear HB
   have HO107:=n0_
   have BK101:=n1_
   have BK102:=n2_
   have BK103:=n3_
   have HB:=n4_
   clear n0_ n1_ n2_ n3_ n4_
   (try clear hb)
   (try clear hb2)
   (try clear hk)
   (try clear hi)
   refine hK.out _ _ ⟨(blk_cell BK101.out 0).trans rfl,(blk_cell BK102.out 0).trans rfl,(blk_cell BK102.out 1).trans rfl,(blk_cell BK102.out 2).trans rfl,(blk_cell BK103.out 0).trans rfl,(blk_cell BK103.out 1).trans rfl⟩ (fun hHeld => ?_)
   clear hK K
   refine norm_ (a':=?_) ?_ ?_
   rotate_left
   · show Act.put _ (some 19) _ = _
     simp only [Act.put,List.setIfInBounds_toArray,List.set_cons_zero,List.set_cons_succ,i64_w,i32_w]
     rfl
   refine one_ (i:=5) (N:=some 21) #[true,true,true,true,true,true,false,false] rfl rfl (one_of HT_.out (by kernel_rfl)) (by decide) (fun K hK => ?_)
   refine goes_ Try.func41 (by kernel_rfl) rfl #[.agg #[.int .i64 a2_0,.int .i64 a2_1]] (by rfl) rfl rfl (by (try simp only [List.map_toArray,List.map_cons,List.map_nil]);first|done|rfl|(simp only [List.length_drop,List.length_take];rfl)) ?_
   with_reducible refine (laws_toSpot.calls a2_0 a2_1 t111 t112 _ A16.out).mono ?_
   rintro e w26 ⟨rfl,hb⟩
   refine ⟨_,rfl,?_⟩
   have n0_:=Aside0.mk (Kd.R_below (by (with_reducible repeat (first|apply Kd.R_alloc|apply Kd.R_drewN|apply Kd.R_drew));exact HO107.out) hb)
   have n1_:=Aside0.mk (blk_below (g:=gb101) (o:=.cells #[.slice A0_0 l0_0.length c0_0] 56 (0,0)) (by (with_reducible repeat (first|refine blk_drewN ?_ _|refine blk_drew ?_|refine blk_alloc ?_ _));exact BK101.out) hb)
   have n2_:=Aside0.mk (blk_below (g:=gb102) (o:=.cells #[.int .i64 a1_0,.bool a1_1,.int .i64 a1_2] 23 (0,0)) (by (with_reducible repeat (first|refine blk_drewN ?_ _|refine blk_drew ?_|refine blk_alloc ?_ _));exact BK102.out) hb)
   have n3_:=Aside0.mk (blk_below (g:=gb103) (o:=.cells #[.int .i64 a2_0,.int .i64 a2_1] 58 (0,0)) (by (with_reducible repeat (first|refine blk_drewN ?_ _|refine blk_drew ?_|refine blk_alloc ?_ _));exact BK103.out) hb)
   have n4_:=Aside0.mk (below_step (by repeat (first|(with_reducible first|exact HB.out|apply below_alloc|apply pw_below_drewN|apply below_drew1|refine below_set ?_ GE101.out|refine below_set ?_ GE102.out|refine below_set ?_ GE103.out)|exact HB.out)) hb)
   clear HO107
   clear BK101
   clear BK102
   clear BK103
   clear HB
   have HO107:=n0_
   have BK101:=n1_
   have BK102:=n2_
   have BK103:=n3_
   have HB:=n4_
   clear n0_ n1_ n2_ n3_ n4_
   (try clear hb)
   (try clear hb2)
   (try clear hk)
   (try clear hi)
   obtain ⟨Ao27,co27,eo27⟩:=Kd.R_slice HO107.out
   (first|subst eo27|(injection eo27 with f1_ f2_ f3_;have f4_:=f1_.symm;have f5_:=f3_.symm;clear f1_ f2_ f3_;subst f4_;subst f5_))
   refine hK.out _ _ ⟨(blk_cell BK101.out 0).trans rfl,(blk_cell BK102.out 0).trans rfl,(blk_cell BK102.out 1).trans rfl,(blk_cell BK102.out 2).trans rfl,(blk_cell BK103.out 0).trans rfl,(blk_cell BK103.out 1).trans rfl⟩ (fun hHeld => ?_)
   clear hK K
   refine norm_ (a':=?_) ?_ ?_
   rotate_left
   · show Act.put _ (some 21) _ = _
     simp only [Act.put,List.setIfInBounds_toArray,List.set_cons_zero,List.set_cons_succ,i64_w,i32_w]
     rfl
   refine one_ (i:=6) (N:=some 22) #[true,true,true,true,true,true,true,false] rfl rfl (one_of HT_.out (by kernel_rfl)) (by decide) (fun K hK => ?_)
   refine goes_ Try.func39 (by kernel_rfl) rfl #[.agg #[.slice Ao27 t105.length co27],.agg #[.int .i64 t108,.bool t109,.int .i64 t110],.agg #[.int .i64 t111,.int .i64 t112]] (by rfl) rfl rfl (by (try simp only [List.map_toArray,List.map_cons,List.map_nil]);first|done|rfl|(simp only [List.length_drop,List.length_take];rfl)) ?_
   with_reducible refine (spec_SpotFault.calls _ _ t105 t108 t109 t110 t111 t112 t113 _ ?side1 ?side2 A17.out).mono ?_
   (case side1 => repeat (first|exact (Kd.R_reads' HO107.out).2.2|(with_reducible refine Kd.C_alloc ?_ _)|(with_reducible refine Kd.C_drewN ?_ _)|(with_reducible refine Kd.C_drew ?_)))
   (case side2 => exact (Kd.R_reads' HO107.out).2.1)
   rintro e w28 ⟨rfl,hb⟩
   refine ⟨_,rfl,?_⟩
   have n0_:=Aside0.mk (Kd.R_below (by (with_reducible repeat (first|apply Kd.R_alloc|apply Kd.R_drewN|apply Kd.R_drew));exact HO107.out) hb)
   have n1_:=Aside0.mk (blk_below (g:=gb101) (o:=.cells #[.slice A0_0 l0_0.length c0_0] 56 (0,0)) (by (with_reducible repeat (first|refine blk_drewN ?_ _|refine blk_drew ?_|refine blk_alloc ?_ _));exact BK101.out) hb)
   have n2_:=Aside0.mk (blk_below (g:=gb102) (o:=.cells #[.int .i64 a1_0,.bool a1_1,.int .i64 a1_2] 23 (0,0)) (by (with_reducible repeat (first|refine blk_drewN ?_ _|refine blk_drew ?_|refine blk_alloc ?_ _));exact BK102.out) hb)
   have n3_:=Aside0.mk (blk_below (g:=gb103) (o:=.cells #[.int .i64 a2_0,.int .i64 a2_1] 58 (0,0)) (by (with_reducible repeat (first|refine blk_drewN ?_ _|refine blk_drew ?_|refine blk_alloc ?_ _));exact BK103.out) hb)
   have n4_:=Aside0.mk (below_step (by repeat (first|(with_reducible first|exact HB.out|apply below_alloc|apply pw_below_drewN|apply below_drew1|refine below_set ?_ GE101.out|refine below_set ?_ GE102.out|refine below_set ?_ GE103.out)|exact HB.out)) hb)
   clear HO107
   clear BK101
   clear BK102
   clear BK103
   clear HB
   have HO107:=n0_
   have BK101:=n1_
   have BK102:=n2_
   have BK103:=n3_
   have HB:=n4_
   clear n0_ n1_ n2_ n3_ n4_
   (try clear hb)
   (try clear hb2)
   (try clear hk)
   (try clear hi)
   refine hK.out _ _ ⟨(blk_cell BK101.out 0).trans rfl,(blk_cell BK102.out 0).trans rfl,(blk_cell BK102.out 1).trans rfl,(blk_cell BK102.out 2).trans rfl,(blk_cell BK103.out 0).trans rfl,(blk_cell BK103.out 1).trans rfl⟩ (fun hHeld => ?_)
   clear hK K
   refine norm_ (a':=?_) ?_ ?_
   rotate_left
   · show Act.put _ (some 22) _ = _
     simp only [Act.put,List.setIfInBounds_toArray,List.set_cons_zero,List.set_cons_succ,i64_w,i32_w]
     rfl
   refine pure_ (i:=7) (N:=some 8) (v:=?_) (a':=?_) #[true,true,true,true,true,true,true,true] rfl rfl (any_of HT_.out (by kernel_rfl)) (fun _ _ _ h => h) (Or.inl ⟨by rfl,?_⟩) ?_ ?_
   rotate_left
   · intro w'
     go_simp
     with_reducible rfl
   rotate_left
   · simp only [Act.put,List.setIfInBounds_toArray,List.set_cons_zero,List.set_cons_succ,i64_w,i32_w]
     rfl
   refine done_ (done_of HT_.out (by kernel_rfl)) ?_
   have hnb29:=NB101_102.out
   have hnc29:=NB102_101.out
   have hnb30:=NB101_103.out
   have hnc30:=NB103_101.out
   have hcz31_0 : w28.cell? ⟨gb101,0,none⟩ = some (.slice A0_0 l0_0.length c0_0):=(blk_cell BK101.out 0).trans rfl
   have hfz31_0:=blk_frozen BK101.out 0
   try go_wp2_with (first|((with_reducible refine gate_callee (f:=40) rfl ?_);refine goesL_ (some 24) rfl rfl Try.func40 (by kernel_rfl) rfl #[.agg #[.slice A0_0 l0_0.length c0_0]] rfl (by (try simp only [List.map_toArray,List.map_cons,List.map_nil]);first|done|rfl|(simp only [List.length_drop,List.length_take];rfl)) ?_;(with_reducible refine (laws_toFile.calls k _ _ l0_0 t114 _ ?side1 ?side2 A18.out).mono ?_);(case side1 => repeat (first|exact (Kd.C_below HR0_0.out HB.out)|(with_reducible refine Kd.C_alloc ?_ _)|(with_reducible refine Kd.C_drewN ?_ _)|(with_reducible refine Kd.C_drew ?_)));(case side2 => exact HC0_0.out);rintro e w32 ⟨v115,rfl,ho0,hb⟩;refine ⟨_,rfl,?_⟩;have n0_:=Aside0.mk (Kd.R_elder' (by (with_reducible repeat (first|apply Kd.R_alloc|apply Kd.R_drewN|apply Kd.R_drew));exact HO107.out) (Kd.R_base ho0) hb);have n1_:=Aside0.mk (Kd.R_lower (Kd.R_new' ho0 (Kd.R_lt (by (with_reducible repeat (first|apply Kd.R_alloc|apply Kd.R_drewN|apply Kd.R_drew));exact HO107.out))) (below_size (by repeat (first|(with_reducible first|exact HB.out|apply below_alloc|apply pw_below_drewN|apply below_drew1|refine below_set ?_ GE101.out|refine below_set ?_ GE102.out|refine below_set ?_ GE103.out)|exact HB.out))));have n2_:=Aside0.mk (blk_below (g:=gb101) (o:=.cells #[.slice A0_0 l0_0.length c0_0] 56 (0,0)) (by (with_reducible repeat (first|refine blk_drewN ?_ _|refine blk_drew ?_|refine blk_alloc ?_ _));exact BK101.out) hb);have n3_:=Aside0.mk (blk_below (g:=gb102) (o:=.cells #[.int .i64 a1_0,.bool a1_1,.int .i64 a1_2] 23 (0,0)) (by (with_reducible repeat (first|refine blk_drewN ?_ _|refine blk_drew ?_|refine blk_alloc ?_ _));exact BK102.out) hb);have n4_:=Aside0.mk (blk_below (g:=gb103) (o:=.cells #[.int .i64 a2_0,.int .i64 a2_1] 58 (0,0)) (by (with_reducible repeat (first|refine blk_drewN ?_ _|refine blk_drew ?_|refine blk_alloc ?_ _));exact BK103.out) hb);have n5_:=Aside0.mk (below_step (by repeat (first|(with_reducible first|exact HB.out|apply below_alloc|apply pw_below_drewN|apply below_drew1|refine below_set ?_ GE101.out|refine below_set ?_ GE102.out|refine below_set ?_ GE103.out)|exact HB.out)) hb);clear HO107;clear BK101;clear BK102;clear BK103;clear HB;have HO107:=n0_;have HO116:=n1_;have BK101:=n2_;have BK102:=n3_;have BK103:=n4_;have HB:=n5_;clear n0_ n1_ n2_ n3_ n4_ n5_;(try clear hb);(try clear hb2);(try clear hk);(try clear hi);(try clear ho0))|((with_reducible refine gate_dst (N:=9) rfl ?_);refine box_event ?hg (N:=9) ?hd (cs:=#[.slice none 0 0]) (t:=61) ?hr ?_;(case hd => rfl);(case hg => rfl);(case hr => first|(go_simp;done)|(go_simp;rfl));intro gb117 hg w33 hbox hb;have n0_:=Aside0.mk (Kd.R_below (by (with_reducible repeat (first|apply Kd.R_alloc|apply Kd.R_drewN|apply Kd.R_drew));exact HO107.out) hb);have n1_:=Aside0.mk (Kd.R_below (by (with_reducible repeat (first|apply Kd.R_alloc|apply Kd.R_drewN|apply Kd.R_drew));exact HO116.out) hb);have n2_:=Aside0.mk (blk_below (g:=gb101) (o:=.cells #[.slice A0_0 l0_0.length c0_0] 56 (0,0)) (by (with_reducible repeat (first|refine blk_drewN ?_ _|refine blk_drew ?_|refine blk_alloc ?_ _));exact BK101.out) hb);have n3_:=Aside0.mk (blk_below (g:=gb102) (o:=.cells #[.int .i64 a1_0,.bool a1_1,.int .i64 a1_2] 23 (0,0)) (by (with_reducible repeat (first|refine blk_drewN ?_ _|refine blk_drew ?_|refine blk_alloc ?_ _));exact BK102.out) hb);have n4_:=Aside0.mk (blk_below (g:=gb103) (o:=.cells #[.int .i64 a2_0,.int .i64 a2_1] 58 (0,0)) (by (with_reducible repeat (first|refine blk_drewN ?_ _|refine blk_drew ?_|refine blk_alloc ?_ _));exact BK103.out) hb);have n5_:=Aside0.mk (below_step (by repeat (first|(with_reducible first|exact HB.out|apply below_alloc|apply pw_below_drewN|apply below_drew1|refine below_set ?_ GE101.out|refine below_set ?_ GE102.out|refine below_set ?_ GE103.out)|exact HB.out)) hb);have n6_:=Aside0.mk (hbox);have n7_:=Aside0.mk ((by rw [hg];exact (below_size (by repeat (first|(with_reducible first|exact HB.out|apply below_alloc|apply pw_below_drewN|apply below_drew1|refine below_set ?_ GE101.out|refine below_set ?_ GE102.out|refine below_set ?_ GE103.out)|exact HB.out))) : w.heap.size ≤ gb117));have n8_:=Aside0.mk ((by rw [hg];exact (below_size (by repeat (first|(with_reducible first|exact HB.out|apply below_alloc|apply pw_below_drewN|apply below_drew1|refine below_set ?_ GE101.out|refine below_set ?_ GE102.out|refine below_set ?_ GE103.out)|exact HB.out))) : w.heap.size ≤ gb117));have n9_:=Aside0.mk ((by rw [hg];exact Nat.ne_of_lt (blk_lt (g:=gb101) (o:=.cells #[.slice A0_0 l0_0.length c0_0] 56 (0,0)) (by (with_reducible repeat (first|refine blk_drewN ?_ _|refine blk_drew ?_|refine blk_alloc ?_ _));exact BK101.out)) : gb101 ≠ gb117));have n10_:=Aside0.mk ((by rw [hg];exact Nat.ne_of_gt (blk_lt (g:=gb101) (o:=.cells #[.slice A0_0 l0_0.length c0_0] 56 (0,0)) (by (with_reducible repeat (first|refine blk_drewN ?_ _|refine blk_drew ?_|refine blk_alloc ?_ _));exact BK101.out)) : gb117 ≠ gb101));have n11_:=Aside0.mk ((by rw [hg];exact Nat.ne_of_lt (blk_lt (g:=gb102) (o:=.cells #[.int .i64 a1_0,.bool a1_1,.int .i64 a1_2] 23 (0,0)) (by (with_reducible repeat (first|refine blk_drewN ?_ _|refine blk_drew ?_|refine blk_alloc ?_ _));exact BK102.out)) : gb102 ≠ gb117));have n12_:=Aside0.mk ((by rw [hg];exact Nat.ne_of_gt (blk_lt (g:=gb102) (o:=.cells #[.int .i64 a1_0,.bool a1_1,.int .i64 a1_2] 23 (0,0)) (by (with_reducible repeat (first|refine blk_drewN ?_ _|refine blk_drew ?_|refine blk_alloc ?_ _));exact BK102.out)) : gb117 ≠ gb102));have n13_:=Aside0.mk ((by rw [hg];exact Nat.ne_of_lt (blk_lt (g:=gb103) (o:=.cells #[.int .i64 a2_0,.int .i64 a2_1] 58 (0,0)) (by (with_reducible repeat (first|refine blk_drewN ?_ _|refine blk_drew ?_|refine blk_alloc ?_ _));exact BK103.out)) : gb103 ≠ gb117));have n14_:=Aside0.mk ((by rw [hg];exact Nat.ne_of_gt (blk_lt (g:=gb103) (o:=.cells #[.int .i64 a2_0,.int .i64 a2_1] 58 (0,0)) (by (with_reducible repeat (first|refine blk_drewN ?_ _|refine blk_drew ?_|refine blk_alloc ?_ _));exact BK103.out)) : gb117 ≠ gb103));clear HO107;clear HO116;clear BK101;clear BK102;clear BK103;clear HB;have HO107:=n0_;have HO116:=n1_;have BK101:=n2_;have BK102:=n3_;have BK103:=n4_;have HB:=n5_;have BK117:=n6_;have GW117:=n7_;have GE117:=n8_;have NB101_117:=n9_;have NB117_101:=n10_;have NB102_117:=n11_;have NB117_102:=n12_;have NB103_117:=n13_;have NB117_103:=n14_;clear n0_ n1_ n2_ n3_ n4_ n5_ n6_ n7_ n8_ n9_ n10_ n11_ n12_ n13_ n14_;clear hb hbox hg;obtain ⟨Ao34,co34,eo34⟩:=Kd.R_slice HO116.out;subst eo34;have hnb35:=NB117_101.out;have hnc35:=NB101_117.out;have hnb36:=NB117_102.out;have hnc36:=NB102_117.out;have hnb37:=NB117_103.out;have hnc37:=NB103_117.out;have hcz38_0 : w33.cell? ⟨gb117,0,none⟩ = some (.slice none 0 0):=(blk_cell BK117.out 0).trans rfl;have hfz38_0:=blk_frozen BK117.out 0))
   have n0_ : Aside0 (Kd.R (Kd.int .u8) 5 (w33.setCell ⟨gb117,0,none⟩ (.slice Ao34 t114.length co34)) w.heap.size (fun k_ => some k_ ≠ (.slice Ao34 t114.length co34 : Value).ownBlock) (.slice Ao27 t105.length co27) t105):=⟨by (with_reducible repeat (first|apply Kd.R_alloc|apply Kd.R_drewN|apply Kd.R_drew));exact Kd.R_mono (Kd.R_far (p:=⟨gb117,0,none⟩) (Kd.R_types HO107.out BK117.out (by decide)) (fun _ hk => hk.2) (.slice Ao34 t114.length co34)) (fun _ hk => hk.1.2)⟩
   have n1_ : Aside0 (Kd.R (Kd.int .u8) 5 (w33.setCell ⟨gb117,0,none⟩ (.slice Ao34 t114.length co34)) w.heap.size (fun k_ => some k_ ≠ (.slice Ao27 t105.length co27 : Value).ownBlock) (.slice Ao34 t114.length co34) t114):=⟨by (with_reducible repeat (first|apply Kd.R_alloc|apply Kd.R_drewN|apply Kd.R_drew));exact Kd.R_mono (Kd.R_far (p:=⟨gb117,0,none⟩) (Kd.R_types HO116.out BK117.out (by decide)) (fun _ hk => hk.2) (.slice Ao34 t114.length co34)) (fun _ hk => hk.1.2)⟩
   have n2_ : Aside0 ((w33.setCell ⟨gb117,0,none⟩ (.slice Ao34 t114.length co34)).heap[gb101]? = some (.cells #[.slice A0_0 l0_0.length c0_0] 56 (0,0))):=⟨by (with_reducible repeat (first|refine blk_drewN ?_ _|refine blk_drew ?_|refine blk_alloc ?_ _));refine blk_far ?_ NB101_117.out _;(with_reducible repeat (first|refine blk_drewN ?_ _|refine blk_drew ?_|refine blk_alloc ?_ _));exact BK101.out⟩
   have n3_ : Aside0 ((w33.setCell ⟨gb117,0,none⟩ (.slice Ao34 t114.length co34)).heap[gb102]? = some (.cells #[.int .i64 a1_0,.bool a1_1,.int .i64 a1_2] 23 (0,0))):=⟨by (with_reducible repeat (first|refine blk_drewN ?_ _|refine blk_drew ?_|refine blk_alloc ?_ _));refine blk_far ?_ NB102_117.out _;(with_reducible repeat (first|refine blk_drewN ?_ _|refine blk_drew ?_|refine blk_alloc ?_ _));exact BK102.out⟩
   have n4_ : Aside0 ((w33.setCell ⟨gb117,0,none⟩ (.slice Ao34 t114.length co34)).heap[gb103]? = some (.cells #[.int .i64 a2_0,.int .i64 a2_1] 58 (0,0))):=⟨by (with_reducible repeat (first|refine blk_drewN ?_ _|refine blk_drew ?_|refine blk_alloc ?_ _));refine blk_far ?_ NB103_117.out _;(with_reducible repeat (first|refine blk_drewN ?_ _|refine blk_drew ?_|refine blk_alloc ?_ _));exact BK103.out⟩
   have n5_ : Aside0 ((w33.setCell ⟨gb117,0,none⟩ (.slice Ao34 t114.length co34)).heap[gb117]? = some (.cells #[.slice Ao34 t114.length co34] 61 (0,0))):=⟨by (with_reducible repeat (first|refine blk_drewN ?_ _|refine blk_drew ?_|refine blk_alloc ?_ _));refine blk_put (cs:=#[.slice none 0 0]) ?_ 0 _ rfl;(with_reducible repeat (first|refine blk_drewN ?_ _|refine blk_drew ?_|refine blk_alloc ?_ _));exact BK117.out⟩
   have n6_ : Aside0 (Below w.heap.size w (w33.setCell ⟨gb117,0,none⟩ (.slice Ao34 t114.length co34))):=⟨by repeat (first|(with_reducible first|exact HB.out|apply below_alloc|apply pw_below_drewN|apply below_drew1|refine below_set ?_ GE101.out|refine below_set ?_ GE102.out|refine below_set ?_ GE103.out|refine below_set ?_ GE117.out)|exact HB.out)⟩
   (try clear HO107)
   (try clear HO116)
   (try clear BK101)
   (try clear BK102)
   (try clear BK103)
   (try clear BK117)
   (try clear HB)
   generalize (w33.setCell ⟨gb117,0,none⟩ (.slice Ao34 t114.length co34)) = w39 at n0_ n1_ n2_ n3_ n4_ n5_ n6_ ⊢
   have HO107:=n0_
   have HO116:=n1_
   have BK101:=n2_
   have BK102:=n3_
   have BK103:=n4_
   have BK117:=n5_
   have HB:=n6_
   clear n0_ n1_ n2_ n3_ n4_ n5_ n6_
   have n0_:=Aside0.mk (Kd.R_drew HO107.out)
   have n1_:=Aside0.mk (Kd.R_drew HO116.out)
   have n2_:=Aside0.mk (blk_drew BK101.out)
   have n3_:=Aside0.mk (blk_drew BK102.out)
   have n4_:=Aside0.mk (blk_drew BK103.out)
   have n5_:=Aside0.mk (blk_drew BK117.out)
   have n6_:=Aside0.mk (below_drew1 HB.out)
   clear HO107
   clear HO116
   clear BK101
   clear BK102
   clear BK103
   clear BK117
   clear HB
   have HO107:=n0_
   have HO116:=n1_
   have BK101:=n2_
   have BK102:=n3_
   have BK103:=n4_
   have BK117:=n5_
   have HB:=n6_
   clear n0_ n1_ n2_ n3_ n4_ n5_ n6_
   refine start_ (n:=7) (S:=fun w' => w'.cell? ⟨gb117,0,none⟩ = some (.slice Ao34 t114.length co34) ∧ w'.cell? ⟨gb102,0,none⟩ = some (.int .i64 a1_0) ∧ w'.cell? ⟨gb102,1,none⟩ = some (.bool a1_1) ∧ w'.cell? ⟨gb102,2,none⟩ = some (.int .i64 a1_2) ∧ w'.cell? ⟨gb103,0,none⟩ = some (.int .i64 a2_0) ∧ w'.cell? ⟨gb103,1,none⟩ = some (.int .i64 a2_1)) (ds:=[]) #[false,false,false,false,false,false,false] (by kernel_rfl) rfl rfl ⟨(blk_cell BK117.out 0).trans rfl,(blk_cell BK102.out 0).trans rfl,(blk_cell BK102.out 1).trans rfl,(blk_cell BK102.out 2).trans rfl,(blk_cell BK103.out 0).trans rfl,(blk_cell BK103.out 1).trans rfl⟩ (fun hHeld => ?_)
   generalize w39.drew = w40 at HO107 HO116 BK101 BK102 BK103 BK117 HB hHeld ⊢
   refine take_ (i:=0) (N:=some 25) (v:=?_) (a':=?_) #[true,false,false,false,false,false,false] rfl rfl (by kernel_rfl) (fun _ _ _ h => h) (Or.inl ⟨by rfl,?_⟩) hHeld ?_ ?_
   rotate_left
   · rintro w' ⟨s0,s1,s2,s3,s4,s5⟩
     go_simp
     with_reducible rfl
   rotate_left
   · simp only [Act.put,List.setIfInBounds_toArray,List.set_cons_zero,List.set_cons_succ,i64_w,i32_w]
     rfl
   refine take_ (i:=1) (N:=some 26) (v:=?_) (a':=?_) #[true,true,false,false,false,false,false] rfl rfl (by kernel_rfl) (fun _ _ _ h => h) (Or.inl ⟨by rfl,?_⟩) hHeld ?_ ?_
   rotate_left
   · rintro w' ⟨s0,s1,s2,s3,s4,s5⟩
     go_simp
     with_reducible rfl
   rotate_left
   · simp only [Act.put,List.setIfInBounds_toArray,List.set_cons_zero,List.set_cons_succ,i64_w,i32_w]
     rfl
   refine take_ (i:=3) (N:=some 28) (v:=?_) (a':=?_) #[true,true,false,true,false,false,false] rfl rfl (by kernel_rfl) (fun _ _ _ h => h) (Or.inl ⟨by rfl,?_⟩) hHeld ?_ ?_
   rotate_left
   · rintro w' ⟨s0,s1,s2,s3,s4,s5⟩
     go_simp
     with_reducible rfl
   rotate_left
   · simp only [Act.put,List.setIfInBounds_toArray,List.set_cons_zero,List.set_cons_succ,i64_w,i32_w]
     rfl
   refine one_ (i:=2) (N:=some 27) #[true,true,true,true,false,false,false] rfl rfl (by kernel_rfl) (by decide) (fun K hK => ?_)
   refine goes_ Try.func15 (by kernel_rfl) rfl #[.agg #[.int .i64 a1_0,.bool a1_1,.int .i64 a1_2]] (by rfl) rfl rfl (by (try simp only [List.map_toArray,List.map_cons,List.map_nil]);first|done|rfl|(simp only [List.length_drop,List.length_take];rfl)) ?_
   with_reducible refine (laws_toLayout.calls a1_0 a1_1 a1_2 t118 t119 t120 _ A19.out).mono ?_
   rintro e w41 ⟨rfl,hb⟩
   refine ⟨_,rfl,?_⟩
   have n0_:=Aside0.mk (Kd.R_below (by (with_reducible repeat (first|apply Kd.R_alloc|apply Kd.R_drewN|apply Kd.R_drew));exact HO107.out) hb)
   have n1_:=Aside0.mk (Kd.R_below (by (with_reducible repeat (first|apply Kd.R_alloc|apply Kd.R_drewN|apply Kd.R_drew));exact HO116.out) hb)
   have n2_:=Aside0.mk (blk_below (g:=gb101) (o:=.cells #[.slice A0_0 l0_0.length c0_0] 56 (0,0)) (by (with_reducible repeat (first|refine blk_drewN ?_ _|refine blk_drew ?_|refine blk_alloc ?_ _));exact BK101.out) hb)
   have n3_:=Aside0.mk (blk_below (g:=gb102) (o:=.cells #[.int .i64 a1_0,.bool a1_1,.int .i64 a1_2] 23 (0,0)) (by (with_reducible repeat (first|refine blk_drewN ?_ _|refine blk_drew ?_|refine blk_alloc ?_ _));exact BK102.out) hb)
   have n4_:=Aside0.mk (blk_below (g:=gb103) (o:=.cells #[.int .i64 a2_0,.int .i64 a2_1] 58 (0,0)) (by (with_reducible repeat (first|refine blk_drewN ?_ _|refine blk_drew ?_|refine blk_alloc ?_ _));exact BK103.out) hb)
   have n5_:=Aside0.mk (blk_below (g:=gb117) (o:=.cells #[.slice Ao34 t114.length co34] 61 (0,0)) (by (with_reducible repeat (first|refine blk_drewN ?_ _|refine blk_drew ?_|refine blk_alloc ?_ _));exact BK117.out) hb)
   have n6_:=Aside0.mk (below_step (by repeat (first|(with_reducible first|exact HB.out|apply below_alloc|apply pw_below_drewN|apply below_drew1|refine below_set ?_ GE101.out|refine below_set ?_ GE102.out|refine below_set ?_ GE103.out|refine below_set ?_ GE117.out)|exact HB.out)) hb)
   clear HO107
   clear HO116
   clear BK101
   clear BK102
   clear BK103
   clear BK117
   clear HB
   have HO107:=n0_
   have HO116:=n1_
   have BK101:=n2_
   have BK102:=n3_
   have BK103:=n4_
   have BK117:=n5_
   have HB:=n6_
   clear n0_ n1_ n2_ n3_ n4_ n5_ n6_
   (try clear hb)
   (try clear hb2)
   (try clear hk)
   (try clear hi)
   refine hK.out _ _ ⟨(blk_cell BK117.out 0).trans rfl,(blk_cell BK102.out 0).trans rfl,(blk_cell BK102.out 1).trans rfl,(blk_cell BK102.out 2).trans rfl,(blk_cell BK103.out 0).trans rfl,(blk_cell BK103.out 1).trans rfl⟩ (fun hHeld => ?_)
   clear hK K
   refine norm_ (a':=?_) ?_ ?_
   rotate_left
   · show Act.put _ (some 27) _ = _
     simp only [Act.put,List.setIfInBounds_toArray,List.set_cons_zero,List.set_cons_succ,i64_w,i32_w]
     rfl
   refine one_ (i:=4) (N:=some 29) #[true,true,true,true,true,false,false] rfl rfl (by kernel_rfl) (by decide) (fun K hK => ?_)
   refine goes_ Try.func41 (by kernel_rfl) rfl #[.agg #[.int .i64 a2_0,.int .i64 a2_1]] (by rfl) rfl rfl (by (try simp only [List.map_toArray,List.map_cons,List.map_nil]);first|done|rfl|(simp only [List.length_drop,List.length_take];rfl)) ?_
   with_reducible refine (laws_toSpot.calls a2_0 a2_1 t121 t122 _ A20.out).mono ?_
   rintro e w42 ⟨rfl,hb⟩
   refine ⟨_,rfl,?_⟩
   have n0_:=Aside0.mk (Kd.R_below (by (with_reducible repeat (first|apply Kd.R_alloc|apply Kd.R_drewN|apply Kd.R_drew));exact HO107.out) hb)
   have n1_:=Aside0.mk (Kd.R_below (by (with_reducible repeat (first|apply Kd.R_alloc|apply Kd.R_drewN|apply Kd.R_drew));exact HO116.out) hb)
   have n2_:=Aside0.mk (blk_below (g:=gb101) (o:=.cells #[.slice A0_0 l0_0.length c0_0] 56 (0,0)) (by (with_reducible repeat (first|refine blk_drewN ?_ _|refine blk_drew ?_|refine blk_alloc ?_ _));exact BK101.out) hb)
   have n3_:=Aside0.mk (blk_below (g:=gb102) (o:=.cells #[.int .i64 a1_0,.bool a1_1,.int .i64 a1_2] 23 (0,0)) (by (with_reducible repeat (first|refine blk_drewN ?_ _|refine blk_drew ?_|refine blk_alloc ?_ _));exact BK102.out) hb)
   have n4_:=Aside0.mk (blk_below (g:=gb103) (o:=.cells #[.int .i64 a2_0,.int .i64 a2_1] 58 (0,0)) (by (with_reducible repeat (first|refine blk_drewN ?_ _|refine blk_drew ?_|refine blk_alloc ?_ _));exact BK103.out) hb)
   have n5_:=Aside0.mk (blk_below (g:=gb117) (o:=.cells #[.slice Ao34 t114.length co34] 61 (0,0)) (by (with_reducible repeat (first|refine blk_drewN ?_ _|refine blk_drew ?_|refine blk_alloc ?_ _));exact BK117.out) hb)
   have n6_:=Aside0.mk (below_step (by repeat (first|(with_reducible first|exact HB.out|apply below_alloc|apply pw_below_drewN|apply below_drew1|refine below_set ?_ GE101.out|refine below_set ?_ GE102.out|refine below_set ?_ GE103.out|refine below_set ?_ GE117.out)|exact HB.out)) hb)
   clear HO107
   clear HO116
   clear BK101
   clear BK102
   clear BK103
   clear BK117
   clear HB
   have HO107:=n0_
   have HO116:=n1_
   have BK101:=n2_
   have BK102:=n3_
   have BK103:=n4_
   have BK117:=n5_
   have HB:=n6_
   clear n0_ n1_ n2_ n3_ n4_ n5_ n6_
   (try clear hb)
   (try clear hb2)
   (try clear hk)
   (try clear hi)
   refine hK.out _ _ ⟨(blk_cell BK117.out 0).trans rfl,(blk_cell BK102.out 0).trans rfl,(blk_cell BK102.out 1).trans rfl,(blk_cell BK102.out 2).trans rfl,(blk_cell BK103.out 0).trans rfl,(blk_cell BK103.out 1).trans rfl⟩ (fun hHeld => ?_)
   clear hK K
   refine norm_ (a':=?_) ?_ ?_
   rotate_left
   · show Act.put _ (some 29) _ = _
     simp only [Act.put,List.setIfInBounds_toArray,List.set_cons_zero,List.set_cons_succ,i64_w,i32_w]
     rfl
   refine one_ (i:=5) (N:=some 30) #[true,true,true,true,true,true,false] rfl rfl (by kernel_rfl) (by decide) (fun K hK => ?_)
   refine goes_ Try.func42 (by kernel_rfl) rfl #[.agg #[.slice Ao34 t114.length co34],.agg #[.int .i64 t118,.bool t119,.int .i64 t120],.agg #[.int .i64 t121,.int .i64 t122]] (by rfl) rfl rfl (by (try simp only [List.map_toArray,List.map_cons,List.map_nil]);first|done|rfl|(simp only [List.length_drop,List.length_take];rfl)) ?_
   with_reducible refine (impl_SpotFault.calls k _ _ t114 t118 t119 t120 t121 t122 t123 _ ?side1 ?side2 A21.out).mono ?_
   (case side1 => repeat (first|exact (Kd.R_reads' HO116.out).2.2|(with_reducible refine Kd.C_alloc ?_ _)|(with_reducible refine Kd.C_drewN ?_ _)|(with_reducible refine Kd.C_drew ?_)))
   (case side2 => exact (Kd.R_reads' HO116.out).2.1)
   rintro e w43 ⟨rfl,hb⟩
   refine ⟨_,rfl,?_⟩
   have n0_:=Aside0.mk (Kd.R_below (by (with_reducible repeat (first|apply Kd.R_alloc|apply Kd.R_drewN|apply Kd.R_drew));exact HO107.out) hb)
   have n1_:=Aside0.mk (Kd.R_below (by (with_reducible repeat (first|apply Kd.R_alloc|apply Kd.R_drewN|apply Kd.R_drew));exact HO116.out) hb)
   have n2_:=Aside0.mk (blk_below (g:=gb101) (o:=.cells #[.slice A0_0 l0_0.length c0_0] 56 (0,0)) (by (with_reducible repeat (first|refine blk_drewN ?_ _|refine blk_drew ?_|refine blk_alloc ?_ _));exact BK101.out) hb)
   have n3_:=Aside0.mk (blk_below (g:=gb102) (o:=.cells #[.int .i64 a1_0,.bool a1_1,.int .i64 a1_2] 23 (0,0)) (by (with_reducible repeat (first|refine blk_drewN ?_ _|refine blk_drew ?_|refine blk_alloc ?_ _));exact BK102.out) hb)
   have n4_:=Aside0.mk (blk_below (g:=gb103) (o:=.cells #[.int .i64 a2_0,.int .i64 a2_1] 58 (0,0)) (by (with_reducible repeat (first|refine blk_drewN ?_ _|refine blk_drew ?_|refine blk_alloc ?_ _));exact BK103.out) hb)
   have n5_:=Aside0.mk (blk_below (g:=gb117) (o:=.cells #[.slice Ao34 t114.length co34] 61 (0,0)) (by (with_reducible repeat (first|refine blk_drewN ?_ _|refine blk_drew ?_|refine blk_alloc ?_ _));exact BK117.out) hb)
   have n6_:=Aside0.mk (below_step (by repeat (first|(with_reducible first|exact HB.out|apply below_alloc|apply pw_below_drewN|apply below_drew1|refine below_set ?_ GE101.out|refine below_set ?_ GE102.out|refine below_set ?_ GE103.out|refine below_set ?_ GE117.out)|exact HB.out)) hb)
   clear HO107
   clear HO116
   clear BK101
   clear BK102
   clear BK103
   clear BK117
   clear HB
   have HO107:=n0_
   have HO116:=n1_
   have BK101:=n2_
   have BK102:=n3_
   have BK103:=n4_
   have BK117:=n5_
   have HB:=n6_
   clear n0_ n1_ n2_ n3_ n4_ n5_ n6_
   (try clear hb)
   (try clear hb2)
   (try clear hk)
   (try clear hi)
   refine hK.out _ _ ⟨(blk_cell BK117.out 0).trans rfl,(blk_cell BK102.out 0).trans rfl,(blk_cell BK102.out 1).trans rfl,(blk_cell BK102.out 2).trans rfl,(blk_cell BK103.out 0).trans rfl,(blk_cell BK103.out 1).trans rfl⟩ (fun hHeld => ?_)
   clear hK K
   refine norm_ (a':=?_) ?_ ?_
   rotate_left
   · show Act.put _ (some 30) _ = _
     simp only [Act.put,List.setIfInBounds_toArray,List.set_cons_zero,List.set_cons_succ,i64_w,i32_w]
     rfl
   refine pure_ (i:=6) (N:=some 10) (v:=?_) (a':=?_) #[true,true,true,true,true,true,true] rfl rfl (by kernel_rfl) (fun _ _ _ h => h) (Or.inl ⟨by rfl,?_⟩) ?_ ?_
   rotate_left
   · intro w'
     go_simp
     with_reducible rfl
   rotate_left
   · simp only [Act.put,List.setIfInBounds_toArray,List.set_cons_zero,List.set_cons_succ,i64_w,i32_w]
     rfl
   refine done_ (by kernel_rfl) ?_
   go_upto_if 33 with (fail)
   have H:=HC22.out
   clear HC22
   by_cases c44 : t123 = t113
   · rw [if_pos c44] at H
     have c44b0 : (t123 == t113) = true:=beq_iff_eq.mpr c44
     have c44b1 : (t123 != t113) = false:=bne_eq_false_iff_eq.mpr c44
     clear c44
     (first|rw [c44b0]|(simp only [i64_w,i32_w];rw [c44b0])|skip)
     replace H:=Option.bind_eq_some_iff.mp H
     obtain ⟨t124,A450,H⟩:=H
     replace H : ((laws_eqFile.f k t114 t124).bind fun t127 => (if t127 = true then (some true) else (some false))) = some r:=H
     have A45:=Aside0.mk A450
     clear A450
     replace H:=Option.bind_eq_some_iff.mp H
     obtain ⟨t127,A460,H⟩:=H
     replace H : (if t127 = true then (some true) else (some false)) = some r:=H
     have A46:=Aside0.mk A460
     clear A460
     have HC47:=Aside0.mk H
     clear H
     try go_wp2
     have n0_:=Aside0.mk (Kd.R_drew HO107.out)
     have n1_:=Aside0.mk (Kd.R_drew HO116.out)
     have n2_:=Aside0.mk (blk_drew BK101.out)
     have n3_:=Aside0.mk (blk_drew BK102.out)
     have n4_:=Aside0.mk (blk_drew BK103.out)
     have n5_:=Aside0.mk (blk_drew BK117.out)
     have n6_:=Aside0.mk (below_drew1 HB.out)
     clear HO107
     clear HO116
     clear BK101
     clear BK102
     clear BK103
     clear BK117
     clear HB
     have HO107:=n0_
     have HO116:=n1_
     have BK101:=n2_
     have BK102:=n3_
     have BK103:=n4_
     have BK117:=n5_
     have HB:=n6_
     clear n0_ n1_ n2_ n3_ n4_ n5_ n6_
     refine start_ (n:=5) (S:=fun w' => w'.cell? ⟨gb117,0,none⟩ = some (.slice Ao34 t114.length co34) ∧ w'.cell? ⟨gb101,0,none⟩ = some (.slice A0_0 l0_0.length c0_0)) (ds:=[]) #[false,false,false,false,false] (by kernel_rfl) rfl rfl ⟨(blk_cell BK117.out 0).trans rfl,(blk_cell BK101.out 0).trans rfl⟩ (fun hHeld => ?_)
     generalize w43.drew = w48 at HO107 HO116 BK101 BK102 BK103 BK117 HB hHeld ⊢
     refine take_ (i:=0) (N:=some 34) (v:=?_) (a':=?_) #[true,false,false,false,false] rfl rfl (by kernel_rfl) (fun _ _ _ h => h) (Or.inl ⟨by rfl,?_⟩) hHeld ?_ ?_
     rotate_left
     · rintro w' ⟨s0,s1⟩
       go_simp
       with_reducible rfl
     rotate_left
     · simp only [Act.put,List.setIfInBounds_toArray,List.set_cons_zero,List.set_cons_succ,i64_w,i32_w]
       rfl
     refine take_ (i:=1) (N:=some 35) (v:=?_) (a':=?_) #[true,true,false,false,false] rfl rfl (by kernel_rfl) (fun _ _ _ h => h) (Or.inl ⟨by rfl,?_⟩) hHeld ?_ ?_
     rotate_left
     · rintro w' ⟨s0,s1⟩
       go_simp
       with_reducible rfl
     rotate_left
     · simp only [Act.put,List.setIfInBounds_toArray,List.set_cons_zero,List.set_cons_succ,i64_w,i32_w]
       rfl
     refine one_ (i:=2) (N:=some 36) #[true,true,true,false,false] rfl rfl (by kernel_rfl) (by decide) (fun K hK => ?_)
     refine goes_ Try.func40 (by kernel_rfl) rfl #[.agg #[.slice A0_0 l0_0.length c0_0]] (by rfl) rfl rfl (by (try simp only [List.map_toArray,List.map_cons,List.map_nil]);first|done|rfl|(simp only [List.length_drop,List.length_take];rfl)) ?_
     with_reducible refine (laws_toFile.calls k _ _ l0_0 t124 _ ?side1 ?side2 A45.out).mono ?_
     (case side1 => repeat (first|exact (Kd.C_below HR0_0.out HB.out)|(with_reducible refine Kd.C_alloc ?_ _)|(with_reducible refine Kd.C_drewN ?_ _)|(with_reducible refine Kd.C_drew ?_)))
     (case side2 => exact HC0_0.out)
     rintro e w49 ⟨v125,rfl,ho0,hb⟩
     refine ⟨_,rfl,?_⟩
     have n0_:=Aside0.mk (Kd.R_elder' (by (with_reducible repeat (first|apply Kd.R_alloc|apply Kd.R_drewN|apply Kd.R_drew));exact HO107.out) (Kd.R_base ho0) hb)
     have n1_:=Aside0.mk (Kd.R_elder' (by (with_reducible repeat (first|apply Kd.R_alloc|apply Kd.R_drewN|apply Kd.R_drew));exact HO116.out) (Kd.R_base ho0) hb)
     have n2_:=Aside0.mk (Kd.R_lower (Kd.R_new' (Kd.R_new' ho0 (Kd.R_lt (by (with_reducible repeat (first|apply Kd.R_alloc|apply Kd.R_drewN|apply Kd.R_drew));exact HO107.out))) (Kd.R_lt (by (with_reducible repeat (first|apply Kd.R_alloc|apply Kd.R_drewN|apply Kd.R_drew));exact HO116.out))) (below_size (by repeat (first|(with_reducible first|exact HB.out|apply below_alloc|apply pw_below_drewN|apply below_drew1|refine below_set ?_ GE101.out|refine below_set ?_ GE102.out|refine below_set ?_ GE103.out|refine below_set ?_ GE117.out)|exact HB.out))))
     have n3_:=Aside0.mk (blk_below (g:=gb101) (o:=.cells #[.slice A0_0 l0_0.length c0_0] 56 (0,0)) (by (with_reducible repeat (first|refine blk_drewN ?_ _|refine blk_drew ?_|refine blk_alloc ?_ _));exact BK101.out) hb)
     have n4_:=Aside0.mk (blk_below (g:=gb102) (o:=.cells #[.int .i64 a1_0,.bool a1_1,.int .i64 a1_2] 23 (0,0)) (by (with_reducible repeat (first|refine blk_drewN ?_ _|refine blk_drew ?_|refine blk_alloc ?_ _));exact BK102.out) hb)
     have n5_:=Aside0.mk (blk_below (g:=gb103) (o:=.cells #[.int .i64 a2_0,.int .i64 a2_1] 58 (0,0)) (by (with_reducible repeat (first|refine blk_drewN ?_ _|refine blk_drew ?_|refine blk_alloc ?_ _));exact BK103.out) hb)
     have n6_:=Aside0.mk (blk_below (g:=gb117) (o:=.cells #[.slice Ao34 t114.length co34] 61 (0,0)) (by (with_reducible repeat (first|refine blk_drewN ?_ _|refine blk_drew ?_|refine blk_alloc ?_ _));exact BK117.out) hb)
     have n7_:=Aside0.mk (below_step (by repeat (first|(with_reducible first|exact HB.out|apply below_alloc|apply pw_below_drewN|apply below_drew1|refine below_set ?_ GE101.out|refine below_set ?_ GE102.out|refine below_set ?_ GE103.out|refine below_set ?_ GE117.out)|exact HB.out)) hb)
     clear HO107
     clear HO116
     clear BK101
     clear BK102
     clear BK103
     clear BK117
     clear HB
     have HO107:=n0_
     have HO116:=n1_
     have HO126:=n2_
     have BK101:=n3_
     have BK102:=n4_
     have BK103:=n5_
     have BK117:=n6_
     have HB:=n7_
     clear n0_ n1_ n2_ n3_ n4_ n5_ n6_ n7_
     (try clear hb)
     (try clear hb2)
     (try clear hk)
     (try clear hi)
     (try clear ho0)
     obtain ⟨Ao50,co50,eo50⟩:=Kd.R_slice HO126.out
     (first|subst eo50|(injection eo50 with f1_ f2_ f3_;have f4_:=f1_.symm;have f5_:=f3_.symm;clear f1_ f2_ f3_;subst f4_;subst f5_))
     refine hK.out _ _ ⟨(blk_cell BK117.out 0).trans rfl,(blk_cell BK101.out 0).trans rfl⟩ (fun hHeld => ?_)
     clear hK K
     refine norm_ (a':=?_) ?_ ?_
     rotate_left
     · show Act.put _ (some 36) _ = _
       simp only [Act.put,List.setIfInBounds_toArray,List.set_cons_zero,List.set_cons_succ,i64_w,i32_w]
       rfl
     refine one_ (i:=3) (N:=some 37) #[true,true,true,true,false] rfl rfl (by kernel_rfl) (by decide) (fun K hK => ?_)
     refine goes_ Try.func43 (by kernel_rfl) rfl #[.agg #[.slice Ao34 t114.length co34],.agg #[.slice Ao50 t124.length co50]] (by rfl) rfl rfl (by (try simp only [List.map_toArray,List.map_cons,List.map_nil]);first|done|rfl|(simp only [List.length_drop,List.length_take];rfl)) ?_
     with_reducible refine (laws_eqFile.calls k _ _ t114 _ _ t124 t127 _ ?side1 ?side2 ?side3 ?side4 A46.out).mono ?_
     (case side1 => repeat (first|exact (Kd.R_reads' HO116.out).2.2|(with_reducible refine Kd.C_alloc ?_ _)|(with_reducible refine Kd.C_drewN ?_ _)|(with_reducible refine Kd.C_drew ?_)))
     (case side2 => exact (Kd.R_reads' HO116.out).2.1)
     (case side3 => repeat (first|exact (Kd.R_reads' HO126.out).2.2|(with_reducible refine Kd.C_alloc ?_ _)|(with_reducible refine Kd.C_drewN ?_ _)|(with_reducible refine Kd.C_drew ?_)))
     (case side4 => exact (Kd.R_reads' HO126.out).2.1)
     rintro e w51 ⟨rfl,hb⟩
     refine ⟨_,rfl,?_⟩
     have n0_:=Aside0.mk (Kd.R_below (by (with_reducible repeat (first|apply Kd.R_alloc|apply Kd.R_drewN|apply Kd.R_drew));exact HO107.out) hb)
     have n1_:=Aside0.mk (Kd.R_below (by (with_reducible repeat (first|apply Kd.R_alloc|apply Kd.R_drewN|apply Kd.R_drew));exact HO116.out) hb)
     have n2_:=Aside0.mk (Kd.R_below (by (with_reducible repeat (first|apply Kd.R_alloc|apply Kd.R_drewN|apply Kd.R_drew));exact HO126.out) hb)
     have n3_:=Aside0.mk (blk_below (g:=gb101) (o:=.cells #[.slice A0_0 l0_0.length c0_0] 56 (0,0)) (by (with_reducible repeat (first|refine blk_drewN ?_ _|refine blk_drew ?_|refine blk_alloc ?_ _));exact BK101.out) hb)
     have n4_:=Aside0.mk (blk_below (g:=gb102) (o:=.cells #[.int .i64 a1_0,.bool a1_1,.int .i64 a1_2] 23 (0,0)) (by (with_reducible repeat (first|refine blk_drewN ?_ _|refine blk_drew ?_|refine blk_alloc ?_ _));exact BK102.out) hb)
     have n5_:=Aside0.mk (blk_below (g:=gb103) (o:=.cells #[.int .i64 a2_0,.int .i64 a2_1] 58 (0,0)) (by (with_reducible repeat (first|refine blk_drewN ?_ _|refine blk_drew ?_|refine blk_alloc ?_ _));exact BK103.out) hb)
     have n6_:=Aside0.mk (blk_below (g:=gb117) (o:=.cells #[.slice Ao34 t114.length co34] 61 (0,0)) (by (with_reducible repeat (first|refine blk_drewN ?_ _|refine blk_drew ?_|refine blk_alloc ?_ _));exact BK117.out) hb)
     have n7_:=Aside0.mk (below_step (by repeat (first|(with_reducible first|exact HB.out|apply below_alloc|apply pw_below_drewN|apply below_drew1|refine below_set ?_ GE101.out|refine below_set ?_ GE102.out|refine below_set ?_ GE103.out|refine below_set ?_ GE117.out)|exact HB.out)) hb)
     clear HO107
     clear HO116
     clear HO126
     clear BK101
     clear BK102
     clear BK103
     clear BK117
     clear HB
     have HO107:=n0_
     have HO116:=n1_
     have HO126:=n2_
     have BK101:=n3_
     have BK102:=n4_
     have BK103:=n5_
     have BK117:=n6_
     have HB:=n7_
     clear n0_ n1_ n2_ n3_ n4_ n5_ n6_ n7_
     (try clear hb)
     (try clear hb2)
     (try clear hk)
     (try clear hi)
     refine hK.out _ _ ⟨(blk_cell BK117.out 0).trans rfl,(blk_cell BK101.out 0).trans rfl⟩ (fun hHeld => ?_)
     clear hK K
     refine norm_ (a':=?_) ?_ ?_
     rotate_left
     · show Act.put _ (some 37) _ = _
       simp only [Act.put,List.setIfInBounds_toArray,List.set_cons_zero,List.set_cons_succ,i64_w,i32_w]
       rfl
     refine pure_ (i:=4) (N:=some 38) (v:=?_) (a':=?_) #[true,true,true,true,true] rfl rfl (by kernel_rfl) (fun _ _ _ h => h) (Or.inl ⟨by rfl,?_⟩) ?_ ?_
     rotate_left
     · intro w'
       go_simp
       with_reducible rfl
     rotate_left
     · simp only [Act.put,List.setIfInBounds_toArray,List.set_cons_zero,List.set_cons_succ,i64_w,i32_w]
       rfl
     refine done_ (by kernel_rfl) ?_
     go_upto_if 38 with (fail)
     have H:=HC47.out
     clear HC47
     by_cases c52 : t127 = true
     · subst c52
       have H1 : (some true) = some r:=by rw [if_pos rfl] at H;exact H
       clear H
       have H:=H1
       clear H1
       obtain rfl:=Option.some.inj H
       go_wp2
       go_ret
       exact ⟨by first|rfl|(simp [errW_none,errW_some] <;> rfl)|(simp [*,errW_none,errW_some] <;> rfl),by repeat (first|(with_reducible first|exact HB.out|apply below_alloc|apply pw_below_drewN|apply below_drew1|refine below_set ?_ GE101.out|refine below_set ?_ GE102.out|refine below_set ?_ GE103.out|refine below_set ?_ GE117.out)|exact HB.out)⟩
     · replace c52:=Bool.eq_false_iff.mpr c52
       subst c52
       have H1 : (some false) = some r:=by rw [if_neg (show ¬ (false = true) by decide)] at H;exact H
       clear H
       have H:=H1
       clear H1
       obtain rfl:=Option.some.inj H
       go_wp2
       go_ret
       exact ⟨by first|rfl|(simp [errW_none,errW_some] <;> rfl)|(simp [*,errW_none,errW_some] <;> rfl),by repeat (first|(with_reducible first|exact HB.out|apply below_alloc|apply pw_below_drewN|apply below_drew1|refine below_set ?_ GE101.out|refine below_set ?_ GE102.out|refine below_set ?_ GE103.out|refine below_set ?_ GE117.out)|exact HB.out)⟩
   · rw [if_neg c44] at H
     have c44b0 : (t123 == t113) = false:=beq_eq_false_iff_ne.mpr c44
     have c44b1 : (t123 != t113) = true:=bne_iff_ne.mpr c44
     (first|rw [c44b0]|(simp only [i64_w,i32_w];rw [c44b0])|skip)
     obtain rfl:=Option.some.inj H
     go_wp2
     go_ret
     exact ⟨by first|rfl|(simp [errW_none,errW_some] <;> rfl)|(simp [*,errW_none,errW_some] <;> rfl),by repeat (first|(with_reducible first|exact HB.out|apply below_alloc|apply pw_below_drewN|apply below_drew1|refine below_set ?_ GE101.out|refine below_set ?_ GE102.out|refine below_set ?_ GE103.out|refine below_set ?_ GE117.out)|exact HB.out)⟩
end Go.Proofs.Ytcinaflmpdmdaaa.Q
end
section
namespace Go.Proofs.Ytcinaflmpdmdaaa.SpotFault
open Go.RowKit Go.Proofs.Ytcinaflmpdmdaaa.Q Go.Proofs.YtcinaflmpdmdaaaW.PrintWords Go.Proofs.YtcinaflmpdmdaaaW.PrintLast Go.Proofs.YtcinaflmpdmdaaaW.PrintMore Go.Proofs.Ytcinaflmpdmdaaa.L
theorem pure_law (l : List Int) (hm : l.length ≤ 9223372036854775807) (hw : ∀ x ∈ l, (Lit.int .u8 x).wf = true) (wd : Int) (ch : Bool) (sh a b : Int) : ∃ k, laws_FnExactSpotFault.f k l wd ch sh a b = some true := by
  refine Ev.rounds ?_
  unfold laws_FnExactSpotFault.f
  by_cases hl : 1048576 < l.length
  · exact Ev.bind0 (szFile_big l hm hl) (Ev.pos (by decide) (Ev.now _))
  have hn : l.length ≤ 1048576 := by omega
  refine Ev.bind0 (szFile_fit l hn) (Ev.neg (by omega) ?_)
  have ho : M.lineOk l = true := M.lineOk_of hn hw
  have hS : spec_SpotFault.f l wd ch sh a b = some (M.spotF l wd ch sh a b) := by unfold spec_SpotFault.f; rw [if_pos ho]
  simp only [laws_toLayout.f, laws_toSpot.f, Option.bind_some]
  exact Ev.bind (laws_toFile.ev l hn) (Ev.bind0 hS (Ev.bind (laws_toFile.ev l hn) (Ev.bind (i_spot ho wd ch sh a b) (Ev.pos rfl (Ev.bind (laws_toFile.ev l hn) (Ev.bind (laws_eqFile.ev l hn) (Ev.pos rfl (Ev.now _))))))))
theorem law_walk (A : Option Addr) (c : Nat) (l : List Int) (wd : Int) (ch : Bool) (sh a b : Int) (w : World) (hR : M.Row (fun x => [Value.int .u8 x]) 1 w A l) (hw : ∀ x ∈ l, (Lit.int .u8 x).wf = true) (hc : l.length ≤ c) (hm : c ≤ maxLen) :
    Calls Try.prog 9 #[.agg #[.slice A l.length c], .agg #[.int .i64 wd, .bool ch, .int .i64 sh], .agg #[.int .i64 a, .int .i64 b]] w fun e w' => e = .returned (.bool true) ∧ Below w.heap.size w w' := by
  obtain ⟨k, h⟩ := pure_law l (by unfold maxLen at hm; omega) hw wd ch sh a b
  exact laws_FnExactSpotFault.calls k A c l wd ch sh a b true w (M.C_ints (by unfold maxLen at hm; omega) hR) hc h
open Go.ChangeShapes Go.WideShapes Go.ChangeAt Go.Proofs.Ytcinaflmpdmdaaa.M
set_option maxRecDepth 100000 in
theorem lifted (os : Os) (started : os.Started) (H : Type) (enc : TypeId × Value → H) :
    ReturnsInHanded {} Try.checked os 9 .any (Rows.fnExactSpotFaultSpec.pre6 enc Try.prog Try.f9 Rows.fnExactSpotFaultRow.domain false) (Rows.fnExactSpotFaultSpec.post enc Try.prog Try.f9 false true false false) := by
  refine returnsInHanded_of_change (C := Try.checked) own_knob started (by kernel_rfl) Try.func9
    (ChangeSpec.witness6 (enc := enc) (C := Try.checked) false ⟨#[], #[.agg #[.slice none 0 0], .agg #[.int .i64 0, .bool false, .int .i64 0], .agg #[.int .i64 0, .int .i64 0]], []⟩ 8 (by kernel_rfl) (by kernel_rfl) (by kernel_rfl) (by kernel_rfl)) ?_
  intro W base args ds gs before hval0 hW hcnd _
  have hval : ∀ (j : Nat) t v, (Try.f9).params[j]? = some t → args[j]? = some v → Value.okWide Try.prog W .any base t v := hval0
  have hW' := hW
  obtain ⟨p, q, hA0, hV, rfl, hfz, hnd⟩ := hW
  have hA : DataW.TrodAll enc Try.prog W 0 (fun _ => true) true (Try.f9).params.toList args.toList ds p := hA0
  rw [Try.params9] at hA hval
  obtain ⟨v0, vs0, d0, ds0, p0, q0, hargs, rfl, rfl, h0, r0⟩ := trodAll_cons hA
  obtain ⟨v1, vs1, d1, ds1, p1, q1, rfl, rfl, rfl, h1, r1⟩ := trodAll_cons r0
  obtain ⟨v2, vs2, d2, ds2, p2, q2, rfl, rfl, rfl, h2, r2⟩ := trodAll_cons r1
  obtain ⟨rfl, rfl, rfl⟩ := trodAll_nil r2
  obtain rfl : args = #[v0, v1, v2] := by cases args; simp_all
  obtain ⟨cs0, _, _, rfl, hx0⟩ := open_struct_v Try.underlying56 (hval 0 _ v0 rfl rfl) h0
  obtain ⟨A, l, c, rfl, hc, hm, hR, hG⟩ := el_File hx0
  obtain ⟨cs1, _, _, rfl, hx1⟩ := open_struct_v Try.underlying23 (hval 1 _ v1 rfl rfl) h1
  obtain ⟨wd, ch, sh, rfl⟩ := el_Layout hx1
  obtain ⟨cs2, _, _, rfl, hx2⟩ := open_struct_v Try.underlying58 (hval 2 _ v2 rfl rfl) h2
  obtain ⟨a, b, rfl, _, _⟩ := el_Spot hx2
  obtain ⟨rfl, rfl⟩ := trodVars_none hV
  refine (law_walk A c l wd ch sh a b W hR hG hc hm).mono fun e W' ⟨he, hb⟩ => ?_
  subst he
  exact ⟨_, rfl, law_post laid_out Try.underlying4 rfl rfl (by kernel_rfl) hW' hb ⟨rfl, rfl, rfl⟩⟩
theorem over : Rows.fnExactSpotFaultRow.holds Try.pinned (OpenSpec.ofChange Rows.fnExactSpotFaultSpec) :=
  OpenClaim.holds_of_wide 9 Try.f9 rfl rfl rfl rfl rfl rfl rfl ⟨rfl, rfl, rfl, rfl, rfl⟩ rfl rfl rfl rfl rfl (by kernel_rfl) Try.func9 (by kernel_rfl)
    (of_decide_eq_true (by kernel_rfl)) (by unfold Func.isWrapper; first | (rw [if_pos (by decide +kernel)]; kernel_rfl) | (rw [if_neg (by decide +kernel)]; exact ⟨rfl, rfl⟩))
    (fun os started H enc _ => lifted os started H enc)
theorem proved : Rows.FnExactSpotFaultSaid := over
end Go.Proofs.Ytcinaflmpdmdaaa.SpotFault
end
