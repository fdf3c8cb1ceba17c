/- For every input FnExactLastTop returns true: the program's LastTop tells what the reference's tells, and leaves its arguments as they were. No condition. -/
import Derived.Test.YtcinaflmpdmdaaaCFnExactLastTop1
import Derived.Test.YtcinaflmpdmdaaaCFnExactLastTop0
import Derived.Test.YtcinaflmpdmdaaaRows
set_option linter.unusedVariables false
set_option linter.unusedSimpArgs false
section
namespace Go.Proofs.Ytcinaflmpdmdaaa.M
open Go.RowKit Go.Proofs.Ytcinaflmpdmdaaa.Q Go.Proofs.YtcinaflmpdmdaaaW.PrintWords Go.Proofs.YtcinaflmpdmdaaaW.PrintLast Go.Proofs.YtcinaflmpdmdaaaW.PrintMore Go.Proofs.Ytcinaflmpdmdaaa.L
set_option linter.unusedSimpArgs false
set_option linter.unusedVariables false
theorem linesOf_loop (l : List Int) (hl : l.length ≤ 1048576) : ∀ (d i f : Nat) (out : List S141), l.length - i = d → i ≤ l.length → f ≤ i → out.length ≤ i → Ev (fun k => impl_linesOf.l0 k l out (f : Int) l (l.length : Int) (i : Int)) (out ++ lin (l.drop i) i f)
  | 0, i, f, out, hd, hi, hf, ho => by
    obtain rfl : i = l.length := by omega
    refine Ev.succ ?_
    simp only [impl_linesOf.l0]
    refine Ev.neg (by omega) ?_
    rw [List.drop_length, lin]
    by_cases h : f < l.length
    · rw [if_pos h]
      refine Ev.pos (by omega) (Ev.pos (by omega) ?_)
      rw [w64 (by omega) (by omega)]
      exact Ev.now _
    · rw [if_neg h, List.append_nil]
      exact Ev.neg (by omega) (Ev.now _)
  | d + 1, i, f, out, hd, hi, hf, ho => by
    have h : i < l.length := by omega
    refine Ev.succ ?_
    simp only [impl_linesOf.l0, rd_nat l i h]
    refine Ev.pos (by omega) (Ev.pos (by omega) (Ev.pos (by omega) ?_))
    rw [List.drop_eq_getElem_cons h, lin]
    by_cases h10 : l[i] = 10
    · rw [if_pos h10]
      refine Ev.pos h10 (Ev.pos (by omega) ?_)
      rw [w64 (x := (i : Int) - (f : Int)) (by omega) (by omega), w64 (x := (i : Int) + 1) (by omega) (by omega)]
      have := linesOf_loop l hl d (i + 1) (i + 1) (out ++ [⟨(f : Int), (i : Int) - (f : Int)⟩]) (by omega) (by omega) (by omega) (by rw [List.length_append]; simp; omega)
      rw [List.append_assoc] at this
      exact this
    · rw [if_neg h10]
      refine Ev.neg h10 ?_
      rw [w64 (x := (i : Int) + 1) (by omega) (by omega)]
      exact linesOf_loop l hl d (i + 1) f out (by omega) (by omega) (by omega) (by omega)
theorem linesOf_ev (l : List Int) (hl : l.length ≤ 1048576) : Ev (fun k => impl_linesOf.f k l) (linL l) := by
  unfold impl_linesOf.f
  have := linesOf_loop l hl l.length 0 0 [] (by omega) (by omega) (by omega) (by simp)
  rw [List.drop_zero, List.nil_append] at this
  exact this
theorem linesOf_c (A : Option Addr) (n c : Nat) (l : List Int) (w : World) (hn : l.length = n) (hx : Row eU 1 w A l) (hc : n ≤ c) (hm : n ≤ 1048576)
    (R : Ending → World → Prop) (h : ∀ A' c' w', Own eLn 2 141 w' w.heap.size (.slice A' (linL l).length c') (linL l) → (linL l).length ≤ c' → c' ≤ maxLen → Below w.heap.size w w' → R (.returned (.slice A' (linL l).length c')) w') :
    Calls Try.prog 112 #[.slice A n c] w R := by
  subst hn
  obtain ⟨k, hk⟩ := Ev.rounds (linesOf_ev l hm)
  refine (impl_linesOf.calls k A c l (linL l) w (C_ints (by omega) hx) hc hk).mono ?_
  rintro e w' ⟨v, rfl, hR, hb⟩
  have ho := own_of_R (d := k141) (enc := eLn) (f := id) (k := 2) rfl (fun h => k141_openM h) eLn_len hR
  rw [List.map_id] at ho
  obtain ⟨A', c', rfl, h1, h2, _⟩ := ho.row
  exact h A' c' w' ho h1 h2 hb
set_option maxRecDepth 20000 in
set_option maxHeartbeats 2000000 in
theorem lineBytes_c (A : Option Addr) (n c : Nat) (l : List Int) (w : World) (hn : l.length = n) (hx : Row eU 1 w A l) (hc : n ≤ c) (hm : n ≤ 1048576) (a b : Nat) (hab : a + b ≤ n)
    (R : Ending → World → Prop) (h : ∀ A' c' w', Row eU 1 w' A' (subL l a b) → b ≤ c' → Below w.heap.size w w' → R (.returned (.slice A' b c')) w') :
    Calls Try.prog 113 #[.agg #[.slice A n c], .agg #[.int .i64 a, .int .i64 b]] w R := by
  have H := Lib.hid h
  have HX := Lib.hid hx
  have HN := Lib.hid hn
  clear h hx hn
  have hs := Go.Proofs.YtcinaflmpdmdaaaW.PrintWords.cut_mid (P := Try.prog) 28 5 .i64 .i64 Try.underlying28 info_u8e 1 (by kernel_rfl) A n c (a : Int) ((a : Int) + (b : Int)) (by omega) (by omega) (by omega) hc
  have hL : ((a : Int) + (b : Int)).toNat - (a : Int).toNat = b := by omega
  have hmid := (HX.out).mid (c := c) (lo := (a : Int).toNat) (hi := ((a : Int) + (b : Int)).toNat) (by omega) (by rw [HN.out]; omega) (by rw [HN.out]; exact hc)
  rw [hL] at hs
  have e1 : (a : Int).toNat = a := Int.toNat_natCast a
  have e2 : ((a : Int) + (b : Int)).toNat = a + b := by omega
  rw [e2] at hmid
  rw [e1] at hs hmid
  obtain ⟨A2, hA2⟩ : ∃ A2, (if c = a then A else A.map (·.add (a * 1))) = A2 := ⟨_, rfl⟩
  rw [hA2] at hs hmid
  obtain ⟨c2, hc2⟩ : ∃ c2, c - a = c2 := ⟨_, rfl⟩
  rw [hc2] at hs
  have HM := Lib.hid (show Row eU 1 w A2 (subL l a b) from hmid)
  have HCC := Lib.hid (show b ≤ c2 by omega)
  have w1 : wrap64 ((a : Int) + (b : Int)) = (a : Int) + (b : Int) := by unfold wrap64; omega
  clear hmid hL e1 e2 hA2 hc2
  (change Calls _ _ _ _ (Fin R); go_enter Try.func113, Try.ntmps113)
  go_wp2_with (fail)
  go_ret
  exact H.out A2 c2 _ (HM.out.below (by (repeat' (first | (with_reducible exact Below.refl _ _) | (with_reducible assumption) | (with_reducible refine Below.alloc ?_ ?_ _) | (with_reducible refine bdN ?_ _) | (with_reducible refine Below.drew ?_) | (with_reducible refine Below.setCell ?_ ?_ _) | go_size)))) HCC.out (by (repeat' (first | (with_reducible exact Below.refl _ _) | (with_reducible assumption) | (with_reducible refine Below.alloc ?_ ?_ _) | (with_reducible refine bdN ?_ _) | (with_reducible refine Below.drew ?_) | (with_reducible refine Below.setCell ?_ ?_ _) | go_size)))
theorem own_i64 {w : World} {e : TypeId} {base : Nat} {v : Value} {xs : List Int} (h : Kd.R (Kd.int .i64) e w base (fun _ => True) v xs) : Own eI 1 e w base v xs := by
  have := own_of_R (d := Kd.int .i64) (enc := eI) (f := id) (k := 1) rfl (fun h => h) (fun _ => rfl) h
  simpa using this
theorem r_i64 {w : World} {e : TypeId} {base : Nat} {v : Value} {xs : List Int} (h : Own eI 1 e w base v xs) : Kd.R (Kd.int .i64) e w base (fun _ => True) v xs :=
  R_of_own (d := Kd.int .i64) (enc := eI) (f := id) (k := 1) rfl (fun _ _ _ _ => rfl) (fun _ => rfl) (by simpa using h)
/-- How many rows a line has, by the program. -/
theorem rowCount_c (A : Option Addr) (n c : Nat) (l : List Int) (wd : Int) (ch : Bool) (sh : Int) (w : World) (hn : l.length = n) (hx : Row eU 1 w A l) (hc : n ≤ c) (ho : lineOk l = true) (h1 : 1 ≤ wd) (h2 : wd ≤ 40) (q : Int) (hq : rowN (cellsS l).length wd ch = q)
    (R : Ending → World → Prop) (h : ∀ w', Below w.heap.size w w' → R (.returned (.int .i64 q)) w') :
    Calls Try.prog 63 #[.slice A n c, .agg #[.int .i64 wd, .bool ch, .int .i64 sh]] w R := by
  subst hn
  refine (impl_rowCount.calls A c l wd ch sh q w (C_ints (by have := lineOk_len ho; omega) hx) hc (by rw [i_rowN l ho wd ch sh h1 h2, hq])).mono ?_
  rintro e w' ⟨rfl, hb'⟩
  exact h w' hb'
set_option maxRecDepth 20000 in
set_option maxHeartbeats 4000000 in
theorem rowsOf_c (A : Option Addr) (n c : Nat) (l : List Int) (wd : Int) (ch : Bool) (sh : Int) (w : World) (hn : l.length = n) (hx : Row eU 1 w A l) (hc : n ≤ c) (ho : lineOk l = true) (h1 : 1 ≤ wd) (h2 : wd ≤ 40)
    (R : Ending → World → Prop) (h : ∀ A' c' w', Own eI 1 2 w' w.heap.size (.slice A' (cntL l wd ch).length c') (cntL l wd ch) → (cntL l wd ch).length ≤ c' → c' ≤ maxLen → Below w.heap.size w w' → R (.returned (.slice A' (cntL l wd ch).length c')) w') :
    Calls Try.prog 80 #[.agg #[.slice A n c], .agg #[.int .i64 wd, .bool ch, .int .i64 sh]] w R := by
  have H := Lib.hid h
  have HX := Lib.hid hx
  have HN := Lib.hid hn
  have HO := Lib.hid ho
  have hm : n ≤ 1048576 := by rw [← hn]; exact lineOk_len ho
  clear h hx hn ho
  obtain ⟨W, hW⟩ : ∃ W, W = ((w.alloc (Obj.cells #[.slice A n c] 61)).alloc (Obj.cells #[.int .i64 wd, .bool ch, .int .i64 sh] 25)).alloc (Obj.cells #[] 2) := ⟨_, rfl⟩
  obtain ⟨b1, b2, b3, f1, f2, f3, hz, G0⟩ := box3 _ _ _ _ _ _ _ W hW
  have HOW := Lib.hid (show Own eI 1 2 W w.heap.size (.slice (some ⟨w.heap.size + 1 + 1, 0, none⟩) 0 0) [] by
    rw [hW]
    have := Own.lit (enc := eI) (k := 1) (e := 2) (base := w.heap.size) ((w.alloc (Obj.cells #[.slice A n c] 61)).alloc (Obj.cells #[.int .i64 wd, .bool ch, .int .i64 sh] 25)) #[] [] 0 (by simp; omega) rfl (by unfold maxLen; omega) ⟨rfl, fun i x hx => by simp at hx⟩
    simpa using this)
  have HW := Lib.hid hW
  clear hW b3 f1 f2 f3
  (change Calls _ _ _ _ (Fin R); go_enter Try.func80, Try.ntmps80)
  go_wp2_with (fail)
  rw [← HW.out]
  refine linesOf_c A n c l W HN.out (HX.out.below G0) hc hm _ ?_
  intro A1 c1 w1 ho1 hc1 hm1 hb1
  obtain ⟨m, hm'⟩ : ∃ m, (linL l).length = m := ⟨_, rfl⟩
  rw [hm'] at ho1 hc1 ⊢
  have HM := Lib.hid hm'
  have HL1 := Lib.hid ho1
  have hz1 : w.heap.size + 3 ≤ w1.heap.size := by have := hb1.size; omega
  have B1 := Lib.hid (blk_keep b1 (by omega) hb1)
  have B2 := Lib.hid (blk_keep b2 (by omega) hb1)
  have HOW1 := Lib.hid (HOW.out.below hb1)
  have hb1' := G0.trans (hb1.mono G0.size)
  have hWs : w.heap.size + 3 ≤ W.heap.size := by omega
  clear hm' ho1 b1 b2 hb1
  go_wp2_with (fail)
  go_loopg [5, 13] m (fun gk v5 v13 wr => ∃ (i d : Nat) (B : Option Addr), gk = m - i ∧ i ≤ m ∧ v5 = .slice B i d ∧ v13 = .int .i64 i ∧ i ≤ d ∧ d ≤ maxLen ∧ Own eI 1 2 wr w.heap.size (.slice B i d) (((linL l).take i).map (cntS l wd ch)) ∧ Own eLn 2 141 wr W.heap.size (.slice A1 m c1) (linL l) ∧ Hid (∀ i, wr.cell? ⟨w.heap.size, i, none⟩ = #[Value.slice A n c][i]?) ∧ Hid (∀ i, wr.cell? ⟨w.heap.size + 1, i, none⟩ = #[Value.int .i64 wd, .bool ch, .int .i64 sh][i]?) ∧ ((Value.slice B i d).ownBlock ≠ some w.heap.size ∧ (Value.slice B i d).ownBlock ≠ some (w.heap.size + 1)) ∧ Below w.heap.size w wr ∧ w.heap.size + 3 ≤ wr.heap.size)
  case atStart => exact ⟨0, 0, some ⟨w.heap.size + 1 + 1, 0, none⟩, rfl, by omega, rfl, rfl, Nat.le_refl _, by unfold maxLen; omega, HOW1.out, HL1.out, B1.out, B2.out, ⟨by simp [Value.ownBlock]; omega, by simp [Value.ownBlock]⟩, hb1', hz1⟩
  case round =>
    obtain ⟨i, d, B, rfl, hi, rfl, rfl, hd1, hd2, ho, hl, hB1, hB2, hBn, hG, hzr⟩ := hrel
    have HO1 := Lib.hid ho
    have HL2 := Lib.hid hl
    have HBN := Lib.hid hBn
    clear ho hl hBn
    by_cases hlt : i < m
    · obtain ⟨s, hs⟩ := get_lt (xs := linL l) (i := i) (by rw [HM.out]; exact hlt)
      obtain ⟨a, b, rfl, hab⟩ := linL_in (List.mem_of_getElem? hs)
      obtain ⟨ad, rfl, ha⟩ := HL2.out.rowOf i _ hs
      obtain ⟨x0, x1⟩ := At.two (a := .int .i64 (a : Int)) (b := .int .i64 (b : Int)) ha
      have HS := Lib.hid hs
      have hab' : a + b ≤ n := by rw [← HN.out]; exact hab
      obtain ⟨W2, hW2⟩ : ∃ W2, W2 = wr.alloc (Obj.cells #[.int .i64 a, .int .i64 b] 141) := ⟨_, rfl⟩
      obtain ⟨y1, _, yz, Y0⟩ := box1 _ _ _ W2 hW2
      have HW2 := Lib.hid hW2
      have z1 := blk_keep hB1.out (by omega) Y0
      have z2 := blk_keep hB2.out (by omega) Y0
      have hG2 := hG.trans (Y0.mono hG.size)
      have HO2 := Lib.hid (HO1.out.below Y0)
      have HL3 := Lib.hid (HL2.out.below Y0)
      obtain ⟨q, hq⟩ : ∃ q, rowN (cellsS (subL l a b)).length wd ch = q := ⟨_, rfl⟩
      have HQ := Lib.hid hq
      have hml : m ≤ 1048577 := by have := linL_len l; rw [HM.out, HN.out] at this; omega
      have hlen : (((linL l).take i).map (cntS l wd ch)).length = i := by rw [List.length_map, List.length_take, HM.out]; omega
      have HLN := Lib.hid hlen
      have HBD := Lib.hid (show (((linL l).take i).map (cntS l wd ch)).length + 1 ≤ 1048577 by rw [hlen]; omega)
      have HX2 := Lib.hid (show Row eU 1 W2.drew A l from (HX.out.below hG2).keeps (keeps_refl W2))
      have HSB := Lib.hid (subL_len (l := l) (a := a) (b := b) (by rw [HN.out]; exact hab'))
      have HOS := Lib.hid (lineOk_sub HO.out a b)
      clear hs hab ha hW2 hq hlen Y0 hB1 hB2
      go_wp2_with (fail)
      rw [← HW2.out]
      clear x0 x1
      have y_0 : W2.drew.cell? ⟨w.heap.size, 0, none⟩ = some (.slice A n c) := z1 0
      have y_1 : W2.drew.cell? ⟨w.heap.size + 1, 0, none⟩ = some (.int .i64 wd) := z2 0
      have y_2 : W2.drew.cell? ⟨w.heap.size + 1, 1, none⟩ = some (.bool ch) := z2 1
      have y_3 : W2.drew.cell? ⟨w.heap.size + 1, 2, none⟩ = some (.int .i64 sh) := z2 2
      have y_4 : W2.drew.cell? ⟨wr.heap.size, 0, none⟩ = some (.int .i64 a) := y1 0
      have y_5 : W2.drew.cell? ⟨wr.heap.size, 1, none⟩ = some (.int .i64 b) := y1 1
      refine start_ (n := 9) (S := fun w' => w'.cell? ⟨w.heap.size, 0, none⟩ = some (.slice A n c) ∧ w'.cell? ⟨w.heap.size + 1, 0, none⟩ = some (.int .i64 wd) ∧ w'.cell? ⟨w.heap.size + 1, 1, none⟩ = some (.bool ch) ∧ w'.cell? ⟨w.heap.size + 1, 2, none⟩ = some (.int .i64 sh) ∧ w'.cell? ⟨wr.heap.size, 0, none⟩ = some (.int .i64 a) ∧ w'.cell? ⟨wr.heap.size, 1, none⟩ = some (.int .i64 b)) (ds := [7]) #[false, false, false, false, false, false, false, false, false] (by kernel_rfl) rfl rfl ⟨y_0, y_1, y_2, y_3, y_4, y_5⟩ (fun hHeld => ?_)
      refine pure_ (i := 0) (N := some 17) (v := ?_) (a' := ?_) #[true, false, false, false, false, false, false, false, false] rfl rfl (by kernel_rfl) (fun _ _ _ h => h) (Or.inl ⟨by rfl, ?_⟩) ?_ ?_
      rotate_left
      · intro w'
        go_simp
        with_reducible rfl
      rotate_left
      · simp only [Act.put, List.setIfInBounds_toArray, List.set_cons_zero, List.set_cons_succ, i64_w, i32_w]
        rfl
      refine take_ (i := 1) (N := some 18) (v := ?_) (a' := ?_) #[true, true, false, false, false, false, false, false, false] rfl rfl (by kernel_rfl) (fun _ _ _ h => h) (Or.inl ⟨by rfl, ?_⟩) hHeld ?_ ?_
      rotate_left
      · rintro w' ⟨s0, s1, s2, s3, s4, s5⟩
        go_simp
        with_reducible rfl
      rotate_left
      · simp only [Act.put, List.setIfInBounds_toArray, List.set_cons_zero, List.set_cons_succ, i64_w, i32_w]
        rfl
      refine take_ (i := 2) (N := some 19) (v := ?_) (a' := ?_) #[true, true, true, false, false, false, false, false, false] rfl rfl (by kernel_rfl) (fun _ _ _ h => h) (Or.inl ⟨by rfl, ?_⟩) hHeld ?_ ?_
      rotate_left
      · rintro w' ⟨s0, s1, s2, s3, s4, s5⟩
        go_simp
        with_reducible rfl
      rotate_left
      · simp only [Act.put, List.setIfInBounds_toArray, List.set_cons_zero, List.set_cons_succ, i64_w, i32_w]
        rfl
      refine take_ (i := 4) (N := some 21) (v := ?_) (a' := ?_) #[true, true, true, false, true, false, false, false, false] rfl rfl (by kernel_rfl) (fun _ _ _ h => h) (Or.inl ⟨by rfl, ?_⟩) hHeld ?_ ?_
      rotate_left
      · rintro w' ⟨s0, s1, s2, s3, s4, s5⟩
        go_simp
        with_reducible rfl
      rotate_left
      · simp only [Act.put, List.setIfInBounds_toArray, List.set_cons_zero, List.set_cons_succ, i64_w, i32_w]
        rfl
      refine one_ (i := 3) (N := some 20) #[true, true, true, true, true, false, false, false, false] rfl rfl (by kernel_rfl) (by decide) (fun K hK => ?_)
      refine goes_ Try.func113 (by kernel_rfl) rfl #[.agg #[.slice A n c], .agg #[.int .i64 a, .int .i64 b]] (by rfl) rfl rfl (by simp only [List.map_toArray, List.map_cons, List.map_nil]; rfl) ?_
      refine lineBytes_c A n c l _ HN.out HX2.out hc hm a b hab' _ ?_
      intro A2 c2 w3 hr2 hc2 hb3
      refine ⟨_, rfl, ?_⟩
      have hG3 := hG2.trans ((below_drew hb3).mono hG2.size)
      have HO3 := Lib.hid (HO2.out.below (below_drew hb3))
      have HL4 := Lib.hid (HL3.out.below (below_drew hb3))
      have HR2 := Lib.hid hr2
      have hz3 : W2.heap.size ≤ w3.heap.size := (below_drew hb3).size
      have k0 := cell_below hb3 y_0
      have k1 := cell_below hb3 y_1
      have k2 := cell_below hb3 y_2
      have k3 := cell_below hb3 y_3
      have k4 := cell_below hb3 y_4
      have k5 := cell_below hb3 y_5
      refine hK.out _ _ ⟨k0, k1, k2, k3, k4, k5⟩ (fun hHeld => ?_)
      clear hK K
      refine norm_ (a' := ?_) ?_ ?_
      rotate_left
      · show Act.put _ (some 20) _ = _
        simp only [Act.put, List.setIfInBounds_toArray, List.set_cons_zero, List.set_cons_succ, i64_w, i32_w]
        rfl
      refine one_ (i := 5) (N := some 22) #[true, true, true, true, true, true, false, false, false] rfl rfl (by kernel_rfl) (by decide) (fun K hK => ?_)
      refine goes_ Try.func63 (by kernel_rfl) rfl #[.slice A2 b c2, .agg #[.int .i64 wd, .bool ch, .int .i64 sh]] (by rfl) rfl rfl (by simp only [List.map_toArray, List.map_cons, List.map_nil]; rfl) ?_
      refine rowCount_c A2 b c2 (subL l a b) wd ch sh _ HSB.out HR2.out hc2 HOS.out h1 h2 q HQ.out _ ?_
      intro w4 hb4
      refine ⟨_, rfl, ?_⟩
      have hG4 := hG3.trans (hb4.mono hG3.size)
      have HO4 := Lib.hid (HO3.out.below hb4)
      have HL5 := Lib.hid (HL4.out.below hb4)
      have hz4 : w3.heap.size ≤ w4.heap.size := hb4.size
      have j0 := cell_below hb4 k0
      have j1 := cell_below hb4 k1
      have j2 := cell_below hb4 k2
      have j3 := cell_below hb4 k3
      have j4 := cell_below hb4 k4
      have j5 := cell_below hb4 k5
      refine hK.out _ _ ⟨j0, j1, j2, j3, j4, j5⟩ (fun hHeld => ?_)
      clear hK K
      refine norm_ (a' := ?_) ?_ ?_
      rotate_left
      · show Act.put _ (some 22) _ = _
        simp only [Act.put, List.setIfInBounds_toArray, List.set_cons_zero, List.set_cons_succ, i64_w, i32_w]
        rfl
      refine one_ (i := 6) (N := some 23) #[true, true, true, true, true, true, true, false, false] rfl rfl (by kernel_rfl) (by decide) (fun K hK => ?_)
      refine value_ (w1 := ?_) (v := ?_) (by rfl) rfl ?_ ?_
      rotate_left 2
      · go_simp
        constructor
        · rfl
        · rfl
      have i0 := cell_below ((Below.refl _ _).alloc (Nat.le_refl _) (Obj.cells #[.int .i64 q] 2)) j0
      have i1 := cell_below ((Below.refl _ _).alloc (Nat.le_refl _) (Obj.cells #[.int .i64 q] 2)) j1
      have i2 := cell_below ((Below.refl _ _).alloc (Nat.le_refl _) (Obj.cells #[.int .i64 q] 2)) j2
      have i3 := cell_below ((Below.refl _ _).alloc (Nat.le_refl _) (Obj.cells #[.int .i64 q] 2)) j3
      have i4 := cell_below ((Below.refl _ _).alloc (Nat.le_refl _) (Obj.cells #[.int .i64 q] 2)) j4
      have i5 := cell_below ((Below.refl _ _).alloc (Nat.le_refl _) (Obj.cells #[.int .i64 q] 2)) j5
      refine hK.out _ _ ⟨i0, i1, i2, i3, i4, i5⟩ (fun hHeld => ?_)
      clear hK K
      refine norm_ (a' := ?_) ?_ ?_
      rotate_left
      · show Act.put _ (some 23) _ = _
        simp only [Act.put, List.setIfInBounds_toArray, List.set_cons_zero, List.set_cons_succ, i64_w, i32_w]
        rfl
      refine last_ (i := 7) (N := some 24) #[true, true, true, true, true, true, true, true, false] rfl rfl (by kernel_rfl) (by decide) (fun K hK => ?_)
      refine Kd.R_append_step (Kd.int .i64) (w0 := w) w.heap.size (by rfl) (.tmp 17) (.tmp 23) 75 2 (.int .i64 0) 8 rfl Try.underlying75 info_eI rfl (by decide) (by decide) (.slice B i d) (((linL l).take i).map (cntS l wd ch)) q [.int .i64 q] (fun _ => True) (fun _ => False) rfl rfl rfl (fun _ h => h.elim) (fun _ _ => trivial) (r_i64 HO4.out) hG4 hG4.size (by have := HBD.out; omega) ?_
      intro v' w' hr' hG' hg' hob
      have ho' := own_i64 hr'
      refine hK.out _ _ ?_
      clear hK K
      refine norm_ (a' := ?_) ?_ ?_
      rotate_left
      · show Act.put _ (some 24) _ = _
        simp only [Act.put, List.setIfInBounds_toArray, List.set_cons_zero, List.set_cons_succ, i64_w, i32_w]
        rfl
      refine pure_ (i := 8) (N := some 5) (v := ?_) (a' := ?_) #[true, true, true, true, true, true, true, true, true] rfl rfl (by kernel_rfl) (fun _ _ _ h => h) (Or.inl ⟨by rfl, ?_⟩) ?_ ?_
      rotate_left
      · intro w'
        go_simp
        with_reducible rfl
      rotate_left
      · simp only [Act.put, List.setIfInBounds_toArray, List.set_cons_zero, List.set_cons_succ, i64_w, i32_w]
        rfl
      refine done_ (by kernel_rfl) ?_
      have Z1 := blk_keep (blk_keep z1 (by omega) (below_drew hb3)) (by omega) hb4
      have Z2 := blk_keep (blk_keep z2 (by omega) (below_drew hb3)) (by omega) hb4
      have Z3 := Lib.hid (blk_grown Z1 (by omega) hg' HBN.out.1)
      have Z4 := Lib.hid (blk_grown Z2 (by omega) hg' HBN.out.2)
      have HL6 := Lib.hid (HL5.out.grown hg' (HL5.out.apart_ty HO4.out (by decide)))
      have hob1 : v'.ownBlock ≠ some w.heap.size ∧ v'.ownBlock ≠ some (w.heap.size + 1) := by
        rcases hob with e | ⟨b', e, hb'⟩
        · rw [e]; exact HBN.out
        · rw [e]
          have := hb4.size
          exact ⟨fun q => by have := Option.some.inj q; omega, fun q => by have := Option.some.inj q; omega⟩
      have hz6 : w.heap.size + 3 ≤ w'.heap.size := by have := hg'.size; omega
      have e4 : ((linL l).take (i + 1)).map (cntS l wd ch) = ((linL l).take i).map (cntS l wd ch) ++ [q] := by
        rw [List.take_add_one, HS.out, List.map_append, ← HQ.out]
        simp [cntS]
      obtain ⟨B', d', rfl, e1, e2, _⟩ := ho'.row
      have hll : (((linL l).take i).map (cntS l wd ch) ++ [q]).length = i + 1 := by rw [List.length_append, HLN.out]; rfl
      rw [hll] at e1 ho' hob1
      rw [← e4] at ho'
      rw [hll]
      have HO6 := Lib.hid ho'
      have HOB := Lib.hid hob1
      clear hll e4 ho' hob1 Z1 Z2 hob y_0 y_1 y_2 y_3 y_4 y_5 k0 k1 k2 k3 k4 k5 j0 j1 j2 j3 j4 j5 i0 i1 i2 i3 i4 i5 hr' z1 z2 y1
      go_wp2_with (fail)
      go_roundg (m - (i + 1))
      case measure => omega
      case rel => exact ⟨i + 1, d', B', rfl, by omega, rfl, by go_num, e1, e2, HO6.out, HL6.out, Z3, Z4, HOB.out, hG', hz6⟩
    · obtain rfl : i = m := by omega
      have e5 : (linL l).take i = linL l := List.take_of_length_le (by rw [HM.out]; exact Nat.le_refl _)
      have hlen : (cntL l wd ch).length = i := by rw [cntL, List.length_map, HM.out]
      go_wp2_with (fail)
      go_ret
      have ho2 := HO1.out
      rw [e5] at ho2
      have := H.out B d _ (by rw [hlen]; exact ho2) (by rw [hlen]; exact hd1) hd2 hG
      rw [hlen] at this
      exact this
end Go.Proofs.Ytcinaflmpdmdaaa.M
end
section
namespace Go.Proofs.Ytcinaflmpdmdaaa.Q
open Go.RowKit Go.Proofs.YtcinaflmpdmdaaaW.PrintWords Go.Proofs.YtcinaflmpdmdaaaW.PrintLast Go.Proofs.YtcinaflmpdmdaaaW.PrintMore
attribute [local go_sem] max2_int min2_int max_two min_two max_three min_three max_four min_four   -- for this text's walks alone
set_option linter.unusedVariables false
set_option linter.unusedSimpArgs false
/-! ### impl_rowsOf: function 80 -/
def impl_rowsOf.f (l0_0 : List Int) (a1_0 : Int) (a1_1 : Bool) (a1_2 : Int) : Option (List Int):=if (M.lineOk l0_0 && decide (1 ≤ a1_0 ∧ a1_0 ≤ 40)) = true then some (M.cntL l0_0 a1_0 a1_1) else none
theorem impl_rowsOf.calls (A0_0 : Option Addr) (c0_0 : Nat) (l0_0 : List Int) (a1_0 : Int) (a1_1 : Bool) (a1_2 : Int) (r : List Int) (w : World) (hr0_0 : Kd.C (Kd.int .u8) w A0_0 l0_0.length l0_0) (hc0_0 : l0_0.length ≤ c0_0) (h : impl_rowsOf.f l0_0 a1_0 a1_1 a1_2 = some r) :
 Calls Try.prog 80 #[.agg #[.slice A0_0 l0_0.length c0_0],.agg #[.int .i64 a1_0,.bool a1_1,.int .i64 a1_2]] w fun e w' => ∃ v0_ : Value,e = .returned (v0_) ∧ Kd.R (Kd.int .i64) 2 w' w.heap.size (fun _ => True) v0_ r ∧ Below w.heap.size w w':=by
 unfold impl_rowsOf.f at h
 split at h
 · rename_i hok
   obtain rfl:=Option.some.inj h
   rw [Bool.and_eq_true,decide_eq_true_eq] at hok
   exact M.rowsOf_c A0_0 l0_0.length c0_0 l0_0 a1_0 a1_1 a1_2 w rfl (M.row_ints hr0_0) hc0_0 hok.1 hok.2.1 hok.2.2 _ (fun A' c' w' ho _ _ hb => ⟨_,rfl,M.r_i64 ho,hb⟩)
 · cases h
end Go.Proofs.Ytcinaflmpdmdaaa.Q
end
section
namespace Go.Proofs.Ytcinaflmpdmdaaa.Q
open Go.RowKit Go.Proofs.YtcinaflmpdmdaaaW.PrintWords Go.Proofs.YtcinaflmpdmdaaaW.PrintLast Go.Proofs.YtcinaflmpdmdaaaW.PrintMore Go.Proofs.Ytcinaflmpdmdaaa.L
theorem layoutCode_ev (l : List Int) (wd : Int) (ch : Bool) (sh : Int) : Ev (fun k => impl_layoutCode.f k l wd ch sh) (M.baseF l.length wd ch sh) := by
  unfold impl_layoutCode.f impl_FileFault.f impl_isLong.f M.baseF
  by_cases h : 400 < l.length
  · rw [if_pos h]
    have : ((l.length : Int) > 400) := by omega
    refine Ev.bind0 (a := 2) (by simp [this]) (Ev.neg (by decide) (Ev.now _))
  · rw [if_neg h]
    have : ¬ ((l.length : Int) > 400) := by omega
    exact Ev.bind0 (a := 0) (by simp [this]) (Ev.pos rfl (Ev.bind (i_layout wd ch sh) (Ev.now _)))
theorem rowsOf_eq {l : List Int} (ho : M.lineOk l = true) {wd : Int} (ch : Bool) (sh : Int) (h1 : 1 ≤ wd) (h2 : wd ≤ 40) : impl_rowsOf.f l wd ch sh = some (M.cntL l wd ch) := by
  unfold impl_rowsOf.f
  rw [ho, if_pos (by simp [h1, h2])]
end Go.Proofs.Ytcinaflmpdmdaaa.Q
end
section
namespace Go.Proofs.Ytcinaflmpdmdaaa.Q
open Go.RowKit Go.Proofs.YtcinaflmpdmdaaaW.PrintWords Go.Proofs.YtcinaflmpdmdaaaW.PrintLast Go.Proofs.YtcinaflmpdmdaaaW.PrintMore
attribute [local go_sem] max2_int min2_int max_two min_two max_three min_three max_four min_four   -- for this text's walks alone
set_option linter.unusedVariables false
set_option linter.unusedSimpArgs false
/-! ### impl_lastTop: function 87 -/
def impl_lastTop.f (k : Nat) (l0_0 : List Int) (a1_0 : Int) (a1_1 : Bool) (a1_2 : Int) (a2 : Int) : Option (Int × Int):=(impl_rowsOf.f l0_0 a1_0 a1_1 a1_2).bind fun t104 => (if (wrap64 ((t104.length : Int) - 1)) < 0 then (some (0,0)) else (if 0 ≤ (wrap64 ((t104.length : Int) - 1)) then (if (wrap64 ((t104.length : Int) - 1)) < (t104.length : Int) then ((impl_moved.f k t104 (wrap64 ((t104.length : Int) - 1)) (wrap64 ((rd t104 (wrap64 ((t104.length : Int) - 1))) - 1)) (wrap64 (1 - a2))).bind fun bt108 => (some (bt108.1,bt108.2))) else (none)) else (none)))
theorem impl_lastTop.mono : ∀ a0 a1 a2 a3 a4 k,LeO (impl_lastTop.f k a0 a1 a2 a3 a4) (impl_lastTop.f (k + 1) a0 a1 a2 a3 a4):=by
 intro a0 a1 a2 a3 a4 k
 unfold impl_lastTop.f
 repeat' first
  | (with_reducible exact impl_moved.mono _ _ _ _ _)
  | (with_reducible exact LeO.refl _)
  | (with_reducible exact LeO.none _)
  | (with_reducible refine LeO.ite ?_ ?_)
  | (with_reducible refine LeO.bind ?_ (fun _ => ?_))
  | exact impl_moved.mono _ _ _ _ _
  | exact LeO.none _
  | refine LeO.ite ?_ ?_
  | refine LeO.bind ?_ (fun _ => ?_)
set_option maxHeartbeats 8000000 in
set_option maxRecDepth 100000 in
theorem impl_lastTop.calls (k : Nat) (A0_0 : Option Addr) (c0_0 : Nat) (l0_0 : List Int) (a1_0 : Int) (a1_1 : Bool) (a1_2 : Int) (a2 : Int) (r1 : Int) (r2 : Int) (w : World) (hr0_0 : Kd.C (Kd.int .u8) w A0_0 l0_0.length l0_0) (hc0_0 : l0_0.length ≤ c0_0) (h : impl_lastTop.f k l0_0 a1_0 a1_1 a1_2 a2 = some (r1,r2)) :
 Calls Try.prog 87 #[.agg #[.slice A0_0 l0_0.length c0_0],.agg #[.int .i64 a1_0,.bool a1_1,.int .i64 a1_2],.int .i64 a2] w fun e w' => e = .returned (.agg #[.int .i64 r1,.int .i64 r2]) ∧ Below w.heap.size w w':=by
 have hu61:=Try.underlying61
 have hu25:=Try.underlying25
 have hu63:=Try.underlying63
 have HR0_0:=Aside0.mk hr0_0
 have HC0_0:=Aside0.mk hc0_0
 clear hr0_0 hc0_0
 have HB:=Aside0.mk (Below.refl w.heap.size w)
 have H : ((impl_rowsOf.f l0_0 a1_0 a1_1 a1_2).bind fun t104 => (if (wrap64 ((t104.length : Int) - 1)) < 0 then (some (0,0)) else (if 0 ≤ (wrap64 ((t104.length : Int) - 1)) then (if (wrap64 ((t104.length : Int) - 1)) < (t104.length : Int) then ((impl_moved.f k t104 (wrap64 ((t104.length : Int) - 1)) (wrap64 ((rd t104 (wrap64 ((t104.length : Int) - 1))) - 1)) (wrap64 (1 - a2))).bind fun bt108 => (some (bt108.1,bt108.2))) else (none)) else (none)))) = some (r1,r2):=h
 clear h
 replace H:=Option.bind_eq_some_iff.mp H
 obtain ⟨t104,A40,H⟩:=H
 replace H : (if (wrap64 ((t104.length : Int) - 1)) < 0 then (some (0,0)) else (if 0 ≤ (wrap64 ((t104.length : Int) - 1)) then (if (wrap64 ((t104.length : Int) - 1)) < (t104.length : Int) then ((impl_moved.f k t104 (wrap64 ((t104.length : Int) - 1)) (wrap64 ((rd t104 (wrap64 ((t104.length : Int) - 1))) - 1)) (wrap64 (1 - a2))).bind fun bt108 => (some (bt108.1,bt108.2))) else (none)) else (none))) = some (r1,r2):=H
 have A4:=Aside0.mk A40
 clear A40
 by_cases c5 : (wrap64 ((t104.length : Int) - 1)) < 0
 · rw [if_pos c5] at H
   have c5b0 : decide ((wrap64 ((t104.length : Int) - 1)) < 0) = true:=decide_eq_true c5
   clear c5
   simp only [Option.some.injEq,Prod.mk.injEq] at H
   obtain ⟨rfl,rfl⟩:=H
   go_enter Try.func87,Try.ntmps87
   go_wp2_with (first|((with_reducible refine gate_dst (N:=3) rfl ?_);refine box_event ?hg (N:=3) ?hd (cs:=#[.slice A0_0 l0_0.length c0_0]) (t:=61) ?hr ?_;(case hd => rfl);(case hg => rfl);(case hr => first|(go_simp;done)|(go_simp;rfl));intro gb101 hg w6 hbox hb;have n0_:=Aside0.mk (below_step (by repeat (first|(with_reducible first|exact HB.out|apply below_alloc|apply pw_below_drewN|apply below_drew1)|exact HB.out)) hb);have n1_:=Aside0.mk (hbox);have n2_:=Aside0.mk ((by rw [hg];exact (below_size (by repeat (first|(with_reducible first|exact HB.out|apply below_alloc|apply pw_below_drewN|apply below_drew1)|exact HB.out))) : w.heap.size ≤ gb101));have n3_:=Aside0.mk ((by rw [hg];exact (below_size (by repeat (first|(with_reducible first|exact HB.out|apply below_alloc|apply pw_below_drewN|apply below_drew1)|exact HB.out))) : w.heap.size ≤ gb101));clear HB;have HB:=n0_;have BK101:=n1_;have GW101:=n2_;have GE101:=n3_;clear n0_ n1_ n2_ n3_;clear hb hbox hg)|((with_reducible refine gate_dst (N:=4) rfl ?_);refine box_event ?hg (N:=4) ?hd (cs:=#[.int .i64 a1_0,.bool a1_1,.int .i64 a1_2]) (t:=25) ?hr ?_;(case hd => rfl);(case hg => rfl);(case hr => first|(go_simp;done)|(go_simp;rfl));intro gb102 hg w7 hbox hb;have n0_:=Aside0.mk (blk_below (g:=gb101) (o:=.cells #[.slice A0_0 l0_0.length c0_0] 61 (0,0)) (by (with_reducible repeat (first|refine blk_drewN ?_ _|refine blk_drew ?_|refine blk_alloc ?_ _));exact BK101.out) hb);have n1_:=Aside0.mk (below_step (by repeat (first|(with_reducible first|exact HB.out|apply below_alloc|apply pw_below_drewN|apply below_drew1|refine below_set ?_ GE101.out)|exact HB.out)) hb);have n2_:=Aside0.mk (hbox);have n3_:=Aside0.mk ((by rw [hg];exact (below_size (by repeat (first|(with_reducible first|exact HB.out|apply below_alloc|apply pw_below_drewN|apply below_drew1|refine below_set ?_ GE101.out)|exact HB.out))) : w.heap.size ≤ gb102));have n4_:=Aside0.mk ((by rw [hg];exact (below_size (by repeat (first|(with_reducible first|exact HB.out|apply below_alloc|apply pw_below_drewN|apply below_drew1|refine below_set ?_ GE101.out)|exact HB.out))) : w.heap.size ≤ gb102));have n5_:=Aside0.mk ((by rw [hg];exact Nat.ne_of_lt (blk_lt (g:=gb101) (o:=.cells #[.slice A0_0 l0_0.length c0_0] 61 (0,0)) (by (with_reducible repeat (first|refine blk_drewN ?_ _|refine blk_drew ?_|refine blk_alloc ?_ _));exact BK101.out)) : gb101 ≠ gb102));have n6_:=Aside0.mk ((by rw [hg];exact Nat.ne_of_gt (blk_lt (g:=gb101) (o:=.cells #[.slice A0_0 l0_0.length c0_0] 61 (0,0)) (by (with_reducible repeat (first|refine blk_drewN ?_ _|refine blk_drew ?_|refine blk_alloc ?_ _));exact BK101.out)) : gb102 ≠ gb101));clear BK101;clear HB;have BK101:=n0_;have HB:=n1_;have BK102:=n2_;have GW102:=n3_;have GE102:=n4_;have NB101_102:=n5_;have NB102_101:=n6_;clear n0_ n1_ n2_ n3_ n4_ n5_ n6_;clear hb hbox hg)|((with_reducible refine gate_dst (N:=6) rfl ?_);refine box_event ?hg (N:=6) ?hd (cs:=#[.int .i64 0,.int .i64 0]) (t:=63) ?hr ?_;(case hd => rfl);(case hg => rfl);(case hr => first|(go_simp;done)|(go_simp;rfl));intro gb103 hg w8 hbox hb;have n0_:=Aside0.mk (blk_below (g:=gb101) (o:=.cells #[.slice A0_0 l0_0.length c0_0] 61 (0,0)) (by (with_reducible repeat (first|refine blk_drewN ?_ _|refine blk_drew ?_|refine blk_alloc ?_ _));exact BK101.out) hb);have n1_:=Aside0.mk (blk_below (g:=gb102) (o:=.cells #[.int .i64 a1_0,.bool a1_1,.int .i64 a1_2] 25 (0,0)) (by (with_reducible repeat (first|refine blk_drewN ?_ _|refine blk_drew ?_|refine blk_alloc ?_ _));exact BK102.out) hb);have n2_:=Aside0.mk (below_step (by repeat (first|(with_reducible first|exact HB.out|apply below_alloc|apply pw_below_drewN|apply below_drew1|refine below_set ?_ GE101.out|refine below_set ?_ GE102.out)|exact HB.out)) hb);have n3_:=Aside0.mk (hbox);have n4_:=Aside0.mk ((by rw [hg];exact (below_size (by repeat (first|(with_reducible first|exact HB.out|apply below_alloc|apply pw_below_drewN|apply below_drew1|refine below_set ?_ GE101.out|refine below_set ?_ GE102.out)|exact HB.out))) : w.heap.size ≤ gb103));have n5_:=Aside0.mk ((by rw [hg];exact (below_size (by repeat (first|(with_reducible first|exact HB.out|apply below_alloc|apply pw_below_drewN|apply below_drew1|refine below_set ?_ GE101.out|refine below_set ?_ GE102.out)|exact HB.out))) : w.heap.size ≤ gb103));have n6_:=Aside0.mk ((by rw [hg];exact Nat.ne_of_lt (blk_lt (g:=gb101) (o:=.cells #[.slice A0_0 l0_0.length c0_0] 61 (0,0)) (by (with_reducible repeat (first|refine blk_drewN ?_ _|refine blk_drew ?_|refine blk_alloc ?_ _));exact BK101.out)) : gb101 ≠ gb103));have n7_:=Aside0.mk ((by rw [hg];exact Nat.ne_of_gt (blk_lt (g:=gb101) (o:=.cells #[.slice A0_0 l0_0.length c0_0] 61 (0,0)) (by (with_reducible repeat (first|refine blk_drewN ?_ _|refine blk_drew ?_|refine blk_alloc ?_ _));exact BK101.out)) : gb103 ≠ gb101));have n8_:=Aside0.mk ((by rw [hg];exact Nat.ne_of_lt (blk_lt (g:=gb102) (o:=.cells #[.int .i64 a1_0,.bool a1_1,.int .i64 a1_2] 25 (0,0)) (by (with_reducible repeat (first|refine blk_drewN ?_ _|refine blk_drew ?_|refine blk_alloc ?_ _));exact BK102.out)) : gb102 ≠ gb103));have n9_:=Aside0.mk ((by rw [hg];exact Nat.ne_of_gt (blk_lt (g:=gb102) (o:=.cells #[.int .i64 a1_0,.bool a1_1,.int .i64 a1_2] 25 (0,0)) (by (with_reducible repeat (first|refine blk_drewN ?_ _|refine blk_drew ?_|refine blk_alloc ?_ _));exact BK102.out)) : gb103 ≠ gb102));clear BK101;clear BK102;clear HB;have BK101:=n0_;have BK102:=n1_;have HB:=n2_;have BK103:=n3_;have GW103:=n4_;have GE103:=n5_;have NB101_103:=n6_;have NB103_101:=n7_;have NB102_103:=n8_;have NB103_102:=n9_;clear n0_ n1_ n2_ n3_ n4_ n5_ n6_ n7_ n8_ n9_;clear hb hbox hg;have hnb9:=NB101_102.out;have hnc9:=NB102_101.out;have hnb10:=NB101_103.out;have hnc10:=NB103_101.out;have hcz11_0 : w8.cell? ⟨gb101,0,none⟩ = some (.slice A0_0 l0_0.length c0_0):=(blk_cell BK101.out 0).trans rfl;have hfz11_0:=blk_frozen BK101.out 0;have hnb12:=NB102_103.out;have hnc12:=NB103_102.out;have hcz13_0 : w8.cell? ⟨gb102,0,none⟩ = some (.int .i64 a1_0):=(blk_cell BK102.out 0).trans rfl;have hcz13_1 : w8.cell? ⟨gb102,1,none⟩ = some (.bool a1_1):=(blk_cell BK102.out 1).trans rfl;have hcz13_2 : w8.cell? ⟨gb102,2,none⟩ = some (.int .i64 a1_2):=(blk_cell BK102.out 2).trans rfl;have hfz13_0:=blk_frozen BK102.out 0;have hfz13_1:=blk_frozen BK102.out 1;have hfz13_2:=blk_frozen BK102.out 2)|((with_reducible refine gate_callee (f:=80) rfl ?_);refine goesL_ (some 11) rfl rfl Try.func80 (by kernel_rfl) rfl #[.agg #[.slice A0_0 l0_0.length c0_0],.agg #[.int .i64 a1_0,.bool a1_1,.int .i64 a1_2]] rfl (by (try simp only [List.map_toArray,List.map_cons,List.map_nil]);first|done|rfl|(simp only [List.length_drop,List.length_take];rfl)) ?_;(with_reducible refine (impl_rowsOf.calls _ _ l0_0 a1_0 a1_1 a1_2 t104 _ ?side1 ?side2 A4.out).mono ?_);(case side1 => repeat (first|exact (Kd.C_below HR0_0.out HB.out)|(with_reducible refine Kd.C_alloc ?_ _)|(with_reducible refine Kd.C_drewN ?_ _)|(with_reducible refine Kd.C_drew ?_)));(case side2 => exact HC0_0.out);rintro e w14 ⟨v105,rfl,ho0,hb⟩;refine ⟨_,rfl,?_⟩;have n0_:=Aside0.mk (Kd.R_lower ho0 (below_size (by repeat (first|(with_reducible first|exact HB.out|apply below_alloc|apply pw_below_drewN|apply below_drew1|refine below_set ?_ GE101.out|refine below_set ?_ GE102.out|refine below_set ?_ GE103.out)|exact HB.out))));have n1_:=Aside0.mk (blk_below (g:=gb101) (o:=.cells #[.slice A0_0 l0_0.length c0_0] 61 (0,0)) (by (with_reducible repeat (first|refine blk_drewN ?_ _|refine blk_drew ?_|refine blk_alloc ?_ _));exact BK101.out) hb);have n2_:=Aside0.mk (blk_below (g:=gb102) (o:=.cells #[.int .i64 a1_0,.bool a1_1,.int .i64 a1_2] 25 (0,0)) (by (with_reducible repeat (first|refine blk_drewN ?_ _|refine blk_drew ?_|refine blk_alloc ?_ _));exact BK102.out) hb);have n3_:=Aside0.mk (blk_below (g:=gb103) (o:=.cells #[.int .i64 0,.int .i64 0] 63 (0,0)) (by (with_reducible repeat (first|refine blk_drewN ?_ _|refine blk_drew ?_|refine blk_alloc ?_ _));exact BK103.out) hb);have n4_:=Aside0.mk (below_step (by repeat (first|(with_reducible first|exact HB.out|apply below_alloc|apply pw_below_drewN|apply below_drew1|refine below_set ?_ GE101.out|refine below_set ?_ GE102.out|refine below_set ?_ GE103.out)|exact HB.out)) hb);clear BK101;clear BK102;clear BK103;clear HB;have HO106:=n0_;have BK101:=n1_;have BK102:=n2_;have BK103:=n3_;have HB:=n4_;clear n0_ n1_ n2_ n3_ n4_;(try clear hb);(try clear hb2);(try clear hk);(try clear hi);(try clear ho0);obtain ⟨Ao15,co15,eo15⟩:=Kd.R_slice HO106.out;subst eo15;have hcz16_0 : w14.cell? ⟨gb103,0,none⟩ = some (.int .i64 0):=(blk_cell BK103.out 0).trans rfl;have hcz16_1 : w14.cell? ⟨gb103,1,none⟩ = some (.int .i64 0):=(blk_cell BK103.out 1).trans rfl;have hfz16_0:=blk_frozen BK103.out 0;have hfz16_1:=blk_frozen BK103.out 1))
   refine bodyPost_ret (results_cell_row rfl _ _ gb103 63 #[.int .i64 0,.int .i64 0] (0,0) _ rfl (by (with_reducible repeat (first|refine blk_drewN ?_ _|refine blk_drew ?_|refine blk_alloc ?_ _));refine blk_put (cs:=#[.int .i64 0,.int .i64 0]) ?_ 1 _ rfl;(with_reducible repeat (first|refine blk_drewN ?_ _|refine blk_drew ?_|refine blk_alloc ?_ _));refine blk_put (cs:=#[.int .i64 0,.int .i64 0]) ?_ 0 _ rfl;(with_reducible repeat (first|refine blk_drewN ?_ _|refine blk_drew ?_|refine blk_alloc ?_ _));exact BK103.out) Try.underlying63 rfl (by kernel_rfl)) rfl ?_
   exact ⟨by first|rfl|(simp [errW_none,errW_some] <;> rfl)|(simp [*,errW_none,errW_some] <;> rfl),by repeat (first|(with_reducible first|exact HB.out|apply below_alloc|apply pw_below_drewN|apply below_drew1|refine below_set ?_ GE101.out|refine below_set ?_ GE102.out|refine below_set ?_ GE103.out)|exact HB.out)⟩
 · rw [if_neg c5] at H
   have c5b0 : decide ((wrap64 ((t104.length : Int) - 1)) < 0) = false:=decide_eq_false c5
   clear c5
   obtain ⟨ji17,hji17⟩ : ∃ j_ : Int,(wrap64 ((t104.length : Int) - 1)) = j_:=⟨_,rfl⟩
   replace H : (if 0 ≤ (ji17) then (if (ji17) < (t104.length : Int) then ((impl_moved.f k t104 (ji17) (wrap64 ((rd t104 (ji17)) - 1)) (wrap64 (1 - a2))).bind fun bt108 => (some (bt108.1,bt108.2))) else (none)) else (none)) = some (r1,r2):=by first|(rw [hji17] at H;exact H)|(simp only [hji17] at H ⊢;exact H)
   (try rw [hji17] at c5b0)
   (try rw [hji17] at A4)
   have hji17w : (IntKind.i64.wrap ((t104.length : Int) - 1)) = ji17:=(i64_w _).trans hji17
   by_cases c18 : 0 ≤ (ji17)
   · rw [if_pos c18] at H
     have c18b0 : decide (0 ≤ (ji17)) = true:=decide_eq_true c18
     clear c18
     by_cases c19 : (ji17) < (t104.length : Int)
     · rw [if_pos c19] at H
       have c19b0 : decide ((ji17) < (t104.length : Int)) = true:=decide_eq_true c19
       clear c19
       replace H:=Option.bind_eq_some_iff.mp H
       obtain ⟨⟨t108,t109⟩,A200,H⟩:=H
       replace H : (some (t108,t109)) = some (r1,r2):=H
       have A20:=Aside0.mk A200
       clear A200
       simp only [Option.some.injEq,Prod.mk.injEq] at H
       obtain ⟨rfl,rfl⟩:=H
       go_enter Try.func87,Try.ntmps87
       go_wp2_with (first|((with_reducible refine gate_dst (N:=3) rfl ?_);refine box_event ?hg (N:=3) ?hd (cs:=#[.slice A0_0 l0_0.length c0_0]) (t:=61) ?hr ?_;(case hd => rfl);(case hg => rfl);(case hr => first|(go_simp;done)|(go_simp;rfl));intro gb101 hg w21 hbox hb;have n0_:=Aside0.mk (below_step (by repeat (first|(with_reducible first|exact HB.out|apply below_alloc|apply pw_below_drewN|apply below_drew1)|exact HB.out)) hb);have n1_:=Aside0.mk (hbox);have n2_:=Aside0.mk ((by rw [hg];exact (below_size (by repeat (first|(with_reducible first|exact HB.out|apply below_alloc|apply pw_below_drewN|apply below_drew1)|exact HB.out))) : w.heap.size ≤ gb101));have n3_:=Aside0.mk ((by rw [hg];exact (below_size (by repeat (first|(with_reducible first|exact HB.out|apply below_alloc|apply pw_below_drewN|apply below_drew1)|exact HB.out))) : w.heap.size ≤ gb101));clear HB;have HB:=n0_;have BK101:=n1_;have GW101:=n2_;have GE101:=n3_;clear n0_ n1_ n2_ n3_;clear hb hbox hg)|((with_reducible refine gate_dst (N:=4) rfl ?_);refine box_event ?hg (N:=4) ?hd (cs:=#[.int .i64 a1_0,.bool a1_1,.int .i64 a1_2]) (t:=25) ?hr ?_;(case hd => rfl);(case hg => rfl);(case hr => first|(go_simp;done)|(go_simp;rfl));intro gb102 hg w22 hbox hb;have n0_:=Aside0.mk (blk_below (g:=gb101) (o:=.cells #[.slice A0_0 l0_0.length c0_0] 61 (0,0)) (by (with_reducible repeat (first|refine blk_drewN ?_ _|refine blk_drew ?_|refine blk_alloc ?_ _));exact BK101.out) hb);have n1_:=Aside0.mk (below_step (by repeat (first|(with_reducible first|exact HB.out|apply below_alloc|apply pw_below_drewN|apply below_drew1|refine below_set ?_ GE101.out)|exact HB.out)) hb);have n2_:=Aside0.mk (hbox);have n3_:=Aside0.mk ((by rw [hg];exact (below_size (by repeat (first|(with_reducible first|exact HB.out|apply below_alloc|apply pw_below_drewN|apply below_drew1|refine below_set ?_ GE101.out)|exact HB.out))) : w.heap.size ≤ gb102));have n4_:=Aside0.mk ((by rw [hg];exact (below_size (by repeat (first|(with_reducible first|exact HB.out|apply below_alloc|apply pw_below_drewN|apply below_drew1|refine below_set ?_ GE101.out)|exact HB.out))) : w.heap.size ≤ gb102));have n5_:=Aside0.mk ((by rw [hg];exact Nat.ne_of_lt (blk_lt (g:=gb101) (o:=.cells #[.slice A0_0 l0_0.length c0_0] 61 (0,0)) (by (with_reducible repeat (first|refine blk_drewN ?_ _|refine blk_drew ?_|refine blk_alloc ?_ _));exact BK101.out)) : gb101 ≠ gb102));have n6_:=Aside0.mk ((by rw [hg];exact Nat.ne_of_gt (blk_lt (g:=gb101) (o:=.cells #[.slice A0_0 l0_0.length c0_0] 61 (0,0)) (by (with_reducible repeat (first|refine blk_drewN ?_ _|refine blk_drew ?_|refine blk_alloc ?_ _));exact BK101.out)) : gb102 ≠ gb101));clear BK101;clear HB;have BK101:=n0_;have HB:=n1_;have BK102:=n2_;have GW102:=n3_;have GE102:=n4_;have NB101_102:=n5_;have NB102_101:=n6_;clear n0_ n1_ n2_ n3_ n4_ n5_ n6_;clear hb hbox hg)|((with_reducible refine gate_dst (N:=6) rfl ?_);refine box_event ?hg (N:=6) ?hd (cs:=#[.int .i64 0,.int .i64 0]) (t:=63) ?hr ?_;(case hd => rfl);(case hg => rfl);(case hr => first|(go_simp;done)|(go_simp;rfl));intro gb103 hg w23 hbox hb;have n0_:=Aside0.mk (blk_below (g:=gb101) (o:=.cells #[.slice A0_0 l0_0.length c0_0] 61 (0,0)) (by (with_reducible repeat (first|refine blk_drewN ?_ _|refine blk_drew ?_|refine blk_alloc ?_ _));exact BK101.out) hb);have n1_:=Aside0.mk (blk_below (g:=gb102) (o:=.cells #[.int .i64 a1_0,.bool a1_1,.int .i64 a1_2] 25 (0,0)) (by (with_reducible repeat (first|refine blk_drewN ?_ _|refine blk_drew ?_|refine blk_alloc ?_ _));exact BK102.out) hb);have n2_:=Aside0.mk (below_step (by repeat (first|(with_reducible first|exact HB.out|apply below_alloc|apply pw_below_drewN|apply below_drew1|refine below_set ?_ GE101.out|refine below_set ?_ GE102.out)|exact HB.out)) hb);have n3_:=Aside0.mk (hbox);have n4_:=Aside0.mk ((by rw [hg];exact (below_size (by repeat (first|(with_reducible first|exact HB.out|apply below_alloc|apply pw_below_drewN|apply below_drew1|refine below_set ?_ GE101.out|refine below_set ?_ GE102.out)|exact HB.out))) : w.heap.size ≤ gb103));have n5_:=Aside0.mk ((by rw [hg];exact (below_size (by repeat (first|(with_reducible first|exact HB.out|apply below_alloc|apply pw_below_drewN|apply below_drew1|refine below_set ?_ GE101.out|refine below_set ?_ GE102.out)|exact HB.out))) : w.heap.size ≤ gb103));have n6_:=Aside0.mk ((by rw [hg];exact Nat.ne_of_lt (blk_lt (g:=gb101) (o:=.cells #[.slice A0_0 l0_0.length c0_0] 61 (0,0)) (by (with_reducible repeat (first|refine blk_drewN ?_ _|refine blk_drew ?_|refine blk_alloc ?_ _));exact BK101.out)) : gb101 ≠ gb103));have n7_:=Aside0.mk ((by rw [hg];exact Nat.ne_of_gt (blk_lt (g:=gb101) (o:=.cells #[.slice A0_0 l0_0.length c0_0] 61 (0,0)) (by (with_reducible repeat (first|refine blk_drewN ?_ _|refine blk_drew ?_|refine blk_alloc ?_ _));exact BK101.out)) : gb103 ≠ gb101));have n8_:=Aside0.mk ((by rw [hg];exact Nat.ne_of_lt (blk_lt (g:=gb102) (o:=.cells #[.int .i64 a1_0,.bool a1_1,.int .i64 a1_2] 25 (0,0)) (by (with_reducible repeat (first|refine blk_drewN ?_ _|refine blk_drew ?_|refine blk_alloc ?_ _));exact BK102.out)) : gb102 ≠ gb103));have n9_:=Aside0.mk ((by rw [hg];exact Nat.ne_of_gt (blk_lt (g:=gb102) (o:=.cells #[.int .i64 a1_0,.bool a1_1,.int .i64 a1_2] 25 (0,0)) (by (with_reducible repeat (first|refine blk_drewN ?_ _|refine blk_drew ?_|refine blk_alloc ?_ _));exact BK102.out)) : gb103 ≠ gb102));clear BK101;clear BK102;clear HB;have BK101:=n0_;have BK102:=n1_;have HB:=n2_;have BK103:=n3_;have GW103:=n4_;have GE103:=n5_;have NB101_103:=n6_;have NB103_101:=n7_;have NB102_103:=n8_;have NB103_102:=n9_;clear n0_ n1_ n2_ n3_ n4_ n5_ n6_ n7_ n8_ n9_;clear hb hbox hg;have hnb24:=NB101_102.out;have hnc24:=NB102_101.out;have hnb25:=NB101_103.out;have hnc25:=NB103_101.out;have hcz26_0 : w23.cell? ⟨gb101,0,none⟩ = some (.slice A0_0 l0_0.length c0_0):=(blk_cell BK101.out 0).trans rfl;have hfz26_0:=blk_frozen BK101.out 0;have hnb27:=NB102_103.out;have hnc27:=NB103_102.out;have hcz28_0 : w23.cell? ⟨gb102,0,none⟩ = some (.int .i64 a1_0):=(blk_cell BK102.out 0).trans rfl;have hcz28_1 : w23.cell? ⟨gb102,1,none⟩ = some (.bool a1_1):=(blk_cell BK102.out 1).trans rfl;have hcz28_2 : w23.cell? ⟨gb102,2,none⟩ = some (.int .i64 a1_2):=(blk_cell BK102.out 2).trans rfl;have hfz28_0:=blk_frozen BK102.out 0;have hfz28_1:=blk_frozen BK102.out 1;have hfz28_2:=blk_frozen BK102.out 2)|((with_reducible refine gate_callee (f:=80) rfl ?_);refine goesL_ (some 11) rfl rfl Try.func80 (by kernel_rfl) rfl #[.agg #[.slice A0_0 l0_0.length c0_0],.agg #[.int .i64 a1_0,.bool a1_1,.int .i64 a1_2]] rfl (by (try simp only [List.map_toArray,List.map_cons,List.map_nil]);first|done|rfl|(simp only [List.length_drop,List.length_take];rfl)) ?_;(with_reducible refine (impl_rowsOf.calls _ _ l0_0 a1_0 a1_1 a1_2 t104 _ ?side1 ?side2 A4.out).mono ?_);(case side1 => repeat (first|exact (Kd.C_below HR0_0.out HB.out)|(with_reducible refine Kd.C_alloc ?_ _)|(with_reducible refine Kd.C_drewN ?_ _)|(with_reducible refine Kd.C_drew ?_)));(case side2 => exact HC0_0.out);rintro e w29 ⟨v105,rfl,ho0,hb⟩;refine ⟨_,rfl,?_⟩;have n0_:=Aside0.mk (Kd.R_lower ho0 (below_size (by repeat (first|(with_reducible first|exact HB.out|apply below_alloc|apply pw_below_drewN|apply below_drew1|refine below_set ?_ GE101.out|refine below_set ?_ GE102.out|refine below_set ?_ GE103.out)|exact HB.out))));have n1_:=Aside0.mk (blk_below (g:=gb101) (o:=.cells #[.slice A0_0 l0_0.length c0_0] 61 (0,0)) (by (with_reducible repeat (first|refine blk_drewN ?_ _|refine blk_drew ?_|refine blk_alloc ?_ _));exact BK101.out) hb);have n2_:=Aside0.mk (blk_below (g:=gb102) (o:=.cells #[.int .i64 a1_0,.bool a1_1,.int .i64 a1_2] 25 (0,0)) (by (with_reducible repeat (first|refine blk_drewN ?_ _|refine blk_drew ?_|refine blk_alloc ?_ _));exact BK102.out) hb);have n3_:=Aside0.mk (blk_below (g:=gb103) (o:=.cells #[.int .i64 0,.int .i64 0] 63 (0,0)) (by (with_reducible repeat (first|refine blk_drewN ?_ _|refine blk_drew ?_|refine blk_alloc ?_ _));exact BK103.out) hb);have n4_:=Aside0.mk (below_step (by repeat (first|(with_reducible first|exact HB.out|apply below_alloc|apply pw_below_drewN|apply below_drew1|refine below_set ?_ GE101.out|refine below_set ?_ GE102.out|refine below_set ?_ GE103.out)|exact HB.out)) hb);clear BK101;clear BK102;clear BK103;clear HB;have HO106:=n0_;have BK101:=n1_;have BK102:=n2_;have BK103:=n3_;have HB:=n4_;clear n0_ n1_ n2_ n3_ n4_;(try clear hb);(try clear hb2);(try clear hk);(try clear hi);(try clear ho0);obtain ⟨Ao30,co30,eo30⟩:=Kd.R_slice HO106.out;subst eo30;have p107 : 0 ≤ ((ji17) : Int):=of_decide_eq_true (by first|(with_reducible assumption)|assumption);have q107 : (ji17) < (t104.length : Int):=of_decide_eq_true (by first|(with_reducible assumption)|assumption);obtain ⟨ad107,e107,hx107_0⟩:=Kd.at_int (Kd.R_reads' HO106.out).2.2 (ji17) p107 q107;cases e107;replace p107:=eq_true p107;replace q107:=eq_true q107)|((with_reducible refine gate_callee (f:=90) rfl ?_);refine goesL_ (some 28) rfl rfl Try.func90 (by kernel_rfl) rfl #[.slice (some ad107) t104.length co30,.agg #[.int .i64 ji17,.int .i64 (wrap64 ((rd t104 (ji17)) - 1))],.int .i64 (wrap64 (1 - a2))] rfl (by (try simp only [List.map_toArray,List.map_cons,List.map_nil]);first|done|(simp only [hji17];rfl)|rfl|(simp only [List.length_drop,List.length_take];rfl)) ?_;(with_reducible refine (impl_moved.calls k _ _ t104 ji17 (wrap64 ((rd t104 (ji17)) - 1)) (wrap64 (1 - a2)) t108 t109 _ ?side1 ?side2 A20.out).mono ?_);(case side1 => repeat (first|exact (Kd.R_reads' HO106.out).2.2|(with_reducible refine Kd.C_alloc ?_ _)|(with_reducible refine Kd.C_drewN ?_ _)|(with_reducible refine Kd.C_drew ?_)));(case side2 => exact (Kd.R_reads' HO106.out).2.1);rintro e w31 ⟨rfl,hb⟩;refine ⟨_,rfl,?_⟩;have n0_:=Aside0.mk (Kd.R_below (by (with_reducible repeat (first|apply Kd.R_alloc|apply Kd.R_drewN|apply Kd.R_drew));exact HO106.out) hb);have n1_:=Aside0.mk (blk_below (g:=gb101) (o:=.cells #[.slice A0_0 l0_0.length c0_0] 61 (0,0)) (by (with_reducible repeat (first|refine blk_drewN ?_ _|refine blk_drew ?_|refine blk_alloc ?_ _));exact BK101.out) hb);have n2_:=Aside0.mk (blk_below (g:=gb102) (o:=.cells #[.int .i64 a1_0,.bool a1_1,.int .i64 a1_2] 25 (0,0)) (by (with_reducible repeat (first|refine blk_drewN ?_ _|refine blk_drew ?_|refine blk_alloc ?_ _));exact BK102.out) hb);have n3_:=Aside0.mk (blk_below (g:=gb103) (o:=.cells #[.int .i64 0,.int .i64 0] 63 (0,0)) (by (with_reducible repeat (first|refine blk_drewN ?_ _|refine blk_drew ?_|refine blk_alloc ?_ _));exact BK103.out) hb);have n4_:=Aside0.mk (below_step (by repeat (first|(with_reducible first|exact HB.out|apply below_alloc|apply pw_below_drewN|apply below_drew1|refine below_set ?_ GE101.out|refine below_set ?_ GE102.out|refine below_set ?_ GE103.out)|exact HB.out)) hb);clear HO106;clear BK101;clear BK102;clear BK103;clear HB;have HO106:=n0_;have BK101:=n1_;have BK102:=n2_;have BK103:=n3_;have HB:=n4_;clear n0_ n1_ n2_ n3_ n4_;(try clear hb);(try clear hb2);(try clear hk);(try clear hi);have hcz32_0 : w31.cell? ⟨gb103,0,none⟩ = some (.int .i64 0):=(blk_cell BK103.out 0).trans rfl;have hcz32_1 : w31.cell? ⟨gb103,1,none⟩ = some (.int .i64 0):=(blk_cell BK103.out 1).trans rfl;have hfz32_0:=blk_frozen BK103.out 0;have hfz32_1:=blk_frozen BK103.out 1))
       refine bodyPost_ret (results_cell_row rfl _ _ gb103 63 #[.int .i64 t108,.int .i64 t109] (0,0) _ rfl (by (with_reducible repeat (first|refine blk_drewN ?_ _|refine blk_drew ?_|refine blk_alloc ?_ _));refine blk_put (cs:=#[.int .i64 t108,.int .i64 0]) ?_ 1 _ rfl;(with_reducible repeat (first|refine blk_drewN ?_ _|refine blk_drew ?_|refine blk_alloc ?_ _));refine blk_put (cs:=#[.int .i64 0,.int .i64 0]) ?_ 0 _ rfl;(with_reducible repeat (first|refine blk_drewN ?_ _|refine blk_drew ?_|refine blk_alloc ?_ _));exact BK103.out) Try.underlying63 rfl (by kernel_rfl)) rfl ?_
       exact ⟨by first|rfl|(simp [errW_none,errW_some] <;> rfl)|(simp only [← hji17];first|rfl|(simp [errW_none,errW_some] <;> rfl))|(simp [*,errW_none,errW_some] <;> rfl),by repeat (first|(with_reducible first|exact HB.out|apply below_alloc|apply pw_below_drewN|apply below_drew1|refine below_set ?_ GE101.out|refine below_set ?_ GE102.out|refine below_set ?_ GE103.out)|exact HB.out)⟩
     · rw [if_neg c19] at H
       exact absurd H (by simp)
   · rw [if_neg c18] at H
     exact absurd H (by simp)
end Go.Proofs.Ytcinaflmpdmdaaa.Q
end
section
namespace Go.Proofs.Ytcinaflmpdmdaaa.Q
open Go.RowKit Go.Proofs.YtcinaflmpdmdaaaW.PrintWords Go.Proofs.YtcinaflmpdmdaaaW.PrintLast Go.Proofs.YtcinaflmpdmdaaaW.PrintMore
attribute [local go_sem] max2_int min2_int max_two min_two max_three min_three max_four min_four   -- for this text's walks alone
set_option linter.unusedVariables false
set_option linter.unusedSimpArgs false
/-! ### impl_LastTop: function 46 -/
def impl_LastTop.f (k : Nat) (l0_0 : List Int) (a1_0 : Int) (a1_1 : Bool) (a1_2 : Int) (a2 : Int) : Option (Int × Int × Int):=(impl_layoutCode.f k l0_0 a1_0 a1_1 a1_2).bind fun t104 => (if t104 = 0 then ((impl_within.f a2 1 20).bind fun t105 => (if t105 = true then ((impl_lastTop.f k l0_0 a1_0 a1_1 a1_2 a2).bind fun bt106 => (some (0,bt106.1,bt106.2))) else (some (3,0,0)))) else (some (t104,0,0)))
theorem impl_LastTop.mono : ∀ a0 a1 a2 a3 a4 k,LeO (impl_LastTop.f k a0 a1 a2 a3 a4) (impl_LastTop.f (k + 1) a0 a1 a2 a3 a4):=by
 intro a0 a1 a2 a3 a4 k
 unfold impl_LastTop.f
 repeat' first
  | (with_reducible exact impl_lastTop.mono _ _ _ _ _ _)
  | (with_reducible exact impl_layoutCode.mono _ _ _ _ _)
  | (with_reducible exact LeO.refl _)
  | (with_reducible exact LeO.none _)
  | (with_reducible refine LeO.ite ?_ ?_)
  | (with_reducible refine LeO.bind ?_ (fun _ => ?_))
  | exact impl_lastTop.mono _ _ _ _ _ _
  | exact impl_layoutCode.mono _ _ _ _ _
  | exact LeO.none _
  | refine LeO.ite ?_ ?_
  | refine LeO.bind ?_ (fun _ => ?_)
set_option maxHeartbeats 8000000 in
set_option maxRecDepth 100000 in
theorem impl_LastTop.calls (k : Nat) (A0_0 : Option Addr) (c0_0 : Nat) (l0_0 : List Int) (a1_0 : Int) (a1_1 : Bool) (a1_2 : Int) (a2 : Int) (r1 : Int) (r2 : Int) (r3 : Int) (w : World) (hr0_0 : Kd.C (Kd.int .u8) w A0_0 l0_0.length l0_0) (hc0_0 : l0_0.length ≤ c0_0) (h : impl_LastTop.f k l0_0 a1_0 a1_1 a1_2 a2 = some (r1,r2,r3)) :
 Calls Try.prog 46 #[.agg #[.slice A0_0 l0_0.length c0_0],.agg #[.int .i64 a1_0,.bool a1_1,.int .i64 a1_2],.int .i64 a2] w fun e w' => e = .returned (.agg #[.int .i64 r1,.int .i64 r2,.int .i64 r3]) ∧ Below w.heap.size w w':=by
 have hu61:=Try.underlying61
 have hu25:=Try.underlying25
 have hu69:=Try.underlying69
 have HR0_0:=Aside0.mk hr0_0
 have HC0_0:=Aside0.mk hc0_0
 clear hr0_0 hc0_0
 have HB:=Aside0.mk (Below.refl w.heap.size w)
 have H : ((impl_layoutCode.f k l0_0 a1_0 a1_1 a1_2).bind fun t104 => (if t104 = 0 then ((impl_within.f a2 1 20).bind fun t105 => (if t105 = true then ((impl_lastTop.f k l0_0 a1_0 a1_1 a1_2 a2).bind fun bt106 => (some (0,bt106.1,bt106.2))) else (some (3,0,0)))) else (some (t104,0,0)))) = some (r1,r2,r3):=h
 clear h
 replace H:=Option.bind_eq_some_iff.mp H
 obtain ⟨t104,A40,H⟩:=H
 replace H : (if t104 = 0 then ((impl_within.f a2 1 20).bind fun t105 => (if t105 = true then ((impl_lastTop.f k l0_0 a1_0 a1_1 a1_2 a2).bind fun bt106 => (some (0,bt106.1,bt106.2))) else (some (3,0,0)))) else (some (t104,0,0))) = some (r1,r2,r3):=H
 have A4:=Aside0.mk A40
 clear A40
 by_cases c5 : t104 = 0
 · rw [if_pos c5] at H
   have c5b0 : (t104 == 0) = true:=beq_iff_eq.mpr c5
   have c5b1 : (t104 != 0) = false:=bne_eq_false_iff_eq.mpr c5
   clear c5
   replace H:=Option.bind_eq_some_iff.mp H
   obtain ⟨t105,A60,H⟩:=H
   replace H : (if t105 = true then ((impl_lastTop.f k l0_0 a1_0 a1_1 a1_2 a2).bind fun bt106 => (some (0,bt106.1,bt106.2))) else (some (3,0,0))) = some (r1,r2,r3):=H
   have A6:=Aside0.mk A60
   clear A60
   by_cases c7 : t105 = true
   · subst c7
     have H1 : ((impl_lastTop.f k l0_0 a1_0 a1_1 a1_2 a2).bind fun bt106 => (some (0,bt106.1,bt106.2))) = some (r1,r2,r3):=by rw [if_pos rfl] at H;exact H
     clear H
     have H:=H1
     clear H1
     replace H:=Option.bind_eq_some_iff.mp H
     obtain ⟨⟨t106,t107⟩,A80,H⟩:=H
     replace H : (some (0,t106,t107)) = some (r1,r2,r3):=H
     have A8:=Aside0.mk A80
     clear A80
     simp only [Option.some.injEq,Prod.mk.injEq] at H
     obtain ⟨rfl,rfl,rfl⟩:=H
     go_enter Try.func46,Try.ntmps46
     go_wp2_with (first|((with_reducible refine gate_dst (N:=3) rfl ?_);refine box_event ?hg (N:=3) ?hd (cs:=#[.slice A0_0 l0_0.length c0_0]) (t:=61) ?hr ?_;(case hd => rfl);(case hg => rfl);(case hr => first|(go_simp;done)|(go_simp;rfl));intro gb101 hg w9 hbox hb;have n0_:=Aside0.mk (below_step (by repeat (first|(with_reducible first|exact HB.out|apply below_alloc|apply pw_below_drewN|apply below_drew1)|exact HB.out)) hb);have n1_:=Aside0.mk (hbox);have n2_:=Aside0.mk ((by rw [hg];exact (below_size (by repeat (first|(with_reducible first|exact HB.out|apply below_alloc|apply pw_below_drewN|apply below_drew1)|exact HB.out))) : w.heap.size ≤ gb101));have n3_:=Aside0.mk ((by rw [hg];exact (below_size (by repeat (first|(with_reducible first|exact HB.out|apply below_alloc|apply pw_below_drewN|apply below_drew1)|exact HB.out))) : w.heap.size ≤ gb101));clear HB;have HB:=n0_;have BK101:=n1_;have GW101:=n2_;have GE101:=n3_;clear n0_ n1_ n2_ n3_;clear hb hbox hg)|((with_reducible refine gate_dst (N:=4) rfl ?_);refine box_event ?hg (N:=4) ?hd (cs:=#[.int .i64 a1_0,.bool a1_1,.int .i64 a1_2]) (t:=25) ?hr ?_;(case hd => rfl);(case hg => rfl);(case hr => first|(go_simp;done)|(go_simp;rfl));intro gb102 hg w10 hbox hb;have n0_:=Aside0.mk (blk_below (g:=gb101) (o:=.cells #[.slice A0_0 l0_0.length c0_0] 61 (0,0)) (by (with_reducible repeat (first|refine blk_drewN ?_ _|refine blk_drew ?_|refine blk_alloc ?_ _));exact BK101.out) hb);have n1_:=Aside0.mk (below_step (by repeat (first|(with_reducible first|exact HB.out|apply below_alloc|apply pw_below_drewN|apply below_drew1|refine below_set ?_ GE101.out)|exact HB.out)) hb);have n2_:=Aside0.mk (hbox);have n3_:=Aside0.mk ((by rw [hg];exact (below_size (by repeat (first|(with_reducible first|exact HB.out|apply below_alloc|apply pw_below_drewN|apply below_drew1|refine below_set ?_ GE101.out)|exact HB.out))) : w.heap.size ≤ gb102));have n4_:=Aside0.mk ((by rw [hg];exact (below_size (by repeat (first|(with_reducible first|exact HB.out|apply below_alloc|apply pw_below_drewN|apply below_drew1|refine below_set ?_ GE101.out)|exact HB.out))) : w.heap.size ≤ gb102));have n5_:=Aside0.mk ((by rw [hg];exact Nat.ne_of_lt (blk_lt (g:=gb101) (o:=.cells #[.slice A0_0 l0_0.length c0_0] 61 (0,0)) (by (with_reducible repeat (first|refine blk_drewN ?_ _|refine blk_drew ?_|refine blk_alloc ?_ _));exact BK101.out)) : gb101 ≠ gb102));have n6_:=Aside0.mk ((by rw [hg];exact Nat.ne_of_gt (blk_lt (g:=gb101) (o:=.cells #[.slice A0_0 l0_0.length c0_0] 61 (0,0)) (by (with_reducible repeat (first|refine blk_drewN ?_ _|refine blk_drew ?_|refine blk_alloc ?_ _));exact BK101.out)) : gb102 ≠ gb101));clear BK101;clear HB;have BK101:=n0_;have HB:=n1_;have BK102:=n2_;have GW102:=n3_;have GE102:=n4_;have NB101_102:=n5_;have NB102_101:=n6_;clear n0_ n1_ n2_ n3_ n4_ n5_ n6_;clear hb hbox hg)|((with_reducible refine gate_dst (N:=6) rfl ?_);refine box_event ?hg (N:=6) ?hd (cs:=#[.int .i64 0,.int .i64 0,.int .i64 0]) (t:=69) ?hr ?_;(case hd => rfl);(case hg => rfl);(case hr => first|(go_simp;done)|(go_simp;rfl));intro gb103 hg w11 hbox hb;have n0_:=Aside0.mk (blk_below (g:=gb101) (o:=.cells #[.slice A0_0 l0_0.length c0_0] 61 (0,0)) (by (with_reducible repeat (first|refine blk_drewN ?_ _|refine blk_drew ?_|refine blk_alloc ?_ _));exact BK101.out) hb);have n1_:=Aside0.mk (blk_below (g:=gb102) (o:=.cells #[.int .i64 a1_0,.bool a1_1,.int .i64 a1_2] 25 (0,0)) (by (with_reducible repeat (first|refine blk_drewN ?_ _|refine blk_drew ?_|refine blk_alloc ?_ _));exact BK102.out) hb);have n2_:=Aside0.mk (below_step (by repeat (first|(with_reducible first|exact HB.out|apply below_alloc|apply pw_below_drewN|apply below_drew1|refine below_set ?_ GE101.out|refine below_set ?_ GE102.out)|exact HB.out)) hb);have n3_:=Aside0.mk (hbox);have n4_:=Aside0.mk ((by rw [hg];exact (below_size (by repeat (first|(with_reducible first|exact HB.out|apply below_alloc|apply pw_below_drewN|apply below_drew1|refine below_set ?_ GE101.out|refine below_set ?_ GE102.out)|exact HB.out))) : w.heap.size ≤ gb103));have n5_:=Aside0.mk ((by rw [hg];exact (below_size (by repeat (first|(with_reducible first|exact HB.out|apply below_alloc|apply pw_below_drewN|apply below_drew1|refine below_set ?_ GE101.out|refine below_set ?_ GE102.out)|exact HB.out))) : w.heap.size ≤ gb103));have n6_:=Aside0.mk ((by rw [hg];exact Nat.ne_of_lt (blk_lt (g:=gb101) (o:=.cells #[.slice A0_0 l0_0.length c0_0] 61 (0,0)) (by (with_reducible repeat (first|refine blk_drewN ?_ _|refine blk_drew ?_|refine blk_alloc ?_ _));exact BK101.out)) : gb101 ≠ gb103));have n7_:=Aside0.mk ((by rw [hg];exact Nat.ne_of_gt (blk_lt (g:=gb101) (o:=.cells #[.slice A0_0 l0_0.length c0_0] 61 (0,0)) (by (with_reducible repeat (first|refine blk_drewN ?_ _|refine blk_drew ?_|refine blk_alloc ?_ _));exact BK101.out)) : gb103 ≠ gb101));have n8_:=Aside0.mk ((by rw [hg];exact Nat.ne_of_lt (blk_lt (g:=gb102) (o:=.cells #[.int .i64 a1_0,.bool a1_1,.int .i64 a1_2] 25 (0,0)) (by (with_reducible repeat (first|refine blk_drewN ?_ _|refine blk_drew ?_|refine blk_alloc ?_ _));exact BK102.out)) : gb102 ≠ gb103));have n9_:=Aside0.mk ((by rw [hg];exact Nat.ne_of_gt (blk_lt (g:=gb102) (o:=.cells #[.int .i64 a1_0,.bool a1_1,.int .i64 a1_2] 25 (0,0)) (by (with_reducible repeat (first|refine blk_drewN ?_ _|refine blk_drew ?_|refine blk_alloc ?_ _));exact BK102.out)) : gb103 ≠ gb102));clear BK101;clear BK102;clear HB;have BK101:=n0_;have BK102:=n1_;have HB:=n2_;have BK103:=n3_;have GW103:=n4_;have GE103:=n5_;have NB101_103:=n6_;have NB103_101:=n7_;have NB102_103:=n8_;have NB103_102:=n9_;clear n0_ n1_ n2_ n3_ n4_ n5_ n6_ n7_ n8_ n9_;clear hb hbox hg;have hnb12:=NB101_102.out;have hnc12:=NB102_101.out;have hnb13:=NB101_103.out;have hnc13:=NB103_101.out;have hcz14_0 : w11.cell? ⟨gb101,0,none⟩ = some (.slice A0_0 l0_0.length c0_0):=(blk_cell BK101.out 0).trans rfl;have hfz14_0:=blk_frozen BK101.out 0;have hnb15:=NB102_103.out;have hnc15:=NB103_102.out;have hcz16_0 : w11.cell? ⟨gb102,0,none⟩ = some (.int .i64 a1_0):=(blk_cell BK102.out 0).trans rfl;have hcz16_1 : w11.cell? ⟨gb102,1,none⟩ = some (.bool a1_1):=(blk_cell BK102.out 1).trans rfl;have hcz16_2 : w11.cell? ⟨gb102,2,none⟩ = some (.int .i64 a1_2):=(blk_cell BK102.out 2).trans rfl;have hfz16_0:=blk_frozen BK102.out 0;have hfz16_1:=blk_frozen BK102.out 1;have hfz16_2:=blk_frozen BK102.out 2)|((with_reducible refine gate_callee (f:=79) rfl ?_);refine goesL_ (some 10) rfl rfl Try.func79 (by kernel_rfl) rfl #[.agg #[.slice A0_0 l0_0.length c0_0],.agg #[.int .i64 a1_0,.bool a1_1,.int .i64 a1_2]] rfl (by (try simp only [List.map_toArray,List.map_cons,List.map_nil]);first|done|rfl|(simp only [List.length_drop,List.length_take];rfl)) ?_;(with_reducible refine (impl_layoutCode.calls k _ _ l0_0 a1_0 a1_1 a1_2 t104 _ ?side1 ?side2 A4.out).mono ?_);(case side1 => repeat (first|exact (Kd.C_below HR0_0.out HB.out)|(with_reducible refine Kd.C_alloc ?_ _)|(with_reducible refine Kd.C_drewN ?_ _)|(with_reducible refine Kd.C_drew ?_)));(case side2 => exact HC0_0.out);rintro e w17 ⟨rfl,hb⟩;refine ⟨_,rfl,?_⟩;have n0_:=Aside0.mk (blk_below (g:=gb101) (o:=.cells #[.slice A0_0 l0_0.length c0_0] 61 (0,0)) (by (with_reducible repeat (first|refine blk_drewN ?_ _|refine blk_drew ?_|refine blk_alloc ?_ _));exact BK101.out) hb);have n1_:=Aside0.mk (blk_below (g:=gb102) (o:=.cells #[.int .i64 a1_0,.bool a1_1,.int .i64 a1_2] 25 (0,0)) (by (with_reducible repeat (first|refine blk_drewN ?_ _|refine blk_drew ?_|refine blk_alloc ?_ _));exact BK102.out) hb);have n2_:=Aside0.mk (blk_below (g:=gb103) (o:=.cells #[.int .i64 0,.int .i64 0,.int .i64 0] 69 (0,0)) (by (with_reducible repeat (first|refine blk_drewN ?_ _|refine blk_drew ?_|refine blk_alloc ?_ _));exact BK103.out) hb);have n3_:=Aside0.mk (below_step (by repeat (first|(with_reducible first|exact HB.out|apply below_alloc|apply pw_below_drewN|apply below_drew1|refine below_set ?_ GE101.out|refine below_set ?_ GE102.out|refine below_set ?_ GE103.out)|exact HB.out)) hb);clear BK101;clear BK102;clear BK103;clear HB;have BK101:=n0_;have BK102:=n1_;have BK103:=n2_;have HB:=n3_;clear n0_ n1_ n2_ n3_;(try clear hb);(try clear hb2);(try clear hk);(try clear hi))|((with_reducible refine gate_callee (f:=56) rfl ?_);refine goesL_ (some 16) rfl rfl Try.func56 (by kernel_rfl) rfl #[.int .i64 a2,.int .i64 1,.int .i64 20] rfl (by (try simp only [List.map_toArray,List.map_cons,List.map_nil]);first|done|rfl|(simp only [List.length_drop,List.length_take];rfl)) ?_;(with_reducible refine (impl_within.calls a2 1 20 true _ A6.out).mono ?_);rintro e w' ⟨rfl,⟨nd,rfl⟩⟩;refine ⟨_,rfl,?_⟩;(try (rw [drewN_self w17];generalize hq_ : World.drewN w17 _ = w17;have n0_ : Aside0 (w17.heap[gb101]? = some (.cells #[.slice A0_0 l0_0.length c0_0] 61 (0,0))):=⟨by rw [← hq_];exact (by (with_reducible repeat (first|refine blk_drewN ?_ _|refine blk_drew ?_|refine blk_alloc ?_ _));exact BK101.out)⟩;have n1_ : Aside0 (w17.heap[gb102]? = some (.cells #[.int .i64 a1_0,.bool a1_1,.int .i64 a1_2] 25 (0,0))):=⟨by rw [← hq_];exact (by (with_reducible repeat (first|refine blk_drewN ?_ _|refine blk_drew ?_|refine blk_alloc ?_ _));exact BK102.out)⟩;have n2_ : Aside0 (w17.heap[gb103]? = some (.cells #[.int .i64 0,.int .i64 0,.int .i64 0] 69 (0,0))):=⟨by rw [← hq_];exact (by (with_reducible repeat (first|refine blk_drewN ?_ _|refine blk_drew ?_|refine blk_alloc ?_ _));exact BK103.out)⟩;have n3_ : Aside0 (Below w.heap.size w w17):=⟨by rw [← hq_];exact (by repeat (first|(with_reducible first|exact HB.out|apply below_alloc|apply pw_below_drewN|apply below_drew1|refine below_set ?_ GE101.out|refine below_set ?_ GE102.out|refine below_set ?_ GE103.out)|exact HB.out))⟩;clear BK101 BK102 BK103 HB hq_;have BK101:=n0_;have BK102:=n1_;have BK103:=n2_;have HB:=n3_;clear n0_ n1_ n2_ n3_));have hcz18_0 : w17.cell? ⟨gb101,0,none⟩ = some (.slice A0_0 l0_0.length c0_0):=(blk_cell BK101.out 0).trans rfl;have hfz18_0:=blk_frozen BK101.out 0;have hcz19_0 : w17.cell? ⟨gb102,0,none⟩ = some (.int .i64 a1_0):=(blk_cell BK102.out 0).trans rfl;have hcz19_1 : w17.cell? ⟨gb102,1,none⟩ = some (.bool a1_1):=(blk_cell BK102.out 1).trans rfl;have hcz19_2 : w17.cell? ⟨gb102,2,none⟩ = some (.int .i64 a1_2):=(blk_cell BK102.out 2).trans rfl;have hfz19_0:=blk_frozen BK102.out 0;have hfz19_1:=blk_frozen BK102.out 1;have hfz19_2:=blk_frozen BK102.out 2)|((with_reducible refine gate_callee (f:=87) rfl ?_);refine goesL_ (some 22) rfl rfl Try.func87 (by kernel_rfl) rfl #[.agg #[.slice A0_0 l0_0.length c0_0],.agg #[.int .i64 a1_0,.bool a1_1,.int .i64 a1_2],.int .i64 a2] rfl (by (try simp only [List.map_toArray,List.map_cons,List.map_nil]);first|done|rfl|(simp only [List.length_drop,List.length_take];rfl)) ?_;(with_reducible refine (impl_lastTop.calls k _ _ l0_0 a1_0 a1_1 a1_2 a2 t106 t107 _ ?side1 ?side2 A8.out).mono ?_);(case side1 => repeat (first|exact (Kd.C_below HR0_0.out HB.out)|(with_reducible refine Kd.C_alloc ?_ _)|(with_reducible refine Kd.C_drewN ?_ _)|(with_reducible refine Kd.C_drew ?_)));(case side2 => exact HC0_0.out);rintro e w20 ⟨rfl,hb⟩;refine ⟨_,rfl,?_⟩;have n0_:=Aside0.mk (blk_below (g:=gb101) (o:=.cells #[.slice A0_0 l0_0.length c0_0] 61 (0,0)) (by (with_reducible repeat (first|refine blk_drewN ?_ _|refine blk_drew ?_|refine blk_alloc ?_ _));exact BK101.out) hb);have n1_:=Aside0.mk (blk_below (g:=gb102) (o:=.cells #[.int .i64 a1_0,.bool a1_1,.int .i64 a1_2] 25 (0,0)) (by (with_reducible repeat (first|refine blk_drewN ?_ _|refine blk_drew ?_|refine blk_alloc ?_ _));exact BK102.out) hb);have n2_:=Aside0.mk (blk_below (g:=gb103) (o:=.cells #[.int .i64 0,.int .i64 0,.int .i64 0] 69 (0,0)) (by (with_reducible repeat (first|refine blk_drewN ?_ _|refine blk_drew ?_|refine blk_alloc ?_ _));exact BK103.out) hb);have n3_:=Aside0.mk (below_step (by repeat (first|(with_reducible first|exact HB.out|apply below_alloc|apply pw_below_drewN|apply below_drew1|refine below_set ?_ GE101.out|refine below_set ?_ GE102.out|refine below_set ?_ GE103.out)|exact HB.out)) hb);clear BK101;clear BK102;clear BK103;clear HB;have BK101:=n0_;have BK102:=n1_;have BK103:=n2_;have HB:=n3_;clear n0_ n1_ n2_ n3_;(try clear hb);(try clear hb2);(try clear hk);(try clear hi);have hcz21_0 : w20.cell? ⟨gb103,0,none⟩ = some (.int .i64 0):=(blk_cell BK103.out 0).trans rfl;have hcz21_1 : w20.cell? ⟨gb103,1,none⟩ = some (.int .i64 0):=(blk_cell BK103.out 1).trans rfl;have hcz21_2 : w20.cell? ⟨gb103,2,none⟩ = some (.int .i64 0):=(blk_cell BK103.out 2).trans rfl;have hfz21_0:=blk_frozen BK103.out 0;have hfz21_1:=blk_frozen BK103.out 1;have hfz21_2:=blk_frozen BK103.out 2))
     refine bodyPost_ret (results_cell_row rfl _ _ gb103 69 #[.int .i64 0,.int .i64 t106,.int .i64 t107] (0,0) _ rfl (by (with_reducible repeat (first|refine blk_drewN ?_ _|refine blk_drew ?_|refine blk_alloc ?_ _));refine blk_put (cs:=#[.int .i64 0,.int .i64 t106,.int .i64 0]) ?_ 2 _ rfl;(with_reducible repeat (first|refine blk_drewN ?_ _|refine blk_drew ?_|refine blk_alloc ?_ _));refine blk_put (cs:=#[.int .i64 0,.int .i64 0,.int .i64 0]) ?_ 1 _ rfl;(with_reducible repeat (first|refine blk_drewN ?_ _|refine blk_drew ?_|refine blk_alloc ?_ _));refine blk_put (cs:=#[.int .i64 0,.int .i64 0,.int .i64 0]) ?_ 0 _ rfl;(with_reducible repeat (first|refine blk_drewN ?_ _|refine blk_drew ?_|refine blk_alloc ?_ _));exact BK103.out) Try.underlying69 rfl (by kernel_rfl)) rfl ?_
     exact ⟨by first|rfl|(simp [errW_none,errW_some] <;> rfl)|(simp [*,errW_none,errW_some] <;> rfl),by repeat (first|(with_reducible first|exact HB.out|apply below_alloc|apply pw_below_drewN|apply below_drew1|refine below_set ?_ GE101.out|refine below_set ?_ GE102.out|refine below_set ?_ GE103.out)|exact HB.out)⟩
   · replace c7:=Bool.eq_false_iff.mpr c7
     subst c7
     have H1 : (some (3,0,0)) = some (r1,r2,r3):=by rw [if_neg (show ¬ (false = true) by decide)] at H;exact H
     clear H
     have H:=H1
     clear H1
     simp only [Option.some.injEq,Prod.mk.injEq] at H
     obtain ⟨rfl,rfl,rfl⟩:=H
     go_enter Try.func46,Try.ntmps46
     go_wp2_with (first|((with_reducible refine gate_dst (N:=3) rfl ?_);refine box_event ?hg (N:=3) ?hd (cs:=#[.slice A0_0 l0_0.length c0_0]) (t:=61) ?hr ?_;(case hd => rfl);(case hg => rfl);(case hr => first|(go_simp;done)|(go_simp;rfl));intro gb101 hg w22 hbox hb;have n0_:=Aside0.mk (below_step (by repeat (first|(with_reducible first|exact HB.out|apply below_alloc|apply pw_below_drewN|apply below_drew1)|exact HB.out)) hb);have n1_:=Aside0.mk (hbox);have n2_:=Aside0.mk ((by rw [hg];exact (below_size (by repeat (first|(with_reducible first|exact HB.out|apply below_alloc|apply pw_below_drewN|apply below_drew1)|exact HB.out))) : w.heap.size ≤ gb101));have n3_:=Aside0.mk ((by rw [hg];exact (below_size (by repeat (first|(with_reducible first|exact HB.out|apply below_alloc|apply pw_below_drewN|apply below_drew1)|exact HB.out))) : w.heap.size ≤ gb101));clear HB;have HB:=n0_;have BK101:=n1_;have GW101:=n2_;have GE101:=n3_;clear n0_ n1_ n2_ n3_;clear hb hbox hg)|((with_reducible refine gate_dst (N:=4) rfl ?_);refine box_event ?hg (N:=4) ?hd (cs:=#[.int .i64 a1_0,.bool a1_1,.int .i64 a1_2]) (t:=25) ?hr ?_;(case hd => rfl);(case hg => rfl);(case hr => first|(go_simp;done)|(go_simp;rfl));intro gb102 hg w23 hbox hb;have n0_:=Aside0.mk (blk_below (g:=gb101) (o:=.cells #[.slice A0_0 l0_0.length c0_0] 61 (0,0)) (by (with_reducible repeat (first|refine blk_drewN ?_ _|refine blk_drew ?_|refine blk_alloc ?_ _));exact BK101.out) hb);have n1_:=Aside0.mk (below_step (by repeat (first|(with_reducible first|exact HB.out|apply below_alloc|apply pw_below_drewN|apply below_drew1|refine below_set ?_ GE101.out)|exact HB.out)) hb);have n2_:=Aside0.mk (hbox);have n3_:=Aside0.mk ((by rw [hg];exact (below_size (by repeat (first|(with_reducible first|exact HB.out|apply below_alloc|apply pw_below_drewN|apply below_drew1|refine below_set ?_ GE101.out)|exact HB.out))) : w.heap.size ≤ gb102));have n4_:=Aside0.mk ((by rw [hg];exact (below_size (by repeat (first|(with_reducible first|exact HB.out|apply below_alloc|apply pw_below_drewN|apply below_drew1|refine below_set ?_ GE101.out)|exact HB.out))) : w.heap.size ≤ gb102));have n5_:=Aside0.mk ((by rw [hg];exact Nat.ne_of_lt (blk_lt (g:=gb101) (o:=.cells #[.slice A0_0 l0_0.length c0_0] 61 (0,0)) (by (with_reducible repeat (first|refine blk_drewN ?_ _|refine blk_drew ?_|refine blk_alloc ?_ _));exact BK101.out)) : gb101 ≠ gb102));have n6_:=Aside0.mk ((by rw [hg];exact Nat.ne_of_gt (blk_lt (g:=gb101) (o:=.cells #[.slice A0_0 l0_0.length c0_0] 61 (0,0)) (by (with_reducible repeat (first|refine blk_drewN ?_ _|refine blk_drew ?_|refine blk_alloc ?_ _));exact BK101.out)) : gb102 ≠ gb101));clear BK101;clear HB;have BK101:=n0_;have HB:=n1_;have BK102:=n2_;have GW102:=n3_;have GE102:=n4_;have NB101_102:=n5_;have NB102_101:=n6_;clear n0_ n1_ n2_ n3_ n4_ n5_ n6_;clear hb hbox hg)|((with_reducible refine gate_dst (N:=6) rfl ?_);refine box_event ?hg (N:=6) ?hd (cs:=#[.int .i64 0,.int .i64 0,.int .i64 0]) (t:=69) ?hr ?_;(case hd => rfl);(case hg => rfl);(case hr => first|(go_simp;done)|(go_simp;rfl));intro gb103 hg w24 hbox hb;have n0_:=Aside0.mk (blk_below (g:=gb101) (o:=.cells #[.slice A0_0 l0_0.length c0_0] 61 (0,0)) (by (with_reducible repeat (first|refine blk_drewN ?_ _|refine blk_drew ?_|refine blk_alloc ?_ _));exact BK101.out) hb);have n1_:=Aside0.mk (blk_below (g:=gb102) (o:=.cells #[.int .i64 a1_0,.bool a1_1,.int .i64 a1_2] 25 (0,0)) (by (with_reducible repeat (first|refine blk_drewN ?_ _|refine blk_drew ?_|refine blk_alloc ?_ _));exact BK102.out) hb);have n2_:=Aside0.mk (below_step (by repeat (first|(with_reducible first|exact HB.out|apply below_alloc|apply pw_below_drewN|apply below_drew1|refine below_set ?_ GE101.out|refine below_set ?_ GE102.out)|exact HB.out)) hb);have n3_:=Aside0.mk (hbox);have n4_:=Aside0.mk ((by rw [hg];exact (below_size (by repeat (first|(with_reducible first|exact HB.out|apply below_alloc|apply pw_below_drewN|apply below_drew1|refine below_set ?_ GE101.out|refine below_set ?_ GE102.out)|exact HB.out))) : w.heap.size ≤ gb103));have n5_:=Aside0.mk ((by rw [hg];exact (below_size (by repeat (first|(with_reducible first|exact HB.out|apply below_alloc|apply pw_below_drewN|apply below_drew1|refine below_set ?_ GE101.out|refine below_set ?_ GE102.out)|exact HB.out))) : w.heap.size ≤ gb103));have n6_:=Aside0.mk ((by rw [hg];exact Nat.ne_of_lt (blk_lt (g:=gb101) (o:=.cells #[.slice A0_0 l0_0.length c0_0] 61 (0,0)) (by (with_reducible repeat (first|refine blk_drewN ?_ _|refine blk_drew ?_|refine blk_alloc ?_ _));exact BK101.out)) : gb101 ≠ gb103));have n7_:=Aside0.mk ((by rw [hg];exact Nat.ne_of_gt (blk_lt (g:=gb101) (o:=.cells #[.slice A0_0 l0_0.length c0_0] 61 (0,0)) (by (with_reducible repeat (first|refine blk_drewN ?_ _|refine blk_drew ?_|refine blk_alloc ?_ _));exact BK101.out)) : gb103 ≠ gb101));have n8_:=Aside0.mk ((by rw [hg];exact Nat.ne_of_lt (blk_lt (g:=gb102) (o:=.cells #[.int .i64 a1_0,.bool a1_1,.int .i64 a1_2] 25 (0,0)) (by (with_reducible repeat (first|refine blk_drewN ?_ _|refine blk_drew ?_|refine blk_alloc ?_ _));exact BK102.out)) : gb102 ≠ gb103));have n9_:=Aside0.mk ((by rw [hg];exact Nat.ne_of_gt (blk_lt (g:=gb102) (o:=.cells #[.int .i64 a1_0,.bool a1_1,.int .i64 a1_2] 25 (0,0)) (by (with_reducible repeat (first|refine blk_drewN ?_ _|refine blk_drew ?_|refine blk_alloc ?_ _));exact BK102.out)) : gb103 ≠ gb102));clear BK101;clear BK102;clear HB;have BK101:=n0_;have BK102:=n1_;have HB:=n2_;have BK103:=n3_;have GW103:=n4_;have GE103:=n5_;have NB101_103:=n6_;have NB103_101:=n7_;have NB102_103:=n8_;have NB103_102:=n9_;clear n0_ n1_ n2_ n3_ n4_ n5_ n6_ n7_ n8_ n9_;clear hb hbox hg;have hnb25:=NB101_102.out;have hnc25:=NB102_101.out;have hnb26:=NB101_103.out;have hnc26:=NB103_101.out;have hcz27_0 : w24.cell? ⟨gb101,0,none⟩ = some (.slice A0_0 l0_0.length c0_0):=(blk_cell BK101.out 0).trans rfl;have hfz27_0:=blk_frozen BK101.out 0;have hnb28:=NB102_103.out;have hnc28:=NB103_102.out;have hcz29_0 : w24.cell? ⟨gb102,0,none⟩ = some (.int .i64 a1_0):=(blk_cell BK102.out 0).trans rfl;have hcz29_1 : w24.cell? ⟨gb102,1,none⟩ = some (.bool a1_1):=(blk_cell BK102.out 1).trans rfl;have hcz29_2 : w24.cell? ⟨gb102,2,none⟩ = some (.int .i64 a1_2):=(blk_cell BK102.out 2).trans rfl;have hfz29_0:=blk_frozen BK102.out 0;have hfz29_1:=blk_frozen BK102.out 1;have hfz29_2:=blk_frozen BK102.out 2)|((with_reducible refine gate_callee (f:=79) rfl ?_);refine goesL_ (some 10) rfl rfl Try.func79 (by kernel_rfl) rfl #[.agg #[.slice A0_0 l0_0.length c0_0],.agg #[.int .i64 a1_0,.bool a1_1,.int .i64 a1_2]] rfl (by (try simp only [List.map_toArray,List.map_cons,List.map_nil]);first|done|rfl|(simp only [List.length_drop,List.length_take];rfl)) ?_;(with_reducible refine (impl_layoutCode.calls k _ _ l0_0 a1_0 a1_1 a1_2 t104 _ ?side1 ?side2 A4.out).mono ?_);(case side1 => repeat (first|exact (Kd.C_below HR0_0.out HB.out)|(with_reducible refine Kd.C_alloc ?_ _)|(with_reducible refine Kd.C_drewN ?_ _)|(with_reducible refine Kd.C_drew ?_)));(case side2 => exact HC0_0.out);rintro e w30 ⟨rfl,hb⟩;refine ⟨_,rfl,?_⟩;have n0_:=Aside0.mk (blk_below (g:=gb101) (o:=.cells #[.slice A0_0 l0_0.length c0_0] 61 (0,0)) (by (with_reducible repeat (first|refine blk_drewN ?_ _|refine blk_drew ?_|refine blk_alloc ?_ _));exact BK101.out) hb);have n1_:=Aside0.mk (blk_below (g:=gb102) (o:=.cells #[.int .i64 a1_0,.bool a1_1,.int .i64 a1_2] 25 (0,0)) (by (with_reducible repeat (first|refine blk_drewN ?_ _|refine blk_drew ?_|refine blk_alloc ?_ _));exact BK102.out) hb);have n2_:=Aside0.mk (blk_below (g:=gb103) (o:=.cells #[.int .i64 0,.int .i64 0,.int .i64 0] 69 (0,0)) (by (with_reducible repeat (first|refine blk_drewN ?_ _|refine blk_drew ?_|refine blk_alloc ?_ _));exact BK103.out) hb);have n3_:=Aside0.mk (below_step (by repeat (first|(with_reducible first|exact HB.out|apply below_alloc|apply pw_below_drewN|apply below_drew1|refine below_set ?_ GE101.out|refine below_set ?_ GE102.out|refine below_set ?_ GE103.out)|exact HB.out)) hb);clear BK101;clear BK102;clear BK103;clear HB;have BK101:=n0_;have BK102:=n1_;have BK103:=n2_;have HB:=n3_;clear n0_ n1_ n2_ n3_;(try clear hb);(try clear hb2);(try clear hk);(try clear hi))|((with_reducible refine gate_callee (f:=56) rfl ?_);refine goesL_ (some 16) rfl rfl Try.func56 (by kernel_rfl) rfl #[.int .i64 a2,.int .i64 1,.int .i64 20] rfl (by (try simp only [List.map_toArray,List.map_cons,List.map_nil]);first|done|rfl|(simp only [List.length_drop,List.length_take];rfl)) ?_;(with_reducible refine (impl_within.calls a2 1 20 false _ A6.out).mono ?_);rintro e w' ⟨rfl,⟨nd,rfl⟩⟩;refine ⟨_,rfl,?_⟩;(try (rw [drewN_self w30];generalize hq_ : World.drewN w30 _ = w30;have n0_ : Aside0 (w30.heap[gb101]? = some (.cells #[.slice A0_0 l0_0.length c0_0] 61 (0,0))):=⟨by rw [← hq_];exact (by (with_reducible repeat (first|refine blk_drewN ?_ _|refine blk_drew ?_|refine blk_alloc ?_ _));exact BK101.out)⟩;have n1_ : Aside0 (w30.heap[gb102]? = some (.cells #[.int .i64 a1_0,.bool a1_1,.int .i64 a1_2] 25 (0,0))):=⟨by rw [← hq_];exact (by (with_reducible repeat (first|refine blk_drewN ?_ _|refine blk_drew ?_|refine blk_alloc ?_ _));exact BK102.out)⟩;have n2_ : Aside0 (w30.heap[gb103]? = some (.cells #[.int .i64 0,.int .i64 0,.int .i64 0] 69 (0,0))):=⟨by rw [← hq_];exact (by (with_reducible repeat (first|refine blk_drewN ?_ _|refine blk_drew ?_|refine blk_alloc ?_ _));exact BK103.out)⟩;have n3_ : Aside0 (Below w.heap.size w w30):=⟨by rw [← hq_];exact (by repeat (first|(with_reducible first|exact HB.out|apply below_alloc|apply pw_below_drewN|apply below_drew1|refine below_set ?_ GE101.out|refine below_set ?_ GE102.out|refine below_set ?_ GE103.out)|exact HB.out))⟩;clear BK101 BK102 BK103 HB hq_;have BK101:=n0_;have BK102:=n1_;have BK103:=n2_;have HB:=n3_;clear n0_ n1_ n2_ n3_));have hcz31_0 : w30.cell? ⟨gb103,0,none⟩ = some (.int .i64 0):=(blk_cell BK103.out 0).trans rfl;have hcz31_1 : w30.cell? ⟨gb103,1,none⟩ = some (.int .i64 0):=(blk_cell BK103.out 1).trans rfl;have hcz31_2 : w30.cell? ⟨gb103,2,none⟩ = some (.int .i64 0):=(blk_cell BK103.out 2).trans rfl;have hfz31_0:=blk_frozen BK103.out 0;have hfz31_1:=blk_frozen BK103.out 1;have hfz31_2:=blk_frozen BK103.out 2))
     refine bodyPost_ret (results_cell_row rfl _ _ gb103 69 #[.int .i64 3,.int .i64 0,.int .i64 0] (0,0) _ rfl (by (with_reducible repeat (first|refine blk_drewN ?_ _|refine blk_drew ?_|refine blk_alloc ?_ _));refine blk_put (cs:=#[.int .i64 3,.int .i64 0,.int .i64 0]) ?_ 2 _ rfl;(with_reducible repeat (first|refine blk_drewN ?_ _|refine blk_drew ?_|refine blk_alloc ?_ _));refine blk_put (cs:=#[.int .i64 3,.int .i64 0,.int .i64 0]) ?_ 1 _ rfl;(with_reducible repeat (first|refine blk_drewN ?_ _|refine blk_drew ?_|refine blk_alloc ?_ _));refine blk_put (cs:=#[.int .i64 0,.int .i64 0,.int .i64 0]) ?_ 0 _ rfl;(with_reducible repeat (first|refine blk_drewN ?_ _|refine blk_drew ?_|refine blk_alloc ?_ _));exact BK103.out) Try.underlying69 rfl (by kernel_rfl)) rfl ?_
     exact ⟨by first|rfl|(simp [errW_none,errW_some] <;> rfl)|(simp [*,errW_none,errW_some] <;> rfl),by repeat (first|(with_reducible first|exact HB.out|apply below_alloc|apply pw_below_drewN|apply below_drew1|refine below_set ?_ GE101.out|refine below_set ?_ GE102.out|refine below_set ?_ GE103.out)|exact HB.out)⟩
 · rw [if_neg c5] at H
   have c5b0 : (t104 == 0) = false:=beq_eq_false_iff_ne.mpr c5
   have c5b1 : (t104 != 0) = true:=bne_iff_ne.mpr c5
   simp only [Option.some.injEq,Prod.mk.injEq] at H
   obtain ⟨rfl,rfl,rfl⟩:=H
   go_enter Try.func46,Try.ntmps46
   go_wp2_with (first|((with_reducible refine gate_dst (N:=3) rfl ?_);refine box_event ?hg (N:=3) ?hd (cs:=#[.slice A0_0 l0_0.length c0_0]) (t:=61) ?hr ?_;(case hd => rfl);(case hg => rfl);(case hr => first|(go_simp;done)|(go_simp;rfl));intro gb101 hg w32 hbox hb;have n0_:=Aside0.mk (below_step (by repeat (first|(with_reducible first|exact HB.out|apply below_alloc|apply pw_below_drewN|apply below_drew1)|exact HB.out)) hb);have n1_:=Aside0.mk (hbox);have n2_:=Aside0.mk ((by rw [hg];exact (below_size (by repeat (first|(with_reducible first|exact HB.out|apply below_alloc|apply pw_below_drewN|apply below_drew1)|exact HB.out))) : w.heap.size ≤ gb101));have n3_:=Aside0.mk ((by rw [hg];exact (below_size (by repeat (first|(with_reducible first|exact HB.out|apply below_alloc|apply pw_below_drewN|apply below_drew1)|exact HB.out))) : w.heap.size ≤ gb101));clear HB;have HB:=n0_;have BK101:=n1_;have GW101:=n2_;have GE101:=n3_;clear n0_ n1_ n2_ n3_;clear hb hbox hg)|((with_reducible refine gate_dst (N:=4) rfl ?_);refine box_event ?hg (N:=4) ?hd (cs:=#[.int .i64 a1_0,.bool a1_1,.int .i64 a1_2]) (t:=25) ?hr ?_;(case hd => rfl);(case hg => rfl);(case hr => first|(go_simp;done)|(go_simp;rfl));intro gb102 hg w33 hbox hb;have n0_:=Aside0.mk (blk_below (g:=gb101) (o:=.cells #[.slice A0_0 l0_0.length c0_0] 61 (0,0)) (by (with_reducible repeat (first|refine blk_drewN ?_ _|refine blk_drew ?_|refine blk_alloc ?_ _));exact BK101.out) hb);have n1_:=Aside0.mk (below_step (by repeat (first|(with_reducible first|exact HB.out|apply below_alloc|apply pw_below_drewN|apply below_drew1|refine below_set ?_ GE101.out)|exact HB.out)) hb);have n2_:=Aside0.mk (hbox);have n3_:=Aside0.mk ((by rw [hg];exact (below_size (by repeat (first|(with_reducible first|exact HB.out|apply below_alloc|apply pw_below_drewN|apply below_drew1|refine below_set ?_ GE101.out)|exact HB.out))) : w.heap.size ≤ gb102));have n4_:=Aside0.mk ((by rw [hg];exact (below_size (by repeat (first|(with_reducible first|exact HB.out|apply below_alloc|apply pw_below_drewN|apply below_drew1|refine below_set ?_ GE101.out)|exact HB.out))) : w.heap.size ≤ gb102));have n5_:=Aside0.mk ((by rw [hg];exact Nat.ne_of_lt (blk_lt (g:=gb101) (o:=.cells #[.slice A0_0 l0_0.length c0_0] 61 (0,0)) (by (with_reducible repeat (first|refine blk_drewN ?_ _|refine blk_drew ?_|refine blk_alloc ?_ _));exact BK101.out)) : gb101 ≠ gb102));have n6_:=Aside0.mk ((by rw [hg];exact Nat.ne_of_gt (blk_lt (g:=gb101) (o:=.cells #[.slice A0_0 l0_0.length c0_0] 61 (0,0)) (by (with_reducible repeat (first|refine blk_drewN ?_ _|refine blk_drew ?_|refine blk_alloc ?_ _));exact BK101.out)) : gb102 ≠ gb101));clear BK101;clear HB;have BK101:=n0_;have HB:=n1_;have BK102:=n2_;have GW102:=n3_;have GE102:=n4_;have NB101_102:=n5_;have NB102_101:=n6_;clear n0_ n1_ n2_ n3_ n4_ n5_ n6_;clear hb hbox hg)|((with_reducible refine gate_dst (N:=6) rfl ?_);refine box_event ?hg (N:=6) ?hd (cs:=#[.int .i64 0,.int .i64 0,.int .i64 0]) (t:=69) ?hr ?_;(case hd => rfl);(case hg => rfl);(case hr => first|(go_simp;done)|(go_simp;rfl));intro gb103 hg w34 hbox hb;have n0_:=Aside0.mk (blk_below (g:=gb101) (o:=.cells #[.slice A0_0 l0_0.length c0_0] 61 (0,0)) (by (with_reducible repeat (first|refine blk_drewN ?_ _|refine blk_drew ?_|refine blk_alloc ?_ _));exact BK101.out) hb);have n1_:=Aside0.mk (blk_below (g:=gb102) (o:=.cells #[.int .i64 a1_0,.bool a1_1,.int .i64 a1_2] 25 (0,0)) (by (with_reducible repeat (first|refine blk_drewN ?_ _|refine blk_drew ?_|refine blk_alloc ?_ _));exact BK102.out) hb);have n2_:=Aside0.mk (below_step (by repeat (first|(with_reducible first|exact HB.out|apply below_alloc|apply pw_below_drewN|apply below_drew1|refine below_set ?_ GE101.out|refine below_set ?_ GE102.out)|exact HB.out)) hb);have n3_:=Aside0.mk (hbox);have n4_:=Aside0.mk ((by rw [hg];exact (below_size (by repeat (first|(with_reducible first|exact HB.out|apply below_alloc|apply pw_below_drewN|apply below_drew1|refine below_set ?_ GE101.out|refine below_set ?_ GE102.out)|exact HB.out))) : w.heap.size ≤ gb103));have n5_:=Aside0.mk ((by rw [hg];exact (below_size (by repeat (first|(with_reducible first|exact HB.out|apply below_alloc|apply pw_below_drewN|apply below_drew1|refine below_set ?_ GE101.out|refine below_set ?_ GE102.out)|exact HB.out))) : w.heap.size ≤ gb103));have n6_:=Aside0.mk ((by rw [hg];exact Nat.ne_of_lt (blk_lt (g:=gb101) (o:=.cells #[.slice A0_0 l0_0.length c0_0] 61 (0,0)) (by (with_reducible repeat (first|refine blk_drewN ?_ _|refine blk_drew ?_|refine blk_alloc ?_ _));exact BK101.out)) : gb101 ≠ gb103));have n7_:=Aside0.mk ((by rw [hg];exact Nat.ne_of_gt (blk_lt (g:=gb101) (o:=.cells #[.slice A0_0 l0_0.length c0_0] 61 (0,0)) (by (with_reducible repeat (first|refine blk_drewN ?_ _|refine blk_drew ?_|refine blk_alloc ?_ _));exact BK101.out)) : gb103 ≠ gb101));have n8_:=Aside0.mk ((by rw [hg];exact Nat.ne_of_lt (blk_lt (g:=gb102) (o:=.cells #[.int .i64 a1_0,.bool a1_1,.int .i64 a1_2] 25 (0,0)) (by (with_reducible repeat (first|refine blk_drewN ?_ _|refine blk_drew ?_|refine blk_alloc ?_ _));exact BK102.out)) : gb102 ≠ gb103));have n9_:=Aside0.mk ((by rw [hg];exact Nat.ne_of_gt (blk_lt (g:=gb102) (o:=.cells #[.int .i64 a1_0,.bool a1_1,.int .i64 a1_2] 25 (0,0)) (by (with_reducible repeat (first|refine blk_drewN ?_ _|refine blk_drew ?_|refine blk_alloc ?_ _));exact BK102.out)) : gb103 ≠ gb102));clear BK101;clear BK102;clear HB;have BK101:=n0_;have BK102:=n1_;have HB:=n2_;have BK103:=n3_;have GW103:=n4_;have GE103:=n5_;have NB101_103:=n6_;have NB103_101:=n7_;have NB102_103:=n8_;have NB103_102:=n9_;clear n0_ n1_ n2_ n3_ n4_ n5_ n6_ n7_ n8_ n9_;clear hb hbox hg;have hnb35:=NB101_102.out;have hnc35:=NB102_101.out;have hnb36:=NB101_103.out;have hnc36:=NB103_101.out;have hcz37_0 : w34.cell? ⟨gb101,0,none⟩ = some (.slice A0_0 l0_0.length c0_0):=(blk_cell BK101.out 0).trans rfl;have hfz37_0:=blk_frozen BK101.out 0;have hnb38:=NB102_103.out;have hnc38:=NB103_102.out;have hcz39_0 : w34.cell? ⟨gb102,0,none⟩ = some (.int .i64 a1_0):=(blk_cell BK102.out 0).trans rfl;have hcz39_1 : w34.cell? ⟨gb102,1,none⟩ = some (.bool a1_1):=(blk_cell BK102.out 1).trans rfl;have hcz39_2 : w34.cell? ⟨gb102,2,none⟩ = some (.int .i64 a1_2):=(blk_cell BK102.out 2).trans rfl;have hfz39_0:=blk_frozen BK102.out 0;have hfz39_1:=blk_frozen BK102.out 1;have hfz39_2:=blk_frozen BK102.out 2)|((with_reducible refine gate_callee (f:=79) rfl ?_);refine goesL_ (some 10) rfl rfl Try.func79 (by kernel_rfl) rfl #[.agg #[.slice A0_0 l0_0.length c0_0],.agg #[.int .i64 a1_0,.bool a1_1,.int .i64 a1_2]] rfl (by (try simp only [List.map_toArray,List.map_cons,List.map_nil]);first|done|rfl|(simp only [List.length_drop,List.length_take];rfl)) ?_;(with_reducible refine (impl_layoutCode.calls k _ _ l0_0 a1_0 a1_1 a1_2 t104 _ ?side1 ?side2 A4.out).mono ?_);(case side1 => repeat (first|exact (Kd.C_below HR0_0.out HB.out)|(with_reducible refine Kd.C_alloc ?_ _)|(with_reducible refine Kd.C_drewN ?_ _)|(with_reducible refine Kd.C_drew ?_)));(case side2 => exact HC0_0.out);rintro e w40 ⟨rfl,hb⟩;refine ⟨_,rfl,?_⟩;have n0_:=Aside0.mk (blk_below (g:=gb101) (o:=.cells #[.slice A0_0 l0_0.length c0_0] 61 (0,0)) (by (with_reducible repeat (first|refine blk_drewN ?_ _|refine blk_drew ?_|refine blk_alloc ?_ _));exact BK101.out) hb);have n1_:=Aside0.mk (blk_below (g:=gb102) (o:=.cells #[.int .i64 a1_0,.bool a1_1,.int .i64 a1_2] 25 (0,0)) (by (with_reducible repeat (first|refine blk_drewN ?_ _|refine blk_drew ?_|refine blk_alloc ?_ _));exact BK102.out) hb);have n2_:=Aside0.mk (blk_below (g:=gb103) (o:=.cells #[.int .i64 0,.int .i64 0,.int .i64 0] 69 (0,0)) (by (with_reducible repeat (first|refine blk_drewN ?_ _|refine blk_drew ?_|refine blk_alloc ?_ _));exact BK103.out) hb);have n3_:=Aside0.mk (below_step (by repeat (first|(with_reducible first|exact HB.out|apply below_alloc|apply pw_below_drewN|apply below_drew1|refine below_set ?_ GE101.out|refine below_set ?_ GE102.out|refine below_set ?_ GE103.out)|exact HB.out)) hb);clear BK101;clear BK102;clear BK103;clear HB;have BK101:=n0_;have BK102:=n1_;have BK103:=n2_;have HB:=n3_;clear n0_ n1_ n2_ n3_;(try clear hb);(try clear hb2);(try clear hk);(try clear hi);have hcz41_0 : w40.cell? ⟨gb103,0,none⟩ = some (.int .i64 0):=(blk_cell BK103.out 0).trans rfl;have hcz41_1 : w40.cell? ⟨gb103,1,none⟩ = some (.int .i64 0):=(blk_cell BK103.out 1).trans rfl;have hcz41_2 : w40.cell? ⟨gb103,2,none⟩ = some (.int .i64 0):=(blk_cell BK103.out 2).trans rfl;have hfz41_0:=blk_frozen BK103.out 0;have hfz41_1:=blk_frozen BK103.out 1;have hfz41_2:=blk_frozen BK103.out 2))
   refine bodyPost_ret (results_cell_row rfl _ _ gb103 69 #[.int .i64 t104,.int .i64 0,.int .i64 0] (0,0) _ rfl (by (with_reducible repeat (first|refine blk_drewN ?_ _|refine blk_drew ?_|refine blk_alloc ?_ _));refine blk_put (cs:=#[.int .i64 t104,.int .i64 0,.int .i64 0]) ?_ 2 _ rfl;(with_reducible repeat (first|refine blk_drewN ?_ _|refine blk_drew ?_|refine blk_alloc ?_ _));refine blk_put (cs:=#[.int .i64 t104,.int .i64 0,.int .i64 0]) ?_ 1 _ rfl;(with_reducible repeat (first|refine blk_drewN ?_ _|refine blk_drew ?_|refine blk_alloc ?_ _));refine blk_put (cs:=#[.int .i64 0,.int .i64 0,.int .i64 0]) ?_ 0 _ rfl;(with_reducible repeat (first|refine blk_drewN ?_ _|refine blk_drew ?_|refine blk_alloc ?_ _));exact BK103.out) Try.underlying69 rfl (by kernel_rfl)) rfl ?_
   exact ⟨by first|rfl|(simp [errW_none,errW_some] <;> rfl)|(simp [*,errW_none,errW_some] <;> rfl),by repeat (first|(with_reducible first|exact HB.out|apply below_alloc|apply pw_below_drewN|apply below_drew1|refine below_set ?_ GE101.out|refine below_set ?_ GE102.out|refine below_set ?_ GE103.out)|exact HB.out)⟩
end Go.Proofs.Ytcinaflmpdmdaaa.Q
end
section
namespace Go.Proofs.Ytcinaflmpdmdaaa.Q
open Go.RowKit Go.Proofs.YtcinaflmpdmdaaaW.PrintWords Go.Proofs.YtcinaflmpdmdaaaW.PrintLast Go.Proofs.YtcinaflmpdmdaaaW.PrintMore
attribute [local go_sem] max2_int min2_int max_two min_two max_three min_three max_four min_four   -- for this text's walks alone
set_option linter.unusedVariables false
set_option linter.unusedSimpArgs false
/-! ### spec_LastTop: function 45 -/
def spec_LastTop.f (k : Nat) (l0_0 : List Int) (a1_0 : Int) (a1_1 : Bool) (a1_2 : Int) (a2 : Int) : Option (Int × Int × Int):=if M.lineOk l0_0 = true then (if M.baseF l0_0.length a1_0 a1_1 a1_2 = 0 then (if 1 ≤ a2 ∧ a2 ≤ 20 then (spec_l10Last.f k (M.cntL l0_0 a1_0 a1_1) a2).bind fun t => some (0,t.1,t.2) else some (3,0,0)) else some (M.baseF l0_0.length a1_0 a1_1 a1_2,0,0)) else none
theorem spec_LastTop.mono : ∀ a0 a1 a2 a3 a4 k,LeO (spec_LastTop.f k a0 a1 a2 a3 a4) (spec_LastTop.f (k + 1) a0 a1 a2 a3 a4):=fun a0 a1 a2 a3 a4 k => by
 unfold spec_LastTop.f
 exact LeO.ite (LeO.ite (LeO.ite (LeO.bind (spec_l10Last.mono _ _ k) (fun _ => LeO.refl _)) (LeO.refl _)) (LeO.refl _)) (LeO.refl _)
set_option maxRecDepth 20000 in
set_option maxHeartbeats 4000000 in
theorem spec_LastTop.calls (k : Nat) (A0_0 : Option Addr) (c0_0 : Nat) (l0_0 : List Int) (a1_0 : Int) (a1_1 : Bool) (a1_2 : Int) (a2 : Int) (r1 r2 r3 : Int) (w : World) (hr0_0 : Kd.C (Kd.int .u8) w A0_0 l0_0.length l0_0) (hc0_0 : l0_0.length ≤ c0_0) (h : spec_LastTop.f k l0_0 a1_0 a1_1 a1_2 a2 = some (r1,r2,r3)) :
 Calls Try.prog 45 #[.agg #[.slice A0_0 l0_0.length c0_0],.agg #[.int .i64 a1_0,.bool a1_1,.int .i64 a1_2],.int .i64 a2] w fun e w' => e = .returned (.agg #[.int .i64 r1,.int .i64 r2,.int .i64 r3]) ∧ Below w.heap.size w w':=by
 unfold spec_LastTop.f at h
 by_cases hok : M.lineOk l0_0 = true
 case neg => rw [if_neg hok] at h;cases h
 rw [if_pos hok] at h
 have HX:=Aside0.mk (M.row_ints hr0_0)
 have HOK:=Aside0.mk hok
 have hm:=M.lineOk_len hok
 obtain ⟨n,hn⟩ : ∃ n,l0_0.length = n:=⟨_,rfl⟩
 rw [hn] at hm hc0_0 h ⊢
 have HN:=Aside0.mk hn
 clear hok hr0_0 hn
 obtain ⟨W,hW⟩ : ∃ W,W = ((w.alloc (.cells #[.slice A0_0 n c0_0] 61)).alloc (.cells #[.int .i64 a1_0,.bool a1_1,.int .i64 a1_2] 25)).alloc (.cells #[.int .i64 0,.int .i64 0,.int .i64 0] 69):=⟨_,rfl⟩
 obtain ⟨b1,b2,b3,f1,f2,f3,hz,G0⟩:=M.box3 _ _ _ _ _ _ _ W hW
 have hI : W.heap[w.heap.size + 1]? = some (.cells #[.int .i64 a1_0,.bool a1_1,.int .i64 a1_2] 25 (0,0)):=by
  subst hW
  have:=heap_alloc_new (w.alloc (.cells #[.slice A0_0 n c0_0] 61)) (.cells #[.int .i64 a1_0,.bool a1_1,.int .i64 a1_2] 25)
  rw [heap_alloc_old _ _ (by simp)]
  simpa using this
 have HW:=Aside0.mk hW
 have HI:=Aside0.mk hI
 have hp : W.cell? ⟨w.heap.size,0,none⟩ = some (.slice A0_0 n c0_0):=b1 0
 have HX2:=Aside0.mk (HX.out.below G0)
 clear hW hI f1 f2 b1 b2
 obtain ⟨q0,hq0⟩ : ∃ q0,M.baseF n a1_0 a1_1 a1_2 = q0:=⟨_,rfl⟩
 rw [hq0] at h
 have HQ0:=Aside0.mk hq0
 clear hq0
 by_cases hz0 : q0 = 0
 case neg =>
  rw [if_neg hz0] at h
  simp only [Option.some.injEq,Prod.mk.injEq] at h
  obtain ⟨rfl,rfl,rfl⟩:=h
  have hz1 : (q0 != 0) = true:=by simpa using hz0
  have hz2 : (q0 == 0) = false:=by simpa using hz0
  go_enter Try.func45,Try.ntmps45
  go_wp2_with (fail)
  rw [← HW.out]
  refine M.l10Base_c w.heap.size (w.heap.size + 1) A0_0 n c0_0 a1_0 a1_1 a1_2 W hp HI.out (by omega) hm q0 HQ0.out _ ?_
  intro w1 hb1
  have b4:=M.blk_keep b3 (by omega) hb1
  have f4:=M.frz_keep f3 (by omega) hb1
  have hlt : w.heap.size + 2 < w1.heap.size:=by have:=hb1.size;omega
  have hG:=G0.trans (hb1.mono G0.size)
  clear b3 f3 hb1
  go_wp2_with (fail)
  refine bodyPost_ret (by simp [results,Try.results45,go_sem,b4,f4];try rfl) rfl ?_
  refine ⟨rfl,?_⟩
  repeat (first|exact hG|apply below_alloc|apply pw_below_drewN|apply below_drew1|refine below_set ?_ (by omega))
 subst hz0
 rw [if_pos rfl] at h
 obtain ⟨_,hlay⟩:=M.baseF_zero HQ0.out
 obtain ⟨w1',w2',_,_,_⟩:=layF_zero hlay
 clear hlay
 by_cases hh : 1 ≤ a2 ∧ a2 ≤ 20
 case neg =>
  rw [if_neg hh] at h
  simp only [Option.some.injEq,Prod.mk.injEq] at h
  obtain ⟨rfl,rfl,rfl⟩:=h
  have HH : Aside0 (spec_l1In.f a2 1 20 = some false):=⟨by rw [l1In_eq,decide_eq_false hh]⟩
  go_enter Try.func45,Try.ntmps45
  go_wp2_with (fail)
  rw [← HW.out]
  refine M.l10Base_c w.heap.size (w.heap.size + 1) A0_0 n c0_0 a1_0 a1_1 a1_2 W hp HI.out (by omega) hm 0 HQ0.out _ ?_
  intro w1 hb1
  have b4:=M.blk_keep b3 (by omega) hb1
  have f4:=M.frz_keep f3 (by omega) hb1
  have hlt : w.heap.size + 2 < w1.heap.size:=by have:=hb1.size;omega
  have hG:=G0.trans (hb1.mono G0.size)
  clear b3 f3 hb1
  go_wp2_with (first|(go_at_call 82;refine (spec_l1In.calls a2 1 20 false _ HH.out).mono ?_;rintro e w' ⟨rfl,⟨nd,rfl⟩⟩))
  refine bodyPost_ret (by simp [results,Try.results45,go_sem,b4,f4];try rfl) rfl ?_
  refine ⟨rfl,?_⟩
  repeat (first|exact hG|apply below_alloc|apply pw_below_drewN|apply below_drew1|refine below_set ?_ (by omega))
 rw [if_pos hh] at h
 have HH : Aside0 (spec_l1In.f a2 1 20 = some true):=⟨by rw [l1In_eq,decide_eq_true hh]⟩
 obtain ⟨⟨t1,t2⟩,h3,h4⟩:=Option.bind_eq_some_iff.mp h
 simp only [Option.some.injEq,Prod.mk.injEq] at h4
 obtain ⟨rfl,rfl,rfl⟩:=h4
 have H3:=Aside0.mk h3
 clear h h3 hh
 go_enter Try.func45,Try.ntmps45
 go_wp2_with (fail)
 rw [← HW.out]
 refine M.l10Base_c w.heap.size (w.heap.size + 1) A0_0 n c0_0 a1_0 a1_1 a1_2 W hp HI.out (by omega) hm 0 HQ0.out _ ?_
 intro w1 hb1
 have b4:=M.blk_keep b3 (by omega) hb1
 have f4:=M.frz_keep f3 (by omega) hb1
 have hlt : w.heap.size + 2 < w1.heap.size:=by have:=hb1.size;omega
 have hG:=G0.trans (hb1.mono G0.size)
 have hp1:=M.cell_below hb1 hp
 have HI1:=Aside0.mk ((hb1.block (w.heap.size + 1) (by omega)).trans HI.out)
 have HX3:=Aside0.mk (HX2.out.below hb1)
 clear b3 f3 hb1 hp
 go_wp2_with (first|(go_at_call 82;refine (spec_l1In.calls a2 1 20 true _ HH.out).mono ?_;rintro e w' ⟨rfl,⟨nd,rfl⟩⟩))
 obtain ⟨w2,hw2⟩ : ∃ w2,w2 = w1.drewN nd:=⟨_,rfl⟩
 rw [← hw2]
 have hb2 : Below w1.heap.size w1 w2:=by rw [hw2];exact M.bdN (Below.refl _ _) nd
 clear hw2
 refine M.l10Counts_c w.heap.size (w.heap.size + 1) A0_0 n c0_0 l0_0 a1_0 a1_1 a1_2 w2 (M.cell_below hb2 hp1) ((hb2.block (w.heap.size + 1) (by omega)).trans HI1.out) HN.out (HX3.out.below hb2) hc0_0 HOK.out w1' w2' (by have:=hb2.size;omega) _ ?_
 intro A2 c2 w3 ho2 hc2 hm2 hb3
 have b5:=M.blk_keep (M.blk_keep b4 hlt hb2) (by have:=hb2.size;omega) hb3
 have f5:=M.frz_keep (M.frz_keep f4 hlt hb2) (by have:=hb2.size;omega) hb3
 have hlt3 : w.heap.size + 2 < w3.heap.size:=by have:=hb2.size;have:=hb3.size;omega
 have hG2:=hG.trans (hb2.mono hG.size)
 have hG3:=hG2.trans (hb3.mono hG2.size)
 have HC:=Aside0.mk (show Kd.C (Kd.int .i64) w3 A2 (M.cntL l0_0 a1_0 a1_1).length (M.cntL l0_0 a1_0 a1_1) from M.C_ints (by unfold maxLen at hm2;omega) ho2.rowOf)
 clear b4 f4 hb2 hb3 ho2 hG hG2
 go_wp2_with (fail)
 refine (spec_l10Last.calls k A2 c2 (M.cntL l0_0 a1_0 a1_1) a2 t1 t2 _ HC.out hc2 H3.out).mono ?_
 rintro e w4 ⟨rfl,hb4⟩
 have b6:=M.blk_keep b5 hlt3 hb4
 have f6:=M.frz_keep f5 hlt3 hb4
 have hlt4 : w.heap.size + 2 < w4.heap.size:=by have:=hb4.size;omega
 have hG4:=hG3.trans (hb4.mono hG3.size)
 clear b5 f5 hb4
 go_wp2_with (fail)
 refine bodyPost_ret (by simp [results,Try.results45,go_sem,b6,f6];try rfl) rfl ?_
 refine ⟨rfl,?_⟩
 repeat (first|exact hG4|apply below_alloc|apply pw_below_drewN|apply below_drew1|refine below_set ?_ (by omega))
end Go.Proofs.Ytcinaflmpdmdaaa.Q
end
section
namespace Go.Proofs.Ytcinaflmpdmdaaa.Q
open Go.RowKit Go.Proofs.YtcinaflmpdmdaaaW.PrintWords Go.Proofs.YtcinaflmpdmdaaaW.PrintLast Go.Proofs.YtcinaflmpdmdaaaW.PrintMore Go.Proofs.Ytcinaflmpdmdaaa.L
def lastF (cs : List Int) (h : Int) : Int × Int := if cs.length = 0 then (0, 0) else (((moveS cs (cs.length - 1, atL cs (cs.length - 1) - 1) (1 - h)).1 : Int), (moveS cs (cs.length - 1, atL cs (cs.length - 1) - 1) (1 - h)).2)
theorem last_ok {cs : List Int} (h : CntOk cs) (h0 : ¬ cs.length = 0) : OkS cs (cs.length - 1) (atL cs (cs.length - 1) - 1) ∧ rd cs ((cs.length : Int) - 1) = atL cs (cs.length - 1) ∧ 1 ≤ atL cs (cs.length - 1) ∧ atL cs (cs.length - 1) ≤ 1073741824 := by
  have hlt : cs.length - 1 < cs.length := by omega
  have ha : atL cs (cs.length - 1) = cs[cs.length - 1] := by rw [atL, List.getElem?_eq_getElem hlt]; rfl
  have hp := h.pos _ (List.getElem_mem hlt)
  have ht := h.top _ (List.getElem_mem hlt)
  refine ⟨⟨cs[cs.length - 1], List.getElem?_eq_getElem hlt, by omega, by omega⟩, ?_, by omega, by omega⟩
  rw [show (cs.length : Int) - 1 = ((cs.length - 1 : Nat) : Int) by omega, rd_nat cs _ hlt, ha]
theorem s_last {cs : List Int} (h : CntOk cs) (t : Int) (ht : 1 ≤ t ∧ t ≤ 20) : Ev (fun k => spec_l10Last.f k cs t) (lastF cs t) := by
  have hl := h.len
  unfold spec_l10Last.f
  by_cases h0 : cs.length = 0
  · have e : lastF cs t = (0, 0) := by unfold lastF; rw [if_pos h0]
    rw [e]
    exact Ev.pos (by omega) (Ev.now _)
  · have e : lastF cs t = (((moveS cs (cs.length - 1, atL cs (cs.length - 1) - 1) (1 - t)).1 : Int), (moveS cs (cs.length - 1, atL cs (cs.length - 1) - 1) (1 - t)).2) := by unfold lastF; rw [if_neg h0]
    obtain ⟨ho, hr, a1, a2⟩ := last_ok h h0
    rw [e, w64 (x := (cs.length : Int) - 1) (by omega) (by omega), hr, w64 (x := atL cs (cs.length - 1) - 1) (by omega) (by omega), w64 (x := 1 - t) (by omega) (by omega)]
    refine Ev.neg (by omega) (Ev.pos (by omega) (Ev.pos (by omega) ?_))
    rw [show (cs.length : Int) - 1 = ((cs.length - 1 : Nat) : Int) by omega]
    exact Ev.bind (move_ev h ho (1 - t) (by omega)) (Ev.now _)
theorem i_last {l : List Int} (ho : M.lineOk l = true) {wd : Int} (ch : Bool) (sh : Int) (h1 : 1 ≤ wd) (h2 : wd ≤ 40) (t : Int) (ht : 1 ≤ t ∧ t ≤ 20) : Ev (fun k => impl_lastTop.f k l wd ch sh t) (lastF (M.cntL l wd ch) t) := by
  have h := cntOk (M.lineOk_len ho) ch h1
  have hl := h.len
  unfold impl_lastTop.f
  refine Ev.bind0 (rowsOf_eq ho ch sh h1 h2) ?_
  generalize M.cntL l wd ch = cs at *
  by_cases h0 : cs.length = 0
  · have e : lastF cs t = (0, 0) := by unfold lastF; rw [if_pos h0]
    rw [e, w64 (x := (cs.length : Int) - 1) (by omega) (by omega)]
    exact Ev.pos (by omega) (Ev.now _)
  · have e : lastF cs t = (((moveS cs (cs.length - 1, atL cs (cs.length - 1) - 1) (1 - t)).1 : Int), (moveS cs (cs.length - 1, atL cs (cs.length - 1) - 1) (1 - t)).2) := by unfold lastF; rw [if_neg h0]
    obtain ⟨ho, hr, a1, a2⟩ := last_ok h h0
    rw [e, w64 (x := (cs.length : Int) - 1) (by omega) (by omega), hr, w64 (x := atL cs (cs.length - 1) - 1) (by omega) (by omega), w64 (x := 1 - t) (by omega) (by omega)]
    refine Ev.neg (by omega) (Ev.pos (by omega) (Ev.pos (by omega) ?_))
    rw [show (cs.length : Int) - 1 = ((cs.length - 1 : Nat) : Int) by omega]
    exact Ev.bind (moved_ev h ho (1 - t) (by omega)) (Ev.now _)
theorem lastTop_same {l : List Int} (ho : M.lineOk l = true) (wd : Int) (ch : Bool) (sh t : Int) : ∃ a b c : Int, Ev (fun k => spec_LastTop.f k l wd ch sh t) (a, b, c) ∧ Ev (fun k => impl_LastTop.f k l wd ch sh t) (a, b, c) := by
  unfold spec_LastTop.f impl_LastTop.f
  by_cases hz : M.baseF l.length wd ch sh = 0
  · obtain ⟨_, hlay⟩ := M.baseF_zero hz
    obtain ⟨w1, w2, _⟩ := layF_zero hlay
    by_cases ht : 1 ≤ t ∧ t ≤ 20
    · exact ⟨0, (lastF (M.cntL l wd ch) t).1, (lastF (M.cntL l wd ch) t).2, Ev.pos ho (Ev.pos hz (Ev.pos ht (Ev.bind (s_last (cntOk (M.lineOk_len ho) ch w1) t ht) (Ev.now _)))), Ev.bind (layoutCode_ev l wd ch sh) (Ev.pos hz (Ev.bind0 (within_eq t 1 20) (Ev.pos (decide_eq_true ht) (Ev.bind (i_last ho ch sh w1 w2 t ht) (Ev.now _)))))⟩
    · exact ⟨3, 0, 0, Ev.pos ho (Ev.pos hz (Ev.neg ht (Ev.now _))), Ev.bind (layoutCode_ev l wd ch sh) (Ev.pos hz (Ev.bind0 (within_eq t 1 20) (Ev.neg (by simpa using ht) (Ev.now _))))⟩
  · exact ⟨_, 0, 0, Ev.pos ho (Ev.neg hz (Ev.now _)), Ev.bind (layoutCode_ev l wd ch sh) (Ev.neg hz (Ev.now _))⟩
end Go.Proofs.Ytcinaflmpdmdaaa.Q
end
section
namespace Go.Proofs.Ytcinaflmpdmdaaa.Q
open Go.RowKit Go.Proofs.YtcinaflmpdmdaaaW.PrintWords Go.Proofs.YtcinaflmpdmdaaaW.PrintLast Go.Proofs.YtcinaflmpdmdaaaW.PrintMore
attribute [local go_sem] max2_int min2_int max_two min_two max_three min_three max_four min_four   -- for this text's walks alone
set_option linter.unusedVariables false
set_option linter.unusedSimpArgs false
/-! ### laws_FnExactLastTop: function 11 -/
def laws_FnExactLastTop.f (k : Nat) (l0_0 : List Int) (a1_0 : Int) (a1_1 : Bool) (a1_2 : Int) (a2 : Int) : Option (Bool):=(laws_szFile.f l0_0 1048576).bind fun t103 => (if t103 < 0 then (some true) else ((laws_toFile.f k l0_0).bind fun t104 => ((laws_toLayout.f a1_0 a1_1 a1_2).bind fun bt107 => ((spec_LastTop.f k t104 bt107.1 bt107.2.1 bt107.2.2 a2).bind fun bt110 => ((laws_toFile.f k l0_0).bind fun t114 => ((laws_toLayout.f a1_0 a1_1 a1_2).bind fun bt118 => ((impl_LastTop.f k t114 bt118.1 bt118.2.1 bt118.2.2 a2).bind fun bt121 => ((laws_eqSpotResult.f bt121.1 bt121.2.1 bt121.2.2 bt110.1 bt110.2.1 bt110.2.2).bind fun t125 => (if t125 = true then ((laws_toFile.f k l0_0).bind fun t126 => ((laws_eqFile.f k t114 t126).bind fun t129 => (if t129 = true then (some true) else (some false)))) else (some false))))))))))
theorem laws_FnExactLastTop.mono : ∀ a0 a1 a2 a3 a4 k,LeO (laws_FnExactLastTop.f k a0 a1 a2 a3 a4) (laws_FnExactLastTop.f (k + 1) a0 a1 a2 a3 a4):=by
 intro a0 a1 a2 a3 a4 k
 unfold laws_FnExactLastTop.f
 repeat' first
  | (with_reducible exact impl_LastTop.mono _ _ _ _ _ _)
  | (with_reducible exact laws_eqFile.mono _ _ _)
  | (with_reducible exact laws_toFile.mono _ _)
  | (with_reducible exact spec_LastTop.mono _ _ _ _ _ _)
  | (with_reducible exact LeO.refl _)
  | (with_reducible exact LeO.none _)
  | (with_reducible refine LeO.ite ?_ ?_)
  | (with_reducible refine LeO.bind ?_ (fun _ => ?_))
  | exact impl_LastTop.mono _ _ _ _ _ _
  | exact laws_eqFile.mono _ _ _
  | exact laws_toFile.mono _ _
  | exact spec_LastTop.mono _ _ _ _ _ _
  | exact LeO.none _
  | refine LeO.ite ?_ ?_
  | refine LeO.bind ?_ (fun _ => ?_)
def laws_FnExactLastTop.T5 : Bool × List (List Nat × List Nat):=(true,[([],[]),([0],[0]),([],[]),([2,1],[2]),([],[]),([1,3,4,3],[1,3,4]),([],[]),([6,5,5,0,1,2,3,4,5,6],[5,6])])
def laws_FnExactLastTop.B5 : List Nat:=[0,1,0,7,0,31,0,127]
theorem laws_FnExactLastTop.tab5 : rtab .any (opsOf Try.f11 5) = laws_FnExactLastTop.T5:=by kernel_rfl
theorem laws_FnExactLastTop.bits5 : waitsOk laws_FnExactLastTop.T5.2 laws_FnExactLastTop.B5 = true:=by kernel_rfl
set_option maxHeartbeats 8000000 in
set_option maxRecDepth 100000 in
theorem laws_FnExactLastTop.calls (k : Nat) (A0_0 : Option Addr) (c0_0 : Nat) (l0_0 : List Int) (a1_0 : Int) (a1_1 : Bool) (a1_2 : Int) (a2 : Int) (r : Bool) (w : World) (hr0_0 : Kd.C (Kd.int .u8) w A0_0 l0_0.length l0_0) (hc0_0 : l0_0.length ≤ c0_0) (h : laws_FnExactLastTop.f k l0_0 a1_0 a1_1 a1_2 a2 = some r) :
 Calls Try.prog 11 #[.agg #[.slice A0_0 l0_0.length c0_0],.agg #[.int .i64 a1_0,.bool a1_1,.int .i64 a1_2],.int .i64 a2] w fun e w' => e = .returned (.bool r) ∧ Below w.heap.size w w':=by
 have hu56:=Try.underlying56
 have hu23:=Try.underlying23
 have hu69:=Try.underlying69
 have hu61:=Try.underlying61
 have HR0_0:=Aside0.mk hr0_0
 have HC0_0:=Aside0.mk hc0_0
 clear hr0_0 hc0_0
 have HB:=Aside0.mk (Below.refl w.heap.size w)
 have H : ((laws_szFile.f l0_0 1048576).bind fun t103 => (if t103 < 0 then (some true) else ((laws_toFile.f k l0_0).bind fun t104 => ((laws_toLayout.f a1_0 a1_1 a1_2).bind fun bt107 => ((spec_LastTop.f k t104 bt107.1 bt107.2.1 bt107.2.2 a2).bind fun bt110 => ((laws_toFile.f k l0_0).bind fun t114 => ((laws_toLayout.f a1_0 a1_1 a1_2).bind fun bt118 => ((impl_LastTop.f k t114 bt118.1 bt118.2.1 bt118.2.2 a2).bind fun bt121 => ((laws_eqSpotResult.f bt121.1 bt121.2.1 bt121.2.2 bt110.1 bt110.2.1 bt110.2.2).bind fun t125 => (if t125 = true then ((laws_toFile.f k l0_0).bind fun t126 => ((laws_eqFile.f k t114 t126).bind fun t129 => (if t129 = true then (some true) else (some false)))) else (some false))))))))))) = some r:=h
 clear h
 replace H:=Option.bind_eq_some_iff.mp H
 obtain ⟨t103,A40,H⟩:=H
 replace H : (if t103 < 0 then (some true) else ((laws_toFile.f k l0_0).bind fun t104 => ((laws_toLayout.f a1_0 a1_1 a1_2).bind fun bt107 => ((spec_LastTop.f k t104 bt107.1 bt107.2.1 bt107.2.2 a2).bind fun bt110 => ((laws_toFile.f k l0_0).bind fun t114 => ((laws_toLayout.f a1_0 a1_1 a1_2).bind fun bt118 => ((impl_LastTop.f k t114 bt118.1 bt118.2.1 bt118.2.2 a2).bind fun bt121 => ((laws_eqSpotResult.f bt121.1 bt121.2.1 bt121.2.2 bt110.1 bt110.2.1 bt110.2.2).bind fun t125 => (if t125 = true then ((laws_toFile.f k l0_0).bind fun t126 => ((laws_eqFile.f k t114 t126).bind fun t129 => (if t129 = true then (some true) else (some false)))) else (some false)))))))))) = some r:=H
 have A4:=Aside0.mk A40
 clear A40
 have HC5:=Aside0.mk H
 clear H
 go_enter Try.func11,Try.ntmps11
 go_upto_if 15 with (first|((with_reducible refine gate_dst (N:=3) rfl ?_);refine box_event ?hg (N:=3) ?hd (cs:=#[.slice A0_0 l0_0.length c0_0]) (t:=56) ?hr ?_;(case hd => rfl);(case hg => rfl);(case hr => first|(go_simp;done)|(go_simp;rfl));intro gb101 hg w6 hbox hb;have n0_:=Aside0.mk (below_step (by repeat (first|(with_reducible first|exact HB.out|apply below_alloc|apply pw_below_drewN|apply below_drew1)|exact HB.out)) hb);have n1_:=Aside0.mk (hbox);have n2_:=Aside0.mk ((by rw [hg];exact (below_size (by repeat (first|(with_reducible first|exact HB.out|apply below_alloc|apply pw_below_drewN|apply below_drew1)|exact HB.out))) : w.heap.size ≤ gb101));have n3_:=Aside0.mk ((by rw [hg];exact (below_size (by repeat (first|(with_reducible first|exact HB.out|apply below_alloc|apply pw_below_drewN|apply below_drew1)|exact HB.out))) : w.heap.size ≤ gb101));clear HB;have HB:=n0_;have BK101:=n1_;have GW101:=n2_;have GE101:=n3_;clear n0_ n1_ n2_ n3_;clear hb hbox hg)|((with_reducible refine gate_dst (N:=4) rfl ?_);refine box_event ?hg (N:=4) ?hd (cs:=#[.int .i64 a1_0,.bool a1_1,.int .i64 a1_2]) (t:=23) ?hr ?_;(case hd => rfl);(case hg => rfl);(case hr => first|(go_simp;done)|(go_simp;rfl));intro gb102 hg w7 hbox hb;have n0_:=Aside0.mk (blk_below (g:=gb101) (o:=.cells #[.slice A0_0 l0_0.length c0_0] 56 (0,0)) (by (with_reducible repeat (first|refine blk_drewN ?_ _|refine blk_drew ?_|refine blk_alloc ?_ _));exact BK101.out) hb);have n1_:=Aside0.mk (below_step (by repeat (first|(with_reducible first|exact HB.out|apply below_alloc|apply pw_below_drewN|apply below_drew1|refine below_set ?_ GE101.out)|exact HB.out)) hb);have n2_:=Aside0.mk (hbox);have n3_:=Aside0.mk ((by rw [hg];exact (below_size (by repeat (first|(with_reducible first|exact HB.out|apply below_alloc|apply pw_below_drewN|apply below_drew1|refine below_set ?_ GE101.out)|exact HB.out))) : w.heap.size ≤ gb102));have n4_:=Aside0.mk ((by rw [hg];exact (below_size (by repeat (first|(with_reducible first|exact HB.out|apply below_alloc|apply pw_below_drewN|apply below_drew1|refine below_set ?_ GE101.out)|exact HB.out))) : w.heap.size ≤ gb102));have n5_:=Aside0.mk ((by rw [hg];exact Nat.ne_of_lt (blk_lt (g:=gb101) (o:=.cells #[.slice A0_0 l0_0.length c0_0] 56 (0,0)) (by (with_reducible repeat (first|refine blk_drewN ?_ _|refine blk_drew ?_|refine blk_alloc ?_ _));exact BK101.out)) : gb101 ≠ gb102));have n6_:=Aside0.mk ((by rw [hg];exact Nat.ne_of_gt (blk_lt (g:=gb101) (o:=.cells #[.slice A0_0 l0_0.length c0_0] 56 (0,0)) (by (with_reducible repeat (first|refine blk_drewN ?_ _|refine blk_drew ?_|refine blk_alloc ?_ _));exact BK101.out)) : gb102 ≠ gb101));clear BK101;clear HB;have BK101:=n0_;have HB:=n1_;have BK102:=n2_;have GW102:=n3_;have GE102:=n4_;have NB101_102:=n5_;have NB102_101:=n6_;clear n0_ n1_ n2_ n3_ n4_ n5_ n6_;clear hb hbox hg;have hnb8:=NB101_102.out;have hnc8:=NB102_101.out;have hcz9_0 : w7.cell? ⟨gb101,0,none⟩ = some (.slice A0_0 l0_0.length c0_0):=(blk_cell BK101.out 0).trans rfl;have hfz9_0:=blk_frozen BK101.out 0)|((with_reducible refine gate_callee (f:=38) rfl ?_);refine goesL_ (some 13) rfl rfl Try.func38 (by kernel_rfl) rfl #[.agg #[.slice A0_0 l0_0.length c0_0],.int .i64 1048576] rfl (by (try simp only [List.map_toArray,List.map_cons,List.map_nil]);first|done|rfl|(simp only [List.length_drop,List.length_take];rfl)) ?_;(with_reducible refine (laws_szFile.calls _ _ l0_0 1048576 t103 _ ?side1 ?side2 A4.out).mono ?_);(case side1 => repeat (first|exact (Kd.C_below HR0_0.out HB.out)|(with_reducible refine Kd.C_alloc ?_ _)|(with_reducible refine Kd.C_drewN ?_ _)|(with_reducible refine Kd.C_drew ?_)));(case side2 => exact HC0_0.out);rintro e w10 ⟨rfl,hb⟩;refine ⟨_,rfl,?_⟩;have n0_:=Aside0.mk (blk_below (g:=gb101) (o:=.cells #[.slice A0_0 l0_0.length c0_0] 56 (0,0)) (by (with_reducible repeat (first|refine blk_drewN ?_ _|refine blk_drew ?_|refine blk_alloc ?_ _));exact BK101.out) hb);have n1_:=Aside0.mk (blk_below (g:=gb102) (o:=.cells #[.int .i64 a1_0,.bool a1_1,.int .i64 a1_2] 23 (0,0)) (by (with_reducible repeat (first|refine blk_drewN ?_ _|refine blk_drew ?_|refine blk_alloc ?_ _));exact BK102.out) hb);have n2_:=Aside0.mk (below_step (by repeat (first|(with_reducible first|exact HB.out|apply below_alloc|apply pw_below_drewN|apply below_drew1|refine below_set ?_ GE101.out|refine below_set ?_ GE102.out)|exact HB.out)) hb);clear BK101;clear BK102;clear HB;have BK101:=n0_;have BK102:=n1_;have HB:=n2_;clear n0_ n1_ n2_;(try clear hb);(try clear hb2);(try clear hk);(try clear hi)))
 (try simp only [Act.put,List.setIfInBounds_toArray,List.set_cons_zero,List.set_cons_succ])
 have H:=HC5.out
 clear HC5
 by_cases c11 : t103 < 0
 · rw [if_pos c11] at H
   have c11b0 : decide (t103 < 0) = true:=decide_eq_true c11
   clear c11
   (first|rw [c11b0]|(simp only [i64_w,i32_w];rw [c11b0])|skip)
   obtain rfl:=Option.some.inj H
   go_wp2
   go_ret
   exact ⟨by first|rfl|(simp [errW_none,errW_some] <;> rfl)|(simp [*,errW_none,errW_some] <;> rfl),by repeat (first|(with_reducible first|exact HB.out|apply below_alloc|apply pw_below_drewN|apply below_drew1|refine below_set ?_ GE101.out|refine below_set ?_ GE102.out)|exact HB.out)⟩
 · rw [if_neg c11] at H
   have c11b0 : decide (t103 < 0) = false:=decide_eq_false c11
   clear c11
   (first|rw [c11b0]|(simp only [i64_w,i32_w];rw [c11b0])|skip)
   replace H:=Option.bind_eq_some_iff.mp H
   obtain ⟨t104,A120,H⟩:=H
   replace H : ((laws_toLayout.f a1_0 a1_1 a1_2).bind fun bt107 => ((spec_LastTop.f k t104 bt107.1 bt107.2.1 bt107.2.2 a2).bind fun bt110 => ((laws_toFile.f k l0_0).bind fun t114 => ((laws_toLayout.f a1_0 a1_1 a1_2).bind fun bt118 => ((impl_LastTop.f k t114 bt118.1 bt118.2.1 bt118.2.2 a2).bind fun bt121 => ((laws_eqSpotResult.f bt121.1 bt121.2.1 bt121.2.2 bt110.1 bt110.2.1 bt110.2.2).bind fun t125 => (if t125 = true then ((laws_toFile.f k l0_0).bind fun t126 => ((laws_eqFile.f k t114 t126).bind fun t129 => (if t129 = true then (some true) else (some false)))) else (some false)))))))) = some r:=H
   have A12:=Aside0.mk A120
   clear A120
   replace H:=Option.bind_eq_some_iff.mp H
   obtain ⟨⟨t107,t108,t109⟩,A130,H⟩:=H
   replace H : ((spec_LastTop.f k t104 t107 t108 t109 a2).bind fun bt110 => ((laws_toFile.f k l0_0).bind fun t114 => ((laws_toLayout.f a1_0 a1_1 a1_2).bind fun bt118 => ((impl_LastTop.f k t114 bt118.1 bt118.2.1 bt118.2.2 a2).bind fun bt121 => ((laws_eqSpotResult.f bt121.1 bt121.2.1 bt121.2.2 bt110.1 bt110.2.1 bt110.2.2).bind fun t125 => (if t125 = true then ((laws_toFile.f k l0_0).bind fun t126 => ((laws_eqFile.f k t114 t126).bind fun t129 => (if t129 = true then (some true) else (some false)))) else (some false))))))) = some r:=H
   have A13:=Aside0.mk A130
   clear A130
   replace H:=Option.bind_eq_some_iff.mp H
   obtain ⟨⟨t110,t111,t112⟩,A140,H⟩:=H
   replace H : ((laws_toFile.f k l0_0).bind fun t114 => ((laws_toLayout.f a1_0 a1_1 a1_2).bind fun bt118 => ((impl_LastTop.f k t114 bt118.1 bt118.2.1 bt118.2.2 a2).bind fun bt121 => ((laws_eqSpotResult.f bt121.1 bt121.2.1 bt121.2.2 t110 t111 t112).bind fun t125 => (if t125 = true then ((laws_toFile.f k l0_0).bind fun t126 => ((laws_eqFile.f k t114 t126).bind fun t129 => (if t129 = true then (some true) else (some false)))) else (some false)))))) = some r:=H
   have A14:=Aside0.mk A140
   clear A140
   replace H:=Option.bind_eq_some_iff.mp H
   obtain ⟨t114,A150,H⟩:=H
   replace H : ((laws_toLayout.f a1_0 a1_1 a1_2).bind fun bt118 => ((impl_LastTop.f k t114 bt118.1 bt118.2.1 bt118.2.2 a2).bind fun bt121 => ((laws_eqSpotResult.f bt121.1 bt121.2.1 bt121.2.2 t110 t111 t112).bind fun t125 => (if t125 = true then ((laws_toFile.f k l0_0).bind fun t126 => ((laws_eqFile.f k t114 t126).bind fun t129 => (if t129 = true then (some true) else (some false)))) else (some false))))) = some r:=H
   have A15:=Aside0.mk A150
   clear A150
   replace H:=Option.bind_eq_some_iff.mp H
   obtain ⟨⟨t118,t119,t120⟩,A160,H⟩:=H
   replace H : ((impl_LastTop.f k t114 t118 t119 t120 a2).bind fun bt121 => ((laws_eqSpotResult.f bt121.1 bt121.2.1 bt121.2.2 t110 t111 t112).bind fun t125 => (if t125 = true then ((laws_toFile.f k l0_0).bind fun t126 => ((laws_eqFile.f k t114 t126).bind fun t129 => (if t129 = true then (some true) else (some false)))) else (some false)))) = some r:=H
   have A16:=Aside0.mk A160
   clear A160
   replace H:=Option.bind_eq_some_iff.mp H
   obtain ⟨⟨t121,t122,t123⟩,A170,H⟩:=H
   replace H : ((laws_eqSpotResult.f t121 t122 t123 t110 t111 t112).bind fun t125 => (if t125 = true then ((laws_toFile.f k l0_0).bind fun t126 => ((laws_eqFile.f k t114 t126).bind fun t129 => (if t129 = true then (some true) else (some false)))) else (some false))) = some r:=H
   have A17:=Aside0.mk A170
   clear A170
   replace H:=Option.bind_eq_some_iff.mp H
   obtain ⟨t125,A180,H⟩:=H
   replace H : (if t125 = true then ((laws_toFile.f k l0_0).bind fun t126 => ((laws_eqFile.f k t114 t126).bind fun t129 => (if t129 = true then (some true) else (some false)))) else (some false)) = some r:=H
   have A18:=Aside0.mk A180
   clear A180
   have HC19:=Aside0.mk H
   clear H
   try go_wp2
   have n0_:=Aside0.mk (blk_drew BK101.out)
   have n1_:=Aside0.mk (blk_drew BK102.out)
   have n2_:=Aside0.mk (below_drew1 HB.out)
   clear BK101
   clear BK102
   clear HB
   have BK101:=n0_
   have BK102:=n1_
   have HB:=n2_
   clear n0_ n1_ n2_
   refine start_ (n:=8) (S:=fun w' => w'.cell? ⟨gb101,0,none⟩ = some (.slice A0_0 l0_0.length c0_0) ∧ w'.cell? ⟨gb102,0,none⟩ = some (.int .i64 a1_0) ∧ w'.cell? ⟨gb102,1,none⟩ = some (.bool a1_1) ∧ w'.cell? ⟨gb102,2,none⟩ = some (.int .i64 a1_2)) (ds:=[]) #[false,false,false,false,false,false,false,false] (by kernel_rfl) rfl rfl ⟨(blk_cell BK101.out 0).trans rfl,(blk_cell BK102.out 0).trans rfl,(blk_cell BK102.out 1).trans rfl,(blk_cell BK102.out 2).trans rfl⟩ (fun hHeld => ?_);refine with_tabW laws_FnExactLastTop.tab5 laws_FnExactLastTop.bits5 (fun HT_ HW_ => ?_)
   generalize w10.drew = w20 at BK101 BK102 HB hHeld ⊢
   refine pure_ (i:=4) (N:=some 20) (v:=?_) (a':=?_) #[false,false,false,false,true,false,false,false] rfl rfl (any_of HT_.out (by kernel_rfl)) (fun _ _ _ h => h) (Or.inl ⟨by rfl,?_⟩) ?_ ?_
   rotate_left
   · intro w'
     go_simp
     with_reducible rfl
   rotate_left
   · simp only [Act.put,List.setIfInBounds_toArray,List.set_cons_zero,List.set_cons_succ,i64_w,i32_w]
     rfl
   refine take_ (i:=0) (N:=some 16) (v:=?_) (a':=?_) #[true,false,false,false,true,false,false,false] rfl rfl (take_ofW HT_.out HW_.out (by kernel_rfl)) (fun _ _ _ h => h) (Or.inl ⟨by rfl,?_⟩) hHeld ?_ ?_
   rotate_left
   · rintro w' ⟨s0,s1,s2,s3⟩
     go_simp
     with_reducible rfl
   rotate_left
   · simp only [Act.put,List.setIfInBounds_toArray,List.set_cons_zero,List.set_cons_succ,i64_w,i32_w]
     rfl
   refine take_ (i:=2) (N:=some 18) (v:=?_) (a':=?_) #[true,false,true,false,true,false,false,false] rfl rfl (take_ofW HT_.out HW_.out (by kernel_rfl)) (fun _ _ _ h => h) (Or.inl ⟨by rfl,?_⟩) hHeld ?_ ?_
   rotate_left
   · rintro w' ⟨s0,s1,s2,s3⟩
     go_simp
     with_reducible rfl
   rotate_left
   · simp only [Act.put,List.setIfInBounds_toArray,List.set_cons_zero,List.set_cons_succ,i64_w,i32_w]
     rfl
   refine join_ (σ:=Value × Nat) 1 #[true,true,true,true,true,true,true,false] (fun s_ => [(17,.agg #[s_.1]),(19,.agg #[.int .i64 t107,.bool t108,.int .i64 t109]),(21,.agg #[.int .i64 t110,.int .i64 t111,.int .i64 t112]),(8,.pointer (some ⟨s_.2,0,none⟩))]) (fun s_ w' => (w'.cell? ⟨gb101,0,none⟩ = some (.slice A0_0 l0_0.length c0_0) ∧ w'.cell? ⟨gb102,0,none⟩ = some (.int .i64 a1_0) ∧ w'.cell? ⟨gb102,1,none⟩ = some (.bool a1_1) ∧ w'.cell? ⟨gb102,2,none⟩ = some (.int .i64 a1_2)) ∧ (Kd.R (Kd.int .u8) 5 w' w.heap.size (fun _ => True) s_.1 t104) ∧ (w'.heap[gb101]? = some (.cells #[.slice A0_0 l0_0.length c0_0] 56 (0,0))) ∧ (w'.heap[gb102]? = some (.cells #[.int .i64 a1_0,.bool a1_1,.int .i64 a1_2] 23 (0,0))) ∧ (w'.heap[s_.2]? = some (.cells #[.int .i64 0,.int .i64 0,.int .i64 0] 69 (0,0))) ∧ (w.heap.size ≤ s_.2) ∧ (w.heap.size ≤ s_.2) ∧ (gb101 ≠ s_.2) ∧ (s_.2 ≠ gb101) ∧ (gb102 ≠ s_.2) ∧ (s_.2 ≠ gb102) ∧ (Below w.heap.size w w')) ?_ ?_
   rotate_left
   · intro hCont
     refine two_ (i:=1) (j:=6) (Ni:=some 17) (Nj:=some 8) #[true,true,true,false,true,false,false,false] #[true,false,true,false,true,false,true,false] rfl rfl rfl rfl (two_of HT_.out (by kernel_rfl)) (by decide) (by decide) (fun K hK => ?_) (fun K hK => ?_)
     · skip
       refine goes_ Try.func40 (by kernel_rfl) rfl #[.agg #[.slice A0_0 l0_0.length c0_0]] (by rfl) rfl rfl (by (try simp only [List.map_toArray,List.map_cons,List.map_nil]);first|done|rfl|(simp only [List.length_drop,List.length_take];rfl)) ?_
       with_reducible refine (laws_toFile.calls k _ _ l0_0 t104 _ ?side1 ?side2 A12.out).mono ?_
       (case side1 => repeat (first|exact (Kd.C_below HR0_0.out HB.out)|(with_reducible refine Kd.C_alloc ?_ _)|(with_reducible refine Kd.C_drewN ?_ _)|(with_reducible refine Kd.C_drew ?_)))
       (case side2 => exact HC0_0.out)
       rintro e w21 ⟨v105,rfl,ho0,hb⟩
       refine ⟨_,rfl,?_⟩
       have n0_:=Aside0.mk (Kd.R_lower ho0 (below_size (by repeat (first|(with_reducible first|exact HB.out|apply below_alloc|apply pw_below_drewN|apply below_drew1|refine below_set ?_ GE101.out|refine below_set ?_ GE102.out)|exact HB.out))))
       have n1_:=Aside0.mk (blk_below (g:=gb101) (o:=.cells #[.slice A0_0 l0_0.length c0_0] 56 (0,0)) (by (with_reducible repeat (first|refine blk_drewN ?_ _|refine blk_drew ?_|refine blk_alloc ?_ _));exact BK101.out) hb)
       have n2_:=Aside0.mk (blk_below (g:=gb102) (o:=.cells #[.int .i64 a1_0,.bool a1_1,.int .i64 a1_2] 23 (0,0)) (by (with_reducible repeat (first|refine blk_drewN ?_ _|refine blk_drew ?_|refine blk_alloc ?_ _));exact BK102.out) hb)
       have n3_:=Aside0.mk (below_step (by repeat (first|(with_reducible first|exact HB.out|apply below_alloc|apply pw_below_drewN|apply below_drew1|refine below_set ?_ GE101.out|refine below_set ?_ GE102.out)|exact HB.out)) hb)
       clear BK101
       clear BK102
       clear HB
       have HO106:=n0_
       have BK101:=n1_
       have BK102:=n2_
       have HB:=n3_
       clear n0_ n1_ n2_ n3_
       (try clear hb)
       (try clear hb2)
       (try clear hk)
       (try clear hi)
       (try clear ho0)
       refine hK.out _ _ ⟨(blk_cell BK101.out 0).trans rfl,(blk_cell BK102.out 0).trans rfl,(blk_cell BK102.out 1).trans rfl,(blk_cell BK102.out 2).trans rfl⟩ (fun hHeld => ?_)
       clear hK K
       refine norm_ (a':=?_) ?_ ?_
       rotate_left
       · show Act.put _ (some 17) _ = _
         simp only [Act.put,List.setIfInBounds_toArray,List.set_cons_zero,List.set_cons_succ,i64_w,i32_w]
         rfl
       refine two_ (i:=3) (j:=6) (Ni:=some 19) (Nj:=some 8) #[true,true,true,true,true,false,false,false] #[true,true,true,false,true,false,true,false] rfl rfl rfl rfl (two_of HT_.out (by kernel_rfl)) (by decide) (by decide) (fun K hK => ?_) (fun K hK => ?_)
       · skip
         refine goes_ Try.func15 (by kernel_rfl) rfl #[.agg #[.int .i64 a1_0,.bool a1_1,.int .i64 a1_2]] (by rfl) rfl rfl (by (try simp only [List.map_toArray,List.map_cons,List.map_nil]);first|done|rfl|(simp only [List.length_drop,List.length_take];rfl)) ?_
         with_reducible refine (laws_toLayout.calls a1_0 a1_1 a1_2 t107 t108 t109 _ A13.out).mono ?_
         rintro e w22 ⟨rfl,hb⟩
         refine ⟨_,rfl,?_⟩
         have n0_:=Aside0.mk (Kd.R_below (by (with_reducible repeat (first|apply Kd.R_alloc|apply Kd.R_drewN|apply Kd.R_drew));exact HO106.out) hb)
         have n1_:=Aside0.mk (blk_below (g:=gb101) (o:=.cells #[.slice A0_0 l0_0.length c0_0] 56 (0,0)) (by (with_reducible repeat (first|refine blk_drewN ?_ _|refine blk_drew ?_|refine blk_alloc ?_ _));exact BK101.out) hb)
         have n2_:=Aside0.mk (blk_below (g:=gb102) (o:=.cells #[.int .i64 a1_0,.bool a1_1,.int .i64 a1_2] 23 (0,0)) (by (with_reducible repeat (first|refine blk_drewN ?_ _|refine blk_drew ?_|refine blk_alloc ?_ _));exact BK102.out) hb)
         have n3_:=Aside0.mk (below_step (by repeat (first|(with_reducible first|exact HB.out|apply below_alloc|apply pw_below_drewN|apply below_drew1|refine below_set ?_ GE101.out|refine below_set ?_ GE102.out)|exact HB.out)) hb)
         clear HO106
         clear BK101
         clear BK102
         clear HB
         have HO106:=n0_
         have BK101:=n1_
         have BK102:=n2_
         have HB:=n3_
         clear n0_ n1_ n2_ n3_
         (try clear hb)
         (try clear hb2)
         (try clear hk)
         (try clear hi)
         obtain ⟨Ao23,co23,eo23⟩:=Kd.R_slice HO106.out
         (first|subst eo23|(injection eo23 with f1_ f2_ f3_;have f4_:=f1_.symm;have f5_:=f3_.symm;clear f1_ f2_ f3_;subst f4_;subst f5_))
         refine hK.out _ _ ⟨(blk_cell BK101.out 0).trans rfl,(blk_cell BK102.out 0).trans rfl,(blk_cell BK102.out 1).trans rfl,(blk_cell BK102.out 2).trans rfl⟩ (fun hHeld => ?_)
         clear hK K
         refine norm_ (a':=?_) ?_ ?_
         rotate_left
         · show Act.put _ (some 19) _ = _
           simp only [Act.put,List.setIfInBounds_toArray,List.set_cons_zero,List.set_cons_succ,i64_w,i32_w]
           rfl
         refine two_ (i:=5) (j:=6) (Ni:=some 21) (Nj:=some 8) #[true,true,true,true,true,true,false,false] #[true,true,true,true,true,false,true,false] rfl rfl rfl rfl (two_of HT_.out (by kernel_rfl)) (by decide) (by decide) (fun K hK => ?_) (fun K hK => ?_)
         · skip
           refine goes_ Try.func45 (by kernel_rfl) rfl #[.agg #[.slice Ao23 t104.length co23],.agg #[.int .i64 t107,.bool t108,.int .i64 t109],.int .i64 a2] (by rfl) rfl rfl (by (try simp only [List.map_toArray,List.map_cons,List.map_nil]);first|done|rfl|(simp only [List.length_drop,List.length_take];rfl)) ?_
           with_reducible refine (spec_LastTop.calls k _ _ t104 t107 t108 t109 a2 t110 t111 t112 _ ?side1 ?side2 A14.out).mono ?_
           (case side1 => repeat (first|exact (Kd.R_reads' HO106.out).2.2|(with_reducible refine Kd.C_alloc ?_ _)|(with_reducible refine Kd.C_drewN ?_ _)|(with_reducible refine Kd.C_drew ?_)))
           (case side2 => exact (Kd.R_reads' HO106.out).2.1)
           rintro e w24 ⟨rfl,hb⟩
           refine ⟨_,rfl,?_⟩
           have n0_:=Aside0.mk (Kd.R_below (by (with_reducible repeat (first|apply Kd.R_alloc|apply Kd.R_drewN|apply Kd.R_drew));exact HO106.out) hb)
           have n1_:=Aside0.mk (blk_below (g:=gb101) (o:=.cells #[.slice A0_0 l0_0.length c0_0] 56 (0,0)) (by (with_reducible repeat (first|refine blk_drewN ?_ _|refine blk_drew ?_|refine blk_alloc ?_ _));exact BK101.out) hb)
           have n2_:=Aside0.mk (blk_below (g:=gb102) (o:=.cells #[.int .i64 a1_0,.bool a1_1,.int .i64 a1_2] 23 (0,0)) (by (with_reducible repeat (first|refine blk_drewN ?_ _|refine blk_drew ?_|refine blk_alloc ?_ _));exact BK102.out) hb)
           have n3_:=Aside0.mk (below_step (by repeat (first|(with_reducible first|exact HB.out|apply below_alloc|apply pw_below_drewN|apply below_drew1|refine below_set ?_ GE101.out|refine below_set ?_ GE102.out)|exact HB.out)) hb)
           clear HO106
           clear BK101
           clear BK102
           clear HB
           have HO106:=n0_
           have BK101:=n1_
           have BK102:=n2_
           have HB:=n3_
           clear n0_ n1_ n2_ n3_
           (try clear hb)
           (try clear hb2)
           (try clear hk)
           (try clear hi)
           refine hK.out _ _ ⟨(blk_cell BK101.out 0).trans rfl,(blk_cell BK102.out 0).trans rfl,(blk_cell BK102.out 1).trans rfl,(blk_cell BK102.out 2).trans rfl⟩ (fun hHeld => ?_)
           clear hK K
           refine norm_ (a':=?_) ?_ ?_
           rotate_left
           · show Act.put _ (some 21) _ = _
             simp only [Act.put,List.setIfInBounds_toArray,List.set_cons_zero,List.set_cons_succ,i64_w,i32_w]
             rfl
           refine one_ (i:=6) (N:=some 8) #[true,true,true,true,true,true,true,false] rfl rfl (one_of HT_.out (by kernel_rfl)) (by decide) (fun K hK => ?_)
           refine box_step ?hg (N:=8) ?hd (cs:=#[.int .i64 0,.int .i64 0,.int .i64 0]) (t:=69) ?hr ?_;(case hd => rfl);(case hg => rfl);(case hr => first|(go_simp;done)|(go_simp;rfl))
           intro gb113 hg w25 hbox hb
           have n0_:=Aside0.mk (Kd.R_below (by (with_reducible repeat (first|apply Kd.R_alloc|apply Kd.R_drewN|apply Kd.R_drew));exact HO106.out) hb)
           have n1_:=Aside0.mk (blk_below (g:=gb101) (o:=.cells #[.slice A0_0 l0_0.length c0_0] 56 (0,0)) (by (with_reducible repeat (first|refine blk_drewN ?_ _|refine blk_drew ?_|refine blk_alloc ?_ _));exact BK101.out) hb)
           have n2_:=Aside0.mk (blk_below (g:=gb102) (o:=.cells #[.int .i64 a1_0,.bool a1_1,.int .i64 a1_2] 23 (0,0)) (by (with_reducible repeat (first|refine blk_drewN ?_ _|refine blk_drew ?_|refine blk_alloc ?_ _));exact BK102.out) hb)
           have n3_:=Aside0.mk (below_step (by repeat (first|(with_reducible first|exact HB.out|apply below_alloc|apply pw_below_drewN|apply below_drew1|refine below_set ?_ GE101.out|refine below_set ?_ GE102.out)|exact HB.out)) hb)
           have n4_:=Aside0.mk (hbox)
           have n5_:=Aside0.mk ((by rw [hg];exact (below_size (by repeat (first|(with_reducible first|exact HB.out|apply below_alloc|apply pw_below_drewN|apply below_drew1|refine below_set ?_ GE101.out|refine below_set ?_ GE102.out)|exact HB.out))) : w.heap.size ≤ gb113))
           have n6_:=Aside0.mk ((by rw [hg];exact (below_size (by repeat (first|(with_reducible first|exact HB.out|apply below_alloc|apply pw_below_drewN|apply below_drew1|refine below_set ?_ GE101.out|refine below_set ?_ GE102.out)|exact HB.out))) : w.heap.size ≤ gb113))
           have n7_:=Aside0.mk ((by rw [hg];exact Nat.ne_of_lt (blk_lt (g:=gb101) (o:=.cells #[.slice A0_0 l0_0.length c0_0] 56 (0,0)) (by (with_reducible repeat (first|refine blk_drewN ?_ _|refine blk_drew ?_|refine blk_alloc ?_ _));exact BK101.out)) : gb101 ≠ gb113))
           have n8_:=Aside0.mk ((by rw [hg];exact Nat.ne_of_gt (blk_lt (g:=gb101) (o:=.cells #[.slice A0_0 l0_0.length c0_0] 56 (0,0)) (by (with_reducible repeat (first|refine blk_drewN ?_ _|refine blk_drew ?_|refine blk_alloc ?_ _));exact BK101.out)) : gb113 ≠ gb101))
           have n9_:=Aside0.mk ((by rw [hg];exact Nat.ne_of_lt (blk_lt (g:=gb102) (o:=.cells #[.int .i64 a1_0,.bool a1_1,.int .i64 a1_2] 23 (0,0)) (by (with_reducible repeat (first|refine blk_drewN ?_ _|refine blk_drew ?_|refine blk_alloc ?_ _));exact BK102.out)) : gb102 ≠ gb113))
           have n10_:=Aside0.mk ((by rw [hg];exact Nat.ne_of_gt (blk_lt (g:=gb102) (o:=.cells #[.int .i64 a1_0,.bool a1_1,.int .i64 a1_2] 23 (0,0)) (by (with_reducible repeat (first|refine blk_drewN ?_ _|refine blk_drew ?_|refine blk_alloc ?_ _));exact BK102.out)) : gb113 ≠ gb102))
           clear HO106
           clear BK101
           clear BK102
           clear HB
           have HO106:=n0_
           have BK101:=n1_
           have BK102:=n2_
           have HB:=n3_
           have BK113:=n4_
           have GW113:=n5_
           have GE113:=n6_
           have NB101_113:=n7_
           have NB113_101:=n8_
           have NB102_113:=n9_
           have NB113_102:=n10_
           clear n0_ n1_ n2_ n3_ n4_ n5_ n6_ n7_ n8_ n9_ n10_
           clear hb hbox hg
           refine hK.out _ _ ⟨(blk_cell BK101.out 0).trans rfl,(blk_cell BK102.out 0).trans rfl,(blk_cell BK102.out 1).trans rfl,(blk_cell BK102.out 2).trans rfl⟩ (fun hHeld => ?_)
           clear hK K
           refine norm_ (a':=?_) ?_ ?_
           rotate_left
           · show Act.put _ (some 8) _ = _
             simp only [Act.put,List.setIfInBounds_toArray,List.set_cons_zero,List.set_cons_succ,i64_w,i32_w]
             rfl
           exact norm_ (by simp only [putAll,Act.put,List.setIfInBounds_toArray,List.set_cons_zero,List.set_cons_succ]) (hCont (.slice Ao23 t104.length co23,gb113) _ ⟨hHeld,(by (with_reducible repeat (first|apply Kd.R_alloc|apply Kd.R_drewN|apply Kd.R_drew));exact HO106.out),(by (with_reducible repeat (first|refine blk_drewN ?_ _|refine blk_drew ?_|refine blk_alloc ?_ _));exact BK101.out),(by (with_reducible repeat (first|refine blk_drewN ?_ _|refine blk_drew ?_|refine blk_alloc ?_ _));exact BK102.out),(by (with_reducible repeat (first|refine blk_drewN ?_ _|refine blk_drew ?_|refine blk_alloc ?_ _));exact BK113.out),GW113.out,GE113.out,NB101_113.out,NB113_101.out,NB102_113.out,NB113_102.out,(by repeat (first|(with_reducible first|exact HB.out|apply below_alloc|apply pw_below_drewN|apply below_drew1|refine below_set ?_ GE101.out|refine below_set ?_ GE102.out|refine below_set ?_ GE113.out)|exact HB.out))⟩)
         · skip
           refine box_step ?hg (N:=8) ?hd (cs:=#[.int .i64 0,.int .i64 0,.int .i64 0]) (t:=69) ?hr ?_;(case hd => rfl);(case hg => rfl);(case hr => first|(go_simp;done)|(go_simp;rfl))
           intro gb113 hg w23 hbox hb
           have n0_:=Aside0.mk (Kd.R_below (by (with_reducible repeat (first|apply Kd.R_alloc|apply Kd.R_drewN|apply Kd.R_drew));exact HO106.out) hb)
           have n1_:=Aside0.mk (blk_below (g:=gb101) (o:=.cells #[.slice A0_0 l0_0.length c0_0] 56 (0,0)) (by (with_reducible repeat (first|refine blk_drewN ?_ _|refine blk_drew ?_|refine blk_alloc ?_ _));exact BK101.out) hb)
           have n2_:=Aside0.mk (blk_below (g:=gb102) (o:=.cells #[.int .i64 a1_0,.bool a1_1,.int .i64 a1_2] 23 (0,0)) (by (with_reducible repeat (first|refine blk_drewN ?_ _|refine blk_drew ?_|refine blk_alloc ?_ _));exact BK102.out) hb)
           have n3_:=Aside0.mk (below_step (by repeat (first|(with_reducible first|exact HB.out|apply below_alloc|apply pw_below_drewN|apply below_drew1|refine below_set ?_ GE101.out|refine below_set ?_ GE102.out)|exact HB.out)) hb)
           have n4_:=Aside0.mk (hbox)
           have n5_:=Aside0.mk ((by rw [hg];exact (below_size (by repeat (first|(with_reducible first|exact HB.out|apply below_alloc|apply pw_below_drewN|apply below_drew1|refine below_set ?_ GE101.out|refine below_set ?_ GE102.out)|exact HB.out))) : w.heap.size ≤ gb113))
           have n6_:=Aside0.mk ((by rw [hg];exact (below_size (by repeat (first|(with_reducible first|exact HB.out|apply below_alloc|apply pw_below_drewN|apply below_drew1|refine below_set ?_ GE101.out|refine below_set ?_ GE102.out)|exact HB.out))) : w.heap.size ≤ gb113))
           have n7_:=Aside0.mk ((by rw [hg];exact Nat.ne_of_lt (blk_lt (g:=gb101) (o:=.cells #[.slice A0_0 l0_0.length c0_0] 56 (0,0)) (by (with_reducible repeat (first|refine blk_drewN ?_ _|refine blk_drew ?_|refine blk_alloc ?_ _));exact BK101.out)) : gb101 ≠ gb113))
           have n8_:=Aside0.mk ((by rw [hg];exact Nat.ne_of_gt (blk_lt (g:=gb101) (o:=.cells #[.slice A0_0 l0_0.length c0_0] 56 (0,0)) (by (with_reducible repeat (first|refine blk_drewN ?_ _|refine blk_drew ?_|refine blk_alloc ?_ _));exact BK101.out)) : gb113 ≠ gb101))
           have n9_:=Aside0.mk ((by rw [hg];exact Nat.ne_of_lt (blk_lt (g:=gb102) (o:=.cells #[.int .i64 a1_0,.bool a1_1,.int .i64 a1_2] 23 (0,0)) (by (with_reducible repeat (first|refine blk_drewN ?_ _|refine blk_drew ?_|refine blk_alloc ?_ _));exact BK102.out)) : gb102 ≠ gb113))
           have n10_:=Aside0.mk ((by rw [hg];exact Nat.ne_of_gt (blk_lt (g:=gb102) (o:=.cells #[.int .i64 a1_0,.bool a1_1,.int .i64 a1_2] 23 (0,0)) (by (with_reducible repeat (first|refine blk_drewN ?_ _|refine blk_drew ?_|refine blk_alloc ?_ _));exact BK102.out)) : gb113 ≠ gb102))
           clear HO106
           clear BK101
           clear BK102
           clear HB
           have HO106:=n0_
           have BK101:=n1_
           have BK102:=n2_
           have HB:=n3_
           have BK113:=n4_
           have GW113:=n5_
           have GE113:=n6_
           have NB101_113:=n7_
           have NB113_101:=n8_
           have NB102_113:=n9_
           have NB113_102:=n10_
           clear n0_ n1_ n2_ n3_ n4_ n5_ n6_ n7_ n8_ n9_ n10_
           clear hb hbox hg
           obtain ⟨Ao24,co24,eo24⟩:=Kd.R_slice HO106.out
           (first|subst eo24|(injection eo24 with f1_ f2_ f3_;have f4_:=f1_.symm;have f5_:=f3_.symm;clear f1_ f2_ f3_;subst f4_;subst f5_))
           refine hK.out _ _ ⟨(blk_cell BK101.out 0).trans rfl,(blk_cell BK102.out 0).trans rfl,(blk_cell BK102.out 1).trans rfl,(blk_cell BK102.out 2).trans rfl⟩ (fun hHeld => ?_)
           clear hK K
           refine norm_ (a':=?_) ?_ ?_
           rotate_left
           · show Act.put _ (some 8) _ = _
             simp only [Act.put,List.setIfInBounds_toArray,List.set_cons_zero,List.set_cons_succ,i64_w,i32_w]
             rfl
           refine one_ (i:=5) (N:=some 21) #[true,true,true,true,true,true,true,false] rfl rfl (one_of HT_.out (by kernel_rfl)) (by decide) (fun K hK => ?_)
           refine goes_ Try.func45 (by kernel_rfl) rfl #[.agg #[.slice Ao24 t104.length co24],.agg #[.int .i64 t107,.bool t108,.int .i64 t109],.int .i64 a2] (by rfl) rfl rfl (by (try simp only [List.map_toArray,List.map_cons,List.map_nil]);first|done|rfl|(simp only [List.length_drop,List.length_take];rfl)) ?_
           with_reducible refine (spec_LastTop.calls k _ _ t104 t107 t108 t109 a2 t110 t111 t112 _ ?side1 ?side2 A14.out).mono ?_
           (case side1 => repeat (first|exact (Kd.R_reads' HO106.out).2.2|(with_reducible refine Kd.C_alloc ?_ _)|(with_reducible refine Kd.C_drewN ?_ _)|(with_reducible refine Kd.C_drew ?_)))
           (case side2 => exact (Kd.R_reads' HO106.out).2.1)
           rintro e w25 ⟨rfl,hb⟩
           refine ⟨_,rfl,?_⟩
           have n0_:=Aside0.mk (Kd.R_below (by (with_reducible repeat (first|apply Kd.R_alloc|apply Kd.R_drewN|apply Kd.R_drew));exact HO106.out) hb)
           have n1_:=Aside0.mk (blk_below (g:=gb101) (o:=.cells #[.slice A0_0 l0_0.length c0_0] 56 (0,0)) (by (with_reducible repeat (first|refine blk_drewN ?_ _|refine blk_drew ?_|refine blk_alloc ?_ _));exact BK101.out) hb)
           have n2_:=Aside0.mk (blk_below (g:=gb102) (o:=.cells #[.int .i64 a1_0,.bool a1_1,.int .i64 a1_2] 23 (0,0)) (by (with_reducible repeat (first|refine blk_drewN ?_ _|refine blk_drew ?_|refine blk_alloc ?_ _));exact BK102.out) hb)
           have n3_:=Aside0.mk (blk_below (g:=gb113) (o:=.cells #[.int .i64 0,.int .i64 0,.int .i64 0] 69 (0,0)) (by (with_reducible repeat (first|refine blk_drewN ?_ _|refine blk_drew ?_|refine blk_alloc ?_ _));exact BK113.out) hb)
           have n4_:=Aside0.mk (below_step (by repeat (first|(with_reducible first|exact HB.out|apply below_alloc|apply pw_below_drewN|apply below_drew1|refine below_set ?_ GE101.out|refine below_set ?_ GE102.out|refine below_set ?_ GE113.out)|exact HB.out)) hb)
           clear HO106
           clear BK101
           clear BK102
           clear BK113
           clear HB
           have HO106:=n0_
           have BK101:=n1_
           have BK102:=n2_
           have BK113:=n3_
           have HB:=n4_
           clear n0_ n1_ n2_ n3_ n4_
           (try clear hb)
           (try clear hb2)
           (try clear hk)
           (try clear hi)
           refine hK.out _ _ ⟨(blk_cell BK101.out 0).trans rfl,(blk_cell BK102.out 0).trans rfl,(blk_cell BK102.out 1).trans rfl,(blk_cell BK102.out 2).trans rfl⟩ (fun hHeld => ?_)
           clear hK K
           refine norm_ (a':=?_) ?_ ?_
           rotate_left
           · show Act.put _ (some 21) _ = _
             simp only [Act.put,List.setIfInBounds_toArray,List.set_cons_zero,List.set_cons_succ,i64_w,i32_w]
             rfl
           exact norm_ (by simp only [putAll,Act.put,List.setIfInBounds_toArray,List.set_cons_zero,List.set_cons_succ]) (hCont (.slice Ao24 t104.length co24,gb113) _ ⟨hHeld,(by (with_reducible repeat (first|apply Kd.R_alloc|apply Kd.R_drewN|apply Kd.R_drew));exact HO106.out),(by (with_reducible repeat (first|refine blk_drewN ?_ _|refine blk_drew ?_|refine blk_alloc ?_ _));exact BK101.out),(by (with_reducible repeat (first|refine blk_drewN ?_ _|refine blk_drew ?_|refine blk_alloc ?_ _));exact BK102.out),(by (with_reducible repeat (first|refine blk_drewN ?_ _|refine blk_drew ?_|refine blk_alloc ?_ _));exact BK113.out),GW113.out,GE113.out,NB101_113.out,NB113_101.out,NB102_113.out,NB113_102.out,(by repeat (first|(with_reducible first|exact HB.out|apply below_alloc|apply pw_below_drewN|apply below_drew1|refine below_set ?_ GE101.out|refine below_set ?_ GE102.out|refine below_set ?_ GE113.out)|exact HB.out))⟩)
       · skip
         refine box_step ?hg (N:=8) ?hd (cs:=#[.int .i64 0,.int .i64 0,.int .i64 0]) (t:=69) ?hr ?_;(case hd => rfl);(case hg => rfl);(case hr => first|(go_simp;done)|(go_simp;rfl))
         intro gb113 hg w22 hbox hb
         have n0_:=Aside0.mk (Kd.R_below (by (with_reducible repeat (first|apply Kd.R_alloc|apply Kd.R_drewN|apply Kd.R_drew));exact HO106.out) hb)
         have n1_:=Aside0.mk (blk_below (g:=gb101) (o:=.cells #[.slice A0_0 l0_0.length c0_0] 56 (0,0)) (by (with_reducible repeat (first|refine blk_drewN ?_ _|refine blk_drew ?_|refine blk_alloc ?_ _));exact BK101.out) hb)
         have n2_:=Aside0.mk (blk_below (g:=gb102) (o:=.cells #[.int .i64 a1_0,.bool a1_1,.int .i64 a1_2] 23 (0,0)) (by (with_reducible repeat (first|refine blk_drewN ?_ _|refine blk_drew ?_|refine blk_alloc ?_ _));exact BK102.out) hb)
         have n3_:=Aside0.mk (below_step (by repeat (first|(with_reducible first|exact HB.out|apply below_alloc|apply pw_below_drewN|apply below_drew1|refine below_set ?_ GE101.out|refine below_set ?_ GE102.out)|exact HB.out)) hb)
         have n4_:=Aside0.mk (hbox)
         have n5_:=Aside0.mk ((by rw [hg];exact (below_size (by repeat (first|(with_reducible first|exact HB.out|apply below_alloc|apply pw_below_drewN|apply below_drew1|refine below_set ?_ GE101.out|refine below_set ?_ GE102.out)|exact HB.out))) : w.heap.size ≤ gb113))
         have n6_:=Aside0.mk ((by rw [hg];exact (below_size (by repeat (first|(with_reducible first|exact HB.out|apply below_alloc|apply pw_below_drewN|apply below_drew1|refine below_set ?_ GE101.out|refine below_set ?_ GE102.out)|exact HB.out))) : w.heap.size ≤ gb113))
         have n7_:=Aside0.mk ((by rw [hg];exact Nat.ne_of_lt (blk_lt (g:=gb101) (o:=.cells #[.slice A0_0 l0_0.length c0_0] 56 (0,0)) (by (with_reducible repeat (first|refine blk_drewN ?_ _|refine blk_drew ?_|refine blk_alloc ?_ _));exact BK101.out)) : gb101 ≠ gb113))
         have n8_:=Aside0.mk ((by rw [hg];exact Nat.ne_of_gt (blk_lt (g:=gb101) (o:=.cells #[.slice A0_0 l0_0.length c0_0] 56 (0,0)) (by (with_reducible repeat (first|refine blk_drewN ?_ _|refine blk_drew ?_|refine blk_alloc ?_ _));exact BK101.out)) : gb113 ≠ gb101))
         have n9_:=Aside0.mk ((by rw [hg];exact Nat.ne_of_lt (blk_lt (g:=gb102) (o:=.cells #[.int .i64 a1_0,.bool a1_1,.int .i64 a1_2] 23 (0,0)) (by (with_reducible repeat (first|refine blk_drewN ?_ _|refine blk_drew ?_|refine blk_alloc ?_ _));exact BK102.out)) : gb102 ≠ gb113))
         have n10_:=Aside0.mk ((by rw [hg];exact Nat.ne_of_gt (blk_lt (g:=gb102) (o:=.cells #[.int .i64 a1_0,.bool a1_1,.int .i64 a1_2] 23 (0,0)) (by (with_reducible repeat (first|refine blk_drewN ?_ _|refine blk_drew ?_|refine blk_alloc ?_ _));exact BK102.out)) : gb113 ≠ gb102))
         clear HO106
         clear BK101
         clear BK102
         clear HB
         have HO106:=n0_
         have BK101:=n1_
         have BK102:=n2_
         have HB:=n3_
         have BK113:=n4_
         have GW113:=n5_
         have GE113:=n6_
         have NB101_113:=n7_
         have NB113_101:=n8_
         have NB102_113:=n9_
         have NB113_102:=n10_
         clear n0_ n1_ n2_ n3_ n4_ n5_ n6_ n7_ n8_ n9_ n10_
         clear hb hbox hg
         refine hK.out _ _ ⟨(blk_cell BK101.out 0).trans rfl,(blk_cell BK102.out 0).trans rfl,(blk_cell BK102.out 1).trans rfl,(blk_cell BK102.out 2).trans rfl⟩ (fun hHeld => ?_)
         clear hK K
         refine norm_ (a':=?_) ?_ ?_
         rotate_left
         · show Act.put _ (some 8) _ = _
           simp only [Act.put,List.setIfInBounds_toArray,List.set_cons_zero,List.set_cons_succ,i64_w,i32_w]
           rfl
         refine one_ (i:=3) (N:=some 19) #[true,true,true,true,true,false,true,false] rfl rfl (one_of HT_.out (by kernel_rfl)) (by decide) (fun K hK => ?_)
         refine goes_ Try.func15 (by kernel_rfl) rfl #[.agg #[.int .i64 a1_0,.bool a1_1,.int .i64 a1_2]] (by rfl) rfl rfl (by (try simp only [List.map_toArray,List.map_cons,List.map_nil]);first|done|rfl|(simp only [List.length_drop,List.length_take];rfl)) ?_
         with_reducible refine (laws_toLayout.calls a1_0 a1_1 a1_2 t107 t108 t109 _ A13.out).mono ?_
         rintro e w23 ⟨rfl,hb⟩
         refine ⟨_,rfl,?_⟩
         have n0_:=Aside0.mk (Kd.R_below (by (with_reducible repeat (first|apply Kd.R_alloc|apply Kd.R_drewN|apply Kd.R_drew));exact HO106.out) hb)
         have n1_:=Aside0.mk (blk_below (g:=gb101) (o:=.cells #[.slice A0_0 l0_0.length c0_0] 56 (0,0)) (by (with_reducible repeat (first|refine blk_drewN ?_ _|refine blk_drew ?_|refine blk_alloc ?_ _));exact BK101.out) hb)
         have n2_:=Aside0.mk (blk_below (g:=gb102) (o:=.cells #[.int .i64 a1_0,.bool a1_1,.int .i64 a1_2] 23 (0,0)) (by (with_reducible repeat (first|refine blk_drewN ?_ _|refine blk_drew ?_|refine blk_alloc ?_ _));exact BK102.out) hb)
         have n3_:=Aside0.mk (blk_below (g:=gb113) (o:=.cells #[.int .i64 0,.int .i64 0,.int .i64 0] 69 (0,0)) (by (with_reducible repeat (first|refine blk_drewN ?_ _|refine blk_drew ?_|refine blk_alloc ?_ _));exact BK113.out) hb)
         have n4_:=Aside0.mk (below_step (by repeat (first|(with_reducible first|exact HB.out|apply below_alloc|apply pw_below_drewN|apply below_drew1|refine below_set ?_ GE101.out|refine below_set ?_ GE102.out|refine below_set ?_ GE113.out)|exact HB.out)) hb)
         clear HO106
         clear BK101
         clear BK102
         clear BK113
         clear HB
         have HO106:=n0_
         have BK101:=n1_
         have BK102:=n2_
         have BK113:=n3_
         have HB:=n4_
         clear n0_ n1_ n2_ n3_ n4_
         (try clear hb)
         (try clear hb2)
         (try clear hk)
         (try clear hi)
         obtain ⟨Ao24,co24,eo24⟩:=Kd.R_slice HO106.out
         (first|subst eo24|(injection eo24 with f1_ f2_ f3_;have f4_:=f1_.symm;have f5_:=f3_.symm;clear f1_ f2_ f3_;subst f4_;subst f5_))
         refine hK.out _ _ ⟨(blk_cell BK101.out 0).trans rfl,(blk_cell BK102.out 0).trans rfl,(blk_cell BK102.out 1).trans rfl,(blk_cell BK102.out 2).trans rfl⟩ (fun hHeld => ?_)
         clear hK K
         refine norm_ (a':=?_) ?_ ?_
         rotate_left
         · show Act.put _ (some 19) _ = _
           simp only [Act.put,List.setIfInBounds_toArray,List.set_cons_zero,List.set_cons_succ,i64_w,i32_w]
           rfl
         refine one_ (i:=5) (N:=some 21) #[true,true,true,true,true,true,true,false] rfl rfl (one_of HT_.out (by kernel_rfl)) (by decide) (fun K hK => ?_)
         refine goes_ Try.func45 (by kernel_rfl) rfl #[.agg #[.slice Ao24 t104.length co24],.agg #[.int .i64 t107,.bool t108,.int .i64 t109],.int .i64 a2] (by rfl) rfl rfl (by (try simp only [List.map_toArray,List.map_cons,List.map_nil]);first|done|rfl|(simp only [List.length_drop,List.length_take];rfl)) ?_
         with_reducible refine (spec_LastTop.calls k _ _ t104 t107 t108 t109 a2 t110 t111 t112 _ ?side1 ?side2 A14.out).mono ?_
         (case side1 => repeat (first|exact (Kd.R_reads' HO106.out).2.2|(with_reducible refine Kd.C_alloc ?_ _)|(with_reducible refine Kd.C_drewN ?_ _)|(with_reducible refine Kd.C_drew ?_)))
         (case side2 => exact (Kd.R_reads' HO106.out).2.1)
         rintro e w25 ⟨rfl,hb⟩
         refine ⟨_,rfl,?_⟩
         have n0_:=Aside0.mk (Kd.R_below (by (with_reducible repeat (first|apply Kd.R_alloc|apply Kd.R_drewN|apply Kd.R_drew));exact HO106.out) hb)
         have n1_:=Aside0.mk (blk_below (g:=gb101) (o:=.cells #[.slice A0_0 l0_0.length c0_0] 56 (0,0)) (by (with_reducible repeat (first|refine blk_drewN ?_ _|refine blk_drew ?_|refine blk_alloc ?_ _));exact BK101.out) hb)
         have n2_:=Aside0.mk (blk_below (g:=gb102) (o:=.cells #[.int .i64 a1_0,.bool a1_1,.int .i64 a1_2] 23 (0,0)) (by (with_reducible repeat (first|refine blk_drewN ?_ _|refine blk_drew ?_|refine blk_alloc ?_ _));exact BK102.out) hb)
         have n3_:=Aside0.mk (blk_below (g:=gb113) (o:=.cells #[.int .i64 0,.int .i64 0,.int .i64 0] 69 (0,0)) (by (with_reducible repeat (first|refine blk_drewN ?_ _|refine blk_drew ?_|refine blk_alloc ?_ _));exact BK113.out) hb)
         have n4_:=Aside0.mk (below_step (by repeat (first|(with_reducible first|exact HB.out|apply below_alloc|apply pw_below_drewN|apply below_drew1|refine below_set ?_ GE101.out|refine below_set ?_ GE102.out|refine below_set ?_ GE113.out)|exact HB.out)) hb)
         clear HO106
         clear BK101
         clear BK102
         clear BK113
         clear HB
         have HO106:=n0_
         have BK101:=n1_
         have BK102:=n2_
         have BK113:=n3_
         have HB:=n4_
         clear n0_ n1_ n2_ n3_ n4_
         (try clear hb)
         (try clear hb2)
         (try clear hk)
         (try clear hi)
         refine hK.out _ _ ⟨(blk_cell BK101.out 0).trans rfl,(blk_cell BK102.out 0).trans rfl,(blk_cell BK102.out 1).trans rfl,(blk_cell BK102.out 2).trans rfl⟩ (fun hHeld => ?_)
         clear hK K
         refine norm_ (a':=?_) ?_ ?_
         rotate_left
         · show Act.put _ (some 21) _ = _
           simp only [Act.put,List.setIfInBounds_toArray,List.set_cons_zero,List.set_cons_succ,i64_w,i32_w]
           rfl
         exact norm_ (by simp only [putAll,Act.put,List.setIfInBounds_toArray,List.set_cons_zero,List.set_cons_succ]) (hCont (.slice Ao24 t104.length co24,gb113) _ ⟨hHeld,(by (with_reducible repeat (first|apply Kd.R_alloc|apply Kd.R_drewN|apply Kd.R_drew));exact HO106.out),(by (with_reducible repeat (first|refine blk_drewN ?_ _|refine blk_drew ?_|refine blk_alloc ?_ _));exact BK101.out),(by (with_reducible repeat (first|refine blk_drewN ?_ _|refine blk_drew ?_|refine blk_alloc ?_ _));exact BK102.out),(by (with_reducible repeat (first|refine blk_drewN ?_ _|refine blk_drew ?_|refine blk_alloc ?_ _));exact BK113.out),GW113.out,GE113.out,NB101_113.out,NB113_101.out,NB102_113.out,NB113_102.out,(by repeat (first|(with_reducible first|exact HB.out|apply below_alloc|apply pw_below_drewN|apply below_drew1|refine below_set ?_ GE101.out|refine below_set ?_ GE102.out|refine below_set ?_ GE113.out)|exact HB.out))⟩)
     · skip
       refine box_step ?hg (N:=8) ?hd (cs:=#[.int .i64 0,.int .i64 0,.int .i64 0]) (t:=69) ?hr ?_;(case hd => rfl);(case hg => rfl);(case hr => first|(go_simp;done)|(go_simp;rfl))
       intro gb113 hg w21 hbox hb
       have n0_:=Aside0.mk (blk_below (g:=gb101) (o:=.cells #[.slice A0_0 l0_0.length c0_0] 56 (0,0)) (by (with_reducible repeat (first|refine blk_drewN ?_ _|refine blk_drew ?_|refine blk_alloc ?_ _));exact BK101.out) hb)
       have n1_:=Aside0.mk (blk_below (g:=gb102) (o:=.cells #[.int .i64 a1_0,.bool a1_1,.int .i64 a1_2] 23 (0,0)) (by (with_reducible repeat (first|refine blk_drewN ?_ _|refine blk_drew ?_|refine blk_alloc ?_ _));exact BK102.out) hb)
       have n2_:=Aside0.mk (below_step (by repeat (first|(with_reducible first|exact HB.out|apply below_alloc|apply pw_below_drewN|apply below_drew1|refine below_set ?_ GE101.out|refine below_set ?_ GE102.out)|exact HB.out)) hb)
       have n3_:=Aside0.mk (hbox)
       have n4_:=Aside0.mk ((by rw [hg];exact (below_size (by repeat (first|(with_reducible first|exact HB.out|apply below_alloc|apply pw_below_drewN|apply below_drew1|refine below_set ?_ GE101.out|refine below_set ?_ GE102.out)|exact HB.out))) : w.heap.size ≤ gb113))
       have n5_:=Aside0.mk ((by rw [hg];exact (below_size (by repeat (first|(with_reducible first|exact HB.out|apply below_alloc|apply pw_below_drewN|apply below_drew1|refine below_set ?_ GE101.out|refine below_set ?_ GE102.out)|exact HB.out))) : w.heap.size ≤ gb113))
       have n6_:=Aside0.mk ((by rw [hg];exact Nat.ne_of_lt (blk_lt (g:=gb101) (o:=.cells #[.slice A0_0 l0_0.length c0_0] 56 (0,0)) (by (with_reducible repeat (first|refine blk_drewN ?_ _|refine blk_drew ?_|refine blk_alloc ?_ _));exact BK101.out)) : gb101 ≠ gb113))
       have n7_:=Aside0.mk ((by rw [hg];exact Nat.ne_of_gt (blk_lt (g:=gb101) (o:=.cells #[.slice A0_0 l0_0.length c0_0] 56 (0,0)) (by (with_reducible repeat (first|refine blk_drewN ?_ _|refine blk_drew ?_|refine blk_alloc ?_ _));exact BK101.out)) : gb113 ≠ gb101))
       have n8_:=Aside0.mk ((by rw [hg];exact Nat.ne_of_lt (blk_lt (g:=gb102) (o:=.cells #[.int .i64 a1_0,.bool a1_1,.int .i64 a1_2] 23 (0,0)) (by (with_reducible repeat (first|refine blk_drewN ?_ _|refine blk_drew ?_|refine blk_alloc ?_ _));exact BK102.out)) : gb102 ≠ gb113))
       have n9_:=Aside0.mk ((by rw [hg];exact Nat.ne_of_gt (blk_lt (g:=gb102) (o:=.cells #[.int .i64 a1_0,.bool a1_1,.int .i64 a1_2] 23 (0,0)) (by (with_reducible repeat (first|refine blk_drewN ?_ _|refine blk_drew ?_|refine blk_alloc ?_ _));exact BK102.out)) : gb113 ≠ gb102))
       clear BK101
       clear BK102
       clear HB
       have BK101:=n0_
       have BK102:=n1_
       have HB:=n2_
       have BK113:=n3_
       have GW113:=n4_
       have GE113:=n5_
       have NB101_113:=n6_
       have NB113_101:=n7_
       have NB102_113:=n8_
       have NB113_102:=n9_
       clear n0_ n1_ n2_ n3_ n4_ n5_ n6_ n7_ n8_ n9_
       clear hb hbox hg
       refine hK.out _ _ ⟨(blk_cell BK101.out 0).trans rfl,(blk_cell BK102.out 0).trans rfl,(blk_cell BK102.out 1).trans rfl,(blk_cell BK102.out 2).trans rfl⟩ (fun hHeld => ?_)
       clear hK K
       refine norm_ (a':=?_) ?_ ?_
       rotate_left
       · show Act.put _ (some 8) _ = _
         simp only [Act.put,List.setIfInBounds_toArray,List.set_cons_zero,List.set_cons_succ,i64_w,i32_w]
         rfl
       refine one_ (i:=1) (N:=some 17) #[true,true,true,false,true,false,true,false] rfl rfl (one_of HT_.out (by kernel_rfl)) (by decide) (fun K hK => ?_)
       refine goes_ Try.func40 (by kernel_rfl) rfl #[.agg #[.slice A0_0 l0_0.length c0_0]] (by rfl) rfl rfl (by (try simp only [List.map_toArray,List.map_cons,List.map_nil]);first|done|rfl|(simp only [List.length_drop,List.length_take];rfl)) ?_
       with_reducible refine (laws_toFile.calls k _ _ l0_0 t104 _ ?side1 ?side2 A12.out).mono ?_
       (case side1 => repeat (first|exact (Kd.C_below HR0_0.out HB.out)|(with_reducible refine Kd.C_alloc ?_ _)|(with_reducible refine Kd.C_drewN ?_ _)|(with_reducible refine Kd.C_drew ?_)))
       (case side2 => exact HC0_0.out)
       rintro e w22 ⟨v105,rfl,ho0,hb⟩
       refine ⟨_,rfl,?_⟩
       have n0_:=Aside0.mk (Kd.R_lower ho0 (below_size (by repeat (first|(with_reducible first|exact HB.out|apply below_alloc|apply pw_below_drewN|apply below_drew1|refine below_set ?_ GE101.out|refine below_set ?_ GE102.out|refine below_set ?_ GE113.out)|exact HB.out))))
       have n1_:=Aside0.mk (blk_below (g:=gb101) (o:=.cells #[.slice A0_0 l0_0.length c0_0] 56 (0,0)) (by (with_reducible repeat (first|refine blk_drewN ?_ _|refine blk_drew ?_|refine blk_alloc ?_ _));exact BK101.out) hb)
       have n2_:=Aside0.mk (blk_below (g:=gb102) (o:=.cells #[.int .i64 a1_0,.bool a1_1,.int .i64 a1_2] 23 (0,0)) (by (with_reducible repeat (first|refine blk_drewN ?_ _|refine blk_drew ?_|refine blk_alloc ?_ _));exact BK102.out) hb)
       have n3_:=Aside0.mk (blk_below (g:=gb113) (o:=.cells #[.int .i64 0,.int .i64 0,.int .i64 0] 69 (0,0)) (by (with_reducible repeat (first|refine blk_drewN ?_ _|refine blk_drew ?_|refine blk_alloc ?_ _));exact BK113.out) hb)
       have n4_:=Aside0.mk (below_step (by repeat (first|(with_reducible first|exact HB.out|apply below_alloc|apply pw_below_drewN|apply below_drew1|refine below_set ?_ GE101.out|refine below_set ?_ GE102.out|refine below_set ?_ GE113.out)|exact HB.out)) hb)
       clear BK101
       clear BK102
       clear BK113
       clear HB
       have HO106:=n0_
       have BK101:=n1_
       have BK102:=n2_
       have BK113:=n3_
       have HB:=n4_
       clear n0_ n1_ n2_ n3_ n4_
       (try clear hb)
       (try clear hb2)
       (try clear hk)
       (try clear hi)
       (try clear ho0)
       refine hK.out _ _ ⟨(blk_cell BK101.out 0).trans rfl,(blk_cell BK102.out 0).trans rfl,(blk_cell BK102.out 1).trans rfl,(blk_cell BK102.out 2).trans rfl⟩ (fun hHeld => ?_)
       clear hK K
       refine norm_ (a':=?_) ?_ ?_
       rotate_left
       · show Act.put _ (some 17) _ = _
         simp only [Act.put,List.setIfInBounds_toArray,List.set_cons_zero,List.set_cons_succ,i64_w,i32_w]
         rfl
       refine one_ (i:=3) (N:=some 19) #[true,true,true,true,true,false,true,false] rfl rfl (one_of HT_.out (by kernel_rfl)) (by decide) (fun K hK => ?_)
       refine goes_ Try.func15 (by kernel_rfl) rfl #[.agg #[.int .i64 a1_0,.bool a1_1,.int .i64 a1_2]] (by rfl) rfl rfl (by (try simp only [List.map_toArray,List.map_cons,List.map_nil]);first|done|rfl|(simp only [List.length_drop,List.length_take];rfl)) ?_
       with_reducible refine (laws_toLayout.calls a1_0 a1_1 a1_2 t107 t108 t109 _ A13.out).mono ?_
       rintro e w23 ⟨rfl,hb⟩
       refine ⟨_,rfl,?_⟩
       have n0_:=Aside0.mk (Kd.R_below (by (with_reducible repeat (first|apply Kd.R_alloc|apply Kd.R_drewN|apply Kd.R_drew));exact HO106.out) hb)
       have n1_:=Aside0.mk (blk_below (g:=gb101) (o:=.cells #[.slice A0_0 l0_0.length c0_0] 56 (0,0)) (by (with_reducible repeat (first|refine blk_drewN ?_ _|refine blk_drew ?_|refine blk_alloc ?_ _));exact BK101.out) hb)
       have n2_:=Aside0.mk (blk_below (g:=gb102) (o:=.cells #[.int .i64 a1_0,.bool a1_1,.int .i64 a1_2] 23 (0,0)) (by (with_reducible repeat (first|refine blk_drewN ?_ _|refine blk_drew ?_|refine blk_alloc ?_ _));exact BK102.out) hb)
       have n3_:=Aside0.mk (blk_below (g:=gb113) (o:=.cells #[.int .i64 0,.int .i64 0,.int .i64 0] 69 (0,0)) (by (with_reducible repeat (first|refine blk_drewN ?_ _|refine blk_drew ?_|refine blk_alloc ?_ _));exact BK113.out) hb)
       have n4_:=Aside0.mk (below_step (by repeat (first|(with_reducible first|exact HB.out|apply below_alloc|apply pw_below_drewN|apply below_drew1|refine below_set ?_ GE101.out|refine below_set ?_ GE102.out|refine below_set ?_ GE113.out)|exact HB.out)) hb)
       clear HO106
       clear BK101
       clear BK102
       clear BK113
       clear HB
       have HO106:=n0_
       have BK101:=n1_
       have BK102:=n2_
       have BK113:=n3_
       have HB:=n4_
       clear n0_ n1_ n2_ n3_ n4_
       (try clear hb)
       (try clear hb2)
       (try clear hk)
       (try clear hi)
       obtain ⟨Ao24,co24,eo24⟩:=Kd.R_slice HO106.out
       (first|subst eo24|(injection eo24 with f1_ f2_ f3_;have f4_:=f1_.symm;have f5_:=f3_.symm;clear f1_ f2_ f3_;subst f4_;subst f5_))
       refine hK.out _ _ ⟨(blk_cell BK101.out 0).trans rfl,(blk_cell BK102.out 0).trans rfl,(blk_cell BK102.out 1).trans rfl,(blk_cell BK102.out 2).trans rfl⟩ (fun hHeld => ?_)
       clear hK K
       refine norm_ (a':=?_) ?_ ?_
       rotate_left
       · show Act.put _ (some 19) _ = _
         simp only [Act.put,List.setIfInBounds_toArray,List.set_cons_zero,List.set_cons_succ,i64_w,i32_w]
         rfl
       refine one_ (i:=5) (N:=some 21) #[true,true,true,true,true,true,true,false] rfl rfl (one_of HT_.out (by kernel_rfl)) (by decide) (fun K hK => ?_)
       refine goes_ Try.func45 (by kernel_rfl) rfl #[.agg #[.slice Ao24 t104.length co24],.agg #[.int .i64 t107,.bool t108,.int .i64 t109],.int .i64 a2] (by rfl) rfl rfl (by (try simp only [List.map_toArray,List.map_cons,List.map_nil]);first|done|rfl|(simp only [List.length_drop,List.length_take];rfl)) ?_
       with_reducible refine (spec_LastTop.calls k _ _ t104 t107 t108 t109 a2 t110 t111 t112 _ ?side1 ?side2 A14.out).mono ?_
       (case side1 => repeat (first|exact (Kd.R_reads' HO106.out).2.2|(with_reducible refine Kd.C_alloc ?_ _)|(with_reducible refine Kd.C_drewN ?_ _)|(with_reducible refine Kd.C_drew ?_)))
       (case side2 => exact (Kd.R_reads' HO106.out).2.1)
       rintro e w25 ⟨rfl,hb⟩
       refine ⟨_,rfl,?_⟩
       have n0_:=Aside0.mk (Kd.R_below (by (with_reducible repeat (first|apply Kd.R_alloc|apply Kd.R_drewN|apply Kd.R_drew));exact HO106.out) hb)
       have n1_:=Aside0.mk (blk_below (g:=gb101) (o:=.cells #[.slice A0_0 l0_0.length c0_0] 56 (0,0)) (by (with_reducible repeat (first|refine blk_drewN ?_ _|refine blk_drew ?_|refine blk_alloc ?_ _));exact BK101.out) hb)
       have n2_:=Aside0.mk (blk_below (g:=gb102) (o:=.cells #[.int .i64 a1_0,.bool a1_1,.int .i64 a1_2] 23 (0,0)) (by (with_reducible repeat (first|refine blk_drewN ?_ _|refine blk_drew ?_|refine blk_alloc ?_ _));exact BK102.out) hb)
       have n3_:=Aside0.mk (blk_below (g:=gb113) (o:=.cells #[.int .i64 0,.int .i64 0,.int .i64 0] 69 (0,0)) (by (with_reducible repeat (first|refine blk_drewN ?_ _|refine blk_drew ?_|refine blk_alloc ?_ _));exact BK113.out) hb)
       have n4_:=Aside0.mk (below_step (by repeat (first|(with_reducible first|exact HB.out|apply below_alloc|apply pw_below_drewN|apply below_drew1|refine below_set ?_ GE101.out|refine below_set ?_ GE102.out|refine below_set ?_ GE113.out)|exact HB.out)) hb)
       clear HO106
       clear BK101
       clear BK102
       clear BK113
       clear HB
       have HO106:=n0_
       have BK101:=n1_
       have BK102:=n2_
       have BK113:=n3_
       have HB:=n4_
       clear n0_ n1_ n2_ n3_ n4_
       (try clear hb)
       (try clear hb2)
       (try clear hk)
       (try clear hi)
       refine hK.out _ _ ⟨(blk_cell BK101.out 0).trans rfl,(blk_cell BK102.out 0).trans rfl,(blk_cell BK102.out 1).trans rfl,(blk_cell BK102.out 2).trans rfl⟩ (fun hHeld => ?_)
       clear hK K
       refine norm_ (a':=?_) ?_ ?_
       rotate_left
       · show Act.put _ (some 21) _ = _
         simp only [Act.put,List.setIfInBounds_toArray,List.set_cons_zero,List.set_cons_succ,i64_w,i32_w]
         rfl
       exact norm_ (by simp only [putAll,Act.put,List.setIfInBounds_toArray,List.set_cons_zero,List.set_cons_succ]) (hCont (.slice Ao24 t104.length co24,gb113) _ ⟨hHeld,(by (with_reducible repeat (first|apply Kd.R_alloc|apply Kd.R_drewN|apply Kd.R_drew));exact HO106.out),(by (with_reducible repeat (first|refine blk_drewN ?_ _|refine blk_drew ?_|refine blk_alloc ?_ _));exact BK101.out),(by (with_reducible repeat (first|refine blk_drewN ?_ _|refine blk_drew ?_|refine blk_alloc ?_ _));exact BK102.out),(by (with_reducible repeat (first|refine blk_drewN ?_ _|refine blk_drew ?_|refine blk_alloc ?_ _));exact BK113.out),GW113.out,GE113.out,NB101_113.out,NB113_101.out,NB102_113.out,NB113_102.out,(by repeat (first|(with_reducible first|exact HB.out|apply below_alloc|apply pw_below_drewN|apply below_drew1|refine below_set ?_ GE101.out|refine below_set ?_ GE102.out|refine below_set ?_ GE113.out)|exact HB.out))⟩)
   rintro ⟨v105,gb113⟩ w26 ⟨hS_,h0_,h1_,h2_,h3_,h4_,h5_,h6_,h7_,h8_,h9_,h10_⟩
   have n0_ : Aside0 (Kd.R (Kd.int .u8) 5 w26 w.heap.size (fun _ => True) v105 t104):=⟨h0_⟩
   have n1_ : Aside0 (w26.heap[gb101]? = some (.cells #[.slice A0_0 l0_0.length c0_0] 56 (0,0))):=⟨h1_⟩
   have n2_ : Aside0 (w26.heap[gb102]? = some (.cells #[.int .i64 a1_0,.bool a1_1,.int .i64 a1_2] 23 (0,0))):=⟨h2_⟩
   have n3_ : Aside0 (w26.heap[gb113]? = some (.cells #[.int .i64 0,.int .i64 0,.int .i64 0] 69 (0,0))):=⟨h3_⟩
   have n4_ : Aside0 (w.heap.size ≤ gb113):=⟨h4_⟩
   have n5_ : Aside0 (w.heap.size ≤ gb113):=⟨h5_⟩
   have n6_ : Aside0 (gb101 ≠ gb113):=⟨h6_⟩
   have n7_ : Aside0 (gb113 ≠ gb101):=⟨h7_⟩
   have n8_ : Aside0 (gb102 ≠ gb113):=⟨h8_⟩
   have n9_ : Aside0 (gb113 ≠ gb102):=⟨h9_⟩
   have n10_ : Aside0 (Below w.heap.size w w26):=⟨h10_⟩
   clear BK101
   clear BK102
   clear HB
   clear h0_ h1_ h2_ h3_ h4_ h5_ h6_ h7_ h8_ h9_ h10_
   have HO106:=n0_
   have BK101:=n1_
   have BK102:=n2_
   have BK113:=n3_
   have GW113:=n4_
   have GE113:=n5_
   have NB101_113:=n6_
   have NB113_101:=n7_
   have NB102_113:=n8_
   have NB113_102:=n9_
   have HB:=n10_
   clear n0_ n1_ n2_ n3_ n4_ n5_ n6_ n7_ n8_ n9_ n10_
   have hHeld : w26.cell? ⟨gb101,0,none⟩ = some (.slice A0_0 l0_0.length c0_0) ∧ w26.cell? ⟨gb102,0,none⟩ = some (.int .i64 a1_0) ∧ w26.cell? ⟨gb102,1,none⟩ = some (.bool a1_1) ∧ w26.cell? ⟨gb102,2,none⟩ = some (.int .i64 a1_2):=hS_
   refine norm_ (a':=?_) ?_ ?_
   rotate_left
   · simp only [putAll,Act.put,List.setIfInBounds_toArray,List.set_cons_zero,List.set_cons_succ]
     rfl
   refine one_ (i:=7) (N:=none) #[true,true,true,true,true,true,true,true] rfl rfl (one_of HT_.out (by kernel_rfl)) (by decide) (fun K hK => ?_)
   have hs27 : w26.cell? ⟨gb113,0,none⟩ = some (.int .i64 0):=(blk_cell BK113.out 0).trans rfl
   have hfs27:=blk_frozen BK113.out 0
   have hns27_0:=NB101_113.out
   have hns27_1:=NB102_113.out
   have hms27_0:=NB113_101.out
   have hms27_1:=NB113_102.out
   have hs28 : w26.cell? ⟨gb113,1,none⟩ = some (.int .i64 0):=(blk_cell BK113.out 1).trans rfl
   have hfs28:=blk_frozen BK113.out 1
   have hns28_0:=NB101_113.out
   have hns28_1:=NB102_113.out
   have hms28_0:=NB113_101.out
   have hms28_1:=NB113_102.out
   have hs29 : w26.cell? ⟨gb113,2,none⟩ = some (.int .i64 0):=(blk_cell BK113.out 2).trans rfl
   have hfs29:=blk_frozen BK113.out 2
   have hns29_0:=NB101_113.out
   have hns29_1:=NB102_113.out
   have hms29_0:=NB113_101.out
   have hms29_1:=NB113_102.out
   refine skip_ (w1:=?_) (by rfl) rfl ?_ ?_
   rotate_left
   · go_simp
     rfl
   refine hK.out _ _ ⟨((cell_far (p:=⟨gb113,_,none⟩) NB101_113.out _).trans (((cell_far (p:=⟨gb113,_,none⟩) NB101_113.out _).trans (((cell_far (p:=⟨gb113,_,none⟩) NB101_113.out _).trans (hHeld.1)))))),((cell_far (p:=⟨gb113,_,none⟩) NB102_113.out _).trans (((cell_far (p:=⟨gb113,_,none⟩) NB102_113.out _).trans (((cell_far (p:=⟨gb113,_,none⟩) NB102_113.out _).trans (hHeld.2.1)))))),((cell_far (p:=⟨gb113,_,none⟩) NB102_113.out _).trans (((cell_far (p:=⟨gb113,_,none⟩) NB102_113.out _).trans (((cell_far (p:=⟨gb113,_,none⟩) NB102_113.out _).trans (hHeld.2.2.1)))))),((cell_far (p:=⟨gb113,_,none⟩) NB102_113.out _).trans (((cell_far (p:=⟨gb113,_,none⟩) NB102_113.out _).trans (((cell_far (p:=⟨gb113,_,none⟩) NB102_113.out _).trans (hHeld.2.2.2))))))⟩ (fun hHeld => ?_)
   clear hK K
   refine done_ (done_of HT_.out (by kernel_rfl)) ?_
   have hnb30:=NB101_102.out
   have hnc30:=NB102_101.out
   have hnb31:=NB101_113.out
   have hnc31:=NB113_101.out
   have hcz32_0 : w26.cell? ⟨gb101,0,none⟩ = some (.slice A0_0 l0_0.length c0_0):=(blk_cell BK101.out 0).trans rfl
   have hfz32_0:=blk_frozen BK101.out 0
   try go_wp2_with (first|((with_reducible refine gate_callee (f:=40) rfl ?_);refine goesL_ (some 23) rfl rfl Try.func40 (by kernel_rfl) rfl #[.agg #[.slice A0_0 l0_0.length c0_0]] rfl (by (try simp only [List.map_toArray,List.map_cons,List.map_nil]);first|done|rfl|(simp only [List.length_drop,List.length_take];rfl)) ?_;(with_reducible refine (laws_toFile.calls k _ _ l0_0 t114 _ ?side1 ?side2 A15.out).mono ?_);(case side1 => exact Kd.C_below HR0_0.out (by repeat (first|(with_reducible first|exact HB.out|apply below_alloc|apply pw_below_drewN|apply below_drew1|refine below_set ?_ GE101.out|refine below_set ?_ GE102.out|refine below_set ?_ GE113.out)|exact HB.out)));(case side2 => exact HC0_0.out);rintro e w33 ⟨v115,rfl,ho0,hb⟩;refine ⟨_,rfl,?_⟩;have n0_:=Aside0.mk (Kd.R_elder' (by (with_reducible repeat (first|apply Kd.R_alloc|apply Kd.R_drewN|apply Kd.R_drew));exact (Kd.R_mono (Kd.R_far (p:=⟨gb113,2,none⟩) (Kd.R_far (p:=⟨gb113,1,none⟩) (Kd.R_far (p:=⟨gb113,0,none⟩) (Kd.R_types HO106.out BK113.out (by decide)) (fun _ hk => hk.2) (.int .i64 t110)) (fun _ hk => hk.2) (.int .i64 t111)) (fun _ hk => hk.2) (.int .i64 t112)) (fun _ h_ => h_.1))) (Kd.R_base ho0) hb);have n1_:=Aside0.mk (Kd.R_lower (Kd.R_new' ho0 (Kd.R_lt (by (with_reducible repeat (first|apply Kd.R_alloc|apply Kd.R_drewN|apply Kd.R_drew));exact (Kd.R_mono (Kd.R_far (p:=⟨gb113,2,none⟩) (Kd.R_far (p:=⟨gb113,1,none⟩) (Kd.R_far (p:=⟨gb113,0,none⟩) (Kd.R_types HO106.out BK113.out (by decide)) (fun _ hk => hk.2) (.int .i64 t110)) (fun _ hk => hk.2) (.int .i64 t111)) (fun _ hk => hk.2) (.int .i64 t112)) (fun _ h_ => h_.1))))) (below_size (by repeat (first|(with_reducible first|exact HB.out|apply below_alloc|apply pw_below_drewN|apply below_drew1|refine below_set ?_ GE101.out|refine below_set ?_ GE102.out|refine below_set ?_ GE113.out)|exact HB.out))));have n2_:=Aside0.mk (blk_below (g:=gb101) (o:=.cells #[.slice A0_0 l0_0.length c0_0] 56 (0,0)) (by (with_reducible repeat (first|refine blk_drewN ?_ _|refine blk_drew ?_|refine blk_alloc ?_ _));refine blk_far ?_ NB101_113.out _;(with_reducible repeat (first|refine blk_drewN ?_ _|refine blk_drew ?_|refine blk_alloc ?_ _));refine blk_far ?_ NB101_113.out _;(with_reducible repeat (first|refine blk_drewN ?_ _|refine blk_drew ?_|refine blk_alloc ?_ _));refine blk_far ?_ NB101_113.out _;(with_reducible repeat (first|refine blk_drewN ?_ _|refine blk_drew ?_|refine blk_alloc ?_ _));exact BK101.out) hb);have n3_:=Aside0.mk (blk_below (g:=gb102) (o:=.cells #[.int .i64 a1_0,.bool a1_1,.int .i64 a1_2] 23 (0,0)) (by (with_reducible repeat (first|refine blk_drewN ?_ _|refine blk_drew ?_|refine blk_alloc ?_ _));refine blk_far ?_ NB102_113.out _;(with_reducible repeat (first|refine blk_drewN ?_ _|refine blk_drew ?_|refine blk_alloc ?_ _));refine blk_far ?_ NB102_113.out _;(with_reducible repeat (first|refine blk_drewN ?_ _|refine blk_drew ?_|refine blk_alloc ?_ _));refine blk_far ?_ NB102_113.out _;(with_reducible repeat (first|refine blk_drewN ?_ _|refine blk_drew ?_|refine blk_alloc ?_ _));exact BK102.out) hb);have n4_:=Aside0.mk (blk_below (g:=gb113) (o:=.cells #[.int .i64 t110,.int .i64 t111,.int .i64 t112] 69 (0,0)) (by (with_reducible repeat (first|refine blk_drewN ?_ _|refine blk_drew ?_|refine blk_alloc ?_ _));refine blk_put (cs:=#[.int .i64 t110,.int .i64 t111,.int .i64 0]) ?_ 2 _ rfl;(with_reducible repeat (first|refine blk_drewN ?_ _|refine blk_drew ?_|refine blk_alloc ?_ _));refine blk_put (cs:=#[.int .i64 t110,.int .i64 0,.int .i64 0]) ?_ 1 _ rfl;(with_reducible repeat (first|refine blk_drewN ?_ _|refine blk_drew ?_|refine blk_alloc ?_ _));refine blk_put (cs:=#[.int .i64 0,.int .i64 0,.int .i64 0]) ?_ 0 _ rfl;(with_reducible repeat (first|refine blk_drewN ?_ _|refine blk_drew ?_|refine blk_alloc ?_ _));exact BK113.out) hb);have n5_:=Aside0.mk (below_step (by repeat (first|(with_reducible first|exact HB.out|apply below_alloc|apply pw_below_drewN|apply below_drew1|refine below_set ?_ GE101.out|refine below_set ?_ GE102.out|refine below_set ?_ GE113.out)|exact HB.out)) hb);clear HO106;clear BK101;clear BK102;clear BK113;clear HB;have HO106:=n0_;have HO116:=n1_;have BK101:=n2_;have BK102:=n3_;have BK113:=n4_;have HB:=n5_;clear n0_ n1_ n2_ n3_ n4_ n5_;(try clear hb);(try clear hb2);(try clear hk);(try clear hi);(try clear ho0))|((with_reducible refine gate_dst (N:=9) rfl ?_);refine box_event ?hg (N:=9) ?hd (cs:=#[.slice none 0 0]) (t:=61) ?hr ?_;(case hd => rfl);(case hg => rfl);(case hr => first|(go_simp;done)|(go_simp;rfl));intro gb117 hg w34 hbox hb;have n0_:=Aside0.mk (Kd.R_below (by (with_reducible repeat (first|apply Kd.R_alloc|apply Kd.R_drewN|apply Kd.R_drew));exact HO106.out) hb);have n1_:=Aside0.mk (Kd.R_below (by (with_reducible repeat (first|apply Kd.R_alloc|apply Kd.R_drewN|apply Kd.R_drew));exact HO116.out) hb);have n2_:=Aside0.mk (blk_below (g:=gb101) (o:=.cells #[.slice A0_0 l0_0.length c0_0] 56 (0,0)) (by (with_reducible repeat (first|refine blk_drewN ?_ _|refine blk_drew ?_|refine blk_alloc ?_ _));exact BK101.out) hb);have n3_:=Aside0.mk (blk_below (g:=gb102) (o:=.cells #[.int .i64 a1_0,.bool a1_1,.int .i64 a1_2] 23 (0,0)) (by (with_reducible repeat (first|refine blk_drewN ?_ _|refine blk_drew ?_|refine blk_alloc ?_ _));exact BK102.out) hb);have n4_:=Aside0.mk (blk_below (g:=gb113) (o:=.cells #[.int .i64 t110,.int .i64 t111,.int .i64 t112] 69 (0,0)) (by (with_reducible repeat (first|refine blk_drewN ?_ _|refine blk_drew ?_|refine blk_alloc ?_ _));exact BK113.out) hb);have n5_:=Aside0.mk (below_step (by repeat (first|(with_reducible first|exact HB.out|apply below_alloc|apply pw_below_drewN|apply below_drew1|refine below_set ?_ GE101.out|refine below_set ?_ GE102.out|refine below_set ?_ GE113.out)|exact HB.out)) hb);have n6_:=Aside0.mk (hbox);have n7_:=Aside0.mk ((by rw [hg];exact (below_size (by repeat (first|(with_reducible first|exact HB.out|apply below_alloc|apply pw_below_drewN|apply below_drew1|refine below_set ?_ GE101.out|refine below_set ?_ GE102.out|refine below_set ?_ GE113.out)|exact HB.out))) : w.heap.size ≤ gb117));have n8_:=Aside0.mk ((by rw [hg];exact (below_size (by repeat (first|(with_reducible first|exact HB.out|apply below_alloc|apply pw_below_drewN|apply below_drew1|refine below_set ?_ GE101.out|refine below_set ?_ GE102.out|refine below_set ?_ GE113.out)|exact HB.out))) : w.heap.size ≤ gb117));have n9_:=Aside0.mk ((by rw [hg];exact Nat.ne_of_lt (blk_lt (g:=gb101) (o:=.cells #[.slice A0_0 l0_0.length c0_0] 56 (0,0)) (by (with_reducible repeat (first|refine blk_drewN ?_ _|refine blk_drew ?_|refine blk_alloc ?_ _));exact BK101.out)) : gb101 ≠ gb117));have n10_:=Aside0.mk ((by rw [hg];exact Nat.ne_of_gt (blk_lt (g:=gb101) (o:=.cells #[.slice A0_0 l0_0.length c0_0] 56 (0,0)) (by (with_reducible repeat (first|refine blk_drewN ?_ _|refine blk_drew ?_|refine blk_alloc ?_ _));exact BK101.out)) : gb117 ≠ gb101));have n11_:=Aside0.mk ((by rw [hg];exact Nat.ne_of_lt (blk_lt (g:=gb102) (o:=.cells #[.int .i64 a1_0,.bool a1_1,.int .i64 a1_2] 23 (0,0)) (by (with_reducible repeat (first|refine blk_drewN ?_ _|refine blk_drew ?_|refine blk_alloc ?_ _));exact BK102.out)) : gb102 ≠ gb117));have n12_:=Aside0.mk ((by rw [hg];exact Nat.ne_of_gt (blk_lt (g:=gb102) (o:=.cells #[.int .i64 a1_0,.bool a1_1,.int .i64 a1_2] 23 (0,0)) (by (with_reducible repeat (first|refine blk_drewN ?_ _|refine blk_drew ?_|refine blk_alloc ?_ _));exact BK102.out)) : gb117 ≠ gb102));have n13_:=Aside0.mk ((by rw [hg];exact Nat.ne_of_lt (blk_lt (g:=gb113) (o:=.cells #[.int .i64 t110,.int .i64 t111,.int .i64 t112] 69 (0,0)) (by (with_reducible repeat (first|refine blk_drewN ?_ _|refine blk_drew ?_|refine blk_alloc ?_ _));exact BK113.out)) : gb113 ≠ gb117));have n14_:=Aside0.mk ((by rw [hg];exact Nat.ne_of_gt (blk_lt (g:=gb113) (o:=.cells #[.int .i64 t110,.int .i64 t111,.int .i64 t112] 69 (0,0)) (by (with_reducible repeat (first|refine blk_drewN ?_ _|refine blk_drew ?_|refine blk_alloc ?_ _));exact BK113.out)) : gb117 ≠ gb113));clear HO106;clear HO116;clear BK101;clear BK102;clear BK113;clear HB;have HO106:=n0_;have HO116:=n1_;have BK101:=n2_;have BK102:=n3_;have BK113:=n4_;have HB:=n5_;have BK117:=n6_;have GW117:=n7_;have GE117:=n8_;have NB101_117:=n9_;have NB117_101:=n10_;have NB102_117:=n11_;have NB117_102:=n12_;have NB113_117:=n13_;have NB117_113:=n14_;clear n0_ n1_ n2_ n3_ n4_ n5_ n6_ n7_ n8_ n9_ n10_ n11_ n12_ n13_ n14_;clear hb hbox hg;obtain ⟨Ao35,co35,eo35⟩:=Kd.R_slice HO116.out;subst eo35;have hnb36:=NB117_101.out;have hnc36:=NB101_117.out;have hnb37:=NB117_102.out;have hnc37:=NB102_117.out;have hnb38:=NB117_113.out;have hnc38:=NB113_117.out;have hcz39_0 : w34.cell? ⟨gb117,0,none⟩ = some (.slice none 0 0):=(blk_cell BK117.out 0).trans rfl;have hfz39_0:=blk_frozen BK117.out 0))
   have n0_ : Aside0 (Kd.R (Kd.int .u8) 5 (w34.setCell ⟨gb117,0,none⟩ (.slice Ao35 t114.length co35)) w.heap.size (fun k_ => some k_ ≠ (.slice Ao35 t114.length co35 : Value).ownBlock) v105 t104):=⟨by (with_reducible repeat (first|apply Kd.R_alloc|apply Kd.R_drewN|apply Kd.R_drew));exact Kd.R_mono (Kd.R_far (p:=⟨gb117,0,none⟩) (Kd.R_types HO106.out BK117.out (by decide)) (fun _ hk => hk.2) (.slice Ao35 t114.length co35)) (fun _ hk => hk.1.2)⟩
   have n1_ : Aside0 (Kd.R (Kd.int .u8) 5 (w34.setCell ⟨gb117,0,none⟩ (.slice Ao35 t114.length co35)) w.heap.size (fun k_ => some k_ ≠ (v105 : Value).ownBlock) (.slice Ao35 t114.length co35) t114):=⟨by (with_reducible repeat (first|apply Kd.R_alloc|apply Kd.R_drewN|apply Kd.R_drew));exact Kd.R_mono (Kd.R_far (p:=⟨gb117,0,none⟩) (Kd.R_types HO116.out BK117.out (by decide)) (fun _ hk => hk.2) (.slice Ao35 t114.length co35)) (fun _ hk => hk.1.2)⟩
   have n2_ : Aside0 ((w34.setCell ⟨gb117,0,none⟩ (.slice Ao35 t114.length co35)).heap[gb101]? = some (.cells #[.slice A0_0 l0_0.length c0_0] 56 (0,0))):=⟨by (with_reducible repeat (first|refine blk_drewN ?_ _|refine blk_drew ?_|refine blk_alloc ?_ _));refine blk_far ?_ NB101_117.out _;(with_reducible repeat (first|refine blk_drewN ?_ _|refine blk_drew ?_|refine blk_alloc ?_ _));exact BK101.out⟩
   have n3_ : Aside0 ((w34.setCell ⟨gb117,0,none⟩ (.slice Ao35 t114.length co35)).heap[gb102]? = some (.cells #[.int .i64 a1_0,.bool a1_1,.int .i64 a1_2] 23 (0,0))):=⟨by (with_reducible repeat (first|refine blk_drewN ?_ _|refine blk_drew ?_|refine blk_alloc ?_ _));refine blk_far ?_ NB102_117.out _;(with_reducible repeat (first|refine blk_drewN ?_ _|refine blk_drew ?_|refine blk_alloc ?_ _));exact BK102.out⟩
   have n4_ : Aside0 ((w34.setCell ⟨gb117,0,none⟩ (.slice Ao35 t114.length co35)).heap[gb113]? = some (.cells #[.int .i64 t110,.int .i64 t111,.int .i64 t112] 69 (0,0))):=⟨by (with_reducible repeat (first|refine blk_drewN ?_ _|refine blk_drew ?_|refine blk_alloc ?_ _));refine blk_far ?_ NB113_117.out _;(with_reducible repeat (first|refine blk_drewN ?_ _|refine blk_drew ?_|refine blk_alloc ?_ _));exact BK113.out⟩
   have n5_ : Aside0 ((w34.setCell ⟨gb117,0,none⟩ (.slice Ao35 t114.length co35)).heap[gb117]? = some (.cells #[.slice Ao35 t114.length co35] 61 (0,0))):=⟨by (with_reducible repeat (first|refine blk_drewN ?_ _|refine blk_drew ?_|refine blk_alloc ?_ _));refine blk_put (cs:=#[.slice none 0 0]) ?_ 0 _ rfl;(with_reducible repeat (first|refine blk_drewN ?_ _|refine blk_drew ?_|refine blk_alloc ?_ _));exact BK117.out⟩
   have n6_ : Aside0 (Below w.heap.size w (w34.setCell ⟨gb117,0,none⟩ (.slice Ao35 t114.length co35))):=⟨by repeat (first|(with_reducible first|exact HB.out|apply below_alloc|apply pw_below_drewN|apply below_drew1|refine below_set ?_ GE101.out|refine below_set ?_ GE102.out|refine below_set ?_ GE113.out|refine below_set ?_ GE117.out)|exact HB.out)⟩
   (try clear HO106)
   (try clear HO116)
   (try clear BK101)
   (try clear BK102)
   (try clear BK113)
   (try clear BK117)
   (try clear HB)
   generalize (w34.setCell ⟨gb117,0,none⟩ (.slice Ao35 t114.length co35)) = w40 at n0_ n1_ n2_ n3_ n4_ n5_ n6_ ⊢
   have HO106:=n0_
   have HO116:=n1_
   have BK101:=n2_
   have BK102:=n3_
   have BK113:=n4_
   have BK117:=n5_
   have HB:=n6_
   clear n0_ n1_ n2_ n3_ n4_ n5_ n6_
   have n0_:=Aside0.mk (Kd.R_drew HO106.out)
   have n1_:=Aside0.mk (Kd.R_drew HO116.out)
   have n2_:=Aside0.mk (blk_drew BK101.out)
   have n3_:=Aside0.mk (blk_drew BK102.out)
   have n4_:=Aside0.mk (blk_drew BK113.out)
   have n5_:=Aside0.mk (blk_drew BK117.out)
   have n6_:=Aside0.mk (below_drew1 HB.out)
   clear HO106
   clear HO116
   clear BK101
   clear BK102
   clear BK113
   clear BK117
   clear HB
   have HO106:=n0_
   have HO116:=n1_
   have BK101:=n2_
   have BK102:=n3_
   have BK113:=n4_
   have BK117:=n5_
   have HB:=n6_
   clear n0_ n1_ n2_ n3_ n4_ n5_ n6_
   refine start_ (n:=7) (S:=fun w' => w'.cell? ⟨gb117,0,none⟩ = some (.slice Ao35 t114.length co35) ∧ w'.cell? ⟨gb102,0,none⟩ = some (.int .i64 a1_0) ∧ w'.cell? ⟨gb102,1,none⟩ = some (.bool a1_1) ∧ w'.cell? ⟨gb102,2,none⟩ = some (.int .i64 a1_2)) (ds:=[]) #[false,false,false,false,false,false,false] (by kernel_rfl) rfl rfl ⟨(blk_cell BK117.out 0).trans rfl,(blk_cell BK102.out 0).trans rfl,(blk_cell BK102.out 1).trans rfl,(blk_cell BK102.out 2).trans rfl⟩ (fun hHeld => ?_)
   generalize w40.drew = w41 at HO106 HO116 BK101 BK102 BK113 BK117 HB hHeld ⊢
   refine pure_ (i:=3) (N:=some 27) (v:=?_) (a':=?_) #[false,false,false,true,false,false,false] rfl rfl (by kernel_rfl) (fun _ _ _ h => h) (Or.inl ⟨by rfl,?_⟩) ?_ ?_
   rotate_left
   · intro w'
     go_simp
     with_reducible rfl
   rotate_left
   · simp only [Act.put,List.setIfInBounds_toArray,List.set_cons_zero,List.set_cons_succ,i64_w,i32_w]
     rfl
   refine take_ (i:=0) (N:=some 24) (v:=?_) (a':=?_) #[true,false,false,true,false,false,false] rfl rfl (by kernel_rfl) (fun _ _ _ h => h) (Or.inl ⟨by rfl,?_⟩) hHeld ?_ ?_
   rotate_left
   · rintro w' ⟨s0,s1,s2,s3⟩
     go_simp
     with_reducible rfl
   rotate_left
   · simp only [Act.put,List.setIfInBounds_toArray,List.set_cons_zero,List.set_cons_succ,i64_w,i32_w]
     rfl
   refine take_ (i:=1) (N:=some 25) (v:=?_) (a':=?_) #[true,true,false,true,false,false,false] rfl rfl (by kernel_rfl) (fun _ _ _ h => h) (Or.inl ⟨by rfl,?_⟩) hHeld ?_ ?_
   rotate_left
   · rintro w' ⟨s0,s1,s2,s3⟩
     go_simp
     with_reducible rfl
   rotate_left
   · simp only [Act.put,List.setIfInBounds_toArray,List.set_cons_zero,List.set_cons_succ,i64_w,i32_w]
     rfl
   refine join_ (σ:=Nat) 1 #[true,true,true,true,true,true,false] (fun s_ => [(26,.agg #[.int .i64 t118,.bool t119,.int .i64 t120]),(28,.agg #[.int .i64 t121,.int .i64 t122,.int .i64 t123]),(10,.pointer (some ⟨s_,0,none⟩))]) (fun s_ w' => (w'.cell? ⟨gb117,0,none⟩ = some (.slice Ao35 t114.length co35) ∧ w'.cell? ⟨gb102,0,none⟩ = some (.int .i64 a1_0) ∧ w'.cell? ⟨gb102,1,none⟩ = some (.bool a1_1) ∧ w'.cell? ⟨gb102,2,none⟩ = some (.int .i64 a1_2)) ∧ (Kd.R (Kd.int .u8) 5 w' w.heap.size (fun k_ => some k_ ≠ (.slice Ao35 t114.length co35 : Value).ownBlock) v105 t104) ∧ (Kd.R (Kd.int .u8) 5 w' w.heap.size (fun k_ => some k_ ≠ (v105 : Value).ownBlock) (.slice Ao35 t114.length co35) t114) ∧ (w'.heap[gb101]? = some (.cells #[.slice A0_0 l0_0.length c0_0] 56 (0,0))) ∧ (w'.heap[gb102]? = some (.cells #[.int .i64 a1_0,.bool a1_1,.int .i64 a1_2] 23 (0,0))) ∧ (w'.heap[gb113]? = some (.cells #[.int .i64 t110,.int .i64 t111,.int .i64 t112] 69 (0,0))) ∧ (w'.heap[gb117]? = some (.cells #[.slice Ao35 t114.length co35] 61 (0,0))) ∧ (w'.heap[s_]? = some (.cells #[.int .i64 0,.int .i64 0,.int .i64 0] 69 (0,0))) ∧ (w.heap.size ≤ s_) ∧ (w.heap.size ≤ s_) ∧ (gb101 ≠ s_) ∧ (s_ ≠ gb101) ∧ (gb102 ≠ s_) ∧ (s_ ≠ gb102) ∧ (gb113 ≠ s_) ∧ (s_ ≠ gb113) ∧ (gb117 ≠ s_) ∧ (s_ ≠ gb117) ∧ (Below w.heap.size w w')) ?_ ?_
   rotate_left
   · intro hCont
     refine two_ (i:=2) (j:=5) (Ni:=some 26) (Nj:=some 10) #[true,true,true,true,false,false,false] #[true,true,false,true,false,true,false] rfl rfl rfl rfl (by kernel_rfl) (by decide) (by decide) (fun K hK => ?_) (fun K hK => ?_)
     · skip
       refine goes_ Try.func15 (by kernel_rfl) rfl #[.agg #[.int .i64 a1_0,.bool a1_1,.int .i64 a1_2]] (by rfl) rfl rfl (by (try simp only [List.map_toArray,List.map_cons,List.map_nil]);first|done|rfl|(simp only [List.length_drop,List.length_take];rfl)) ?_
       with_reducible refine (laws_toLayout.calls a1_0 a1_1 a1_2 t118 t119 t120 _ A16.out).mono ?_
       rintro e w42 ⟨rfl,hb⟩
       refine ⟨_,rfl,?_⟩
       have n0_:=Aside0.mk (Kd.R_below (by (with_reducible repeat (first|apply Kd.R_alloc|apply Kd.R_drewN|apply Kd.R_drew));exact HO106.out) hb)
       have n1_:=Aside0.mk (Kd.R_below (by (with_reducible repeat (first|apply Kd.R_alloc|apply Kd.R_drewN|apply Kd.R_drew));exact HO116.out) hb)
       have n2_:=Aside0.mk (blk_below (g:=gb101) (o:=.cells #[.slice A0_0 l0_0.length c0_0] 56 (0,0)) (by (with_reducible repeat (first|refine blk_drewN ?_ _|refine blk_drew ?_|refine blk_alloc ?_ _));exact BK101.out) hb)
       have n3_:=Aside0.mk (blk_below (g:=gb102) (o:=.cells #[.int .i64 a1_0,.bool a1_1,.int .i64 a1_2] 23 (0,0)) (by (with_reducible repeat (first|refine blk_drewN ?_ _|refine blk_drew ?_|refine blk_alloc ?_ _));exact BK102.out) hb)
       have n4_:=Aside0.mk (blk_below (g:=gb113) (o:=.cells #[.int .i64 t110,.int .i64 t111,.int .i64 t112] 69 (0,0)) (by (with_reducible repeat (first|refine blk_drewN ?_ _|refine blk_drew ?_|refine blk_alloc ?_ _));exact BK113.out) hb)
       have n5_:=Aside0.mk (blk_below (g:=gb117) (o:=.cells #[.slice Ao35 t114.length co35] 61 (0,0)) (by (with_reducible repeat (first|refine blk_drewN ?_ _|refine blk_drew ?_|refine blk_alloc ?_ _));exact BK117.out) hb)
       have n6_:=Aside0.mk (below_step (by repeat (first|(with_reducible first|exact HB.out|apply below_alloc|apply pw_below_drewN|apply below_drew1|refine below_set ?_ GE101.out|refine below_set ?_ GE102.out|refine below_set ?_ GE113.out|refine below_set ?_ GE117.out)|exact HB.out)) hb)
       clear HO106
       clear HO116
       clear BK101
       clear BK102
       clear BK113
       clear BK117
       clear HB
       have HO106:=n0_
       have HO116:=n1_
       have BK101:=n2_
       have BK102:=n3_
       have BK113:=n4_
       have BK117:=n5_
       have HB:=n6_
       clear n0_ n1_ n2_ n3_ n4_ n5_ n6_
       (try clear hb)
       (try clear hb2)
       (try clear hk)
       (try clear hi)
       refine hK.out _ _ ⟨(blk_cell BK117.out 0).trans rfl,(blk_cell BK102.out 0).trans rfl,(blk_cell BK102.out 1).trans rfl,(blk_cell BK102.out 2).trans rfl⟩ (fun hHeld => ?_)
       clear hK K
       refine norm_ (a':=?_) ?_ ?_
       rotate_left
       · show Act.put _ (some 26) _ = _
         simp only [Act.put,List.setIfInBounds_toArray,List.set_cons_zero,List.set_cons_succ,i64_w,i32_w]
         rfl
       refine two_ (i:=4) (j:=5) (Ni:=some 28) (Nj:=some 10) #[true,true,true,true,true,false,false] #[true,true,true,true,false,true,false] rfl rfl rfl rfl (by kernel_rfl) (by decide) (by decide) (fun K hK => ?_) (fun K hK => ?_)
       · skip
         refine goes_ Try.func46 (by kernel_rfl) rfl #[.agg #[.slice Ao35 t114.length co35],.agg #[.int .i64 t118,.bool t119,.int .i64 t120],.int .i64 a2] (by rfl) rfl rfl (by (try simp only [List.map_toArray,List.map_cons,List.map_nil]);first|done|rfl|(simp only [List.length_drop,List.length_take];rfl)) ?_
         with_reducible refine (impl_LastTop.calls k _ _ t114 t118 t119 t120 a2 t121 t122 t123 _ ?side1 ?side2 A17.out).mono ?_
         (case side1 => repeat (first|exact (Kd.R_reads' HO116.out).2.2|(with_reducible refine Kd.C_alloc ?_ _)|(with_reducible refine Kd.C_drewN ?_ _)|(with_reducible refine Kd.C_drew ?_)))
         (case side2 => exact (Kd.R_reads' HO116.out).2.1)
         rintro e w43 ⟨rfl,hb⟩
         refine ⟨_,rfl,?_⟩
         have n0_:=Aside0.mk (Kd.R_below (by (with_reducible repeat (first|apply Kd.R_alloc|apply Kd.R_drewN|apply Kd.R_drew));exact HO106.out) hb)
         have n1_:=Aside0.mk (Kd.R_below (by (with_reducible repeat (first|apply Kd.R_alloc|apply Kd.R_drewN|apply Kd.R_drew));exact HO116.out) hb)
         have n2_:=Aside0.mk (blk_below (g:=gb101) (o:=.cells #[.slice A0_0 l0_0.length c0_0] 56 (0,0)) (by (with_reducible repeat (first|refine blk_drewN ?_ _|refine blk_drew ?_|refine blk_alloc ?_ _));exact BK101.out) hb)
         have n3_:=Aside0.mk (blk_below (g:=gb102) (o:=.cells #[.int .i64 a1_0,.bool a1_1,.int .i64 a1_2] 23 (0,0)) (by (with_reducible repeat (first|refine blk_drewN ?_ _|refine blk_drew ?_|refine blk_alloc ?_ _));exact BK102.out) hb)
         have n4_:=Aside0.mk (blk_below (g:=gb113) (o:=.cells #[.int .i64 t110,.int .i64 t111,.int .i64 t112] 69 (0,0)) (by (with_reducible repeat (first|refine blk_drewN ?_ _|refine blk_drew ?_|refine blk_alloc ?_ _));exact BK113.out) hb)
         have n5_:=Aside0.mk (blk_below (g:=gb117) (o:=.cells #[.slice Ao35 t114.length co35] 61 (0,0)) (by (with_reducible repeat (first|refine blk_drewN ?_ _|refine blk_drew ?_|refine blk_alloc ?_ _));exact BK117.out) hb)
         have n6_:=Aside0.mk (below_step (by repeat (first|(with_reducible first|exact HB.out|apply below_alloc|apply pw_below_drewN|apply below_drew1|refine below_set ?_ GE101.out|refine below_set ?_ GE102.out|refine below_set ?_ GE113.out|refine below_set ?_ GE117.out)|exact HB.out)) hb)
         clear HO106
         clear HO116
         clear BK101
         clear BK102
         clear BK113
         clear BK117
         clear HB
         have HO106:=n0_
         have HO116:=n1_
         have BK101:=n2_
         have BK102:=n3_
         have BK113:=n4_
         have BK117:=n5_
         have HB:=n6_
         clear n0_ n1_ n2_ n3_ n4_ n5_ n6_
         (try clear hb)
         (try clear hb2)
         (try clear hk)
         (try clear hi)
         refine hK.out _ _ ⟨(blk_cell BK117.out 0).trans rfl,(blk_cell BK102.out 0).trans rfl,(blk_cell BK102.out 1).trans rfl,(blk_cell BK102.out 2).trans rfl⟩ (fun hHeld => ?_)
         clear hK K
         refine norm_ (a':=?_) ?_ ?_
         rotate_left
         · show Act.put _ (some 28) _ = _
           simp only [Act.put,List.setIfInBounds_toArray,List.set_cons_zero,List.set_cons_succ,i64_w,i32_w]
           rfl
         refine one_ (i:=5) (N:=some 10) #[true,true,true,true,true,true,false] rfl rfl (by kernel_rfl) (by decide) (fun K hK => ?_)
         refine box_step ?hg (N:=10) ?hd (cs:=#[.int .i64 0,.int .i64 0,.int .i64 0]) (t:=69) ?hr ?_;(case hd => rfl);(case hg => rfl);(case hr => first|(go_simp;done)|(go_simp;rfl))
         intro gb124 hg w44 hbox hb
         have n0_:=Aside0.mk (Kd.R_below (by (with_reducible repeat (first|apply Kd.R_alloc|apply Kd.R_drewN|apply Kd.R_drew));exact HO106.out) hb)
         have n1_:=Aside0.mk (Kd.R_below (by (with_reducible repeat (first|apply Kd.R_alloc|apply Kd.R_drewN|apply Kd.R_drew));exact HO116.out) hb)
         have n2_:=Aside0.mk (blk_below (g:=gb101) (o:=.cells #[.slice A0_0 l0_0.length c0_0] 56 (0,0)) (by (with_reducible repeat (first|refine blk_drewN ?_ _|refine blk_drew ?_|refine blk_alloc ?_ _));exact BK101.out) hb)
         have n3_:=Aside0.mk (blk_below (g:=gb102) (o:=.cells #[.int .i64 a1_0,.bool a1_1,.int .i64 a1_2] 23 (0,0)) (by (with_reducible repeat (first|refine blk_drewN ?_ _|refine blk_drew ?_|refine blk_alloc ?_ _));exact BK102.out) hb)
         have n4_:=Aside0.mk (blk_below (g:=gb113) (o:=.cells #[.int .i64 t110,.int .i64 t111,.int .i64 t112] 69 (0,0)) (by (with_reducible repeat (first|refine blk_drewN ?_ _|refine blk_drew ?_|refine blk_alloc ?_ _));exact BK113.out) hb)
         have n5_:=Aside0.mk (blk_below (g:=gb117) (o:=.cells #[.slice Ao35 t114.length co35] 61 (0,0)) (by (with_reducible repeat (first|refine blk_drewN ?_ _|refine blk_drew ?_|refine blk_alloc ?_ _));exact BK117.out) hb)
         have n6_:=Aside0.mk (below_step (by repeat (first|(with_reducible first|exact HB.out|apply below_alloc|apply pw_below_drewN|apply below_drew1|refine below_set ?_ GE101.out|refine below_set ?_ GE102.out|refine below_set ?_ GE113.out|refine below_set ?_ GE117.out)|exact HB.out)) hb)
         have n7_:=Aside0.mk (hbox)
         have n8_:=Aside0.mk ((by rw [hg];exact (below_size (by repeat (first|(with_reducible first|exact HB.out|apply below_alloc|apply pw_below_drewN|apply below_drew1|refine below_set ?_ GE101.out|refine below_set ?_ GE102.out|refine below_set ?_ GE113.out|refine below_set ?_ GE117.out)|exact HB.out))) : w.heap.size ≤ gb124))
         have n9_:=Aside0.mk ((by rw [hg];exact (below_size (by repeat (first|(with_reducible first|exact HB.out|apply below_alloc|apply pw_below_drewN|apply below_drew1|refine below_set ?_ GE101.out|refine below_set ?_ GE102.out|refine below_set ?_ GE113.out|refine below_set ?_ GE117.out)|exact HB.out))) : w.heap.size ≤ gb124))
         have n10_:=Aside0.mk ((by rw [hg];exact Nat.ne_of_lt (blk_lt (g:=gb101) (o:=.cells #[.slice A0_0 l0_0.length c0_0] 56 (0,0)) (by (with_reducible repeat (first|refine blk_drewN ?_ _|refine blk_drew ?_|refine blk_alloc ?_ _));exact BK101.out)) : gb101 ≠ gb124))
         have n11_:=Aside0.mk ((by rw [hg];exact Nat.ne_of_gt (blk_lt (g:=gb101) (o:=.cells #[.slice A0_0 l0_0.length c0_0] 56 (0,0)) (by (with_reducible repeat (first|refine blk_drewN ?_ _|refine blk_drew ?_|refine blk_alloc ?_ _));exact BK101.out)) : gb124 ≠ gb101))
         have n12_:=Aside0.mk ((by rw [hg];exact Nat.ne_of_lt (blk_lt (g:=gb102) (o:=.cells #[.int .i64 a1_0,.bool a1_1,.int .i64 a1_2] 23 (0,0)) (by (with_reducible repeat (first|refine blk_drewN ?_ _|refine blk_drew ?_|refine blk_alloc ?_ _));exact BK102.out)) : gb102 ≠ gb124))
         have n13_:=Aside0.mk ((by rw [hg];exact Nat.ne_of_gt (blk_lt (g:=gb102) (o:=.cells #[.int .i64 a1_0,.bool a1_1,.int .i64 a1_2] 23 (0,0)) (by (with_reducible repeat (first|refine blk_drewN ?_ _|refine blk_drew ?_|refine blk_alloc ?_ _));exact BK102.out)) : gb124 ≠ gb102))
         have n14_:=Aside0.mk ((by rw [hg];exact Nat.ne_of_lt (blk_lt (g:=gb113) (o:=.cells #[.int .i64 t110,.int .i64 t111,.int .i64 t112] 69 (0,0)) (by (with_reducible repeat (first|refine blk_drewN ?_ _|refine blk_drew ?_|refine blk_alloc ?_ _));exact BK113.out)) : gb113 ≠ gb124))
         have n15_:=Aside0.mk ((by rw [hg];exact Nat.ne_of_gt (blk_lt (g:=gb113) (o:=.cells #[.int .i64 t110,.int .i64 t111,.int .i64 t112] 69 (0,0)) (by (with_reducible repeat (first|refine blk_drewN ?_ _|refine blk_drew ?_|refine blk_alloc ?_ _));exact BK113.out)) : gb124 ≠ gb113))
         have n16_:=Aside0.mk ((by rw [hg];exact Nat.ne_of_lt (blk_lt (g:=gb117) (o:=.cells #[.slice Ao35 t114.length co35] 61 (0,0)) (by (with_reducible repeat (first|refine blk_drewN ?_ _|refine blk_drew ?_|refine blk_alloc ?_ _));exact BK117.out)) : gb117 ≠ gb124))
         have n17_:=Aside0.mk ((by rw [hg];exact Nat.ne_of_gt (blk_lt (g:=gb117) (o:=.cells #[.slice Ao35 t114.length co35] 61 (0,0)) (by (with_reducible repeat (first|refine blk_drewN ?_ _|refine blk_drew ?_|refine blk_alloc ?_ _));exact BK117.out)) : gb124 ≠ gb117))
         clear HO106
         clear HO116
         clear BK101
         clear BK102
         clear BK113
         clear BK117
         clear HB
         have HO106:=n0_
         have HO116:=n1_
         have BK101:=n2_
         have BK102:=n3_
         have BK113:=n4_
         have BK117:=n5_
         have HB:=n6_
         have BK124:=n7_
         have GW124:=n8_
         have GE124:=n9_
         have NB101_124:=n10_
         have NB124_101:=n11_
         have NB102_124:=n12_
         have NB124_102:=n13_
         have NB113_124:=n14_
         have NB124_113:=n15_
         have NB117_124:=n16_
         have NB124_117:=n17_
         clear n0_ n1_ n2_ n3_ n4_ n5_ n6_ n7_ n8_ n9_ n10_ n11_ n12_ n13_ n14_ n15_ n16_ n17_
         clear hb hbox hg
         refine hK.out _ _ ⟨(blk_cell BK117.out 0).trans rfl,(blk_cell BK102.out 0).trans rfl,(blk_cell BK102.out 1).trans rfl,(blk_cell BK102.out 2).trans rfl⟩ (fun hHeld => ?_)
         clear hK K
         refine norm_ (a':=?_) ?_ ?_
         rotate_left
         · show Act.put _ (some 10) _ = _
           simp only [Act.put,List.setIfInBounds_toArray,List.set_cons_zero,List.set_cons_succ,i64_w,i32_w]
           rfl
         exact norm_ (by simp only [putAll,Act.put,List.setIfInBounds_toArray,List.set_cons_zero,List.set_cons_succ]) (hCont (gb124) _ ⟨hHeld,(by (with_reducible repeat (first|apply Kd.R_alloc|apply Kd.R_drewN|apply Kd.R_drew));exact HO106.out),(by (with_reducible repeat (first|apply Kd.R_alloc|apply Kd.R_drewN|apply Kd.R_drew));exact HO116.out),(by (with_reducible repeat (first|refine blk_drewN ?_ _|refine blk_drew ?_|refine blk_alloc ?_ _));exact BK101.out),(by (with_reducible repeat (first|refine blk_drewN ?_ _|refine blk_drew ?_|refine blk_alloc ?_ _));exact BK102.out),(by (with_reducible repeat (first|refine blk_drewN ?_ _|refine blk_drew ?_|refine blk_alloc ?_ _));exact BK113.out),(by (with_reducible repeat (first|refine blk_drewN ?_ _|refine blk_drew ?_|refine blk_alloc ?_ _));exact BK117.out),(by (with_reducible repeat (first|refine blk_drewN ?_ _|refine blk_drew ?_|refine blk_alloc ?_ _));exact BK124.out),GW124.out,GE124.out,NB101_124.out,NB124_101.out,NB102_124.out,NB124_102.out,NB113_124.out,NB124_113.out,NB117_124.out,NB124_117.out,(by repeat (first|(with_reducible first|exact HB.out|apply below_alloc|apply pw_below_drewN|apply below_drew1|refine below_set ?_ GE101.out|refine below_set ?_ GE102.out|refine below_set ?_ GE113.out|refine below_set ?_ GE117.out|refine below_set ?_ GE124.out)|exact HB.out))⟩)
       · skip
         refine box_step ?hg (N:=10) ?hd (cs:=#[.int .i64 0,.int .i64 0,.int .i64 0]) (t:=69) ?hr ?_;(case hd => rfl);(case hg => rfl);(case hr => first|(go_simp;done)|(go_simp;rfl))
         intro gb124 hg w43 hbox hb
         have n0_:=Aside0.mk (Kd.R_below (by (with_reducible repeat (first|apply Kd.R_alloc|apply Kd.R_drewN|apply Kd.R_drew));exact HO106.out) hb)
         have n1_:=Aside0.mk (Kd.R_below (by (with_reducible repeat (first|apply Kd.R_alloc|apply Kd.R_drewN|apply Kd.R_drew));exact HO116.out) hb)
         have n2_:=Aside0.mk (blk_below (g:=gb101) (o:=.cells #[.slice A0_0 l0_0.length c0_0] 56 (0,0)) (by (with_reducible repeat (first|refine blk_drewN ?_ _|refine blk_drew ?_|refine blk_alloc ?_ _));exact BK101.out) hb)
         have n3_:=Aside0.mk (blk_below (g:=gb102) (o:=.cells #[.int .i64 a1_0,.bool a1_1,.int .i64 a1_2] 23 (0,0)) (by (with_reducible repeat (first|refine blk_drewN ?_ _|refine blk_drew ?_|refine blk_alloc ?_ _));exact BK102.out) hb)
         have n4_:=Aside0.mk (blk_below (g:=gb113) (o:=.cells #[.int .i64 t110,.int .i64 t111,.int .i64 t112] 69 (0,0)) (by (with_reducible repeat (first|refine blk_drewN ?_ _|refine blk_drew ?_|refine blk_alloc ?_ _));exact BK113.out) hb)
         have n5_:=Aside0.mk (blk_below (g:=gb117) (o:=.cells #[.slice Ao35 t114.length co35] 61 (0,0)) (by (with_reducible repeat (first|refine blk_drewN ?_ _|refine blk_drew ?_|refine blk_alloc ?_ _));exact BK117.out) hb)
         have n6_:=Aside0.mk (below_step (by repeat (first|(with_reducible first|exact HB.out|apply below_alloc|apply pw_below_drewN|apply below_drew1|refine below_set ?_ GE101.out|refine below_set ?_ GE102.out|refine below_set ?_ GE113.out|refine below_set ?_ GE117.out)|exact HB.out)) hb)
         have n7_:=Aside0.mk (hbox)
         have n8_:=Aside0.mk ((by rw [hg];exact (below_size (by repeat (first|(with_reducible first|exact HB.out|apply below_alloc|apply pw_below_drewN|apply below_drew1|refine below_set ?_ GE101.out|refine below_set ?_ GE102.out|refine below_set ?_ GE113.out|refine below_set ?_ GE117.out)|exact HB.out))) : w.heap.size ≤ gb124))
         have n9_:=Aside0.mk ((by rw [hg];exact (below_size (by repeat (first|(with_reducible first|exact HB.out|apply below_alloc|apply pw_below_drewN|apply below_drew1|refine below_set ?_ GE101.out|refine below_set ?_ GE102.out|refine below_set ?_ GE113.out|refine below_set ?_ GE117.out)|exact HB.out))) : w.heap.size ≤ gb124))
         have n10_:=Aside0.mk ((by rw [hg];exact Nat.ne_of_lt (blk_lt (g:=gb101) (o:=.cells #[.slice A0_0 l0_0.length c0_0] 56 (0,0)) (by (with_reducible repeat (first|refine blk_drewN ?_ _|refine blk_drew ?_|refine blk_alloc ?_ _));exact BK101.out)) : gb101 ≠ gb124))
         have n11_:=Aside0.mk ((by rw [hg];exact Nat.ne_of_gt (blk_lt (g:=gb101) (o:=.cells #[.slice A0_0 l0_0.length c0_0] 56 (0,0)) (by (with_reducible repeat (first|refine blk_drewN ?_ _|refine blk_drew ?_|refine blk_alloc ?_ _));exact BK101.out)) : gb124 ≠ gb101))
         have n12_:=Aside0.mk ((by rw [hg];exact Nat.ne_of_lt (blk_lt (g:=gb102) (o:=.cells #[.int .i64 a1_0,.bool a1_1,.int .i64 a1_2] 23 (0,0)) (by (with_reducible repeat (first|refine blk_drewN ?_ _|refine blk_drew ?_|refine blk_alloc ?_ _));exact BK102.out)) : gb102 ≠ gb124))
         have n13_:=Aside0.mk ((by rw [hg];exact Nat.ne_of_gt (blk_lt (g:=gb102) (o:=.cells #[.int .i64 a1_0,.bool a1_1,.int .i64 a1_2] 23 (0,0)) (by (with_reducible repeat (first|refine blk_drewN ?_ _|refine blk_drew ?_|refine blk_alloc ?_ _));exact BK102.out)) : gb124 ≠ gb102))
         have n14_:=Aside0.mk ((by rw [hg];exact Nat.ne_of_lt (blk_lt (g:=gb113) (o:=.cells #[.int .i64 t110,.int .i64 t111,.int .i64 t112] 69 (0,0)) (by (with_reducible repeat (first|refine blk_drewN ?_ _|refine blk_drew ?_|refine blk_alloc ?_ _));exact BK113.out)) : gb113 ≠ gb124))
         have n15_:=Aside0.mk ((by rw [hg];exact Nat.ne_of_gt (blk_lt (g:=gb113) (o:=.cells #[.int .i64 t110,.int .i64 t111,.int .i64 t112] 69 (0,0)) (by (with_reducible repeat (first|refine blk_drewN ?_ _|refine blk_drew ?_|refine blk_alloc ?_ _));exact BK113.out)) : gb124 ≠ gb113))
         have n16_:=Aside0.mk ((by rw [hg];exact Nat.ne_of_lt (blk_lt (g:=gb117) (o:=.cells #[.slice Ao35 t114.length co35] 61 (0,0)) (by (with_reducible repeat (first|refine blk_drewN ?_ _|refine blk_drew ?_|refine blk_alloc ?_ _));exact BK117.out)) : gb117 ≠ gb124))
         have n17_:=Aside0.mk ((by rw [hg];exact Nat.ne_of_gt (blk_lt (g:=gb117) (o:=.cells #[.slice Ao35 t114.length co35] 61 (0,0)) (by (with_reducible repeat (first|refine blk_drewN ?_ _|refine blk_drew ?_|refine blk_alloc ?_ _));exact BK117.out)) : gb124 ≠ gb117))
         clear HO106
         clear HO116
         clear BK101
         clear BK102
         clear BK113
         clear BK117
         clear HB
         have HO106:=n0_
         have HO116:=n1_
         have BK101:=n2_
         have BK102:=n3_
         have BK113:=n4_
         have BK117:=n5_
         have HB:=n6_
         have BK124:=n7_
         have GW124:=n8_
         have GE124:=n9_
         have NB101_124:=n10_
         have NB124_101:=n11_
         have NB102_124:=n12_
         have NB124_102:=n13_
         have NB113_124:=n14_
         have NB124_113:=n15_
         have NB117_124:=n16_
         have NB124_117:=n17_
         clear n0_ n1_ n2_ n3_ n4_ n5_ n6_ n7_ n8_ n9_ n10_ n11_ n12_ n13_ n14_ n15_ n16_ n17_
         clear hb hbox hg
         refine hK.out _ _ ⟨(blk_cell BK117.out 0).trans rfl,(blk_cell BK102.out 0).trans rfl,(blk_cell BK102.out 1).trans rfl,(blk_cell BK102.out 2).trans rfl⟩ (fun hHeld => ?_)
         clear hK K
         refine norm_ (a':=?_) ?_ ?_
         rotate_left
         · show Act.put _ (some 10) _ = _
           simp only [Act.put,List.setIfInBounds_toArray,List.set_cons_zero,List.set_cons_succ,i64_w,i32_w]
           rfl
         refine one_ (i:=4) (N:=some 28) #[true,true,true,true,true,true,false] rfl rfl (by kernel_rfl) (by decide) (fun K hK => ?_)
         refine goes_ Try.func46 (by kernel_rfl) rfl #[.agg #[.slice Ao35 t114.length co35],.agg #[.int .i64 t118,.bool t119,.int .i64 t120],.int .i64 a2] (by rfl) rfl rfl (by (try simp only [List.map_toArray,List.map_cons,List.map_nil]);first|done|rfl|(simp only [List.length_drop,List.length_take];rfl)) ?_
         with_reducible refine (impl_LastTop.calls k _ _ t114 t118 t119 t120 a2 t121 t122 t123 _ ?side1 ?side2 A17.out).mono ?_
         (case side1 => repeat (first|exact (Kd.R_reads' HO116.out).2.2|(with_reducible refine Kd.C_alloc ?_ _)|(with_reducible refine Kd.C_drewN ?_ _)|(with_reducible refine Kd.C_drew ?_)))
         (case side2 => exact (Kd.R_reads' HO116.out).2.1)
         rintro e w44 ⟨rfl,hb⟩
         refine ⟨_,rfl,?_⟩
         have n0_:=Aside0.mk (Kd.R_below (by (with_reducible repeat (first|apply Kd.R_alloc|apply Kd.R_drewN|apply Kd.R_drew));exact HO106.out) hb)
         have n1_:=Aside0.mk (Kd.R_below (by (with_reducible repeat (first|apply Kd.R_alloc|apply Kd.R_drewN|apply Kd.R_drew));exact HO116.out) hb)
         have n2_:=Aside0.mk (blk_below (g:=gb101) (o:=.cells #[.slice A0_0 l0_0.length c0_0] 56 (0,0)) (by (with_reducible repeat (first|refine blk_drewN ?_ _|refine blk_drew ?_|refine blk_alloc ?_ _));exact BK101.out) hb)
         have n3_:=Aside0.mk (blk_below (g:=gb102) (o:=.cells #[.int .i64 a1_0,.bool a1_1,.int .i64 a1_2] 23 (0,0)) (by (with_reducible repeat (first|refine blk_drewN ?_ _|refine blk_drew ?_|refine blk_alloc ?_ _));exact BK102.out) hb)
         have n4_:=Aside0.mk (blk_below (g:=gb113) (o:=.cells #[.int .i64 t110,.int .i64 t111,.int .i64 t112] 69 (0,0)) (by (with_reducible repeat (first|refine blk_drewN ?_ _|refine blk_drew ?_|refine blk_alloc ?_ _));exact BK113.out) hb)
         have n5_:=Aside0.mk (blk_below (g:=gb117) (o:=.cells #[.slice Ao35 t114.length co35] 61 (0,0)) (by (with_reducible repeat (first|refine blk_drewN ?_ _|refine blk_drew ?_|refine blk_alloc ?_ _));exact BK117.out) hb)
         have n6_:=Aside0.mk (blk_below (g:=gb124) (o:=.cells #[.int .i64 0,.int .i64 0,.int .i64 0] 69 (0,0)) (by (with_reducible repeat (first|refine blk_drewN ?_ _|refine blk_drew ?_|refine blk_alloc ?_ _));exact BK124.out) hb)
         have n7_:=Aside0.mk (below_step (by repeat (first|(with_reducible first|exact HB.out|apply below_alloc|apply pw_below_drewN|apply below_drew1|refine below_set ?_ GE101.out|refine below_set ?_ GE102.out|refine below_set ?_ GE113.out|refine below_set ?_ GE117.out|refine below_set ?_ GE124.out)|exact HB.out)) hb)
         clear HO106
         clear HO116
         clear BK101
         clear BK102
         clear BK113
         clear BK117
         clear BK124
         clear HB
         have HO106:=n0_
         have HO116:=n1_
         have BK101:=n2_
         have BK102:=n3_
         have BK113:=n4_
         have BK117:=n5_
         have BK124:=n6_
         have HB:=n7_
         clear n0_ n1_ n2_ n3_ n4_ n5_ n6_ n7_
         (try clear hb)
         (try clear hb2)
         (try clear hk)
         (try clear hi)
         refine hK.out _ _ ⟨(blk_cell BK117.out 0).trans rfl,(blk_cell BK102.out 0).trans rfl,(blk_cell BK102.out 1).trans rfl,(blk_cell BK102.out 2).trans rfl⟩ (fun hHeld => ?_)
         clear hK K
         refine norm_ (a':=?_) ?_ ?_
         rotate_left
         · show Act.put _ (some 28) _ = _
           simp only [Act.put,List.setIfInBounds_toArray,List.set_cons_zero,List.set_cons_succ,i64_w,i32_w]
           rfl
         exact norm_ (by simp only [putAll,Act.put,List.setIfInBounds_toArray,List.set_cons_zero,List.set_cons_succ]) (hCont (gb124) _ ⟨hHeld,(by (with_reducible repeat (first|apply Kd.R_alloc|apply Kd.R_drewN|apply Kd.R_drew));exact HO106.out),(by (with_reducible repeat (first|apply Kd.R_alloc|apply Kd.R_drewN|apply Kd.R_drew));exact HO116.out),(by (with_reducible repeat (first|refine blk_drewN ?_ _|refine blk_drew ?_|refine blk_alloc ?_ _));exact BK101.out),(by (with_reducible repeat (first|refine blk_drewN ?_ _|refine blk_drew ?_|refine blk_alloc ?_ _));exact BK102.out),(by (with_reducible repeat (first|refine blk_drewN ?_ _|refine blk_drew ?_|refine blk_alloc ?_ _));exact BK113.out),(by (with_reducible repeat (first|refine blk_drewN ?_ _|refine blk_drew ?_|refine blk_alloc ?_ _));exact BK117.out),(by (with_reducible repeat (first|refine blk_drewN ?_ _|refine blk_drew ?_|refine blk_alloc ?_ _));exact BK124.out),GW124.out,GE124.out,NB101_124.out,NB124_101.out,NB102_124.out,NB124_102.out,NB113_124.out,NB124_113.out,NB117_124.out,NB124_117.out,(by repeat (first|(with_reducible first|exact HB.out|apply below_alloc|apply pw_below_drewN|apply below_drew1|refine below_set ?_ GE101.out|refine below_set ?_ GE102.out|refine below_set ?_ GE113.out|refine below_set ?_ GE117.out|refine below_set ?_ GE124.out)|exact HB.out))⟩)
     · skip
       refine box_step ?hg (N:=10) ?hd (cs:=#[.int .i64 0,.int .i64 0,.int .i64 0]) (t:=69) ?hr ?_;(case hd => rfl);(case hg => rfl);(case hr => first|(go_simp;done)|(go_simp;rfl))
       intro gb124 hg w42 hbox hb
       have n0_:=Aside0.mk (Kd.R_below (by (with_reducible repeat (first|apply Kd.R_alloc|apply Kd.R_drewN|apply Kd.R_drew));exact HO106.out) hb)
       have n1_:=Aside0.mk (Kd.R_below (by (with_reducible repeat (first|apply Kd.R_alloc|apply Kd.R_drewN|apply Kd.R_drew));exact HO116.out) hb)
       have n2_:=Aside0.mk (blk_below (g:=gb101) (o:=.cells #[.slice A0_0 l0_0.length c0_0] 56 (0,0)) (by (with_reducible repeat (first|refine blk_drewN ?_ _|refine blk_drew ?_|refine blk_alloc ?_ _));exact BK101.out) hb)
       have n3_:=Aside0.mk (blk_below (g:=gb102) (o:=.cells #[.int .i64 a1_0,.bool a1_1,.int .i64 a1_2] 23 (0,0)) (by (with_reducible repeat (first|refine blk_drewN ?_ _|refine blk_drew ?_|refine blk_alloc ?_ _));exact BK102.out) hb)
       have n4_:=Aside0.mk (blk_below (g:=gb113) (o:=.cells #[.int .i64 t110,.int .i64 t111,.int .i64 t112] 69 (0,0)) (by (with_reducible repeat (first|refine blk_drewN ?_ _|refine blk_drew ?_|refine blk_alloc ?_ _));exact BK113.out) hb)
       have n5_:=Aside0.mk (blk_below (g:=gb117) (o:=.cells #[.slice Ao35 t114.length co35] 61 (0,0)) (by (with_reducible repeat (first|refine blk_drewN ?_ _|refine blk_drew ?_|refine blk_alloc ?_ _));exact BK117.out) hb)
       have n6_:=Aside0.mk (below_step (by repeat (first|(with_reducible first|exact HB.out|apply below_alloc|apply pw_below_drewN|apply below_drew1|refine below_set ?_ GE101.out|refine below_set ?_ GE102.out|refine below_set ?_ GE113.out|refine below_set ?_ GE117.out)|exact HB.out)) hb)
       have n7_:=Aside0.mk (hbox)
       have n8_:=Aside0.mk ((by rw [hg];exact (below_size (by repeat (first|(with_reducible first|exact HB.out|apply below_alloc|apply pw_below_drewN|apply below_drew1|refine below_set ?_ GE101.out|refine below_set ?_ GE102.out|refine below_set ?_ GE113.out|refine below_set ?_ GE117.out)|exact HB.out))) : w.heap.size ≤ gb124))
       have n9_:=Aside0.mk ((by rw [hg];exact (below_size (by repeat (first|(with_reducible first|exact HB.out|apply below_alloc|apply pw_below_drewN|apply below_drew1|refine below_set ?_ GE101.out|refine below_set ?_ GE102.out|refine below_set ?_ GE113.out|refine below_set ?_ GE117.out)|exact HB.out))) : w.heap.size ≤ gb124))
       have n10_:=Aside0.mk ((by rw [hg];exact Nat.ne_of_lt (blk_lt (g:=gb101) (o:=.cells #[.slice A0_0 l0_0.length c0_0] 56 (0,0)) (by (with_reducible repeat (first|refine blk_drewN ?_ _|refine blk_drew ?_|refine blk_alloc ?_ _));exact BK101.out)) : gb101 ≠ gb124))
       have n11_:=Aside0.mk ((by rw [hg];exact Nat.ne_of_gt (blk_lt (g:=gb101) (o:=.cells #[.slice A0_0 l0_0.length c0_0] 56 (0,0)) (by (with_reducible repeat (first|refine blk_drewN ?_ _|refine blk_drew ?_|refine blk_alloc ?_ _));exact BK101.out)) : gb124 ≠ gb101))
       have n12_:=Aside0.mk ((by rw [hg];exact Nat.ne_of_lt (blk_lt (g:=gb102) (o:=.cells #[.int .i64 a1_0,.bool a1_1,.int .i64 a1_2] 23 (0,0)) (by (with_reducible repeat (first|refine blk_drewN ?_ _|refine blk_drew ?_|refine blk_alloc ?_ _));exact BK102.out)) : gb102 ≠ gb124))
       have n13_:=Aside0.mk ((by rw [hg];exact Nat.ne_of_gt (blk_lt (g:=gb102) (o:=.cells #[.int .i64 a1_0,.bool a1_1,.int .i64 a1_2] 23 (0,0)) (by (with_reducible repeat (first|refine blk_drewN ?_ _|refine blk_drew ?_|refine blk_alloc ?_ _));exact BK102.out)) : gb124 ≠ gb102))
       have n14_:=Aside0.mk ((by rw [hg];exact Nat.ne_of_lt (blk_lt (g:=gb113) (o:=.cells #[.int .i64 t110,.int .i64 t111,.int .i64 t112] 69 (0,0)) (by (with_reducible repeat (first|refine blk_drewN ?_ _|refine blk_drew ?_|refine blk_alloc ?_ _));exact BK113.out)) : gb113 ≠ gb124))
       have n15_:=Aside0.mk ((by rw [hg];exact Nat.ne_of_gt (blk_lt (g:=gb113) (o:=.cells #[.int .i64 t110,.int .i64 t111,.int .i64 t112] 69 (0,0)) (by (with_reducible repeat (first|refine blk_drewN ?_ _|refine blk_drew ?_|refine blk_alloc ?_ _));exact BK113.out)) : gb124 ≠ gb113))
       have n16_:=Aside0.mk ((by rw [hg];exact Nat.ne_of_lt (blk_lt (g:=gb117) (o:=.cells #[.slice Ao35 t114.length co35] 61 (0,0)) (by (with_reducible repeat (first|refine blk_drewN ?_ _|refine blk_drew ?_|refine blk_alloc ?_ _));exact BK117.out)) : gb117 ≠ gb124))
       have n17_:=Aside0.mk ((by rw [hg];exact Nat.ne_of_gt (blk_lt (g:=gb117) (o:=.cells #[.slice Ao35 t114.length co35] 61 (0,0)) (by (with_reducible repeat (first|refine blk_drewN ?_ _|refine blk_drew ?_|refine blk_alloc ?_ _));exact BK117.out)) : gb124 ≠ gb117))
       clear HO106
       clear HO116
       clear BK101
       clear BK102
       clear BK113
       clear BK117
       clear HB
       have HO106:=n0_
       have HO116:=n1_
       have BK101:=n2_
       have BK102:=n3_
       have BK113:=n4_
       have BK117:=n5_
       have HB:=n6_
       have BK124:=n7_
       have GW124:=n8_
       have GE124:=n9_
       have NB101_124:=n10_
       have NB124_101:=n11_
       have NB102_124:=n12_
       have NB124_102:=n13_
       have NB113_124:=n14_
       have NB124_113:=n15_
       have NB117_124:=n16_
       have NB124_117:=n17_
       clear n0_ n1_ n2_ n3_ n4_ n5_ n6_ n7_ n8_ n9_ n10_ n11_ n12_ n13_ n14_ n15_ n16_ n17_
       clear hb hbox hg
       refine hK.out _ _ ⟨(blk_cell BK117.out 0).trans rfl,(blk_cell BK102.out 0).trans rfl,(blk_cell BK102.out 1).trans rfl,(blk_cell BK102.out 2).trans rfl⟩ (fun hHeld => ?_)
       clear hK K
       refine norm_ (a':=?_) ?_ ?_
       rotate_left
       · show Act.put _ (some 10) _ = _
         simp only [Act.put,List.setIfInBounds_toArray,List.set_cons_zero,List.set_cons_succ,i64_w,i32_w]
         rfl
       refine one_ (i:=2) (N:=some 26) #[true,true,true,true,false,true,false] rfl rfl (by kernel_rfl) (by decide) (fun K hK => ?_)
       refine goes_ Try.func15 (by kernel_rfl) rfl #[.agg #[.int .i64 a1_0,.bool a1_1,.int .i64 a1_2]] (by rfl) rfl rfl (by (try simp only [List.map_toArray,List.map_cons,List.map_nil]);first|done|rfl|(simp only [List.length_drop,List.length_take];rfl)) ?_
       with_reducible refine (laws_toLayout.calls a1_0 a1_1 a1_2 t118 t119 t120 _ A16.out).mono ?_
       rintro e w43 ⟨rfl,hb⟩
       refine ⟨_,rfl,?_⟩
       have n0_:=Aside0.mk (Kd.R_below (by (with_reducible repeat (first|apply Kd.R_alloc|apply Kd.R_drewN|apply Kd.R_drew));exact HO106.out) hb)
       have n1_:=Aside0.mk (Kd.R_below (by (with_reducible repeat (first|apply Kd.R_alloc|apply Kd.R_drewN|apply Kd.R_drew));exact HO116.out) hb)
       have n2_:=Aside0.mk (blk_below (g:=gb101) (o:=.cells #[.slice A0_0 l0_0.length c0_0] 56 (0,0)) (by (with_reducible repeat (first|refine blk_drewN ?_ _|refine blk_drew ?_|refine blk_alloc ?_ _));exact BK101.out) hb)
       have n3_:=Aside0.mk (blk_below (g:=gb102) (o:=.cells #[.int .i64 a1_0,.bool a1_1,.int .i64 a1_2] 23 (0,0)) (by (with_reducible repeat (first|refine blk_drewN ?_ _|refine blk_drew ?_|refine blk_alloc ?_ _));exact BK102.out) hb)
       have n4_:=Aside0.mk (blk_below (g:=gb113) (o:=.cells #[.int .i64 t110,.int .i64 t111,.int .i64 t112] 69 (0,0)) (by (with_reducible repeat (first|refine blk_drewN ?_ _|refine blk_drew ?_|refine blk_alloc ?_ _));exact BK113.out) hb)
       have n5_:=Aside0.mk (blk_below (g:=gb117) (o:=.cells #[.slice Ao35 t114.length co35] 61 (0,0)) (by (with_reducible repeat (first|refine blk_drewN ?_ _|refine blk_drew ?_|refine blk_alloc ?_ _));exact BK117.out) hb)
       have n6_:=Aside0.mk (blk_below (g:=gb124) (o:=.cells #[.int .i64 0,.int .i64 0,.int .i64 0] 69 (0,0)) (by (with_reducible repeat (first|refine blk_drewN ?_ _|refine blk_drew ?_|refine blk_alloc ?_ _));exact BK124.out) hb)
       have n7_:=Aside0.mk (below_step (by repeat (first|(with_reducible first|exact HB.out|apply below_alloc|apply pw_below_drewN|apply below_drew1|refine below_set ?_ GE101.out|refine below_set ?_ GE102.out|refine below_set ?_ GE113.out|refine below_set ?_ GE117.out|refine below_set ?_ GE124.out)|exact HB.out)) hb)
       clear HO106
       clear HO116
       clear BK101
       clear BK102
       clear BK113
       clear BK117
       clear BK124
       clear HB
       have HO106:=n0_
       have HO116:=n1_
       have BK101:=n2_
       have BK102:=n3_
       have BK113:=n4_
       have BK117:=n5_
       have BK124:=n6_
       have HB:=n7_
       clear n0_ n1_ n2_ n3_ n4_ n5_ n6_ n7_
       (try clear hb)
       (try clear hb2)
       (try clear hk)
       (try clear hi)
       refine hK.out _ _ ⟨(blk_cell BK117.out 0).trans rfl,(blk_cell BK102.out 0).trans rfl,(blk_cell BK102.out 1).trans rfl,(blk_cell BK102.out 2).trans rfl⟩ (fun hHeld => ?_)
       clear hK K
       refine norm_ (a':=?_) ?_ ?_
       rotate_left
       · show Act.put _ (some 26) _ = _
         simp only [Act.put,List.setIfInBounds_toArray,List.set_cons_zero,List.set_cons_succ,i64_w,i32_w]
         rfl
       refine one_ (i:=4) (N:=some 28) #[true,true,true,true,true,true,false] rfl rfl (by kernel_rfl) (by decide) (fun K hK => ?_)
       refine goes_ Try.func46 (by kernel_rfl) rfl #[.agg #[.slice Ao35 t114.length co35],.agg #[.int .i64 t118,.bool t119,.int .i64 t120],.int .i64 a2] (by rfl) rfl rfl (by (try simp only [List.map_toArray,List.map_cons,List.map_nil]);first|done|rfl|(simp only [List.length_drop,List.length_take];rfl)) ?_
       with_reducible refine (impl_LastTop.calls k _ _ t114 t118 t119 t120 a2 t121 t122 t123 _ ?side1 ?side2 A17.out).mono ?_
       (case side1 => repeat (first|exact (Kd.R_reads' HO116.out).2.2|(with_reducible refine Kd.C_alloc ?_ _)|(with_reducible refine Kd.C_drewN ?_ _)|(with_reducible refine Kd.C_drew ?_)))
       (case side2 => exact (Kd.R_reads' HO116.out).2.1)
       rintro e w44 ⟨rfl,hb⟩
       refine ⟨_,rfl,?_⟩
       have n0_:=Aside0.mk (Kd.R_below (by (with_reducible repeat (first|apply Kd.R_alloc|apply Kd.R_drewN|apply Kd.R_drew));exact HO106.out) hb)
       have n1_:=Aside0.mk (Kd.R_below (by (with_reducible repeat (first|apply Kd.R_alloc|apply Kd.R_drewN|apply Kd.R_drew));exact HO116.out) hb)
       have n2_:=Aside0.mk (blk_below (g:=gb101) (o:=.cells #[.slice A0_0 l0_0.length c0_0] 56 (0,0)) (by (with_reducible repeat (first|refine blk_drewN ?_ _|refine blk_drew ?_|refine blk_alloc ?_ _));exact BK101.out) hb)
       have n3_:=Aside0.mk (blk_below (g:=gb102) (o:=.cells #[.int .i64 a1_0,.bool a1_1,.int .i64 a1_2] 23 (0,0)) (by (with_reducible repeat (first|refine blk_drewN ?_ _|refine blk_drew ?_|refine blk_alloc ?_ _));exact BK102.out) hb)
       have n4_:=Aside0.mk (blk_below (g:=gb113) (o:=.cells #[.int .i64 t110,.int .i64 t111,.int .i64 t112] 69 (0,0)) (by (with_reducible repeat (first|refine blk_drewN ?_ _|refine blk_drew ?_|refine blk_alloc ?_ _));exact BK113.out) hb)
       have n5_:=Aside0.mk (blk_below (g:=gb117) (o:=.cells #[.slice Ao35 t114.length co35] 61 (0,0)) (by (with_reducible repeat (first|refine blk_drewN ?_ _|refine blk_drew ?_|refine blk_alloc ?_ _));exact BK117.out) hb)
       have n6_:=Aside0.mk (blk_below (g:=gb124) (o:=.cells #[.int .i64 0,.int .i64 0,.int .i64 0] 69 (0,0)) (by (with_reducible repeat (first|refine blk_drewN ?_ _|refine blk_drew ?_|refine blk_alloc ?_ _));exact BK124.out) hb)
       have n7_:=Aside0.mk (below_step (by repeat (first|(with_reducible first|exact HB.out|apply below_alloc|apply pw_below_drewN|apply below_drew1|refine below_set ?_ GE101.out|refine below_set ?_ GE102.out|refine below_set ?_ GE113.out|refine below_set ?_ GE117.out|refine below_set ?_ GE124.out)|exact HB.out)) hb)
       clear HO106
       clear HO116
       clear BK101
       clear BK102
       clear BK113
       clear BK117
       clear BK124
       clear HB
       have HO106:=n0_
       have HO116:=n1_
       have BK101:=n2_
       have BK102:=n3_
       have BK113:=n4_
       have BK117:=n5_
       have BK124:=n6_
       have HB:=n7_
       clear n0_ n1_ n2_ n3_ n4_ n5_ n6_ n7_
       (try clear hb)
       (try clear hb2)
       (try clear hk)
       (try clear hi)
       refine hK.out _ _ ⟨(blk_cell BK117.out 0).trans rfl,(blk_cell BK102.out 0).trans rfl,(blk_cell BK102.out 1).trans rfl,(blk_cell BK102.out 2).trans rfl⟩ (fun hHeld => ?_)
       clear hK K
       refine norm_ (a':=?_) ?_ ?_
       rotate_left
       · show Act.put _ (some 28) _ = _
         simp only [Act.put,List.setIfInBounds_toArray,List.set_cons_zero,List.set_cons_succ,i64_w,i32_w]
         rfl
       exact norm_ (by simp only [putAll,Act.put,List.setIfInBounds_toArray,List.set_cons_zero,List.set_cons_succ]) (hCont (gb124) _ ⟨hHeld,(by (with_reducible repeat (first|apply Kd.R_alloc|apply Kd.R_drewN|apply Kd.R_drew));exact HO106.out),(by (with_reducible repeat (first|apply Kd.R_alloc|apply Kd.R_drewN|apply Kd.R_drew));exact HO116.out),(by (with_reducible repeat (first|refine blk_drewN ?_ _|refine blk_drew ?_|refine blk_alloc ?_ _));exact BK101.out),(by (with_reducible repeat (first|refine blk_drewN ?_ _|refine blk_drew ?_|refine blk_alloc ?_ _));exact BK102.out),(by (with_reducible repeat (first|refine blk_drewN ?_ _|refine blk_drew ?_|refine blk_alloc ?_ _));exact BK113.out),(by (with_reducible repeat (first|refine blk_drewN ?_ _|refine blk_drew ?_|refine blk_alloc ?_ _));exact BK117.out),(by (with_reducible repeat (first|refine blk_drewN ?_ _|refine blk_drew ?_|refine blk_alloc ?_ _));exact BK124.out),GW124.out,GE124.out,NB101_124.out,NB124_101.out,NB102_124.out,NB124_102.out,NB113_124.out,NB124_113.out,NB117_124.out,NB124_117.out,(by repeat (first|(with_reducible first|exact HB.out|apply below_alloc|apply pw_below_drewN|apply below_drew1|refine below_set ?_ GE101.out|refine below_set ?_ GE102.out|refine below_set ?_ GE113.out|refine below_set ?_ GE117.out|refine below_set ?_ GE124.out)|exact HB.out))⟩)
   rintro gb124 w45 ⟨hS_,h0_,h1_,h2_,h3_,h4_,h5_,h6_,h7_,h8_,h9_,h10_,h11_,h12_,h13_,h14_,h15_,h16_,h17_⟩
   have n0_ : Aside0 (Kd.R (Kd.int .u8) 5 w45 w.heap.size (fun k_ => some k_ ≠ (.slice Ao35 t114.length co35 : Value).ownBlock) v105 t104):=⟨h0_⟩
   have n1_ : Aside0 (Kd.R (Kd.int .u8) 5 w45 w.heap.size (fun k_ => some k_ ≠ (v105 : Value).ownBlock) (.slice Ao35 t114.length co35) t114):=⟨h1_⟩
   have n2_ : Aside0 (w45.heap[gb101]? = some (.cells #[.slice A0_0 l0_0.length c0_0] 56 (0,0))):=⟨h2_⟩
   have n3_ : Aside0 (w45.heap[gb102]? = some (.cells #[.int .i64 a1_0,.bool a1_1,.int .i64 a1_2] 23 (0,0))):=⟨h3_⟩
   have n4_ : Aside0 (w45.heap[gb113]? = some (.cells #[.int .i64 t110,.int .i64 t111,.int .i64 t112] 69 (0,0))):=⟨h4_⟩
   have n5_ : Aside0 (w45.heap[gb117]? = some (.cells #[.slice Ao35 t114.length co35] 61 (0,0))):=⟨h5_⟩
   have n6_ : Aside0 (w45.heap[gb124]? = some (.cells #[.int .i64 0,.int .i64 0,.int .i64 0] 69 (0,0))):=⟨h6_⟩
   have n7_ : Aside0 (w.heap.size ≤ gb124):=⟨h7_⟩
   have n8_ : Aside0 (w.heap.size ≤ gb124):=⟨h8_⟩
   have n9_ : Aside0 (gb101 ≠ gb124):=⟨h9_⟩
   have n10_ : Aside0 (gb124 ≠ gb101):=⟨h10_⟩
   have n11_ : Aside0 (gb102 ≠ gb124):=⟨h11_⟩
   have n12_ : Aside0 (gb124 ≠ gb102):=⟨h12_⟩
   have n13_ : Aside0 (gb113 ≠ gb124):=⟨h13_⟩
   have n14_ : Aside0 (gb124 ≠ gb113):=⟨h14_⟩
   have n15_ : Aside0 (gb117 ≠ gb124):=⟨h15_⟩
   have n16_ : Aside0 (gb124 ≠ gb117):=⟨h16_⟩
   have n17_ : Aside0 (Below w.heap.size w w45):=⟨h17_⟩
   clear HO106
   clear HO116
   clear BK101
   clear BK102
   clear BK113
   clear BK117
   clear HB
   clear h0_ h1_ h2_ h3_ h4_ h5_ h6_ h7_ h8_ h9_ h10_ h11_ h12_ h13_ h14_ h15_ h16_ h17_
   have HO106:=n0_
   have HO116:=n1_
   have BK101:=n2_
   have BK102:=n3_
   have BK113:=n4_
   have BK117:=n5_
   have BK124:=n6_
   have GW124:=n7_
   have GE124:=n8_
   have NB101_124:=n9_
   have NB124_101:=n10_
   have NB102_124:=n11_
   have NB124_102:=n12_
   have NB113_124:=n13_
   have NB124_113:=n14_
   have NB117_124:=n15_
   have NB124_117:=n16_
   have HB:=n17_
   clear n0_ n1_ n2_ n3_ n4_ n5_ n6_ n7_ n8_ n9_ n10_ n11_ n12_ n13_ n14_ n15_ n16_ n17_
   have hHeld : w45.cell? ⟨gb117,0,none⟩ = some (.slice Ao35 t114.length co35) ∧ w45.cell? ⟨gb102,0,none⟩ = some (.int .i64 a1_0) ∧ w45.cell? ⟨gb102,1,none⟩ = some (.bool a1_1) ∧ w45.cell? ⟨gb102,2,none⟩ = some (.int .i64 a1_2):=hS_
   refine norm_ (a':=?_) ?_ ?_
   rotate_left
   · simp only [putAll,Act.put,List.setIfInBounds_toArray,List.set_cons_zero,List.set_cons_succ]
     rfl
   refine one_ (i:=6) (N:=none) #[true,true,true,true,true,true,true] rfl rfl (by kernel_rfl) (by decide) (fun K hK => ?_)
   have hs46 : w45.cell? ⟨gb124,0,none⟩ = some (.int .i64 0):=(blk_cell BK124.out 0).trans rfl
   have hfs46:=blk_frozen BK124.out 0
   have hns46_0:=NB101_124.out
   have hns46_1:=NB102_124.out
   have hns46_2:=NB113_124.out
   have hns46_3:=NB117_124.out
   have hms46_0:=NB124_101.out
   have hms46_1:=NB124_102.out
   have hms46_2:=NB124_113.out
   have hms46_3:=NB124_117.out
   have hs47 : w45.cell? ⟨gb124,1,none⟩ = some (.int .i64 0):=(blk_cell BK124.out 1).trans rfl
   have hfs47:=blk_frozen BK124.out 1
   have hns47_0:=NB101_124.out
   have hns47_1:=NB102_124.out
   have hns47_2:=NB113_124.out
   have hns47_3:=NB117_124.out
   have hms47_0:=NB124_101.out
   have hms47_1:=NB124_102.out
   have hms47_2:=NB124_113.out
   have hms47_3:=NB124_117.out
   have hs48 : w45.cell? ⟨gb124,2,none⟩ = some (.int .i64 0):=(blk_cell BK124.out 2).trans rfl
   have hfs48:=blk_frozen BK124.out 2
   have hns48_0:=NB101_124.out
   have hns48_1:=NB102_124.out
   have hns48_2:=NB113_124.out
   have hns48_3:=NB117_124.out
   have hms48_0:=NB124_101.out
   have hms48_1:=NB124_102.out
   have hms48_2:=NB124_113.out
   have hms48_3:=NB124_117.out
   refine skip_ (w1:=?_) (by rfl) rfl ?_ ?_
   rotate_left
   · go_simp
     rfl
   refine hK.out _ _ ⟨((cell_far (p:=⟨gb124,_,none⟩) NB117_124.out _).trans (((cell_far (p:=⟨gb124,_,none⟩) NB117_124.out _).trans (((cell_far (p:=⟨gb124,_,none⟩) NB117_124.out _).trans (hHeld.1)))))),((cell_far (p:=⟨gb124,_,none⟩) NB102_124.out _).trans (((cell_far (p:=⟨gb124,_,none⟩) NB102_124.out _).trans (((cell_far (p:=⟨gb124,_,none⟩) NB102_124.out _).trans (hHeld.2.1)))))),((cell_far (p:=⟨gb124,_,none⟩) NB102_124.out _).trans (((cell_far (p:=⟨gb124,_,none⟩) NB102_124.out _).trans (((cell_far (p:=⟨gb124,_,none⟩) NB102_124.out _).trans (hHeld.2.2.1)))))),((cell_far (p:=⟨gb124,_,none⟩) NB102_124.out _).trans (((cell_far (p:=⟨gb124,_,none⟩) NB102_124.out _).trans (((cell_far (p:=⟨gb124,_,none⟩) NB102_124.out _).trans (hHeld.2.2.2))))))⟩ (fun hHeld => ?_)
   clear hK K
   refine done_ (by kernel_rfl) ?_
   have hnb49:=NB124_101.out
   have hnc49:=NB101_124.out
   have hnb50:=NB124_102.out
   have hnc50:=NB102_124.out
   have hnb51:=NB124_113.out
   have hnc51:=NB113_124.out
   have hnb52:=NB124_117.out
   have hnc52:=NB117_124.out
   have hcz53_0 : w45.cell? ⟨gb124,0,none⟩ = some (.int .i64 0):=(blk_cell BK124.out 0).trans rfl
   have hcz53_1 : w45.cell? ⟨gb124,1,none⟩ = some (.int .i64 0):=(blk_cell BK124.out 1).trans rfl
   have hcz53_2 : w45.cell? ⟨gb124,2,none⟩ = some (.int .i64 0):=(blk_cell BK124.out 2).trans rfl
   have hfz53_0:=blk_frozen BK124.out 0
   have hfz53_1:=blk_frozen BK124.out 1
   have hfz53_2:=blk_frozen BK124.out 2
   have hnb54:=NB113_102.out
   have hnc54:=NB102_113.out
   have hcz55_0 : w45.cell? ⟨gb113,0,none⟩ = some (.int .i64 t110):=(blk_cell BK113.out 0).trans rfl
   have hcz55_1 : w45.cell? ⟨gb113,1,none⟩ = some (.int .i64 t111):=(blk_cell BK113.out 1).trans rfl
   have hcz55_2 : w45.cell? ⟨gb113,2,none⟩ = some (.int .i64 t112):=(blk_cell BK113.out 2).trans rfl
   have hfz55_0:=blk_frozen BK113.out 0
   have hfz55_1:=blk_frozen BK113.out 1
   have hfz55_2:=blk_frozen BK113.out 2
   go_upto_if 32 with (first|((with_reducible refine gate_callee (f:=47) rfl ?_);refine goesL_ (some 31) rfl rfl Try.func47 (by kernel_rfl) rfl #[.agg #[.int .i64 t121,.int .i64 t122,.int .i64 t123],.agg #[.int .i64 t110,.int .i64 t111,.int .i64 t112]] rfl (by (try simp only [List.map_toArray,List.map_cons,List.map_nil]);first|done|rfl|(simp only [List.length_drop,List.length_take];rfl)) ?_;(with_reducible refine (laws_eqSpotResult.calls t121 t122 t123 t110 t111 t112 t125 _ A18.out).mono ?_);rintro e w56 ⟨rfl,hb⟩;refine ⟨_,rfl,?_⟩;have n0_:=Aside0.mk (Kd.R_below (by (with_reducible repeat (first|apply Kd.R_alloc|apply Kd.R_drewN|apply Kd.R_drew));exact (Kd.R_mono (Kd.R_far (p:=⟨gb124,2,none⟩) (Kd.R_far (p:=⟨gb124,1,none⟩) (Kd.R_far (p:=⟨gb124,0,none⟩) (Kd.R_types HO106.out BK124.out (by decide)) (fun _ hk => hk.2) (.int .i64 t121)) (fun _ hk => hk.2) (.int .i64 t122)) (fun _ hk => hk.2) (.int .i64 t123)) (fun _ h_ => h_.1))) hb);have n1_:=Aside0.mk (Kd.R_below (by (with_reducible repeat (first|apply Kd.R_alloc|apply Kd.R_drewN|apply Kd.R_drew));exact (Kd.R_mono (Kd.R_far (p:=⟨gb124,2,none⟩) (Kd.R_far (p:=⟨gb124,1,none⟩) (Kd.R_far (p:=⟨gb124,0,none⟩) (Kd.R_types HO116.out BK124.out (by decide)) (fun _ hk => hk.2) (.int .i64 t121)) (fun _ hk => hk.2) (.int .i64 t122)) (fun _ hk => hk.2) (.int .i64 t123)) (fun _ h_ => h_.1))) hb);have n2_:=Aside0.mk (blk_below (g:=gb101) (o:=.cells #[.slice A0_0 l0_0.length c0_0] 56 (0,0)) (by (with_reducible repeat (first|refine blk_drewN ?_ _|refine blk_drew ?_|refine blk_alloc ?_ _));refine blk_far ?_ NB101_124.out _;(with_reducible repeat (first|refine blk_drewN ?_ _|refine blk_drew ?_|refine blk_alloc ?_ _));refine blk_far ?_ NB101_124.out _;(with_reducible repeat (first|refine blk_drewN ?_ _|refine blk_drew ?_|refine blk_alloc ?_ _));refine blk_far ?_ NB101_124.out _;(with_reducible repeat (first|refine blk_drewN ?_ _|refine blk_drew ?_|refine blk_alloc ?_ _));exact BK101.out) hb);have n3_:=Aside0.mk (blk_below (g:=gb102) (o:=.cells #[.int .i64 a1_0,.bool a1_1,.int .i64 a1_2] 23 (0,0)) (by (with_reducible repeat (first|refine blk_drewN ?_ _|refine blk_drew ?_|refine blk_alloc ?_ _));refine blk_far ?_ NB102_124.out _;(with_reducible repeat (first|refine blk_drewN ?_ _|refine blk_drew ?_|refine blk_alloc ?_ _));refine blk_far ?_ NB102_124.out _;(with_reducible repeat (first|refine blk_drewN ?_ _|refine blk_drew ?_|refine blk_alloc ?_ _));refine blk_far ?_ NB102_124.out _;(with_reducible repeat (first|refine blk_drewN ?_ _|refine blk_drew ?_|refine blk_alloc ?_ _));exact BK102.out) hb);have n4_:=Aside0.mk (blk_below (g:=gb113) (o:=.cells #[.int .i64 t110,.int .i64 t111,.int .i64 t112] 69 (0,0)) (by (with_reducible repeat (first|refine blk_drewN ?_ _|refine blk_drew ?_|refine blk_alloc ?_ _));refine blk_far ?_ NB113_124.out _;(with_reducible repeat (first|refine blk_drewN ?_ _|refine blk_drew ?_|refine blk_alloc ?_ _));refine blk_far ?_ NB113_124.out _;(with_reducible repeat (first|refine blk_drewN ?_ _|refine blk_drew ?_|refine blk_alloc ?_ _));refine blk_far ?_ NB113_124.out _;(with_reducible repeat (first|refine blk_drewN ?_ _|refine blk_drew ?_|refine blk_alloc ?_ _));exact BK113.out) hb);have n5_:=Aside0.mk (blk_below (g:=gb117) (o:=.cells #[.slice Ao35 t114.length co35] 61 (0,0)) (by (with_reducible repeat (first|refine blk_drewN ?_ _|refine blk_drew ?_|refine blk_alloc ?_ _));refine blk_far ?_ NB117_124.out _;(with_reducible repeat (first|refine blk_drewN ?_ _|refine blk_drew ?_|refine blk_alloc ?_ _));refine blk_far ?_ NB117_124.out _;(with_reducible repeat (first|refine blk_drewN ?_ _|refine blk_drew ?_|refine blk_alloc ?_ _));refine blk_far ?_ NB117_124.out _;(with_reducible repeat (first|refine blk_drewN ?_ _|refine blk_drew ?_|refine blk_alloc ?_ _));exact BK117.out) hb);have n6_:=Aside0.mk (blk_below (g:=gb124) (o:=.cells #[.int .i64 t121,.int .i64 t122,.int .i64 t123] 69 (0,0)) (by (with_reducible repeat (first|refine blk_drewN ?_ _|refine blk_drew ?_|refine blk_alloc ?_ _));refine blk_put (cs:=#[.int .i64 t121,.int .i64 t122,.int .i64 0]) ?_ 2 _ rfl;(with_reducible repeat (first|refine blk_drewN ?_ _|refine blk_drew ?_|refine blk_alloc ?_ _));refine blk_put (cs:=#[.int .i64 t121,.int .i64 0,.int .i64 0]) ?_ 1 _ rfl;(with_reducible repeat (first|refine blk_drewN ?_ _|refine blk_drew ?_|refine blk_alloc ?_ _));refine blk_put (cs:=#[.int .i64 0,.int .i64 0,.int .i64 0]) ?_ 0 _ rfl;(with_reducible repeat (first|refine blk_drewN ?_ _|refine blk_drew ?_|refine blk_alloc ?_ _));exact BK124.out) hb);have n7_:=Aside0.mk (below_step (by repeat (first|(with_reducible first|exact HB.out|apply below_alloc|apply pw_below_drewN|apply below_drew1|refine below_set ?_ GE101.out|refine below_set ?_ GE102.out|refine below_set ?_ GE113.out|refine below_set ?_ GE117.out|refine below_set ?_ GE124.out)|exact HB.out)) hb);clear HO106;clear HO116;clear BK101;clear BK102;clear BK113;clear BK117;clear BK124;clear HB;have HO106:=n0_;have HO116:=n1_;have BK101:=n2_;have BK102:=n3_;have BK113:=n4_;have BK117:=n5_;have BK124:=n6_;have HB:=n7_;clear n0_ n1_ n2_ n3_ n4_ n5_ n6_ n7_;(try clear hb);(try clear hb2);(try clear hk);(try clear hi)))
   (try simp only [Act.put,List.setIfInBounds_toArray,List.set_cons_zero,List.set_cons_succ])
   have H:=HC19.out
   clear HC19
   by_cases c57 : t125 = true
   · subst c57
     have H1 : ((laws_toFile.f k l0_0).bind fun t126 => ((laws_eqFile.f k t114 t126).bind fun t129 => (if t129 = true then (some true) else (some false)))) = some r:=by rw [if_pos rfl] at H;exact H
     clear H
     have H:=H1
     clear H1
     replace H:=Option.bind_eq_some_iff.mp H
     obtain ⟨t126,A580,H⟩:=H
     replace H : ((laws_eqFile.f k t114 t126).bind fun t129 => (if t129 = true then (some true) else (some false))) = some r:=H
     have A58:=Aside0.mk A580
     clear A580
     replace H:=Option.bind_eq_some_iff.mp H
     obtain ⟨t129,A590,H⟩:=H
     replace H : (if t129 = true then (some true) else (some false)) = some r:=H
     have A59:=Aside0.mk A590
     clear A590
     have HC60:=Aside0.mk H
     clear H
     try go_wp2
     have n0_:=Aside0.mk (Kd.R_drew HO106.out)
     have n1_:=Aside0.mk (Kd.R_drew HO116.out)
     have n2_:=Aside0.mk (blk_drew BK101.out)
     have n3_:=Aside0.mk (blk_drew BK102.out)
     have n4_:=Aside0.mk (blk_drew BK113.out)
     have n5_:=Aside0.mk (blk_drew BK117.out)
     have n6_:=Aside0.mk (blk_drew BK124.out)
     have n7_:=Aside0.mk (below_drew1 HB.out)
     clear HO106
     clear HO116
     clear BK101
     clear BK102
     clear BK113
     clear BK117
     clear BK124
     clear HB
     have HO106:=n0_
     have HO116:=n1_
     have BK101:=n2_
     have BK102:=n3_
     have BK113:=n4_
     have BK117:=n5_
     have BK124:=n6_
     have HB:=n7_
     clear n0_ n1_ n2_ n3_ n4_ n5_ n6_ n7_
     refine start_ (n:=5) (S:=fun w' => w'.cell? ⟨gb117,0,none⟩ = some (.slice Ao35 t114.length co35) ∧ w'.cell? ⟨gb101,0,none⟩ = some (.slice A0_0 l0_0.length c0_0)) (ds:=[]) #[false,false,false,false,false] (by kernel_rfl) rfl rfl ⟨(blk_cell BK117.out 0).trans rfl,(blk_cell BK101.out 0).trans rfl⟩ (fun hHeld => ?_)
     generalize w56.drew = w61 at HO106 HO116 BK101 BK102 BK113 BK117 BK124 HB hHeld ⊢
     refine take_ (i:=0) (N:=some 33) (v:=?_) (a':=?_) #[true,false,false,false,false] rfl rfl (by kernel_rfl) (fun _ _ _ h => h) (Or.inl ⟨by rfl,?_⟩) hHeld ?_ ?_
     rotate_left
     · rintro w' ⟨s0,s1⟩
       go_simp
       with_reducible rfl
     rotate_left
     · simp only [Act.put,List.setIfInBounds_toArray,List.set_cons_zero,List.set_cons_succ,i64_w,i32_w]
       rfl
     refine take_ (i:=1) (N:=some 34) (v:=?_) (a':=?_) #[true,true,false,false,false] rfl rfl (by kernel_rfl) (fun _ _ _ h => h) (Or.inl ⟨by rfl,?_⟩) hHeld ?_ ?_
     rotate_left
     · rintro w' ⟨s0,s1⟩
       go_simp
       with_reducible rfl
     rotate_left
     · simp only [Act.put,List.setIfInBounds_toArray,List.set_cons_zero,List.set_cons_succ,i64_w,i32_w]
       rfl
     refine one_ (i:=2) (N:=some 35) #[true,true,true,false,false] rfl rfl (by kernel_rfl) (by decide) (fun K hK => ?_)
     refine goes_ Try.func40 (by kernel_rfl) rfl #[.agg #[.slice A0_0 l0_0.length c0_0]] (by rfl) rfl rfl (by (try simp only [List.map_toArray,List.map_cons,List.map_nil]);first|done|rfl|(simp only [List.length_drop,List.length_take];rfl)) ?_
     with_reducible refine (laws_toFile.calls k _ _ l0_0 t126 _ ?side1 ?side2 A58.out).mono ?_
     (case side1 => repeat (first|exact (Kd.C_below HR0_0.out HB.out)|(with_reducible refine Kd.C_alloc ?_ _)|(with_reducible refine Kd.C_drewN ?_ _)|(with_reducible refine Kd.C_drew ?_)))
     (case side2 => exact HC0_0.out)
     rintro e w62 ⟨v127,rfl,ho0,hb⟩
     refine ⟨_,rfl,?_⟩
     have n0_:=Aside0.mk (Kd.R_elder' (by (with_reducible repeat (first|apply Kd.R_alloc|apply Kd.R_drewN|apply Kd.R_drew));exact HO106.out) (Kd.R_base ho0) hb)
     have n1_:=Aside0.mk (Kd.R_elder' (by (with_reducible repeat (first|apply Kd.R_alloc|apply Kd.R_drewN|apply Kd.R_drew));exact HO116.out) (Kd.R_base ho0) hb)
     have n2_:=Aside0.mk (Kd.R_lower (Kd.R_new' (Kd.R_new' ho0 (Kd.R_lt (by (with_reducible repeat (first|apply Kd.R_alloc|apply Kd.R_drewN|apply Kd.R_drew));exact HO106.out))) (Kd.R_lt (by (with_reducible repeat (first|apply Kd.R_alloc|apply Kd.R_drewN|apply Kd.R_drew));exact HO116.out))) (below_size (by repeat (first|(with_reducible first|exact HB.out|apply below_alloc|apply pw_below_drewN|apply below_drew1|refine below_set ?_ GE101.out|refine below_set ?_ GE102.out|refine below_set ?_ GE113.out|refine below_set ?_ GE117.out|refine below_set ?_ GE124.out)|exact HB.out))))
     have n3_:=Aside0.mk (blk_below (g:=gb101) (o:=.cells #[.slice A0_0 l0_0.length c0_0] 56 (0,0)) (by (with_reducible repeat (first|refine blk_drewN ?_ _|refine blk_drew ?_|refine blk_alloc ?_ _));exact BK101.out) hb)
     have n4_:=Aside0.mk (blk_below (g:=gb102) (o:=.cells #[.int .i64 a1_0,.bool a1_1,.int .i64 a1_2] 23 (0,0)) (by (with_reducible repeat (first|refine blk_drewN ?_ _|refine blk_drew ?_|refine blk_alloc ?_ _));exact BK102.out) hb)
     have n5_:=Aside0.mk (blk_below (g:=gb113) (o:=.cells #[.int .i64 t110,.int .i64 t111,.int .i64 t112] 69 (0,0)) (by (with_reducible repeat (first|refine blk_drewN ?_ _|refine blk_drew ?_|refine blk_alloc ?_ _));exact BK113.out) hb)
     have n6_:=Aside0.mk (blk_below (g:=gb117) (o:=.cells #[.slice Ao35 t114.length co35] 61 (0,0)) (by (with_reducible repeat (first|refine blk_drewN ?_ _|refine blk_drew ?_|refine blk_alloc ?_ _));exact BK117.out) hb)
     have n7_:=Aside0.mk (blk_below (g:=gb124) (o:=.cells #[.int .i64 t121,.int .i64 t122,.int .i64 t123] 69 (0,0)) (by (with_reducible repeat (first|refine blk_drewN ?_ _|refine blk_drew ?_|refine blk_alloc ?_ _));exact BK124.out) hb)
     have n8_:=Aside0.mk (below_step (by repeat (first|(with_reducible first|exact HB.out|apply below_alloc|apply pw_below_drewN|apply below_drew1|refine below_set ?_ GE101.out|refine below_set ?_ GE102.out|refine below_set ?_ GE113.out|refine below_set ?_ GE117.out|refine below_set ?_ GE124.out)|exact HB.out)) hb)
     clear HO106
     clear HO116
     clear BK101
     clear BK102
     clear BK113
     clear BK117
     clear BK124
     clear HB
     have HO106:=n0_
     have HO116:=n1_
     have HO128:=n2_
     have BK101:=n3_
     have BK102:=n4_
     have BK113:=n5_
     have BK117:=n6_
     have BK124:=n7_
     have HB:=n8_
     clear n0_ n1_ n2_ n3_ n4_ n5_ n6_ n7_ n8_
     (try clear hb)
     (try clear hb2)
     (try clear hk)
     (try clear hi)
     (try clear ho0)
     obtain ⟨Ao63,co63,eo63⟩:=Kd.R_slice HO128.out
     (first|subst eo63|(injection eo63 with f1_ f2_ f3_;have f4_:=f1_.symm;have f5_:=f3_.symm;clear f1_ f2_ f3_;subst f4_;subst f5_))
     refine hK.out _ _ ⟨(blk_cell BK117.out 0).trans rfl,(blk_cell BK101.out 0).trans rfl⟩ (fun hHeld => ?_)
     clear hK K
     refine norm_ (a':=?_) ?_ ?_
     rotate_left
     · show Act.put _ (some 35) _ = _
       simp only [Act.put,List.setIfInBounds_toArray,List.set_cons_zero,List.set_cons_succ,i64_w,i32_w]
       rfl
     refine one_ (i:=3) (N:=some 36) #[true,true,true,true,false] rfl rfl (by kernel_rfl) (by decide) (fun K hK => ?_)
     refine goes_ Try.func43 (by kernel_rfl) rfl #[.agg #[.slice Ao35 t114.length co35],.agg #[.slice Ao63 t126.length co63]] (by rfl) rfl rfl (by (try simp only [List.map_toArray,List.map_cons,List.map_nil]);first|done|rfl|(simp only [List.length_drop,List.length_take];rfl)) ?_
     with_reducible refine (laws_eqFile.calls k _ _ t114 _ _ t126 t129 _ ?side1 ?side2 ?side3 ?side4 A59.out).mono ?_
     (case side1 => repeat (first|exact (Kd.R_reads' HO116.out).2.2|(with_reducible refine Kd.C_alloc ?_ _)|(with_reducible refine Kd.C_drewN ?_ _)|(with_reducible refine Kd.C_drew ?_)))
     (case side2 => exact (Kd.R_reads' HO116.out).2.1)
     (case side3 => repeat (first|exact (Kd.R_reads' HO128.out).2.2|(with_reducible refine Kd.C_alloc ?_ _)|(with_reducible refine Kd.C_drewN ?_ _)|(with_reducible refine Kd.C_drew ?_)))
     (case side4 => exact (Kd.R_reads' HO128.out).2.1)
     rintro e w64 ⟨rfl,hb⟩
     refine ⟨_,rfl,?_⟩
     have n0_:=Aside0.mk (Kd.R_below (by (with_reducible repeat (first|apply Kd.R_alloc|apply Kd.R_drewN|apply Kd.R_drew));exact HO106.out) hb)
     have n1_:=Aside0.mk (Kd.R_below (by (with_reducible repeat (first|apply Kd.R_alloc|apply Kd.R_drewN|apply Kd.R_drew));exact HO116.out) hb)
     have n2_:=Aside0.mk (Kd.R_below (by (with_reducible repeat (first|apply Kd.R_alloc|apply Kd.R_drewN|apply Kd.R_drew));exact HO128.out) hb)
     have n3_:=Aside0.mk (blk_below (g:=gb101) (o:=.cells #[.slice A0_0 l0_0.length c0_0] 56 (0,0)) (by (with_reducible repeat (first|refine blk_drewN ?_ _|refine blk_drew ?_|refine blk_alloc ?_ _));exact BK101.out) hb)
     have n4_:=Aside0.mk (blk_below (g:=gb102) (o:=.cells #[.int .i64 a1_0,.bool a1_1,.int .i64 a1_2] 23 (0,0)) (by (with_reducible repeat (first|refine blk_drewN ?_ _|refine blk_drew ?_|refine blk_alloc ?_ _));exact BK102.out) hb)
     have n5_:=Aside0.mk (blk_below (g:=gb113) (o:=.cells #[.int .i64 t110,.int .i64 t111,.int .i64 t112] 69 (0,0)) (by (with_reducible repeat (first|refine blk_drewN ?_ _|refine blk_drew ?_|refine blk_alloc ?_ _));exact BK113.out) hb)
     have n6_:=Aside0.mk (blk_below (g:=gb117) (o:=.cells #[.slice Ao35 t114.length co35] 61 (0,0)) (by (with_reducible repeat (first|refine blk_drewN ?_ _|refine blk_drew ?_|refine blk_alloc ?_ _));exact BK117.out) hb)
     have n7_:=Aside0.mk (blk_below (g:=gb124) (o:=.cells #[.int .i64 t121,.int .i64 t122,.int .i64 t123] 69 (0,0)) (by (with_reducible repeat (first|refine blk_drewN ?_ _|refine blk_drew ?_|refine blk_alloc ?_ _));exact BK124.out) hb)
     have n8_:=Aside0.mk (below_step (by repeat (first|(with_reducible first|exact HB.out|apply below_alloc|apply pw_below_drewN|apply below_drew1|refine below_set ?_ GE101.out|refine below_set ?_ GE102.out|refine below_set ?_ GE113.out|refine below_set ?_ GE117.out|refine below_set ?_ GE124.out)|exact HB.out)) hb)
     clear HO106
     clear HO116
     clear HO128
     clear BK101
     clear BK102
     clear BK113
     clear BK117
     clear BK124
     clear HB
     have HO106:=n0_
     have HO116:=n1_
     have HO128:=n2_
     have BK101:=n3_
     have BK102:=n4_
     have BK113:=n5_
     have BK117:=n6_
     have BK124:=n7_
     have HB:=n8_
     clear n0_ n1_ n2_ n3_ n4_ n5_ n6_ n7_ n8_
     (try clear hb)
     (try clear hb2)
     (try clear hk)
     (try clear hi)
     refine hK.out _ _ ⟨(blk_cell BK117.out 0).trans rfl,(blk_cell BK101.out 0).trans rfl⟩ (fun hHeld => ?_)
     clear hK K
     refine norm_ (a':=?_) ?_ ?_
     rotate_left
     · show Act.put _ (some 36) _ = _
       simp only [Act.put,List.setIfInBounds_toArray,List.set_cons_zero,List.set_cons_succ,i64_w,i32_w]
       rfl
     refine pure_ (i:=4) (N:=some 37) (v:=?_) (a':=?_) #[true,true,true,true,true] rfl rfl (by kernel_rfl) (fun _ _ _ h => h) (Or.inl ⟨by rfl,?_⟩) ?_ ?_
     rotate_left
     · intro w'
       go_simp
       with_reducible rfl
     rotate_left
     · simp only [Act.put,List.setIfInBounds_toArray,List.set_cons_zero,List.set_cons_succ,i64_w,i32_w]
       rfl
     refine done_ (by kernel_rfl) ?_
     go_upto_if 37 with (fail)
     have H:=HC60.out
     clear HC60
     by_cases c65 : t129 = true
     · subst c65
       have H1 : (some true) = some r:=by rw [if_pos rfl] at H;exact H
       clear H
       have H:=H1
       clear H1
       obtain rfl:=Option.some.inj H
       go_wp2
       go_ret
       exact ⟨by first|rfl|(simp [errW_none,errW_some] <;> rfl)|(simp [*,errW_none,errW_some] <;> rfl),by repeat (first|(with_reducible first|exact HB.out|apply below_alloc|apply pw_below_drewN|apply below_drew1|refine below_set ?_ GE101.out|refine below_set ?_ GE102.out|refine below_set ?_ GE113.out|refine below_set ?_ GE117.out|refine below_set ?_ GE124.out)|exact HB.out)⟩
     · replace c65:=Bool.eq_false_iff.mpr c65
       subst c65
       have H1 : (some false) = some r:=by rw [if_neg (show ¬ (false = true) by decide)] at H;exact H
       clear H
       have H:=H1
       clear H1
       obtain rfl:=Option.some.inj H
       go_wp2
       go_ret
       exact ⟨by first|rfl|(simp [errW_none,errW_some] <;> rfl)|(simp [*,errW_none,errW_some] <;> rfl),by repeat (first|(with_reducible first|exact HB.out|apply below_alloc|apply pw_below_drewN|apply below_drew1|refine below_set ?_ GE101.out|refine below_set ?_ GE102.out|refine below_set ?_ GE113.out|refine below_set ?_ GE117.out|refine below_set ?_ GE124.out)|exact HB.out)⟩
   · replace c57:=Bool.eq_false_iff.mpr c57
     subst c57
     have H1 : (some false) = some r:=by rw [if_neg (show ¬ (false = true) by decide)] at H;exact H
     clear H
     have H:=H1
     clear H1
     obtain rfl:=Option.some.inj H
     go_wp2
     go_ret
     exact ⟨by first|rfl|(simp [errW_none,errW_some] <;> rfl)|(simp [*,errW_none,errW_some] <;> rfl),by repeat (first|(with_reducible first|exact HB.out|apply below_alloc|apply pw_below_drewN|apply below_drew1|refine below_set ?_ GE101.out|refine below_set ?_ GE102.out|refine below_set ?_ GE113.out|refine below_set ?_ GE117.out|refine below_set ?_ GE124.out)|exact HB.out)⟩
end Go.Proofs.Ytcinaflmpdmdaaa.Q
end
section
namespace Go.Proofs.Ytcinaflmpdmdaaa.LastTop
open Go.RowKit Go.Proofs.Ytcinaflmpdmdaaa.Q Go.Proofs.YtcinaflmpdmdaaaW.PrintWords Go.Proofs.YtcinaflmpdmdaaaW.PrintLast Go.Proofs.YtcinaflmpdmdaaaW.PrintMore Go.Proofs.Ytcinaflmpdmdaaa.L
theorem pure_law (l : List Int) (hm : l.length ≤ 9223372036854775807) (hw : ∀ x ∈ l, (Lit.int .u8 x).wf = true) (wd : Int) (ch : Bool) (sh t : Int) : ∃ k, laws_FnExactLastTop.f k l wd ch sh t = some true := by
  refine Ev.rounds ?_
  unfold laws_FnExactLastTop.f
  by_cases hl : 1048576 < l.length
  · exact Ev.bind0 (szFile_big l hm hl) (Ev.pos (by decide) (Ev.now _))
  have hn : l.length ≤ 1048576 := by omega
  refine Ev.bind0 (szFile_fit l hn) (Ev.neg (by omega) ?_)
  obtain ⟨a, b, c, hS, hI⟩ := lastTop_same (M.lineOk_of hn hw) wd ch sh t
  have hq : laws_eqSpotResult.f a b c a b c = some true := by unfold laws_eqSpotResult.f laws_eqSpot.f; simp
  simp only [laws_toLayout.f, Option.bind_some]
  exact Ev.bind (laws_toFile.ev l hn) (Ev.bind hS (Ev.bind (laws_toFile.ev l hn) (Ev.bind hI (Ev.bind0 hq (Ev.pos rfl (Ev.bind (laws_toFile.ev l hn) (Ev.bind (laws_eqFile.ev l hn) (Ev.pos rfl (Ev.now _)))))))))
theorem law_walk (A : Option Addr) (c : Nat) (l : List Int) (wd : Int) (ch : Bool) (sh t : Int) (w : World) (hR : M.Row (fun x => [Value.int .u8 x]) 1 w A l) (hw : ∀ x ∈ l, (Lit.int .u8 x).wf = true) (hc : l.length ≤ c) (hm : c ≤ maxLen) :
    Calls Try.prog 11 #[.agg #[.slice A l.length c], .agg #[.int .i64 wd, .bool ch, .int .i64 sh], .int .i64 t] w fun e w' => e = .returned (.bool true) ∧ Below w.heap.size w w' := by
  obtain ⟨k, h⟩ := pure_law l (by unfold maxLen at hm; omega) hw wd ch sh t
  exact laws_FnExactLastTop.calls k A c l wd ch sh t true w (M.C_ints (by unfold maxLen at hm; omega) hR) hc h
open Go.ChangeShapes Go.WideShapes Go.ChangeAt Go.Proofs.Ytcinaflmpdmdaaa.M
set_option maxRecDepth 100000 in
theorem lifted (os : Os) (started : os.Started) (H : Type) (enc : TypeId × Value → H) :
    ReturnsInHanded {} Try.checked os 11 .any (Rows.fnExactLastTopSpec.pre6 enc Try.prog Try.f11 Rows.fnExactLastTopRow.domain false) (Rows.fnExactLastTopSpec.post enc Try.prog Try.f11 false true false false) := by
  refine returnsInHanded_of_change (C := Try.checked) own_knob started (by kernel_rfl) Try.func11
    (ChangeSpec.witness6 (enc := enc) (C := Try.checked) false ⟨#[], #[.agg #[.slice none 0 0], .agg #[.int .i64 0, .bool false, .int .i64 0], .int .i64 0], []⟩ 8 (by kernel_rfl) (by kernel_rfl) (by kernel_rfl) (by kernel_rfl)) ?_
  intro W base args ds gs before hval0 hW hcnd _
  have hval : ∀ (j : Nat) t v, (Try.f11).params[j]? = some t → args[j]? = some v → Value.okWide Try.prog W .any base t v := hval0
  have hW' := hW
  obtain ⟨p, q, hA0, hV, rfl, hfz, hnd⟩ := hW
  have hA : DataW.TrodAll enc Try.prog W 0 (fun _ => true) true (Try.f11).params.toList args.toList ds p := hA0
  rw [Try.params11] at hA hval
  obtain ⟨v0, vs0, d0, ds0, p0, q0, hargs, rfl, rfl, h0, r0⟩ := trodAll_cons hA
  obtain ⟨v1, vs1, d1, ds1, p1, q1, rfl, rfl, rfl, h1, r1⟩ := trodAll_cons r0
  obtain ⟨v2, vs2, d2, ds2, p2, q2, rfl, rfl, rfl, h2, r2⟩ := trodAll_cons r1
  obtain ⟨rfl, rfl, rfl⟩ := trodAll_nil r2
  obtain rfl : args = #[v0, v1, v2] := by cases args; simp_all
  obtain ⟨cs0, _, _, rfl, hx0⟩ := open_struct_v Try.underlying56 (hval 0 _ v0 rfl rfl) h0
  obtain ⟨A, l, c, rfl, hc, hm, hR, hG⟩ := el_File hx0
  obtain ⟨cs1, _, _, rfl, hx1⟩ := open_struct_v Try.underlying23 (hval 1 _ v1 rfl rfl) h1
  obtain ⟨wd, ch, sh, rfl⟩ := el_Layout hx1
  obtain ⟨t, rfl, _, _⟩ := open_int Try.underlying2 (hval 2 _ v2 rfl rfl) h2
  obtain ⟨rfl, rfl⟩ := trodVars_none hV
  refine (law_walk A c l wd ch sh t W hR hG hc hm).mono fun e W' ⟨he, hb⟩ => ?_
  subst he
  exact ⟨_, rfl, law_post laid_out Try.underlying4 rfl rfl (by kernel_rfl) hW' hb ⟨rfl, rfl, rfl⟩⟩
theorem over : Rows.fnExactLastTopRow.holds Try.pinned (OpenSpec.ofChange Rows.fnExactLastTopSpec) :=
  OpenClaim.holds_of_wide 11 Try.f11 rfl rfl rfl rfl rfl rfl rfl ⟨rfl, rfl, rfl, rfl, rfl⟩ rfl rfl rfl rfl rfl (by kernel_rfl) Try.func11 (by kernel_rfl)
    (of_decide_eq_true (by kernel_rfl)) (by unfold Func.isWrapper; first | (rw [if_pos (by decide +kernel)]; kernel_rfl) | (rw [if_neg (by decide +kernel)]; exact ⟨rfl, rfl⟩))
    (fun os started H enc _ => lifted os started H enc)
theorem proved : Rows.FnExactLastTopSaid := over
end Go.Proofs.Ytcinaflmpdmdaaa.LastTop
end
