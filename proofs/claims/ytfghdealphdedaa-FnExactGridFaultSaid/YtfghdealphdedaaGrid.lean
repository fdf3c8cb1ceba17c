/- Grids: what is wrong with one, and the helpers of the laws. -/
import Derived.Test.YtfghdealphdedaaChar
import Derived.Test.YtfghdealphdedaaFamInt64
import Derived.Test.YtfghdealphdedaaFamBool
namespace Go.Proofs.Ytfghdealphdedaa
open Go.RowKit
abbrev gridV (wd : Int) (A : Option Addr) (n c : Nat) (B : Option Addr) (m d : Nat) : Value := .agg #[.int .i64 wd, .slice A n c, .slice B m d]
set_option maxHeartbeats 1000000 in
theorem toGrid_c (wd : Int) (A B : Option Addr) (c d : Nat) (xs : List Int) (hs : List Bool) (w : World) (hx : Row eI 1 w A xs) (hy : Row eB 1 w B hs) (hc : xs.length ≤ c) (hd : hs.length ≤ d) (hm : xs.length ≤ 1048576) (hm2 : hs.length ≤ 1048576)
    (R : Ending → World → Prop) (h : ∀ A' B' c' d' w', Own eI 1 2 w' w.heap.size (.slice A' xs.length c') xs → Own eB 1 4 w' w.heap.size (.slice B' hs.length d') hs → xs.length ≤ c' → hs.length ≤ d' → c' ≤ maxLen → d' ≤ maxLen → Below w.heap.size w w' → R (.returned (gridV wd A' xs.length c' B' hs.length d')) w') :
    Calls Try.prog 27 #[gridV wd A xs.length c B hs.length d] w R := by
  have HX := Lib.hid hx
  have HY := Lib.hid hy
  have H := Lib.hid h
  clear hx hy h
  obtain ⟨W, hW⟩ : ∃ W, W = ((w.alloc (Obj.cells #[.int .i64 wd, .slice A xs.length c, .slice B hs.length d] 56)).alloc (Obj.cells #[.int .i64 0, .slice none 0 0, .slice none 0 0] 59)).alloc (Obj.cells #[.int .i64 wd, .slice none 0 0, .slice none 0 0] 59) := ⟨_, rfl⟩
  obtain ⟨b1, b2, b3, f1, f2, f3, hz, G0⟩ := box3 _ _ _ _ _ _ _ W hW
  have HW := Lib.hid hW
  clear hW
  (change Calls _ _ _ _ (Fin R); go_enter Try.func27, Try.ntmps27)
  go_wp2_with (fail)
  rw [← HW.out]
  refine toInt64S_c A c xs _ (HX.out.below G0) hc hm _ ?_
  intro v w1 ho1 hb1
  obtain ⟨A1, c1, rfl, hc1, hm1, _⟩ := ho1.row
  have hz1 := hb1.size
  replace b1 := blk_keep b1 (by omega) hb1
  replace b2 := blk_keep b2 (by omega) hb1
  replace b3 := blk_keep b3 (by omega) hb1
  replace f2 := frz_keep f2 (by omega) hb1
  replace f3 := frz_keep f3 (by omega) hb1
  have G1 := G0.trans (hb1.mono G0.size)
  have HO1 := Lib.hid ho1
  have l1 : w.heap.size + 2 < w1.heap.size := by omega
  have l2 : w.heap.size + 1 < w1.heap.size := by omega
  have HB1 := Lib.hid hb1
  have HZ := Lib.hid hz
  have HZ1 := Lib.hid hz1
  clear ho1 hb1 hz hz1
  go_wp2_with (fail)
  obtain ⟨W2, hW2⟩ : ∃ W2, W2 = w1.setCell ⟨w.heap.size + 2, 1, none⟩ (.slice A1 xs.length c1) := ⟨_, rfl⟩
  have d1 : ∀ i, W2.cell? ⟨w.heap.size, i, none⟩ = #[.int .i64 wd, .slice A xs.length c, .slice B hs.length d][i]? := by rw [hW2]; exact blk_else b1 (by omega) _ _
  have d2 : ∀ i, W2.cell? ⟨w.heap.size + 1, i, none⟩ = #[.int .i64 0, .slice none 0 0, .slice none 0 0][i]? := by rw [hW2]; exact blk_else b2 (by omega) _ _
  have d3 : ∀ i, W2.cell? ⟨w.heap.size + 2, i, none⟩ = #[.int .i64 wd, .slice A1 xs.length c1, .slice none 0 0][i]? := by rw [hW2]; exact blk_set b3 1 _ (by simp)
  have g2 : ∀ i, W2.frozen? ⟨w.heap.size + 1, i, none⟩ = false := by rw [hW2]; exact frz_set f2 _ _
  have g3 : ∀ i, W2.frozen? ⟨w.heap.size + 2, i, none⟩ = false := by rw [hW2]; exact frz_set f3 _ _
  have z2 : W2.heap.size = w1.heap.size := by rw [hW2]; simp
  have HO2 := Lib.hid (show Own eI 1 2 W2 (w.heap.size + 3) (.slice A1 xs.length c1) xs by rw [hW2]; exact (HO1.out.lower (by have := HZ.out; omega)).store (by omega) _ _)
  have G2 : Below w.heap.size w W2 := by rw [hW2]; exact Below.setCell G1 (by simp) _
  have HW2 := Lib.hid hW2
  clear hW2 b1 b2 b3 f1 f2 f3
  go_wp2_with (fail)
  rw [show w.heap.size + 1 + 1 = w.heap.size + 2 from rfl, ← HW2.out]
  refine toBoolS_c B d hs _ (HY.out.below G2) hd hm2 _ ?_
  intro v w3 ho3 hb3
  obtain ⟨A3, c3, rfl, hc3, hm3, _⟩ := ho3.row
  have hz3 := hb3.size
  have hzz := HZ.out
  have hzz1 := HZ1.out
  replace d2 := blk_keep d2 (by omega) hb3
  replace d3 := blk_keep d3 (by omega) hb3
  replace g2 := frz_keep g2 (by omega) hb3
  replace g3 := frz_keep g3 (by omega) hb3
  have G3 := G2.trans (hb3.mono G2.size)
  have m1 : w.heap.size + 2 < w3.heap.size := by omega
  have m2 : w.heap.size + 1 < w3.heap.size := by omega
  have HO3 := Lib.hid (HO2.out.below hb3)
  have HO4 := Lib.hid (ho3.lower (base' := w.heap.size + 3) (by omega))
  clear ho3 hb3 d1 hzz hzz1 z2
  go_wp2_with (fail)
  (refine bodyPost_ret (by simp [results, Try.results27, go_sem, d2]; try rfl) rfl ?_)
  refine H.out A1 A3 c1 c3 _ ?_ ?_ hc1 hc3 hm1 hm3 (by (repeat' (first | (with_reducible exact Below.refl _ _) | (with_reducible assumption) | (with_reducible refine Below.alloc ?_ ?_ _) | (with_reducible refine bdN ?_ _) | (with_reducible refine Below.drew ?_) | (with_reducible refine Below.setCell ?_ ?_ _) | go_size)))
  · refine Own.lower (base := w.heap.size + 3) ?_ (by omega)
    repeat refine Own.store ?_ (by omega) _ _
    exact HO3.out
  · refine Own.lower (base := w.heap.size + 3) ?_ (by omega)
    repeat refine Own.store ?_ (by omega) _ _
    exact HO4.out
theorem szGrid_c (wd : Int) (A B : Option Addr) (n m c d : Nat) (left : Int) (w : World) (hn : n ≤ maxLen) (hm : m ≤ maxLen) (hl : 0 ≤ left) (hl2 : left ≤ 1048576)
    (R : Ending → World → Prop) (h : ∀ w', Below w.heap.size w w' → R (.returned (.int .i64 (if left - n - m < 0 then -1 else left - n - m))) w') :
    Calls Try.prog 25 #[gridV wd A n c B m d, .int .i64 left] w R := by
  by_cases h1 : left - n < 0
  · (change Calls _ _ _ _ (Fin R); go_enter Try.func25, Try.ntmps25)
    go_wp2_with (fail)
    refine szInt64S_c A n c left _ hn hl hl2 _ ?_
    rw [if_pos h1]
    go_wp2_with (fail)
    go_ret
    exact retI (h _ (by (repeat' (first | (with_reducible exact Below.refl _ _) | (with_reducible assumption) | (with_reducible refine Below.alloc ?_ ?_ _) | (with_reducible refine bdN ?_ _) | (with_reducible refine Below.drew ?_) | (with_reducible refine Below.setCell ?_ ?_ _) | go_size)))) (by rw [if_pos (by omega)])
  · by_cases h2 : left - n - m < 0
    all_goals
      (change Calls _ _ _ _ (Fin R); go_enter Try.func25, Try.ntmps25)
      go_wp2_with (fail)
      refine szInt64S_c A n c left _ hn hl hl2 _ ?_
      rw [if_neg (by omega)]
      go_wp2_with (fail)
      refine szBoolS_c B m d (left - n) _ hm (by omega) (by omega) _ ?_
      first | rw [if_pos (by omega)] | rw [if_neg (by omega)]
      go_wp2_with (fail)
      go_ret
      exact retI (h _ (by (repeat' (first | (with_reducible exact Below.refl _ _) | (with_reducible assumption) | (with_reducible refine Below.alloc ?_ ?_ _) | (with_reducible refine bdN ?_ _) | (with_reducible refine Below.drew ?_) | (with_reducible refine Below.setCell ?_ ?_ _) | go_size)))) (by first | rw [if_pos (by omega)] | rw [if_neg (by omega)])
set_option maxHeartbeats 1000000 in
theorem eqGrid_same (wd : Int) (A B A' B' : Option Addr) (c d c' d' : Nat) (xs : List Int) (hs : List Bool) (w : World) (hx : Row eI 1 w A xs) (hy : Row eB 1 w B hs) (hx' : Row eI 1 w A' xs) (hy' : Row eB 1 w B' hs)
    (hc : xs.length ≤ c) (hd : hs.length ≤ d) (hc' : xs.length ≤ c') (hd' : hs.length ≤ d') (hm : c ≤ maxLen) (hm2 : d ≤ maxLen)
    (R : Ending → World → Prop) (h : ∀ w', Below w.heap.size w w' → R (.returned (.bool true)) w') :
    Calls Try.prog 29 #[gridV wd A xs.length c B hs.length d, gridV wd A' xs.length c' B' hs.length d'] w R := by
  have HX := Lib.hid hx
  have HY := Lib.hid hy
  have HX' := Lib.hid hx'
  have HY' := Lib.hid hy'
  have H := Lib.hid h
  clear hx hy hx' hy' h
  obtain ⟨W, hW⟩ : ∃ W, W = (w.alloc (Obj.cells #[.int .i64 wd, .slice A xs.length c, .slice B hs.length d] 59)).alloc (Obj.cells #[.int .i64 wd, .slice A' xs.length c', .slice B' hs.length d'] 59) := ⟨_, rfl⟩
  obtain ⟨b1, b2, f1, f2, hz, G0⟩ := box2 _ _ _ _ _ W hW
  have HW := Lib.hid hW
  clear hW f1 f2
  (change Calls _ _ _ _ (Fin R); go_enter Try.func29, Try.ntmps29)
  go_wp2_with (fail)
  rw [← HW.out]
  refine eqInt64S_c A A' c c' xs xs _ (HX.out.below G0) (HX'.out.below G0) hc hc' hm true (decide_eq_true rfl) _ ?_
  intro w1 hb1
  replace b1 := blk_keep b1 (by omega) hb1
  replace b2 := blk_keep b2 (by omega) hb1
  have G1 := G0.trans (hb1.mono G0.size)
  go_wp2_with (fail)
  refine eqBoolS_c B B' d d' hs hs _ (HY.out.below G1) (HY'.out.below G1) hd hd' hm2 true (decide_eq_true rfl) _ ?_
  intro w2 hb2
  have G2 := G1.trans (hb2.mono G1.size)
  go_wp2_with (fail)
  go_ret
  exact H.out _ G2
def gridF (wd : Int) (cs : List Int) (n m : Nat) : Int :=
  if !inB wd 4 40 then 3 else if n = 0 ∨ (n : Int) % wd ≠ 0 ∨ 13 * wd < n ∨ n ≠ m then 1 else if cs.any (fun c => !shown c) then 3 else 0
theorem clo_GridFault_c (c : Int) (q : Bool) (hq : shown c = q) (w : World) (R : Ending → World → Prop) (h : R (.returned (.bool !q)) w) : Calls Try.prog 47 #[.int .i64 c] w R := by
  have H := Lib.hid h
  clear h
  (change Calls _ _ _ _ (Fin R); go_enter Try.func47, Try.ntmps47)
  go_wp2_with (first | (go_at_call 48; (with_reducible refine isSeen_c _ _ hq _ _ ?_)))
  go_ret
  exact H.out
set_option maxHeartbeats 1000000 in
theorem index_GridFault_c (A : Option Addr) (c : Nat) (xs : List Int) (w : World) (hx : Row eI 1 w A xs) (hc : xs.length ≤ c) (hm : c ≤ maxLen) (q : Bool) (hq : xs.any (fun c => !shown c) = q)
    (R : Ending → World → Prop) (h : ∀ (r : Int) w', decide (0 ≤ r) = q → Below w.heap.size w w' → R (.returned (.int .i64 r)) w') :
    Calls Try.prog 58 #[.slice A xs.length c, .func (.func 47) #[] #[]] w R := by
  have HX := Lib.hid hx
  have H := Lib.hid h
  clear hx h
  obtain ⟨n, hn⟩ : ∃ n, xs.length = n := ⟨_, rfl⟩
  rw [hn] at hc ⊢
  have hm3 : n ≤ 9223372036854775807 := by unfold maxLen at hm; omega
  have HN := Lib.hid hn
  have HQ := Lib.hid hq
  clear hn hq
  (change Calls _ _ _ _ (Fin R); go_enter Try.func58, Try.ntmps58)
  go_wp2_with (fail)
  go_loopg [8] n (fun gk i wr => ∃ (k : Nat), gk = n - k ∧ k ≤ n ∧ i = .int .i64 k ∧ Hid ((xs.drop k).any (fun c => !shown c) = q) ∧ Below w.heap.size w wr)
  case atStart => exact ⟨0, rfl, by omega, rfl, (by simpa [Hid] using HQ.out), by (repeat' (first | (with_reducible exact Below.refl _ _) | (with_reducible assumption) | (with_reducible refine Below.alloc ?_ ?_ _) | (with_reducible refine bdN ?_ _) | (with_reducible refine Below.drew ?_) | (with_reducible refine Below.setCell ?_ ?_ _) | go_size))⟩
  case round =>
    obtain ⟨k, rfl, hk, rfl, HE, hb⟩ := hrel
    by_cases hlt : k < n
    · obtain ⟨x, hx⟩ := get_lt (xs := xs) (i := k) (by rw [HN.out]; exact hlt)
      have hd : xs.drop k = x :: xs.drop (k + 1) := drop_cons hx
      obtain ⟨ad, rfl, ha⟩ := HX.out.eI hx
      have a0 := cell_below hb ha
      rcases q1 : shown x with _ | _
      · have HE2 := Lib.hid (show true = q by have := HE.out; rw [hd] at this; simpa [q1] using this)
        clear hx ha hd
        go_wp2_with (fail)
        refine clo_GridFault_c _ _ q1 _ _ ?_
        go_wp2_with (fail)
        go_ret
        exact H.out _ _ (by simpa using HE2.out) hb
      · have HE2 := Lib.hid (show (xs.drop (k + 1)).any (fun c => !shown c) = q by have := HE.out; rw [hd] at this; simpa [q1] using this)
        clear hx ha hd
        go_wp2_with (fail)
        refine clo_GridFault_c _ _ q1 _ _ ?_
        go_wp2_with (fail)
        go_roundg (n - (k + 1))
        case measure => omega
        case rel => exact ⟨k + 1, rfl, by omega, by go_num, HE2.out, hb⟩
    · have : k = n := by omega
      subst this
      go_wp2_with (fail)
      go_ret
      refine H.out _ _ ?_ hb
      have := HE.out
      rw [List.drop_of_length_le (by rw [HN.out]; omega)] at this
      simpa using this
theorem contains_GridFault_c (A : Option Addr) (c : Nat) (xs : List Int) (w : World) (hx : Row eI 1 w A xs) (hc : xs.length ≤ c) (hm : c ≤ maxLen) (q : Bool) (hq : xs.any (fun c => !shown c) = q)
    (R : Ending → World → Prop) (h : ∀ w', Below w.heap.size w w' → R (.returned (.bool q)) w') :
    Calls Try.prog 46 #[.slice A xs.length c, .func (.func 47) #[] #[]] w R := by
  have HX := Lib.hid hx
  have HQ := Lib.hid hq
  have H := Lib.hid h
  clear hx hq h
  (change Calls _ _ _ _ (Fin R); go_enter Try.func46, Try.ntmps46)
  go_wp2_with (fail)
  refine index_GridFault_c A c xs _ HX.out hc hm q HQ.out _ ?_
  intro r w1 hr hb1
  go_wp2_with (fail)
  go_ret
  exact retB (H.out _ hb1) (by rw [← hr])
theorem contains_GridFault_c' (A : Option Addr) (n c : Nat) (xs : List Int) (w : World) (hn : xs.length = n) (hx : Row eI 1 w A xs) (hc : n ≤ c) (hm : c ≤ maxLen) (q : Bool) (hq : xs.any (fun c => !shown c) = q)
    (R : Ending → World → Prop) (h : ∀ w', Below w.heap.size w w' → R (.returned (.bool q)) w') :
    Calls Try.prog 46 #[.slice A n c, .func (.func 47) #[] #[]] w R := by
  subst hn
  exact contains_GridFault_c A c xs w hx hc hm q hq R h
set_option maxHeartbeats 2000000 in
theorem i_GridFault_c (wd : Int) (A B : Option Addr) (c d m : Nat) (xs : List Int) (w : World) (hx : Row eI 1 w A xs) (hc : xs.length ≤ c) (hcm : c ≤ maxLen) (hm : xs.length ≤ 1048576) (hm2 : m ≤ 1048576)
    (R : Ending → World → Prop) (h : ∀ w', Below w.heap.size w w' → R (.returned (.int .i64 (gridF wd xs xs.length m))) w') :
    Calls Try.prog 28 #[gridV wd A xs.length c B m d] w R := by
  have HX := Lib.hid hx
  have H := Lib.hid h
  clear hx h
  obtain ⟨W, hW⟩ : ∃ W, W = w.alloc (Obj.cells #[.int .i64 wd, .slice A xs.length c, .slice B m d] 59) := ⟨_, rfl⟩
  obtain ⟨b1, f1, hz, G0⟩ := box1 _ _ _ W hW
  have HW := Lib.hid hW
  clear hW f1
  rcases q1 : inB wd 4 40 with _ | _
  · (change Calls _ _ _ _ (Fin R); go_enter Try.func28, Try.ntmps28)
    go_wp2_with (fail)
    rw [← HW.out]
    refine within_c _ _ _ _ q1 _ _ ?_
    go_wp2_with (fail)
    go_ret
    exact retI (H.out _ G0) (by simp [gridF, q1])
  obtain ⟨hw1, hw2⟩ := inB_t q1
  obtain ⟨n, hn⟩ : ∃ n, xs.length = n := ⟨_, rfl⟩
  rw [hn] at hc hm b1 ⊢
  have HN := Lib.hid hn
  rw [hn] at HW H
  clear hn
  have Q1 := Lib.hid q1
  (change Calls _ _ _ _ (Fin R); go_enter Try.func28, Try.ntmps28)
  go_wp2_with (fail)
  rw [← HW.out]
  refine within_c _ _ _ _ q1 _ _ ?_
  go_wp2_with (fail)
  all_goals try (go_ret; refine retI (H.out _ G0) ?_; (try simp only [beq_iff_eq, bne_iff_ne, ne_eq, Int.natCast_inj] at *); unfold gridF; rw [if_neg (by simp [Q1.out]), if_pos (by omega)])

  have HE := Lib.hid (show gridF wd xs n m = if xs.any (fun c => !shown c) then 3 else 0 by
    try simp only [beq_iff_eq, bne_iff_ne, ne_eq, Int.natCast_inj, Bool.not_eq_true, bne_eq_false_iff_eq, beq_eq_false_iff_ne] at *
    unfold gridF
    rw [if_neg (by simp [Q1.out]), if_neg (by omega)])
  rcases q2 : xs.any (fun c => !shown c) with _ | _
  all_goals
    refine contains_GridFault_c' A n c xs _ HN.out (HX.out.below G0) hc hcm _ q2 _ ?_
    intro w1 hb1
    go_wp2_with (fail)
    go_ret
    exact retI (H.out _ (G0.trans (hb1.mono G0.size))) (by rw [HE.out, q2]; rfl)
set_option maxHeartbeats 2000000 in
theorem l11Grid_c (g : Nat) (wd : Int) (A B : Option Addr) (c d m : Nat) (xs : List Int) (w : World) (n : Nat) (hn : xs.length = n) (b1 : ∀ i, w.cell? ⟨g, i, none⟩ = #[.int .i64 wd, .slice A n c, .slice B m d][i]?) (hg : g < w.heap.size)
    (hx : Row eI 1 w A xs) (hc : n ≤ c) (hcm : c ≤ maxLen) (hm : n ≤ 1048576) (hm2 : m ≤ 1048576)
    (R : Ending → World → Prop) (h : ∀ w', Below w.heap.size w w' → R (.returned (.int .i64 (gridF wd xs n m))) w') :
    Calls Try.prog 43 #[.pointer (some ⟨g, 0, none⟩)] w R := by
  have HX := Lib.hid hx
  have H := Lib.hid h
  have HN := Lib.hid hn
  clear hx h hn
  rcases q1 : inB wd 4 40 with _ | _
  · (change Calls _ _ _ _ (Fin R); go_enter Try.func43, Try.ntmps43)
    go_wp2_with (fail)
    refine l1In_c _ _ _ _ q1 _ _ ?_
    go_wp2_with (fail)
    go_ret
    exact retI (H.out _ (Below.refl _ _)) (by simp [gridF, q1])
  obtain ⟨hw1, hw2⟩ := inB_t q1
  have hdiv : (n : Int) % wd = 0 → ((n : Int) / wd ≤ 13 ↔ (n : Int) ≤ 13 * wd) := fun e => by
    constructor
    · intro h
      have := Int.mul_le_mul_of_nonneg_right h (show 0 ≤ wd by omega)
      have h2 := Int.ediv_mul_cancel (Int.dvd_of_emod_eq_zero e)
      omega
    · intro h
      exact Int.ediv_le_of_le_mul (by omega) h
  have HD := Lib.hid hdiv
  have hq0 : 0 ≤ (n : Int) / wd := Int.ediv_nonneg (by omega) (by omega)
  have hq1 : (n : Int) / wd ≤ 1048576 := Int.le_trans (Int.ediv_le_self _ (by omega)) (by omega)
  have hq2 : wrap64 ((n : Int) / wd) = (n : Int) / wd := IntWalk.wrap64_in _ (by omega)
  have Q1 := Lib.hid q1
  clear hdiv
  (change Calls _ _ _ _ (Fin R); go_enter Try.func43, Try.ntmps43)
  go_wp2_with (fail)
  refine l1In_c _ _ _ _ q1 _ _ ?_
  go_wp2_with (fail)
  all_goals try (go_ret; refine retI (H.out _ (Below.refl _ _)) ?_; have hd := HD.out; (try simp only [beq_iff_eq, bne_iff_ne, ne_eq, Int.natCast_inj] at *); unfold gridF; rw [if_neg (by simp [Q1.out]), if_pos (by omega)])
  have HE := Lib.hid (show gridF wd xs n m = if xs.any (fun c => !shown c) then 3 else 0 by
    have hd := HD.out
    try simp only [beq_iff_eq, bne_iff_ne, ne_eq, Int.natCast_inj, Bool.not_eq_true, bne_eq_false_iff_eq, beq_eq_false_iff_ne] at *
    unfold gridF
    rw [if_neg (by simp [Q1.out]), if_neg (by omega)])
  generalize ((n : Int) == 0) = u1
  generalize decide (13 < (n : Int) / wd) = u2
  generalize ((n : Int) != (m : Int)) = u3
  go_loopg [4] n (fun gk i wr => ∃ (k : Nat), gk = n - k ∧ k ≤ n ∧ i = .int .i64 k ∧ Hid (xs.any (fun c => !shown c) = (xs.drop k).any (fun c => !shown c)) ∧ Below w.heap.size w wr)
  case atStart => exact ⟨0, rfl, by omega, rfl, (by simp [Hid]), Below.refl _ _⟩
  case round =>
    obtain ⟨k, rfl, hk, rfl, HF, hb⟩ := hrel
    have b2 := blk_keep b1 hg hb
    by_cases hlt : k < n
    · obtain ⟨x, hx⟩ := get_lt (xs := xs) (i := k) (by rw [HN.out]; exact hlt)
      have hd : xs.drop k = x :: xs.drop (k + 1) := drop_cons hx
      obtain ⟨ad, rfl, ha⟩ := HX.out.eI hx
      have a0 := cell_below hb ha
      rcases q2 : shown x with _ | _
      · have HE2 := Lib.hid (show xs.any (fun c => !shown c) = true by have := HF.out; rw [hd] at this; simpa [q2] using this)
        clear hx ha hd
        go_wp2_with (fail)
        refine l11Shown_c _ _ q2 _ _ ?_
        go_wp2_with (fail)
        go_ret
        exact retI (H.out _ hb) (by rw [HE.out, HE2.out]; rfl)
      · have HE2 := Lib.hid (show xs.any (fun c => !shown c) = (xs.drop (k + 1)).any (fun c => !shown c) by have := HF.out; rw [hd] at this; simpa [q2] using this)
        clear hx ha hd
        go_wp2_with (fail)
        refine l11Shown_c _ _ q2 _ _ ?_
        go_wp2_with (fail)
        go_roundg (n - (k + 1))
        case measure => omega
        case rel => exact ⟨k + 1, rfl, by omega, by go_num, HE2.out, hb⟩
    · have : k = n := by omega
      subst this
      go_wp2_with (fail)
      go_ret
      refine retI (H.out _ hb) ?_
      rw [HE.out, HF.out, List.drop_of_length_le (by rw [HN.out]; omega)]
      rfl
theorem s_GridFault_c (wd : Int) (A B : Option Addr) (c d m : Nat) (xs : List Int) (w : World) (hx : Row eI 1 w A xs) (hc : xs.length ≤ c) (hcm : c ≤ maxLen) (hm : xs.length ≤ 1048576) (hm2 : m ≤ 1048576)
    (R : Ending → World → Prop) (h : ∀ w', Below w.heap.size w w' → R (.returned (.int .i64 (gridF wd xs xs.length m))) w') :
    Calls Try.prog 26 #[gridV wd A xs.length c B m d] w R := by
  have HX := Lib.hid hx
  have H := Lib.hid h
  clear hx h
  obtain ⟨W, hW⟩ : ∃ W, W = w.alloc (Obj.cells #[.int .i64 wd, .slice A xs.length c, .slice B m d] 59) := ⟨_, rfl⟩
  obtain ⟨b1, f1, hz, G0⟩ := box1 _ _ _ W hW
  have HW := Lib.hid hW
  clear hW f1
  (change Calls _ _ _ _ (Fin R); go_enter Try.func26, Try.ntmps26)
  go_wp2_with (fail)
  rw [← HW.out]
  refine l11Grid_c w.heap.size wd A B c d m xs W _ rfl b1 (by omega) (HX.out.below G0) hc hcm hm hm2 _ ?_
  intro w1 hb1
  go_wp2_with (fail)
  go_ret
  exact H.out _ (G0.trans (hb1.mono G0.size))
end Go.Proofs.Ytfghdealphdedaa
