import Derived.Test.YtfghdealphdedaaProg
import Derived.Test.YtfghdealphdedaaMem
namespace Go.Proofs.Ytfghdealphdedaa
open Go.RowKit
def inB (a b c : Int) : Bool := decide (b ≤ a ∧ a ≤ c)
theorem l1In_c (a b c : Int) (q : Bool) (hq : inB a b c = q) (w : World) (R : Ending → World → Prop) (h : R (.returned (.bool q)) w) : Calls Try.prog 37 #[.int .i64 a, .int .i64 b, .int .i64 c] w R := by
  subst hq
  (change Calls _ _ _ _ (Fin R); go_enter Try.func37, Try.ntmps37)
  go_wp2
  all_goals (go_ret; exact retB h (by simp [inB]; try omega))
theorem within_c (a b c : Int) (q : Bool) (hq : inB a b c = q) (w : World) (R : Ending → World → Prop) (h : R (.returned (.bool q)) w) : Calls Try.prog 31 #[.int .i64 a, .int .i64 b, .int .i64 c] w R := by
  subst hq
  (change Calls _ _ _ _ (Fin R); go_enter Try.func31, Try.ntmps31)
  go_wp2
  all_goals (go_ret; exact retB h (by simp [inB]; try omega))
theorem within_q (a b c : Int) (q : Bool) (hq : inB a b c = q) (w : World) : Calls Try.prog 31 #[.int .i64 a, .int .i64 b, .int .i64 c] w fun e w' => e = .returned (.bool q) ∧ w' = w := within_c a b c q hq w _ ⟨rfl, rfl⟩
structure Spn where
  a : Int
  b : Int
deriving DecidableEq
def eSpn (x : Spn) : List Value := [.int .i64 x.a, .int .i64 x.b]
theorem eSpn_len (x : Spn) : (eSpn x).length = 2 := rfl
theorem eqSpan_c (x y : Spn) (q : Bool) (hq : decide (x = y) = q) (w : World) (R : Ending → World → Prop) (h : ∀ w', Below w.heap.size w w' → R (.returned (.bool q)) w') :
    Calls Try.prog 34 #[.agg #[.int .i64 x.a, .int .i64 x.b], .agg #[.int .i64 y.a, .int .i64 y.b]] w R := by
  obtain ⟨a, b⟩ := x
  obtain ⟨c, d⟩ := y
  subst hq
  (change Calls _ _ _ _ (Fin R); go_enter Try.func34, Try.ntmps34)
  go_wp2
  all_goals (go_ret; refine retB (h _ (by (repeat' (first | (with_reducible exact Below.refl _ _) | (with_reducible assumption) | (with_reducible refine Below.alloc ?_ ?_ _) | (with_reducible refine bdN ?_ _) | (with_reducible refine Below.drew ?_) | (with_reducible refine Below.setCell ?_ ?_ _) | go_size)))) ?_; simp_all)
theorem eqSpanS_c (A B : Option Addr) (c d : Nat) (xs ys : List Spn) (w : World) (hx : Row eSpn 2 w A xs) (hy : Row eSpn 2 w B ys) (hc : xs.length ≤ c) (hd : ys.length ≤ d) (hm : c ≤ maxLen)
    (R : Ending → World → Prop) (h : ∀ w', Below w.heap.size w w' → R (.returned (.bool (decide (xs = ys)))) w') :
    Calls Try.prog 15 #[.slice A xs.length c, .slice B ys.length d] w R := by
  have HX := Lib.hid hx
  have HY := Lib.hid hy
  clear hx hy
  obtain ⟨n, hn⟩ : ∃ n, xs.length = n := ⟨_, rfl⟩
  obtain ⟨m, hm'⟩ : ∃ m, ys.length = m := ⟨_, rfl⟩
  rw [hn] at hc ⊢
  rw [hm'] at hd ⊢
  have HN := Lib.hid hn
  have HM := Lib.hid hm'
  clear hn hm'
  unfold maxLen at hm
  by_cases hnm : n = m
  · subst hnm
    (change Calls _ _ _ _ (Fin R); go_enter Try.func15, Try.ntmps15)
    go_wp2
    go_loopg [5] n (fun g i wr => ∃ k : Nat, g = n - k ∧ k ≤ n ∧ i = .int .i64 k ∧ Hid (∀ j, j < k → xs[j]? = ys[j]?) ∧ Below w.heap.size w wr)
    case atStart => exact ⟨0, rfl, by omega, rfl, fun j hj => by omega, Below.refl _ _⟩
    case round =>
      obtain ⟨k, rfl, hk, rfl, HE, hb⟩ := hrel
      by_cases hlt : k < n
      · obtain ⟨x, hx⟩ := get_lt (xs := xs) (i := k) (by rw [HN.out]; exact hlt)
        obtain ⟨y, hy⟩ := get_lt (xs := ys) (i := k) (by rw [HM.out]; exact hlt)
        obtain ⟨ad, rfl, ha⟩ := HX.out k x hx
        obtain ⟨bd, rfl, hb'⟩ := HY.out k y hy
        obtain ⟨a0, a1⟩ := (ha.below hb).two
        obtain ⟨b0, b1⟩ := (hb'.below hb).two
        have HXX := Lib.hid hx
        have HYY := Lib.hid hy
        clear hx hy ha hb'
        rcases hxy : decide (x = y) with _ | _
        all_goals
          go_wp2_with (fail)
          go_region_held3 (fun w' => ∀ p, (wr.cell? p).isSome = true → w'.cell? p = wr.cell? p) (first | exact keeps_refl _ | exact keeps_below (below_drew hb1)) (first | (go_at_call 34; refine eqSpan_c x y _ hxy _ _ ?_; intro w1 hb1))
          have hb2 := hb.trans ((below_drew hb1).mono hb.size)
          clear a0 a1 b0 b1
        · go_wp2
          go_ret
          refine retB (h _ hb2) ?_
          rw [eq_comm, decide_eq_false_iff_not]
          rintro rfl
          exact of_decide_eq_false hxy (Option.some.inj (HXX.out.symm.trans HYY.out))
        · go_wp2
          go_roundg (n - (k + 1))
          case measure => omega
          case rel =>
            refine ⟨k + 1, rfl, by omega, by go_num, fun j hj => ?_, hb2⟩
            by_cases hjk : j = k
            · rw [hjk, HXX.out, HYY.out, of_decide_eq_true hxy]
            · exact HE.out j (by omega)
      · have : k = n := by omega
        subst this
        go_wp2
        go_ret
        refine retB (h _ hb) ?_
        rw [eq_comm, decide_eq_true_eq]
        exact List.ext_getElem? fun j => by
          by_cases hj : j < k
          · exact HE.out j hj
          · rw [List.getElem?_eq_none (by rw [HN.out]; omega), List.getElem?_eq_none (by rw [HM.out]; omega)]
  · (change Calls _ _ _ _ (Fin R); go_enter Try.func15, Try.ntmps15)
    go_wp2
    · go_ret
      refine retB (h _ (by (repeat' (first | (with_reducible exact Below.refl _ _) | (with_reducible assumption) | (with_reducible refine Below.alloc ?_ ?_ _) | (with_reducible refine bdN ?_ _) | (with_reducible refine Below.drew ?_) | (with_reducible refine Below.setCell ?_ ?_ _) | go_size)))) ?_
      rw [eq_comm, decide_eq_false_iff_not]
      rintro rfl
      exact hnm (HN.out.symm.trans HM.out)
theorem toSpan_c (x : Spn) (w : World) (R : Ending → World → Prop) (h : ∀ w', Below w.heap.size w w' → R (.returned (.agg #[.int .i64 x.a, .int .i64 x.b])) w') :
    Calls Try.prog 33 #[.agg #[.int .i64 x.a, .int .i64 x.b]] w R := by
  obtain ⟨a, b⟩ := x
  (change Calls _ _ _ _ (Fin R); go_enter Try.func33, Try.ntmps33)
  go_wp2
  go_returns
  exact h _ (by (repeat' (first | (with_reducible exact Below.refl _ _) | (with_reducible assumption) | (with_reducible refine Below.alloc ?_ ?_ _) | (with_reducible refine bdN ?_ _) | (with_reducible refine Below.drew ?_) | (with_reducible refine Below.setCell ?_ ?_ _) | go_size)))
theorem info_Spn : (Try.prog.info? 67).map (fun i => (i.zero, i.size, i.bytes)) = some (some (.agg #[.int .i64 0, .int .i64 0]), 2, 16) := by kernel_rfl
theorem toSpanS_c (A : Option Addr) (c : Nat) (xs : List Spn) (w : World) (hx : Row eSpn 2 w A xs) (hc : xs.length ≤ c) (hm : xs.length ≤ 1048576)
    (R : Ending → World → Prop) (h : ∀ v w', Own eSpn 2 67 w' w.heap.size v xs → Below w.heap.size w w' → R (.returned v) w') :
    Calls Try.prog 13 #[.slice A xs.length c] w R := by
  have HX := Lib.hid hx
  clear hx
  obtain ⟨n, hn⟩ : ∃ n, xs.length = n := ⟨_, rfl⟩
  rw [hn] at hc hm ⊢
  have HN := Lib.hid hn
  clear hn
  (change Calls _ _ _ _ (Fin R); go_enter Try.func13, Try.ntmps13)
  go_wp2_with (first | (at_make; refine wp_make eSpn 2 _ w.heap.size rfl (.tmp 6) (.tmp 6) 31 67 rfl Try.underlying31 (.agg #[.int .i64 0, .int .i64 0]) 16 info_Spn ⟨0, 0⟩ rfl rfl (by decide) n rfl rfl (by omega) (by unfold maxLen; omega) (by simp) ?_; intro g w1 hown hb1))
  have HO := Lib.hid hown
  clear hown
  go_loopg [4] n (fun gk i wr => ∃ (k : Nat) (ys : List Spn), gk = n - k ∧ k ≤ n ∧ i = .int .i64 k ∧ Own eSpn 2 67 wr w.heap.size (.slice (some ⟨g, 0, none⟩) n n) ys ∧ Hid (∀ j, j < k → ys[j]? = xs[j]?) ∧ Below w.heap.size w wr)
  case atStart => exact ⟨0, _, rfl, by omega, rfl, HO.out, fun j hj => by omega, hb1⟩
  case round =>
    obtain ⟨k, ys, rfl, hk, rfl, ho, HE, hb⟩ := hrel
    have hlen := Lib.hid ho.len
    by_cases hlt : k < n
    · obtain ⟨x, hx⟩ := get_lt (xs := xs) (i := k) (by rw [HN.out]; exact hlt)
      obtain ⟨y, hy⟩ := get_lt (xs := ys) (i := k) (by rw [hlen.out]; exact hlt)
      obtain ⟨ad, rfl, ha⟩ := HX.out k x hx
      obtain ⟨a0, a1⟩ := (ha.below hb).two
      have HA := Lib.hid ho
      have HXX := Lib.hid hx
      have HY := Lib.hid hy
      clear hx ha hy ho
      go_wp2_with (first | (go_at_call 33; refine toSpan_c x _ _ ?_; intro w2 hb2; have ho2 := HA.out.below hb2; obtain ⟨b0, b1⟩ := (ho2.at_ HY.out).two; have f0 := ho2.free (k * 2); have f1 := ho2.free (k * 2 + 1); have HO2 := Lib.hid ho2; clear ho2))
      obtain ⟨hown2, hg2⟩ := HO2.out.put eSpn_len hlt x
      have hlt2 := HO2.out.lt'
      have hb3 := below_of_grown (hb.trans (hb2.mono hb.size)) hg2 hlt2.1 hlt2.2
      clear a0 a1 b0 b1 f0 f1
      go_roundg (n - (k + 1))
      case measure => omega
      case rel =>
        refine ⟨k + 1, ys.set k x, rfl, by omega, by go_num, hown2, fun j hj => ?_, hb3⟩
        by_cases hjk : j = k
        · rw [hjk, List.getElem?_set_self (by rw [hlen.out]; exact hlt), HXX.out]
        · rw [List.getElem?_set_ne (Ne.symm hjk)]
          exact HE.out j (by omega)
    · have : k = n := by omega
      subst this
      go_wp2
      go_ret
      have : ys = xs := List.ext_getElem? fun j => by
        by_cases hj : j < k
        · exact HE.out j hj
        · rw [List.getElem?_eq_none (by rw [hlen.out]; omega), List.getElem?_eq_none (by rw [HN.out]; omega)]
      exact h _ _ (this ▸ ho) hb
theorem szSpanS_c (A : Option Addr) (n c : Nat) (left : Int) (w : World) (hm : n ≤ maxLen) (hl : 0 ≤ left) (hl2 : left ≤ 1048576)
    (R : Ending → World → Prop) (h : R (.returned (.int .i64 (if left - n < 0 then -1 else left - n))) w) :
    Calls Try.prog 11 #[.slice A n c, .int .i64 left] w R := by
  unfold maxLen at hm
  by_cases hlt : left - n < 0
  all_goals
    (change Calls _ _ _ _ (Fin R); go_enter Try.func11, Try.ntmps11)
    go_wp2
    go_ret
    exact retI h (by split <;> omega)
def spF (p : Option Spn) (x : Spn) : Bool := inB x.a 0 400 && inB x.b x.a 400 && (match p with | none => true | some q => decide (q.b ≤ x.a) && !decide (x = q))
theorem spF_def (p : Option Spn) (x : Spn) : spF p x = (inB x.a 0 400 && inB x.b x.a 400 && (match p with | none => true | some q => decide (q.b ≤ x.a) && !decide (x = q))) := rfl
def spansF : Option Spn → List Spn → Int
  | _, [] => 0
  | p, x :: r => if spF p x then spansF (some x) r else 3
def spansFault (xs : List Spn) : Int := if xs.length > 401 then 2 else spansF none xs
def prev (xs : List Spn) (k : Nat) : Option Spn := if k = 0 then none else xs[k - 1]?
theorem spansF_step {xs : List Spn} {k : Nat} {x : Spn} (hx : xs[k]? = some x) : spansF (prev xs k) (xs.drop k) = if spF (prev xs k) x then spansF (prev xs (k + 1)) (xs.drop (k + 1)) else 3 := by
  have hl := (List.getElem?_eq_some_iff.1 hx).1
  have e : xs[k] = x := (List.getElem?_eq_some_iff.1 hx).2
  rw [List.drop_eq_getElem_cons hl, e]
  have h1 : prev xs (k + 1) = some x := by simp [prev, hx]
  rw [h1]
  rfl
theorem eqB_Spn (x y : Spn) (d : Nat) (w : World) : (Op.equalIn (d + 2) 67 (.agg #[.int .i64 x.a, .int .i64 x.b]) (.agg #[.int .i64 y.a, .int .i64 y.b])).run Try.prog w = .ok (decide (x = y)) w := by
  have hS : (Try.prog).underlying 67 = some (.struct ((Try.prog).fieldsOf 67)) := by kernel_rfl
  have hp : (Try.prog).stoodInHeld 67 = false := by kernel_rfl
  rw [run_equalIn_struct w (d + 1) 67 _ _ hS hp]
  have u := Try.underlying2
  simp only [Program.fieldsOf, Try.underlying67]
  go_simp
  obtain ⟨a, b⟩ := x
  obtain ⟨c, e⟩ := y
  by_cases h1 : a = c <;> by_cases h2 : b = e <;> simp [h1, h2]
theorem l9Fault_c (A : Option Addr) (c : Nat) (xs : List Spn) (w : World) (hx : Row eSpn 2 w A xs) (hc : xs.length ≤ c) (hm : xs.length ≤ 1048576)
    (R : Ending → World → Prop) (h : ∀ w', Below w.heap.size w w' → R (.returned (.int .i64 (spansFault xs))) w') :
    Calls Try.prog 32 #[.slice A xs.length c] w R := by
  have HX := Lib.hid hx
  clear hx
  obtain ⟨n, hn⟩ : ∃ n, xs.length = n := ⟨_, rfl⟩
  rw [hn] at hc hm ⊢
  have HN := Lib.hid hn
  clear hn
  by_cases h4 : n > 401
  · (change Calls _ _ _ _ (Fin R); go_enter Try.func32, Try.ntmps32)
    go_wp2
    go_ret
    exact retI (h _ (Below.refl _ _)) (by rw [spansFault, HN.out, if_pos h4])
  · (change Calls _ _ _ _ (Fin R); go_enter Try.func32, Try.ntmps32)
    go_wp2
    go_loopg [3] n (fun gk i wr => ∃ (k : Nat), gk = n - k ∧ k ≤ n ∧ i = .int .i64 k ∧ Hid (spansFault xs = spansF (prev xs k) (xs.drop k)) ∧ Below w.heap.size w wr)
    case atStart => exact ⟨0, rfl, by omega, rfl, (by simp only [Hid, spansFault, HN.out, if_neg h4]; rfl), Below.refl _ _⟩
    case round =>
      obtain ⟨k, rfl, hk, rfl, HE, hb⟩ := hrel
      by_cases hlt : k < n
      · obtain ⟨x, hx⟩ := get_lt (xs := xs) (i := k) (by rw [HN.out]; exact hlt)
        have HS := Lib.hid (HE.out.trans (spansF_step hx))
        obtain ⟨ad, rfl, ha⟩ := HX.out k x hx
        obtain ⟨a0, a1⟩ := (ha.below hb).two
        clear hx ha
        have hs := hb.size
        rcases q1 : inB x.a 0 400 with _ | _
        · go_wp2_with (first | (go_at_call 37; (with_reducible refine l1In_c _ _ _ _ q1 _ _ ?_)))
          go_ret
          exact retI (h _ (by (repeat' (first | (with_reducible exact Below.refl _ _) | (with_reducible assumption) | (with_reducible refine Below.alloc ?_ ?_ _) | (with_reducible refine bdN ?_ _) | (with_reducible refine Below.drew ?_) | (with_reducible refine Below.setCell ?_ ?_ _) | go_size)))) (by rw [HS.out, spF_def, q1]; rfl)
        rcases q2 : inB x.b x.a 400 with _ | _
        · go_wp2_with (first | (go_at_call 37; first | (with_reducible refine l1In_c _ _ _ _ q1 _ _ ?_) | (with_reducible refine l1In_c _ _ _ _ q2 _ _ ?_)))
          go_ret
          exact retI (h _ (by (repeat' (first | (with_reducible exact Below.refl _ _) | (with_reducible assumption) | (with_reducible refine Below.alloc ?_ ?_ _) | (with_reducible refine bdN ?_ _) | (with_reducible refine Below.drew ?_) | (with_reducible refine Below.setCell ?_ ?_ _) | go_size)))) (by rw [HS.out, spF_def, q1, q2]; rfl)
        rcases Nat.eq_zero_or_pos k with hk0 | hk0
        · have d1 : decide ((0 : Int) < (k : Int)) = false := by simp [hk0]
          have d2 : decide (0 < k) = false := by simp [hk0]
          have HK0 := Lib.hid hk0
          clear hk0
          go_wp2_with (first | (go_at_call 37; first | (with_reducible refine l1In_c _ _ _ _ q1 _ _ ?_) | (with_reducible refine l1In_c _ _ _ _ q2 _ _ ?_)))
          go_quiet (fail)
          go_wp2
          go_roundg (n - (k + 1))
          case measure => omega
          case rel => exact ⟨k + 1, rfl, by omega, by go_num, (by simp only [Hid, HS.out, spF_def, q1, q2, HK0.out]; rfl), by (repeat' (first | (with_reducible exact Below.refl _ _) | (with_reducible assumption) | (with_reducible refine Below.alloc ?_ ?_ _) | (with_reducible refine bdN ?_ _) | (with_reducible refine Below.drew ?_) | (with_reducible refine Below.setCell ?_ ?_ _) | go_size))⟩
        · obtain ⟨j, rfl⟩ : ∃ j, k = j + 1 := ⟨k - 1, by omega⟩
          obtain ⟨y, hy⟩ := get_lt (xs := xs) (i := j) (by rw [HN.out]; omega)
          obtain ⟨_, e0, hb0⟩ := HX.out j y hy
          cases e0
          obtain ⟨b0, b1⟩ := (hb0.below hb).two
          have HP := Lib.hid (show prev xs (j + 1) = some y by simp [prev, hy])
          have EQ := eqB_Spn x y
          have d1 : decide ((0 : Int) < (j : Int) + 1) = true := decide_eq_true (by omega)
          have d2 : (j : Int) < (n : Int) := by omega
          have d4 := World.block_lt_of_cell? wr _ b0
          have d3 : IntKind.i64.wrap (j : Int) = (j : Int) := IntWalk.i64_in _ ⟨by omega, by omega⟩
          clear hy hb0
          rcases q3 : decide (x.a < y.b) with _ | _
          · rcases q4 : decide (x = y) with _ | _
            all_goals
              rw [q4] at EQ
              go_wp2_with (first | (go_at_call 37; first | (with_reducible refine l1In_c _ _ _ _ q1 _ _ ?_) | (with_reducible refine l1In_c _ _ _ _ q2 _ _ ?_)))
              go_quiet (fail)
              go_wp2
              clear EQ d3
            · go_roundg (n - (j + 1 + 1))
              case measure => omega
              case rel => exact ⟨j + 2, rfl, by omega, by go_num, (by simp only [Hid, HS.out, spF_def, q1, q2, HP.out, q4]; rw [if_pos (by simpa using q3)]), by (repeat' (first | (with_reducible exact Below.refl _ _) | (with_reducible assumption) | (with_reducible refine Below.alloc ?_ ?_ _) | (with_reducible refine bdN ?_ _) | (with_reducible refine Below.drew ?_) | (with_reducible refine Below.setCell ?_ ?_ _) | go_size))⟩
            · go_ret
              exact retI (h _ (by (repeat' (first | (with_reducible exact Below.refl _ _) | (with_reducible assumption) | (with_reducible refine Below.alloc ?_ ?_ _) | (with_reducible refine bdN ?_ _) | (with_reducible refine Below.drew ?_) | (with_reducible refine Below.setCell ?_ ?_ _) | go_size)))) (by rw [HS.out, spF_def, q1, q2, HP.out]; simp [q4])
          · go_wp2_with (first | (go_at_call 37; first | (with_reducible refine l1In_c _ _ _ _ q1 _ _ ?_) | (with_reducible refine l1In_c _ _ _ _ q2 _ _ ?_)))
            go_quiet (fail)
            go_wp2
            clear EQ d3
            go_ret
            exact retI (h _ (by (repeat' (first | (with_reducible exact Below.refl _ _) | (with_reducible assumption) | (with_reducible refine Below.alloc ?_ ?_ _) | (with_reducible refine bdN ?_ _) | (with_reducible refine Below.drew ?_) | (with_reducible refine Below.setCell ?_ ?_ _) | go_size)))) (by rw [HS.out, spF_def, q1, q2, HP.out]; simp [show ¬ y.b ≤ x.a from by simpa using q3])
      · have : k = n := by omega
        subst this
        go_wp2
        go_ret
        exact retI (h _ hb) (by rw [HE.out, List.drop_of_length_le (by rw [HN.out]; exact Nat.le_refl _)]; rfl)
end Go.Proofs.Ytfghdealphdedaa
