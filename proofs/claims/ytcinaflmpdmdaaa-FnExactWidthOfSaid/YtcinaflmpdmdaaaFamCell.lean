/- Contracts of the laws' helpers over Cell: copies, comparisons, sizes, marks. -/
import Derived.Test.YtcinaflmpdmdaaaProg
import Derived.Test.YtcinaflmpdmdaaaMem
namespace Go.Proofs.Ytcinaflmpdmdaaa
open Go.RowKit
structure Cel where
  a : Int
  b : Int
  c : Int
deriving DecidableEq
def eCel (x : Cel) : List Value := [.int .i64 x.a, .int .i64 x.b, .int .i64 x.c]
theorem eCel_len (x : Cel) : (eCel x).length = 3 := rfl
set_option maxHeartbeats 1000000 in
theorem eqCell_c (x y : Cel) (q : Bool) (hq : decide (x = y) = q) (w : World) (R : Ending → World → Prop) (h : ∀ w', Below w.heap.size w w' → R (.returned (.bool q)) w') :
    Calls Try.prog 102 #[.agg #[.int .i64 x.a, .int .i64 x.b, .int .i64 x.c], .agg #[.int .i64 y.a, .int .i64 y.b, .int .i64 y.c]] w R := by
  obtain ⟨a, b, c⟩ := x
  obtain ⟨a', b', c'⟩ := y
  subst hq
  (change Calls _ _ _ _ (Fin R); go_enter Try.func102, Try.ntmps102)
  go_wp2
  all_goals (go_ret; refine retB (h _ (by (repeat' (first | (with_reducible exact Below.refl _ _) | (with_reducible assumption) | (with_reducible refine Below.alloc ?_ ?_ _) | (with_reducible refine bdN ?_ _) | (with_reducible refine Below.drew ?_) | (with_reducible refine Below.setCell ?_ ?_ _) | go_size)))) ?_; simp_all)
set_option maxHeartbeats 1000000 in
theorem eqCellS_c (A B : Option Addr) (c d : Nat) (xs ys : List Cel) (w : World) (hx : Row eCel 3 w A xs) (hy : Row eCel 3 w B ys) (hc : xs.length ≤ c) (hd : ys.length ≤ d) (hm : c ≤ maxLen) (q : Bool) (hq : decide (xs = ys) = q)
    (R : Ending → World → Prop) (h : ∀ w', Below w.heap.size w w' → R (.returned (.bool q)) w') :
    Calls Try.prog 64 #[.slice A xs.length c, .slice B ys.length d] w R := by
  have HX := Lib.hid hx
  have HY := Lib.hid hy
  have HQ := Lib.hid hq
  clear hx hy hq
  obtain ⟨n, hn⟩ : ∃ n, xs.length = n := ⟨_, rfl⟩
  obtain ⟨m, hm'⟩ : ∃ m, ys.length = m := ⟨_, rfl⟩
  rw [hn] at hc ⊢
  rw [hm'] at hd ⊢
  have HN := Lib.hid hn
  have HM := Lib.hid hm'
  clear hn hm'
  unfold maxLen at hm
  by_cases hnm : n = m
  · subst hnm
    (change Calls _ _ _ _ (Fin R); go_enter Try.func64, Try.ntmps64)
    go_wp2
    go_loopg [5] n (fun g i wr => ∃ k : Nat, g = n - k ∧ k ≤ n ∧ i = .int .i64 k ∧ Hid (∀ j, j < k → xs[j]? = ys[j]?) ∧ Below w.heap.size w wr)
    case atStart => exact ⟨0, rfl, by omega, rfl, fun j hj => by omega, Below.refl _ _⟩
    case round =>
      obtain ⟨k, rfl, hk, rfl, HE, hb⟩ := hrel
      by_cases hlt : k < n
      · obtain ⟨x, hx⟩ := get_lt (xs := xs) (i := k) (by rw [HN.out]; exact hlt)
        obtain ⟨y, hy⟩ := get_lt (xs := ys) (i := k) (by rw [HM.out]; exact hlt)
        obtain ⟨ad, rfl, ha⟩ := HX.out k x hx
        obtain ⟨bd, rfl, hb'⟩ := HY.out k y hy
        obtain ⟨a0, a1, a2⟩ := (ha.below hb).three
        obtain ⟨b0, b1, b2⟩ := (hb'.below hb).three
        have HXX := Lib.hid hx
        have HYY := Lib.hid hy
        clear hx hy ha hb'
        rcases hxy : decide (x = y) with _ | _
        all_goals
          go_wp2_with (fail)
          go_region_held3 (fun w' => ∀ p, (wr.cell? p).isSome = true → w'.cell? p = wr.cell? p) (first | exact keeps_refl _ | exact keeps_below (below_drew hb1)) (first | (go_at_call 102; refine eqCell_c x y _ hxy _ _ ?_; intro w1 hb1))
          have hb2 := hb.trans ((below_drew hb1).mono hb.size)
          clear a0 a1 a2 b0 b1 b2
        · go_wp2
          go_ret
          refine retB (h _ hb2) ?_
          rw [← HQ.out, eq_comm, decide_eq_false_iff_not]
          rintro rfl
          exact of_decide_eq_false hxy (Option.some.inj (HXX.out.symm.trans HYY.out))
        · go_wp2
          go_roundg (n - (k + 1))
          case measure => omega
          case rel =>
            refine ⟨k + 1, rfl, by omega, by go_num, fun j hj => ?_, hb2⟩
            by_cases hjk : j = k
            · rw [hjk, HXX.out, HYY.out, of_decide_eq_true hxy]
            · exact HE.out j (by omega)
      · have : k = n := by omega
        subst this
        go_wp2
        go_ret
        refine retB (h _ hb) ?_
        rw [← HQ.out, eq_comm, decide_eq_true_eq]
        exact List.ext_getElem? fun j => by
          by_cases hj : j < k
          · exact HE.out j hj
          · rw [List.getElem?_eq_none (by rw [HN.out]; omega), List.getElem?_eq_none (by rw [HM.out]; omega)]
  · (change Calls _ _ _ _ (Fin R); go_enter Try.func64, Try.ntmps64)
    go_wp2
    go_ret
    refine retB (h _ (Below.refl _ _)) ?_
    rw [← HQ.out, eq_comm, decide_eq_false_iff_not]
    rintro rfl
    exact hnm (HN.out.symm.trans HM.out)
def mkCel (k : Int) : Cel := ⟨k, k + 1, k + 1 + 1⟩
set_option maxHeartbeats 1000000 in
theorem markCellS_c (v : Value) (xs : List Cel) (e base : Nat) (k : Int) (w : World) (ho : Own eCel 3 e w base v xs) (hm : xs.length ≤ 281474976710656) (hk0 : 0 ≤ k) (hk : k ≤ 1125899906842624)
    (R : Ending → World → Prop) (h : ∀ w' ys, Own eCel 3 e w' base v ys → ys.length = xs.length → Mkd mkCel 3 k ys → w.grownBy w' v.ownBlock → R (.returned (.int .i64 (k + 3 * xs.length))) w') :
    Calls Try.prog 65 #[v, .int .i64 k] w R := by
  obtain ⟨n, hn⟩ : ∃ n, xs.length = n := ⟨_, rfl⟩
  rcases Nat.eq_zero_or_pos n with h0 | h0
  · obtain ⟨A, c, rfl, hc, hcm, hr⟩ := ho.row
    rw [hn, h0] at hc ⊢
    have HN := Lib.hid hn
    have HO := Lib.hid ho
    have H0 := Lib.hid h0
    have HH := Lib.hid h
    clear hn ho h0 hr h
    (change Calls _ _ _ _ (Fin R); go_enter Try.func65, Try.ntmps65)
    refine wp_mono ?_ (fun _ _ _ q => q)
    go_wp2
    go_rounds 1
    go_ret
    have := HH.out _ xs HO.out rfl (fun j y hy => by rw [List.eq_nil_of_length_eq_zero (HN.out.trans H0.out)] at hy; simp at hy) (World.grownBy.refl _ _)
    rw [HN.out, H0.out] at this
    exact retI this (by simp)
  · obtain ⟨g, c, rfl, hg1, hg2, hc, hcm⟩ := ho.shape (by rw [hn]; exact h0)
    rw [hn] at hc hm ho h ⊢
    have HN := Lib.hid hn
    have HH := Lib.hid h
    clear hn h
    (change Calls _ _ _ _ (Fin R); go_enter Try.func65, Try.ntmps65)
    go_wp2
    go_loopg [1, 5] n (fun gk v1 i wr => ∃ (j : Nat) (ys : List Cel) (q : Int), gk = n - j ∧ j ≤ n ∧ i = .int .i64 j ∧ v1 = .int .i64 q ∧ Hid (q = k + 3 * j) ∧ 0 ≤ q ∧ q ≤ 2251799813685248 ∧ Own eCel 3 e wr base (.slice (some ⟨g, 0, none⟩) n c) ys ∧ Hid (∀ (i : Nat) y, i < j → ys[i]? = some y → y = mkCel (k + 3 * i)) ∧ w.grownBy wr (some g))
    case atStart => exact ⟨0, xs, k, rfl, by omega, rfl, rfl, (by simp [Hid]), hk0, by omega, ho, fun i y hi => by omega, World.grownBy.refl _ _⟩
    case round =>
      obtain ⟨j, ys, q, rfl, hj, rfl, rfl, HQ, hq0, hq1, ho, HM, hgr⟩ := hrel
      have hlen := Lib.hid ho.len
      by_cases hlt : j < n
      · obtain ⟨y, hy⟩ := get_lt (xs := ys) (i := j) (by rw [hlen.out]; exact hlt)
        obtain ⟨b0, b1, b2⟩ := (ho.at_ hy).three
        have f0 := ho.free (j * 3); have f1 := ho.free (j * 3 + 1); have f2 := ho.free (j * 3 + 2)
        have HO := Lib.hid ho
        clear hy ho
        go_wp2
        obtain ⟨hown2, hg2⟩ := HO.out.put eCel_len hlt (mkCel q)
        clear b0 b1 b2 f0 f1 f2
        go_roundg (n - (j + 1))
        case measure => omega
        case rel =>
          have hqq := HQ.out
          refine ⟨j + 1, ys.set j (mkCel q), q + 3, rfl, by omega, by go_num, by go_num, (by simp only [Hid]; omega), by omega, by omega, hown2, fun i z hi hz => ?_, grown_trans' hgr hg2⟩
          by_cases hij : i = j
          · subst hij
            rw [List.getElem?_set_self (by rw [hlen.out]; exact hlt)] at hz
            rw [← Option.some.inj hz, hqq]
          · rw [List.getElem?_set_ne (Ne.symm hij)] at hz
            exact HM.out i z (by omega) hz
      · have : j = n := by omega
        subst this
        go_wp2
        go_ret
        refine retI (HH.out _ ys ho hlen.out (fun i z hz => HM.out i z (by have := (List.getElem?_eq_some_iff.1 hz).1; rw [hlen.out] at this; exact this) hz) hgr) HQ.out
set_option maxHeartbeats 1000000 in
theorem heldCellS_c (A : Option Addr) (c : Nat) (xs : List Cel) (k : Int) (w : World) (hx : Row eCel 3 w A xs) (hM : Mkd mkCel 3 k xs) (hc : xs.length ≤ c) (hm : xs.length ≤ 281474976710656) (hk0 : 0 ≤ k) (hk : k ≤ 1125899906842624)
    (R : Ending → World → Prop) (h : ∀ w', Below w.heap.size w w' → R (.returned (.int .i64 (k + 3 * xs.length))) w') :
    Calls Try.prog 66 #[.slice A xs.length c, .int .i64 k] w R := by
  have HX := Lib.hid hx
  have HM := Lib.hid hM
  clear hx hM
  obtain ⟨n, hn⟩ : ∃ n, xs.length = n := ⟨_, rfl⟩
  rw [hn] at hc hm h ⊢
  have HN := Lib.hid hn
  have HH := Lib.hid h
  clear hn h
  (change Calls _ _ _ _ (Fin R); go_enter Try.func66, Try.ntmps66)
  go_wp2
  go_loopg [1, 5] n (fun gk v1 i wr => ∃ (j : Nat) (q : Int), gk = n - j ∧ j ≤ n ∧ i = .int .i64 j ∧ v1 = .int .i64 q ∧ Hid (q = k + 3 * j) ∧ 0 ≤ q ∧ q ≤ 2251799813685248 ∧ Below w.heap.size w wr)
  case atStart => exact ⟨0, k, rfl, by omega, rfl, rfl, (by simp [Hid]), hk0, by omega, Below.refl _ _⟩
  case round =>
    obtain ⟨j, q, rfl, hj, rfl, rfl, HQ, hq0, hq1, hb⟩ := hrel
    by_cases hlt : j < n
    · obtain ⟨y, hy⟩ := get_lt (xs := xs) (i := j) (by rw [HN.out]; exact hlt)
      have hyq := Mkd.congr HM.out hy HQ.out
      rw [hyq] at hy
      clear hyq
      obtain ⟨ad, rfl, ha⟩ := HX.out j _ hy
      have F : wr.cell? (ad.add (j * 3)) = some (.int .i64 q) ∧ wr.cell? ⟨(ad.add (j * 3)).block, (ad.add (j * 3)).off + 1, none⟩ = some (.int .i64 (q + 1)) ∧ wr.cell? ⟨(ad.add (j * 3)).block, (ad.add (j * 3)).off + 2, none⟩ = some (.int .i64 (q + 1 + 1)) := (ha.below hb).three
      obtain ⟨b0, b1, b2⟩ := F
      clear hy ha
      go_wp2
      clear b0 b1 b2
      go_roundg (n - (j + 1))
      case measure => omega
      case rel =>
        have hqq := HQ.out
        exact ⟨j + 1, q + 3, rfl, by omega, by go_num, by go_num, (by simp only [Hid]; omega), by omega, by omega, hb⟩
    · have : j = n := by omega
      subst this
      go_wp2
      go_ret
      exact retI (HH.out _ hb) HQ.out
end Go.Proofs.Ytcinaflmpdmdaaa
