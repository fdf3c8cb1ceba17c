/- States of the pager: comparisons and marks of the laws' helpers. -/
import Derived.Test.YtfghdealphdedaaLayout
import Derived.Test.YtfghdealphdedaaFamSpot
namespace Go.Proofs.Ytfghdealphdedaa
open Go.RowKit
structure Sta where
  h : Int
  lay : Lay
  sp : Spt
  pat : ByteArray
  note : ByteArray
  fol : Bool
deriving DecidableEq
abbrev staV (s : Sta) (m : Value) : Value := .agg #[.int .i64 s.h, .int .i64 s.lay.wd, .bool s.lay.ch, .int .i64 s.lay.sh, .int .i64 s.sp.a, .int .i64 s.sp.b, .string s.pat, .string s.note, m, .bool s.fol]
abbrev starV (c : Int) (s : Sta) (m : Value) : Value := .agg #[.int .i64 c, .int .i64 s.h, .int .i64 s.lay.wd, .bool s.lay.ch, .int .i64 s.lay.sh, .int .i64 s.sp.a, .int .i64 s.sp.b, .string s.pat, .string s.note, m, .bool s.fol]
def sta0 : Sta := ⟨0, ⟨0, false, 0⟩, ⟨0, 0⟩, ⟨#[]⟩, ⟨#[]⟩, false⟩
theorem eqLayout_c (x y : Lay) (q : Bool) (hq : decide (x = y) = q) (w : World) (R : Ending → World → Prop) (h : ∀ w', Below w.heap.size w w' → R (.returned (.bool q)) w') :
    Calls Try.prog 52 #[.agg #[.int .i64 x.wd, .bool x.ch, .int .i64 x.sh], .agg #[.int .i64 y.wd, .bool y.ch, .int .i64 y.sh]] w R := by
  obtain ⟨a, b, c⟩ := x
  obtain ⟨a', b', c'⟩ := y
  subst hq
  (change Calls _ _ _ _ (Fin R); go_enter Try.func52, Try.ntmps52)
  go_wp2
  all_goals (go_ret; refine retB (h _ (by (repeat' (first | (with_reducible exact Below.refl _ _) | (with_reducible assumption) | (with_reducible refine Below.alloc ?_ ?_ _) | (with_reducible refine bdN ?_ _) | (with_reducible refine Below.drew ?_) | (with_reducible refine Below.setCell ?_ ?_ _) | go_size)))) ?_; simp_all)
set_option maxHeartbeats 2000000 in
theorem eqState_same (s : Sta) (A B : Option Addr) (c d : Nat) (xs : List Spt) (w : World) (hx : Row eSpt 2 w A xs) (hy : Row eSpt 2 w B xs) (hc : xs.length ≤ c) (hd : xs.length ≤ d) (hm : c ≤ maxLen)
    (R : Ending → World → Prop) (h : ∀ w', Below w.heap.size w w' → R (.returned (.bool true)) w') :
    Calls Try.prog 38 #[staV s (.slice A xs.length c), staV s (.slice B xs.length d)] w R := by
  obtain ⟨ht, ⟨lw, lc, ls⟩, ⟨sa, sb⟩, pt, nt, fl⟩ := s
  have HX := Lib.hid hx
  have HY := Lib.hid hy
  clear hx hy
  obtain ⟨W1, hW1⟩ : ∃ W1, W1 = (w.alloc (Obj.cells #[.int .i64 ht, .int .i64 lw, .bool lc, .int .i64 ls, .int .i64 sa, .int .i64 sb, .string pt, .string nt, .slice A xs.length c, .bool fl] 46)).alloc (Obj.cells #[.int .i64 ht, .int .i64 lw, .bool lc, .int .i64 ls, .int .i64 sa, .int .i64 sb, .string pt, .string nt, .slice B xs.length d, .bool fl] 46) := ⟨_, rfl⟩
  have B1 := blk_alloc (blk_new w #[.int .i64 ht, .int .i64 lw, .bool lc, .int .i64 ls, .int .i64 sa, .int .i64 sb, .string pt, .string nt, .slice A xs.length c, .bool fl] 46) (by simp) (Obj.cells #[.int .i64 ht, .int .i64 lw, .bool lc, .int .i64 ls, .int .i64 sa, .int .i64 sb, .string pt, .string nt, .slice B xs.length d, .bool fl] 46)
  have B2 := blk_new (w.alloc (Obj.cells #[.int .i64 ht, .int .i64 lw, .bool lc, .int .i64 ls, .int .i64 sa, .int .i64 sb, .string pt, .string nt, .slice A xs.length c, .bool fl] 46)) #[.int .i64 ht, .int .i64 lw, .bool lc, .int .i64 ls, .int .i64 sa, .int .i64 sb, .string pt, .string nt, .slice B xs.length d, .bool fl] 46
  rw [← hW1] at B1 B2
  rw [size_alloc] at B2
  have HW : Below w.heap.size w W1 := by rw [hW1]; (repeat' (first | (with_reducible exact Below.refl _ _) | (with_reducible assumption) | (with_reducible refine Below.alloc ?_ ?_ _) | (with_reducible refine bdN ?_ _) | (with_reducible refine Below.drew ?_) | (with_reducible refine Below.setCell ?_ ?_ _) | go_size))
  have hz : w.heap.size + 2 = W1.heap.size := by rw [hW1]; simp
  have H1 := Lib.hid hW1
  have HB1 := Lib.hid B1
  have HB2 := Lib.hid B2
  clear hW1 B1 B2
  (change Calls _ _ _ _ (Fin R); go_enter Try.func38, Try.ntmps38)
  go_wp2_with (fail)
  rw [← H1.out]
  refine eqLayout_c ⟨lw, lc, ls⟩ ⟨lw, lc, ls⟩ true (decide_eq_true rfl) _ _ ?_
  intro w1 hb1
  have B1 := blk_keep HB1.out (by omega) hb1
  have B2 := blk_keep HB2.out (by omega) hb1
  have HC := HW.trans (hb1.mono HW.size)
  have hz1 := hb1.size
  have Hz := Lib.hid hz
  clear hz
  go_wp2_with (fail)
  refine eqSpot_c ⟨sa, sb⟩ ⟨sa, sb⟩ true (decide_eq_true rfl) _ _ ?_
  intro w2 hb2
  replace B1 := blk_keep B1 (by have := Hz.out; omega) hb2
  replace B2 := blk_keep B2 (by have := Hz.out; omega) hb2
  have HC2 := HC.trans (hb2.mono HC.size)
  have hz2 := hb2.size
  go_wp2_with (fail)
  refine eqSpotS_c A B c d xs xs _ (HX.out.below HC2) (HY.out.below HC2) hc hd hm true (decide_eq_true rfl) _ ?_
  intro w3 hb3
  replace B1 := blk_keep B1 (by have := Hz.out; omega) hb3
  replace B2 := blk_keep B2 (by have := Hz.out; omega) hb3
  go_wp2_with (fail)
  go_ret
  exact retB (h _ (HC2.trans (hb3.mono HC2.size))) (by simp)
set_option maxHeartbeats 2000000 in
theorem eqStateResult_same (k : Int) (s : Sta) (A B : Option Addr) (c d : Nat) (xs : List Spt) (w : World) (hx : Row eSpt 2 w A xs) (hy : Row eSpt 2 w B xs) (hc : xs.length ≤ c) (hd : xs.length ≤ d) (hm : c ≤ maxLen)
    (R : Ending → World → Prop) (h : ∀ w', Below w.heap.size w w' → R (.returned (.bool true)) w') :
    Calls Try.prog 22 #[starV k s (.slice A xs.length c), starV k s (.slice B xs.length d)] w R := by
  have HX := Lib.hid hx
  have HY := Lib.hid hy
  clear hx hy
  (change Calls _ _ _ _ (Fin R); go_enter Try.func22, Try.ntmps22)
  go_wp2_with (fail)
  refine eqState_same s A B c d xs _ (HX.out.below (by (repeat' (first | (with_reducible exact Below.refl _ _) | (with_reducible assumption) | (with_reducible refine Below.alloc ?_ ?_ _) | (with_reducible refine bdN ?_ _) | (with_reducible refine Below.drew ?_) | (with_reducible refine Below.setCell ?_ ?_ _) | go_size)))) (HY.out.below (by (repeat' (first | (with_reducible exact Below.refl _ _) | (with_reducible assumption) | (with_reducible refine Below.alloc ?_ ?_ _) | (with_reducible refine bdN ?_ _) | (with_reducible refine Below.drew ?_) | (with_reducible refine Below.setCell ?_ ?_ _) | go_size)))) hc hd hm _ ?_
  intro w1 hb1
  have HC : Below w.heap.size w w1 := Below.trans (by (repeat' (first | (with_reducible exact Below.refl _ _) | (with_reducible assumption) | (with_reducible refine Below.alloc ?_ ?_ _) | (with_reducible refine bdN ?_ _) | (with_reducible refine Below.drew ?_) | (with_reducible refine Below.setCell ?_ ?_ _) | go_size))) (hb1.mono (by simp; omega))
  go_wp2_with (fail)
  go_ret
  exact h _ HC
theorem markState_c (s : Sta) (v : Value) (xs : List Spt) (e base : Nat) (k : Int) (w : World) (ho : Own eSpt 2 e w base v xs) (hm : xs.length ≤ 281474976710656) (hk0 : 0 ≤ k) (hk : k ≤ 1125899906842624)
    (R : Ending → World → Prop) (h : ∀ w' ys, Own eSpt 2 e w' base v ys → ys.length = xs.length → Mkd mkSpt 2 k ys → w.grownBy w' v.ownBlock → R (.returned (.int .i64 (k + 2 * xs.length))) w') :
    Calls Try.prog 39 #[staV s v, .int .i64 k] w R := by
  obtain ⟨A, c, rfl, hc, hcm, hr⟩ := ho.row
  have HO := Lib.hid ho
  clear ho hr
  (change Calls _ _ _ _ (Fin R); go_enter Try.func39, Try.ntmps39)
  go_wp2_with (fail)
  refine markSpotS_c _ xs e base k _ (HO.out.alloc _) hm hk0 hk _ ?_
  intro w1 ys h1 h2 h3 h4
  have H1 := h _ ys h1 h2 h3 (grown_trans' (World.grownBy_alloc _ _ _) h4)
  clear h1 h2 h3 h4 h
  go_wp2_with (fail)
  go_ret
  exact H1
theorem markStateResult_c (k0 : Int) (s : Sta) (v : Value) (xs : List Spt) (e base : Nat) (k : Int) (w : World) (ho : Own eSpt 2 e w base v xs) (hm : xs.length ≤ 281474976710656) (hk0 : 0 ≤ k) (hk : k ≤ 1125899906842624)
    (R : Ending → World → Prop) (h : ∀ w' ys, Own eSpt 2 e w' base v ys → ys.length = xs.length → Mkd mkSpt 2 k ys → w.grownBy w' v.ownBlock → R (.returned (.int .i64 (k + 2 * xs.length))) w') :
    Calls Try.prog 23 #[starV k0 s v, .int .i64 k] w R := by
  have HO := Lib.hid ho
  clear ho
  (change Calls _ _ _ _ (Fin R); go_enter Try.func23, Try.ntmps23)
  go_wp2_with (fail)
  refine markState_c s v xs e base k _ (HO.out.alloc _) hm hk0 hk _ ?_
  intro w1 ys h1 h2 h3 h4
  have H1 := h _ ys h1 h2 h3 (grown_trans' (World.grownBy_alloc _ _ _) h4)
  clear h1 h2 h3 h4 h
  go_wp2_with (fail)
  go_ret
  exact H1
theorem heldState_c (s : Sta) (A : Option Addr) (c : Nat) (xs : List Spt) (k : Int) (w : World) (hx : Row eSpt 2 w A xs) (hM : Mkd mkSpt 2 k xs) (hc : xs.length ≤ c) (hm : xs.length ≤ 281474976710656) (hk0 : 0 ≤ k) (hk : k ≤ 1125899906842624)
    (R : Ending → World → Prop) (h : ∀ w', Below w.heap.size w w' → R (.returned (.int .i64 (k + 2 * xs.length))) w') :
    Calls Try.prog 40 #[staV s (.slice A xs.length c), .int .i64 k] w R := by
  have HX := Lib.hid hx
  have HM := Lib.hid hM
  clear hx hM
  (change Calls _ _ _ _ (Fin R); go_enter Try.func40, Try.ntmps40)
  go_wp2_with (fail)
  refine heldSpotS_c A c xs k _ (HX.out.below (by (repeat' (first | (with_reducible exact Below.refl _ _) | (with_reducible assumption) | (with_reducible refine Below.alloc ?_ ?_ _) | (with_reducible refine bdN ?_ _) | (with_reducible refine Below.drew ?_) | (with_reducible refine Below.setCell ?_ ?_ _) | go_size)))) HM.out hc hm hk0 hk _ ?_
  intro w1 hb1
  have HC : Below w.heap.size w w1 := Below.trans (by (repeat' (first | (with_reducible exact Below.refl _ _) | (with_reducible assumption) | (with_reducible refine Below.alloc ?_ ?_ _) | (with_reducible refine bdN ?_ _) | (with_reducible refine Below.drew ?_) | (with_reducible refine Below.setCell ?_ ?_ _) | go_size))) (hb1.mono (by simp))
  go_wp2_with (fail)
  go_ret
  exact h _ HC
theorem heldStateResult_c (k0 : Int) (s : Sta) (A : Option Addr) (c : Nat) (xs : List Spt) (k : Int) (w : World) (hx : Row eSpt 2 w A xs) (hM : Mkd mkSpt 2 k xs) (hc : xs.length ≤ c) (hm : xs.length ≤ 281474976710656) (hk0 : 0 ≤ k) (hk : k ≤ 1125899906842624)
    (R : Ending → World → Prop) (h : ∀ w', Below w.heap.size w w' → R (.returned (.int .i64 (k + 2 * xs.length))) w') :
    Calls Try.prog 24 #[starV k0 s (.slice A xs.length c), .int .i64 k] w R := by
  have HX := Lib.hid hx
  have HM := Lib.hid hM
  clear hx hM
  (change Calls _ _ _ _ (Fin R); go_enter Try.func24, Try.ntmps24)
  go_wp2_with (fail)
  refine heldState_c s A c xs k _ (HX.out.below (by (repeat' (first | (with_reducible exact Below.refl _ _) | (with_reducible assumption) | (with_reducible refine Below.alloc ?_ ?_ _) | (with_reducible refine bdN ?_ _) | (with_reducible refine Below.drew ?_) | (with_reducible refine Below.setCell ?_ ?_ _) | go_size)))) HM.out hc hm hk0 hk _ ?_
  intro w1 hb1
  have HC : Below w.heap.size w w1 := Below.trans (by (repeat' (first | (with_reducible exact Below.refl _ _) | (with_reducible assumption) | (with_reducible refine Below.alloc ?_ ?_ _) | (with_reducible refine bdN ?_ _) | (with_reducible refine Below.drew ?_) | (with_reducible refine Below.setCell ?_ ?_ _) | go_size))) (hb1.mono (by simp))
  go_wp2_with (fail)
  go_ret
  exact h _ HC
def newF (h wd : Int) : Bool := inB h 1 12 && inB wd 4 40
def newS (h wd : Int) : Sta := if newF h wd then ⟨h, ⟨wd, false, 0⟩, ⟨0, 0⟩, ⟨#[]⟩, ⟨#[]⟩, false⟩ else sta0
def newM (h wd : Int) : List Spt := if newF h wd then List.replicate 4 ⟨0, 0⟩ else []
theorem info_spot : (Try.prog.info? 43).map (fun i => (i.zero, i.size, i.bytes)) = some (some (.agg #[.int .i64 0, .int .i64 0]), 2, 16) := by kernel_rfl
theorem s_NewState_c (a b : Int) (w : World) (R : Ending → World → Prop)
    (c : Int) (hc : (if newF a b then 0 else 3) = c) (s : Sta) (hs : newS a b = s) (M : List Spt) (hM : newM a b = M)
    (h : ∀ v w', Own eSpt 2 43 w' w.heap.size v M → Below w.heap.size w w' → R (.returned (starV c s v)) w') :
    Calls Try.prog 20 #[.int .i64 a, .int .i64 b] w R := by
  subst hc hs hM
  have H := Lib.hid h
  clear h
  rcases q1 : inB a 1 12 with _ | _ <;> rcases q2 : inB b 4 40 with _ | _
  all_goals
    have hF : newF a b = (inB a 1 12 && inB b 4 40) := rfl
    rw [q1, q2] at hF
    (change Calls _ _ _ _ (Fin R); go_enter Try.func20, Try.ntmps20)
    go_wp2_with (first | (go_at_call 37; first | (with_reducible refine l1In_c _ _ _ _ q1 _ _ ?_) | (with_reducible refine l1In_c _ _ _ _ q2 _ _ ?_)) | (at_make; refine wp_makeL eSpt 2 _ (w.heap.size + 1) rfl 4 44 43 rfl Try.underlying44 (.agg #[.int .i64 0, .int .i64 0]) 16 info_spot ⟨0, 0⟩ rfl rfl (by decide) 4 rfl (by decide) (by unfold maxLen; omega) (by (repeat' (first | (with_reducible exact Below.refl _ _) | (with_reducible assumption) | (with_reducible refine Below.alloc ?_ ?_ _) | (with_reducible refine bdN ?_ _) | (with_reducible refine Below.drew ?_) | (with_reducible refine Below.setCell ?_ ?_ _) | go_size))) ?_; intro g w1 hown hb1; obtain ⟨B1, B2, B3, B4⟩ := box_new (w := w) (w1 := w1) #[.int .i64 0, .int .i64 0, .int .i64 0, .bool false, .int .i64 0, .int .i64 0, .int .i64 0, .string ByteArray.empty, .string ByteArray.empty, .slice none 0 0, .bool false] 48 ⟨hb1.os, hb1.tape, hb1.output, hb1.size, hb1.block⟩; have HO := Lib.hid hown; clear hown hb1))

  · go_returns
    refine retV (H.out (.slice none 0 0) _ ?_ (by (repeat' (first | (with_reducible exact Below.refl _ _) | (with_reducible assumption) | (with_reducible refine Below.alloc ?_ ?_ _) | (with_reducible refine bdN ?_ _) | (with_reducible refine Below.drew ?_) | (with_reducible refine Below.setCell ?_ ?_ _) | go_size)))) ?_
    · simpa [newM, hF] using (Own.nil ..)
    · simp [newS, hF, sta0]
  · go_returns
    refine retV (H.out (.slice none 0 0) _ ?_ (by (repeat' (first | (with_reducible exact Below.refl _ _) | (with_reducible assumption) | (with_reducible refine Below.alloc ?_ ?_ _) | (with_reducible refine bdN ?_ _) | (with_reducible refine Below.drew ?_) | (with_reducible refine Below.setCell ?_ ?_ _) | go_size)))) ?_
    · simpa [newM, hF] using (Own.nil ..)
    · simp [newS, hF, sta0]
  · go_returns
    refine retV (H.out (.slice none 0 0) _ ?_ (by (repeat' (first | (with_reducible exact Below.refl _ _) | (with_reducible assumption) | (with_reducible refine Below.alloc ?_ ?_ _) | (with_reducible refine bdN ?_ _) | (with_reducible refine Below.drew ?_) | (with_reducible refine Below.setCell ?_ ?_ _) | go_size)))) ?_
    · simpa [newM, hF] using (Own.nil ..)
    · simp [newS, hF, sta0]
  · (refine bodyPost_ret (by simp [results, Try.results20, go_sem, B1]; try rfl) rfl ?_)
    refine retV (H.out (.slice (some ⟨g, 0, none⟩) 4 4) _ ?_ (by (repeat' (first | (with_reducible exact Below.refl _ _) | (with_reducible assumption) | (with_reducible refine Below.alloc ?_ ?_ _) | (with_reducible refine bdN ?_ _) | (with_reducible refine Below.drew ?_) | (with_reducible refine Below.setCell ?_ ?_ _) | go_size)))) ?_
    · have hlt := HO.out.lt'
      have hne : w.heap.size ≠ g := by omega
      simp only [newM, hF, Bool.and_self, if_true]
      refine Own.lower ?_ (Nat.le_succ _)
      repeat refine Own.other ?_ hne _ _
      exact HO.out
    · simp [newS, hF]
theorem i_NewState_c (a b : Int) (w : World) (R : Ending → World → Prop)
    (c : Int) (hc : (if newF a b then 0 else 3) = c) (s : Sta) (hs : newS a b = s) (M : List Spt) (hM : newM a b = M)
    (h : ∀ v w', Own eSpt 2 43 w' w.heap.size v M → Below w.heap.size w w' → R (.returned (starV c s v)) w') :
    Calls Try.prog 21 #[.int .i64 a, .int .i64 b] w R := by
  subst hc hs hM
  have H := Lib.hid h
  clear h
  rcases q1 : inB a 1 12 with _ | _ <;> rcases q2 : inB b 4 40 with _ | _
  all_goals
    have hF : newF a b = (inB a 1 12 && inB b 4 40) := rfl
    rw [q1, q2] at hF
    (change Calls _ _ _ _ (Fin R); go_enter Try.func21, Try.ntmps21)
    go_wp2_with (first | (go_at_call 31; first | (with_reducible refine within_c _ _ _ _ q1 _ _ ?_) | (with_reducible refine within_c _ _ _ _ q2 _ _ ?_)) | (at_make; refine wp_makeL eSpt 2 _ (w.heap.size + 1) rfl 4 44 43 rfl Try.underlying44 (.agg #[.int .i64 0, .int .i64 0]) 16 info_spot ⟨0, 0⟩ rfl rfl (by decide) 4 rfl (by decide) (by unfold maxLen; omega) (by (repeat' (first | (with_reducible exact Below.refl _ _) | (with_reducible assumption) | (with_reducible refine Below.alloc ?_ ?_ _) | (with_reducible refine bdN ?_ _) | (with_reducible refine Below.drew ?_) | (with_reducible refine Below.setCell ?_ ?_ _) | go_size))) ?_; intro g w1 hown hb1; obtain ⟨B1, B2, B3, B4⟩ := box_new (w := w) (w1 := w1) #[.int .i64 0, .int .i64 0, .int .i64 0, .bool false, .int .i64 0, .int .i64 0, .int .i64 0, .string ByteArray.empty, .string ByteArray.empty, .slice none 0 0, .bool false] 48 ⟨hb1.os, hb1.tape, hb1.output, hb1.size, hb1.block⟩; have HO := Lib.hid hown; clear hown hb1))

  · go_returns
    refine retV (H.out (.slice none 0 0) _ ?_ (by (repeat' (first | (with_reducible exact Below.refl _ _) | (with_reducible assumption) | (with_reducible refine Below.alloc ?_ ?_ _) | (with_reducible refine bdN ?_ _) | (with_reducible refine Below.drew ?_) | (with_reducible refine Below.setCell ?_ ?_ _) | go_size)))) ?_
    · simpa [newM, hF] using (Own.nil ..)
    · simp [newS, hF, sta0]
  · go_returns
    refine retV (H.out (.slice none 0 0) _ ?_ (by (repeat' (first | (with_reducible exact Below.refl _ _) | (with_reducible assumption) | (with_reducible refine Below.alloc ?_ ?_ _) | (with_reducible refine bdN ?_ _) | (with_reducible refine Below.drew ?_) | (with_reducible refine Below.setCell ?_ ?_ _) | go_size)))) ?_
    · simpa [newM, hF] using (Own.nil ..)
    · simp [newS, hF, sta0]
  · go_returns
    refine retV (H.out (.slice none 0 0) _ ?_ (by (repeat' (first | (with_reducible exact Below.refl _ _) | (with_reducible assumption) | (with_reducible refine Below.alloc ?_ ?_ _) | (with_reducible refine bdN ?_ _) | (with_reducible refine Below.drew ?_) | (with_reducible refine Below.setCell ?_ ?_ _) | go_size)))) ?_
    · simpa [newM, hF] using (Own.nil ..)
    · simp [newS, hF, sta0]
  · (refine bodyPost_ret (by simp [results, Try.results21, go_sem, B1]; try rfl) rfl ?_)
    refine retV (H.out (.slice (some ⟨g, 0, none⟩) 4 4) _ ?_ (by (repeat' (first | (with_reducible exact Below.refl _ _) | (with_reducible assumption) | (with_reducible refine Below.alloc ?_ ?_ _) | (with_reducible refine bdN ?_ _) | (with_reducible refine Below.drew ?_) | (with_reducible refine Below.setCell ?_ ?_ _) | go_size)))) ?_
    · have hlt := HO.out.lt'
      have hne : w.heap.size ≠ g := by omega
      simp only [newM, hF, Bool.and_self, if_true]
      refine Own.lower ?_ (Nat.le_succ _)
      repeat refine Own.other ?_ hne _ _
      exact HO.out
    · simp [newS, hF]
end Go.Proofs.Ytfghdealphdedaa
