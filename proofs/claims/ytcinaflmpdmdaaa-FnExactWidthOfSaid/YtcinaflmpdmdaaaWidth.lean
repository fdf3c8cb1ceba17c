/- How wide a line is: the program and the reference tell the same. -/
import Derived.Test.YtcinaflmpdmdaaaCellsI
namespace Go.Proofs.Ytcinaflmpdmdaaa
open Go.RowKit
def widF (xs : List Int) : Int × Int := if 400 < xs.length then (2, 0) else (0, (cellsOf xs).length)
theorem isLong_c (A : Option Addr) (n c : Nat) (q : Bool) (hq : decide (400 < n) = q) (w : World) (R : Ending → World → Prop) (h : R (.returned (.bool q)) w) : Calls Try.prog 58 #[.slice A n c] w R := by
  subst hq
  (change Calls _ _ _ _ (Fin R); go_enter Try.func58, Try.ntmps58)
  go_wp2
  go_ret
  exact retB h (by simp; try omega)
set_option maxHeartbeats 1000000 in
theorem i_WidthOf_c (A : Option Addr) (n c : Nat) (xs : List Int) (w : World) (hn : xs.length = n) (hx : Row eU 1 w A xs) (hB : Byt xs) (hc : n ≤ c) (hm : n ≤ 1048576)
    (R : Ending → World → Prop) (h : ∀ w', Below w.heap.size w w' → R (.returned (.agg #[.int .i64 (widF xs).1, .int .i64 (widF xs).2])) w') :
    Calls Try.prog 19 #[.slice A n c] w R := by
  have H := Lib.hid h
  have HX := Lib.hid hx
  have HB := Lib.hid hB
  have HN := Lib.hid hn
  clear h hx hB hn
  obtain ⟨W, hW⟩ : ∃ W, W = w.alloc (Obj.cells #[.int .i64 0, .int .i64 0] 30) := ⟨_, rfl⟩
  obtain ⟨b1, f1, hz, G0⟩ := box1 _ _ _ W hW
  have HW := Lib.hid hW
  clear hW
  rcases q1 : decide (400 < n) with _ | _
  · have hd : widF xs = (0, ((cellsOf xs).length : Int)) := by unfold widF; rw [HN.out, if_neg (of_decide_eq_false q1)]
    have HD := Lib.hid hd
    clear hd
    (change Calls _ _ _ _ (Fin R); go_enter Try.func19, Try.ntmps19)
    go_wp2_with (fail)
    rw [← HW.out]
    refine isLong_c A n c _ q1 _ _ ?_
    go_wp2_with (fail)
    refine cells_c A n c xs _ HN.out (HX.out.below G0) HB.out hc hm _ ?_
    intro A1 c1 w1 ho1 hc1 hm1 hb1
    have G1 := G0.trans (hb1.mono G0.size)
    have b2 := blk_keep b1 (by omega) hb1
    have f2 := frz_keep f1 (by omega) hb1
    have lt1 : w.heap.size < w1.heap.size := by have := hb1.size; omega
    clear ho1 hb1
    go_wp2_with (fail)
    (refine bodyPost_ret (by simp [results, Try.results19, go_sem, b2]; try rfl) rfl ?_)
    exact retV (H.out _ (by (repeat' (first | (with_reducible exact Below.refl _ _) | (with_reducible assumption) | (with_reducible refine Below.alloc ?_ ?_ _) | (with_reducible refine bdN ?_ _) | (with_reducible refine Below.drew ?_) | (with_reducible refine Below.setCell ?_ ?_ _) | go_size)))) (by rw [HD.out])
  · have hd : widF xs = (2, 0) := by unfold widF; rw [HN.out, if_pos (of_decide_eq_true q1)]
    have HD := Lib.hid hd
    clear hd
    (change Calls _ _ _ _ (Fin R); go_enter Try.func19, Try.ntmps19)
    go_wp2_with (fail)
    rw [← HW.out]
    refine isLong_c A n c _ q1 _ _ ?_
    go_wp2_with (fail)
    (refine bodyPost_ret (by simp [results, Try.results19, go_sem, b1]; try rfl) rfl ?_)
    exact retV (H.out _ (by (repeat' (first | (with_reducible exact Below.refl _ _) | (with_reducible assumption) | (with_reducible refine Below.alloc ?_ ?_ _) | (with_reducible refine bdN ?_ _) | (with_reducible refine Below.drew ?_) | (with_reducible refine Below.setCell ?_ ?_ _) | go_size)))) (by rw [HD.out])
set_option maxHeartbeats 1000000 in
theorem s_WidthOf_c (A : Option Addr) (n c : Nat) (xs : List Int) (w : World) (hn : xs.length = n) (hx : Row eU 1 w A xs) (hB : Byt xs) (hm : n ≤ 1048576)
    (R : Ending → World → Prop) (h : ∀ w', Below w.heap.size w w' → R (.returned (.agg #[.int .i64 (widF xs).1, .int .i64 (widF xs).2])) w') :
    Calls Try.prog 17 #[.slice A n c] w R := by
  have H := Lib.hid h
  have HX := Lib.hid hx
  have HB := Lib.hid hB
  have HN := Lib.hid hn
  clear h hx hB hn
  obtain ⟨W, hW⟩ : ∃ W, W = w.alloc (Obj.cells #[.int .i64 0, .int .i64 0] 30) := ⟨_, rfl⟩
  obtain ⟨b1, f1, hz, G0⟩ := box1 _ _ _ W hW
  have HW := Lib.hid hW
  clear hW
  by_cases q1 : 400 < n
  · have hd : widF xs = (2, 0) := by unfold widF; rw [HN.out, if_pos q1]
    have HD := Lib.hid hd
    clear hd
    (change Calls _ _ _ _ (Fin R); go_enter Try.func17, Try.ntmps17)
    go_wp2_with (fail)
    go_returns
    exact retV (H.out _ (by (repeat' (first | (with_reducible exact Below.refl _ _) | (with_reducible assumption) | (with_reducible refine Below.alloc ?_ ?_ _) | (with_reducible refine bdN ?_ _) | (with_reducible refine Below.drew ?_) | (with_reducible refine Below.setCell ?_ ?_ _) | go_size)))) (by rw [HD.out])
  · have hd : widF xs = (0, ((cellsOf xs).length : Int)) := by unfold widF; rw [HN.out, if_neg q1]
    have HD := Lib.hid hd
    clear hd
    (change Calls _ _ _ _ (Fin R); go_enter Try.func17, Try.ntmps17)
    go_wp2_with (fail)
    rw [← HW.out]
    refine l1Cells_c A n c xs _ HN.out (HX.out.below G0) HB.out hm _ ?_
    intro A1 c1 w1 ho1 hc1 hm1 hb1
    have G1 := G0.trans (hb1.mono G0.size)
    have b2 := blk_keep b1 (by omega) hb1
    have f2 := frz_keep f1 (by omega) hb1
    have lt1 : w.heap.size < w1.heap.size := by have := hb1.size; omega
    clear ho1 hb1
    go_wp2_with (fail)
    (refine bodyPost_ret (by simp [results, Try.results17, go_sem, b2]; try rfl) rfl ?_)
    exact retV (H.out _ (by (repeat' (first | (with_reducible exact Below.refl _ _) | (with_reducible assumption) | (with_reducible refine Below.alloc ?_ ?_ _) | (with_reducible refine bdN ?_ _) | (with_reducible refine Below.drew ?_) | (with_reducible refine Below.setCell ?_ ?_ _) | go_size)))) (by rw [HD.out])
theorem eqIntResult_same (a b : Int) (w : World) (R : Ending → World → Prop) (h : ∀ w', Below w.heap.size w w' → R (.returned (.bool true)) w') :
    Calls Try.prog 20 #[.agg #[.int .i64 a, .int .i64 b], .agg #[.int .i64 a, .int .i64 b]] w R := by
  (change Calls _ _ _ _ (Fin R); go_enter Try.func20, Try.ntmps20)
  go_wp2
  go_ret
  exact h _ (by (repeat' (first | (with_reducible exact Below.refl _ _) | (with_reducible assumption) | (with_reducible refine Below.alloc ?_ ?_ _) | (with_reducible refine bdN ?_ _) | (with_reducible refine Below.drew ?_) | (with_reducible refine Below.setCell ?_ ?_ _) | go_size)))
end Go.Proofs.Ytcinaflmpdmdaaa
