/- Decoding of a character: the program's DecodeAt gives what the reference's l1Decode gives, at every place of a line. -/
import Derived.Test.YtcinaflmpdmdaaaDecAt1
import Derived.Test.YtcinaflmpdmdaaaDecAt2
import Derived.Test.YtcinaflmpdmdaaaDecAt3
namespace Go.Proofs.Ytcinaflmpdmdaaa
open Go.RowKit
set_option maxHeartbeats 1000000 in
theorem DecodeAt_short (A : Option Addr) (n c : Nat) (xs : List Int) (i : Nat) (w : World) (hn : xs.length = n) (hx : Row eU 1 w A xs) (hB : Byt xs) (hc : n ≤ c) (hm : n ≤ 1048576) (hi : i < n)
    (hs : (192 ≤ bt xs i ∧ bt xs i < 224 ∧ n ≤ i + 1) ∨ (224 ≤ bt xs i ∧ n ≤ i + 2))
    (R : Ending → World → Prop) (h : ∀ w', Below w.heap.size w w' → R (.returned (.agg #[.int .i64 (decR xs i).1, .int .i64 (decR xs i).2.1, .int .i64 (decR xs i).2.2])) w') :
    Calls Try.prog 101 #[.slice A n c, .int .i64 i] w R := by
  have hd : decR xs i = (5, 0, 0) := by
    rcases hs with ⟨h1, h2, h3⟩ | ⟨h1, h3⟩
    · exact decR_two_short rfl h1 h2 (by omega)
    · exact decR_three_short rfl h1 (by omega)
  rw [hd] at h
  have H := Lib.hid h
  clear h hd
  obtain ⟨b, hb⟩ := get_lt (xs := xs) (i := i) (by omega)
  obtain ⟨ad, rfl, a0⟩ := hx.eU hb
  obtain ⟨hb1, hb2⟩ := hB i b hb
  have hbt : bt xs i = b := by simp [bt, hb]
  rw [hbt] at hs
  have q1 : inB i 0 ((n : Int) - 1) = true := by simp [inB]; omega
  obtain ⟨W, hW⟩ : ∃ W, W = w.alloc (Obj.cells #[.int .i64 0, .int .i64 0, .int .i64 0] 125) := ⟨_, rfl⟩
  obtain ⟨b1, f1, hz, G0⟩ := box1 _ _ _ W hW
  have HW := Lib.hid hW
  have GG : Below w.heap.size w W := by rw [hW]; (repeat' (first | (with_reducible exact Below.refl _ _) | (with_reducible assumption) | (with_reducible refine Below.alloc ?_ ?_ _) | (with_reducible refine bdN ?_ _) | (with_reducible refine Below.drew ?_) | (with_reducible refine Below.setCell ?_ ?_ _) | go_size))
  replace a0 := cell_below GG a0
  clear hbt hx hB hb hn hW GG
  have i0 : 1 ≤ n - i := by omega
  rcases hs with ⟨h1, h2, h3⟩ | ⟨h1, h3⟩
  · have i1 : n - i = 1 := by omega
    (change Calls _ _ _ _ (Fin R); go_enter Try.func101, Try.ntmps101)
    go_wp2_with (fail)
    rw [← HW.out]
    refine within_c _ _ _ _ q1 _ _ ?_
    go_wp2_with (fail)
    (refine bodyPost_ret (by simp [results, Try.results101, go_sem, b1]; try rfl) rfl ?_)
    exact H.out _ (by (repeat' (first | (with_reducible exact Below.refl _ _) | (with_reducible assumption) | (with_reducible refine Below.alloc ?_ ?_ _) | (with_reducible refine bdN ?_ _) | (with_reducible refine Below.drew ?_) | (with_reducible refine Below.setCell ?_ ?_ _) | go_size)))
  · have i1 : n - i ≤ 2 := by omega
    (change Calls _ _ _ _ (Fin R); go_enter Try.func101, Try.ntmps101)
    go_wp2_with (fail)
    rw [← HW.out]
    refine within_c _ _ _ _ q1 _ _ ?_
    go_wp2_with (fail)
    (refine bodyPost_ret (by simp [results, Try.results101, go_sem, b1]; try rfl) rfl ?_)
    exact H.out _ (by (repeat' (first | (with_reducible exact Below.refl _ _) | (with_reducible assumption) | (with_reducible refine Below.alloc ?_ ?_ _) | (with_reducible refine bdN ?_ _) | (with_reducible refine Below.drew ?_) | (with_reducible refine Below.setCell ?_ ?_ _) | go_size)))
theorem DecodeAt_c (A : Option Addr) (n c : Nat) (xs : List Int) (i : Nat) (w : World) (hn : xs.length = n) (hx : Row eU 1 w A xs) (hB : Byt xs) (hc : n ≤ c) (hm : n ≤ 1048576) (hi : i < n)
    (R : Ending → World → Prop) (h : ∀ w', Below w.heap.size w w' → R (.returned (.agg #[.int .i64 (decR xs i).1, .int .i64 (decR xs i).2.1, .int .i64 (decR xs i).2.2])) w') :
    Calls Try.prog 101 #[.slice A n c, .int .i64 i] w R := by
  by_cases h1 : bt xs i < 192
  · exact DecodeAt_1 A n c xs i w hn hx hB hc hm hi h1 R h
  by_cases h2 : bt xs i < 224
  · by_cases h3 : i + 1 < n
    · exact DecodeAt_2 A n c xs i w hn hx hB hc hm h3 h2 (by omega) R h
    · exact DecodeAt_short A n c xs i w hn hx hB hc hm hi (.inl ⟨by omega, h2, by omega⟩) R h
  · by_cases h3 : i + 2 < n
    · exact DecodeAt_3 A n c xs i w hn hx hB hc hm h3 (by omega) R h
    · exact DecodeAt_short A n c xs i w hn hx hB hc hm hi (.inr ⟨by omega, by omega⟩) R h
end Go.Proofs.Ytcinaflmpdmdaaa
