/- Characters: which numbers are characters, which may stand in a cell. -/
import Derived.Test.YtcinaflmpdmdaaaBase
namespace Go.Proofs.Ytcinaflmpdmdaaa
open Go.RowKit
def isChr (c : Int) : Bool := inB c 0 65535 && !inB c 55296 57343
def shown (c : Int) : Bool := isChr c && decide (32 ≤ c) && decide (c ≠ 127)
theorem isChr_alt (c : Int) : isChr c = (inB c 0 55295 || inB c 57344 65535) := by
  rw [Bool.eq_iff_iff]
  simp only [isChr, inB, Bool.and_eq_true, Bool.or_eq_true, Bool.not_eq_true', decide_eq_true_eq, decide_eq_false_iff_not]
  omega
theorem isChar_c (c : Int) (q : Bool) (hq : isChr c = q) (w : World) (R : Ending → World → Prop) (h : R (.returned (.bool q)) w) : Calls Try.prog 107 #[.int .i64 c] w R := by
  subst hq
  have H := Lib.hid h
  clear h
  rcases q1 : inB c 0 65535 with _ | _ <;> rcases q2 : inB c 55296 57343 with _ | _
  all_goals
    (change Calls _ _ _ _ (Fin R); go_enter Try.func107, Try.ntmps107)
    go_wp2_with (first | (go_at_call 56; first | (with_reducible refine within_c _ _ _ _ q1 _ _ ?_) | (with_reducible refine within_c _ _ _ _ q2 _ _ ?_)))
    go_ret
    exact retB H.out (by simp [isChr, q1, q2])
theorem isChar_q (c : Int) (q : Bool) (hq : isChr c = q) (w : World) : Calls Try.prog 107 #[.int .i64 c] w fun e w' => e = .returned (.bool q) ∧ w' = w := isChar_c c q hq w _ ⟨rfl, rfl⟩
theorem l1Char_c (c : Int) (q : Bool) (hq : isChr c = q) (w : World) (R : Ending → World → Prop) (h : R (.returned (.bool q)) w) : Calls Try.prog 108 #[.int .i64 c] w R := by
  subst hq
  have H := Lib.hid h
  clear h
  rcases q1 : inB c 0 55295 with _ | _ <;> rcases q2 : inB c 57344 65535 with _ | _
  all_goals
    (change Calls _ _ _ _ (Fin R); go_enter Try.func108, Try.ntmps108)
    go_wp2_with (first | (go_at_call 82; first | (with_reducible refine l1In_c _ _ _ _ q1 _ _ ?_) | (with_reducible refine l1In_c _ _ _ _ q2 _ _ ?_)))
    go_ret
    exact retB H.out (by simp [isChr_alt, q1, q2])
theorem l1Char_q (c : Int) (q : Bool) (hq : isChr c = q) (w : World) : Calls Try.prog 108 #[.int .i64 c] w fun e w' => e = .returned (.bool q) ∧ w' = w := l1Char_c c q hq w _ ⟨rfl, rfl⟩
theorem isSeen_c (c : Int) (q : Bool) (hq : shown c = q) (w : World) (R : Ending → World → Prop) (h : R (.returned (.bool q)) w) : Calls Try.prog 71 #[.int .i64 c] w R := by
  subst hq
  have H := Lib.hid h
  clear h
  rcases q1 : isChr c with _ | _ <;> by_cases q2 : 32 ≤ c <;> by_cases q3 : c = 127
  all_goals
    try subst q3
    (change Calls _ _ _ _ (Fin R); go_enter Try.func71, Try.ntmps71)
    go_wp2_with (first | (go_at_call 107; (with_reducible refine isChar_c _ _ q1 _ _ ?_)))
    go_ret
    exact retB H.out (by simp_all [shown])
theorem isSeen_q (c : Int) (q : Bool) (hq : shown c = q) (w : World) : Calls Try.prog 71 #[.int .i64 c] w fun e w' => e = .returned (.bool q) ∧ w' = w := isSeen_c c q hq w _ ⟨rfl, rfl⟩
theorem l11Shown_c (c : Int) (q : Bool) (hq : shown c = q) (w : World) (R : Ending → World → Prop) (h : R (.returned (.bool q)) w) : Calls Try.prog 119 #[.int .i64 c] w R := by
  subst hq
  have H := Lib.hid h
  clear h
  rcases q1 : isChr c with _ | _ <;> by_cases q2 : 32 ≤ c <;> by_cases q3 : c = 127
  all_goals
    try subst q3
    (change Calls _ _ _ _ (Fin R); go_enter Try.func119, Try.ntmps119)
    go_wp2_with (first | (go_at_call 108; (with_reducible refine l1Char_c _ _ q1 _ _ ?_)))
    go_ret
    exact retB H.out (by simp_all [shown])
theorem l11Shown_q (c : Int) (q : Bool) (hq : shown c = q) (w : World) : Calls Try.prog 119 #[.int .i64 c] w fun e w' => e = .returned (.bool q) ∧ w' = w := l11Shown_c c q hq w _ ⟨rfl, rfl⟩
end Go.Proofs.Ytcinaflmpdmdaaa
