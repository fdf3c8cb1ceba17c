/- Small functions of the program and of the reference that both ask everywhere: is a number within bounds. -/
import Derived.Test.YtcinaflmpdmdaaaProg
import Derived.Test.YtcinaflmpdmdaaaMem
namespace Go.Proofs.Ytcinaflmpdmdaaa
open Go.RowKit
def inB (a b c : Int) : Bool := decide (b ≤ a ∧ a ≤ c)
theorem inB_t {a b c : Int} (h : inB a b c = true) : b ≤ a ∧ a ≤ c := by simpa [inB] using h
theorem inB_f {a b c : Int} (h : inB a b c = false) : ¬ (b ≤ a ∧ a ≤ c) := by simpa [inB] using h
theorem l1In_c (a b c : Int) (q : Bool) (hq : inB a b c = q) (w : World) (R : Ending → World → Prop) (h : R (.returned (.bool q)) w) : Calls Try.prog 82 #[.int .i64 a, .int .i64 b, .int .i64 c] w R := by
  subst hq
  (change Calls _ _ _ _ (Fin R); go_enter Try.func82, Try.ntmps82)
  go_wp2
  all_goals (go_ret; exact retB h (by simp [inB]; try omega))
theorem l1In_q (a b c : Int) (q : Bool) (hq : inB a b c = q) (w : World) : Calls Try.prog 82 #[.int .i64 a, .int .i64 b, .int .i64 c] w fun e w' => e = .returned (.bool q) ∧ w' = w := l1In_c a b c q hq w _ ⟨rfl, rfl⟩
theorem within_c (a b c : Int) (q : Bool) (hq : inB a b c = q) (w : World) (R : Ending → World → Prop) (h : R (.returned (.bool q)) w) : Calls Try.prog 56 #[.int .i64 a, .int .i64 b, .int .i64 c] w R := by
  subst hq
  (change Calls _ _ _ _ (Fin R); go_enter Try.func56, Try.ntmps56)
  go_wp2
  all_goals (go_ret; exact retB h (by simp [inB]; try omega))
theorem within_q (a b c : Int) (q : Bool) (hq : inB a b c = q) (w : World) : Calls Try.prog 56 #[.int .i64 a, .int .i64 b, .int .i64 c] w fun e w' => e = .returned (.bool q) ∧ w' = w := within_c a b c q hq w _ ⟨rfl, rfl⟩
end Go.Proofs.Ytcinaflmpdmdaaa
