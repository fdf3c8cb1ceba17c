/- Layouts: what is wrong with one. -/
import Derived.Test.YtfghdealphdedaaBase
namespace Go.Proofs.Ytfghdealphdedaa
open Go.RowKit
structure Lay where
  wd : Int
  ch : Bool
  sh : Int
deriving DecidableEq
def layF (x : Lay) : Int := if inB x.wd 1 40 && inB x.sh 0 400 then (if !x.ch && x.sh != 0 then 1 else 0) else 3
theorem toLayout_c (x : Lay) (w : World) (R : Ending → World → Prop) (h : ∀ w', Below w.heap.size w w' → R (.returned (.agg #[.int .i64 x.wd, .bool x.ch, .int .i64 x.sh])) w') :
    Calls Try.prog 9 #[.agg #[.int .i64 x.wd, .bool x.ch, .int .i64 x.sh]] w R := by
  obtain ⟨a, b, c⟩ := x
  (change Calls _ _ _ _ (Fin R); go_enter Try.func9, Try.ntmps9)
  go_wp2
  go_returns
  exact h _ (by (repeat' (first | (with_reducible exact Below.refl _ _) | (with_reducible assumption) | (with_reducible refine Below.alloc ?_ ?_ _) | (with_reducible refine bdN ?_ _) | (with_reducible refine Below.drew ?_) | (with_reducible refine Below.setCell ?_ ?_ _) | go_size)))
theorem l10Fault_c (x : Lay) (ad : Addr) (w : World) (h0 : w.cell? ad = some (.int .i64 x.wd)) (h1 : w.cell? ⟨ad.block, ad.off + 1, none⟩ = some (.bool x.ch)) (h2 : w.cell? ⟨ad.block, ad.off + 2, none⟩ = some (.int .i64 x.sh))
    (R : Ending → World → Prop) (h : R (.returned (.int .i64 (layF x))) w) : Calls Try.prog 30 #[.pointer (some ad)] w R := by
  obtain ⟨a, b, c⟩ := x
  rcases q1 : inB a 1 40 with _ | _ <;> rcases q2 : inB c 0 400 with _ | _
  all_goals
    (change Calls _ _ _ _ (Fin R); go_enter Try.func30, Try.ntmps30)
    go_wp2_with (first | (go_at_call 37; first | (with_reducible refine l1In_c _ _ _ _ q1 _ _ ?_) | (with_reducible refine l1In_c _ _ _ _ q2 _ _ ?_)))
    all_goals (go_ret; exact retI h (by simp_all [layF]))
theorem s_LayoutFault_c (x : Lay) (w : World) (R : Ending → World → Prop) (h : ∀ w', Below w.heap.size w w' → R (.returned (.int .i64 (layF x))) w') :
    Calls Try.prog 8 #[.agg #[.int .i64 x.wd, .bool x.ch, .int .i64 x.sh]] w R := by
  (change Calls _ _ _ _ (Fin R); go_enter Try.func8, Try.ntmps8)
  go_wp2_with (first | (go_at_call 30; refine l10Fault_c x _ _ (by go_simp) (by go_simp) (by go_simp) _ ?_))
  go_ret
  exact retI (h _ (by (repeat' (first | (with_reducible exact Below.refl _ _) | (with_reducible assumption) | (with_reducible refine Below.alloc ?_ ?_ _) | (with_reducible refine bdN ?_ _) | (with_reducible refine Below.drew ?_) | (with_reducible refine Below.setCell ?_ ?_ _) | go_size)))) rfl
theorem i_LayoutFault_c (x : Lay) (w : World) (R : Ending → World → Prop) (h : ∀ w', Below w.heap.size w w' → R (.returned (.int .i64 (layF x))) w') :
    Calls Try.prog 10 #[.agg #[.int .i64 x.wd, .bool x.ch, .int .i64 x.sh]] w R := by
  obtain ⟨a, b, c⟩ := x
  rcases q1 : inB a 1 40 with _ | _ <;> rcases q2 : inB c 0 400 with _ | _
  all_goals
    (change Calls _ _ _ _ (Fin R); go_enter Try.func10, Try.ntmps10)
    go_wp2_with (first | (go_at_call 31; first | (with_reducible refine within_c _ _ _ _ q1 _ _ ?_) | (with_reducible refine within_c _ _ _ _ q2 _ _ ?_)))
    all_goals (go_ret; exact retI (h _ (by (repeat' (first | (with_reducible exact Below.refl _ _) | (with_reducible assumption) | (with_reducible refine Below.alloc ?_ ?_ _) | (with_reducible refine bdN ?_ _) | (with_reducible refine Below.drew ?_) | (with_reducible refine Below.setCell ?_ ?_ _) | go_size)))) (by simp_all [layF]))
end Go.Proofs.Ytfghdealphdedaa
