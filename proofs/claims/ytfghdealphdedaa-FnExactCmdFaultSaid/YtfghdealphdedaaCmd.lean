/- Commands: what is wrong with one. -/
import Derived.Test.YtfghdealphdedaaBase
namespace Go.Proofs.Ytfghdealphdedaa
open Go.RowKit
structure Cmd where
  k : Int
  n : Int
  wd : Int
  t : ByteArray
/-- The bounds of the Count of a kind of commands, and whether it has one. -/
def cntF (k : Int) : Int × Int × Bool :=
  if k = 1 ∨ k = 2 ∨ k = 9 ∨ k = 10 then (1, 999, true) else if k = 3 then (0, 999, true) else if k = 6 ∨ k = 7 then (1, 400, true) else if k = 11 then (1, 12, true) else if k = 12 ∨ k = 13 then (0, 3, true) else (0, 0, false)
def cmdF (x : Cmd) : Int :=
  if !inB x.k 1 14 || (!(cntF x.k).2.2 && x.n != 0) || (x.k != 11 && x.wd != 0) || (x.k != 8 && !x.t.toList.isEmpty) then 1
  else if ((cntF x.k).2.2 && !inB x.n (cntF x.k).1 (cntF x.k).2.1) || (x.k == 11 && !inB x.wd 4 40) then 3
  else if 60 < x.t.size then 2 else 0
theorem ret3 {R : Ending → World → Prop} {w : World} {a b : Int} {q : Bool} {a' b' : Int} {q' : Bool} (h : R (.returned (.tuple #[.int .i64 a, .int .i64 b, .bool q])) w) (e1 : a' = a) (e2 : b' = b) (e3 : q' = q) : Fin R (.returned (.tuple #[.int .i64 a', .int .i64 b', .bool q'])) w := by rw [e1, e2, e3]; exact h
theorem ret2 {R : Ending → World → Prop} {w : World} {a b : Int} {a' b' : Int} (h : R (.returned (.tuple #[.int .i64 a, .int .i64 b])) w) (e1 : a' = a) (e2 : b' = b) : Fin R (.returned (.tuple #[.int .i64 a', .int .i64 b'])) w := by rw [e1, e2]; exact h
theorem counts_c (k : Int) (w : World) (R : Ending → World → Prop) (h : R (.returned (.tuple #[.int .i64 (cntF k).1, .int .i64 (cntF k).2.1, .bool (cntF k).2.2])) w) : Calls Try.prog 36 #[.int .i64 k] w R := by
  (change Calls _ _ _ _ (Fin R); go_enter Try.func36, Try.ntmps36)
  go_wp2
  all_goals (go_ret3; exact ret3 h (by simp_all [cntF]) (by simp_all [cntF]) (by simp_all [cntF]))
theorem l11Counted_c (k : Int) (w : World) (R : Ending → World → Prop) (h : R (.returned (.tuple #[.int .i64 (if (cntF k).2.2 then (cntF k).1 else -1), .int .i64 (if (cntF k).2.2 then (cntF k).2.1 else -1)])) w) : Calls Try.prog 51 #[.int .i64 k] w R := by
  (change Calls _ _ _ _ (Fin R); go_enter Try.func51, Try.ntmps51)
  go_wp2
  all_goals (go_ret2; exact ret2 h (by simp_all [cntF]) (by simp_all [cntF]))
theorem toCmd_c (x : Cmd) (w : World) (R : Ending → World → Prop) (h : ∀ w', Below w.heap.size w w' → R (.returned (.agg #[.int .i64 x.k, .int .i64 x.n, .int .i64 x.wd, .string x.t])) w') :
    Calls Try.prog 18 #[.agg #[.int .i64 x.k, .int .i64 x.n, .int .i64 x.wd, .string x.t]] w R := by
  obtain ⟨a, b, c, d⟩ := x
  (change Calls _ _ _ _ (Fin R); go_enter Try.func18, Try.ntmps18)
  go_wp2
  go_returns
  exact h _ (by (repeat' (first | (with_reducible exact Below.refl _ _) | (with_reducible assumption) | (with_reducible refine Below.alloc ?_ ?_ _) | (with_reducible refine bdN ?_ _) | (with_reducible refine Below.drew ?_) | (with_reducible refine Below.setCell ?_ ?_ _) | go_size)))
theorem szCmd_c (x : Cmd) (left : Int) (w : World) (hm : x.t.size ≤ maxLen) (hl : 0 ≤ left) (hl2 : left ≤ 1048576)
    (R : Ending → World → Prop) (h : ∀ w', Below w.heap.size w w' → R (.returned (.int .i64 (if left - x.t.size < 0 then -1 else left - x.t.size))) w') :
    Calls Try.prog 16 #[.agg #[.int .i64 x.k, .int .i64 x.n, .int .i64 x.wd, .string x.t], .int .i64 left] w R := by
  have hm2 : (x.t.size : Int) ≤ 9223372036854775807 := by unfold maxLen at hm; omega
  clear hm
  obtain ⟨a, b, c, d⟩ := x
  dsimp only at hm2
  by_cases hlt : left - d.size < 0
  all_goals
    (change Calls _ _ _ _ (Fin R); go_enter Try.func16, Try.ntmps16)
    go_wp2
    go_ret
    exact retI (h _ (by (repeat' (first | (with_reducible exact Below.refl _ _) | (with_reducible assumption) | (with_reducible refine Below.alloc ?_ ?_ _) | (with_reducible refine bdN ?_ _) | (with_reducible refine Below.drew ?_) | (with_reducible refine Below.setCell ?_ ?_ _) | go_size)))) (by split <;> omega)
set_option maxHeartbeats 4000000 in
theorem i_CmdFault_c (x : Cmd) (w : World) (R : Ending → World → Prop) (h : ∀ w', Below w.heap.size w w' → R (.returned (.int .i64 (cmdF x))) w') :
    Calls Try.prog 19 #[.agg #[.int .i64 x.k, .int .i64 x.n, .int .i64 x.wd, .string x.t]] w R := by
  obtain ⟨a, b, c, d⟩ := x
  obtain ⟨lo, hi, has, hc⟩ : ∃ lo hi has, cntF a = (lo, hi, has) := ⟨_, _, _, rfl⟩
  have HC := Lib.hid hc
  rcases q1 : inB a 1 14 with _ | _ <;> rcases q2 : inB b lo hi with _ | _ <;> rcases q3 : inB c 4 40 with _ | _ <;> cases has
  all_goals
    (change Calls _ _ _ _ (Fin R); go_enter Try.func19, Try.ntmps19)
    go_wp2_with (first | (go_at_call 36; refine counts_c _ _ _ ?_; rw [HC.out]; dsimp only) | (go_at_call 31; first | (with_reducible refine within_c _ _ _ _ q1 _ _ ?_) | (with_reducible refine within_c _ _ _ _ q2 _ _ ?_) | (with_reducible refine within_c _ _ _ _ q3 _ _ ?_)))
    all_goals
      go_ret
      refine retI (h _ (by (repeat' (first | (with_reducible exact Below.refl _ _) | (with_reducible assumption) | (with_reducible refine Below.alloc ?_ ?_ _) | (with_reducible refine bdN ?_ _) | (with_reducible refine Below.drew ?_) | (with_reducible refine Below.setCell ?_ ?_ _) | go_size)))) ?_
      simp only [cmdF, HC.out]
      clear h HC
      simp_all <;> omega
set_option maxHeartbeats 4000000 in
theorem l11Cmd_c (x : Cmd) (ad : Addr) (w : World) (h0 : w.cell? ad = some (.int .i64 x.k)) (h1 : w.cell? ⟨ad.block, ad.off + 1, none⟩ = some (.int .i64 x.n)) (h2 : w.cell? ⟨ad.block, ad.off + 2, none⟩ = some (.int .i64 x.wd)) (h3 : w.cell? ⟨ad.block, ad.off + 3, none⟩ = some (.string x.t))
    (R : Ending → World → Prop) (h : R (.returned (.int .i64 (cmdF x))) w) :
    Calls Try.prog 35 #[.pointer (some ad)] w R := by
  obtain ⟨a, b, c, d⟩ := x
  obtain ⟨lo, hi, has, hc⟩ : ∃ lo hi has, cntF a = (lo, hi, has) := ⟨_, _, _, rfl⟩
  have HC := Lib.hid hc
  have hh : has = true → 0 ≤ hi := by
    have e : hi = (cntF a).2.1 := by rw [hc]
    intro _
    rw [e]
    unfold cntF
    repeat' split
    all_goals decide
  rcases q1 : inB a 1 14 with _ | _ <;> rcases q2 : inB b lo hi with _ | _ <;> rcases q3 : inB c 4 40 with _ | _ <;> cases has
  all_goals
    (first | replace hh := hh rfl | clear hh)
    (change Calls _ _ _ _ (Fin R); go_enter Try.func35, Try.ntmps35)
    go_wp2_with (first | (go_at_call 51; refine l11Counted_c _ _ _ ?_; rw [HC.out]; simp only [if_true, Bool.false_eq_true, if_false]) | (go_at_call 37; first | (with_reducible refine l1In_c _ _ _ _ q1 _ _ ?_) | (with_reducible refine l1In_c _ _ _ _ q2 _ _ ?_) | (with_reducible refine l1In_c _ _ _ _ q3 _ _ ?_)))
    all_goals
      go_ret
      refine retI h ?_
      simp only [cmdF, HC.out]
      clear h HC
      simp_all <;> omega
theorem s_CmdFault_c (x : Cmd) (w : World) (R : Ending → World → Prop) (h : ∀ w', Below w.heap.size w w' → R (.returned (.int .i64 (cmdF x))) w') :
    Calls Try.prog 17 #[.agg #[.int .i64 x.k, .int .i64 x.n, .int .i64 x.wd, .string x.t]] w R := by
  (change Calls _ _ _ _ (Fin R); go_enter Try.func17, Try.ntmps17)
  go_wp2_with (first | (go_at_call 35; refine l11Cmd_c x _ _ (by go_simp) (by go_simp) (by go_simp) (by go_simp) _ ?_))
  go_ret
  exact retI (h _ (by (repeat' (first | (with_reducible exact Below.refl _ _) | (with_reducible assumption) | (with_reducible refine Below.alloc ?_ ?_ _) | (with_reducible refine bdN ?_ _) | (with_reducible refine Below.drew ?_) | (with_reducible refine Below.setCell ?_ ?_ _) | go_size)))) rfl
end Go.Proofs.Ytfghdealphdedaa
