import Derived.Test.YtfghdealphdedaaSpans
namespace Go.Proofs.Ytfghdealphdedaa
open Go.RowKit
theorem s_SpansFault_c (A : Option Addr) (c : Nat) (xs : List Spn) (w : World) (hx : Row eSpn 2 w A xs) (hc : xs.length ≤ c) (hm : xs.length ≤ 1048576)
    (R : Ending → World → Prop) (h : ∀ w', Below w.heap.size w w' → R (.returned (.int .i64 (spansFault xs))) w') :
    Calls Try.prog 12 #[.slice A xs.length c] w R := by
  (change Calls _ _ _ _ (Fin R); go_enter Try.func12, Try.ntmps12)
  go_wp2_with (first | (go_at_call 32; refine l9Fault_c A c xs _ hx hc hm _ ?_; intro w1 hb1))
  go_ret
  exact retI (h _ hb1) rfl
set_option maxHeartbeats 1000000 in
theorem i_SpansFault_c (A : Option Addr) (c : Nat) (xs : List Spn) (w : World) (hx : Row eSpn 2 w A xs) (hc : xs.length ≤ c) (hm : xs.length ≤ 1048576)
    (R : Ending → World → Prop) (h : ∀ w', Below w.heap.size w w' → R (.returned (.int .i64 (spansFault xs))) w') :
    Calls Try.prog 14 #[.slice A xs.length c] w R := by
  have HX := Lib.hid hx
  clear hx
  obtain ⟨n, hn⟩ : ∃ n, xs.length = n := ⟨_, rfl⟩
  rw [hn] at hc hm ⊢
  have HN := Lib.hid hn
  clear hn
  by_cases h4 : n > 401
  · (change Calls _ _ _ _ (Fin R); go_enter Try.func14, Try.ntmps14)
    go_wp2
    go_ret
    exact retI (h _ (Below.refl _ _)) (by rw [spansFault, HN.out, if_pos h4])
  · (change Calls _ _ _ _ (Fin R); go_enter Try.func14, Try.ntmps14)
    go_wp2
    go_loopg [10] n (fun gk i wr => ∃ (k : Nat), gk = n - k ∧ k ≤ n ∧ i = .int .i64 k ∧ Hid (spansFault xs = spansF (prev xs k) (xs.drop k)) ∧ Below w.heap.size w wr)
    case atStart => exact ⟨0, rfl, by omega, rfl, (by simp only [Hid, spansFault, HN.out, if_neg h4]; rfl), Below.refl _ _⟩
    case round =>
      obtain ⟨k, rfl, hk, rfl, HE, hb⟩ := hrel
      by_cases hlt : k < n
      · obtain ⟨x, hx⟩ := get_lt (xs := xs) (i := k) (by rw [HN.out]; exact hlt)
        have HS := Lib.hid (HE.out.trans (spansF_step hx))
        obtain ⟨ad, rfl, ha⟩ := HX.out k x hx
        obtain ⟨a0, a1⟩ := (ha.below hb).two
        clear hx ha
        have hs := hb.size
        rcases q1 : inB x.a 0 400 with _ | _
        · go_wp2_with (fail)
          go_quiet ((go_at_call 31; (with_reducible exact Calls.quiet_of_same (within_q _ _ _ _ q1 _))))
          go_wp2
          go_ret
          exact retI (h _ (by (repeat' (first | (with_reducible exact Below.refl _ _) | (with_reducible assumption) | (with_reducible refine Below.alloc ?_ ?_ _) | (with_reducible refine bdN ?_ _) | (with_reducible refine Below.drew ?_) | (with_reducible refine Below.setCell ?_ ?_ _) | go_size)))) (by rw [HS.out, spF_def, q1]; rfl)
        rcases q2 : inB x.b x.a 400 with _ | _
        · go_wp2_with (fail)
          go_quiet ((go_at_call 31; first | (with_reducible exact Calls.quiet_of_same (within_q _ _ _ _ q1 _)) | (with_reducible exact Calls.quiet_of_same (within_q _ _ _ _ q2 _))))
          go_wp2
          go_ret
          exact retI (h _ (by (repeat' (first | (with_reducible exact Below.refl _ _) | (with_reducible assumption) | (with_reducible refine Below.alloc ?_ ?_ _) | (with_reducible refine bdN ?_ _) | (with_reducible refine Below.drew ?_) | (with_reducible refine Below.setCell ?_ ?_ _) | go_size)))) (by rw [HS.out, spF_def, q1, q2]; rfl)
        rcases Nat.eq_zero_or_pos k with hk0 | hk0
        · have d1 : decide ((0 : Int) < (k : Int)) = false := by simp [hk0]
          have d2 : decide (0 < k) = false := by simp [hk0]
          have HK0 := Lib.hid hk0
          clear hk0
          go_wp2_with (fail)
          go_quiet ((go_at_call 31; first | (with_reducible exact Calls.quiet_of_same (within_q _ _ _ _ q1 _)) | (with_reducible exact Calls.quiet_of_same (within_q _ _ _ _ q2 _))))
          go_wp2
          go_roundg (n - (k + 1))
          case measure => omega
          case rel => exact ⟨k + 1, rfl, by omega, by go_num, (by simp only [Hid, HS.out, spF_def, q1, q2, HK0.out]; rfl), by (repeat' (first | (with_reducible exact Below.refl _ _) | (with_reducible assumption) | (with_reducible refine Below.alloc ?_ ?_ _) | (with_reducible refine bdN ?_ _) | (with_reducible refine Below.drew ?_) | (with_reducible refine Below.setCell ?_ ?_ _) | go_size))⟩
        · obtain ⟨j, rfl⟩ : ∃ j, k = j + 1 := ⟨k - 1, by omega⟩
          obtain ⟨y, hy⟩ := get_lt (xs := xs) (i := j) (by rw [HN.out]; omega)
          obtain ⟨_, e0, hb0⟩ := HX.out j y hy
          cases e0
          obtain ⟨b0, b1⟩ := (hb0.below hb).two
          have HP := Lib.hid (show prev xs (j + 1) = some y by simp [prev, hy])
          have EQ := eqB_Spn x y
          have d1 : decide ((0 : Int) < (j : Int) + 1) = true := decide_eq_true (by omega)
          have d2 : (j : Int) < (n : Int) := by omega
          have d4 := World.block_lt_of_cell? wr _ b0
          have d3 : IntKind.i64.wrap (j : Int) = (j : Int) := IntWalk.i64_in _ ⟨by omega, by omega⟩
          clear hy hb0
          rcases q3 : decide (x.a < y.b) with _ | _
          · rcases q4 : decide (x = y) with _ | _
            all_goals
              rw [q4] at EQ
              go_wp2_with (fail)
              go_quiet ((go_at_call 31; first | (with_reducible exact Calls.quiet_of_same (within_q _ _ _ _ q1 _)) | (with_reducible exact Calls.quiet_of_same (within_q _ _ _ _ q2 _))))
              go_wp2
              clear EQ d3
            · go_roundg (n - (j + 1 + 1))
              case measure => omega
              case rel => exact ⟨j + 2, rfl, by omega, by go_num, (by simp only [Hid, HS.out, spF_def, q1, q2, HP.out, q4]; rw [if_pos (by simpa using q3)]), by (repeat' (first | (with_reducible exact Below.refl _ _) | (with_reducible assumption) | (with_reducible refine Below.alloc ?_ ?_ _) | (with_reducible refine bdN ?_ _) | (with_reducible refine Below.drew ?_) | (with_reducible refine Below.setCell ?_ ?_ _) | go_size))⟩
            · go_ret
              exact retI (h _ (by (repeat' (first | (with_reducible exact Below.refl _ _) | (with_reducible assumption) | (with_reducible refine Below.alloc ?_ ?_ _) | (with_reducible refine bdN ?_ _) | (with_reducible refine Below.drew ?_) | (with_reducible refine Below.setCell ?_ ?_ _) | go_size)))) (by rw [HS.out, spF_def, q1, q2, HP.out]; simp [q4])
          · go_wp2_with (fail)
            go_quiet ((go_at_call 31; first | (with_reducible exact Calls.quiet_of_same (within_q _ _ _ _ q1 _)) | (with_reducible exact Calls.quiet_of_same (within_q _ _ _ _ q2 _))))
            go_wp2
            clear EQ d3
            go_ret
            exact retI (h _ (by (repeat' (first | (with_reducible exact Below.refl _ _) | (with_reducible assumption) | (with_reducible refine Below.alloc ?_ ?_ _) | (with_reducible refine bdN ?_ _) | (with_reducible refine Below.drew ?_) | (with_reducible refine Below.setCell ?_ ?_ _) | go_size)))) (by rw [HS.out, spF_def, q1, q2, HP.out]; simp [show ¬ y.b ≤ x.a from by simpa using q3])
      · have : k = n := by omega
        subst this
        go_wp2
        go_ret
        exact retI (h _ hb) (by rw [HE.out, List.drop_of_length_le (by rw [HN.out]; exact Nat.le_refl _)]; rfl)
end Go.Proofs.Ytfghdealphdedaa
