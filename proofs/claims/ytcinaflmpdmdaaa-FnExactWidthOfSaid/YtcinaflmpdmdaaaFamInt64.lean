/- Contracts of the laws' helpers over slices of Int64: copies, comparisons, sizes, marks. -/
import Derived.Test.YtcinaflmpdmdaaaProg
import Derived.Test.YtcinaflmpdmdaaaMem
namespace Go.Proofs.Ytcinaflmpdmdaaa
open Go.RowKit
def eI (x : Int) : List Value := [.int .i64 x]
theorem eI_len (x : Int) : (eI x).length = 1 := rfl
def mkeI (k : Int) : Int := k
theorem Row.eI {w : World} {A : Option Addr} {xs : List Int} (h : Row eI 1 w A xs) {i : Nat} {x : Int} (hx : xs[i]? = some x) : ∃ ad, A = some ad ∧ w.cell? (ad.add i) = some (.int .i64 x) := Row.one (f := fun x => .int .i64 x) h hx
set_option maxHeartbeats 1000000 in
theorem eqInt64S_c (A B : Option Addr) (c d : Nat) (xs ys : List Int) (w : World) (hx : Row eI 1 w A xs) (hy : Row eI 1 w B ys) (hc : xs.length ≤ c) (hd : ys.length ≤ d) (hm : c ≤ maxLen) (q : Bool) (hq : decide (xs = ys) = q)
    (R : Ending → World → Prop) (h : ∀ w', Below w.heap.size w w' → R (.returned (.bool q)) w') :
    Calls Try.prog 98 #[.slice A xs.length c, .slice B ys.length d] w R := by
  have HX := Lib.hid hx
  have HY := Lib.hid hy
  have HQ := Lib.hid hq
  clear hx hy hq
  obtain ⟨n, hn⟩ : ∃ n, xs.length = n := ⟨_, rfl⟩
  obtain ⟨m, hm'⟩ : ∃ m, ys.length = m := ⟨_, rfl⟩
  rw [hn] at hc ⊢
  rw [hm'] at hd ⊢
  have HN := Lib.hid hn
  have HM := Lib.hid hm'
  clear hn hm'
  unfold maxLen at hm
  by_cases hnm : n = m
  · subst hnm
    (change Calls _ _ _ _ (Fin R); go_enter Try.func98, Try.ntmps98)
    go_wp2
    go_loopg [5] n (fun g i wr => ∃ k : Nat, g = n - k ∧ k ≤ n ∧ i = .int .i64 k ∧ Hid (∀ j, j < k → xs[j]? = ys[j]?) ∧ Below w.heap.size w wr)
    case atStart => exact ⟨0, rfl, by omega, rfl, fun j hj => by omega, Below.refl _ _⟩
    case round =>
      obtain ⟨k, rfl, hk, rfl, HE, hb⟩ := hrel
      by_cases hlt : k < n
      · obtain ⟨x, hx⟩ := get_lt (xs := xs) (i := k) (by rw [HN.out]; exact hlt)
        obtain ⟨y, hy⟩ := get_lt (xs := ys) (i := k) (by rw [HM.out]; exact hlt)
        obtain ⟨ad, rfl, a0⟩ := HX.out.eI hx
        obtain ⟨bd, rfl, b0⟩ := HY.out.eI hy
        replace a0 := cell_below (hb.mono (Nat.le_refl _)) a0
        replace b0 := cell_below (hb.mono (Nat.le_refl _)) b0
        have HXX := Lib.hid hx
        have HYY := Lib.hid hy
        have hl2 : (k : Int) < (n : Int) := by omega
        clear hx hy
        rcases hxy : (x != y) with _ | _
        all_goals
          go_wp2_with (fail)
          go_quiet (fail)
          clear a0 b0
        · go_wp2
          go_roundg (n - (k + 1))
          case measure => omega
          case rel =>
            refine ⟨k + 1, rfl, by omega, by go_num, fun j hj => ?_, by (repeat' (first | (with_reducible exact Below.refl _ _) | (with_reducible assumption) | (with_reducible refine Below.alloc ?_ ?_ _) | (with_reducible refine bdN ?_ _) | (with_reducible refine Below.drew ?_) | (with_reducible refine Below.setCell ?_ ?_ _) | go_size))⟩
            by_cases hjk : j = k
            · rw [hjk, HXX.out, HYY.out, (by simpa using hxy : x = y)]
            · exact HE.out j (by omega)
        · go_wp2
          go_ret
          refine retB (h _ (by (repeat' (first | (with_reducible exact Below.refl _ _) | (with_reducible assumption) | (with_reducible refine Below.alloc ?_ ?_ _) | (with_reducible refine bdN ?_ _) | (with_reducible refine Below.drew ?_) | (with_reducible refine Below.setCell ?_ ?_ _) | go_size)))) ?_
          rw [← HQ.out, eq_comm, decide_eq_false_iff_not]
          rintro rfl
          have := Option.some.inj (HXX.out.symm.trans HYY.out)
          simp [this] at hxy
      · have : k = n := by omega
        subst this
        go_wp2
        go_ret
        refine retB (h _ hb) ?_
        rw [← HQ.out, eq_comm, decide_eq_true_eq]
        exact List.ext_getElem? fun j => by
          by_cases hj : j < k
          · exact HE.out j hj
          · rw [List.getElem?_eq_none (by rw [HN.out]; omega), List.getElem?_eq_none (by rw [HM.out]; omega)]
  · (change Calls _ _ _ _ (Fin R); go_enter Try.func98, Try.ntmps98)
    go_wp2
    go_ret
    refine retB (h _ (Below.refl _ _)) ?_
    rw [← HQ.out, eq_comm, decide_eq_false_iff_not]
    rintro rfl
    exact hnm (HN.out.symm.trans HM.out)
theorem info_eI : (Try.prog.info? 2).map (fun i => (i.zero, i.size, i.bytes)) = some (some (.int .i64 0), 1, 8) := by kernel_rfl
set_option maxHeartbeats 1000000 in
theorem toInt64S_c (A : Option Addr) (c : Nat) (xs : List Int) (w : World) (hx : Row eI 1 w A xs) (hc : xs.length ≤ c) (hm : xs.length ≤ 1048576)
    (R : Ending → World → Prop) (h : ∀ v w', Own eI 1 2 w' w.heap.size v xs → Below w.heap.size w w' → R (.returned v) w') :
    Calls Try.prog 94 #[.slice A xs.length c] w R := by
  have HX := Lib.hid hx
  clear hx
  obtain ⟨n, hn⟩ : ∃ n, xs.length = n := ⟨_, rfl⟩
  rw [hn] at hc hm ⊢
  have HN := Lib.hid hn
  clear hn
  (change Calls _ _ _ _ (Fin R); go_enter Try.func94, Try.ntmps94)
  go_wp2_with (first | (at_make; refine wp_make eI 1 _ w.heap.size rfl (.tmp 6) (.tmp 6) 75 2 rfl Try.underlying75 (.int .i64 0) 8 info_eI 0 rfl rfl (by decide) n rfl rfl (by omega) (by unfold maxLen; omega) (by simp) ?_; intro g w1 hown hb1))
  have HO := Lib.hid hown
  clear hown
  go_loopg [4] n (fun gk i wr => ∃ (k : Nat) (ys : List Int), gk = n - k ∧ k ≤ n ∧ i = .int .i64 k ∧ Own eI 1 2 wr w.heap.size (.slice (some ⟨g, 0, none⟩) n n) ys ∧ Hid (∀ j, j < k → ys[j]? = xs[j]?) ∧ Below w.heap.size w wr)
  case atStart => exact ⟨0, _, rfl, by omega, rfl, HO.out, fun j hj => by omega, hb1⟩
  case round =>
    obtain ⟨k, ys, rfl, hk, rfl, ho, HE, hb⟩ := hrel
    have hlen := Lib.hid ho.len
    by_cases hlt : k < n
    · obtain ⟨x, hx⟩ := get_lt (xs := xs) (i := k) (by rw [HN.out]; exact hlt)
      obtain ⟨y, hy⟩ := get_lt (xs := ys) (i := k) (by rw [hlen.out]; exact hlt)
      obtain ⟨ad, rfl, a0⟩ := HX.out.eI hx
      replace a0 := cell_below hb a0
      have b0 : wr.cell? ⟨g, k, none⟩ = some (.int .i64 y) := by have := (ho.at_ hy).one; rwa [Nat.mul_one] at this
      have f0 := ho.free k
      have HA := Lib.hid ho
      have HXX := Lib.hid hx
      clear hx hy ho
      go_wp2
      have hput := HA.out.put eI_len hlt x
      rw [Nat.mul_one] at hput
      obtain ⟨hown2, hg2⟩ := hput
      have hlt2 := HA.out.lt'
      have hb3 := below_of_grown hb hg2 hlt2.1 hlt2.2
      clear a0 b0 f0
      go_roundg (n - (k + 1))
      case measure => omega
      case rel =>
        refine ⟨k + 1, ys.set k x, rfl, by omega, by go_num, hown2, fun j hj => ?_, hb3⟩
        by_cases hjk : j = k
        · rw [hjk, List.getElem?_set_self (by rw [hlen.out]; exact hlt), HXX.out]
        · rw [List.getElem?_set_ne (Ne.symm hjk)]
          exact HE.out j (by omega)
    · have : k = n := by omega
      subst this
      go_wp2
      go_ret
      have : ys = xs := List.ext_getElem? fun j => by
        by_cases hj : j < k
        · exact HE.out j hj
        · rw [List.getElem?_eq_none (by rw [hlen.out]; omega), List.getElem?_eq_none (by rw [HN.out]; omega)]
      exact h _ _ (this ▸ ho) hb
theorem szInt64S_c (A : Option Addr) (n c : Nat) (left : Int) (w : World) (hm : n ≤ maxLen) (hl : 0 ≤ left) (hl2 : left ≤ 1048576)
    (R : Ending → World → Prop) (h : R (.returned (.int .i64 (if left - n < 0 then -1 else left - n))) w) :
    Calls Try.prog 91 #[.slice A n c, .int .i64 left] w R := by
  unfold maxLen at hm
  by_cases hlt : left - n < 0
  all_goals
    (change Calls _ _ _ _ (Fin R); go_enter Try.func91, Try.ntmps91)
    go_wp2
    go_ret
    exact retI h (by split <;> omega)
end Go.Proofs.Ytcinaflmpdmdaaa
