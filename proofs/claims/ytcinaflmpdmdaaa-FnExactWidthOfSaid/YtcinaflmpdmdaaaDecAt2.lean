/- Decoding of a character of two bytes bytes: the program's DecodeAt gives what the reference's l1Decode gives. -/
import Derived.Test.YtcinaflmpdmdaaaDec
namespace Go.Proofs.Ytcinaflmpdmdaaa
open Go.RowKit
set_option maxRecDepth 20000 in
set_option maxHeartbeats 4000000 in
theorem DecodeAt_2 (A : Option Addr) (n c : Nat) (xs : List Int) (i : Nat) (w : World) (hn : xs.length = n) (hx : Row eU 1 w A xs) (hB : Byt xs) (hc : n ≤ c) (hm : n ≤ 1048576) (hi : i + 1 < n) (hlt : bt xs i < 224) (hge : 192 ≤ bt xs i)
    (R : Ending → World → Prop) (h : ∀ w', Below w.heap.size w w' → R (.returned (.agg #[.int .i64 (decR xs i).1, .int .i64 (decR xs i).2.1, .int .i64 (decR xs i).2.2])) w') :
    Calls Try.prog 101 #[.slice A n c, .int .i64 i] w R := by
  have H := Lib.hid h
  clear h
  obtain ⟨b, hb⟩ := get_lt (xs := xs) (i := i) (by omega)
  obtain ⟨ad, rfl, a0⟩ := hx.eU hb
  obtain ⟨hb1, hb2⟩ := hB i b hb
  have hbt : bt xs i = b := by simp [bt, hb]
  obtain ⟨x, hxx⟩ := get_lt (xs := xs) (i := i + 1) (by omega)
  obtain ⟨ad', e', a1⟩ := hx.eU hxx
  obtain rfl := Option.some.inj e'
  clear e'
  obtain ⟨hx1, hx2⟩ := hB (i + 1) x hxx
  have hxt : bt xs (i + 1) = x := by simp [bt, hxx]
  rw [hbt] at hge
  rw [hbt] at hlt
  have HD := Lib.hid (decR_two hbt hxt hge hlt hx1 hx2 (by omega))
  have q1 : inB i 0 ((n : Int) - 1) = true := by simp [inB]; omega
  obtain ⟨W, hW⟩ : ∃ W, W = w.alloc (Obj.cells #[.int .i64 0, .int .i64 0, .int .i64 0] 125) := ⟨_, rfl⟩
  obtain ⟨b1, f1, hz, G0⟩ := box1 _ _ _ W hW
  have HW := Lib.hid hW
  have GG : Below w.heap.size w W := by rw [hW]; (repeat' (first | (with_reducible exact Below.refl _ _) | (with_reducible assumption) | (with_reducible refine Below.alloc ?_ ?_ _) | (with_reducible refine bdN ?_ _) | (with_reducible refine Below.drew ?_) | (with_reducible refine Below.setCell ?_ ?_ _) | go_size))
  replace a0 := cell_below GG a0
  replace a1 := cell_below GG a1
  rw [show ad.add (i + 1) = ⟨(ad.add i).block, (ad.add i).off + 1, none⟩ by rw [add_succ]; unfold Addr.add; split <;> simp_all; try omega] at a1
  have m1 : bits .and .u8 x 63 = x % 64 := and63_u8 x hx1 hx2
  have htk : (xs.drop i).take 2 = [b, x] := by rw [drop_cons hb, drop_cons hxx]; rfl
  have hsub : Row eU 1 W (some (ad.add i)) [b, x] := by
    have := (hx.below GG).sub i 2
    rwa [htk, Nat.mul_one] at this
  have hc64 := Lib.hid (show ∀ w' : World, (∀ p, (W.cell? p).isSome = true → w'.cell? p = W.cell? p) → ∀ cap, (convert 28 9 (.slice (some (ad.add i)) 2 cap)).run Try.prog w' = .ok (.string (strOfNums [b, x])) w' from fun w' hk cap => conv_row _ 2 cap [b, x] w' rfl (hsub.keeps hk) (by decide))
  have hsubB : Byt [b, x] := fun j y hj => hB (i + j) y (by have := hj; rw [← htk, List.getElem?_take] at this; split at this; rwa [List.getElem?_drop] at this; cases this)
  have i1 : (2 : Int) ≤ ((n - i : Nat) : Int) := by omega
  have i2 : (2 : Int) ≤ ((c - i : Nat) : Int) := by omega
  clear hbt hx hB hb hn hW GG hsub htk hxt hxx
  have q2 : isChr ((b - 192) * 64 + x % 64) = true := by simp [isChr, inB]; omega
  have HT := Lib.hid (show (!(strOfNums (enc ((b - 192) * 64 + x % 64))).toList == (strOfNums [b, x]).toList) = false → decR xs i = (0, ((b - 192) * 64 + x % 64), 2) from fun e => by rw [HD.out, if_pos (strNe_f (enc_byt (by omega) (by omega)) (fun j y hj => hsubB j y hj) e)])
  have HF := Lib.hid (show (!(strOfNums (enc ((b - 192) * 64 + x % 64))).toList == (strOfNums [b, x]).toList) = true → decR xs i = (5, 0, 0) from fun e => by rw [HD.out, if_neg (strNe_t e)])
  clear hsubB
  (change Calls _ _ _ _ (Fin R); go_enter Try.func101, Try.ntmps101)
  go_wp2_with (fail)
  rw [← HW.out]
  refine within_c _ _ _ _ q1 _ _ ?_
  go_wp2_with (fail)
  refine wp_loop_rounds 2 ?_
  rw [rounds_succ]
  go_wp2_with (fail)
  rw [rounds_succ]
  go_wp2_with (fail)
  have e0 := hc64.out W.drew (keeps_refl _)
  go_region_with (first | (go_at_call 107; (with_reducible refine isChar_c _ _ q2 _ _ ?_)) | (go_at_call 70; refine encoded_c ((b - 192) * 64 + x % 64) (by omega) (by omega) _ _ ?_; intro A' c' w1 ho1 hc1 hm1 hbe; have ee := conv_row A' _ c' _ w1 rfl ho1.rowOf (enc_pos ((b - 192) * 64 + x % 64)); have e2 := hc64.out _ (keeps_below (below_drew hbe)); have b2 := blk_keep b1 (by omega) (below_drew hbe); have f2 := frz_keep f1 (by omega) (below_drew hbe); have g2 := G0.trans ((below_drew hbe).mono G0.size); clear hbe ho1))
  all_goals clear e0
  all_goals go_wp2
  all_goals (refine bodyPost_ret (by simp [results, Try.results101, go_sem, b2]; try rfl) rfl ?_)
  all_goals (refine retV (H.out _ (by (repeat' (first | (with_reducible exact Below.refl _ _) | (with_reducible assumption) | (with_reducible refine Below.alloc ?_ ?_ _) | (with_reducible refine bdN ?_ _) | (with_reducible refine Below.drew ?_) | (with_reducible refine Below.setCell ?_ ?_ _) | go_size)))) ?_; first | rw [HT.out (by assumption)] | rw [HF.out (by assumption)])
end Go.Proofs.Ytcinaflmpdmdaaa
