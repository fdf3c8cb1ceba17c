/- For every input FnExactNewState returns true: the program makes the state that the reference makes, in memory of its own. No condition. -/
import Derived.Test.YtfghdealphdedaaRows
import Derived.Test.YtfghdealphdedaaOpen
import Derived.Test.YtfghdealphdedaaState
namespace Go.Proofs.Ytfghdealphdedaa.NewState
open Go.ChangeShapes Go.WideShapes Go.ChangeAt Go.RowKit
set_option maxHeartbeats 4000000 in
theorem law_walk (a b : Int) (w : World) : Calls Try.prog 6 #[.int .i64 a, .int .i64 b] w fun e w' => e = .returned (.bool true) ∧ Below w.heap.size w w' := by
  suffices H : ∀ R : Ending → World → Prop, (∀ w', Below w.heap.size w w' → R (.returned (.bool true)) w') → Calls Try.prog 6 #[.int .i64 a, .int .i64 b] w R from H _ fun w' hb => ⟨rfl, hb⟩
  intro R h
  obtain ⟨c, hc⟩ : ∃ c : Int, (if newF a b then 0 else 3) = c := ⟨_, rfl⟩
  obtain ⟨s, hs⟩ : ∃ s : Sta, newS a b = s := ⟨_, rfl⟩
  obtain ⟨M, hM⟩ : ∃ M : List Spt, newM a b = M := ⟨_, rfl⟩
  have hlen : M.length ≤ 4 := by rw [← hM]; unfold newM; split <;> simp
  obtain ⟨hg, ⟨lw, lc, ls⟩, ⟨sa, sb⟩, pt, nt, fl⟩ := s
  have HC := Lib.hid hc
  have HS := Lib.hid hs
  have HM := Lib.hid hM
  have HL := Lib.hid hlen
  have H := Lib.hid h
  clear hc hs hM hlen h
  (change Calls _ _ _ _ (Fin R); go_enter Try.func6, Try.ntmps6)
  go_wp2_with (fail)
  refine s_NewState_c a b _ _ c HC.out _ HS.out M HM.out ?_
  intro v0 w1 hO0 hb1
  have hz0 : w.heap.size ≤ w1.heap.size := hb1.size
  have G1 : Below w.heap.size w w1 := hb1
  obtain ⟨A0, c0, rfl, hc0, hm0, _⟩ := hO0.row
  have HO0 := Lib.hid hO0
  clear hO0 hb1
  obtain ⟨W1, hW1⟩ : ∃ W1, W1 = w1.alloc (Obj.cells #[.int .i64 c, .int .i64 hg, .int .i64 lw, .bool lc, .int .i64 ls, .int .i64 sa, .int .i64 sb, .string pt, .string nt, .slice A0 M.length c0, .bool fl] 48) := ⟨_, rfl⟩
  have B5 := blk_new w1 #[.int .i64 c, .int .i64 hg, .int .i64 lw, .bool lc, .int .i64 ls, .int .i64 sa, .int .i64 sb, .string pt, .string nt, .slice A0 M.length c0, .bool fl] 48
  have hz1 : W1.heap.size = w1.heap.size + 1 := by rw [hW1]; simp
  rw [← hW1] at B5
  have HO0' := Lib.hid (show Own eSpt 2 43 W1 w.heap.size (.slice A0 M.length c0) M by rw [hW1]; exact HO0.out.alloc _)
  have GW1 : Below w.heap.size w W1 := by rw [hW1]; (repeat' (first | (with_reducible exact Below.refl _ _) | (with_reducible assumption) | (with_reducible refine Below.alloc ?_ ?_ _) | (with_reducible refine bdN ?_ _) | (with_reducible refine Below.drew ?_) | (with_reducible refine Below.setCell ?_ ?_ _) | go_size))
  have H1 := Lib.hid hW1
  clear hW1
  go_wp2_with (fail)
  rw [← H1.out]
  refine i_NewState_c a b _ _ c HC.out _ HS.out M HM.out ?_
  intro v1 w2 hO1 hb2
  have hz2 := hb2.size
  obtain ⟨A1, c1, rfl, hc1, hm1, _⟩ := hO1.row
  have B5' := blk_keep B5 (by omega) hb2
  have G2 : Below w.heap.size w w2 := GW1.trans (hb2.mono GW1.size)
  have HO02 := Lib.hid (HO0'.out.below hb2)
  have HO1 := Lib.hid hO1
  have HAP := Lib.hid (HO0'.out.apart hO1 (Nat.le_refl _))
  have hn6 : (Value.slice A1 M.length c1).ownBlock ≠ some w2.heap.size := fun e => by
    have := (hO1.lt e).2
    omega
  obtain ⟨W2, hW2⟩ : ∃ W2, W2 = w2.alloc (Obj.cells #[.int .i64 c, .int .i64 hg, .int .i64 lw, .bool lc, .int .i64 ls, .int .i64 sa, .int .i64 sb, .string pt, .string nt, .slice A1 M.length c1, .bool fl] 48) := ⟨_, rfl⟩
  have B6 := blk_new w2 #[.int .i64 c, .int .i64 hg, .int .i64 lw, .bool lc, .int .i64 ls, .int .i64 sa, .int .i64 sb, .string pt, .string nt, .slice A1 M.length c1, .bool fl] 48
  have B52 : ∀ i, W2.cell? ⟨w1.heap.size, i, none⟩ = #[.int .i64 c, .int .i64 hg, .int .i64 lw, .bool lc, .int .i64 ls, .int .i64 sa, .int .i64 sb, .string pt, .string nt, .slice A0 M.length c0, .bool fl][i]? := by rw [hW2]; exact blk_alloc B5' (by omega) _
  have hzW2 : W2.heap.size = w2.heap.size + 1 := by rw [hW2]; simp
  rw [← hW2] at B6
  have GW2 : Below w.heap.size w W2 := by rw [hW2]; (repeat' (first | (with_reducible exact Below.refl _ _) | (with_reducible assumption) | (with_reducible refine Below.alloc ?_ ?_ _) | (with_reducible refine bdN ?_ _) | (with_reducible refine Below.drew ?_) | (with_reducible refine Below.setCell ?_ ?_ _) | go_size))
  have HOA := Lib.hid (show Own eSpt 2 43 W2 w.heap.size (.slice A0 M.length c0) M by rw [hW2]; exact HO02.out.alloc _)
  have HOB := Lib.hid (show Own eSpt 2 43 W2 W1.heap.size (.slice A1 M.length c1) M by rw [hW2]; exact HO1.out.alloc _)
  have H2 := Lib.hid hW2
  have hlt52 : w1.heap.size < w2.heap.size := by omega
  clear hW2 B5 hO1 hb2
  go_wp2_with (fail)
  rw [← H2.out]
  clear B5'
  refine eqStateResult_same c ⟨hg, ⟨lw, lc, ls⟩, ⟨sa, sb⟩, pt, nt, fl⟩ A1 A0 c1 c0 M _ ?_ ?_ hc1 hc0 hm1 _ ?_
  · exact HOB.out.rowOf
  · exact HOA.out.rowOf
  intro w3 hb3
  have hz3 := hb3.size
  have B53 := blk_keep B52 (by omega) hb3
  have B63 := blk_keep B6 (by omega) hb3
  have G3 : Below w.heap.size w w3 := GW2.trans (hb3.mono GW2.size)
  have HOA3 := Lib.hid (HOA.out.below hb3)
  have HOB3 := Lib.hid (HOB.out.below hb3)
  clear B52 B6 hb3
  go_wp2_with (fail)
  refine markStateResult_c c ⟨hg, ⟨lw, lc, ls⟩, ⟨sa, sb⟩, pt, nt, fl⟩ _ M 43 W1.heap.size 1 _ HOB3.out (by have := HL.out; omega) (by omega) (by omega) _ ?_
  intro w4 ys hO4 hl4 hM4 hb4
  have hz4 := hb4.size
  have hn5 := HOB3.out.notin (b := w1.heap.size) (by omega)
  have B54 := blk_grown B53 (by omega) hb4 hn5
  have B64 := blk_grown B63 (by omega) hb4 hn6
  have G4 : Below w.heap.size w w4 := below_own G3 hb4 (fun g e => by have := (HOB3.out.lt e).1; have := GW1.size; omega)
  have HOA4 := Lib.hid (HOA3.out.grown hb4 HAP.out)
  have HE4 := Lib.hid hl4
  have HO4 := Lib.hid hO4
  have HM4 := Lib.hid hM4
  clear hl4 hO4 hM4 hb4 B53 B63 HOB3 HOA3 HOB HOA
  go_wp2_with (fail)
  rw [← HE4.out]
  refine heldStateResult_c c ⟨hg, ⟨lw, lc, ls⟩, ⟨sa, sb⟩, pt, nt, fl⟩ A1 c1 ys 1 _ ?_ HM4.out (by have := HE4.out; omega) (by have := HL.out; have := HE4.out; omega) (by omega) (by omega) _ ?_
  · exact HO4.out.rowOf
  intro w5 hb5
  have hz5 := hb5.size
  have B55 := blk_keep B54 (by omega) hb5
  have B65 := blk_keep B64 (by omega) hb5
  have G5 : Below w.heap.size w w5 := G4.trans (hb5.mono G4.size)
  have HOA5 := Lib.hid (HOA4.out.below hb5)
  have HO5 := Lib.hid (HO4.out.below hb5)
  clear B54 B64 hb5 HO4 HOA4
  rw [HE4.out]
  go_wp2_with (fail)
  refine i_NewState_c a b _ _ c HC.out _ HS.out M HM.out ?_
  intro v9 w6 hO9 hb6
  have hz6 := hb6.size
  obtain ⟨A9, c9, rfl, hc9, hm9, _⟩ := hO9.row
  have B56 := blk_keep B55 (by omega) hb6
  have B66 := blk_keep B65 (by omega) hb6
  have G6 : Below w.heap.size w w6 := G5.trans (hb6.mono G5.size)
  have HOA6 := Lib.hid (HOA5.out.below hb6)
  have HO6 := Lib.hid (HO5.out.below hb6)
  obtain ⟨W6, hW6⟩ : ∃ W6, W6 = w6.alloc (Obj.cells #[.int .i64 c, .int .i64 hg, .int .i64 lw, .bool lc, .int .i64 ls, .int .i64 sa, .int .i64 sb, .string pt, .string nt, .slice A9 M.length c9, .bool fl] 48) := ⟨_, rfl⟩
  have B96 := blk_new w6 #[.int .i64 c, .int .i64 hg, .int .i64 lw, .bool lc, .int .i64 ls, .int .i64 sa, .int .i64 sb, .string pt, .string nt, .slice A9 M.length c9, .bool fl] 48
  have B56' : ∀ i, W6.cell? ⟨w1.heap.size, i, none⟩ = #[.int .i64 c, .int .i64 hg, .int .i64 lw, .bool lc, .int .i64 ls, .int .i64 sa, .int .i64 sb, .string pt, .string nt, .slice A0 M.length c0, .bool fl][i]? := by rw [hW6]; exact blk_alloc B56 (by omega) _
  have B66' : ∀ i, W6.cell? ⟨w2.heap.size, i, none⟩ = #[.int .i64 c, .int .i64 hg, .int .i64 lw, .bool lc, .int .i64 ls, .int .i64 sa, .int .i64 sb, .string pt, .string nt, .slice A1 M.length c1, .bool fl][i]? := by rw [hW6]; exact blk_alloc B66 (by omega) _
  have hzW6 : W6.heap.size = w6.heap.size + 1 := by rw [hW6]; simp
  rw [← hW6] at B96
  have GW6 : Below w.heap.size w W6 := by rw [hW6]; (repeat' (first | (with_reducible exact Below.refl _ _) | (with_reducible assumption) | (with_reducible refine Below.alloc ?_ ?_ _) | (with_reducible refine bdN ?_ _) | (with_reducible refine Below.drew ?_) | (with_reducible refine Below.setCell ?_ ?_ _) | go_size))
  have HOA7 := Lib.hid (show Own eSpt 2 43 W6 w.heap.size (.slice A0 M.length c0) M by rw [hW6]; exact HOA6.out.alloc _)
  have HO7 := Lib.hid (show Own eSpt 2 43 W6 W1.heap.size (.slice A1 M.length c1) ys by rw [hW6]; exact HO6.out.alloc _)
  have HO9 := Lib.hid (show Own eSpt 2 43 W6 w5.heap.size (.slice A9 M.length c9) M by rw [hW6]; exact hO9.alloc _)
  have H6 := Lib.hid hW6
  have hlt56 : w1.heap.size < w6.heap.size := by omega
  clear hW6 hO9 hb6 B55 B65 B66
  go_wp2_with (fail)
  rw [← H6.out]
  clear B56
  refine eqStateResult_same c ⟨hg, ⟨lw, lc, ls⟩, ⟨sa, sb⟩, pt, nt, fl⟩ A9 A0 c9 c0 M _ ?_ ?_ hc9 hc0 hm9 _ ?_
  · exact HO9.out.rowOf
  · exact HOA7.out.rowOf
  intro w7 hb7
  have hz7 := hb7.size
  have B67 := blk_keep B66' (by omega) hb7
  have G7 : Below w.heap.size w w7 := GW6.trans (hb7.mono GW6.size)
  have HO8 := Lib.hid (HO7.out.below hb7)
  clear B66' B56' B96 hb7
  go_wp2_with (fail)
  rw [← HE4.out]
  refine heldStateResult_c c ⟨hg, ⟨lw, lc, ls⟩, ⟨sa, sb⟩, pt, nt, fl⟩ A1 c1 ys 1 _ ?_ HM4.out (by have := HE4.out; omega) (by have := HL.out; have := HE4.out; omega) (by omega) (by omega) _ ?_
  · exact HO8.out.rowOf
  intro w8 hb8
  have G8 : Below w.heap.size w w8 := G7.trans (hb8.mono G7.size)
  rw [HE4.out]
  go_wp2_with (fail)
  go_ret
  exact H.out _ G8
set_option maxRecDepth 100000 in
theorem lifted (os : Os) (started : os.Started) (H : Type) (enc : TypeId × Value → H) :
    ReturnsInHanded {} Try.checked os 6 .any (Rows.fnExactNewStateSpec.pre6 enc Try.prog Try.f6 Rows.fnExactNewStateRow.domain false) (Rows.fnExactNewStateSpec.post enc Try.prog Try.f6 false true false false) := by
  refine returnsInHanded_of_change (C := Try.checked) own_knob started (by kernel_rfl) Try.func6
    (ChangeSpec.witness6 (enc := enc) (C := Try.checked) false ⟨#[], #[.int .i64 3,.int .i64 8], []⟩ 8 (by kernel_rfl) (by kernel_rfl) (by kernel_rfl) (by kernel_rfl)) ?_
  intro W base args ds gs before hval0 hW hcnd _
  have hval : ∀ (j : Nat) t v, (Try.f6).params[j]? = some t → args[j]? = some v → Value.okWide Try.prog W .any base t v := hval0
  have hW' := hW
  obtain ⟨p, q, hA0, hV, rfl, hfz, hnd⟩ := hW
  have hA : DataW.TrodAll enc Try.prog W 0 (fun _ => true) true (Try.f6).params.toList args.toList ds p := hA0
  rw [Try.params6] at hA hval
  obtain ⟨v0, vs0, d0, ds0, p0, q0, hargs, rfl, rfl, h0, r0⟩ := trodAll_cons hA
  obtain ⟨v1, vs1, d1, ds1, p1, q1, rfl, rfl, rfl, h1, r1⟩ := trodAll_cons r0
  obtain ⟨rfl, rfl, rfl⟩ := trodAll_nil r1
  obtain rfl : args = #[v0, v1] := by cases args; simp_all
  obtain ⟨a, rfl, rfl, rfl, wa⟩ := open_int Try.underlying2 (hval 0 _ v0 rfl rfl) h0
  obtain ⟨b, rfl, rfl, rfl, wb⟩ := open_int Try.underlying2 (hval 1 _ v1 rfl rfl) h1
  obtain ⟨rfl, rfl⟩ := trodVars_none hV
  refine (law_walk a b W).mono fun e W' ⟨he, hb⟩ => ?_
  subst he
  exact ⟨_, rfl, law_post laid_out Try.underlying4 rfl rfl (by kernel_rfl) hW' hb ⟨rfl, rfl, rfl⟩⟩
theorem over : Rows.fnExactNewStateRow.holds Try.pinned (OpenSpec.ofChange Rows.fnExactNewStateSpec) :=
  OpenClaim.holds_of_wide 6 Try.f6 rfl rfl rfl rfl rfl rfl rfl ⟨rfl, rfl, rfl, rfl, rfl⟩ rfl rfl rfl rfl rfl (by kernel_rfl) Try.func6 (by kernel_rfl)
    (of_decide_eq_true (by kernel_rfl)) (by unfold Func.isWrapper; first | (rw [if_pos (by decide +kernel)]; kernel_rfl) | (rw [if_neg (by decide +kernel)]; exact ⟨rfl, rfl⟩))
    (fun os started H enc _ => lifted os started H enc)
theorem proved : Rows.FnExactNewStateSaid := over
end Go.Proofs.Ytfghdealphdedaa.NewState
