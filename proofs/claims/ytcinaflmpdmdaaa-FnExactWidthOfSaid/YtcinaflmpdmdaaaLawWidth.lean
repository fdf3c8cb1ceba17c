/- For every input FnExactWidthOf returns true: the program's WidthOf tells what the reference's tells, and leaves its argument as it was. No condition. -/
import Derived.Test.YtcinaflmpdmdaaaRows
import Derived.Test.YtcinaflmpdmdaaaOpen
import Derived.Test.YtcinaflmpdmdaaaWidth
namespace Go.Proofs.Ytcinaflmpdmdaaa.WidthOf
open Go.ChangeShapes Go.WideShapes Go.ChangeAt Go.RowKit
set_option maxHeartbeats 2000000 in
theorem law_walk (A : Option Addr) (c : Nat) (xs : List Int) (w : World) (hx : Row eU 1 w A xs) (hB : Byt xs) (hc : xs.length ≤ c) (hm : c ≤ maxLen) :
    Calls Try.prog 4 #[.slice A xs.length c] w fun e w' => e = .returned (.bool true) ∧ Below w.heap.size w w' := by
  suffices H : ∀ R : Ending → World → Prop, (∀ w', Below w.heap.size w w' → R (.returned (.bool true)) w') → Calls Try.prog 4 #[.slice A xs.length c] w R from H _ fun w' hb => ⟨rfl, hb⟩
  intro R h
  have HX := Lib.hid hx
  have H := Lib.hid h
  have HB := Lib.hid hB
  clear hx h hB
  by_cases hl : xs.length ≤ 1048576
  · obtain ⟨u, hu⟩ : ∃ u, widF xs = u := ⟨_, rfl⟩
    obtain ⟨a, b⟩ := u
    have HU := Lib.hid hu
    clear hu
    (change Calls _ _ _ _ (Fin R); go_enter Try.func4, Try.ntmps4)
    go_wp2_with (fail)
    refine toByteS_c A c xs _ HX.out hc hl _ ?_
    intro v1 w1 ho1 hb1
    obtain ⟨A1, c1, rfl, hc1, hm1, _⟩ := ho1.row
    have HO1 := Lib.hid ho1
    clear ho1
    go_wp2_with (fail)
    refine s_WidthOf_c A1 xs.length c1 xs _ rfl HO1.out.rowOf HB.out hl _ ?_
    intro w2 hb2
    have G2 := hb1.trans (hb2.mono hb1.size)
    rw [HU.out]
    obtain ⟨W2, hW2⟩ : ∃ W2, W2 = w2.alloc (Obj.cells #[.int .i64 a, .int .i64 b] 30) := ⟨_, rfl⟩
    obtain ⟨b3, _, hz3, GG⟩ := box1 _ _ _ W2 hW2
    have G3 := G2.trans (GG.mono G2.size)
    have HW2 := Lib.hid hW2
    clear hW2
    go_wp2_with (fail)
    rw [← HW2.out]
    refine toByteS_c A c xs _ (HX.out.below G3) hc hl _ ?_
    intro v4 w4 ho4 hb4
    obtain ⟨A4, c4, rfl, hc4, hm4, _⟩ := ho4.row
    have G4 := G3.trans (hb4.mono G3.size)
    have b4 := blk_keep b3 (by omega) hb4
    have HO4 := Lib.hid ho4
    have hz4 := hb4.size
    clear ho4 b3
    go_wp2_with (fail)
    refine i_WidthOf_c A4 xs.length c4 xs _ rfl HO4.out.rowOf HB.out hc4 hl _ ?_
    intro w5 hb5
    rw [HU.out]
    have G5 := G4.trans (hb5.mono G4.size)
    have b5 := blk_keep b4 (by omega) hb5
    have hz5 := hb5.size
    obtain ⟨W5, hW5⟩ : ∃ W5, W5 = w5.alloc (Obj.cells #[.int .i64 a, .int .i64 b] 30) := ⟨_, rfl⟩
    obtain ⟨b6, _, hz6, GG6⟩ := box1 _ _ _ W5 hW5
    have G6 := G5.trans (GG6.mono G5.size)
    have hlt : w2.heap.size < w5.heap.size := by omega
    have HW5 := Lib.hid hW5
    have HO5 := Lib.hid ((HO4.out.below hb5).below GG6)
    clear hW5 b4 b6 hb4 hb5
    go_wp2_with (fail)
    rw [← HW5.out]
    refine eqIntResult_same a b _ _ ?_
    intro w7 hb7
    have G7 := G6.trans (hb7.mono G6.size)
    go_wp2_with (fail)
    refine toByteS_c A c xs _ (HX.out.below G7) hc hl _ ?_
    intro v8 w8 ho8 hb8
    obtain ⟨A8, c8, rfl, hc8, hm8, _⟩ := ho8.row
    have G8 := G7.trans (hb8.mono G7.size)
    have HO8 := Lib.hid ho8
    have HO9 := Lib.hid ((HO5.out.below hb7).below hb8)
    clear ho8 hb8
    go_wp2_with (fail)
    refine eqByteS_c A4 A8 c4 c8 xs xs _ HO9.out.rowOf HO8.out.rowOf hc4 hc8 hm4 true (decide_eq_true rfl) _ ?_
    intro w9 hb9
    have G9 := G8.trans (hb9.mono G8.size)
    go_wp2_with (fail)
    go_ret
    exact H.out _ G9
  · (change Calls _ _ _ _ (Fin R); go_enter Try.func4, Try.ntmps4)
    go_wp2_with (fail)
    go_ret
    exact H.out _ (by (repeat' (first | (with_reducible exact Below.refl _ _) | (with_reducible assumption) | (with_reducible refine Below.alloc ?_ ?_ _) | (with_reducible refine bdN ?_ _) | (with_reducible refine Below.drew ?_) | (with_reducible refine Below.setCell ?_ ?_ _) | go_size)))
set_option maxRecDepth 100000 in
theorem lifted (os : Os) (started : os.Started) (H : Type) (enc : TypeId × Value → H) :
    ReturnsInHanded {} Try.checked os 4 .any (Rows.fnExactWidthOfSpec.pre6 enc Try.prog Try.f4 Rows.fnExactWidthOfRow.domain false) (Rows.fnExactWidthOfSpec.post enc Try.prog Try.f4 false true false false) := by
  refine returnsInHanded_of_change (C := Try.checked) own_knob started (by kernel_rfl) Try.func4
    (ChangeSpec.witness6 (enc := enc) (C := Try.checked) false ⟨#[], #[.slice none 0 0], []⟩ 8 (by kernel_rfl) (by kernel_rfl) (by kernel_rfl) (by kernel_rfl)) ?_
  intro W base args ds gs before hval0 hW hcnd _
  have hval : ∀ (j : Nat) t v, (Try.f4).params[j]? = some t → args[j]? = some v → Value.okWide Try.prog W .any base t v := hval0
  have hW' := hW
  obtain ⟨p, q, hA0, hV, rfl, hfz, hnd⟩ := hW
  have hA : DataW.TrodAll enc Try.prog W 0 (fun _ => true) true (Try.f4).params.toList args.toList ds p := hA0
  rw [Try.params4] at hA hval
  obtain ⟨v0, vs0, d0, ds0, p0, q0, hargs, rfl, rfl, h0, r0⟩ := trodAll_cons hA
  obtain ⟨rfl, rfl, rfl⟩ := trodAll_nil r0
  obtain rfl : args = #[v0] := by cases args; simp_all
  obtain ⟨A, xs, c, rfl, hc, hm, hR, hG⟩ := open_row_v (encE := eU) Try.underlying28 cells_uint8 el_uint8 (hval 0 _ v0 rfl rfl) h0
  obtain ⟨rfl, rfl⟩ := trodVars_none hV
  refine (law_walk A c xs W hR (fun i y hi => hG i y hi) hc hm).mono fun e W' ⟨he, hb⟩ => ?_
  subst he
  exact ⟨_, rfl, law_post laid_out Try.underlying4 rfl rfl (by kernel_rfl) hW' hb ⟨rfl, rfl, rfl⟩⟩
theorem over : Rows.fnExactWidthOfRow.holds Try.pinned (OpenSpec.ofChange Rows.fnExactWidthOfSpec) :=
  OpenClaim.holds_of_wide 4 Try.f4 rfl rfl rfl rfl rfl rfl rfl ⟨rfl, rfl, rfl, rfl, rfl⟩ rfl rfl rfl rfl rfl (by kernel_rfl) Try.func4 (by kernel_rfl)
    (of_decide_eq_true (by kernel_rfl)) (by unfold Func.isWrapper; first | (rw [if_pos (by decide +kernel)]; kernel_rfl) | (rw [if_neg (by decide +kernel)]; exact ⟨rfl, rfl⟩))
    (fun os started H enc _ => lifted os started H enc)
theorem proved : Rows.FnExactWidthOfSaid := over
end Go.Proofs.Ytcinaflmpdmdaaa.WidthOf
