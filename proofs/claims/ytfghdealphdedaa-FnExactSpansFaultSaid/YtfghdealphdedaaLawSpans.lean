/- For every input FnExactSpansFault returns true: the program's SpansFault tells what the reference's tells, and leaves its argument as it was. No condition. -/
import Derived.Test.YtfghdealphdedaaRows
import Derived.Test.YtfghdealphdedaaOpen
import Derived.Test.YtfghdealphdedaaSpans2
namespace Go.Proofs.Ytfghdealphdedaa
open Go.ChangeShapes Go.WideShapes Go.ChangeAt Go.RowKit
theorem own_knob : ownKnob Try.prog.godebug = none := by kernel_rfl
theorem laid_out : laidOutB Try.prog = true := by kernel_rfl
theorem cells_int64 : Try.prog.cellsOf 2 = 1 := by kernel_rfl
theorem cells_lSpan : Try.prog.cellsOf 69 = 2 := by kernel_rfl
section
variable {H : Type} {enc : TypeId × Value → H} {w : World} {base : Nat} {spare : Nat → Bool} {held : Bool}
theorem el_Spn {fuel : Nat} {cs : List Value} {x : DataW H × List MemPlace} (h : DataW.trod enc Try.prog w base spare held fuel 69 cs = some x) : ∃ y : Spn, cs = eSpn y ∧ True := by
  obtain ⟨hl, _⟩ := field_of Try.underlying69 h
  rw [cells_lSpan] at hl
  obtain ⟨v0, _, _, e0, h0⟩ := field_one Try.underlying69 h 0 _ rfl 2 0 rfl rfl cells_int64 (by rw [cells_lSpan]; decide)
  obtain ⟨v1, _, _, e1, h1⟩ := field_one Try.underlying69 h 1 _ rfl 2 1 rfl rfl cells_int64 (by rw [cells_lSpan]; decide)
  match cs, hl with
  | [c0, c1], _ =>
    cases e0
    cases e1
    obtain ⟨a, ea, _, wa⟩ := DataW.trod_int Try.underlying2 h0
    obtain ⟨b, eb, _, wb⟩ := DataW.trod_int Try.underlying2 h1
    cases ea
    cases eb
    exact ⟨⟨a, b⟩, rfl, trivial⟩
end
theorem law_walk (A : Option Addr) (c : Nat) (xs : List Spn) (w : World) (hx : Row eSpn 2 w A xs) (hc : xs.length ≤ c) (hm : c ≤ maxLen) :
    Calls Try.prog 4 #[.slice A xs.length c] w fun e w' => e = .returned (.bool true) ∧ Below w.heap.size w w' := by
  have hm' : xs.length ≤ maxLen := by omega
  suffices H : ∀ R : Ending → World → Prop, (∀ w', Below w.heap.size w w' → R (.returned (.bool true)) w') → Calls Try.prog 4 #[.slice A xs.length c] w R from H _ fun w' hb => ⟨rfl, hb⟩
  intro R h
  by_cases hl : (1048576 : Int) - xs.length < 0
  · (change Calls _ _ _ _ (Fin R); go_enter Try.func4, Try.ntmps4)
    go_wp2_with (fail)
    refine szSpanS_c A xs.length c 1048576 w hm' (by omega) (by omega) _ ?_
    rw [if_pos (by omega)]
    go_wp2_with (fail)
    go_ret
    exact h _ (Below.refl _ _)
  · (change Calls _ _ _ _ (Fin R); go_enter Try.func4, Try.ntmps4)
    go_wp2_with (fail)
    refine szSpanS_c A xs.length c 1048576 w hm' (by omega) (by omega) _ ?_
    rw [if_neg (by omega)]
    go_wp2_with (fail)
    refine toSpanS_c A c xs w hx hc (by omega) _ ?_
    intro v1 w1 ho1 hb1
    obtain ⟨A1, c1, rfl, hc1, hm1, hr1⟩ := ho1.row
    go_wp2_with (fail)
    refine s_SpansFault_c A1 c1 xs w1 hr1 hc1 (by omega) _ ?_
    intro w2 hb2
    have HB2 := hb1.trans (hb2.mono hb1.size)
    go_wp2_with (fail)
    refine toSpanS_c A c xs w2 (hx.below HB2) hc (by omega) _ ?_
    intro v3 w3 ho3 hb3
    have HB3 := HB2.trans (hb3.mono HB2.size)
    obtain ⟨A3, c3, rfl, hc3, hm3, hr3⟩ := ho3.row
    go_wp2_with (fail)
    refine i_SpansFault_c A3 c3 xs w3 hr3 hc3 (by omega) _ ?_
    intro w4 hb4
    have HB4 := HB3.trans (hb4.mono HB3.size)
    go_wp2_with (fail)
    refine toSpanS_c A c xs w4 (hx.below HB4) hc (by omega) _ ?_
    intro v5 w5 ho5 hb5
    have HB5 := HB4.trans (hb5.mono HB4.size)
    obtain ⟨A5, c5, rfl, hc5, hm5, hr5⟩ := ho5.row
    go_wp2_with (fail)
    refine eqSpanS_c A3 A5 c3 c5 xs xs w5 ((hr3.below hb4).below hb5) hr5 hc3 hc5 hm3 _ ?_
    intro w6 hb6
    have HB6 := HB5.trans (hb6.mono HB5.size)
    rw [decide_eq_true rfl]
    go_wp2_with (fail)
    go_ret
    exact h _ HB6
theorem lifted (os : Os) (started : os.Started) (H : Type) (enc : TypeId × Value → H) :
    ReturnsInHanded {} Try.checked os 4 .any (Rows.fnExactSpansFaultSpec.pre6 enc Try.prog Try.f4 Rows.fnExactSpansFaultRow.domain false) (Rows.fnExactSpansFaultSpec.post enc Try.prog Try.f4 false true false false) := by
  refine returnsInHanded_of_change (C := Try.checked) own_knob started (by kernel_rfl) Try.func4
    (ChangeSpec.witness6 (enc := enc) (C := Try.checked) false ⟨#[], #[.slice none 0 0], []⟩ 8 (by kernel_rfl) (by kernel_rfl) (by kernel_rfl) (by kernel_rfl)) ?_
  intro W base args ds gs before hval0 hW hcnd _
  have hval : ∀ (j : Nat) t v, (Try.f4).params[j]? = some t → args[j]? = some v → Value.okWide Try.prog W .any base t v := hval0
  have hW' := hW
  obtain ⟨p, q, hA0, hV, rfl, hfz, hnd⟩ := hW
  have hA : DataW.TrodAll enc Try.prog W 0 (fun _ => true) true (Try.f4).params.toList args.toList ds p := hA0
  rw [Try.params4] at hA hval
  obtain ⟨v0, vs0, d0, ds0, p0, q0, hargs, rfl, rfl, h0, r0⟩ := trodAll_cons hA
  obtain ⟨rfl, rfl, rfl⟩ := trodAll_nil r0
  obtain rfl : args = #[v0] := by cases args; simp_all
  obtain ⟨A, xs, c, rfl, hc, hm, hR, _⟩ := open_row_v Try.underlying28 cells_lSpan el_Spn (hval 0 _ v0 rfl rfl) h0
  obtain ⟨rfl, rfl⟩ := trodVars_none hV
  refine (law_walk A c xs W hR hc hm).mono fun e W' ⟨he, hb⟩ => ?_
  subst he
  exact ⟨_, rfl, law_post laid_out Try.underlying4 rfl rfl (by kernel_rfl) hW' hb ⟨rfl, rfl, rfl⟩⟩
theorem over : Rows.fnExactSpansFaultRow.holds Try.pinned (OpenSpec.ofChange Rows.fnExactSpansFaultSpec) :=
  OpenClaim.holds_of_wide 4 Try.f4 rfl rfl rfl rfl rfl rfl rfl ⟨rfl, rfl, rfl, rfl, rfl⟩ rfl rfl rfl rfl rfl (by kernel_rfl) Try.func4 (by kernel_rfl)
    (of_decide_eq_true (by kernel_rfl)) (by unfold Func.isWrapper; first | (rw [if_pos (by decide +kernel)]; kernel_rfl) | (rw [if_neg (by decide +kernel)]; exact ⟨rfl, rfl⟩))
    (fun os started H enc _ => lifted os started H enc)
theorem proved : Rows.FnExactSpansFaultSaid := over
end Go.Proofs.Ytfghdealphdedaa
