/- For every input FnExactLayoutFault returns true: the program's LayoutFault tells what the reference's tells. No condition. -/
import Derived.Test.YtfghdealphdedaaRows
import Derived.Test.YtfghdealphdedaaOpen
import Derived.Test.YtfghdealphdedaaLayout
namespace Go.Proofs.Ytfghdealphdedaa.LayoutFault
open Go.ChangeShapes Go.WideShapes Go.ChangeAt Go.RowKit
theorem law_walk (x : Lay) (w : World) : Calls Try.prog 3 #[.agg #[.int .i64 x.wd, .bool x.ch, .int .i64 x.sh]] w fun e w' => e = .returned (.bool true) ∧ Below w.heap.size w w' := by
  suffices H : ∀ R : Ending → World → Prop, (∀ w', Below w.heap.size w w' → R (.returned (.bool true)) w') → Calls Try.prog 3 #[.agg #[.int .i64 x.wd, .bool x.ch, .int .i64 x.sh]] w R from H _ fun w' hb => ⟨rfl, hb⟩
  intro R h
  have k0 : (w.alloc (Obj.cells #[.int .i64 x.wd, .bool x.ch, .int .i64 x.sh] 23)).cell? ⟨w.heap.size, 0, none⟩ = some (.int .i64 x.wd) := by go_simp
  have k1 : (w.alloc (Obj.cells #[.int .i64 x.wd, .bool x.ch, .int .i64 x.sh] 23)).cell? ⟨w.heap.size, 1, none⟩ = some (.bool x.ch) := by go_simp
  have k2 : (w.alloc (Obj.cells #[.int .i64 x.wd, .bool x.ch, .int .i64 x.sh] 23)).cell? ⟨w.heap.size, 2, none⟩ = some (.int .i64 x.sh) := by go_simp
  have HW : Below w.heap.size w (w.alloc (Obj.cells #[.int .i64 x.wd, .bool x.ch, .int .i64 x.sh] 23)) := by (repeat' (first | (with_reducible exact Below.refl _ _) | (with_reducible assumption) | (with_reducible refine Below.alloc ?_ ?_ _) | (with_reducible refine bdN ?_ _) | (with_reducible refine Below.drew ?_) | (with_reducible refine Below.setCell ?_ ?_ _) | go_size))
  (change Calls _ _ _ _ (Fin R); go_enter Try.func3, Try.ntmps3)
  go_wp2_with (fail)
  refine toLayout_c x _ _ ?_
  intro w1 hb1
  have HB1 := HW.trans (hb1.mono HW.size)
  go_wp2_with (fail)
  refine s_LayoutFault_c x _ _ ?_
  intro w2 hb2
  have HB2 := HB1.trans (hb2.mono HB1.size)
  have c0 := cell_below hb2 (cell_below hb1 k0)
  have c1 := cell_below hb2 (cell_below hb1 k1)
  have c2 := cell_below hb2 (cell_below hb1 k2)
  clear k0 k1 k2
  go_wp2_with (fail)
  refine toLayout_c x _ _ ?_
  intro w3 hb3
  have HB3 := HB2.trans (hb3.mono HB2.size)
  go_wp2_with (fail)
  refine i_LayoutFault_c x _ _ ?_
  intro w4 hb4
  have HB4 := HB3.trans (hb4.mono HB3.size)
  go_wp2_with (fail)
  go_ret
  exact h _ HB4
section
variable {H : Type} {enc : TypeId × Value → H} {w : World} {base : Nat} {spare : Nat → Bool} {held : Bool}
theorem el_Lay {fuel : Nat} {cs : List Value} {x : DataW H × List MemPlace} (h : DataW.trod enc Try.prog w base spare held fuel 23 cs = some x) : ∃ y : Lay, cs = [.int .i64 y.wd, .bool y.ch, .int .i64 y.sh] := by
  have hc : (Try.prog).cellsOf 23 = 3 := by kernel_rfl
  obtain ⟨hl, _⟩ := field_of Try.underlying23 h
  rw [hc] at hl
  obtain ⟨v0, _, _, e0, h0⟩ := field_one Try.underlying23 h 0 _ rfl 2 0 rfl rfl cells_int64 (by rw [hc]; decide)
  obtain ⟨v1, _, _, e1, h1⟩ := field_one Try.underlying23 h 1 _ rfl 4 1 rfl rfl cells_bool (by rw [hc]; decide)
  obtain ⟨v2, _, _, e2, h2⟩ := field_one Try.underlying23 h 2 _ rfl 2 2 rfl rfl cells_int64 (by rw [hc]; decide)
  match cs, hl with
  | [c0, c1, c2], _ =>
    cases e0
    cases e1
    cases e2
    obtain ⟨a, ea, _, wa⟩ := DataW.trod_int Try.underlying2 h0
    obtain ⟨b, eb, _⟩ := DataW.trod_bool Try.underlying4 h1
    obtain ⟨c, ec, _, wc⟩ := DataW.trod_int Try.underlying2 h2
    cases ea
    cases eb
    cases ec
    exact ⟨⟨a, b, c⟩, rfl⟩
end
set_option maxRecDepth 100000 in
theorem lifted (os : Os) (started : os.Started) (H : Type) (enc : TypeId × Value → H) :
    ReturnsInHanded {} Try.checked os 3 .any (Rows.fnExactLayoutFaultSpec.pre6 enc Try.prog Try.f3 Rows.fnExactLayoutFaultRow.domain false) (Rows.fnExactLayoutFaultSpec.post enc Try.prog Try.f3 false true false false) := by
  refine returnsInHanded_of_change (C := Try.checked) own_knob started (by kernel_rfl) Try.func3
    (ChangeSpec.witness6 (enc := enc) (C := Try.checked) false ⟨#[], #[.agg #[.int .i64 0, .bool false, .int .i64 0]], []⟩ 8 (by kernel_rfl) (by kernel_rfl) (by kernel_rfl) (by kernel_rfl)) ?_
  intro W base args ds gs before hval0 hW hcnd _
  have hval : ∀ (j : Nat) t v, (Try.f3).params[j]? = some t → args[j]? = some v → Value.okWide Try.prog W .any base t v := hval0
  have hW' := hW
  obtain ⟨p, q, hA0, hV, rfl, hfz, hnd⟩ := hW
  have hA : DataW.TrodAll enc Try.prog W 0 (fun _ => true) true (Try.f3).params.toList args.toList ds p := hA0
  rw [Try.params3] at hA hval
  obtain ⟨v0, vs0, d0, ds0, p0, q0, hargs, rfl, rfl, h0, r0⟩ := trodAll_cons hA
  obtain ⟨rfl, rfl, rfl⟩ := trodAll_nil r0
  obtain rfl : args = #[v0] := by cases args; simp_all
  obtain ⟨cs, _, _, rfl, hx⟩ := open_struct_v Try.underlying23 (hval 0 _ v0 rfl rfl) h0
  obtain ⟨x, rfl⟩ := el_Lay hx
  obtain ⟨rfl, rfl⟩ := trodVars_none hV
  refine (law_walk x W).mono fun e W' ⟨he, hb⟩ => ?_
  subst he
  exact ⟨_, rfl, law_post laid_out Try.underlying4 rfl rfl (by kernel_rfl) hW' hb ⟨rfl, rfl, rfl⟩⟩
theorem over : Rows.fnExactLayoutFaultRow.holds Try.pinned (OpenSpec.ofChange Rows.fnExactLayoutFaultSpec) :=
  OpenClaim.holds_of_wide 3 Try.f3 rfl rfl rfl rfl rfl rfl rfl ⟨rfl, rfl, rfl, rfl, rfl⟩ rfl rfl rfl rfl rfl (by kernel_rfl) Try.func3 (by kernel_rfl)
    (of_decide_eq_true (by kernel_rfl)) (by unfold Func.isWrapper; first | (rw [if_pos (by decide +kernel)]; kernel_rfl) | (rw [if_neg (by decide +kernel)]; exact ⟨rfl, rfl⟩))
    (fun os started H enc _ => lifted os started H enc)
theorem proved : Rows.FnExactLayoutFaultSaid := over
end Go.Proofs.Ytfghdealphdedaa.LayoutFault
