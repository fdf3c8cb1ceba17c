/- For every input FnExactCmdFault returns true: the program's CmdFault tells what the reference's tells. No condition. -/
import Derived.Test.YtfghdealphdedaaRows
import Derived.Test.YtfghdealphdedaaOpen
import Derived.Test.YtfghdealphdedaaCmd
namespace Go.Proofs.Ytfghdealphdedaa.CmdFault
open Go.ChangeShapes Go.WideShapes Go.ChangeAt Go.RowKit
theorem law_walk (x : Cmd) (hm : x.t.size ≤ maxLen) (w : World) : Calls Try.prog 5 #[.agg #[.int .i64 x.k, .int .i64 x.n, .int .i64 x.wd, .string x.t]] w fun e w' => e = .returned (.bool true) ∧ Below w.heap.size w w' := by
  suffices H : ∀ R : Ending → World → Prop, (∀ w', Below w.heap.size w w' → R (.returned (.bool true)) w') → Calls Try.prog 5 #[.agg #[.int .i64 x.k, .int .i64 x.n, .int .i64 x.wd, .string x.t]] w R from H _ fun w' hb => ⟨rfl, hb⟩
  intro R h
  obtain ⟨W0, hW0⟩ : ∃ W0, W0 = w.alloc (Obj.cells #[.int .i64 x.k, .int .i64 x.n, .int .i64 x.wd, .string x.t] 36) := ⟨_, rfl⟩
  have k0 : W0.cell? ⟨w.heap.size, 0, none⟩ = some (.int .i64 x.k) := by rw [hW0]; go_simp
  have k1 : W0.cell? ⟨w.heap.size, 1, none⟩ = some (.int .i64 x.n) := by rw [hW0]; go_simp
  have k2 : W0.cell? ⟨w.heap.size, 2, none⟩ = some (.int .i64 x.wd) := by rw [hW0]; go_simp
  have k3 : W0.cell? ⟨w.heap.size, 3, none⟩ = some (.string x.t) := by rw [hW0]; go_simp
  have HW : Below w.heap.size w W0 := by rw [hW0]; (repeat' (first | (with_reducible exact Below.refl _ _) | (with_reducible assumption) | (with_reducible refine Below.alloc ?_ ?_ _) | (with_reducible refine bdN ?_ _) | (with_reducible refine Below.drew ?_) | (with_reducible refine Below.setCell ?_ ?_ _) | go_size))
  have H0 := Lib.hid hW0
  clear hW0
  (change Calls _ _ _ _ (Fin R); go_enter Try.func5, Try.ntmps5)
  go_wp2_with (fail)
  rw [← H0.out]
  refine szCmd_c x 1048576 _ hm (by omega) (by omega) _ ?_
  intro w1 hb1
  have HB1 := HW.trans (hb1.mono HW.size)
  replace k0 := cell_below hb1 k0
  replace k1 := cell_below hb1 k1
  replace k2 := cell_below hb1 k2
  replace k3 := cell_below hb1 k3
  by_cases hl : (1048576 : Int) - x.t.size < 0
  · rw [if_pos hl]
    go_wp2_with (fail)
    go_ret
    exact h _ HB1
  · rw [if_neg hl]
    go_wp2_with (fail)
    refine toCmd_c x _ _ ?_
    intro w2 hb2
    have HB2 := HB1.trans (hb2.mono HB1.size)
    go_wp2_with (fail)
    refine s_CmdFault_c x _ _ ?_
    intro w3 hb3
    have HB3 := HB2.trans (hb3.mono HB2.size)
    replace k0 := cell_below hb3 (cell_below hb2 k0)
    replace k1 := cell_below hb3 (cell_below hb2 k1)
    replace k2 := cell_below hb3 (cell_below hb2 k2)
    replace k3 := cell_below hb3 (cell_below hb2 k3)
    go_wp2_with (fail)
    refine toCmd_c x _ _ ?_
    intro w4 hb4
    have HB4 := HB3.trans (hb4.mono HB3.size)
    go_wp2_with (fail)
    refine i_CmdFault_c x _ _ ?_
    intro w5 hb5
    have HB5 := HB4.trans (hb5.mono HB4.size)
    go_wp2_with (fail)
    go_ret
    exact h _ HB5
section
variable {H : Type} {enc : TypeId × Value → H} {w : World} {base : Nat} {spare : Nat → Bool} {held : Bool}
theorem el_Cmd {fuel : Nat} {cs : List Value} {x : DataW H × List MemPlace} (h : DataW.trod enc Try.prog w base spare held fuel 36 cs = some x) : ∃ y : Cmd, cs = [.int .i64 y.k, .int .i64 y.n, .int .i64 y.wd, .string y.t] ∧ y.t.size ≤ maxLen := by
  have hc : (Try.prog).cellsOf 36 = 4 := by kernel_rfl
  obtain ⟨hl, _⟩ := field_of Try.underlying36 h
  rw [hc] at hl
  obtain ⟨v0, _, _, e0, h0⟩ := field_one Try.underlying36 h 0 _ rfl 2 0 rfl rfl cells_int64 (by rw [hc]; decide)
  obtain ⟨v1, _, _, e1, h1⟩ := field_one Try.underlying36 h 1 _ rfl 2 1 rfl rfl cells_int64 (by rw [hc]; decide)
  obtain ⟨v2, _, _, e2, h2⟩ := field_one Try.underlying36 h 2 _ rfl 2 2 rfl rfl cells_int64 (by rw [hc]; decide)
  obtain ⟨v3, _, _, e3, h3⟩ := field_one Try.underlying36 h 3 _ rfl 9 3 rfl rfl cells_string (by rw [hc]; decide)
  match cs, hl with
  | [c0, c1, c2, c3], _ =>
    cases e0
    cases e1
    cases e2
    cases e3
    obtain ⟨a, ea, _, wa⟩ := DataW.trod_int Try.underlying2 h0
    obtain ⟨b, eb, _, wb⟩ := DataW.trod_int Try.underlying2 h1
    obtain ⟨c, ec, _, wc⟩ := DataW.trod_int Try.underlying2 h2
    obtain ⟨d, ed, hd⟩ := DataW.trod_string Try.underlying9 h3
    cases ea
    cases eb
    cases ec
    cases ed
    exact ⟨⟨a, b, c, d⟩, rfl, hd.2⟩
end
set_option maxRecDepth 100000 in
theorem lifted (os : Os) (started : os.Started) (H : Type) (enc : TypeId × Value → H) :
    ReturnsInHanded {} Try.checked os 5 .any (Rows.fnExactCmdFaultSpec.pre6 enc Try.prog Try.f5 Rows.fnExactCmdFaultRow.domain false) (Rows.fnExactCmdFaultSpec.post enc Try.prog Try.f5 false true false false) := by
  refine returnsInHanded_of_change (C := Try.checked) own_knob started (by kernel_rfl) Try.func5
    (ChangeSpec.witness6 (enc := enc) (C := Try.checked) false ⟨#[], #[.agg #[.int .i64 0, .int .i64 0, .int .i64 0, .string { data := #[] }]], []⟩ 8 (by kernel_rfl) (by kernel_rfl) (by kernel_rfl) (by kernel_rfl)) ?_
  intro W base args ds gs before hval0 hW hcnd _
  have hval : ∀ (j : Nat) t v, (Try.f5).params[j]? = some t → args[j]? = some v → Value.okWide Try.prog W .any base t v := hval0
  have hW' := hW
  obtain ⟨p, q, hA0, hV, rfl, hfz, hnd⟩ := hW
  have hA : DataW.TrodAll enc Try.prog W 0 (fun _ => true) true (Try.f5).params.toList args.toList ds p := hA0
  rw [Try.params5] at hA hval
  obtain ⟨v0, vs0, d0, ds0, p0, q0, hargs, rfl, rfl, h0, r0⟩ := trodAll_cons hA
  obtain ⟨rfl, rfl, rfl⟩ := trodAll_nil r0
  obtain rfl : args = #[v0] := by cases args; simp_all
  obtain ⟨cs, _, _, rfl, hx⟩ := open_struct_v Try.underlying36 (hval 0 _ v0 rfl rfl) h0
  obtain ⟨x, rfl, hm⟩ := el_Cmd hx
  obtain ⟨rfl, rfl⟩ := trodVars_none hV
  refine (law_walk x hm W).mono fun e W' ⟨he, hb⟩ => ?_
  subst he
  exact ⟨_, rfl, law_post laid_out Try.underlying4 rfl rfl (by kernel_rfl) hW' hb ⟨rfl, rfl, rfl⟩⟩
theorem over : Rows.fnExactCmdFaultRow.holds Try.pinned (OpenSpec.ofChange Rows.fnExactCmdFaultSpec) :=
  OpenClaim.holds_of_wide 5 Try.f5 rfl rfl rfl rfl rfl rfl rfl ⟨rfl, rfl, rfl, rfl, rfl⟩ rfl rfl rfl rfl rfl (by kernel_rfl) Try.func5 (by kernel_rfl)
    (of_decide_eq_true (by kernel_rfl)) (by unfold Func.isWrapper; first | (rw [if_pos (by decide +kernel)]; kernel_rfl) | (rw [if_neg (by decide +kernel)]; exact ⟨rfl, rfl⟩))
    (fun os started H enc _ => lifted os started H enc)
theorem proved : Rows.FnExactCmdFaultSaid := over
end Go.Proofs.Ytfghdealphdedaa.CmdFault
