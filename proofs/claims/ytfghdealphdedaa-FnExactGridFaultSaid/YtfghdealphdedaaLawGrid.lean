/- For every input FnExactGridFault returns true: the program's GridFault tells what the reference's tells, and leaves its argument as it was. No condition. -/
import Derived.Test.YtfghdealphdedaaRows
import Derived.Test.YtfghdealphdedaaOpen
import Derived.Test.YtfghdealphdedaaGrid
namespace Go.Proofs.Ytfghdealphdedaa.GridFault
open Go.ChangeShapes Go.WideShapes Go.ChangeAt Go.RowKit
set_option maxHeartbeats 4000000 in
theorem law_walk (wd : Int) (A B : Option Addr) (c d : Nat) (xs : List Int) (hs : List Bool) (w : World) (hx : Row eI 1 w A xs) (hy : Row eB 1 w B hs) (hc : xs.length ≤ c) (hd : hs.length ≤ d) (hm : c ≤ maxLen) (hm2 : d ≤ maxLen) :
    Calls Try.prog 7 #[gridV wd A xs.length c B hs.length d] w fun e w' => e = .returned (.bool true) ∧ Below w.heap.size w w' := by
  suffices H : ∀ R : Ending → World → Prop, (∀ w', Below w.heap.size w w' → R (.returned (.bool true)) w') → Calls Try.prog 7 #[gridV wd A xs.length c B hs.length d] w R from H _ fun w' hb => ⟨rfl, hb⟩
  intro R h
  have HX := Lib.hid hx
  have HY := Lib.hid hy
  have H := Lib.hid h
  clear hx hy h
  obtain ⟨W, hW⟩ : ∃ W, W = w.alloc (Obj.cells #[.int .i64 wd, .slice A xs.length c, .slice B hs.length d] 56) := ⟨_, rfl⟩
  obtain ⟨b1, f1, hz, G0⟩ := box1 _ _ _ W hW
  have HW := Lib.hid hW
  clear hW f1
  by_cases hl : (1048576 : Int) - xs.length - hs.length < 0
  · (change Calls _ _ _ _ (Fin R); go_enter Try.func7, Try.ntmps7)
    go_wp2_with (fail)
    rw [← HW.out]
    refine szGrid_c wd A B xs.length hs.length c d 1048576 _ (by omega) (by omega) (by omega) (by omega) _ ?_
    intro w1 hb1
    rw [if_pos (by omega)]
    have G1 := G0.trans (hb1.mono G0.size)
    go_wp2_with (fail)
    go_ret
    exact H.out _ G1
  · (change Calls _ _ _ _ (Fin R); go_enter Try.func7, Try.ntmps7)
    go_wp2_with (fail)
    rw [← HW.out]
    refine szGrid_c wd A B xs.length hs.length c d 1048576 _ (by omega) (by omega) (by omega) (by omega) _ ?_
    intro w1 hb1
    rw [if_neg (by omega)]
    have hz1 := hb1.size
    have G1 := G0.trans (hb1.mono G0.size)
    replace b1 := blk_keep b1 (by omega) hb1
    go_wp2_with (fail)
    refine toGrid_c wd A B c d xs hs _ (HX.out.below G1) (HY.out.below G1) hc hd (by omega) (by omega) _ ?_
    intro A2 B2 c2 d2 w2 ho2 hp2 hc2 hd2 hm2' hmd2 hb2
    have hz2 := hb2.size
    have G2 := G1.trans (hb2.mono G1.size)
    replace b1 := blk_keep b1 (by omega) hb2
    go_wp2_with (fail)
    refine s_GridFault_c wd A2 B2 c2 d2 hs.length xs _ ho2.rowOf hc2 hm2' (by omega) (by omega) _ ?_
    intro w3 hb3
    have hz3 := hb3.size
    have G3 := G2.trans (hb3.mono G2.size)
    replace b1 := blk_keep b1 (by omega) hb3
    clear ho2 hp2
    go_wp2_with (fail)
    refine toGrid_c wd A B c d xs hs _ (HX.out.below G3) (HY.out.below G3) hc hd (by omega) (by omega) _ ?_
    intro A4 B4 c4 d4 w4 ho4 hp4 hc4 hd4 hm4 hmd4 hb4
    have hz4 := hb4.size
    have G4 := G3.trans (hb4.mono G3.size)
    replace b1 := blk_keep b1 (by omega) hb4
    obtain ⟨W4, hW4⟩ : ∃ W4, W4 = w4.alloc (Obj.cells #[.int .i64 wd, .slice A4 xs.length c4, .slice B4 hs.length d4] 59) := ⟨_, rfl⟩
    obtain ⟨b5, _, hz5, GG⟩ := box1 _ _ _ W4 hW4
    have G5 := G4.trans (GG.mono G4.size)
    have b1' : ∀ i, W4.cell? ⟨w.heap.size, i, none⟩ = #[.int .i64 wd, .slice A xs.length c, .slice B hs.length d][i]? := by rw [hW4]; exact blk_alloc b1 (by omega) _
    have HA := Lib.hid (show Row eI 1 W4 A4 xs from (ho4.below GG).rowOf)
    have HB := Lib.hid (show Row eB 1 W4 B4 hs from (hp4.below GG).rowOf)
    have HW4 := Lib.hid hW4
    clear ho4 hp4 hW4 b1
    go_wp2_with (fail)
    rw [← HW4.out]
    refine i_GridFault_c wd A4 B4 c4 d4 hs.length xs _ HA.out hc4 hm4 (by omega) (by omega) _ ?_
    intro w5 hb5
    have hz5' := hb5.size
    have G6 := G5.trans (hb5.mono G5.size)
    have b6 := blk_keep b1' (by omega) hb5
    have b7 := blk_keep b5 (by omega) hb5
    have HA5 := Lib.hid (HA.out.below hb5)
    have HB5 := Lib.hid (HB.out.below hb5)
    clear b1' b5 HA HB hb5
    go_wp2_with (fail)
    go_region_held3 (fun w' => ∀ p, (w5.cell? p).isSome = true → w'.cell? p = w5.cell? p) (first | exact keeps_refl _ | exact keeps_below (below_drew hb7) | exact keeps_trans (keeps_below (below_drew hb7)) hb8)
      (first | (go_at_call 27; refine toGrid_c wd A B c d xs hs _ (HX.out.below (Below.drew G6)) (HY.out.below (Below.drew G6)) hc hd (by omega) (by omega) _ ?_; intro A7 B7 c7 d7 w7 ho7 hp7 hc7 hd7 hm7 hmd7 hb7) | (go_at_call 29; refine eqGrid_same wd A4 B4 A7 B7 c4 d4 c7 d7 xs hs _ (HA5.out.below (below_drew hb7)) (HB5.out.below (below_drew hb7)) ho7.rowOf hp7.rowOf hc4 hd4 hc7 hd7 hm4 hmd4 _ ?_; intro w8 hb8))
    have G7 := G6.trans ((below_drew hb7).mono G6.size)
    have G8 := G7.trans (hb8.mono G7.size)
    clear b6 b7 ho7 hp7
    go_wp2
    go_ret
    exact H.out _ G8
section
variable {H : Type} {enc : TypeId × Value → H} {w : World} {base : Nat} {spare : Nat → Bool} {held : Bool}
theorem cells_grid1 : Try.prog.cellsOf 53 = 1 := by kernel_rfl
theorem cells_grid2 : Try.prog.cellsOf 54 = 1 := by kernel_rfl
theorem el_Grid {fuel : Nat} {cs : List Value} {x : DataW H × List MemPlace} (h : DataW.trod enc Try.prog w base spare held fuel 56 cs = some x) :
    ∃ (wd : Int) (A B : Option Addr) (c d : Nat) (xs : List Int) (hs : List Bool), cs = [.int .i64 wd, .slice A xs.length c, .slice B hs.length d] ∧ Row eI 1 w A xs ∧ Row eB 1 w B hs ∧ xs.length ≤ c ∧ hs.length ≤ d ∧ c ≤ maxLen ∧ d ≤ maxLen := by
  have hc : (Try.prog).cellsOf 56 = 3 := by kernel_rfl
  obtain ⟨hl, _⟩ := field_of Try.underlying56 h
  rw [hc] at hl
  obtain ⟨v0, _, _, e0, h0⟩ := field_one Try.underlying56 h 0 _ rfl 2 0 rfl rfl cells_int64 (by rw [hc]; decide)
  obtain ⟨v1, _, _, e1, h1⟩ := field_one Try.underlying56 h 1 _ rfl 53 1 rfl rfl cells_grid1 (by rw [hc]; decide)
  obtain ⟨v2, _, _, e2, h2⟩ := field_one Try.underlying56 h 2 _ rfl 54 2 rfl rfl cells_grid2 (by rw [hc]; decide)
  match cs, hl with
  | [c0, c1, c2], _ =>
    cases e0
    cases e1
    cases e2
    obtain ⟨a, ea, _, wa⟩ := DataW.trod_int Try.underlying2 h0
    obtain ⟨A, xs, c, ec, hc1, hm1, hR, _⟩ := open_row (encE := eI) Try.underlying53 cells_int64 el_int64 h1
    obtain ⟨B, hs, d, ed, hd1, hm2, hS, _⟩ := open_row (encE := eB) Try.underlying54 cells_bool el_bool h2
    cases ea
    cases ec
    cases ed
    exact ⟨a, A, B, c, d, xs, hs, rfl, hR, hS, hc1, hd1, hm1, hm2⟩
end
set_option maxRecDepth 100000 in
theorem lifted (os : Os) (started : os.Started) (H : Type) (enc : TypeId × Value → H) :
    ReturnsInHanded {} Try.checked os 7 .any (Rows.fnExactGridFaultSpec.pre6 enc Try.prog Try.f7 Rows.fnExactGridFaultRow.domain false) (Rows.fnExactGridFaultSpec.post enc Try.prog Try.f7 false true false false) := by
  refine returnsInHanded_of_change (C := Try.checked) own_knob started (by kernel_rfl) Try.func7
    (ChangeSpec.witness6 (enc := enc) (C := Try.checked) false ⟨#[], #[.agg #[.int .i64 0, .slice none 0 0, .slice none 0 0]], []⟩ 8 (by kernel_rfl) (by kernel_rfl) (by kernel_rfl) (by kernel_rfl)) ?_
  intro W base args ds gs before hval0 hW hcnd _
  have hval : ∀ (j : Nat) t v, (Try.f7).params[j]? = some t → args[j]? = some v → Value.okWide Try.prog W .any base t v := hval0
  have hW' := hW
  obtain ⟨p, q, hA0, hV, rfl, hfz, hnd⟩ := hW
  have hA : DataW.TrodAll enc Try.prog W 0 (fun _ => true) true (Try.f7).params.toList args.toList ds p := hA0
  rw [Try.params7] at hA hval
  obtain ⟨v0, vs0, d0, ds0, p0, q0, hargs, rfl, rfl, h0, r0⟩ := trodAll_cons hA
  obtain ⟨rfl, rfl, rfl⟩ := trodAll_nil r0
  obtain rfl : args = #[v0] := by cases args; simp_all
  obtain ⟨cs, _, _, rfl, hx⟩ := open_struct_v Try.underlying56 (hval 0 _ v0 rfl rfl) h0
  obtain ⟨wd, A, B, c, d, xs, hs, rfl, hR, hS, hc, hd, hm, hm2⟩ := el_Grid hx
  obtain ⟨rfl, rfl⟩ := trodVars_none hV
  refine (law_walk wd A B c d xs hs W hR hS hc hd hm hm2).mono fun e W' ⟨he, hb⟩ => ?_
  subst he
  exact ⟨_, rfl, law_post laid_out Try.underlying4 rfl rfl (by kernel_rfl) hW' hb ⟨rfl, rfl, rfl⟩⟩
theorem over : Rows.fnExactGridFaultRow.holds Try.pinned (OpenSpec.ofChange Rows.fnExactGridFaultSpec) :=
  OpenClaim.holds_of_wide 7 Try.f7 rfl rfl rfl rfl rfl rfl rfl ⟨rfl, rfl, rfl, rfl, rfl⟩ rfl rfl rfl rfl rfl (by kernel_rfl) Try.func7 (by kernel_rfl)
    (of_decide_eq_true (by kernel_rfl)) (by unfold Func.isWrapper; first | (rw [if_pos (by decide +kernel)]; kernel_rfl) | (rw [if_neg (by decide +kernel)]; exact ⟨rfl, rfl⟩))
    (fun os started H enc _ => lifted os started H enc)
theorem proved : Rows.FnExactGridFaultSaid := over
end Go.Proofs.Ytfghdealphdedaa.GridFault
