/- Part 4 of what the proof of FnRows needs: contracts of functions, as plain functions over numbers and lists, and laws of these. -/
import Derived.Test.YtcinaflmpdmdaaaCFnRows0
import Derived.Test.YtcinaflmpdmdaaaCFnRows2
import Derived.Test.YtcinaflmpdmdaaaCFnRows1
import Derived.Test.YtcinaflmpdmdaaaWWords
import Derived.Test.YtcinaflmpdmdaaaWMore
set_option linter.unusedVariables false
set_option linter.unusedSimpArgs false
section
namespace Go.Proofs.Ytcinaflmpdmdaaa.Q
open Go.RowKit Go.Proofs.YtcinaflmpdmdaaaW.PrintWords Go.Proofs.YtcinaflmpdmdaaaW.PrintLast Go.Proofs.YtcinaflmpdmdaaaW.PrintMore
attribute [local go_sem] max2_int min2_int max_two min_two max_three min_three max_four min_four   -- for this text's walks alone
set_option linter.unusedVariables false
set_option linter.unusedSimpArgs false
attribute [local go_sem high] eqA46
/-! ### laws_FnRows: function 8 -/
theorem laws_FnRows.fd30_0 (x0_ : Int) (x1_ : Int) (w : World) : (Instr.field 30 (.agg #[.int .i64 x0_, .int .i64 x1_]) 0).run Try.prog w = .ok (.int .i64 x0_) w := by kernel_rfl
attribute [local go_sem] laws_FnRows.fd30_0
theorem laws_FnRows.fd40_0 (x0_ : Int) (x1_ : Value) (w : World) : (Instr.field 40 (.agg #[.int .i64 x0_, x1_]) 0).run Try.prog w = .ok (.int .i64 x0_) w := by kernel_rfl
attribute [local go_sem] laws_FnRows.fd40_0
mutual
def laws_FnRows.l0 : Nat → List Int → List (S46) → Int → Int → Bool → Int → Int → Int → Option (Bool)
 | 0, _, _, _, _, _, _, _, _ => none
 | k + 1, x3, x6, x7, x109000, x109001, x109002, x112000, x112001 => if x7 < x112001 then ((impl_RowCells.f k x3 x109000 x109001 x109002 x7).bind fun bt119 => (if bt119.1 = 0 then (if (bt119.2.length : Int) > x109000 then (some false) else (if (wrap64 (x7 + 1)) < x112001 then (if (bt119.2.length : Int) = x109000 then (if x6.length + bt119.2.length < 5864062014805 then (laws_FnRows.l0 k x3 (x6 ++ bt119.2) (wrap64 (x7 + 1)) x109000 x109001 x109002 x112000 x112001) else (none)) else (some false)) else (if x6.length + bt119.2.length < 5864062014805 then (laws_FnRows.l0 k x3 (x6 ++ bt119.2) (wrap64 (x7 + 1)) x109000 x109001 x109002 x112000 x112001) else (none)))) else (some false))) else ((impl_CellsOf.f x3).bind fun bt130 => (if x109001 = true then (if x112001 = 1 then (if (bt130.2.length : Int) > x109002 then (if (x6.length : Int) = 0 then (some false) else (if 0 < (x6.length : Int) then (if 0 ≤ x109002 then (if x109002 < (bt130.2.length : Int) then (some (((rd_T46 x6 0).f0) == ((rd_T46 bt130.2 x109002).f0) && (((rd_T46 x6 0).f1) == ((rd_T46 bt130.2 x109002).f1) && (((rd_T46 x6 0).f2) == ((rd_T46 bt130.2 x109002).f2))))) else (none)) else (none)) else (none))) else (if (x6.length : Int) = 0 then (some true) else (some false))) else (some false)) else (if (x6.length : Int) = (bt130.2.length : Int) then (laws_FnRows.l1 k x3 x6 0 x109000 x109001 x109002 x112000 x112001 bt130.1 bt130.2) else (some false))))
def laws_FnRows.l1 : Nat → List Int → List (S46) → Int → Int → Bool → Int → Int → Int → Int → List (S46) → Option (Bool)
 | 0, _, _, _, _, _, _, _, _, _, _ => none
 | k + 1, x3, x6, x10, x109000, x109001, x109002, x112000, x112001, x135000, x135001 => if x10 < (x6.length : Int) then (if 0 ≤ x10 then (if x10 < (x135001.length : Int) then (if (!(((rd_T46 x6 x10).f0) == ((rd_T46 x135001 x10).f0)) || (!(((rd_T46 x6 x10).f1) == ((rd_T46 x135001 x10).f1)) || (!(((rd_T46 x6 x10).f2) == ((rd_T46 x135001 x10).f2))))) = true then (some false) else (laws_FnRows.l1 k x3 x6 (wrap64 (x10 + 1)) x109000 x109001 x109002 x112000 x112001 x135000 x135001)) else (none)) else (none)) else (if x112001 ≥ 1 then ((impl_RowCells.f k x3 x109000 x109001 x109002 x112001).bind fun bt139 => (some (bt139.1 == 3))) else (some false))
end
def laws_FnRows.f (k : Nat) (l0 : List Int) : Option (Bool) := (laws_lwBig.f l0).bind fun t101 => (if t101 = true then (some true) else ((spec_DrawRowCount.f k l0).bind fun bt102 => ((impl_RowCount.f k bt102.1 bt102.2.1 bt102.2.2.1 bt102.2.2.2).bind fun bt109 => (if bt109.1 = 0 then (laws_FnRows.l0 k bt102.1 (([] : List (S46))) 0 bt102.2.1 bt102.2.2.1 bt102.2.2.2 bt109.1 bt109.2) else ((spec_RowCount.f k bt102.1 bt102.2.1 bt102.2.2.1 bt102.2.2.2).bind fun bt112 => (if bt112.1 = bt109.1 then ((impl_LayoutFault.f k bt102.2.1 bt102.2.2.1 bt102.2.2.2).bind fun t114 => ((spec_LayoutFault.f k bt102.2.1 bt102.2.2.1 bt102.2.2.2).bind fun t115 => (some (t114 == t115)))) else (some false)))))))
theorem laws_FnRows.mono_l : ∀ k, (∀ y0 y1 y2 y3 y4 y5 y6 y7, LeO (laws_FnRows.l0 k y0 y1 y2 y3 y4 y5 y6 y7) (laws_FnRows.l0 (k + 1) y0 y1 y2 y3 y4 y5 y6 y7)) ∧ (∀ y0 y1 y2 y3 y4 y5 y6 y7 y8 y9, LeO (laws_FnRows.l1 k y0 y1 y2 y3 y4 y5 y6 y7 y8 y9) (laws_FnRows.l1 (k + 1) y0 y1 y2 y3 y4 y5 y6 y7 y8 y9))
 | 0 => ⟨fun _ _ _ _ _ _ _ _ r h => by simp [laws_FnRows.l0] at h, fun _ _ _ _ _ _ _ _ _ _ r h => by simp [laws_FnRows.l1] at h⟩
 | k + 1 => by
  obtain ⟨ih0, ih1⟩ := laws_FnRows.mono_l k
  refine ⟨?_, ?_⟩
  · intro y0 y1 y2 y3 y4 y5 y6 y7
    unfold laws_FnRows.l0
    repeat' first
    | (with_reducible exact ih0 _ _ _ _ _ _ _ _)
    | (with_reducible exact ih1 _ _ _ _ _ _ _ _ _ _)
    | (with_reducible exact impl_LayoutFault.mono _ _ _ _)
    | (with_reducible exact impl_RowCells.mono _ _ _ _ _ _)
    | (with_reducible exact impl_RowCount.mono _ _ _ _ _)
    | (with_reducible exact spec_DrawRowCount.mono _ _)
    | (with_reducible exact spec_LayoutFault.mono _ _ _ _)
    | (with_reducible exact spec_RowCount.mono _ _ _ _ _)
    | (with_reducible exact LeO.refl _)
    | (with_reducible exact LeO.none _)
    | (with_reducible refine LeO.ite ?_ ?_)
    | (with_reducible refine LeO.bind ?_ (fun _ => ?_))
    | exact ih0 _ _ _ _ _ _ _ _
    | exact ih1 _ _ _ _ _ _ _ _ _ _
    | exact impl_LayoutFault.mono _ _ _ _
    | exact impl_RowCells.mono _ _ _ _ _ _
    | exact impl_RowCount.mono _ _ _ _ _
    | exact spec_DrawRowCount.mono _ _
    | exact spec_LayoutFault.mono _ _ _ _
    | exact spec_RowCount.mono _ _ _ _ _
    | exact LeO.none _
    | refine LeO.ite ?_ ?_
    | refine LeO.bind ?_ (fun _ => ?_)
  · intro y0 y1 y2 y3 y4 y5 y6 y7 y8 y9
    unfold laws_FnRows.l1
    repeat' first
    | (with_reducible exact ih0 _ _ _ _ _ _ _ _)
    | (with_reducible exact ih1 _ _ _ _ _ _ _ _ _ _)
    | (with_reducible exact impl_LayoutFault.mono _ _ _ _)
    | (with_reducible exact impl_RowCells.mono _ _ _ _ _ _)
    | (with_reducible exact impl_RowCount.mono _ _ _ _ _)
    | (with_reducible exact spec_DrawRowCount.mono _ _)
    | (with_reducible exact spec_LayoutFault.mono _ _ _ _)
    | (with_reducible exact spec_RowCount.mono _ _ _ _ _)
    | (with_reducible exact LeO.refl _)
    | (with_reducible exact LeO.none _)
    | (with_reducible refine LeO.ite ?_ ?_)
    | (with_reducible refine LeO.bind ?_ (fun _ => ?_))
    | exact ih0 _ _ _ _ _ _ _ _
    | exact ih1 _ _ _ _ _ _ _ _ _ _
    | exact impl_LayoutFault.mono _ _ _ _
    | exact impl_RowCells.mono _ _ _ _ _ _
    | exact impl_RowCount.mono _ _ _ _ _
    | exact spec_DrawRowCount.mono _ _
    | exact spec_LayoutFault.mono _ _ _ _
    | exact spec_RowCount.mono _ _ _ _ _
    | exact LeO.none _
    | refine LeO.ite ?_ ?_
    | refine LeO.bind ?_ (fun _ => ?_)
theorem laws_FnRows.mono : ∀ a0 k, LeO (laws_FnRows.f k a0) (laws_FnRows.f (k + 1) a0) := by
 intro a0 k
 obtain ⟨ih0, ih1⟩ := laws_FnRows.mono_l k
 unfold laws_FnRows.f
 repeat' first
  | (with_reducible exact ih0 _ _ _ _ _ _ _ _)
  | (with_reducible exact ih1 _ _ _ _ _ _ _ _ _ _)
  | (with_reducible exact impl_LayoutFault.mono _ _ _ _)
  | (with_reducible exact impl_RowCells.mono _ _ _ _ _ _)
  | (with_reducible exact impl_RowCount.mono _ _ _ _ _)
  | (with_reducible exact spec_DrawRowCount.mono _ _)
  | (with_reducible exact spec_LayoutFault.mono _ _ _ _)
  | (with_reducible exact spec_RowCount.mono _ _ _ _ _)
  | (with_reducible exact LeO.refl _)
  | (with_reducible exact LeO.none _)
  | (with_reducible refine LeO.ite ?_ ?_)
  | (with_reducible refine LeO.bind ?_ (fun _ => ?_))
  | exact ih0 _ _ _ _ _ _ _ _
  | exact ih1 _ _ _ _ _ _ _ _ _ _
  | exact impl_LayoutFault.mono _ _ _ _
  | exact impl_RowCells.mono _ _ _ _ _ _
  | exact impl_RowCount.mono _ _ _ _ _
  | exact spec_DrawRowCount.mono _ _
  | exact spec_LayoutFault.mono _ _ _ _
  | exact spec_RowCount.mono _ _ _ _ _
  | exact LeO.none _
  | refine LeO.ite ?_ ?_
  | refine LeO.bind ?_ (fun _ => ?_)
def laws_FnRows.T6 : Bool × List (List Nat × List Nat) := (true, [([], []), ([], []), ([0, 1], [0, 1]), ([2], [2]), ([], []), ([4], [4]), ([3, 5], [3, 5]), ([6, 2], [6]), ([7], [7]), ([8, 7, 7], [7, 8]), ([7], [7]), ([10, 9, 7], [7, 10]), ([9, 11, 7], [7, 9, 11]), ([7, 12], [7, 12]), ([13, 11, 0, 1, 2, 3, 4, 5, 6, 7, 8, 9, 10, 11, 12, 13], [13])])
def laws_FnRows.B6 : List Nat := [0, 0, 3, 7, 0, 16, 63, 127, 255, 511, 255, 2047, 4095, 8191, 16383]
theorem laws_FnRows.tab6 : rtab .any (opsOf Try.f8 6) = laws_FnRows.T6 := by kernel_rfl
theorem laws_FnRows.bits6 : waitsOk laws_FnRows.T6.2 laws_FnRows.B6 = true := by kernel_rfl
def laws_FnRows.T19 : Bool × List (List Nat × List Nat) := (true, [([], []), ([0], [0]), ([1], [1]), ([2], [2]), ([3], [3]), ([4, 3], [3, 4]), ([5, 3], [3, 5]), ([3], [3]), ([7, 3], [3, 7]), ([6, 8, 3], [3, 6, 8]), ([9, 3, 3], [3, 9]), ([10], [10]), ([11, 10], [10, 11]), ([12, 10], [10, 12]), ([10], [10]), ([14, 10], [10, 14]), ([10], [10]), ([16, 10], [10, 16]), ([15, 17, 10], [10, 15, 17]), ([18, 10], [10, 18]), ([13, 19, 10], [10, 13, 19]), ([10, 20, 3], [3, 10, 20]), ([3, 21], [3, 21]), ([22, 10, 0, 1, 2, 3, 4, 5, 6, 7, 8, 9, 10, 11, 12, 13, 14, 15, 16, 17, 18, 19, 20, 21, 22], [22])])
def laws_FnRows.B19 : List Nat := [0, 1, 3, 7, 15, 31, 63, 15, 143, 511, 1023, 2047, 4095, 8191, 2047, 18431, 2047, 67583, 247807, 509951, 1048575, 2097151, 4194303, 8388607]
theorem laws_FnRows.tab19 : rtab .any (opsOf Try.f8 19) = laws_FnRows.T19 := by kernel_rfl
theorem laws_FnRows.bits19 : waitsOk laws_FnRows.T19.2 laws_FnRows.B19 = true := by kernel_rfl
def laws_FnRows.T25 : Bool × List (List Nat × List Nat) := (true, [([], []), ([], []), ([0, 1], [0, 1]), ([2], [2]), ([], []), ([4], [4]), ([], []), ([5, 6], [5, 6]), ([7], [7]), ([3, 8], [3, 8])])
def laws_FnRows.B25 : List Nat := [0, 0, 3, 7, 0, 16, 0, 112, 240, 511]
theorem laws_FnRows.tab25 : rtab .any (opsOf Try.f8 25) = laws_FnRows.T25 := by kernel_rfl
theorem laws_FnRows.bits25 : waitsOk laws_FnRows.T25.2 laws_FnRows.B25 = true := by kernel_rfl
set_option maxHeartbeats 8000000 in
set_option maxRecDepth 100000 in
theorem laws_FnRows.calls (k : Nat) (A0 : Option Addr) (c0 : Nat) (l0 : List Int) (r : Bool) (w : World) (hr0 : Kd.C (Kd.int .u8) w A0 l0.length l0) (hc0 : l0.length ≤ c0) (h : laws_FnRows.f k l0 = some r) :
 Calls Try.prog 8 #[.slice A0 l0.length c0] w fun e w' => e = .returned (.bool r) ∧ Below w.heap.size w w' := by
 have hu25 := Try.underlying25
 have hu30 := Try.underlying30
 have hu40 := Try.underlying40
 have hu46 := Try.underlying46
 have HR0 := Aside0.mk hr0
 have HC0 := Aside0.mk hc0
 clear hr0 hc0
 have HB := Aside0.mk (Below.refl w.heap.size w)
 have H : ((laws_lwBig.f l0).bind fun t101 => (if t101 = true then (some true) else ((spec_DrawRowCount.f k l0).bind fun bt102 => ((impl_RowCount.f k bt102.1 bt102.2.1 bt102.2.2.1 bt102.2.2.2).bind fun bt109 => (if bt109.1 = 0 then (laws_FnRows.l0 k bt102.1 (([] : List (S46))) 0 bt102.2.1 bt102.2.2.1 bt102.2.2.2 bt109.1 bt109.2) else ((spec_RowCount.f k bt102.1 bt102.2.1 bt102.2.2.1 bt102.2.2.2).bind fun bt112 => (if bt112.1 = bt109.1 then ((impl_LayoutFault.f k bt102.2.1 bt102.2.2.1 bt102.2.2.2).bind fun t114 => ((spec_LayoutFault.f k bt102.2.1 bt102.2.2.1 bt102.2.2.2).bind fun t115 => (some (t114 == t115)))) else (some false)))))))) = some r := h
 clear h
 replace H := Option.bind_eq_some_iff.mp H
 obtain ⟨t101, A20, H⟩ := H
 replace H : (if t101 = true then (some true) else ((spec_DrawRowCount.f k l0).bind fun bt102 => ((impl_RowCount.f k bt102.1 bt102.2.1 bt102.2.2.1 bt102.2.2.2).bind fun bt109 => (if bt109.1 = 0 then (laws_FnRows.l0 k bt102.1 (([] : List (S46))) 0 bt102.2.1 bt102.2.2.1 bt102.2.2.2 bt109.1 bt109.2) else ((spec_RowCount.f k bt102.1 bt102.2.1 bt102.2.2.1 bt102.2.2.2).bind fun bt112 => (if bt112.1 = bt109.1 then ((impl_LayoutFault.f k bt102.2.1 bt102.2.2.1 bt102.2.2.2).bind fun t114 => ((spec_LayoutFault.f k bt102.2.1 bt102.2.2.1 bt102.2.2.2).bind fun t115 => (some (t114 == t115)))) else (some false))))))) = some r := H
 have A2 := Aside0.mk A20
 clear A20
 have HC3 := Aside0.mk H
 clear H
 go_enter Try.func8, Try.ntmps8
 go_upto_if 12 with (first | ((with_reducible refine gate_callee (f := 30) rfl ?_);refine goesL_ (some 12) rfl rfl Try.func30 (by kernel_rfl) rfl #[.slice A0 l0.length c0] rfl (by (try simp only [List.map_toArray, List.map_cons, List.map_nil]);first | done | rfl | (simp only [List.length_drop, List.length_take];rfl)) ?_;(with_reducible refine (laws_lwBig.calls _ _ l0 t101 _ ?side1 ?side2 A2.out).mono ?_);(case side1 => repeat (first | exact HR0.out | (with_reducible refine Kd.C_alloc ?_ _) | (with_reducible refine Kd.C_drewN ?_ _) | (with_reducible refine Kd.C_drew ?_)));(case side2 => exact HC0.out);rintro e w' ⟨rfl, ⟨nd, rfl⟩⟩;refine ⟨_, rfl, ?_⟩))
 (try simp only [Act.put, List.setIfInBounds_toArray, List.set_cons_zero, List.set_cons_succ])
 have H := HC3.out
 clear HC3
 by_cases c4 : t101 = true
 · subst c4
   have H1 : (some true) = some r := by rw [if_pos rfl] at H;exact H
   clear H
   have H := H1
   clear H1
   obtain rfl := Option.some.inj H
   go_wp2
   go_ret
   exact ⟨by first | rfl | (simp [errW_none, errW_some] <;> rfl) | (simp [*, errW_none, errW_some] <;> rfl), by repeat (first | (with_reducible first | exact HB.out | apply below_alloc | apply pw_below_drewN | apply below_drew1) | exact HB.out)⟩
 · replace c4 := Bool.eq_false_iff.mpr c4
   subst c4
   have H1 : ((spec_DrawRowCount.f k l0).bind fun bt102 => ((impl_RowCount.f k bt102.1 bt102.2.1 bt102.2.2.1 bt102.2.2.2).bind fun bt109 => (if bt109.1 = 0 then (laws_FnRows.l0 k bt102.1 (([] : List (S46))) 0 bt102.2.1 bt102.2.2.1 bt102.2.2.2 bt109.1 bt109.2) else ((spec_RowCount.f k bt102.1 bt102.2.1 bt102.2.2.1 bt102.2.2.2).bind fun bt112 => (if bt112.1 = bt109.1 then ((impl_LayoutFault.f k bt102.2.1 bt102.2.2.1 bt102.2.2.2).bind fun t114 => ((spec_LayoutFault.f k bt102.2.1 bt102.2.2.1 bt102.2.2.2).bind fun t115 => (some (t114 == t115)))) else (some false)))))) = some r := by rw [if_neg (show ¬ (false = true) by decide)] at H;exact H
   clear H
   have H := H1
   clear H1
   replace H := Option.bind_eq_some_iff.mp H
   obtain ⟨⟨t102, t105, t106, t107⟩, A50, H⟩ := H
   replace H : ((impl_RowCount.f k t102 t105 t106 t107).bind fun bt109 => (if bt109.1 = 0 then (laws_FnRows.l0 k t102 (([] : List (S46))) 0 t105 t106 t107 bt109.1 bt109.2) else ((spec_RowCount.f k t102 t105 t106 t107).bind fun bt112 => (if bt112.1 = bt109.1 then ((impl_LayoutFault.f k t105 t106 t107).bind fun t114 => ((spec_LayoutFault.f k t105 t106 t107).bind fun t115 => (some (t114 == t115)))) else (some false))))) = some r := H
   have A5 := Aside0.mk A50
   clear A50
   replace H := Option.bind_eq_some_iff.mp H
   obtain ⟨⟨t109, t110⟩, A60, H⟩ := H
   replace H : (if t109 = 0 then (laws_FnRows.l0 k t102 (([] : List (S46))) 0 t105 t106 t107 t109 t110) else ((spec_RowCount.f k t102 t105 t106 t107).bind fun bt112 => (if bt112.1 = t109 then ((impl_LayoutFault.f k t105 t106 t107).bind fun t114 => ((spec_LayoutFault.f k t105 t106 t107).bind fun t115 => (some (t114 == t115)))) else (some false)))) = some r := H
   have A6 := Aside0.mk A60
   clear A60
   have HC7 := Aside0.mk H
   clear H
   go_upto_if 23 with (first | ((with_reducible refine gate_callee (f := 36) rfl ?_);refine goesL_ (some 15) rfl rfl Try.func36 (by kernel_rfl) rfl #[.slice A0 l0.length c0] rfl (by (try simp only [List.map_toArray, List.map_cons, List.map_nil]);first | done | rfl | (simp only [List.length_drop, List.length_take];rfl)) ?_;(with_reducible refine (spec_DrawRowCount.calls k _ _ l0 t102 t105 t106 t107 _ ?side1 ?side2 A5.out).mono ?_);(case side1 => repeat (first | exact (Kd.C_below HR0.out HB.out) | (with_reducible refine Kd.C_alloc ?_ _) | (with_reducible refine Kd.C_drewN ?_ _) | (with_reducible refine Kd.C_drew ?_)));(case side2 => exact HC0.out);rintro e w8 ⟨v103, rfl, ho0, hb⟩;refine ⟨_, rfl, ?_⟩;have n0_ := Aside0.mk (Kd.R_lower ho0 (below_size (by repeat (first | (with_reducible first | exact HB.out | apply below_alloc | apply pw_below_drewN | apply below_drew1) | exact HB.out))));have n1_ := Aside0.mk (below_step (by repeat (first | (with_reducible first | exact HB.out | apply below_alloc | apply pw_below_drewN | apply below_drew1) | exact HB.out)) hb);clear HB;have HO104 := n0_;have HB := n1_;clear n0_ n1_;(try clear hb);(try clear hb2);(try clear hk);(try clear hi);(try clear ho0)) | ((with_reducible refine gate_dst (N := 4) rfl ?_);(try (refine gate_guard (by rfl) ?_;dsimp only));refine box_event ?hg (N := 4) ?hd (cs := #[.int .i64 0, .bool false, .int .i64 0]) (t := 25) ?hr ?_;(case hd => rfl);(case hg => rfl);(case hr => first | (go_simp;done) | (go_simp;rfl));intro gb108 hg w9 hbox hb;have n0_ := Aside0.mk (Kd.R_below (by (with_reducible repeat (first | apply Kd.R_alloc | apply Kd.R_drewN | apply Kd.R_drew));exact HO104.out) hb);have n1_ := Aside0.mk (below_step (by repeat (first | (with_reducible first | exact HB.out | apply below_alloc | apply pw_below_drewN | apply below_drew1) | exact HB.out)) hb);have n2_ := Aside0.mk (hbox);have n3_ := Aside0.mk ((by rw [hg];exact (below_size (by repeat (first | (with_reducible first | exact HB.out | apply below_alloc | apply pw_below_drewN | apply below_drew1) | exact HB.out))) : w.heap.size ≤ gb108));have n4_ := Aside0.mk ((by rw [hg];exact (below_size (by repeat (first | (with_reducible first | exact HB.out | apply below_alloc | apply pw_below_drewN | apply below_drew1) | exact HB.out))) : w.heap.size ≤ gb108));clear HO104;clear HB;have HO104 := n0_;have HB := n1_;have BK108 := n2_;have GW108 := n3_;have GE108 := n4_;clear n0_ n1_ n2_ n3_ n4_;clear hb hbox hg;have hcz10_0 : w9.cell? ⟨gb108, 0, none⟩ = some (.int .i64 0) := (blk_cell BK108.out 0).trans rfl;have hcz10_1 : w9.cell? ⟨gb108, 1, none⟩ = some (.bool false) := (blk_cell BK108.out 1).trans rfl;have hcz10_2 : w9.cell? ⟨gb108, 2, none⟩ = some (.int .i64 0) := (blk_cell BK108.out 2).trans rfl;have hfz10_0 := blk_frozen BK108.out 0;have hfz10_1 := blk_frozen BK108.out 1;have hfz10_2 := blk_frozen BK108.out 2;obtain ⟨Ao11, co11, eo11⟩ := Kd.R_slice HO104.out;subst eo11) | ((with_reducible refine gate_callee (f := 23) rfl ?_);refine goesL_ (some 20) rfl rfl Try.func23 (by kernel_rfl) rfl #[.slice Ao11 t102.length co11, .agg #[.int .i64 t105, .bool t106, .int .i64 t107]] rfl (by (try simp only [List.map_toArray, List.map_cons, List.map_nil]);first | done | rfl | (simp only [List.length_drop, List.length_take];rfl)) ?_;(with_reducible refine (impl_RowCount.calls k _ _ t102 t105 t106 t107 t109 t110 _ ?side1 ?side2 A6.out).mono ?_);(case side1 => refine (Kd.R_reads' (e := 5) (base := w.heap.size) (ok := fun k_ => True) (n := t102.length) (c := co11) ?_).2.2;exact (by (with_reducible repeat (first | apply Kd.R_alloc | apply Kd.R_drewN | apply Kd.R_drew));exact (Kd.R_mono (Kd.R_far (p := ⟨gb108, 2, none⟩) (Kd.R_far (p := ⟨gb108, 1, none⟩) (Kd.R_far (p := ⟨gb108, 0, none⟩) (Kd.R_types HO104.out BK108.out (by decide)) (fun _ hk => hk.2) (.int .i64 t105)) (fun _ hk => hk.2) (.bool t106)) (fun _ hk => hk.2) (.int .i64 t107)) (fun _ h_ => h_.1))));(case side2 => exact (Kd.R_reads' HO104.out).2.1);rintro e w12 ⟨rfl, hb⟩;refine ⟨_, rfl, ?_⟩;have n0_ := Aside0.mk (Kd.R_below (by (with_reducible repeat (first | apply Kd.R_alloc | apply Kd.R_drewN | apply Kd.R_drew));exact (Kd.R_mono (Kd.R_far (p := ⟨gb108, 2, none⟩) (Kd.R_far (p := ⟨gb108, 1, none⟩) (Kd.R_far (p := ⟨gb108, 0, none⟩) (Kd.R_types HO104.out BK108.out (by decide)) (fun _ hk => hk.2) (.int .i64 t105)) (fun _ hk => hk.2) (.bool t106)) (fun _ hk => hk.2) (.int .i64 t107)) (fun _ h_ => h_.1))) hb);have n1_ := Aside0.mk (blk_below (g := gb108) (o := .cells #[.int .i64 t105, .bool t106, .int .i64 t107] 25 (0, 0)) (by (with_reducible repeat (first | refine blk_drewN ?_ _ | refine blk_drew ?_ | refine blk_alloc ?_ _));refine blk_put (cs := #[.int .i64 t105, .bool t106, .int .i64 0]) ?_ 2 _ rfl;(with_reducible repeat (first | refine blk_drewN ?_ _ | refine blk_drew ?_ | refine blk_alloc ?_ _));refine blk_put (cs := #[.int .i64 t105, .bool false, .int .i64 0]) ?_ 1 _ rfl;(with_reducible repeat (first | refine blk_drewN ?_ _ | refine blk_drew ?_ | refine blk_alloc ?_ _));refine blk_put (cs := #[.int .i64 0, .bool false, .int .i64 0]) ?_ 0 _ rfl;(with_reducible repeat (first | refine blk_drewN ?_ _ | refine blk_drew ?_ | refine blk_alloc ?_ _));exact BK108.out) hb);have n2_ := Aside0.mk (below_step (by repeat (first | (with_reducible first | exact HB.out | apply below_alloc | apply pw_below_drewN | apply below_drew1 | refine below_set ?_ GE108.out) | exact HB.out)) hb);clear HO104;clear BK108;clear HB;have HO104 := n0_;have BK108 := n1_;have HB := n2_;clear n0_ n1_ n2_;(try clear hb);(try clear hb2);(try clear hk);(try clear hi)) | ((with_reducible refine gate_dst (N := 5) rfl ?_);(try (refine gate_guard (by rfl) ?_;dsimp only));refine box_event ?hg (N := 5) ?hd (cs := #[.int .i64 0, .int .i64 0]) (t := 30) ?hr ?_;(case hd => rfl);(case hg => rfl);(case hr => first | (go_simp;done) | (go_simp;rfl));intro gb111 hg w13 hbox hb;have n0_ := Aside0.mk (Kd.R_below (by (with_reducible repeat (first | apply Kd.R_alloc | apply Kd.R_drewN | apply Kd.R_drew));exact HO104.out) hb);have n1_ := Aside0.mk (blk_below (g := gb108) (o := .cells #[.int .i64 t105, .bool t106, .int .i64 t107] 25 (0, 0)) (by (with_reducible repeat (first | refine blk_drewN ?_ _ | refine blk_drew ?_ | refine blk_alloc ?_ _));exact BK108.out) hb);have n2_ := Aside0.mk (below_step (by repeat (first | (with_reducible first | exact HB.out | apply below_alloc | apply pw_below_drewN | apply below_drew1 | refine below_set ?_ GE108.out) | exact HB.out)) hb);have n3_ := Aside0.mk (hbox);have n4_ := Aside0.mk ((by rw [hg];exact (below_size (by repeat (first | (with_reducible first | exact HB.out | apply below_alloc | apply pw_below_drewN | apply below_drew1 | refine below_set ?_ GE108.out) | exact HB.out))) : w.heap.size ≤ gb111));have n5_ := Aside0.mk ((by rw [hg];exact (below_size (by repeat (first | (with_reducible first | exact HB.out | apply below_alloc | apply pw_below_drewN | apply below_drew1 | refine below_set ?_ GE108.out) | exact HB.out))) : w.heap.size ≤ gb111));have n6_ := Aside0.mk ((by rw [hg];exact Nat.ne_of_lt (blk_lt (g := gb108) (o := .cells #[.int .i64 t105, .bool t106, .int .i64 t107] 25 (0, 0)) (by (with_reducible repeat (first | refine blk_drewN ?_ _ | refine blk_drew ?_ | refine blk_alloc ?_ _));exact BK108.out)) : gb108 ≠ gb111));have n7_ := Aside0.mk ((by rw [hg];exact Nat.ne_of_gt (blk_lt (g := gb108) (o := .cells #[.int .i64 t105, .bool t106, .int .i64 t107] 25 (0, 0)) (by (with_reducible repeat (first | refine blk_drewN ?_ _ | refine blk_drew ?_ | refine blk_alloc ?_ _));exact BK108.out)) : gb111 ≠ gb108));clear HO104;clear BK108;clear HB;have HO104 := n0_;have BK108 := n1_;have HB := n2_;have BK111 := n3_;have GW111 := n4_;have GE111 := n5_;have NB108_111 := n6_;have NB111_108 := n7_;clear n0_ n1_ n2_ n3_ n4_ n5_ n6_ n7_;clear hb hbox hg;have hnb14 := NB111_108.out;have hnc14 := NB108_111.out;have hcz15_0 : w13.cell? ⟨gb111, 0, none⟩ = some (.int .i64 0) := (blk_cell BK111.out 0).trans rfl;have hcz15_1 : w13.cell? ⟨gb111, 1, none⟩ = some (.int .i64 0) := (blk_cell BK111.out 1).trans rfl;have hfz15_0 := blk_frozen BK111.out 0;have hfz15_1 := blk_frozen BK111.out 1))
   (try simp only [Act.put, List.setIfInBounds_toArray, List.set_cons_zero, List.set_cons_succ])
   have H := HC7.out
   clear HC7
   by_cases c16 : t109 = 0
   · rw [if_pos c16] at H
     have c16b0 : (t109 == 0) = true := beq_iff_eq.mpr c16
     have c16b1 : (t109 != 0) = false := bne_eq_false_iff_eq.mpr c16
     clear c16
     (first | rw [c16b0] | (simp only [i64_w, i32_w];rw [c16b0]) | skip)
     obtain ⟨y116, hy116⟩ : ∃ y_ : List (S46), y_ = (([] : List (S46))) := ⟨_, rfl⟩
     replace H : (laws_FnRows.l0 k t102 y116 0 t105 t106 t107 t109 t110) = some r := by first | (rw [hy116];with_reducible exact H) | (have H2_ := (Option.bind_some _ _).symm.trans H;rw [hy116];with_reducible exact H2_) | (have H2_ := (Option.bind_some _ _).symm.trans H;with_reducible exact H2_) | with_reducible exact H | (rw [hy116];exact H) | exact H
     have Ny116 := Aside0.mk hy116
     clear hy116
     have H' := Aside0.mk H
     clear H
     go_wp2_with (first | ((with_reducible refine gate_dst (N := 38) rfl ?_);(try (refine gate_guard (by rfl) ?_;dsimp only));refine Kd.R_lit k46 _ 46 ?hg (N := 38) ?hd (xs := ([] : List (S46))) (inner := []) (ok := fun _ => True) (okp := fun _ => True) ?hr ?hp (fun _ hk => hk) trivial (Below.refl _ _) (Nat.le_refl _) (by simp) ?_;(case hd => rfl);(case hg => rfl);(case hr => first | (go_simp;done) | (go_simp;rfl));(case hp => exact (Reps.none _ _));intro v117 w17 ho18 hb hg_ hnew_;clear hg_ hnew_;(first | rw [← Ny116.out] at ho18 | (simp only [Int.reduceToNat] at ho18;rw [← Ny116.out] at ho18));have n0_ := Aside0.mk (Kd.R_below (by (with_reducible repeat (first | apply Kd.R_alloc | apply Kd.R_drewN | apply Kd.R_drew));exact (Kd.R_mono (Kd.R_far (p := ⟨gb111, 1, none⟩) (Kd.R_far (p := ⟨gb111, 0, none⟩) (Kd.R_types HO104.out BK111.out (by decide)) (fun _ hk => hk.2) (.int .i64 t109)) (fun _ hk => hk.2) (.int .i64 t110)) (fun _ h_ => h_.1))) hb);have n1_ := Aside0.mk (Kd.R_lower ho18 (below_size (by repeat (first | (with_reducible first | exact HB.out | apply below_alloc | apply pw_below_drewN | apply below_drew1 | refine below_set ?_ GE108.out | refine below_set ?_ GE111.out) | exact HB.out))));have n2_ := Aside0.mk (blk_below (g := gb108) (o := .cells #[.int .i64 t105, .bool t106, .int .i64 t107] 25 (0, 0)) (by (with_reducible repeat (first | refine blk_drewN ?_ _ | refine blk_drew ?_ | refine blk_alloc ?_ _));refine blk_far ?_ NB108_111.out _;(with_reducible repeat (first | refine blk_drewN ?_ _ | refine blk_drew ?_ | refine blk_alloc ?_ _));refine blk_far ?_ NB108_111.out _;(with_reducible repeat (first | refine blk_drewN ?_ _ | refine blk_drew ?_ | refine blk_alloc ?_ _));exact BK108.out) hb);have n3_ := Aside0.mk (blk_below (g := gb111) (o := .cells #[.int .i64 t109, .int .i64 t110] 30 (0, 0)) (by (with_reducible repeat (first | refine blk_drewN ?_ _ | refine blk_drew ?_ | refine blk_alloc ?_ _));refine blk_put (cs := #[.int .i64 t109, .int .i64 0]) ?_ 1 _ rfl;(with_reducible repeat (first | refine blk_drewN ?_ _ | refine blk_drew ?_ | refine blk_alloc ?_ _));refine blk_put (cs := #[.int .i64 0, .int .i64 0]) ?_ 0 _ rfl;(with_reducible repeat (first | refine blk_drewN ?_ _ | refine blk_drew ?_ | refine blk_alloc ?_ _));exact BK111.out) hb);have n4_ := Aside0.mk (below_step (by repeat (first | (with_reducible first | exact HB.out | apply below_alloc | apply pw_below_drewN | apply below_drew1 | refine below_set ?_ GE108.out | refine below_set ?_ GE111.out) | exact HB.out)) hb);clear HO104;clear BK108;clear BK111;clear HB;have HO104 := n0_;have HO118 := n1_;have BK108 := n2_;have BK111 := n3_;have HB := n4_;clear n0_ n1_ n2_ n3_ n4_;clear hb ho18))
     go_loopg [6, 7] k (fun kq v6 v7 w' => ∃ (x6_1 : List (S46)) (x7_1 : Int), v7 = .int .i64 x7_1 ∧ Aside0 (laws_FnRows.l0 kq t102 x6_1 x7_1 t105 t106 t107 t109 t110 = some r) ∧ Aside0 (kq ≤ k) ∧ Aside0 (Kd.R (Kd.int .u8) 5 w' w.heap.size (fun _ => True) (.slice Ao11 t102.length co11) t102) ∧ Aside0 (Kd.R k46 46 w' w.heap.size (fun _ => True) v6 x6_1) ∧ Aside0 (w'.heap[gb108]? = some (.cells #[.int .i64 t105, .bool t106, .int .i64 t107] 25 (0, 0))) ∧ Aside0 (w'.heap[gb111]? = some (.cells #[.int .i64 t109, .int .i64 t110] 30 (0, 0))) ∧ Aside0 (Below w.heap.size w w'))
     case atStart => exact ⟨(y116), (0), (by first | rfl | (simp;done) | (simp [*];done)), H', ⟨Nat.le_refl _⟩, ⟨by (with_reducible repeat (first | apply Kd.R_alloc | apply Kd.R_drewN | apply Kd.R_drew));exact HO104.out⟩, ⟨by (with_reducible repeat (first | apply Kd.R_alloc | apply Kd.R_drewN | apply Kd.R_drew));exact HO118.out⟩, ⟨by (with_reducible repeat (first | refine blk_drewN ?_ _ | refine blk_drew ?_ | refine blk_alloc ?_ _));exact BK108.out⟩, ⟨by (with_reducible repeat (first | refine blk_drewN ?_ _ | refine blk_drew ?_ | refine blk_alloc ?_ _));exact BK111.out⟩, ⟨by repeat (first | (with_reducible first | exact HB.out | apply below_alloc | apply pw_below_drewN | apply below_drew1 | refine below_set ?_ GE108.out | refine below_set ?_ GE111.out) | exact HB.out)⟩⟩
     case round =>
      clear H'
      try clear c1
      try clear c2
      try clear p2
      try clear c3
      try clear c4
      try clear c8
      try clear c14
      try clear c16
      try clear c16b0
      try clear c16b1
      try clear hcz10_0
      try clear hcz10_1
      try clear hcz10_2
      try clear hcz15_0
      try clear hcz15_1
      try clear hfz10_0
      try clear hfz10_1
      try clear hfz10_2
      try clear hfz15_0
      try clear hfz15_1
      obtain ⟨x6_1, x7_1, rfl, HA, HK1, HO_3, HO_6, BK108, BK111, HB⟩ := hrel
      cases gk with
      | zero => exact absurd HA.out (by simp [laws_FnRows.l0])
      | succ k1 =>
       have H := HA.out
       clear HA
       simp only [laws_FnRows.l0] at H
       by_cases c19 : x7_1 < t110
       · rw [if_pos c19] at H
         have c19b0 : decide (x7_1 < t110) = true := decide_eq_true c19
         clear c19
         replace H := Option.bind_eq_some_iff.mp H
         obtain ⟨⟨t119, t120⟩, A200, H⟩ := H
         replace H : (if t119 = 0 then (if (t120.length : Int) > t105 then (some false) else (if (wrap64 (x7_1 + 1)) < t110 then (if (t120.length : Int) = t105 then (if x6_1.length + t120.length < 5864062014805 then (laws_FnRows.l0 k1 t102 (x6_1 ++ t120) (wrap64 (x7_1 + 1)) t105 t106 t107 t109 t110) else (none)) else (some false)) else (if x6_1.length + t120.length < 5864062014805 then (laws_FnRows.l0 k1 t102 (x6_1 ++ t120) (wrap64 (x7_1 + 1)) t105 t106 t107 t109 t110) else (none)))) else (some false)) = some r := H
         have A20 := Aside0.mk A200
         clear A200
         by_cases c21 : t119 = 0
         · rw [if_pos c21] at H
           have c21b0 : (t119 == 0) = true := beq_iff_eq.mpr c21
           have c21b1 : (t119 != 0) = false := bne_eq_false_iff_eq.mpr c21
           clear c21
           by_cases c22 : (t120.length : Int) > t105
           · rw [if_pos c22] at H
             have c22b0 : decide (t105 < (t120.length : Int)) = true := decide_eq_true c22
             clear c22
             obtain rfl := Option.some.inj H
             have hnb23 := NB111_108.out
             have hnc23 := NB108_111.out
             have hcz24_0 : wr.cell? ⟨gb111, 0, none⟩ = some (.int .i64 t109) := (blk_cell BK111.out 0).trans rfl
             have hcz24_1 : wr.cell? ⟨gb111, 1, none⟩ = some (.int .i64 t110) := (blk_cell BK111.out 1).trans rfl
             have hfz24_0 := blk_frozen BK111.out 0
             have hfz24_1 := blk_frozen BK111.out 1
             have hcz25_0 : wr.cell? ⟨gb108, 0, none⟩ = some (.int .i64 t105) := (blk_cell BK108.out 0).trans rfl
             have hcz25_1 : wr.cell? ⟨gb108, 1, none⟩ = some (.bool t106) := (blk_cell BK108.out 1).trans rfl
             have hcz25_2 : wr.cell? ⟨gb108, 2, none⟩ = some (.int .i64 t107) := (blk_cell BK108.out 2).trans rfl
             have hfz25_0 := blk_frozen BK108.out 0
             have hfz25_1 := blk_frozen BK108.out 1
             have hfz25_2 := blk_frozen BK108.out 2
             go_wp2_with (first | ((with_reducible refine gate_callee (f := 37) rfl ?_);refine goesL_ (some 48) rfl rfl Try.func37 (by kernel_rfl) rfl #[.slice Ao11 t102.length co11, .agg #[.int .i64 t105, .bool t106, .int .i64 t107], .int .i64 x7_1] rfl (by (try simp only [List.map_toArray, List.map_cons, List.map_nil]);first | done | rfl | (simp only [List.length_drop, List.length_take];rfl)) ?_;(with_reducible refine (impl_RowCells.calls k1 _ _ t102 t105 t106 t107 x7_1 t119 t120 _ ?side1 ?side2 A20.out).mono ?_);(case side1 => repeat (first | exact (Kd.R_reads' HO_3.out).2.2 | (with_reducible refine Kd.C_alloc ?_ _) | (with_reducible refine Kd.C_drewN ?_ _) | (with_reducible refine Kd.C_drew ?_)));(case side2 => exact (Kd.R_reads' HO_3.out).2.1);rintro e w26 ⟨v121, rfl, ho0, hb⟩;refine ⟨_, rfl, ?_⟩;have n0_ := Aside0.mk (Kd.R_below (by (with_reducible repeat (first | apply Kd.R_alloc | apply Kd.R_drewN | apply Kd.R_drew));exact HO_3.out) hb);have n1_ := Aside0.mk (Kd.R_elder' (by (with_reducible repeat (first | apply Kd.R_alloc | apply Kd.R_drewN | apply Kd.R_drew));exact HO_6.out) (Kd.R_base ho0) hb);have n2_ := Aside0.mk (Kd.R_lower (Kd.R_new' ho0 (Kd.R_lt (by (with_reducible repeat (first | apply Kd.R_alloc | apply Kd.R_drewN | apply Kd.R_drew));exact HO_6.out))) (below_size (by repeat (first | (with_reducible first | exact HB.out | apply below_alloc | apply pw_below_drewN | apply below_drew1 | refine below_set ?_ GE108.out | refine below_set ?_ GE111.out) | exact HB.out))));have n3_ := Aside0.mk (blk_below (g := gb108) (o := .cells #[.int .i64 t105, .bool t106, .int .i64 t107] 25 (0, 0)) (by (with_reducible repeat (first | refine blk_drewN ?_ _ | refine blk_drew ?_ | refine blk_alloc ?_ _));exact BK108.out) hb);have n4_ := Aside0.mk (blk_below (g := gb111) (o := .cells #[.int .i64 t109, .int .i64 t110] 30 (0, 0)) (by (with_reducible repeat (first | refine blk_drewN ?_ _ | refine blk_drew ?_ | refine blk_alloc ?_ _));exact BK111.out) hb);have n5_ := Aside0.mk (below_step (by repeat (first | (with_reducible first | exact HB.out | apply below_alloc | apply pw_below_drewN | apply below_drew1 | refine below_set ?_ GE108.out | refine below_set ?_ GE111.out) | exact HB.out)) hb);clear HO_3;clear HO_6;clear BK108;clear BK111;clear HB;have HO_3 := n0_;have HO_6 := n1_;have HO122 := n2_;have BK108 := n3_;have BK111 := n4_;have HB := n5_;clear n0_ n1_ n2_ n3_ n4_ n5_;(try clear hb);(try clear hb2);(try clear hk);(try clear hi);(try clear ho0)) | ((with_reducible refine gate_dst (N := 8) rfl ?_);(try (refine gate_guard (by rfl) ?_;dsimp only));refine box_event ?hg (N := 8) ?hd (cs := #[.int .i64 0, .slice none 0 0]) (t := 40) ?hr ?_;(case hd => rfl);(case hg => rfl);(case hr => first | (go_simp;done) | (go_simp;rfl));intro gb123 hg w27 hbox hb;have n0_ := Aside0.mk (Kd.R_below (by (with_reducible repeat (first | apply Kd.R_alloc | apply Kd.R_drewN | apply Kd.R_drew));exact HO_3.out) hb);have n1_ := Aside0.mk (Kd.R_below (by (with_reducible repeat (first | apply Kd.R_alloc | apply Kd.R_drewN | apply Kd.R_drew));exact HO_6.out) hb);have n2_ := Aside0.mk (Kd.R_below (by (with_reducible repeat (first | apply Kd.R_alloc | apply Kd.R_drewN | apply Kd.R_drew));exact HO122.out) hb);have n3_ := Aside0.mk (blk_below (g := gb108) (o := .cells #[.int .i64 t105, .bool t106, .int .i64 t107] 25 (0, 0)) (by (with_reducible repeat (first | refine blk_drewN ?_ _ | refine blk_drew ?_ | refine blk_alloc ?_ _));exact BK108.out) hb);have n4_ := Aside0.mk (blk_below (g := gb111) (o := .cells #[.int .i64 t109, .int .i64 t110] 30 (0, 0)) (by (with_reducible repeat (first | refine blk_drewN ?_ _ | refine blk_drew ?_ | refine blk_alloc ?_ _));exact BK111.out) hb);have n5_ := Aside0.mk (below_step (by repeat (first | (with_reducible first | exact HB.out | apply below_alloc | apply pw_below_drewN | apply below_drew1 | refine below_set ?_ GE108.out | refine below_set ?_ GE111.out) | exact HB.out)) hb);have n6_ := Aside0.mk (hbox);have n7_ := Aside0.mk ((by rw [hg];exact (below_size (by repeat (first | (with_reducible first | exact HB.out | apply below_alloc | apply pw_below_drewN | apply below_drew1 | refine below_set ?_ GE108.out | refine below_set ?_ GE111.out) | exact HB.out))) : w.heap.size ≤ gb123));have n8_ := Aside0.mk ((by rw [hg];exact (below_size (by repeat (first | (with_reducible first | exact HB.out | apply below_alloc | apply pw_below_drewN | apply below_drew1 | refine below_set ?_ GE108.out | refine below_set ?_ GE111.out) | exact HB.out))) : w.heap.size ≤ gb123));have n9_ := Aside0.mk ((by rw [hg];exact Nat.ne_of_lt (blk_lt (g := gb108) (o := .cells #[.int .i64 t105, .bool t106, .int .i64 t107] 25 (0, 0)) (by (with_reducible repeat (first | refine blk_drewN ?_ _ | refine blk_drew ?_ | refine blk_alloc ?_ _));exact BK108.out)) : gb108 ≠ gb123));have n10_ := Aside0.mk ((by rw [hg];exact Nat.ne_of_gt (blk_lt (g := gb108) (o := .cells #[.int .i64 t105, .bool t106, .int .i64 t107] 25 (0, 0)) (by (with_reducible repeat (first | refine blk_drewN ?_ _ | refine blk_drew ?_ | refine blk_alloc ?_ _));exact BK108.out)) : gb123 ≠ gb108));have n11_ := Aside0.mk ((by rw [hg];exact Nat.ne_of_lt (blk_lt (g := gb111) (o := .cells #[.int .i64 t109, .int .i64 t110] 30 (0, 0)) (by (with_reducible repeat (first | refine blk_drewN ?_ _ | refine blk_drew ?_ | refine blk_alloc ?_ _));exact BK111.out)) : gb111 ≠ gb123));have n12_ := Aside0.mk ((by rw [hg];exact Nat.ne_of_gt (blk_lt (g := gb111) (o := .cells #[.int .i64 t109, .int .i64 t110] 30 (0, 0)) (by (with_reducible repeat (first | refine blk_drewN ?_ _ | refine blk_drew ?_ | refine blk_alloc ?_ _));exact BK111.out)) : gb123 ≠ gb111));clear HO_3;clear HO_6;clear HO122;clear BK108;clear BK111;clear HB;have HO_3 := n0_;have HO_6 := n1_;have HO122 := n2_;have BK108 := n3_;have BK111 := n4_;have HB := n5_;have BK123 := n6_;have GW123 := n7_;have GE123 := n8_;have NB108_123 := n9_;have NB123_108 := n10_;have NB111_123 := n11_;have NB123_111 := n12_;clear n0_ n1_ n2_ n3_ n4_ n5_ n6_ n7_ n8_ n9_ n10_ n11_ n12_;clear hb hbox hg;have hnb28 := NB123_108.out;have hnc28 := NB108_123.out;have hnb29 := NB123_111.out;have hnc29 := NB111_123.out;have hcz30_0 : w27.cell? ⟨gb123, 0, none⟩ = some (.int .i64 0) := (blk_cell BK123.out 0).trans rfl;have hcz30_1 : w27.cell? ⟨gb123, 1, none⟩ = some (.slice none 0 0) := (blk_cell BK123.out 1).trans rfl;have hfz30_0 := blk_frozen BK123.out 0;have hfz30_1 := blk_frozen BK123.out 1;obtain ⟨Ao31, co31, eo31⟩ := Kd.R_slice HO122.out;subst eo31;have hcz32_0 : w27.cell? ⟨gb108, 0, none⟩ = some (.int .i64 t105) := (blk_cell BK108.out 0).trans rfl;have hcz32_1 : w27.cell? ⟨gb108, 1, none⟩ = some (.bool t106) := (blk_cell BK108.out 1).trans rfl;have hcz32_2 : w27.cell? ⟨gb108, 2, none⟩ = some (.int .i64 t107) := (blk_cell BK108.out 2).trans rfl;have hfz32_0 := blk_frozen BK108.out 0;have hfz32_1 := blk_frozen BK108.out 1;have hfz32_2 := blk_frozen BK108.out 2))
             go_ret
             exact ⟨by first | rfl | (simp [errW_none, errW_some] <;> rfl) | (simp [*, errW_none, errW_some] <;> rfl), by repeat (first | (with_reducible first | exact HB.out | apply below_alloc | apply pw_below_drewN | apply below_drew1 | refine below_set ?_ GE108.out | refine below_set ?_ GE111.out | refine below_set ?_ GE123.out) | exact HB.out)⟩
           · rw [if_neg c22] at H
             have c22b0 : decide (t105 < (t120.length : Int)) = false := decide_eq_false c22
             clear c22
             by_cases c33 : (wrap64 (x7_1 + 1)) < t110
             · rw [if_pos c33] at H
               have c33b0 : decide ((wrap64 (x7_1 + 1)) < t110) = true := decide_eq_true c33
               clear c33
               have HC34 := Aside0.mk H
               clear H
               have hnb35 := NB111_108.out
               have hnc35 := NB108_111.out
               have hcz36_0 : wr.cell? ⟨gb111, 0, none⟩ = some (.int .i64 t109) := (blk_cell BK111.out 0).trans rfl
               have hcz36_1 : wr.cell? ⟨gb111, 1, none⟩ = some (.int .i64 t110) := (blk_cell BK111.out 1).trans rfl
               have hfz36_0 := blk_frozen BK111.out 0
               have hfz36_1 := blk_frozen BK111.out 1
               have hcz37_0 : wr.cell? ⟨gb108, 0, none⟩ = some (.int .i64 t105) := (blk_cell BK108.out 0).trans rfl
               have hcz37_1 : wr.cell? ⟨gb108, 1, none⟩ = some (.bool t106) := (blk_cell BK108.out 1).trans rfl
               have hcz37_2 : wr.cell? ⟨gb108, 2, none⟩ = some (.int .i64 t107) := (blk_cell BK108.out 2).trans rfl
               have hfz37_0 := blk_frozen BK108.out 0
               have hfz37_1 := blk_frozen BK108.out 1
               have hfz37_2 := blk_frozen BK108.out 2
               go_upto_if 74 with (first | ((with_reducible refine gate_callee (f := 37) rfl ?_);refine goesL_ (some 48) rfl rfl Try.func37 (by kernel_rfl) rfl #[.slice Ao11 t102.length co11, .agg #[.int .i64 t105, .bool t106, .int .i64 t107], .int .i64 x7_1] rfl (by (try simp only [List.map_toArray, List.map_cons, List.map_nil]);first | done | rfl | (simp only [List.length_drop, List.length_take];rfl)) ?_;(with_reducible refine (impl_RowCells.calls k1 _ _ t102 t105 t106 t107 x7_1 t119 t120 _ ?side1 ?side2 A20.out).mono ?_);(case side1 => repeat (first | exact (Kd.R_reads' HO_3.out).2.2 | (with_reducible refine Kd.C_alloc ?_ _) | (with_reducible refine Kd.C_drewN ?_ _) | (with_reducible refine Kd.C_drew ?_)));(case side2 => exact (Kd.R_reads' HO_3.out).2.1);rintro e w38 ⟨v121, rfl, ho0, hb⟩;refine ⟨_, rfl, ?_⟩;have n0_ := Aside0.mk (Kd.R_below (by (with_reducible repeat (first | apply Kd.R_alloc | apply Kd.R_drewN | apply Kd.R_drew));exact HO_3.out) hb);have n1_ := Aside0.mk (Kd.R_elder' (by (with_reducible repeat (first | apply Kd.R_alloc | apply Kd.R_drewN | apply Kd.R_drew));exact HO_6.out) (Kd.R_base ho0) hb);have n2_ := Aside0.mk (Kd.R_lower (Kd.R_new' ho0 (Kd.R_lt (by (with_reducible repeat (first | apply Kd.R_alloc | apply Kd.R_drewN | apply Kd.R_drew));exact HO_6.out))) (below_size (by repeat (first | (with_reducible first | exact HB.out | apply below_alloc | apply pw_below_drewN | apply below_drew1 | refine below_set ?_ GE108.out | refine below_set ?_ GE111.out) | exact HB.out))));have n3_ := Aside0.mk (blk_below (g := gb108) (o := .cells #[.int .i64 t105, .bool t106, .int .i64 t107] 25 (0, 0)) (by (with_reducible repeat (first | refine blk_drewN ?_ _ | refine blk_drew ?_ | refine blk_alloc ?_ _));exact BK108.out) hb);have n4_ := Aside0.mk (blk_below (g := gb111) (o := .cells #[.int .i64 t109, .int .i64 t110] 30 (0, 0)) (by (with_reducible repeat (first | refine blk_drewN ?_ _ | refine blk_drew ?_ | refine blk_alloc ?_ _));exact BK111.out) hb);have n5_ := Aside0.mk (below_step (by repeat (first | (with_reducible first | exact HB.out | apply below_alloc | apply pw_below_drewN | apply below_drew1 | refine below_set ?_ GE108.out | refine below_set ?_ GE111.out) | exact HB.out)) hb);clear HO_3;clear HO_6;clear BK108;clear BK111;clear HB;have HO_3 := n0_;have HO_6 := n1_;have HO122 := n2_;have BK108 := n3_;have BK111 := n4_;have HB := n5_;clear n0_ n1_ n2_ n3_ n4_ n5_;(try clear hb);(try clear hb2);(try clear hk);(try clear hi);(try clear ho0)) | ((with_reducible refine gate_dst (N := 8) rfl ?_);(try (refine gate_guard (by rfl) ?_;dsimp only));refine box_event ?hg (N := 8) ?hd (cs := #[.int .i64 0, .slice none 0 0]) (t := 40) ?hr ?_;(case hd => rfl);(case hg => rfl);(case hr => first | (go_simp;done) | (go_simp;rfl));intro gb123 hg w39 hbox hb;have n0_ := Aside0.mk (Kd.R_below (by (with_reducible repeat (first | apply Kd.R_alloc | apply Kd.R_drewN | apply Kd.R_drew));exact HO_3.out) hb);have n1_ := Aside0.mk (Kd.R_below (by (with_reducible repeat (first | apply Kd.R_alloc | apply Kd.R_drewN | apply Kd.R_drew));exact HO_6.out) hb);have n2_ := Aside0.mk (Kd.R_below (by (with_reducible repeat (first | apply Kd.R_alloc | apply Kd.R_drewN | apply Kd.R_drew));exact HO122.out) hb);have n3_ := Aside0.mk (blk_below (g := gb108) (o := .cells #[.int .i64 t105, .bool t106, .int .i64 t107] 25 (0, 0)) (by (with_reducible repeat (first | refine blk_drewN ?_ _ | refine blk_drew ?_ | refine blk_alloc ?_ _));exact BK108.out) hb);have n4_ := Aside0.mk (blk_below (g := gb111) (o := .cells #[.int .i64 t109, .int .i64 t110] 30 (0, 0)) (by (with_reducible repeat (first | refine blk_drewN ?_ _ | refine blk_drew ?_ | refine blk_alloc ?_ _));exact BK111.out) hb);have n5_ := Aside0.mk (below_step (by repeat (first | (with_reducible first | exact HB.out | apply below_alloc | apply pw_below_drewN | apply below_drew1 | refine below_set ?_ GE108.out | refine below_set ?_ GE111.out) | exact HB.out)) hb);have n6_ := Aside0.mk (hbox);have n7_ := Aside0.mk ((by rw [hg];exact (below_size (by repeat (first | (with_reducible first | exact HB.out | apply below_alloc | apply pw_below_drewN | apply below_drew1 | refine below_set ?_ GE108.out | refine below_set ?_ GE111.out) | exact HB.out))) : w.heap.size ≤ gb123));have n8_ := Aside0.mk ((by rw [hg];exact (below_size (by repeat (first | (with_reducible first | exact HB.out | apply below_alloc | apply pw_below_drewN | apply below_drew1 | refine below_set ?_ GE108.out | refine below_set ?_ GE111.out) | exact HB.out))) : w.heap.size ≤ gb123));have n9_ := Aside0.mk ((by rw [hg];exact Nat.ne_of_lt (blk_lt (g := gb108) (o := .cells #[.int .i64 t105, .bool t106, .int .i64 t107] 25 (0, 0)) (by (with_reducible repeat (first | refine blk_drewN ?_ _ | refine blk_drew ?_ | refine blk_alloc ?_ _));exact BK108.out)) : gb108 ≠ gb123));have n10_ := Aside0.mk ((by rw [hg];exact Nat.ne_of_gt (blk_lt (g := gb108) (o := .cells #[.int .i64 t105, .bool t106, .int .i64 t107] 25 (0, 0)) (by (with_reducible repeat (first | refine blk_drewN ?_ _ | refine blk_drew ?_ | refine blk_alloc ?_ _));exact BK108.out)) : gb123 ≠ gb108));have n11_ := Aside0.mk ((by rw [hg];exact Nat.ne_of_lt (blk_lt (g := gb111) (o := .cells #[.int .i64 t109, .int .i64 t110] 30 (0, 0)) (by (with_reducible repeat (first | refine blk_drewN ?_ _ | refine blk_drew ?_ | refine blk_alloc ?_ _));exact BK111.out)) : gb111 ≠ gb123));have n12_ := Aside0.mk ((by rw [hg];exact Nat.ne_of_gt (blk_lt (g := gb111) (o := .cells #[.int .i64 t109, .int .i64 t110] 30 (0, 0)) (by (with_reducible repeat (first | refine blk_drewN ?_ _ | refine blk_drew ?_ | refine blk_alloc ?_ _));exact BK111.out)) : gb123 ≠ gb111));clear HO_3;clear HO_6;clear HO122;clear BK108;clear BK111;clear HB;have HO_3 := n0_;have HO_6 := n1_;have HO122 := n2_;have BK108 := n3_;have BK111 := n4_;have HB := n5_;have BK123 := n6_;have GW123 := n7_;have GE123 := n8_;have NB108_123 := n9_;have NB123_108 := n10_;have NB111_123 := n11_;have NB123_111 := n12_;clear n0_ n1_ n2_ n3_ n4_ n5_ n6_ n7_ n8_ n9_ n10_ n11_ n12_;clear hb hbox hg;have hnb40 := NB123_108.out;have hnc40 := NB108_123.out;have hnb41 := NB123_111.out;have hnc41 := NB111_123.out;have hcz42_0 : w39.cell? ⟨gb123, 0, none⟩ = some (.int .i64 0) := (blk_cell BK123.out 0).trans rfl;have hcz42_1 : w39.cell? ⟨gb123, 1, none⟩ = some (.slice none 0 0) := (blk_cell BK123.out 1).trans rfl;have hfz42_0 := blk_frozen BK123.out 0;have hfz42_1 := blk_frozen BK123.out 1;obtain ⟨Ao43, co43, eo43⟩ := Kd.R_slice HO122.out;subst eo43;have hcz44_0 : w39.cell? ⟨gb108, 0, none⟩ = some (.int .i64 t105) := (blk_cell BK108.out 0).trans rfl;have hcz44_1 : w39.cell? ⟨gb108, 1, none⟩ = some (.bool t106) := (blk_cell BK108.out 1).trans rfl;have hcz44_2 : w39.cell? ⟨gb108, 2, none⟩ = some (.int .i64 t107) := (blk_cell BK108.out 2).trans rfl;have hfz44_0 := blk_frozen BK108.out 0;have hfz44_1 := blk_frozen BK108.out 1;have hfz44_2 := blk_frozen BK108.out 2;have hcz45_0 : w39.cell? ⟨gb111, 0, none⟩ = some (.int .i64 t109) := (blk_cell BK111.out 0).trans rfl;have hcz45_1 : w39.cell? ⟨gb111, 1, none⟩ = some (.int .i64 t110) := (blk_cell BK111.out 1).trans rfl;have hfz45_0 := blk_frozen BK111.out 0;have hfz45_1 := blk_frozen BK111.out 1))
               (try simp only [Act.put, List.setIfInBounds_toArray, List.set_cons_zero, List.set_cons_succ])
               have H := HC34.out
               clear HC34
               by_cases c46 : (t120.length : Int) = t105
               · rw [if_pos c46] at H
                 have c46b0 : ((t120.length : Int) == t105) = true := beq_iff_eq.mpr c46
                 have c46b1 : ((t120.length : Int) != t105) = false := bne_eq_false_iff_eq.mpr c46
                 clear c46
                 (first | rw [c46b0] | (simp only [i64_w, i32_w];rw [c46b0]) | skip)
                 by_cases c47 : x6_1.length + t120.length < 5864062014805
                 · rw [if_pos c47] at H
                   have LMc47 := Aside0.mk c47
                   clear c47
                   obtain ⟨y124, hy124⟩ : ∃ y_ : List (S46), y_ = (x6_1 ++ t120) := ⟨_, rfl⟩
                   replace H : (laws_FnRows.l0 k1 t102 y124 (wrap64 (x7_1 + 1)) t105 t106 t107 t109 t110) = some r := by first | (rw [hy124];with_reducible exact H) | (have H2_ := (Option.bind_some _ _).symm.trans H;rw [hy124];with_reducible exact H2_) | (have H2_ := (Option.bind_some _ _).symm.trans H;with_reducible exact H2_) | with_reducible exact H | (rw [hy124];exact H) | exact H
                   have Ny124 := Aside0.mk hy124
                   clear hy124
                   have H' := Aside0.mk H
                   clear H
                   have hnb48 := NB123_108.out
                   have hnc48 := NB108_123.out
                   have hnb49 := NB123_111.out
                   have hnc49 := NB111_123.out
                   have hcz50_0 : w39.cell? ⟨gb123, 0, none⟩ = some (.int .i64 0) := (blk_cell BK123.out 0).trans rfl
                   have hcz50_1 : w39.cell? ⟨gb123, 1, none⟩ = some (.slice none 0 0) := (blk_cell BK123.out 1).trans rfl
                   have hfz50_0 := blk_frozen BK123.out 0
                   have hfz50_1 := blk_frozen BK123.out 1
                   go_wp2_with (first | ((with_reducible refine gate_builtin (b := .append) (xs := #[.tmp 75, .tmp 77]) rfl ?_);(try (refine gate_guard (by rfl) ?_;dsimp only));at_builtin;refine Kd.R_append_rows k46 (w0 := w) w.heap.size rfl (.tmp 75) (.tmp 77) 38 46 (.agg #[(.int .i64 0), (.int .i64 0), (.int .i64 0)]) 24 rfl Try.underlying38 info46 rfl (by decide) (by omega) u6 x6_1 t120 _ _ _ (fun k_ => some k_ ≠ (.slice Ao43 t120.length co43 : Value).ownBlock) (fun _ => False) rfl rfl ?aO ?aR (fun _ _ h => h) (fun _ h => h.elim) ?aF ?aB ?aS ?aL ?_;(case aR => refine (Kd.R_reads' (e := 46) (base := w.heap.size) (ok := fun k_ => (True ∧ some k_ ≠ (u6 : Value).ownBlock)) (n := t120.length) (c := co43) ?_).2.2;exact (by (with_reducible repeat (first | apply Kd.R_alloc | apply Kd.R_drewN | apply Kd.R_drew));exact (Kd.R_mono (Kd.R_far (p := ⟨gb123, 1, none⟩) (Kd.R_far (p := ⟨gb123, 0, none⟩) (Kd.R_types HO122.out BK123.out (by decide)) (fun _ hk => hk.2) (.int .i64 t119)) (fun _ hk => hk.2) (.slice Ao43 t120.length co43)) (fun _ h_ => h_.1))));(case aB => exact (by repeat (first | (with_reducible first | exact HB.out | apply below_alloc | apply pw_below_drewN | apply below_drew1 | refine below_set ?_ GE108.out | refine below_set ?_ GE111.out | refine below_set ?_ GE123.out) | exact HB.out)));(case aF => exact (fun k_ hk => Kd.fresh' (Kd.R_lt (by (with_reducible repeat (first | apply Kd.R_alloc | apply Kd.R_drewN | apply Kd.R_drew));exact (Kd.R_mono (Kd.R_far (p := ⟨gb123, 1, none⟩) (Kd.R_far (p := ⟨gb123, 0, none⟩) (Kd.R_types HO122.out BK123.out (by decide)) (fun _ hk => hk.2) (.int .i64 t119)) (fun _ hk => hk.2) (.slice Ao43 t120.length co43)) (fun _ h_ => h_.1)))) k_ hk));(case aO => exact (by (with_reducible repeat (first | apply Kd.R_alloc | apply Kd.R_drewN | apply Kd.R_drew));exact Kd.R_mono (Kd.R_far (p := ⟨gb123, 1, none⟩) (Kd.R_far (p := ⟨gb123, 0, none⟩) (Kd.R_types HO_6.out BK123.out (by decide)) (fun _ hk => hk.2) (.int .i64 t119)) (fun _ hk => hk.2) (.slice Ao43 t120.length co43)) (fun _ hk => hk.1.2)));(case aS => exact (below_size (by repeat (first | (with_reducible first | exact HB.out | apply below_alloc | apply pw_below_drewN | apply below_drew1 | refine below_set ?_ GE108.out | refine below_set ?_ GE111.out | refine below_set ?_ GE123.out) | exact HB.out))));(case aL => have := LMc47.out;omega);intro v125 w51 ho hb hg hat;rw [← Ny124.out] at ho;have n0_ := Aside0.mk (Kd.R_over' (by (with_reducible repeat (first | apply Kd.R_alloc | apply Kd.R_drewN | apply Kd.R_drew));exact (Kd.R_mono (Kd.R_far (p := ⟨gb123, 1, none⟩) (Kd.R_far (p := ⟨gb123, 0, none⟩) (Kd.R_types HO_3.out BK123.out (by decide)) (fun _ hk => hk.2) (.int .i64 t119)) (fun _ hk => hk.2) (.slice Ao43 t120.length co43)) (fun _ h_ => h_.1))) (Kd.R_typed (by (with_reducible repeat (first | apply Kd.R_alloc | apply Kd.R_drewN | apply Kd.R_drew));exact (Kd.R_mono (Kd.R_far (p := ⟨gb123, 1, none⟩) (Kd.R_far (p := ⟨gb123, 0, none⟩) (Kd.R_types HO_6.out BK123.out (by decide)) (fun _ hk => hk.2) (.int .i64 t119)) (fun _ hk => hk.2) (.slice Ao43 t120.length co43)) (fun _ h_ => h_.1)))) (by decide) hg);have n1_ := Aside0.mk (blk_grown (g := gb108) (o := .cells #[.int .i64 t105, .bool t106, .int .i64 t107] 25 (0, 0)) (by (with_reducible repeat (first | refine blk_drewN ?_ _ | refine blk_drew ?_ | refine blk_alloc ?_ _));refine blk_far ?_ NB108_123.out _;(with_reducible repeat (first | refine blk_drewN ?_ _ | refine blk_drew ?_ | refine blk_alloc ?_ _));refine blk_far ?_ NB108_123.out _;(with_reducible repeat (first | refine blk_drewN ?_ _ | refine blk_drew ?_ | refine blk_alloc ?_ _));exact BK108.out) hg (Kd.R_ne HO_6.out BK108.out (by decide)));have n2_ := Aside0.mk (blk_grown (g := gb111) (o := .cells #[.int .i64 t109, .int .i64 t110] 30 (0, 0)) (by (with_reducible repeat (first | refine blk_drewN ?_ _ | refine blk_drew ?_ | refine blk_alloc ?_ _));refine blk_far ?_ NB111_123.out _;(with_reducible repeat (first | refine blk_drewN ?_ _ | refine blk_drew ?_ | refine blk_alloc ?_ _));refine blk_far ?_ NB111_123.out _;(with_reducible repeat (first | refine blk_drewN ?_ _ | refine blk_drew ?_ | refine blk_alloc ?_ _));exact BK111.out) hg (Kd.R_ne HO_6.out BK111.out (by decide)));have n3_ := Aside0.mk (Kd.R_after (ok := (fun _ => True)) (by (with_reducible repeat (first | apply Kd.R_alloc | apply Kd.R_drewN | apply Kd.R_drew));exact Kd.R_mono (Kd.R_far (p := ⟨gb123, 1, none⟩) (Kd.R_far (p := ⟨gb123, 0, none⟩) (Kd.R_types HO122.out BK123.out (by decide)) (fun _ hk => hk.2) (.int .i64 t119)) (fun _ hk => hk.2) (.slice Ao43 t120.length co43)) (fun _ hk => ⟨trivial, hk.1.2⟩)) hg hat);have n4_ := Aside0.mk (blk_grown (g := gb123) (o := .cells #[.int .i64 t119, .slice Ao43 t120.length co43] 40 (0, 0)) (by (with_reducible repeat (first | refine blk_drewN ?_ _ | refine blk_drew ?_ | refine blk_alloc ?_ _));refine blk_put (cs := #[.int .i64 t119, .slice none 0 0]) ?_ 1 _ rfl;(with_reducible repeat (first | refine blk_drewN ?_ _ | refine blk_drew ?_ | refine blk_alloc ?_ _));refine blk_put (cs := #[.int .i64 0, .slice none 0 0]) ?_ 0 _ rfl;(with_reducible repeat (first | refine blk_drewN ?_ _ | refine blk_drew ?_ | refine blk_alloc ?_ _));exact BK123.out) hg (Kd.R_ne HO_6.out BK123.out (by decide)));have n5_ := Aside0.mk (hb);have n6_ := Aside0.mk (ho);clear HO_3;clear BK108;clear BK111;clear HO122;clear BK123;clear HB;clear HO_6;have HO_3 := n0_;have BK108 := n1_;have BK111 := n2_;have HO122 := n3_;have BK123 := n4_;have HB := n5_;have HO126 := n6_;clear n0_ n1_ n2_ n3_ n4_ n5_ n6_;clear ho hb hg hat))
                   go_roundg k1
                   case measure => have := HK1.out;omega
                   case rel => exact ⟨(y124), (wrap64 (x7_1 + 1)), (by first | rfl | (simp;done) | (simp [*];done)), H', ⟨by have := HK1.out;omega⟩, ⟨by (with_reducible repeat (first | apply Kd.R_alloc | apply Kd.R_drewN | apply Kd.R_drew));exact HO_3.out⟩, ⟨by (with_reducible repeat (first | apply Kd.R_alloc | apply Kd.R_drewN | apply Kd.R_drew));exact Kd.R_mono HO126.out (fun _ hk => trivial)⟩, ⟨by (with_reducible repeat (first | refine blk_drewN ?_ _ | refine blk_drew ?_ | refine blk_alloc ?_ _));exact BK108.out⟩, ⟨by (with_reducible repeat (first | refine blk_drewN ?_ _ | refine blk_drew ?_ | refine blk_alloc ?_ _));exact BK111.out⟩, ⟨by repeat (first | (with_reducible first | exact HB.out | apply below_alloc | apply pw_below_drewN | apply below_drew1 | refine below_set ?_ GE108.out | refine below_set ?_ GE111.out | refine below_set ?_ GE123.out) | exact HB.out)⟩⟩
                 · rw [if_neg c47] at H
                   exact absurd H (by simp)
               · rw [if_neg c46] at H
                 have c46b0 : ((t120.length : Int) == t105) = false := beq_eq_false_iff_ne.mpr c46
                 have c46b1 : ((t120.length : Int) != t105) = true := bne_iff_ne.mpr c46
                 (first | rw [c46b0] | (simp only [i64_w, i32_w];rw [c46b0]) | skip)
                 obtain rfl := Option.some.inj H
                 go_wp2
                 go_ret
                 exact ⟨by first | rfl | (simp [errW_none, errW_some] <;> rfl) | (simp [*, errW_none, errW_some] <;> rfl), by repeat (first | (with_reducible first | exact HB.out | apply below_alloc | apply pw_below_drewN | apply below_drew1 | refine below_set ?_ GE108.out | refine below_set ?_ GE111.out | refine below_set ?_ GE123.out) | exact HB.out)⟩
             · rw [if_neg c33] at H
               have c33b0 : decide ((wrap64 (x7_1 + 1)) < t110) = false := decide_eq_false c33
               clear c33
               by_cases c52 : x6_1.length + t120.length < 5864062014805
               · rw [if_pos c52] at H
                 have LMc52 := Aside0.mk c52
                 clear c52
                 obtain ⟨y127, hy127⟩ : ∃ y_ : List (S46), y_ = (x6_1 ++ t120) := ⟨_, rfl⟩
                 replace H : (laws_FnRows.l0 k1 t102 y127 (wrap64 (x7_1 + 1)) t105 t106 t107 t109 t110) = some r := by first | (rw [hy127];with_reducible exact H) | (have H2_ := (Option.bind_some _ _).symm.trans H;rw [hy127];with_reducible exact H2_) | (have H2_ := (Option.bind_some _ _).symm.trans H;with_reducible exact H2_) | with_reducible exact H | (rw [hy127];exact H) | exact H
                 have Ny127 := Aside0.mk hy127
                 clear hy127
                 have H' := Aside0.mk H
                 clear H
                 have hnb53 := NB111_108.out
                 have hnc53 := NB108_111.out
                 have hcz54_0 : wr.cell? ⟨gb111, 0, none⟩ = some (.int .i64 t109) := (blk_cell BK111.out 0).trans rfl
                 have hcz54_1 : wr.cell? ⟨gb111, 1, none⟩ = some (.int .i64 t110) := (blk_cell BK111.out 1).trans rfl
                 have hfz54_0 := blk_frozen BK111.out 0
                 have hfz54_1 := blk_frozen BK111.out 1
                 have hcz55_0 : wr.cell? ⟨gb108, 0, none⟩ = some (.int .i64 t105) := (blk_cell BK108.out 0).trans rfl
                 have hcz55_1 : wr.cell? ⟨gb108, 1, none⟩ = some (.bool t106) := (blk_cell BK108.out 1).trans rfl
                 have hcz55_2 : wr.cell? ⟨gb108, 2, none⟩ = some (.int .i64 t107) := (blk_cell BK108.out 2).trans rfl
                 have hfz55_0 := blk_frozen BK108.out 0
                 have hfz55_1 := blk_frozen BK108.out 1
                 have hfz55_2 := blk_frozen BK108.out 2
                 go_wp2_with (first | ((with_reducible refine gate_callee (f := 37) rfl ?_);refine goesL_ (some 48) rfl rfl Try.func37 (by kernel_rfl) rfl #[.slice Ao11 t102.length co11, .agg #[.int .i64 t105, .bool t106, .int .i64 t107], .int .i64 x7_1] rfl (by (try simp only [List.map_toArray, List.map_cons, List.map_nil]);first | done | rfl | (simp only [List.length_drop, List.length_take];rfl)) ?_;(with_reducible refine (impl_RowCells.calls k1 _ _ t102 t105 t106 t107 x7_1 t119 t120 _ ?side1 ?side2 A20.out).mono ?_);(case side1 => repeat (first | exact (Kd.R_reads' HO_3.out).2.2 | (with_reducible refine Kd.C_alloc ?_ _) | (with_reducible refine Kd.C_drewN ?_ _) | (with_reducible refine Kd.C_drew ?_)));(case side2 => exact (Kd.R_reads' HO_3.out).2.1);rintro e w56 ⟨v121, rfl, ho0, hb⟩;refine ⟨_, rfl, ?_⟩;have n0_ := Aside0.mk (Kd.R_below (by (with_reducible repeat (first | apply Kd.R_alloc | apply Kd.R_drewN | apply Kd.R_drew));exact HO_3.out) hb);have n1_ := Aside0.mk (Kd.R_elder' (by (with_reducible repeat (first | apply Kd.R_alloc | apply Kd.R_drewN | apply Kd.R_drew));exact HO_6.out) (Kd.R_base ho0) hb);have n2_ := Aside0.mk (Kd.R_lower (Kd.R_new' ho0 (Kd.R_lt (by (with_reducible repeat (first | apply Kd.R_alloc | apply Kd.R_drewN | apply Kd.R_drew));exact HO_6.out))) (below_size (by repeat (first | (with_reducible first | exact HB.out | apply below_alloc | apply pw_below_drewN | apply below_drew1 | refine below_set ?_ GE108.out | refine below_set ?_ GE111.out) | exact HB.out))));have n3_ := Aside0.mk (blk_below (g := gb108) (o := .cells #[.int .i64 t105, .bool t106, .int .i64 t107] 25 (0, 0)) (by (with_reducible repeat (first | refine blk_drewN ?_ _ | refine blk_drew ?_ | refine blk_alloc ?_ _));exact BK108.out) hb);have n4_ := Aside0.mk (blk_below (g := gb111) (o := .cells #[.int .i64 t109, .int .i64 t110] 30 (0, 0)) (by (with_reducible repeat (first | refine blk_drewN ?_ _ | refine blk_drew ?_ | refine blk_alloc ?_ _));exact BK111.out) hb);have n5_ := Aside0.mk (below_step (by repeat (first | (with_reducible first | exact HB.out | apply below_alloc | apply pw_below_drewN | apply below_drew1 | refine below_set ?_ GE108.out | refine below_set ?_ GE111.out) | exact HB.out)) hb);clear HO_3;clear HO_6;clear BK108;clear BK111;clear HB;have HO_3 := n0_;have HO_6 := n1_;have HO122 := n2_;have BK108 := n3_;have BK111 := n4_;have HB := n5_;clear n0_ n1_ n2_ n3_ n4_ n5_;(try clear hb);(try clear hb2);(try clear hk);(try clear hi);(try clear ho0)) | ((with_reducible refine gate_dst (N := 8) rfl ?_);(try (refine gate_guard (by rfl) ?_;dsimp only));refine box_event ?hg (N := 8) ?hd (cs := #[.int .i64 0, .slice none 0 0]) (t := 40) ?hr ?_;(case hd => rfl);(case hg => rfl);(case hr => first | (go_simp;done) | (go_simp;rfl));intro gb123 hg w57 hbox hb;have n0_ := Aside0.mk (Kd.R_below (by (with_reducible repeat (first | apply Kd.R_alloc | apply Kd.R_drewN | apply Kd.R_drew));exact HO_3.out) hb);have n1_ := Aside0.mk (Kd.R_below (by (with_reducible repeat (first | apply Kd.R_alloc | apply Kd.R_drewN | apply Kd.R_drew));exact HO_6.out) hb);have n2_ := Aside0.mk (Kd.R_below (by (with_reducible repeat (first | apply Kd.R_alloc | apply Kd.R_drewN | apply Kd.R_drew));exact HO122.out) hb);have n3_ := Aside0.mk (blk_below (g := gb108) (o := .cells #[.int .i64 t105, .bool t106, .int .i64 t107] 25 (0, 0)) (by (with_reducible repeat (first | refine blk_drewN ?_ _ | refine blk_drew ?_ | refine blk_alloc ?_ _));exact BK108.out) hb);have n4_ := Aside0.mk (blk_below (g := gb111) (o := .cells #[.int .i64 t109, .int .i64 t110] 30 (0, 0)) (by (with_reducible repeat (first | refine blk_drewN ?_ _ | refine blk_drew ?_ | refine blk_alloc ?_ _));exact BK111.out) hb);have n5_ := Aside0.mk (below_step (by repeat (first | (with_reducible first | exact HB.out | apply below_alloc | apply pw_below_drewN | apply below_drew1 | refine below_set ?_ GE108.out | refine below_set ?_ GE111.out) | exact HB.out)) hb);have n6_ := Aside0.mk (hbox);have n7_ := Aside0.mk ((by rw [hg];exact (below_size (by repeat (first | (with_reducible first | exact HB.out | apply below_alloc | apply pw_below_drewN | apply below_drew1 | refine below_set ?_ GE108.out | refine below_set ?_ GE111.out) | exact HB.out))) : w.heap.size ≤ gb123));have n8_ := Aside0.mk ((by rw [hg];exact (below_size (by repeat (first | (with_reducible first | exact HB.out | apply below_alloc | apply pw_below_drewN | apply below_drew1 | refine below_set ?_ GE108.out | refine below_set ?_ GE111.out) | exact HB.out))) : w.heap.size ≤ gb123));have n9_ := Aside0.mk ((by rw [hg];exact Nat.ne_of_lt (blk_lt (g := gb108) (o := .cells #[.int .i64 t105, .bool t106, .int .i64 t107] 25 (0, 0)) (by (with_reducible repeat (first | refine blk_drewN ?_ _ | refine blk_drew ?_ | refine blk_alloc ?_ _));exact BK108.out)) : gb108 ≠ gb123));have n10_ := Aside0.mk ((by rw [hg];exact Nat.ne_of_gt (blk_lt (g := gb108) (o := .cells #[.int .i64 t105, .bool t106, .int .i64 t107] 25 (0, 0)) (by (with_reducible repeat (first | refine blk_drewN ?_ _ | refine blk_drew ?_ | refine blk_alloc ?_ _));exact BK108.out)) : gb123 ≠ gb108));have n11_ := Aside0.mk ((by rw [hg];exact Nat.ne_of_lt (blk_lt (g := gb111) (o := .cells #[.int .i64 t109, .int .i64 t110] 30 (0, 0)) (by (with_reducible repeat (first | refine blk_drewN ?_ _ | refine blk_drew ?_ | refine blk_alloc ?_ _));exact BK111.out)) : gb111 ≠ gb123));have n12_ := Aside0.mk ((by rw [hg];exact Nat.ne_of_gt (blk_lt (g := gb111) (o := .cells #[.int .i64 t109, .int .i64 t110] 30 (0, 0)) (by (with_reducible repeat (first | refine blk_drewN ?_ _ | refine blk_drew ?_ | refine blk_alloc ?_ _));exact BK111.out)) : gb123 ≠ gb111));clear HO_3;clear HO_6;clear HO122;clear BK108;clear BK111;clear HB;have HO_3 := n0_;have HO_6 := n1_;have HO122 := n2_;have BK108 := n3_;have BK111 := n4_;have HB := n5_;have BK123 := n6_;have GW123 := n7_;have GE123 := n8_;have NB108_123 := n9_;have NB123_108 := n10_;have NB111_123 := n11_;have NB123_111 := n12_;clear n0_ n1_ n2_ n3_ n4_ n5_ n6_ n7_ n8_ n9_ n10_ n11_ n12_;clear hb hbox hg;have hnb58 := NB123_108.out;have hnc58 := NB108_123.out;have hnb59 := NB123_111.out;have hnc59 := NB111_123.out;have hcz60_0 : w57.cell? ⟨gb123, 0, none⟩ = some (.int .i64 0) := (blk_cell BK123.out 0).trans rfl;have hcz60_1 : w57.cell? ⟨gb123, 1, none⟩ = some (.slice none 0 0) := (blk_cell BK123.out 1).trans rfl;have hfz60_0 := blk_frozen BK123.out 0;have hfz60_1 := blk_frozen BK123.out 1;obtain ⟨Ao61, co61, eo61⟩ := Kd.R_slice HO122.out;subst eo61;have hcz62_0 : w57.cell? ⟨gb108, 0, none⟩ = some (.int .i64 t105) := (blk_cell BK108.out 0).trans rfl;have hcz62_1 : w57.cell? ⟨gb108, 1, none⟩ = some (.bool t106) := (blk_cell BK108.out 1).trans rfl;have hcz62_2 : w57.cell? ⟨gb108, 2, none⟩ = some (.int .i64 t107) := (blk_cell BK108.out 2).trans rfl;have hfz62_0 := blk_frozen BK108.out 0;have hfz62_1 := blk_frozen BK108.out 1;have hfz62_2 := blk_frozen BK108.out 2;have hcz63_0 : w57.cell? ⟨gb111, 0, none⟩ = some (.int .i64 t109) := (blk_cell BK111.out 0).trans rfl;have hcz63_1 : w57.cell? ⟨gb111, 1, none⟩ = some (.int .i64 t110) := (blk_cell BK111.out 1).trans rfl;have hfz63_0 := blk_frozen BK111.out 0;have hfz63_1 := blk_frozen BK111.out 1) | ((with_reducible refine gate_builtin (b := .append) (xs := #[.tmp 75, .tmp 77]) rfl ?_);(try (refine gate_guard (by rfl) ?_;dsimp only));at_builtin;refine Kd.R_append_rows k46 (w0 := w) w.heap.size rfl (.tmp 75) (.tmp 77) 38 46 (.agg #[(.int .i64 0), (.int .i64 0), (.int .i64 0)]) 24 rfl Try.underlying38 info46 rfl (by decide) (by omega) u6 x6_1 t120 _ _ _ (fun k_ => some k_ ≠ (.slice Ao61 t120.length co61 : Value).ownBlock) (fun _ => False) rfl rfl ?aO ?aR (fun _ _ h => h) (fun _ h => h.elim) ?aF ?aB ?aS ?aL ?_;(case aR => refine (Kd.R_reads' (e := 46) (base := w.heap.size) (ok := fun k_ => (True ∧ some k_ ≠ (u6 : Value).ownBlock)) (n := t120.length) (c := co61) ?_).2.2;exact (by (with_reducible repeat (first | apply Kd.R_alloc | apply Kd.R_drewN | apply Kd.R_drew));exact (Kd.R_mono (Kd.R_far (p := ⟨gb123, 1, none⟩) (Kd.R_far (p := ⟨gb123, 0, none⟩) (Kd.R_types HO122.out BK123.out (by decide)) (fun _ hk => hk.2) (.int .i64 t119)) (fun _ hk => hk.2) (.slice Ao61 t120.length co61)) (fun _ h_ => h_.1))));(case aB => exact (by repeat (first | (with_reducible first | exact HB.out | apply below_alloc | apply pw_below_drewN | apply below_drew1 | refine below_set ?_ GE108.out | refine below_set ?_ GE111.out | refine below_set ?_ GE123.out) | exact HB.out)));(case aF => exact (fun k_ hk => Kd.fresh' (Kd.R_lt (by (with_reducible repeat (first | apply Kd.R_alloc | apply Kd.R_drewN | apply Kd.R_drew));exact (Kd.R_mono (Kd.R_far (p := ⟨gb123, 1, none⟩) (Kd.R_far (p := ⟨gb123, 0, none⟩) (Kd.R_types HO122.out BK123.out (by decide)) (fun _ hk => hk.2) (.int .i64 t119)) (fun _ hk => hk.2) (.slice Ao61 t120.length co61)) (fun _ h_ => h_.1)))) k_ hk));(case aO => exact (by (with_reducible repeat (first | apply Kd.R_alloc | apply Kd.R_drewN | apply Kd.R_drew));exact Kd.R_mono (Kd.R_far (p := ⟨gb123, 1, none⟩) (Kd.R_far (p := ⟨gb123, 0, none⟩) (Kd.R_types HO_6.out BK123.out (by decide)) (fun _ hk => hk.2) (.int .i64 t119)) (fun _ hk => hk.2) (.slice Ao61 t120.length co61)) (fun _ hk => hk.1.2)));(case aS => exact (below_size (by repeat (first | (with_reducible first | exact HB.out | apply below_alloc | apply pw_below_drewN | apply below_drew1 | refine below_set ?_ GE108.out | refine below_set ?_ GE111.out | refine below_set ?_ GE123.out) | exact HB.out))));(case aL => have := LMc52.out;omega);intro v128 w64 ho hb hg hat;rw [← Ny127.out] at ho;have n0_ := Aside0.mk (Kd.R_over' (by (with_reducible repeat (first | apply Kd.R_alloc | apply Kd.R_drewN | apply Kd.R_drew));exact (Kd.R_mono (Kd.R_far (p := ⟨gb123, 1, none⟩) (Kd.R_far (p := ⟨gb123, 0, none⟩) (Kd.R_types HO_3.out BK123.out (by decide)) (fun _ hk => hk.2) (.int .i64 t119)) (fun _ hk => hk.2) (.slice Ao61 t120.length co61)) (fun _ h_ => h_.1))) (Kd.R_typed (by (with_reducible repeat (first | apply Kd.R_alloc | apply Kd.R_drewN | apply Kd.R_drew));exact (Kd.R_mono (Kd.R_far (p := ⟨gb123, 1, none⟩) (Kd.R_far (p := ⟨gb123, 0, none⟩) (Kd.R_types HO_6.out BK123.out (by decide)) (fun _ hk => hk.2) (.int .i64 t119)) (fun _ hk => hk.2) (.slice Ao61 t120.length co61)) (fun _ h_ => h_.1)))) (by decide) hg);have n1_ := Aside0.mk (blk_grown (g := gb108) (o := .cells #[.int .i64 t105, .bool t106, .int .i64 t107] 25 (0, 0)) (by (with_reducible repeat (first | refine blk_drewN ?_ _ | refine blk_drew ?_ | refine blk_alloc ?_ _));refine blk_far ?_ NB108_123.out _;(with_reducible repeat (first | refine blk_drewN ?_ _ | refine blk_drew ?_ | refine blk_alloc ?_ _));refine blk_far ?_ NB108_123.out _;(with_reducible repeat (first | refine blk_drewN ?_ _ | refine blk_drew ?_ | refine blk_alloc ?_ _));exact BK108.out) hg (Kd.R_ne HO_6.out BK108.out (by decide)));have n2_ := Aside0.mk (blk_grown (g := gb111) (o := .cells #[.int .i64 t109, .int .i64 t110] 30 (0, 0)) (by (with_reducible repeat (first | refine blk_drewN ?_ _ | refine blk_drew ?_ | refine blk_alloc ?_ _));refine blk_far ?_ NB111_123.out _;(with_reducible repeat (first | refine blk_drewN ?_ _ | refine blk_drew ?_ | refine blk_alloc ?_ _));refine blk_far ?_ NB111_123.out _;(with_reducible repeat (first | refine blk_drewN ?_ _ | refine blk_drew ?_ | refine blk_alloc ?_ _));exact BK111.out) hg (Kd.R_ne HO_6.out BK111.out (by decide)));have n3_ := Aside0.mk (Kd.R_after (ok := (fun _ => True)) (by (with_reducible repeat (first | apply Kd.R_alloc | apply Kd.R_drewN | apply Kd.R_drew));exact Kd.R_mono (Kd.R_far (p := ⟨gb123, 1, none⟩) (Kd.R_far (p := ⟨gb123, 0, none⟩) (Kd.R_types HO122.out BK123.out (by decide)) (fun _ hk => hk.2) (.int .i64 t119)) (fun _ hk => hk.2) (.slice Ao61 t120.length co61)) (fun _ hk => ⟨trivial, hk.1.2⟩)) hg hat);have n4_ := Aside0.mk (blk_grown (g := gb123) (o := .cells #[.int .i64 t119, .slice Ao61 t120.length co61] 40 (0, 0)) (by (with_reducible repeat (first | refine blk_drewN ?_ _ | refine blk_drew ?_ | refine blk_alloc ?_ _));refine blk_put (cs := #[.int .i64 t119, .slice none 0 0]) ?_ 1 _ rfl;(with_reducible repeat (first | refine blk_drewN ?_ _ | refine blk_drew ?_ | refine blk_alloc ?_ _));refine blk_put (cs := #[.int .i64 0, .slice none 0 0]) ?_ 0 _ rfl;(with_reducible repeat (first | refine blk_drewN ?_ _ | refine blk_drew ?_ | refine blk_alloc ?_ _));exact BK123.out) hg (Kd.R_ne HO_6.out BK123.out (by decide)));have n5_ := Aside0.mk (hb);have n6_ := Aside0.mk (ho);clear HO_3;clear BK108;clear BK111;clear HO122;clear BK123;clear HB;clear HO_6;have HO_3 := n0_;have BK108 := n1_;have BK111 := n2_;have HO122 := n3_;have BK123 := n4_;have HB := n5_;have HO129 := n6_;clear n0_ n1_ n2_ n3_ n4_ n5_ n6_;clear ho hb hg hat))
                 go_roundg k1
                 case measure => have := HK1.out;omega
                 case rel => exact ⟨(y127), (wrap64 (x7_1 + 1)), (by first | rfl | (simp;done) | (simp [*];done)), H', ⟨by have := HK1.out;omega⟩, ⟨by (with_reducible repeat (first | apply Kd.R_alloc | apply Kd.R_drewN | apply Kd.R_drew));exact HO_3.out⟩, ⟨by (with_reducible repeat (first | apply Kd.R_alloc | apply Kd.R_drewN | apply Kd.R_drew));exact Kd.R_mono HO129.out (fun _ hk => trivial)⟩, ⟨by (with_reducible repeat (first | refine blk_drewN ?_ _ | refine blk_drew ?_ | refine blk_alloc ?_ _));exact BK108.out⟩, ⟨by (with_reducible repeat (first | refine blk_drewN ?_ _ | refine blk_drew ?_ | refine blk_alloc ?_ _));exact BK111.out⟩, ⟨by repeat (first | (with_reducible first | exact HB.out | apply below_alloc | apply pw_below_drewN | apply below_drew1 | refine below_set ?_ GE108.out | refine below_set ?_ GE111.out | refine below_set ?_ GE123.out) | exact HB.out)⟩⟩
               · rw [if_neg c52] at H
                 exact absurd H (by simp)
         · rw [if_neg c21] at H
           have c21b0 : (t119 == 0) = false := beq_eq_false_iff_ne.mpr c21
           have c21b1 : (t119 != 0) = true := bne_iff_ne.mpr c21
           obtain rfl := Option.some.inj H
           have hnb65 := NB111_108.out
           have hnc65 := NB108_111.out
           have hcz66_0 : wr.cell? ⟨gb111, 0, none⟩ = some (.int .i64 t109) := (blk_cell BK111.out 0).trans rfl
           have hcz66_1 : wr.cell? ⟨gb111, 1, none⟩ = some (.int .i64 t110) := (blk_cell BK111.out 1).trans rfl
           have hfz66_0 := blk_frozen BK111.out 0
           have hfz66_1 := blk_frozen BK111.out 1
           have hcz67_0 : wr.cell? ⟨gb108, 0, none⟩ = some (.int .i64 t105) := (blk_cell BK108.out 0).trans rfl
           have hcz67_1 : wr.cell? ⟨gb108, 1, none⟩ = some (.bool t106) := (blk_cell BK108.out 1).trans rfl
           have hcz67_2 : wr.cell? ⟨gb108, 2, none⟩ = some (.int .i64 t107) := (blk_cell BK108.out 2).trans rfl
           have hfz67_0 := blk_frozen BK108.out 0
           have hfz67_1 := blk_frozen BK108.out 1
           have hfz67_2 := blk_frozen BK108.out 2
           go_wp2_with (first | ((with_reducible refine gate_callee (f := 37) rfl ?_);refine goesL_ (some 48) rfl rfl Try.func37 (by kernel_rfl) rfl #[.slice Ao11 t102.length co11, .agg #[.int .i64 t105, .bool t106, .int .i64 t107], .int .i64 x7_1] rfl (by (try simp only [List.map_toArray, List.map_cons, List.map_nil]);first | done | rfl | (simp only [List.length_drop, List.length_take];rfl)) ?_;(with_reducible refine (impl_RowCells.calls k1 _ _ t102 t105 t106 t107 x7_1 t119 t120 _ ?side1 ?side2 A20.out).mono ?_);(case side1 => repeat (first | exact (Kd.R_reads' HO_3.out).2.2 | (with_reducible refine Kd.C_alloc ?_ _) | (with_reducible refine Kd.C_drewN ?_ _) | (with_reducible refine Kd.C_drew ?_)));(case side2 => exact (Kd.R_reads' HO_3.out).2.1);rintro e w68 ⟨v121, rfl, ho0, hb⟩;refine ⟨_, rfl, ?_⟩;have n0_ := Aside0.mk (Kd.R_below (by (with_reducible repeat (first | apply Kd.R_alloc | apply Kd.R_drewN | apply Kd.R_drew));exact HO_3.out) hb);have n1_ := Aside0.mk (Kd.R_elder' (by (with_reducible repeat (first | apply Kd.R_alloc | apply Kd.R_drewN | apply Kd.R_drew));exact HO_6.out) (Kd.R_base ho0) hb);have n2_ := Aside0.mk (Kd.R_lower (Kd.R_new' ho0 (Kd.R_lt (by (with_reducible repeat (first | apply Kd.R_alloc | apply Kd.R_drewN | apply Kd.R_drew));exact HO_6.out))) (below_size (by repeat (first | (with_reducible first | exact HB.out | apply below_alloc | apply pw_below_drewN | apply below_drew1 | refine below_set ?_ GE108.out | refine below_set ?_ GE111.out) | exact HB.out))));have n3_ := Aside0.mk (blk_below (g := gb108) (o := .cells #[.int .i64 t105, .bool t106, .int .i64 t107] 25 (0, 0)) (by (with_reducible repeat (first | refine blk_drewN ?_ _ | refine blk_drew ?_ | refine blk_alloc ?_ _));exact BK108.out) hb);have n4_ := Aside0.mk (blk_below (g := gb111) (o := .cells #[.int .i64 t109, .int .i64 t110] 30 (0, 0)) (by (with_reducible repeat (first | refine blk_drewN ?_ _ | refine blk_drew ?_ | refine blk_alloc ?_ _));exact BK111.out) hb);have n5_ := Aside0.mk (below_step (by repeat (first | (with_reducible first | exact HB.out | apply below_alloc | apply pw_below_drewN | apply below_drew1 | refine below_set ?_ GE108.out | refine below_set ?_ GE111.out) | exact HB.out)) hb);clear HO_3;clear HO_6;clear BK108;clear BK111;clear HB;have HO_3 := n0_;have HO_6 := n1_;have HO122 := n2_;have BK108 := n3_;have BK111 := n4_;have HB := n5_;clear n0_ n1_ n2_ n3_ n4_ n5_;(try clear hb);(try clear hb2);(try clear hk);(try clear hi);(try clear ho0)) | ((with_reducible refine gate_dst (N := 8) rfl ?_);(try (refine gate_guard (by rfl) ?_;dsimp only));refine box_event ?hg (N := 8) ?hd (cs := #[.int .i64 0, .slice none 0 0]) (t := 40) ?hr ?_;(case hd => rfl);(case hg => rfl);(case hr => first | (go_simp;done) | (go_simp;rfl));intro gb123 hg w69 hbox hb;have n0_ := Aside0.mk (Kd.R_below (by (with_reducible repeat (first | apply Kd.R_alloc | apply Kd.R_drewN | apply Kd.R_drew));exact HO_3.out) hb);have n1_ := Aside0.mk (Kd.R_below (by (with_reducible repeat (first | apply Kd.R_alloc | apply Kd.R_drewN | apply Kd.R_drew));exact HO_6.out) hb);have n2_ := Aside0.mk (Kd.R_below (by (with_reducible repeat (first | apply Kd.R_alloc | apply Kd.R_drewN | apply Kd.R_drew));exact HO122.out) hb);have n3_ := Aside0.mk (blk_below (g := gb108) (o := .cells #[.int .i64 t105, .bool t106, .int .i64 t107] 25 (0, 0)) (by (with_reducible repeat (first | refine blk_drewN ?_ _ | refine blk_drew ?_ | refine blk_alloc ?_ _));exact BK108.out) hb);have n4_ := Aside0.mk (blk_below (g := gb111) (o := .cells #[.int .i64 t109, .int .i64 t110] 30 (0, 0)) (by (with_reducible repeat (first | refine blk_drewN ?_ _ | refine blk_drew ?_ | refine blk_alloc ?_ _));exact BK111.out) hb);have n5_ := Aside0.mk (below_step (by repeat (first | (with_reducible first | exact HB.out | apply below_alloc | apply pw_below_drewN | apply below_drew1 | refine below_set ?_ GE108.out | refine below_set ?_ GE111.out) | exact HB.out)) hb);have n6_ := Aside0.mk (hbox);have n7_ := Aside0.mk ((by rw [hg];exact (below_size (by repeat (first | (with_reducible first | exact HB.out | apply below_alloc | apply pw_below_drewN | apply below_drew1 | refine below_set ?_ GE108.out | refine below_set ?_ GE111.out) | exact HB.out))) : w.heap.size ≤ gb123));have n8_ := Aside0.mk ((by rw [hg];exact (below_size (by repeat (first | (with_reducible first | exact HB.out | apply below_alloc | apply pw_below_drewN | apply below_drew1 | refine below_set ?_ GE108.out | refine below_set ?_ GE111.out) | exact HB.out))) : w.heap.size ≤ gb123));have n9_ := Aside0.mk ((by rw [hg];exact Nat.ne_of_lt (blk_lt (g := gb108) (o := .cells #[.int .i64 t105, .bool t106, .int .i64 t107] 25 (0, 0)) (by (with_reducible repeat (first | refine blk_drewN ?_ _ | refine blk_drew ?_ | refine blk_alloc ?_ _));exact BK108.out)) : gb108 ≠ gb123));have n10_ := Aside0.mk ((by rw [hg];exact Nat.ne_of_gt (blk_lt (g := gb108) (o := .cells #[.int .i64 t105, .bool t106, .int .i64 t107] 25 (0, 0)) (by (with_reducible repeat (first | refine blk_drewN ?_ _ | refine blk_drew ?_ | refine blk_alloc ?_ _));exact BK108.out)) : gb123 ≠ gb108));have n11_ := Aside0.mk ((by rw [hg];exact Nat.ne_of_lt (blk_lt (g := gb111) (o := .cells #[.int .i64 t109, .int .i64 t110] 30 (0, 0)) (by (with_reducible repeat (first | refine blk_drewN ?_ _ | refine blk_drew ?_ | refine blk_alloc ?_ _));exact BK111.out)) : gb111 ≠ gb123));have n12_ := Aside0.mk ((by rw [hg];exact Nat.ne_of_gt (blk_lt (g := gb111) (o := .cells #[.int .i64 t109, .int .i64 t110] 30 (0, 0)) (by (with_reducible repeat (first | refine blk_drewN ?_ _ | refine blk_drew ?_ | refine blk_alloc ?_ _));exact BK111.out)) : gb123 ≠ gb111));clear HO_3;clear HO_6;clear HO122;clear BK108;clear BK111;clear HB;have HO_3 := n0_;have HO_6 := n1_;have HO122 := n2_;have BK108 := n3_;have BK111 := n4_;have HB := n5_;have BK123 := n6_;have GW123 := n7_;have GE123 := n8_;have NB108_123 := n9_;have NB123_108 := n10_;have NB111_123 := n11_;have NB123_111 := n12_;clear n0_ n1_ n2_ n3_ n4_ n5_ n6_ n7_ n8_ n9_ n10_ n11_ n12_;clear hb hbox hg;have hnb70 := NB123_108.out;have hnc70 := NB108_123.out;have hnb71 := NB123_111.out;have hnc71 := NB111_123.out;have hcz72_0 : w69.cell? ⟨gb123, 0, none⟩ = some (.int .i64 0) := (blk_cell BK123.out 0).trans rfl;have hcz72_1 : w69.cell? ⟨gb123, 1, none⟩ = some (.slice none 0 0) := (blk_cell BK123.out 1).trans rfl;have hfz72_0 := blk_frozen BK123.out 0;have hfz72_1 := blk_frozen BK123.out 1;obtain ⟨Ao73, co73, eo73⟩ := Kd.R_slice HO122.out;subst eo73))
           go_ret
           exact ⟨by first | rfl | (simp [errW_none, errW_some] <;> rfl) | (simp [*, errW_none, errW_some] <;> rfl), by repeat (first | (with_reducible first | exact HB.out | apply below_alloc | apply pw_below_drewN | apply below_drew1 | refine below_set ?_ GE108.out | refine below_set ?_ GE111.out | refine below_set ?_ GE123.out) | exact HB.out)⟩
       · rw [if_neg c19] at H
         have c19b0 : decide (x7_1 < t110) = false := decide_eq_false c19
         clear c19
         replace H := Option.bind_eq_some_iff.mp H
         obtain ⟨⟨t130, t131⟩, A740, H⟩ := H
         replace H : (if t106 = true then (if t110 = 1 then (if (t131.length : Int) > t107 then (if (x6_1.length : Int) = 0 then (some false) else (if 0 < (x6_1.length : Int) then (if 0 ≤ t107 then (if t107 < (t131.length : Int) then (some (((rd_T46 x6_1 0).f0) == ((rd_T46 t131 t107).f0) && (((rd_T46 x6_1 0).f1) == ((rd_T46 t131 t107).f1) && (((rd_T46 x6_1 0).f2) == ((rd_T46 t131 t107).f2))))) else (none)) else (none)) else (none))) else (if (x6_1.length : Int) = 0 then (some true) else (some false))) else (some false)) else (if (x6_1.length : Int) = (t131.length : Int) then (laws_FnRows.l1 k1 t102 x6_1 0 t105 t106 t107 t109 t110 t130 t131) else (some false))) = some r := H
         have A74 := Aside0.mk A740
         clear A740
         have HC75 := Aside0.mk H
         clear H
         have hnb76 := NB111_108.out
         have hnc76 := NB108_111.out
         have hcz77_0 : wr.cell? ⟨gb111, 0, none⟩ = some (.int .i64 t109) := (blk_cell BK111.out 0).trans rfl
         have hcz77_1 : wr.cell? ⟨gb111, 1, none⟩ = some (.int .i64 t110) := (blk_cell BK111.out 1).trans rfl
         have hfz77_0 := blk_frozen BK111.out 0
         have hfz77_1 := blk_frozen BK111.out 1
         go_upto_if 82 with (first | ((with_reducible refine gate_callee (f := 25) rfl ?_);refine goesL_ (some 80) rfl rfl Try.func25 (by kernel_rfl) rfl #[.slice Ao11 t102.length co11] rfl (by (try simp only [List.map_toArray, List.map_cons, List.map_nil]);first | done | rfl | (simp only [List.length_drop, List.length_take];rfl)) ?_;(with_reducible refine (impl_CellsOf.calls _ _ t102 t130 t131 _ ?side1 ?side2 A74.out).mono ?_);(case side1 => repeat (first | exact (Kd.R_reads' HO_3.out).2.2 | (with_reducible refine Kd.C_alloc ?_ _) | (with_reducible refine Kd.C_drewN ?_ _) | (with_reducible refine Kd.C_drew ?_)));(case side2 => exact (Kd.R_reads' HO_3.out).2.1);rintro e w78 ⟨v132, rfl, ho0, hb⟩;refine ⟨_, rfl, ?_⟩;have n0_ := Aside0.mk (Kd.R_below (by (with_reducible repeat (first | apply Kd.R_alloc | apply Kd.R_drewN | apply Kd.R_drew));exact HO_3.out) hb);have n1_ := Aside0.mk (Kd.R_elder' (by (with_reducible repeat (first | apply Kd.R_alloc | apply Kd.R_drewN | apply Kd.R_drew));exact HO_6.out) (Kd.R_base ho0) hb);have n2_ := Aside0.mk (Kd.R_lower (Kd.R_new' ho0 (Kd.R_lt (by (with_reducible repeat (first | apply Kd.R_alloc | apply Kd.R_drewN | apply Kd.R_drew));exact HO_6.out))) (below_size (by repeat (first | (with_reducible first | exact HB.out | apply below_alloc | apply pw_below_drewN | apply below_drew1 | refine below_set ?_ GE108.out | refine below_set ?_ GE111.out) | exact HB.out))));have n3_ := Aside0.mk (blk_below (g := gb108) (o := .cells #[.int .i64 t105, .bool t106, .int .i64 t107] 25 (0, 0)) (by (with_reducible repeat (first | refine blk_drewN ?_ _ | refine blk_drew ?_ | refine blk_alloc ?_ _));exact BK108.out) hb);have n4_ := Aside0.mk (blk_below (g := gb111) (o := .cells #[.int .i64 t109, .int .i64 t110] 30 (0, 0)) (by (with_reducible repeat (first | refine blk_drewN ?_ _ | refine blk_drew ?_ | refine blk_alloc ?_ _));exact BK111.out) hb);have n5_ := Aside0.mk (below_step (by repeat (first | (with_reducible first | exact HB.out | apply below_alloc | apply pw_below_drewN | apply below_drew1 | refine below_set ?_ GE108.out | refine below_set ?_ GE111.out) | exact HB.out)) hb);clear HO_3;clear HO_6;clear BK108;clear BK111;clear HB;have HO_3 := n0_;have HO_6 := n1_;have HO133 := n2_;have BK108 := n3_;have BK111 := n4_;have HB := n5_;clear n0_ n1_ n2_ n3_ n4_ n5_;(try clear hb);(try clear hb2);(try clear hk);(try clear hi);(try clear ho0)) | ((with_reducible refine gate_dst (N := 9) rfl ?_);(try (refine gate_guard (by rfl) ?_;dsimp only));refine box_event ?hg (N := 9) ?hd (cs := #[.int .i64 0, .slice none 0 0]) (t := 40) ?hr ?_;(case hd => rfl);(case hg => rfl);(case hr => first | (go_simp;done) | (go_simp;rfl));intro gb134 hg w79 hbox hb;have n0_ := Aside0.mk (Kd.R_below (by (with_reducible repeat (first | apply Kd.R_alloc | apply Kd.R_drewN | apply Kd.R_drew));exact HO_3.out) hb);have n1_ := Aside0.mk (Kd.R_below (by (with_reducible repeat (first | apply Kd.R_alloc | apply Kd.R_drewN | apply Kd.R_drew));exact HO_6.out) hb);have n2_ := Aside0.mk (Kd.R_below (by (with_reducible repeat (first | apply Kd.R_alloc | apply Kd.R_drewN | apply Kd.R_drew));exact HO133.out) hb);have n3_ := Aside0.mk (blk_below (g := gb108) (o := .cells #[.int .i64 t105, .bool t106, .int .i64 t107] 25 (0, 0)) (by (with_reducible repeat (first | refine blk_drewN ?_ _ | refine blk_drew ?_ | refine blk_alloc ?_ _));exact BK108.out) hb);have n4_ := Aside0.mk (blk_below (g := gb111) (o := .cells #[.int .i64 t109, .int .i64 t110] 30 (0, 0)) (by (with_reducible repeat (first | refine blk_drewN ?_ _ | refine blk_drew ?_ | refine blk_alloc ?_ _));exact BK111.out) hb);have n5_ := Aside0.mk (below_step (by repeat (first | (with_reducible first | exact HB.out | apply below_alloc | apply pw_below_drewN | apply below_drew1 | refine below_set ?_ GE108.out | refine below_set ?_ GE111.out) | exact HB.out)) hb);have n6_ := Aside0.mk (hbox);have n7_ := Aside0.mk ((by rw [hg];exact (below_size (by repeat (first | (with_reducible first | exact HB.out | apply below_alloc | apply pw_below_drewN | apply below_drew1 | refine below_set ?_ GE108.out | refine below_set ?_ GE111.out) | exact HB.out))) : w.heap.size ≤ gb134));have n8_ := Aside0.mk ((by rw [hg];exact (below_size (by repeat (first | (with_reducible first | exact HB.out | apply below_alloc | apply pw_below_drewN | apply below_drew1 | refine below_set ?_ GE108.out | refine below_set ?_ GE111.out) | exact HB.out))) : w.heap.size ≤ gb134));have n9_ := Aside0.mk ((by rw [hg];exact Nat.ne_of_lt (blk_lt (g := gb108) (o := .cells #[.int .i64 t105, .bool t106, .int .i64 t107] 25 (0, 0)) (by (with_reducible repeat (first | refine blk_drewN ?_ _ | refine blk_drew ?_ | refine blk_alloc ?_ _));exact BK108.out)) : gb108 ≠ gb134));have n10_ := Aside0.mk ((by rw [hg];exact Nat.ne_of_gt (blk_lt (g := gb108) (o := .cells #[.int .i64 t105, .bool t106, .int .i64 t107] 25 (0, 0)) (by (with_reducible repeat (first | refine blk_drewN ?_ _ | refine blk_drew ?_ | refine blk_alloc ?_ _));exact BK108.out)) : gb134 ≠ gb108));have n11_ := Aside0.mk ((by rw [hg];exact Nat.ne_of_lt (blk_lt (g := gb111) (o := .cells #[.int .i64 t109, .int .i64 t110] 30 (0, 0)) (by (with_reducible repeat (first | refine blk_drewN ?_ _ | refine blk_drew ?_ | refine blk_alloc ?_ _));exact BK111.out)) : gb111 ≠ gb134));have n12_ := Aside0.mk ((by rw [hg];exact Nat.ne_of_gt (blk_lt (g := gb111) (o := .cells #[.int .i64 t109, .int .i64 t110] 30 (0, 0)) (by (with_reducible repeat (first | refine blk_drewN ?_ _ | refine blk_drew ?_ | refine blk_alloc ?_ _));exact BK111.out)) : gb134 ≠ gb111));clear HO_3;clear HO_6;clear HO133;clear BK108;clear BK111;clear HB;have HO_3 := n0_;have HO_6 := n1_;have HO133 := n2_;have BK108 := n3_;have BK111 := n4_;have HB := n5_;have BK134 := n6_;have GW134 := n7_;have GE134 := n8_;have NB108_134 := n9_;have NB134_108 := n10_;have NB111_134 := n11_;have NB134_111 := n12_;clear n0_ n1_ n2_ n3_ n4_ n5_ n6_ n7_ n8_ n9_ n10_ n11_ n12_;clear hb hbox hg;have hnb80 := NB134_108.out;have hnc80 := NB108_134.out;have hnb81 := NB134_111.out;have hnc81 := NB111_134.out;have hcz82_0 : w79.cell? ⟨gb134, 0, none⟩ = some (.int .i64 0) := (blk_cell BK134.out 0).trans rfl;have hcz82_1 : w79.cell? ⟨gb134, 1, none⟩ = some (.slice none 0 0) := (blk_cell BK134.out 1).trans rfl;have hfz82_0 := blk_frozen BK134.out 0;have hfz82_1 := blk_frozen BK134.out 1;obtain ⟨Ao83, co83, eo83⟩ := Kd.R_slice HO133.out;subst eo83;have hcz84_0 : w79.cell? ⟨gb108, 0, none⟩ = some (.int .i64 t105) := (blk_cell BK108.out 0).trans rfl;have hcz84_1 : w79.cell? ⟨gb108, 1, none⟩ = some (.bool t106) := (blk_cell BK108.out 1).trans rfl;have hcz84_2 : w79.cell? ⟨gb108, 2, none⟩ = some (.int .i64 t107) := (blk_cell BK108.out 2).trans rfl;have hfz84_0 := blk_frozen BK108.out 0;have hfz84_1 := blk_frozen BK108.out 1;have hfz84_2 := blk_frozen BK108.out 2))
         (try simp only [Act.put, List.setIfInBounds_toArray, List.set_cons_zero, List.set_cons_succ])
         have H := HC75.out
         clear HC75
         by_cases c85 : t106 = true
         · subst c85
           have H1 : (if t110 = 1 then (if (t131.length : Int) > t107 then (if (x6_1.length : Int) = 0 then (some false) else (if 0 < (x6_1.length : Int) then (if 0 ≤ t107 then (if t107 < (t131.length : Int) then (some (((rd_T46 x6_1 0).f0) == ((rd_T46 t131 t107).f0) && (((rd_T46 x6_1 0).f1) == ((rd_T46 t131 t107).f1) && (((rd_T46 x6_1 0).f2) == ((rd_T46 t131 t107).f2))))) else (none)) else (none)) else (none))) else (if (x6_1.length : Int) = 0 then (some true) else (some false))) else (some false)) = some r := by rw [if_pos rfl] at H;exact H
           clear H
           have H := H1
           clear H1
           by_cases c86 : t110 = 1
           · rw [if_pos c86] at H
             have c86b0 : (t110 == 1) = true := beq_iff_eq.mpr c86
             have c86b1 : (t110 != 1) = false := bne_eq_false_iff_eq.mpr c86
             clear c86
             (first | rw [c86b0] | (simp only [i64_w, i32_w];rw [c86b0]) | skip)
             by_cases c87 : (t131.length : Int) > t107
             · rw [if_pos c87] at H
               have c87b0 : decide (t107 < (t131.length : Int)) = true := decide_eq_true c87
               clear c87
               by_cases c88 : (x6_1.length : Int) = 0
               · rw [if_pos c88] at H
                 have c88b0 : ((x6_1.length : Int) == 0) = true := beq_iff_eq.mpr c88
                 have c88b1 : ((x6_1.length : Int) != 0) = false := bne_eq_false_iff_eq.mpr c88
                 clear c88
                 obtain rfl := Option.some.inj H
                 have hnb89 := NB111_108.out
                 have hnc89 := NB108_111.out
                 have hnb90 := NB111_134.out
                 have hnc90 := NB134_111.out
                 have hcz91_0 : w79.cell? ⟨gb111, 0, none⟩ = some (.int .i64 t109) := (blk_cell BK111.out 0).trans rfl
                 have hcz91_1 : w79.cell? ⟨gb111, 1, none⟩ = some (.int .i64 t110) := (blk_cell BK111.out 1).trans rfl
                 have hfz91_0 := blk_frozen BK111.out 0
                 have hfz91_1 := blk_frozen BK111.out 1
                 have hnb92 := NB134_108.out
                 have hnc92 := NB108_134.out
                 have hcz93_0 : w79.cell? ⟨gb134, 0, none⟩ = some (.int .i64 0) := (blk_cell BK134.out 0).trans rfl
                 have hcz93_1 : w79.cell? ⟨gb134, 1, none⟩ = some (.slice none 0 0) := (blk_cell BK134.out 1).trans rfl
                 have hfz93_0 := blk_frozen BK134.out 0
                 have hfz93_1 := blk_frozen BK134.out 1
                 have hcz94_0 : w79.cell? ⟨gb108, 0, none⟩ = some (.int .i64 t105) := (blk_cell BK108.out 0).trans rfl
                 have hcz94_1 : w79.cell? ⟨gb108, 1, none⟩ = some (.bool true) := (blk_cell BK108.out 1).trans rfl
                 have hcz94_2 : w79.cell? ⟨gb108, 2, none⟩ = some (.int .i64 t107) := (blk_cell BK108.out 2).trans rfl
                 have hfz94_0 := blk_frozen BK108.out 0
                 have hfz94_1 := blk_frozen BK108.out 1
                 have hfz94_2 := blk_frozen BK108.out 2
                 obtain ⟨Ao95, co95, eo95⟩ := Kd.R_slice HO_6.out
                 subst eo95
                 go_wp2
                 go_ret
                 exact ⟨by first | rfl | (simp [errW_none, errW_some] <;> rfl) | (simp [*, errW_none, errW_some] <;> rfl), by repeat (first | (with_reducible first | exact HB.out | apply below_alloc | apply pw_below_drewN | apply below_drew1 | refine below_set ?_ GE108.out | refine below_set ?_ GE111.out | refine below_set ?_ GE134.out) | exact HB.out)⟩
               · rw [if_neg c88] at H
                 have c88b0 : ((x6_1.length : Int) == 0) = false := beq_eq_false_iff_ne.mpr c88
                 have c88b1 : ((x6_1.length : Int) != 0) = true := bne_iff_ne.mpr c88
                 have c88b2 : ¬ (x6_1 = []) := fun h_ => c88 (by rw [h_];rfl)
                 by_cases c96 : 0 < (x6_1.length : Int)
                 · rw [if_pos c96] at H
                   have c96b0 : decide (0 < (x6_1.length : Int)) = true := decide_eq_true c96
                   have c96b1 : decide (0 < x6_1.length) = true := decide_eq_true (by omega)
                   clear c96
                   by_cases c97 : 0 ≤ t107
                   · rw [if_pos c97] at H
                     have c97b0 : decide (0 ≤ t107) = true := decide_eq_true c97
                     clear c97
                     by_cases c98 : t107 < (t131.length : Int)
                     · rw [if_pos c98] at H
                       have c98b0 : decide (t107 < (t131.length : Int)) = true := decide_eq_true c98
                       clear c98
                       obtain rfl := Option.some.inj H
                       have hnb99 := NB111_108.out
                       have hnc99 := NB108_111.out
                       have hnb100 := NB111_134.out
                       have hnc100 := NB134_111.out
                       have hcz101_0 : w79.cell? ⟨gb111, 0, none⟩ = some (.int .i64 t109) := (blk_cell BK111.out 0).trans rfl
                       have hcz101_1 : w79.cell? ⟨gb111, 1, none⟩ = some (.int .i64 t110) := (blk_cell BK111.out 1).trans rfl
                       have hfz101_0 := blk_frozen BK111.out 0
                       have hfz101_1 := blk_frozen BK111.out 1
                       have hnb102 := NB134_108.out
                       have hnc102 := NB108_134.out
                       have hcz103_0 : w79.cell? ⟨gb134, 0, none⟩ = some (.int .i64 0) := (blk_cell BK134.out 0).trans rfl
                       have hcz103_1 : w79.cell? ⟨gb134, 1, none⟩ = some (.slice none 0 0) := (blk_cell BK134.out 1).trans rfl
                       have hfz103_0 := blk_frozen BK134.out 0
                       have hfz103_1 := blk_frozen BK134.out 1
                       have hcz104_0 : w79.cell? ⟨gb108, 0, none⟩ = some (.int .i64 t105) := (blk_cell BK108.out 0).trans rfl
                       have hcz104_1 : w79.cell? ⟨gb108, 1, none⟩ = some (.bool true) := (blk_cell BK108.out 1).trans rfl
                       have hcz104_2 : w79.cell? ⟨gb108, 2, none⟩ = some (.int .i64 t107) := (blk_cell BK108.out 2).trans rfl
                       have hfz104_0 := blk_frozen BK108.out 0
                       have hfz104_1 := blk_frozen BK108.out 1
                       have hfz104_2 := blk_frozen BK108.out 2
                       obtain ⟨Ao105, co105, eo105⟩ := Kd.R_slice HO_6.out
                       subst eo105
                       try go_wp2
                       have n0_ : Aside0 (Kd.R (Kd.int .u8) 5 ((w79.setCell ⟨gb134, 0, none⟩ (.int .i64 t130)).setCell ⟨gb134, 1, none⟩ (.slice Ao83 t131.length co83)) w.heap.size (fun _ => True) (.slice Ao11 t102.length co11) t102) := ⟨by (with_reducible repeat (first | apply Kd.R_alloc | apply Kd.R_drewN | apply Kd.R_drew));exact Kd.R_mono (Kd.R_far (p := ⟨gb134, 1, none⟩) (Kd.R_far (p := ⟨gb134, 0, none⟩) (Kd.R_types HO_3.out BK134.out (by decide)) (fun _ hk => hk.2) (.int .i64 t130)) (fun _ hk => hk.2) (.slice Ao83 t131.length co83)) (fun _ hk => trivial)⟩
                       have n1_ : Aside0 (Kd.R k46 46 ((w79.setCell ⟨gb134, 0, none⟩ (.int .i64 t130)).setCell ⟨gb134, 1, none⟩ (.slice Ao83 t131.length co83)) w.heap.size (fun k_ => some k_ ≠ (.slice Ao83 t131.length co83 : Value).ownBlock) (.slice Ao105 x6_1.length co105) x6_1) := ⟨by (with_reducible repeat (first | apply Kd.R_alloc | apply Kd.R_drewN | apply Kd.R_drew));exact Kd.R_mono (Kd.R_far (p := ⟨gb134, 1, none⟩) (Kd.R_far (p := ⟨gb134, 0, none⟩) (Kd.R_types HO_6.out BK134.out (by decide)) (fun _ hk => hk.2) (.int .i64 t130)) (fun _ hk => hk.2) (.slice Ao83 t131.length co83)) (fun _ hk => hk.1.2)⟩
                       have n2_ : Aside0 (Kd.R k46 46 ((w79.setCell ⟨gb134, 0, none⟩ (.int .i64 t130)).setCell ⟨gb134, 1, none⟩ (.slice Ao83 t131.length co83)) w.heap.size (fun k_ => some k_ ≠ (.slice Ao105 x6_1.length co105 : Value).ownBlock) (.slice Ao83 t131.length co83) t131) := ⟨by (with_reducible repeat (first | apply Kd.R_alloc | apply Kd.R_drewN | apply Kd.R_drew));exact Kd.R_mono (Kd.R_far (p := ⟨gb134, 1, none⟩) (Kd.R_far (p := ⟨gb134, 0, none⟩) (Kd.R_types HO133.out BK134.out (by decide)) (fun _ hk => hk.2) (.int .i64 t130)) (fun _ hk => hk.2) (.slice Ao83 t131.length co83)) (fun _ hk => hk.1.2)⟩
                       have n3_ : Aside0 (((w79.setCell ⟨gb134, 0, none⟩ (.int .i64 t130)).setCell ⟨gb134, 1, none⟩ (.slice Ao83 t131.length co83)).heap[gb108]? = some (.cells #[.int .i64 t105, .bool true, .int .i64 t107] 25 (0, 0))) := ⟨by (with_reducible repeat (first | refine blk_drewN ?_ _ | refine blk_drew ?_ | refine blk_alloc ?_ _));refine blk_far ?_ NB108_134.out _;(with_reducible repeat (first | refine blk_drewN ?_ _ | refine blk_drew ?_ | refine blk_alloc ?_ _));refine blk_far ?_ NB108_134.out _;(with_reducible repeat (first | refine blk_drewN ?_ _ | refine blk_drew ?_ | refine blk_alloc ?_ _));exact BK108.out⟩
                       have n4_ : Aside0 (((w79.setCell ⟨gb134, 0, none⟩ (.int .i64 t130)).setCell ⟨gb134, 1, none⟩ (.slice Ao83 t131.length co83)).heap[gb111]? = some (.cells #[.int .i64 t109, .int .i64 t110] 30 (0, 0))) := ⟨by (with_reducible repeat (first | refine blk_drewN ?_ _ | refine blk_drew ?_ | refine blk_alloc ?_ _));refine blk_far ?_ NB111_134.out _;(with_reducible repeat (first | refine blk_drewN ?_ _ | refine blk_drew ?_ | refine blk_alloc ?_ _));refine blk_far ?_ NB111_134.out _;(with_reducible repeat (first | refine blk_drewN ?_ _ | refine blk_drew ?_ | refine blk_alloc ?_ _));exact BK111.out⟩
                       have n5_ : Aside0 (((w79.setCell ⟨gb134, 0, none⟩ (.int .i64 t130)).setCell ⟨gb134, 1, none⟩ (.slice Ao83 t131.length co83)).heap[gb134]? = some (.cells #[.int .i64 t130, .slice Ao83 t131.length co83] 40 (0, 0))) := ⟨by (with_reducible repeat (first | refine blk_drewN ?_ _ | refine blk_drew ?_ | refine blk_alloc ?_ _));refine blk_put (cs := #[.int .i64 t130, .slice none 0 0]) ?_ 1 _ rfl;(with_reducible repeat (first | refine blk_drewN ?_ _ | refine blk_drew ?_ | refine blk_alloc ?_ _));refine blk_put (cs := #[.int .i64 0, .slice none 0 0]) ?_ 0 _ rfl;(with_reducible repeat (first | refine blk_drewN ?_ _ | refine blk_drew ?_ | refine blk_alloc ?_ _));exact BK134.out⟩
                       have n6_ : Aside0 (Below w.heap.size w ((w79.setCell ⟨gb134, 0, none⟩ (.int .i64 t130)).setCell ⟨gb134, 1, none⟩ (.slice Ao83 t131.length co83))) := ⟨by repeat (first | (with_reducible first | exact HB.out | apply below_alloc | apply pw_below_drewN | apply below_drew1 | refine below_set ?_ GE108.out | refine below_set ?_ GE111.out | refine below_set ?_ GE134.out) | exact HB.out)⟩
                       (try clear HO_3)
                       (try clear HO_6)
                       (try clear HO133)
                       (try clear BK108)
                       (try clear BK111)
                       (try clear BK134)
                       (try clear HB)
                       generalize ((w79.setCell ⟨gb134, 0, none⟩ (.int .i64 t130)).setCell ⟨gb134, 1, none⟩ (.slice Ao83 t131.length co83)) = w106 at n0_ n1_ n2_ n3_ n4_ n5_ n6_ ⊢
                       have HO_3 := n0_
                       have HO_6 := n1_
                       have HO133 := n2_
                       have BK108 := n3_
                       have BK111 := n4_
                       have BK134 := n5_
                       have HB := n6_
                       clear n0_ n1_ n2_ n3_ n4_ n5_ n6_
                       have n0_ := Aside0.mk (Kd.R_drew HO_3.out)
                       have n1_ := Aside0.mk (Kd.R_drew HO_6.out)
                       have n2_ := Aside0.mk (Kd.R_drew HO133.out)
                       have n3_ := Aside0.mk (blk_drew BK108.out)
                       have n4_ := Aside0.mk (blk_drew BK111.out)
                       have n5_ := Aside0.mk (blk_drew BK134.out)
                       have n6_ := Aside0.mk (below_drew1 HB.out)
                       clear HO_3
                       clear HO_6
                       clear HO133
                       clear BK108
                       clear BK111
                       clear BK134
                       clear HB
                       have HO_3 := n0_
                       have HO_6 := n1_
                       have HO133 := n2_
                       have BK108 := n3_
                       have BK111 := n4_
                       have BK134 := n5_
                       have HB := n6_
                       clear n0_ n1_ n2_ n3_ n4_ n5_ n6_
                       have p135 : 0 ≤ (0 : Int) := (by omega)
                       have q135 : 0 < (x6_1.length : Int) := of_decide_eq_true (by first | (with_reducible assumption) | assumption)
                       obtain ⟨ad135, e135, hx135_0, hx135_1, hx135_2⟩ := at_T46 (Kd.R_reads' HO_6.out).2.2 0 p135 q135
                       cases e135
                       have qi135 : (0 < x6_1.length) = True := eq_true (by omega)
                       (try rw [show ((0 : Int)).toNat = 0 from rfl] at hx135_0)
                       (try rw [show 0 * 3 = 0 from rfl] at hx135_0)
                       (try rw [Addr.add_zero'] at hx135_0)
                       (try rw [show ((0 : Int)).toNat = 0 from rfl] at hx135_1)
                       (try rw [show 0 * 3 = 0 from rfl] at hx135_1)
                       (try rw [Addr.add_zero'] at hx135_1)
                       (try rw [show ((0 : Int)).toNat = 0 from rfl] at hx135_2)
                       (try rw [show 0 * 3 = 0 from rfl] at hx135_2)
                       (try rw [Addr.add_zero'] at hx135_2)
                       replace p135 := eq_true p135
                       replace q135 := eq_true q135
                       have p136 : 0 ≤ (t107 : Int) := of_decide_eq_true (by first | (with_reducible assumption) | assumption)
                       have q136 : t107 < (t131.length : Int) := of_decide_eq_true (by first | (with_reducible assumption) | assumption)
                       obtain ⟨ad136, e136, hx136_0, hx136_1, hx136_2⟩ := at_T46 (Kd.R_reads' HO133.out).2.2 t107 p136 q136
                       cases e136
                       replace p136 := eq_true p136
                       replace q136 := eq_true q136
                       refine start_ (n := 24) (S := fun w' => w'.cell? ⟨gb134, 0, none⟩ = some (.int .i64 t130) ∧ w'.cell? ⟨gb134, 1, none⟩ = some (.slice (some ad136) t131.length co83) ∧ w'.cell? ⟨gb108, 0, none⟩ = some (.int .i64 t105) ∧ w'.cell? ⟨gb108, 1, none⟩ = some (.bool true) ∧ w'.cell? ⟨gb108, 2, none⟩ = some (.int .i64 t107) ∧ w'.cell? ad135 = some (.int .i64 ((rd_T46 x6_1 0).f0)) ∧ w'.cell? ⟨ad135.block, ad135.off + 1, none⟩ = some (.int .i64 ((rd_T46 x6_1 0).f1)) ∧ w'.cell? ⟨ad135.block, ad135.off + 2, none⟩ = some (.int .i64 ((rd_T46 x6_1 0).f2)) ∧ w'.cell? (ad136.add ((t107).toNat * 3)) = some (.int .i64 ((rd_T46 t131 t107).f0)) ∧ w'.cell? ⟨(ad136.add ((t107).toNat * 3)).block, (ad136.add ((t107).toNat * 3)).off + 1, none⟩ = some (.int .i64 ((rd_T46 t131 t107).f1)) ∧ w'.cell? ⟨(ad136.add ((t107).toNat * 3)).block, (ad136.add ((t107).toNat * 3)).off + 2, none⟩ = some (.int .i64 ((rd_T46 t131 t107).f2))) (ds := []) #[false, false, false, false, false, false, false, false, false, false, false, false, false, false, false, false, false, false, false, false, false, false, false, false] (by kernel_rfl) rfl rfl ⟨(blk_cell BK134.out 0).trans rfl, (blk_cell BK134.out 1).trans rfl, (blk_cell BK108.out 0).trans rfl, (blk_cell BK108.out 1).trans rfl, (blk_cell BK108.out 2).trans rfl, hx135_0, hx135_1, hx135_2, hx136_0, hx136_1, hx136_2⟩ (fun hHeld => ?_);refine with_tabW laws_FnRows.tab19 laws_FnRows.bits19 (fun HT_ HW_ => ?_)
                       generalize w106.drew = w107 at HO_3 HO_6 HO133 BK108 BK111 BK134 HB hx135_0 hx135_1 hx135_2 hx136_0 hx136_1 hx136_2 hHeld ⊢
                       refine pure_ (i := 0) (N := some 99) (v := ?_) (a' := ?_) #[true, false, false, false, false, false, false, false, false, false, false, false, false, false, false, false, false, false, false, false, false, false, false, false] rfl rfl (any_of HT_.out (by kernel_rfl)) (fun _ _ _ h => h) (Or.inl ⟨by rfl, ?_⟩) ?_ ?_
                       rotate_left
                       · intro w'
                         go_simp
                         with_reducible rfl
                       rotate_left
                       · simp only [Act.put, List.setIfInBounds_toArray, List.set_cons_zero, List.set_cons_succ, i64_w, i32_w]
                         rfl
                       refine pure_ (i := 1) (N := some 100) (v := ?_) (a' := ?_) #[true, true, false, false, false, false, false, false, false, false, false, false, false, false, false, false, false, false, false, false, false, false, false, false] rfl rfl (any_of HT_.out (by kernel_rfl)) (fun _ _ _ h => h) (Or.inl ⟨by rfl, ?_⟩) ?_ ?_
                       rotate_left
                       · intro w'
                         go_simp
                         with_reducible rfl
                       rotate_left
                       · simp only [Act.put, List.setIfInBounds_toArray, List.set_cons_zero, List.set_cons_succ, i64_w, i32_w]
                         rfl
                       refine pure_ (i := 2) (N := some 101) (v := ?_) (a' := ?_) #[true, true, true, false, false, false, false, false, false, false, false, false, false, false, false, false, false, false, false, false, false, false, false, false] rfl rfl (any_of HT_.out (by kernel_rfl)) (fun _ _ _ h => h) (Or.inl ⟨by rfl, ?_⟩) ?_ ?_
                       rotate_left
                       · intro w'
                         go_simp
                         with_reducible rfl
                       rotate_left
                       · simp only [Act.put, List.setIfInBounds_toArray, List.set_cons_zero, List.set_cons_succ, i64_w, i32_w]
                         rfl
                       refine pure_ (i := 3) (N := some 102) (v := ?_) (a' := ?_) #[true, true, true, true, false, false, false, false, false, false, false, false, false, false, false, false, false, false, false, false, false, false, false, false] rfl rfl (any_of HT_.out (by kernel_rfl)) (fun _ _ _ h => h) (Or.inl ⟨by rfl, ?_⟩) ?_ ?_
                       rotate_left
                       · intro w'
                         go_simp
                         with_reducible rfl
                       rotate_left
                       · simp only [Act.put, List.setIfInBounds_toArray, List.set_cons_zero, List.set_cons_succ, i64_w, i32_w]
                         rfl
                       refine pure_ (i := 4) (N := some 103) (v := ?_) (a' := ?_) #[true, true, true, true, true, false, false, false, false, false, false, false, false, false, false, false, false, false, false, false, false, false, false, false] rfl rfl (any_of HT_.out (by kernel_rfl)) (fun _ _ _ h => h) (Or.inl ⟨by rfl, ?_⟩) ?_ ?_
                       rotate_left
                       · intro w'
                         go_simp
                         with_reducible rfl
                       rotate_left
                       · simp only [Act.put, List.setIfInBounds_toArray, List.set_cons_zero, List.set_cons_succ, i64_w, i32_w]
                         rfl
                       refine pure_ (i := 7) (N := some 106) (v := ?_) (a' := ?_) #[true, true, true, true, true, false, false, true, false, false, false, false, false, false, false, false, false, false, false, false, false, false, false, false] rfl rfl (any_of HT_.out (by kernel_rfl)) (fun _ _ _ h => h) (Or.inl ⟨by rfl, ?_⟩) ?_ ?_
                       rotate_left
                       · intro w'
                         go_simp
                         with_reducible rfl
                       rotate_left
                       · simp only [Act.put, List.setIfInBounds_toArray, List.set_cons_zero, List.set_cons_succ, i64_w, i32_w]
                         rfl
                       refine take_ (i := 5) (N := some 104) (v := ?_) (a' := ?_) #[true, true, true, true, true, true, false, true, false, false, false, false, false, false, false, false, false, false, false, false, false, false, false, false] rfl rfl (take_ofW HT_.out HW_.out (by kernel_rfl)) (fun _ _ _ h => h) (Or.inl ⟨by rfl, ?_⟩) hHeld ?_ ?_
                       rotate_left
                       · rintro w' ⟨s0, s1, s2, s3, s4, s5, s6, s7, s8, s9, s10⟩
                         go_simp
                         with_reducible rfl
                       rotate_left
                       · simp only [Act.put, List.setIfInBounds_toArray, List.set_cons_zero, List.set_cons_succ, i64_w, i32_w]
                         rfl
                       refine pure_ (i := 6) (N := some 105) (v := ?_) (a' := ?_) #[true, true, true, true, true, true, true, true, false, false, false, false, false, false, false, false, false, false, false, false, false, false, false, false] rfl rfl (any_of HT_.out (by kernel_rfl)) (fun _ _ _ h => h) (Or.inl ⟨by rfl, ?_⟩) ?_ ?_
                       rotate_left
                       · intro w'
                         go_simp
                         with_reducible rfl
                       rotate_left
                       · simp only [Act.put, List.setIfInBounds_toArray, List.set_cons_zero, List.set_cons_succ, i64_w, i32_w]
                         rfl
                       refine take_ (i := 8) (N := some 107) (v := ?_) (a' := ?_) #[true, true, true, true, true, true, true, true, true, false, false, false, false, false, false, false, false, false, false, false, false, false, false, false] rfl rfl (take_ofW HT_.out HW_.out (by kernel_rfl)) (fun _ _ _ h => h) (Or.inl ⟨by rfl, ?_⟩) hHeld ?_ ?_
                       rotate_left
                       · rintro w' ⟨s0, s1, s2, s3, s4, s5, s6, s7, s8, s9, s10⟩
                         go_simp
                         with_reducible rfl
                       rotate_left
                       · simp only [Act.put, List.setIfInBounds_toArray, List.set_cons_zero, List.set_cons_succ, i64_w, i32_w]
                         rfl
                       refine pure_ (i := 9) (N := some 108) (v := ?_) (a' := ?_) #[true, true, true, true, true, true, true, true, true, true, false, false, false, false, false, false, false, false, false, false, false, false, false, false] rfl rfl (any_of HT_.out (by kernel_rfl)) (fun _ _ _ h => h) (Or.inl ⟨by rfl, ?_⟩) ?_ ?_
                       rotate_left
                       · intro w'
                         go_simp
                         with_reducible rfl
                       rotate_left
                       · simp only [Act.put, List.setIfInBounds_toArray, List.set_cons_zero, List.set_cons_succ, i64_w, i32_w]
                         rfl
                       refine pure_ (i := 10) (N := some 109) (v := ?_) (a' := ?_) #[true, true, true, true, true, true, true, true, true, true, true, false, false, false, false, false, false, false, false, false, false, false, false, false] rfl rfl (any_of HT_.out (by kernel_rfl)) (fun _ _ _ h => h) (Or.inl ⟨by rfl, ?_⟩) ?_ ?_
                       rotate_left
                       · intro w'
                         go_simp
                         with_reducible rfl
                       rotate_left
                       · simp only [Act.put, List.setIfInBounds_toArray, List.set_cons_zero, List.set_cons_succ, i64_w, i32_w]
                         rfl
                       refine pure_ (i := 11) (N := some 110) (v := ?_) (a' := ?_) #[true, true, true, true, true, true, true, true, true, true, true, true, false, false, false, false, false, false, false, false, false, false, false, false] rfl rfl (any_of HT_.out (by kernel_rfl)) (fun _ _ _ h => h) (Or.inl ⟨by rfl, ?_⟩) ?_ ?_
                       rotate_left
                       · intro w'
                         go_simp
                         with_reducible rfl
                       rotate_left
                       · simp only [Act.put, List.setIfInBounds_toArray, List.set_cons_zero, List.set_cons_succ, i64_w, i32_w]
                         rfl
                       refine pure_ (i := 12) (N := some 111) (v := ?_) (a' := ?_) #[true, true, true, true, true, true, true, true, true, true, true, true, true, false, false, false, false, false, false, false, false, false, false, false] rfl rfl (any_of HT_.out (by kernel_rfl)) (fun _ _ _ h => h) (Or.inl ⟨by rfl, ?_⟩) ?_ ?_
                       rotate_left
                       · intro w'
                         go_simp
                         with_reducible rfl
                       rotate_left
                       · simp only [Act.put, List.setIfInBounds_toArray, List.set_cons_zero, List.set_cons_succ, i64_w, i32_w]
                         rfl
                       refine pure_ (i := 14) (N := some 113) (v := ?_) (a' := ?_) #[true, true, true, true, true, true, true, true, true, true, true, true, true, false, true, false, false, false, false, false, false, false, false, false] rfl rfl (any_of HT_.out (by kernel_rfl)) (fun _ _ _ h => h) (Or.inl ⟨by rfl, ?_⟩) ?_ ?_
                       rotate_left
                       · intro w'
                         go_simp
                         with_reducible rfl
                       rotate_left
                       · simp only [Act.put, List.setIfInBounds_toArray, List.set_cons_zero, List.set_cons_succ, i64_w, i32_w]
                         rfl
                       refine pure_ (i := 16) (N := some 115) (v := ?_) (a' := ?_) #[true, true, true, true, true, true, true, true, true, true, true, true, true, false, true, false, true, false, false, false, false, false, false, false] rfl rfl (any_of HT_.out (by kernel_rfl)) (fun _ _ _ h => h) (Or.inl ⟨by rfl, ?_⟩) ?_ ?_
                       rotate_left
                       · intro w'
                         go_simp
                         with_reducible rfl
                       rotate_left
                       · simp only [Act.put, List.setIfInBounds_toArray, List.set_cons_zero, List.set_cons_succ, i64_w, i32_w]
                         rfl
                       refine take_ (i := 13) (N := some 112) (v := ?_) (a' := ?_) #[true, true, true, true, true, true, true, true, true, true, true, true, true, true, true, false, true, false, false, false, false, false, false, false] rfl rfl (take_ofW HT_.out HW_.out (by kernel_rfl)) (fun _ _ _ h => h) (Or.inl ⟨by rfl, ?_⟩) hHeld ?_ ?_
                       rotate_left
                       · rintro w' ⟨s0, s1, s2, s3, s4, s5, s6, s7, s8, s9, s10⟩
                         go_simp
                         with_reducible rfl
                       rotate_left
                       · simp only [Act.put, List.setIfInBounds_toArray, List.set_cons_zero, List.set_cons_succ, i64_w, i32_w]
                         rfl
                       refine take_ (i := 15) (N := some 114) (v := ?_) (a' := ?_) #[true, true, true, true, true, true, true, true, true, true, true, true, true, true, true, true, true, false, false, false, false, false, false, false] rfl rfl (take_ofW HT_.out HW_.out (by kernel_rfl)) (fun _ _ _ h => h) (Or.inl ⟨by rfl, ?_⟩) hHeld ?_ ?_
                       rotate_left
                       · rintro w' ⟨s0, s1, s2, s3, s4, s5, s6, s7, s8, s9, s10⟩
                         go_simp
                         with_reducible rfl
                       rotate_left
                       · simp only [Act.put, List.setIfInBounds_toArray, List.set_cons_zero, List.set_cons_succ, i64_w, i32_w]
                         rfl
                       refine take_ (i := 17) (N := some 116) (v := ?_) (a' := ?_) #[true, true, true, true, true, true, true, true, true, true, true, true, true, true, true, true, true, true, false, false, false, false, false, false] rfl rfl (take_ofW HT_.out HW_.out (by kernel_rfl)) (fun _ _ _ h => h) (Or.inl ⟨by rfl, ?_⟩) hHeld ?_ ?_
                       rotate_left
                       · rintro w' ⟨s0, s1, s2, s3, s4, s5, s6, s7, s8, s9, s10⟩
                         go_simp
                         with_reducible rfl
                       rotate_left
                       · simp only [Act.put, List.setIfInBounds_toArray, List.set_cons_zero, List.set_cons_succ, i64_w, i32_w]
                         rfl
                       refine pure_ (i := 18) (N := some 117) (v := ?_) (a' := ?_) #[true, true, true, true, true, true, true, true, true, true, true, true, true, true, true, true, true, true, true, false, false, false, false, false] rfl rfl (any_of HT_.out (by kernel_rfl)) (fun _ _ _ h => h) (Or.inl ⟨by rfl, ?_⟩) ?_ ?_
                       rotate_left
                       · intro w'
                         go_simp
                         with_reducible rfl
                       rotate_left
                       · simp only [Act.put, List.setIfInBounds_toArray, List.set_cons_zero, List.set_cons_succ, i64_w, i32_w]
                         rfl
                       refine take_ (i := 19) (N := some 118) (v := ?_) (a' := ?_) #[true, true, true, true, true, true, true, true, true, true, true, true, true, true, true, true, true, true, true, true, false, false, false, false] rfl rfl (take_ofW HT_.out HW_.out (by kernel_rfl)) (fun _ _ _ h => h) (Or.inl ⟨by rfl, ?_⟩) hHeld ?_ ?_
                       rotate_left
                       · rintro w' ⟨s0, s1, s2, s3, s4, s5, s6, s7, s8, s9, s10⟩
                         go_simp
                         with_reducible rfl
                       rotate_left
                       · simp only [Act.put, List.setIfInBounds_toArray, List.set_cons_zero, List.set_cons_succ, i64_w, i32_w]
                         rfl
                       refine pure_ (i := 20) (N := some 119) (v := ?_) (a' := ?_) #[true, true, true, true, true, true, true, true, true, true, true, true, true, true, true, true, true, true, true, true, true, false, false, false] rfl rfl (any_of HT_.out (by kernel_rfl)) (fun _ _ _ h => h) (Or.inl ⟨by rfl, ?_⟩) ?_ ?_
                       rotate_left
                       · intro w'
                         go_simp
                         with_reducible rfl
                       rotate_left
                       · simp only [Act.put, List.setIfInBounds_toArray, List.set_cons_zero, List.set_cons_succ, i64_w, i32_w]
                         rfl
                       refine pure_ (i := 21) (N := some 120) (v := ?_) (a' := ?_) #[true, true, true, true, true, true, true, true, true, true, true, true, true, true, true, true, true, true, true, true, true, true, false, false] rfl rfl (any_of HT_.out (by kernel_rfl)) (fun _ _ _ h => h) (Or.inl ⟨by rfl, ?_⟩) ?_ ?_
                       rotate_left
                       · intro w'
                         go_simp
                         with_reducible rfl
                       rotate_left
                       · simp only [Act.put, List.setIfInBounds_toArray, List.set_cons_zero, List.set_cons_succ, i64_w, i32_w]
                         rfl
                       refine pure_ (i := 22) (N := some 121) (v := ?_) (a' := ?_) #[true, true, true, true, true, true, true, true, true, true, true, true, true, true, true, true, true, true, true, true, true, true, true, false] rfl rfl (any_of HT_.out (by kernel_rfl)) (fun _ _ _ h => h) (Or.inl ⟨by rfl, ?_⟩) ?_ ?_
                       rotate_left
                       · intro w'
                         go_simp
                         with_reducible rfl
                       rotate_left
                       · simp only [Act.put, List.setIfInBounds_toArray, List.set_cons_zero, List.set_cons_succ, i64_w, i32_w]
                         rfl
                       refine pure_ (i := 23) (N := some 2) (v := ?_) (a' := ?_) #[true, true, true, true, true, true, true, true, true, true, true, true, true, true, true, true, true, true, true, true, true, true, true, true] rfl rfl (any_of HT_.out (by kernel_rfl)) (fun _ _ _ h => h) (Or.inl ⟨by rfl, ?_⟩) ?_ ?_
                       rotate_left
                       · intro w'
                         go_simp
                         with_reducible rfl
                       rotate_left
                       · simp only [Act.put, List.setIfInBounds_toArray, List.set_cons_zero, List.set_cons_succ, i64_w, i32_w]
                         rfl
                       refine done_ (done_of HT_.out (by kernel_rfl)) ?_
                       try go_wp2
                       go_ret
                       exact ⟨by first | rfl | (simp [errW_none, errW_some] <;> rfl) | (simp [*, errW_none, errW_some] <;> rfl), by repeat (first | (with_reducible first | exact HB.out | apply below_alloc | apply pw_below_drewN | apply below_drew1 | refine below_set ?_ GE108.out | refine below_set ?_ GE111.out | refine below_set ?_ GE134.out) | exact HB.out)⟩
                     · rw [if_neg c98] at H
                       exact absurd H (by simp)
                   · rw [if_neg c97] at H
                     exact absurd H (by simp)
                 · rw [if_neg c96] at H
                   exact absurd H (by simp)
             · rw [if_neg c87] at H
               have c87b0 : decide (t107 < (t131.length : Int)) = false := decide_eq_false c87
               clear c87
               by_cases c108 : (x6_1.length : Int) = 0
               · rw [if_pos c108] at H
                 have c108b0 : ((x6_1.length : Int) == 0) = true := beq_iff_eq.mpr c108
                 have c108b1 : ((x6_1.length : Int) != 0) = false := bne_eq_false_iff_eq.mpr c108
                 clear c108
                 obtain rfl := Option.some.inj H
                 have hnb109 := NB111_108.out
                 have hnc109 := NB108_111.out
                 have hnb110 := NB111_134.out
                 have hnc110 := NB134_111.out
                 have hcz111_0 : w79.cell? ⟨gb111, 0, none⟩ = some (.int .i64 t109) := (blk_cell BK111.out 0).trans rfl
                 have hcz111_1 : w79.cell? ⟨gb111, 1, none⟩ = some (.int .i64 t110) := (blk_cell BK111.out 1).trans rfl
                 have hfz111_0 := blk_frozen BK111.out 0
                 have hfz111_1 := blk_frozen BK111.out 1
                 have hnb112 := NB134_108.out
                 have hnc112 := NB108_134.out
                 have hcz113_0 : w79.cell? ⟨gb134, 0, none⟩ = some (.int .i64 0) := (blk_cell BK134.out 0).trans rfl
                 have hcz113_1 : w79.cell? ⟨gb134, 1, none⟩ = some (.slice none 0 0) := (blk_cell BK134.out 1).trans rfl
                 have hfz113_0 := blk_frozen BK134.out 0
                 have hfz113_1 := blk_frozen BK134.out 1
                 have hcz114_0 : w79.cell? ⟨gb108, 0, none⟩ = some (.int .i64 t105) := (blk_cell BK108.out 0).trans rfl
                 have hcz114_1 : w79.cell? ⟨gb108, 1, none⟩ = some (.bool true) := (blk_cell BK108.out 1).trans rfl
                 have hcz114_2 : w79.cell? ⟨gb108, 2, none⟩ = some (.int .i64 t107) := (blk_cell BK108.out 2).trans rfl
                 have hfz114_0 := blk_frozen BK108.out 0
                 have hfz114_1 := blk_frozen BK108.out 1
                 have hfz114_2 := blk_frozen BK108.out 2
                 try go_wp2
                 have n0_ : Aside0 (Kd.R (Kd.int .u8) 5 ((w79.setCell ⟨gb134, 0, none⟩ (.int .i64 t130)).setCell ⟨gb134, 1, none⟩ (.slice Ao83 t131.length co83)) w.heap.size (fun _ => True) (.slice Ao11 t102.length co11) t102) := ⟨by (with_reducible repeat (first | apply Kd.R_alloc | apply Kd.R_drewN | apply Kd.R_drew));exact Kd.R_mono (Kd.R_far (p := ⟨gb134, 1, none⟩) (Kd.R_far (p := ⟨gb134, 0, none⟩) (Kd.R_types HO_3.out BK134.out (by decide)) (fun _ hk => hk.2) (.int .i64 t130)) (fun _ hk => hk.2) (.slice Ao83 t131.length co83)) (fun _ hk => trivial)⟩
                 have n1_ : Aside0 (Kd.R k46 46 ((w79.setCell ⟨gb134, 0, none⟩ (.int .i64 t130)).setCell ⟨gb134, 1, none⟩ (.slice Ao83 t131.length co83)) w.heap.size (fun k_ => some k_ ≠ (.slice Ao83 t131.length co83 : Value).ownBlock) u6 x6_1) := ⟨by (with_reducible repeat (first | apply Kd.R_alloc | apply Kd.R_drewN | apply Kd.R_drew));exact Kd.R_mono (Kd.R_far (p := ⟨gb134, 1, none⟩) (Kd.R_far (p := ⟨gb134, 0, none⟩) (Kd.R_types HO_6.out BK134.out (by decide)) (fun _ hk => hk.2) (.int .i64 t130)) (fun _ hk => hk.2) (.slice Ao83 t131.length co83)) (fun _ hk => hk.1.2)⟩
                 have n2_ : Aside0 (Kd.R k46 46 ((w79.setCell ⟨gb134, 0, none⟩ (.int .i64 t130)).setCell ⟨gb134, 1, none⟩ (.slice Ao83 t131.length co83)) w.heap.size (fun k_ => some k_ ≠ (u6 : Value).ownBlock) (.slice Ao83 t131.length co83) t131) := ⟨by (with_reducible repeat (first | apply Kd.R_alloc | apply Kd.R_drewN | apply Kd.R_drew));exact Kd.R_mono (Kd.R_far (p := ⟨gb134, 1, none⟩) (Kd.R_far (p := ⟨gb134, 0, none⟩) (Kd.R_types HO133.out BK134.out (by decide)) (fun _ hk => hk.2) (.int .i64 t130)) (fun _ hk => hk.2) (.slice Ao83 t131.length co83)) (fun _ hk => hk.1.2)⟩
                 have n3_ : Aside0 (((w79.setCell ⟨gb134, 0, none⟩ (.int .i64 t130)).setCell ⟨gb134, 1, none⟩ (.slice Ao83 t131.length co83)).heap[gb108]? = some (.cells #[.int .i64 t105, .bool true, .int .i64 t107] 25 (0, 0))) := ⟨by (with_reducible repeat (first | refine blk_drewN ?_ _ | refine blk_drew ?_ | refine blk_alloc ?_ _));refine blk_far ?_ NB108_134.out _;(with_reducible repeat (first | refine blk_drewN ?_ _ | refine blk_drew ?_ | refine blk_alloc ?_ _));refine blk_far ?_ NB108_134.out _;(with_reducible repeat (first | refine blk_drewN ?_ _ | refine blk_drew ?_ | refine blk_alloc ?_ _));exact BK108.out⟩
                 have n4_ : Aside0 (((w79.setCell ⟨gb134, 0, none⟩ (.int .i64 t130)).setCell ⟨gb134, 1, none⟩ (.slice Ao83 t131.length co83)).heap[gb111]? = some (.cells #[.int .i64 t109, .int .i64 t110] 30 (0, 0))) := ⟨by (with_reducible repeat (first | refine blk_drewN ?_ _ | refine blk_drew ?_ | refine blk_alloc ?_ _));refine blk_far ?_ NB111_134.out _;(with_reducible repeat (first | refine blk_drewN ?_ _ | refine blk_drew ?_ | refine blk_alloc ?_ _));refine blk_far ?_ NB111_134.out _;(with_reducible repeat (first | refine blk_drewN ?_ _ | refine blk_drew ?_ | refine blk_alloc ?_ _));exact BK111.out⟩
                 have n5_ : Aside0 (((w79.setCell ⟨gb134, 0, none⟩ (.int .i64 t130)).setCell ⟨gb134, 1, none⟩ (.slice Ao83 t131.length co83)).heap[gb134]? = some (.cells #[.int .i64 t130, .slice Ao83 t131.length co83] 40 (0, 0))) := ⟨by (with_reducible repeat (first | refine blk_drewN ?_ _ | refine blk_drew ?_ | refine blk_alloc ?_ _));refine blk_put (cs := #[.int .i64 t130, .slice none 0 0]) ?_ 1 _ rfl;(with_reducible repeat (first | refine blk_drewN ?_ _ | refine blk_drew ?_ | refine blk_alloc ?_ _));refine blk_put (cs := #[.int .i64 0, .slice none 0 0]) ?_ 0 _ rfl;(with_reducible repeat (first | refine blk_drewN ?_ _ | refine blk_drew ?_ | refine blk_alloc ?_ _));exact BK134.out⟩
                 have n6_ : Aside0 (Below w.heap.size w ((w79.setCell ⟨gb134, 0, none⟩ (.int .i64 t130)).setCell ⟨gb134, 1, none⟩ (.slice Ao83 t131.length co83))) := ⟨by repeat (first | (with_reducible first | exact HB.out | apply below_alloc | apply pw_below_drewN | apply below_drew1 | refine below_set ?_ GE108.out | refine below_set ?_ GE111.out | refine below_set ?_ GE134.out) | exact HB.out)⟩
                 (try clear HO_3)
                 (try clear HO_6)
                 (try clear HO133)
                 (try clear BK108)
                 (try clear BK111)
                 (try clear BK134)
                 (try clear HB)
                 generalize ((w79.setCell ⟨gb134, 0, none⟩ (.int .i64 t130)).setCell ⟨gb134, 1, none⟩ (.slice Ao83 t131.length co83)) = w115 at n0_ n1_ n2_ n3_ n4_ n5_ n6_ ⊢
                 have HO_3 := n0_
                 have HO_6 := n1_
                 have HO133 := n2_
                 have BK108 := n3_
                 have BK111 := n4_
                 have BK134 := n5_
                 have HB := n6_
                 clear n0_ n1_ n2_ n3_ n4_ n5_ n6_
                 have n0_ := Aside0.mk (Kd.R_drew HO_3.out)
                 have n1_ := Aside0.mk (Kd.R_drew HO_6.out)
                 have n2_ := Aside0.mk (Kd.R_drew HO133.out)
                 have n3_ := Aside0.mk (blk_drew BK108.out)
                 have n4_ := Aside0.mk (blk_drew BK111.out)
                 have n5_ := Aside0.mk (blk_drew BK134.out)
                 have n6_ := Aside0.mk (below_drew1 HB.out)
                 clear HO_3
                 clear HO_6
                 clear HO133
                 clear BK108
                 clear BK111
                 clear BK134
                 clear HB
                 have HO_3 := n0_
                 have HO_6 := n1_
                 have HO133 := n2_
                 have BK108 := n3_
                 have BK111 := n4_
                 have BK134 := n5_
                 have HB := n6_
                 clear n0_ n1_ n2_ n3_ n4_ n5_ n6_
                 obtain ⟨Ao117, co117, eo117⟩ := Kd.R_slice HO_6.out
                 (first | subst eo117 | (injection eo117 with f1_ f2_ f3_;have f4_ := f1_.symm;have f5_ := f3_.symm;clear f1_ f2_ f3_;subst f4_;subst f5_))
                 refine start_ (n := 24) (S := fun w' => True) (ds := []) #[false, false, false, false, false, false, false, false, false, false, false, false, false, false, false, false, false, false, false, false, false, false, false, false] (by kernel_rfl) rfl rfl trivial (fun hHeld => ?_);refine with_tabW laws_FnRows.tab19 laws_FnRows.bits19 (fun HT_ HW_ => ?_)
                 generalize w115.drew = w116 at HO_3 HO_6 HO133 BK108 BK111 BK134 HB hHeld ⊢
                 refine pure_ (i := 0) (N := some 99) (v := ?_) (a' := ?_) #[true, false, false, false, false, false, false, false, false, false, false, false, false, false, false, false, false, false, false, false, false, false, false, false] rfl rfl (any_of HT_.out (by kernel_rfl)) (fun _ _ _ h => h) (Or.inl ⟨by rfl, ?_⟩) ?_ ?_
                 rotate_left
                 · intro w'
                   go_simp
                   with_reducible rfl
                 rotate_left
                 · simp only [Act.put, List.setIfInBounds_toArray, List.set_cons_zero, List.set_cons_succ, i64_w, i32_w]
                   rfl
                 refine pure_ (i := 1) (N := some 100) (v := ?_) (a' := ?_) #[true, true, false, false, false, false, false, false, false, false, false, false, false, false, false, false, false, false, false, false, false, false, false, false] rfl rfl (any_of HT_.out (by kernel_rfl)) (fun _ _ _ h => h) (Or.inl ⟨by rfl, ?_⟩) ?_ ?_
                 rotate_left
                 · intro w'
                   go_simp
                   with_reducible rfl
                 rotate_left
                 · simp only [Act.put, List.setIfInBounds_toArray, List.set_cons_zero, List.set_cons_succ, i64_w, i32_w]
                   rfl
                 refine pure_ (i := 2) (N := some 101) (v := ?_) (a' := ?_) #[true, true, true, false, false, false, false, false, false, false, false, false, false, false, false, false, false, false, false, false, false, false, false, false] rfl rfl (any_of HT_.out (by kernel_rfl)) (fun _ _ _ h => h) (Or.inl ⟨by rfl, ?_⟩) ?_ ?_
                 rotate_left
                 · intro w'
                   go_simp
                   with_reducible rfl
                 rotate_left
                 · simp only [Act.put, List.setIfInBounds_toArray, List.set_cons_zero, List.set_cons_succ, i64_w, i32_w]
                   rfl
                 refine pure_ (i := 3) (N := some 102) (v := ?_) (a' := ?_) #[true, true, true, true, false, false, false, false, false, false, false, false, false, false, false, false, false, false, false, false, false, false, false, false] rfl rfl (any_of HT_.out (by kernel_rfl)) (fun _ _ _ h => h) (Or.inl ⟨by rfl, ?_⟩) ?_ ?_
                 rotate_left
                 · intro w'
                   go_simp
                   with_reducible rfl
                 rotate_left
                 · simp only [Act.put, List.setIfInBounds_toArray, List.set_cons_zero, List.set_cons_succ, i64_w, i32_w]
                   rfl
                 refine pure_ (i := 4) (N := some 103) (v := undef) (a' := ?_) #[true, true, true, true, true, false, false, false, false, false, false, false, false, false, false, false, false, false, false, false, false, false, false, false] rfl rfl (any_of HT_.out (by kernel_rfl)) (fun _ _ _ h => h) (Or.inr ⟨by rfl, rfl⟩) ?_ ?_
                 rotate_left
                 · simp only [Act.put, List.setIfInBounds_toArray, List.set_cons_zero, List.set_cons_succ, i64_w, i32_w]
                   rfl
                 refine pure_ (i := 5) (N := some 104) (v := undef) (a' := ?_) #[true, true, true, true, true, true, false, false, false, false, false, false, false, false, false, false, false, false, false, false, false, false, false, false] rfl rfl (any_of HT_.out (by kernel_rfl)) (fun _ _ _ h => h) (Or.inr ⟨by rfl, rfl⟩) ?_ ?_
                 rotate_left
                 · simp only [Act.put, List.setIfInBounds_toArray, List.set_cons_zero, List.set_cons_succ, i64_w, i32_w]
                   rfl
                 refine pure_ (i := 6) (N := some 105) (v := undef) (a' := ?_) #[true, true, true, true, true, true, true, false, false, false, false, false, false, false, false, false, false, false, false, false, false, false, false, false] rfl rfl (any_of HT_.out (by kernel_rfl)) (fun _ _ _ h => h) (Or.inr ⟨by rfl, rfl⟩) ?_ ?_
                 rotate_left
                 · simp only [Act.put, List.setIfInBounds_toArray, List.set_cons_zero, List.set_cons_succ, i64_w, i32_w]
                   rfl
                 refine pure_ (i := 7) (N := some 106) (v := undef) (a' := ?_) #[true, true, true, true, true, true, true, true, false, false, false, false, false, false, false, false, false, false, false, false, false, false, false, false] rfl rfl (any_of HT_.out (by kernel_rfl)) (fun _ _ _ h => h) (Or.inr ⟨by rfl, rfl⟩) ?_ ?_
                 rotate_left
                 · simp only [Act.put, List.setIfInBounds_toArray, List.set_cons_zero, List.set_cons_succ, i64_w, i32_w]
                   rfl
                 refine pure_ (i := 8) (N := some 107) (v := undef) (a' := ?_) #[true, true, true, true, true, true, true, true, true, false, false, false, false, false, false, false, false, false, false, false, false, false, false, false] rfl rfl (any_of HT_.out (by kernel_rfl)) (fun _ _ _ h => h) (Or.inr ⟨by rfl, rfl⟩) ?_ ?_
                 rotate_left
                 · simp only [Act.put, List.setIfInBounds_toArray, List.set_cons_zero, List.set_cons_succ, i64_w, i32_w]
                   rfl
                 refine pure_ (i := 9) (N := some 108) (v := undef) (a' := ?_) #[true, true, true, true, true, true, true, true, true, true, false, false, false, false, false, false, false, false, false, false, false, false, false, false] rfl rfl (any_of HT_.out (by kernel_rfl)) (fun _ _ _ h => h) (Or.inr ⟨by rfl, rfl⟩) ?_ ?_
                 rotate_left
                 · simp only [Act.put, List.setIfInBounds_toArray, List.set_cons_zero, List.set_cons_succ, i64_w, i32_w]
                   rfl
                 refine pure_ (i := 10) (N := some 109) (v := undef) (a' := ?_) #[true, true, true, true, true, true, true, true, true, true, true, false, false, false, false, false, false, false, false, false, false, false, false, false] rfl rfl (any_of HT_.out (by kernel_rfl)) (fun _ _ _ h => h) (Or.inr ⟨by rfl, rfl⟩) ?_ ?_
                 rotate_left
                 · simp only [Act.put, List.setIfInBounds_toArray, List.set_cons_zero, List.set_cons_succ, i64_w, i32_w]
                   rfl
                 refine pure_ (i := 11) (N := some 110) (v := undef) (a' := ?_) #[true, true, true, true, true, true, true, true, true, true, true, true, false, false, false, false, false, false, false, false, false, false, false, false] rfl rfl (any_of HT_.out (by kernel_rfl)) (fun _ _ _ h => h) (Or.inr ⟨by rfl, rfl⟩) ?_ ?_
                 rotate_left
                 · simp only [Act.put, List.setIfInBounds_toArray, List.set_cons_zero, List.set_cons_succ, i64_w, i32_w]
                   rfl
                 refine pure_ (i := 12) (N := some 111) (v := undef) (a' := ?_) #[true, true, true, true, true, true, true, true, true, true, true, true, true, false, false, false, false, false, false, false, false, false, false, false] rfl rfl (any_of HT_.out (by kernel_rfl)) (fun _ _ _ h => h) (Or.inr ⟨by rfl, rfl⟩) ?_ ?_
                 rotate_left
                 · simp only [Act.put, List.setIfInBounds_toArray, List.set_cons_zero, List.set_cons_succ, i64_w, i32_w]
                   rfl
                 refine pure_ (i := 13) (N := some 112) (v := undef) (a' := ?_) #[true, true, true, true, true, true, true, true, true, true, true, true, true, true, false, false, false, false, false, false, false, false, false, false] rfl rfl (any_of HT_.out (by kernel_rfl)) (fun _ _ _ h => h) (Or.inr ⟨by rfl, rfl⟩) ?_ ?_
                 rotate_left
                 · simp only [Act.put, List.setIfInBounds_toArray, List.set_cons_zero, List.set_cons_succ, i64_w, i32_w]
                   rfl
                 refine pure_ (i := 14) (N := some 113) (v := undef) (a' := ?_) #[true, true, true, true, true, true, true, true, true, true, true, true, true, true, true, false, false, false, false, false, false, false, false, false] rfl rfl (any_of HT_.out (by kernel_rfl)) (fun _ _ _ h => h) (Or.inr ⟨by rfl, rfl⟩) ?_ ?_
                 rotate_left
                 · simp only [Act.put, List.setIfInBounds_toArray, List.set_cons_zero, List.set_cons_succ, i64_w, i32_w]
                   rfl
                 refine pure_ (i := 15) (N := some 114) (v := undef) (a' := ?_) #[true, true, true, true, true, true, true, true, true, true, true, true, true, true, true, true, false, false, false, false, false, false, false, false] rfl rfl (any_of HT_.out (by kernel_rfl)) (fun _ _ _ h => h) (Or.inr ⟨by rfl, rfl⟩) ?_ ?_
                 rotate_left
                 · simp only [Act.put, List.setIfInBounds_toArray, List.set_cons_zero, List.set_cons_succ, i64_w, i32_w]
                   rfl
                 refine pure_ (i := 16) (N := some 115) (v := undef) (a' := ?_) #[true, true, true, true, true, true, true, true, true, true, true, true, true, true, true, true, true, false, false, false, false, false, false, false] rfl rfl (any_of HT_.out (by kernel_rfl)) (fun _ _ _ h => h) (Or.inr ⟨by rfl, rfl⟩) ?_ ?_
                 rotate_left
                 · simp only [Act.put, List.setIfInBounds_toArray, List.set_cons_zero, List.set_cons_succ, i64_w, i32_w]
                   rfl
                 refine pure_ (i := 17) (N := some 116) (v := undef) (a' := ?_) #[true, true, true, true, true, true, true, true, true, true, true, true, true, true, true, true, true, true, false, false, false, false, false, false] rfl rfl (any_of HT_.out (by kernel_rfl)) (fun _ _ _ h => h) (Or.inr ⟨by rfl, rfl⟩) ?_ ?_
                 rotate_left
                 · simp only [Act.put, List.setIfInBounds_toArray, List.set_cons_zero, List.set_cons_succ, i64_w, i32_w]
                   rfl
                 refine pure_ (i := 18) (N := some 117) (v := undef) (a' := ?_) #[true, true, true, true, true, true, true, true, true, true, true, true, true, true, true, true, true, true, true, false, false, false, false, false] rfl rfl (any_of HT_.out (by kernel_rfl)) (fun _ _ _ h => h) (Or.inr ⟨by rfl, rfl⟩) ?_ ?_
                 rotate_left
                 · simp only [Act.put, List.setIfInBounds_toArray, List.set_cons_zero, List.set_cons_succ, i64_w, i32_w]
                   rfl
                 refine pure_ (i := 19) (N := some 118) (v := undef) (a' := ?_) #[true, true, true, true, true, true, true, true, true, true, true, true, true, true, true, true, true, true, true, true, false, false, false, false] rfl rfl (any_of HT_.out (by kernel_rfl)) (fun _ _ _ h => h) (Or.inr ⟨by rfl, rfl⟩) ?_ ?_
                 rotate_left
                 · simp only [Act.put, List.setIfInBounds_toArray, List.set_cons_zero, List.set_cons_succ, i64_w, i32_w]
                   rfl
                 refine pure_ (i := 20) (N := some 119) (v := undef) (a' := ?_) #[true, true, true, true, true, true, true, true, true, true, true, true, true, true, true, true, true, true, true, true, true, false, false, false] rfl rfl (any_of HT_.out (by kernel_rfl)) (fun _ _ _ h => h) (Or.inr ⟨by rfl, rfl⟩) ?_ ?_
                 rotate_left
                 · simp only [Act.put, List.setIfInBounds_toArray, List.set_cons_zero, List.set_cons_succ, i64_w, i32_w]
                   rfl
                 refine pure_ (i := 21) (N := some 120) (v := undef) (a' := ?_) #[true, true, true, true, true, true, true, true, true, true, true, true, true, true, true, true, true, true, true, true, true, true, false, false] rfl rfl (any_of HT_.out (by kernel_rfl)) (fun _ _ _ h => h) (Or.inr ⟨by rfl, rfl⟩) ?_ ?_
                 rotate_left
                 · simp only [Act.put, List.setIfInBounds_toArray, List.set_cons_zero, List.set_cons_succ, i64_w, i32_w]
                   rfl
                 refine pure_ (i := 22) (N := some 121) (v := ?_) (a' := ?_) #[true, true, true, true, true, true, true, true, true, true, true, true, true, true, true, true, true, true, true, true, true, true, true, false] rfl rfl (any_of HT_.out (by kernel_rfl)) (fun _ _ _ h => h) (Or.inl ⟨by rfl, ?_⟩) ?_ ?_
                 rotate_left
                 · intro w'
                   go_simp
                   with_reducible rfl
                 rotate_left
                 · simp only [Act.put, List.setIfInBounds_toArray, List.set_cons_zero, List.set_cons_succ, i64_w, i32_w]
                   rfl
                 refine pure_ (i := 23) (N := some 2) (v := ?_) (a' := ?_) #[true, true, true, true, true, true, true, true, true, true, true, true, true, true, true, true, true, true, true, true, true, true, true, true] rfl rfl (any_of HT_.out (by kernel_rfl)) (fun _ _ _ h => h) (Or.inl ⟨by rfl, ?_⟩) ?_ ?_
                 rotate_left
                 · intro w'
                   go_simp
                   with_reducible rfl
                 rotate_left
                 · simp only [Act.put, List.setIfInBounds_toArray, List.set_cons_zero, List.set_cons_succ, i64_w, i32_w]
                   rfl
                 refine done_ (done_of HT_.out (by kernel_rfl)) ?_
                 try go_wp2
                 go_ret
                 exact ⟨by first | rfl | (simp [errW_none, errW_some] <;> rfl) | (simp [*, errW_none, errW_some] <;> rfl), by repeat (first | (with_reducible first | exact HB.out | apply below_alloc | apply pw_below_drewN | apply below_drew1 | refine below_set ?_ GE108.out | refine below_set ?_ GE111.out | refine below_set ?_ GE134.out) | exact HB.out)⟩
               · rw [if_neg c108] at H
                 have c108b0 : ((x6_1.length : Int) == 0) = false := beq_eq_false_iff_ne.mpr c108
                 have c108b1 : ((x6_1.length : Int) != 0) = true := bne_iff_ne.mpr c108
                 have c108b2 : ¬ (x6_1 = []) := fun h_ => c108 (by rw [h_];rfl)
                 obtain rfl := Option.some.inj H
                 have hnb118 := NB111_108.out
                 have hnc118 := NB108_111.out
                 have hnb119 := NB111_134.out
                 have hnc119 := NB134_111.out
                 have hcz120_0 : w79.cell? ⟨gb111, 0, none⟩ = some (.int .i64 t109) := (blk_cell BK111.out 0).trans rfl
                 have hcz120_1 : w79.cell? ⟨gb111, 1, none⟩ = some (.int .i64 t110) := (blk_cell BK111.out 1).trans rfl
                 have hfz120_0 := blk_frozen BK111.out 0
                 have hfz120_1 := blk_frozen BK111.out 1
                 have hnb121 := NB134_108.out
                 have hnc121 := NB108_134.out
                 have hcz122_0 : w79.cell? ⟨gb134, 0, none⟩ = some (.int .i64 0) := (blk_cell BK134.out 0).trans rfl
                 have hcz122_1 : w79.cell? ⟨gb134, 1, none⟩ = some (.slice none 0 0) := (blk_cell BK134.out 1).trans rfl
                 have hfz122_0 := blk_frozen BK134.out 0
                 have hfz122_1 := blk_frozen BK134.out 1
                 have hcz123_0 : w79.cell? ⟨gb108, 0, none⟩ = some (.int .i64 t105) := (blk_cell BK108.out 0).trans rfl
                 have hcz123_1 : w79.cell? ⟨gb108, 1, none⟩ = some (.bool true) := (blk_cell BK108.out 1).trans rfl
                 have hcz123_2 : w79.cell? ⟨gb108, 2, none⟩ = some (.int .i64 t107) := (blk_cell BK108.out 2).trans rfl
                 have hfz123_0 := blk_frozen BK108.out 0
                 have hfz123_1 := blk_frozen BK108.out 1
                 have hfz123_2 := blk_frozen BK108.out 2
                 try go_wp2
                 have n0_ : Aside0 (Kd.R (Kd.int .u8) 5 ((w79.setCell ⟨gb134, 0, none⟩ (.int .i64 t130)).setCell ⟨gb134, 1, none⟩ (.slice Ao83 t131.length co83)) w.heap.size (fun _ => True) (.slice Ao11 t102.length co11) t102) := ⟨by (with_reducible repeat (first | apply Kd.R_alloc | apply Kd.R_drewN | apply Kd.R_drew));exact Kd.R_mono (Kd.R_far (p := ⟨gb134, 1, none⟩) (Kd.R_far (p := ⟨gb134, 0, none⟩) (Kd.R_types HO_3.out BK134.out (by decide)) (fun _ hk => hk.2) (.int .i64 t130)) (fun _ hk => hk.2) (.slice Ao83 t131.length co83)) (fun _ hk => trivial)⟩
                 have n1_ : Aside0 (Kd.R k46 46 ((w79.setCell ⟨gb134, 0, none⟩ (.int .i64 t130)).setCell ⟨gb134, 1, none⟩ (.slice Ao83 t131.length co83)) w.heap.size (fun k_ => some k_ ≠ (.slice Ao83 t131.length co83 : Value).ownBlock) u6 x6_1) := ⟨by (with_reducible repeat (first | apply Kd.R_alloc | apply Kd.R_drewN | apply Kd.R_drew));exact Kd.R_mono (Kd.R_far (p := ⟨gb134, 1, none⟩) (Kd.R_far (p := ⟨gb134, 0, none⟩) (Kd.R_types HO_6.out BK134.out (by decide)) (fun _ hk => hk.2) (.int .i64 t130)) (fun _ hk => hk.2) (.slice Ao83 t131.length co83)) (fun _ hk => hk.1.2)⟩
                 have n2_ : Aside0 (Kd.R k46 46 ((w79.setCell ⟨gb134, 0, none⟩ (.int .i64 t130)).setCell ⟨gb134, 1, none⟩ (.slice Ao83 t131.length co83)) w.heap.size (fun k_ => some k_ ≠ (u6 : Value).ownBlock) (.slice Ao83 t131.length co83) t131) := ⟨by (with_reducible repeat (first | apply Kd.R_alloc | apply Kd.R_drewN | apply Kd.R_drew));exact Kd.R_mono (Kd.R_far (p := ⟨gb134, 1, none⟩) (Kd.R_far (p := ⟨gb134, 0, none⟩) (Kd.R_types HO133.out BK134.out (by decide)) (fun _ hk => hk.2) (.int .i64 t130)) (fun _ hk => hk.2) (.slice Ao83 t131.length co83)) (fun _ hk => hk.1.2)⟩
                 have n3_ : Aside0 (((w79.setCell ⟨gb134, 0, none⟩ (.int .i64 t130)).setCell ⟨gb134, 1, none⟩ (.slice Ao83 t131.length co83)).heap[gb108]? = some (.cells #[.int .i64 t105, .bool true, .int .i64 t107] 25 (0, 0))) := ⟨by (with_reducible repeat (first | refine blk_drewN ?_ _ | refine blk_drew ?_ | refine blk_alloc ?_ _));refine blk_far ?_ NB108_134.out _;(with_reducible repeat (first | refine blk_drewN ?_ _ | refine blk_drew ?_ | refine blk_alloc ?_ _));refine blk_far ?_ NB108_134.out _;(with_reducible repeat (first | refine blk_drewN ?_ _ | refine blk_drew ?_ | refine blk_alloc ?_ _));exact BK108.out⟩
                 have n4_ : Aside0 (((w79.setCell ⟨gb134, 0, none⟩ (.int .i64 t130)).setCell ⟨gb134, 1, none⟩ (.slice Ao83 t131.length co83)).heap[gb111]? = some (.cells #[.int .i64 t109, .int .i64 t110] 30 (0, 0))) := ⟨by (with_reducible repeat (first | refine blk_drewN ?_ _ | refine blk_drew ?_ | refine blk_alloc ?_ _));refine blk_far ?_ NB111_134.out _;(with_reducible repeat (first | refine blk_drewN ?_ _ | refine blk_drew ?_ | refine blk_alloc ?_ _));refine blk_far ?_ NB111_134.out _;(with_reducible repeat (first | refine blk_drewN ?_ _ | refine blk_drew ?_ | refine blk_alloc ?_ _));exact BK111.out⟩
                 have n5_ : Aside0 (((w79.setCell ⟨gb134, 0, none⟩ (.int .i64 t130)).setCell ⟨gb134, 1, none⟩ (.slice Ao83 t131.length co83)).heap[gb134]? = some (.cells #[.int .i64 t130, .slice Ao83 t131.length co83] 40 (0, 0))) := ⟨by (with_reducible repeat (first | refine blk_drewN ?_ _ | refine blk_drew ?_ | refine blk_alloc ?_ _));refine blk_put (cs := #[.int .i64 t130, .slice none 0 0]) ?_ 1 _ rfl;(with_reducible repeat (first | refine blk_drewN ?_ _ | refine blk_drew ?_ | refine blk_alloc ?_ _));refine blk_put (cs := #[.int .i64 0, .slice none 0 0]) ?_ 0 _ rfl;(with_reducible repeat (first | refine blk_drewN ?_ _ | refine blk_drew ?_ | refine blk_alloc ?_ _));exact BK134.out⟩
                 have n6_ : Aside0 (Below w.heap.size w ((w79.setCell ⟨gb134, 0, none⟩ (.int .i64 t130)).setCell ⟨gb134, 1, none⟩ (.slice Ao83 t131.length co83))) := ⟨by repeat (first | (with_reducible first | exact HB.out | apply below_alloc | apply pw_below_drewN | apply below_drew1 | refine below_set ?_ GE108.out | refine below_set ?_ GE111.out | refine below_set ?_ GE134.out) | exact HB.out)⟩
                 (try clear HO_3)
                 (try clear HO_6)
                 (try clear HO133)
                 (try clear BK108)
                 (try clear BK111)
                 (try clear BK134)
                 (try clear HB)
                 generalize ((w79.setCell ⟨gb134, 0, none⟩ (.int .i64 t130)).setCell ⟨gb134, 1, none⟩ (.slice Ao83 t131.length co83)) = w124 at n0_ n1_ n2_ n3_ n4_ n5_ n6_ ⊢
                 have HO_3 := n0_
                 have HO_6 := n1_
                 have HO133 := n2_
                 have BK108 := n3_
                 have BK111 := n4_
                 have BK134 := n5_
                 have HB := n6_
                 clear n0_ n1_ n2_ n3_ n4_ n5_ n6_
                 have n0_ := Aside0.mk (Kd.R_drew HO_3.out)
                 have n1_ := Aside0.mk (Kd.R_drew HO_6.out)
                 have n2_ := Aside0.mk (Kd.R_drew HO133.out)
                 have n3_ := Aside0.mk (blk_drew BK108.out)
                 have n4_ := Aside0.mk (blk_drew BK111.out)
                 have n5_ := Aside0.mk (blk_drew BK134.out)
                 have n6_ := Aside0.mk (below_drew1 HB.out)
                 clear HO_3
                 clear HO_6
                 clear HO133
                 clear BK108
                 clear BK111
                 clear BK134
                 clear HB
                 have HO_3 := n0_
                 have HO_6 := n1_
                 have HO133 := n2_
                 have BK108 := n3_
                 have BK111 := n4_
                 have BK134 := n5_
                 have HB := n6_
                 clear n0_ n1_ n2_ n3_ n4_ n5_ n6_
                 obtain ⟨Ao126, co126, eo126⟩ := Kd.R_slice HO_6.out
                 (first | subst eo126 | (injection eo126 with f1_ f2_ f3_;have f4_ := f1_.symm;have f5_ := f3_.symm;clear f1_ f2_ f3_;subst f4_;subst f5_))
                 refine start_ (n := 24) (S := fun w' => w'.cell? ⟨gb134, 0, none⟩ = some (.int .i64 t130) ∧ w'.cell? ⟨gb134, 1, none⟩ = some (.slice Ao83 t131.length co83) ∧ w'.cell? ⟨gb108, 0, none⟩ = some (.int .i64 t105) ∧ w'.cell? ⟨gb108, 1, none⟩ = some (.bool true) ∧ w'.cell? ⟨gb108, 2, none⟩ = some (.int .i64 t107)) (ds := []) #[false, false, false, false, false, false, false, false, false, false, false, false, false, false, false, false, false, false, false, false, false, false, false, false] (by kernel_rfl) rfl rfl ⟨(blk_cell BK134.out 0).trans rfl, (blk_cell BK134.out 1).trans rfl, (blk_cell BK108.out 0).trans rfl, (blk_cell BK108.out 1).trans rfl, (blk_cell BK108.out 2).trans rfl⟩ (fun hHeld => ?_);refine with_tabW laws_FnRows.tab19 laws_FnRows.bits19 (fun HT_ HW_ => ?_)
                 generalize w124.drew = w125 at HO_3 HO_6 HO133 BK108 BK111 BK134 HB hHeld ⊢
                 refine pure_ (i := 0) (N := some 99) (v := ?_) (a' := ?_) #[true, false, false, false, false, false, false, false, false, false, false, false, false, false, false, false, false, false, false, false, false, false, false, false] rfl rfl (any_of HT_.out (by kernel_rfl)) (fun _ _ _ h => h) (Or.inl ⟨by rfl, ?_⟩) ?_ ?_
                 rotate_left
                 · intro w'
                   go_simp
                   with_reducible rfl
                 rotate_left
                 · simp only [Act.put, List.setIfInBounds_toArray, List.set_cons_zero, List.set_cons_succ, i64_w, i32_w]
                   rfl
                 refine pure_ (i := 1) (N := some 100) (v := ?_) (a' := ?_) #[true, true, false, false, false, false, false, false, false, false, false, false, false, false, false, false, false, false, false, false, false, false, false, false] rfl rfl (any_of HT_.out (by kernel_rfl)) (fun _ _ _ h => h) (Or.inl ⟨by rfl, ?_⟩) ?_ ?_
                 rotate_left
                 · intro w'
                   go_simp
                   with_reducible rfl
                 rotate_left
                 · simp only [Act.put, List.setIfInBounds_toArray, List.set_cons_zero, List.set_cons_succ, i64_w, i32_w]
                   rfl
                 refine pure_ (i := 2) (N := some 101) (v := ?_) (a' := ?_) #[true, true, true, false, false, false, false, false, false, false, false, false, false, false, false, false, false, false, false, false, false, false, false, false] rfl rfl (any_of HT_.out (by kernel_rfl)) (fun _ _ _ h => h) (Or.inl ⟨by rfl, ?_⟩) ?_ ?_
                 rotate_left
                 · intro w'
                   go_simp
                   with_reducible rfl
                 rotate_left
                 · simp only [Act.put, List.setIfInBounds_toArray, List.set_cons_zero, List.set_cons_succ, i64_w, i32_w]
                   rfl
                 refine pure_ (i := 3) (N := some 102) (v := ?_) (a' := ?_) #[true, true, true, true, false, false, false, false, false, false, false, false, false, false, false, false, false, false, false, false, false, false, false, false] rfl rfl (any_of HT_.out (by kernel_rfl)) (fun _ _ _ h => h) (Or.inl ⟨by rfl, ?_⟩) ?_ ?_
                 rotate_left
                 · intro w'
                   go_simp
                   with_reducible rfl
                 rotate_left
                 · simp only [Act.put, List.setIfInBounds_toArray, List.set_cons_zero, List.set_cons_succ, i64_w, i32_w]
                   rfl
                 refine pure_ (i := 4) (N := some 103) (v := ?_) (a' := ?_) #[true, true, true, true, true, false, false, false, false, false, false, false, false, false, false, false, false, false, false, false, false, false, false, false] rfl rfl (any_of HT_.out (by kernel_rfl)) (fun _ _ _ h => h) (Or.inl ⟨by rfl, ?_⟩) ?_ ?_
                 rotate_left
                 · intro w'
                   go_simp
                   with_reducible rfl
                 rotate_left
                 · simp only [Act.put, List.setIfInBounds_toArray, List.set_cons_zero, List.set_cons_succ, i64_w, i32_w]
                   rfl
                 refine pure_ (i := 7) (N := some 106) (v := ?_) (a' := ?_) #[true, true, true, true, true, false, false, true, false, false, false, false, false, false, false, false, false, false, false, false, false, false, false, false] rfl rfl (any_of HT_.out (by kernel_rfl)) (fun _ _ _ h => h) (Or.inl ⟨by rfl, ?_⟩) ?_ ?_
                 rotate_left
                 · intro w'
                   go_simp
                   with_reducible rfl
                 rotate_left
                 · simp only [Act.put, List.setIfInBounds_toArray, List.set_cons_zero, List.set_cons_succ, i64_w, i32_w]
                   rfl
                 refine take_ (i := 5) (N := some 104) (v := ?_) (a' := ?_) #[true, true, true, true, true, true, false, true, false, false, false, false, false, false, false, false, false, false, false, false, false, false, false, false] rfl rfl (take_ofW HT_.out HW_.out (by kernel_rfl)) (fun _ _ _ h => h) (Or.inl ⟨by rfl, ?_⟩) hHeld ?_ ?_
                 rotate_left
                 · rintro w' ⟨s0, s1, s2, s3, s4⟩
                   go_simp
                   with_reducible rfl
                 rotate_left
                 · simp only [Act.put, List.setIfInBounds_toArray, List.set_cons_zero, List.set_cons_succ, i64_w, i32_w]
                   rfl
                 refine pure_ (i := 6) (N := some 105) (v := ?_) (a' := ?_) #[true, true, true, true, true, true, true, true, false, false, false, false, false, false, false, false, false, false, false, false, false, false, false, false] rfl rfl (any_of HT_.out (by kernel_rfl)) (fun _ _ _ h => h) (Or.inl ⟨by rfl, ?_⟩) ?_ ?_
                 rotate_left
                 · intro w'
                   go_simp
                   with_reducible rfl
                 rotate_left
                 · simp only [Act.put, List.setIfInBounds_toArray, List.set_cons_zero, List.set_cons_succ, i64_w, i32_w]
                   rfl
                 refine take_ (i := 8) (N := some 107) (v := ?_) (a' := ?_) #[true, true, true, true, true, true, true, true, true, false, false, false, false, false, false, false, false, false, false, false, false, false, false, false] rfl rfl (take_ofW HT_.out HW_.out (by kernel_rfl)) (fun _ _ _ h => h) (Or.inl ⟨by rfl, ?_⟩) hHeld ?_ ?_
                 rotate_left
                 · rintro w' ⟨s0, s1, s2, s3, s4⟩
                   go_simp
                   with_reducible rfl
                 rotate_left
                 · simp only [Act.put, List.setIfInBounds_toArray, List.set_cons_zero, List.set_cons_succ, i64_w, i32_w]
                   rfl
                 refine pure_ (i := 9) (N := some 108) (v := ?_) (a' := ?_) #[true, true, true, true, true, true, true, true, true, true, false, false, false, false, false, false, false, false, false, false, false, false, false, false] rfl rfl (any_of HT_.out (by kernel_rfl)) (fun _ _ _ h => h) (Or.inl ⟨by rfl, ?_⟩) ?_ ?_
                 rotate_left
                 · intro w'
                   go_simp
                   with_reducible rfl
                 rotate_left
                 · simp only [Act.put, List.setIfInBounds_toArray, List.set_cons_zero, List.set_cons_succ, i64_w, i32_w]
                   rfl
                 refine pure_ (i := 10) (N := some 109) (v := ?_) (a' := ?_) #[true, true, true, true, true, true, true, true, true, true, true, false, false, false, false, false, false, false, false, false, false, false, false, false] rfl rfl (any_of HT_.out (by kernel_rfl)) (fun _ _ _ h => h) (Or.inl ⟨by rfl, ?_⟩) ?_ ?_
                 rotate_left
                 · intro w'
                   go_simp
                   with_reducible rfl
                 rotate_left
                 · simp only [Act.put, List.setIfInBounds_toArray, List.set_cons_zero, List.set_cons_succ, i64_w, i32_w]
                   rfl
                 refine pure_ (i := 11) (N := some 110) (v := undef) (a' := ?_) #[true, true, true, true, true, true, true, true, true, true, true, true, false, false, false, false, false, false, false, false, false, false, false, false] rfl rfl (any_of HT_.out (by kernel_rfl)) (fun _ _ _ h => h) (Or.inr ⟨by rfl, rfl⟩) ?_ ?_
                 rotate_left
                 · simp only [Act.put, List.setIfInBounds_toArray, List.set_cons_zero, List.set_cons_succ, i64_w, i32_w]
                   rfl
                 refine pure_ (i := 12) (N := some 111) (v := undef) (a' := ?_) #[true, true, true, true, true, true, true, true, true, true, true, true, true, false, false, false, false, false, false, false, false, false, false, false] rfl rfl (any_of HT_.out (by kernel_rfl)) (fun _ _ _ h => h) (Or.inr ⟨by rfl, rfl⟩) ?_ ?_
                 rotate_left
                 · simp only [Act.put, List.setIfInBounds_toArray, List.set_cons_zero, List.set_cons_succ, i64_w, i32_w]
                   rfl
                 refine pure_ (i := 13) (N := some 112) (v := undef) (a' := ?_) #[true, true, true, true, true, true, true, true, true, true, true, true, true, true, false, false, false, false, false, false, false, false, false, false] rfl rfl (any_of HT_.out (by kernel_rfl)) (fun _ _ _ h => h) (Or.inr ⟨by rfl, rfl⟩) ?_ ?_
                 rotate_left
                 · simp only [Act.put, List.setIfInBounds_toArray, List.set_cons_zero, List.set_cons_succ, i64_w, i32_w]
                   rfl
                 refine pure_ (i := 14) (N := some 113) (v := undef) (a' := ?_) #[true, true, true, true, true, true, true, true, true, true, true, true, true, true, true, false, false, false, false, false, false, false, false, false] rfl rfl (any_of HT_.out (by kernel_rfl)) (fun _ _ _ h => h) (Or.inr ⟨by rfl, rfl⟩) ?_ ?_
                 rotate_left
                 · simp only [Act.put, List.setIfInBounds_toArray, List.set_cons_zero, List.set_cons_succ, i64_w, i32_w]
                   rfl
                 refine pure_ (i := 15) (N := some 114) (v := undef) (a' := ?_) #[true, true, true, true, true, true, true, true, true, true, true, true, true, true, true, true, false, false, false, false, false, false, false, false] rfl rfl (any_of HT_.out (by kernel_rfl)) (fun _ _ _ h => h) (Or.inr ⟨by rfl, rfl⟩) ?_ ?_
                 rotate_left
                 · simp only [Act.put, List.setIfInBounds_toArray, List.set_cons_zero, List.set_cons_succ, i64_w, i32_w]
                   rfl
                 refine pure_ (i := 16) (N := some 115) (v := undef) (a' := ?_) #[true, true, true, true, true, true, true, true, true, true, true, true, true, true, true, true, true, false, false, false, false, false, false, false] rfl rfl (any_of HT_.out (by kernel_rfl)) (fun _ _ _ h => h) (Or.inr ⟨by rfl, rfl⟩) ?_ ?_
                 rotate_left
                 · simp only [Act.put, List.setIfInBounds_toArray, List.set_cons_zero, List.set_cons_succ, i64_w, i32_w]
                   rfl
                 refine pure_ (i := 17) (N := some 116) (v := undef) (a' := ?_) #[true, true, true, true, true, true, true, true, true, true, true, true, true, true, true, true, true, true, false, false, false, false, false, false] rfl rfl (any_of HT_.out (by kernel_rfl)) (fun _ _ _ h => h) (Or.inr ⟨by rfl, rfl⟩) ?_ ?_
                 rotate_left
                 · simp only [Act.put, List.setIfInBounds_toArray, List.set_cons_zero, List.set_cons_succ, i64_w, i32_w]
                   rfl
                 refine pure_ (i := 18) (N := some 117) (v := undef) (a' := ?_) #[true, true, true, true, true, true, true, true, true, true, true, true, true, true, true, true, true, true, true, false, false, false, false, false] rfl rfl (any_of HT_.out (by kernel_rfl)) (fun _ _ _ h => h) (Or.inr ⟨by rfl, rfl⟩) ?_ ?_
                 rotate_left
                 · simp only [Act.put, List.setIfInBounds_toArray, List.set_cons_zero, List.set_cons_succ, i64_w, i32_w]
                   rfl
                 refine pure_ (i := 19) (N := some 118) (v := undef) (a' := ?_) #[true, true, true, true, true, true, true, true, true, true, true, true, true, true, true, true, true, true, true, true, false, false, false, false] rfl rfl (any_of HT_.out (by kernel_rfl)) (fun _ _ _ h => h) (Or.inr ⟨by rfl, rfl⟩) ?_ ?_
                 rotate_left
                 · simp only [Act.put, List.setIfInBounds_toArray, List.set_cons_zero, List.set_cons_succ, i64_w, i32_w]
                   rfl
                 refine pure_ (i := 20) (N := some 119) (v := undef) (a' := ?_) #[true, true, true, true, true, true, true, true, true, true, true, true, true, true, true, true, true, true, true, true, true, false, false, false] rfl rfl (any_of HT_.out (by kernel_rfl)) (fun _ _ _ h => h) (Or.inr ⟨by rfl, rfl⟩) ?_ ?_
                 rotate_left
                 · simp only [Act.put, List.setIfInBounds_toArray, List.set_cons_zero, List.set_cons_succ, i64_w, i32_w]
                   rfl
                 refine pure_ (i := 21) (N := some 120) (v := ?_) (a' := ?_) #[true, true, true, true, true, true, true, true, true, true, true, true, true, true, true, true, true, true, true, true, true, true, false, false] rfl rfl (any_of HT_.out (by kernel_rfl)) (fun _ _ _ h => h) (Or.inl ⟨by rfl, ?_⟩) ?_ ?_
                 rotate_left
                 · intro w'
                   go_simp
                   with_reducible rfl
                 rotate_left
                 · simp only [Act.put, List.setIfInBounds_toArray, List.set_cons_zero, List.set_cons_succ, i64_w, i32_w]
                   rfl
                 refine pure_ (i := 22) (N := some 121) (v := ?_) (a' := ?_) #[true, true, true, true, true, true, true, true, true, true, true, true, true, true, true, true, true, true, true, true, true, true, true, false] rfl rfl (any_of HT_.out (by kernel_rfl)) (fun _ _ _ h => h) (Or.inl ⟨by rfl, ?_⟩) ?_ ?_
                 rotate_left
                 · intro w'
                   go_simp
                   with_reducible rfl
                 rotate_left
                 · simp only [Act.put, List.setIfInBounds_toArray, List.set_cons_zero, List.set_cons_succ, i64_w, i32_w]
                   rfl
                 refine pure_ (i := 23) (N := some 2) (v := ?_) (a' := ?_) #[true, true, true, true, true, true, true, true, true, true, true, true, true, true, true, true, true, true, true, true, true, true, true, true] rfl rfl (any_of HT_.out (by kernel_rfl)) (fun _ _ _ h => h) (Or.inl ⟨by rfl, ?_⟩) ?_ ?_
                 rotate_left
                 · intro w'
                   go_simp
                   with_reducible rfl
                 rotate_left
                 · simp only [Act.put, List.setIfInBounds_toArray, List.set_cons_zero, List.set_cons_succ, i64_w, i32_w]
                   rfl
                 refine done_ (done_of HT_.out (by kernel_rfl)) ?_
                 try go_wp2
                 go_ret
                 exact ⟨by first | rfl | (simp [errW_none, errW_some] <;> rfl) | (simp [*, errW_none, errW_some] <;> rfl), by repeat (first | (with_reducible first | exact HB.out | apply below_alloc | apply pw_below_drewN | apply below_drew1 | refine below_set ?_ GE108.out | refine below_set ?_ GE111.out | refine below_set ?_ GE134.out) | exact HB.out)⟩
           · rw [if_neg c86] at H
             have c86b0 : (t110 == 1) = false := beq_eq_false_iff_ne.mpr c86
             have c86b1 : (t110 != 1) = true := bne_iff_ne.mpr c86
             (first | rw [c86b0] | (simp only [i64_w, i32_w];rw [c86b0]) | skip)
             obtain rfl := Option.some.inj H
             have hnb127 := NB111_108.out
             have hnc127 := NB108_111.out
             have hnb128 := NB111_134.out
             have hnc128 := NB134_111.out
             have hcz129_0 : w79.cell? ⟨gb111, 0, none⟩ = some (.int .i64 t109) := (blk_cell BK111.out 0).trans rfl
             have hcz129_1 : w79.cell? ⟨gb111, 1, none⟩ = some (.int .i64 t110) := (blk_cell BK111.out 1).trans rfl
             have hfz129_0 := blk_frozen BK111.out 0
             have hfz129_1 := blk_frozen BK111.out 1
             go_wp2
             go_ret
             exact ⟨by first | rfl | (simp [errW_none, errW_some] <;> rfl) | (simp [*, errW_none, errW_some] <;> rfl), by repeat (first | (with_reducible first | exact HB.out | apply below_alloc | apply pw_below_drewN | apply below_drew1 | refine below_set ?_ GE108.out | refine below_set ?_ GE111.out | refine below_set ?_ GE134.out) | exact HB.out)⟩
         · replace c85 := Bool.eq_false_iff.mpr c85
           subst c85
           have H1 : (if (x6_1.length : Int) = (t131.length : Int) then (laws_FnRows.l1 k1 t102 x6_1 0 t105 false t107 t109 t110 t130 t131) else (some false)) = some r := by rw [if_neg (show ¬ (false = true) by decide)] at H;exact H
           clear H
           have H := H1
           clear H1
           by_cases c130 : (x6_1.length : Int) = (t131.length : Int)
           · rw [if_pos c130] at H
             have c130b0 : ((x6_1.length : Int) == (t131.length : Int)) = true := beq_iff_eq.mpr c130
             have c130b1 : ((x6_1.length : Int) != (t131.length : Int)) = false := bne_eq_false_iff_eq.mpr c130
             have c130b2 : (x6_1.length == t131.length) = true := by first | simpa using c130 | (simp at c130 ⊢;omega)
             clear c130
             have H' := Aside0.mk H
             clear H
             obtain ⟨Ao131, co131, eo131⟩ := Kd.R_slice HO_6.out
             subst eo131
             have hnb132 := NB134_108.out
             have hnc132 := NB108_134.out
             have hnb133 := NB134_111.out
             have hnc133 := NB111_134.out
             have hcz134_0 : w79.cell? ⟨gb134, 0, none⟩ = some (.int .i64 0) := (blk_cell BK134.out 0).trans rfl
             have hcz134_1 : w79.cell? ⟨gb134, 1, none⟩ = some (.slice none 0 0) := (blk_cell BK134.out 1).trans rfl
             have hfz134_0 := blk_frozen BK134.out 0
             have hfz134_1 := blk_frozen BK134.out 1
             go_wp2
             go_loopg [10] k1 (fun kq v10 w' => ∃ (x10_2 : Int), v10 = .int .i64 x10_2 ∧ Aside0 (laws_FnRows.l1 kq t102 x6_1 x10_2 t105 false t107 t109 t110 t130 t131 = some r) ∧ Aside0 (kq ≤ k1) ∧ Aside0 (Kd.R (Kd.int .u8) 5 w' w.heap.size (fun _ => True) (.slice Ao11 t102.length co11) t102) ∧ Aside0 (Kd.R k46 46 w' w.heap.size (fun k_ => some k_ ≠ ((.slice Ao83 t131.length co83) : Value).ownBlock) (.slice Ao131 x6_1.length co131) x6_1) ∧ Aside0 (Kd.R k46 46 w' w.heap.size (fun k_ => some k_ ≠ ((.slice Ao131 x6_1.length co131) : Value).ownBlock) (.slice Ao83 t131.length co83) t131) ∧ Aside0 (w'.heap[gb108]? = some (.cells #[.int .i64 t105, .bool false, .int .i64 t107] 25 (0, 0))) ∧ Aside0 (w'.heap[gb111]? = some (.cells #[.int .i64 t109, .int .i64 t110] 30 (0, 0))) ∧ Aside0 (w'.heap[gb134]? = some (.cells #[.int .i64 t130, (.slice Ao83 t131.length co83)] 40 (0, 0))) ∧ Aside0 (Below w.heap.size w w'))
             case atStart => exact ⟨(0), (by first | rfl | (simp;done) | (simp [*];done)), H', ⟨Nat.le_refl _⟩, ⟨by (with_reducible repeat (first | apply Kd.R_alloc | apply Kd.R_drewN | apply Kd.R_drew));exact Kd.R_mono (Kd.R_far (p := ⟨gb134, 1, none⟩) (Kd.R_far (p := ⟨gb134, 0, none⟩) (Kd.R_types HO_3.out BK134.out (by decide)) (fun _ hk => hk.2) (.int .i64 t130)) (fun _ hk => hk.2) (.slice Ao83 t131.length co83)) (fun _ hk => trivial)⟩, ⟨by (with_reducible repeat (first | apply Kd.R_alloc | apply Kd.R_drewN | apply Kd.R_drew));exact Kd.R_mono (Kd.R_far (p := ⟨gb134, 1, none⟩) (Kd.R_far (p := ⟨gb134, 0, none⟩) (Kd.R_types HO_6.out BK134.out (by decide)) (fun _ hk => hk.2) (.int .i64 t130)) (fun _ hk => hk.2) (.slice Ao83 t131.length co83)) (fun _ hk => hk.1.2)⟩, ⟨by (with_reducible repeat (first | apply Kd.R_alloc | apply Kd.R_drewN | apply Kd.R_drew));exact Kd.R_mono (Kd.R_far (p := ⟨gb134, 1, none⟩) (Kd.R_far (p := ⟨gb134, 0, none⟩) (Kd.R_types HO133.out BK134.out (by decide)) (fun _ hk => hk.2) (.int .i64 t130)) (fun _ hk => hk.2) (.slice Ao83 t131.length co83)) (fun _ hk => hk.1.2)⟩, ⟨by (with_reducible repeat (first | refine blk_drewN ?_ _ | refine blk_drew ?_ | refine blk_alloc ?_ _));refine blk_far ?_ NB108_134.out _;(with_reducible repeat (first | refine blk_drewN ?_ _ | refine blk_drew ?_ | refine blk_alloc ?_ _));refine blk_far ?_ NB108_134.out _;(with_reducible repeat (first | refine blk_drewN ?_ _ | refine blk_drew ?_ | refine blk_alloc ?_ _));exact BK108.out⟩, ⟨by (with_reducible repeat (first | refine blk_drewN ?_ _ | refine blk_drew ?_ | refine blk_alloc ?_ _));refine blk_far ?_ NB111_134.out _;(with_reducible repeat (first | refine blk_drewN ?_ _ | refine blk_drew ?_ | refine blk_alloc ?_ _));refine blk_far ?_ NB111_134.out _;(with_reducible repeat (first | refine blk_drewN ?_ _ | refine blk_drew ?_ | refine blk_alloc ?_ _));exact BK111.out⟩, ⟨by (with_reducible repeat (first | refine blk_drewN ?_ _ | refine blk_drew ?_ | refine blk_alloc ?_ _));refine blk_put (cs := #[.int .i64 t130, .slice none 0 0]) ?_ 1 _ rfl;(with_reducible repeat (first | refine blk_drewN ?_ _ | refine blk_drew ?_ | refine blk_alloc ?_ _));refine blk_put (cs := #[.int .i64 0, .slice none 0 0]) ?_ 0 _ rfl;(with_reducible repeat (first | refine blk_drewN ?_ _ | refine blk_drew ?_ | refine blk_alloc ?_ _));exact BK134.out⟩, ⟨by repeat (first | (with_reducible first | exact HB.out | apply below_alloc | apply pw_below_drewN | apply below_drew1 | refine below_set ?_ GE108.out | refine below_set ?_ GE111.out | refine below_set ?_ GE134.out) | exact HB.out)⟩⟩
             case round =>
              clear H'
              try clear c1
              try clear p2
              try clear c8
              try clear c9
              try clear c10
              try clear c11
              try clear c12
              try clear c13
              try clear c85
              try clear c86
              try clear c86b0
              try clear c86b1
              try clear c87
              try clear c87b0
              try clear c96
              try clear c97
              try clear c98
              try clear c108
              try clear c108b0
              try clear c108b1
              try clear c108b2
              try clear c109
              try clear c110
              try clear c112
              try clear c118
              try clear c119
              try clear c121
              try clear c127
              try clear c128
              try clear c130
              try clear c130b0
              try clear c130b1
              try clear c130b2
              try clear c132
              try clear c133
              try clear hcz111_0
              try clear hcz111_1
              try clear hcz113_0
              try clear hcz113_1
              try clear hcz114_0
              try clear hcz114_1
              try clear hcz114_2
              try clear hcz120_0
              try clear hcz120_1
              try clear hcz122_0
              try clear hcz122_1
              try clear hcz123_0
              try clear hcz123_1
              try clear hcz123_2
              try clear hcz129_0
              try clear hcz129_1
              try clear hcz134_0
              try clear hcz134_1
              try clear hfz111_0
              try clear hfz111_1
              try clear hfz113_0
              try clear hfz113_1
              try clear hfz114_0
              try clear hfz114_1
              try clear hfz114_2
              try clear hfz120_0
              try clear hfz120_1
              try clear hfz122_0
              try clear hfz122_1
              try clear hfz123_0
              try clear hfz123_1
              try clear hfz123_2
              try clear hfz129_0
              try clear hfz129_1
              try clear hfz134_0
              try clear hfz134_1
              obtain ⟨x10_2, rfl, HA, HK2, HO_3, HO_6, HO_135001, BK108, BK111, BK134, HB⟩ := hrel
              cases gk with
              | zero => exact absurd HA.out (by simp [laws_FnRows.l1])
              | succ k2 =>
               have H := HA.out
               clear HA
               simp only [laws_FnRows.l1] at H
               by_cases c135 : x10_2 < (x6_1.length : Int)
               · rw [if_pos c135] at H
                 have c135b0 : decide (x10_2 < (x6_1.length : Int)) = true := decide_eq_true c135
                 clear c135
                 by_cases c136 : 0 ≤ x10_2
                 · rw [if_pos c136] at H
                   have c136b0 : decide (0 ≤ x10_2) = true := decide_eq_true c136
                   clear c136
                   by_cases c137 : x10_2 < (t131.length : Int)
                   · rw [if_pos c137] at H
                     have c137b0 : decide (x10_2 < (t131.length : Int)) = true := decide_eq_true c137
                     clear c137
                     by_cases c138 : (!(((rd_T46 x6_1 x10_2).f0) == ((rd_T46 t131 x10_2).f0)) || (!(((rd_T46 x6_1 x10_2).f1) == ((rd_T46 t131 x10_2).f1)) || (!(((rd_T46 x6_1 x10_2).f2) == ((rd_T46 t131 x10_2).f2))))) = true
                     · rw [if_pos c138] at H
                       have c138b0 : (!(((rd_T46 x6_1 x10_2).f0) == ((rd_T46 t131 x10_2).f0)) || (!(((rd_T46 x6_1 x10_2).f1) == ((rd_T46 t131 x10_2).f1)) || (!(((rd_T46 x6_1 x10_2).f2) == ((rd_T46 t131 x10_2).f2))))) = true := c138
                       clear c138
                       obtain rfl := Option.some.inj H
                       try go_wp2
                       have n0_ := Aside0.mk (Kd.R_drew HO_3.out)
                       have n1_ := Aside0.mk (Kd.R_drew HO_6.out)
                       have n2_ := Aside0.mk (Kd.R_drew HO_135001.out)
                       have n3_ := Aside0.mk (blk_drew BK108.out)
                       have n4_ := Aside0.mk (blk_drew BK111.out)
                       have n5_ := Aside0.mk (blk_drew BK134.out)
                       have n6_ := Aside0.mk (below_drew1 HB.out)
                       clear HO_3
                       clear HO_6
                       clear HO_135001
                       clear BK108
                       clear BK111
                       clear BK134
                       clear HB
                       have HO_3 := n0_
                       have HO_6 := n1_
                       have HO_135001 := n2_
                       have BK108 := n3_
                       have BK111 := n4_
                       have BK134 := n5_
                       have HB := n6_
                       clear n0_ n1_ n2_ n3_ n4_ n5_ n6_
                       have p137 : 0 ≤ (x10_2 : Int) := of_decide_eq_true (by first | (with_reducible assumption) | assumption)
                       have q137 : x10_2 < (x6_1.length : Int) := of_decide_eq_true (by first | (with_reducible assumption) | assumption)
                       obtain ⟨ad137, e137, hx137_0, hx137_1, hx137_2⟩ := at_T46 (Kd.R_reads' HO_6.out).2.2 x10_2 p137 q137
                       cases e137
                       replace p137 := eq_true p137
                       replace q137 := eq_true q137
                       have p138 : 0 ≤ (x10_2 : Int) := of_decide_eq_true (by first | (with_reducible assumption) | assumption)
                       have q138 : x10_2 < (t131.length : Int) := of_decide_eq_true (by first | (with_reducible assumption) | assumption)
                       obtain ⟨ad138, e138, hx138_0, hx138_1, hx138_2⟩ := at_T46 (Kd.R_reads' HO_135001.out).2.2 x10_2 p138 q138
                       cases e138
                       replace p138 := eq_true p138
                       replace q138 := eq_true q138
                       refine start_ (n := 10) (S := fun w' => w'.cell? ⟨gb134, 0, none⟩ = some (.int .i64 t130) ∧ w'.cell? ⟨gb134, 1, none⟩ = some (.slice (some ad138) t131.length co83) ∧ w'.cell? (ad137.add ((x10_2).toNat * 3)) = some (.int .i64 ((rd_T46 x6_1 x10_2).f0)) ∧ w'.cell? ⟨(ad137.add ((x10_2).toNat * 3)).block, (ad137.add ((x10_2).toNat * 3)).off + 1, none⟩ = some (.int .i64 ((rd_T46 x6_1 x10_2).f1)) ∧ w'.cell? ⟨(ad137.add ((x10_2).toNat * 3)).block, (ad137.add ((x10_2).toNat * 3)).off + 2, none⟩ = some (.int .i64 ((rd_T46 x6_1 x10_2).f2)) ∧ w'.cell? (ad138.add ((x10_2).toNat * 3)) = some (.int .i64 ((rd_T46 t131 x10_2).f0)) ∧ w'.cell? ⟨(ad138.add ((x10_2).toNat * 3)).block, (ad138.add ((x10_2).toNat * 3)).off + 1, none⟩ = some (.int .i64 ((rd_T46 t131 x10_2).f1)) ∧ w'.cell? ⟨(ad138.add ((x10_2).toNat * 3)).block, (ad138.add ((x10_2).toNat * 3)).off + 2, none⟩ = some (.int .i64 ((rd_T46 t131 x10_2).f2))) (ds := []) #[false, false, false, false, false, false, false, false, false, false] (by kernel_rfl) rfl rfl ⟨(blk_cell BK134.out 0).trans rfl, (blk_cell BK134.out 1).trans rfl, hx137_0, hx137_1, hx137_2, hx138_0, hx138_1, hx138_2⟩ (fun hHeld => ?_);refine with_tabW laws_FnRows.tab25 laws_FnRows.bits25 (fun HT_ HW_ => ?_)
                       generalize wr.drew = w139 at HO_3 HO_6 HO_135001 BK108 BK111 BK134 HB hx137_0 hx137_1 hx137_2 hx138_0 hx138_1 hx138_2 hHeld ⊢
                       refine pure_ (i := 0) (N := some 134) (v := ?_) (a' := ?_) #[true, false, false, false, false, false, false, false, false, false] rfl rfl (any_of HT_.out (by kernel_rfl)) (fun _ _ _ h => h) (Or.inl ⟨by rfl, ?_⟩) ?_ ?_
                       rotate_left
                       · intro w'
                         go_simp
                         with_reducible rfl
                       rotate_left
                       · simp only [Act.put, List.setIfInBounds_toArray, List.set_cons_zero, List.set_cons_succ, i64_w, i32_w]
                         rfl
                       refine pure_ (i := 1) (N := some 135) (v := ?_) (a' := ?_) #[true, true, false, false, false, false, false, false, false, false] rfl rfl (any_of HT_.out (by kernel_rfl)) (fun _ _ _ h => h) (Or.inl ⟨by rfl, ?_⟩) ?_ ?_
                       rotate_left
                       · intro w'
                         go_simp
                         with_reducible rfl
                       rotate_left
                       · simp only [Act.put, List.setIfInBounds_toArray, List.set_cons_zero, List.set_cons_succ, i64_w, i32_w]
                         rfl
                       refine pure_ (i := 2) (N := some 136) (v := ?_) (a' := ?_) #[true, true, true, false, false, false, false, false, false, false] rfl rfl (any_of HT_.out (by kernel_rfl)) (fun _ _ _ h => h) (Or.inl ⟨by rfl, ?_⟩) ?_ ?_
                       rotate_left
                       · intro w'
                         go_simp
                         with_reducible rfl
                       rotate_left
                       · simp only [Act.put, List.setIfInBounds_toArray, List.set_cons_zero, List.set_cons_succ, i64_w, i32_w]
                         rfl
                       refine pure_ (i := 4) (N := some 138) (v := ?_) (a' := ?_) #[true, true, true, false, true, false, false, false, false, false] rfl rfl (any_of HT_.out (by kernel_rfl)) (fun _ _ _ h => h) (Or.inl ⟨by rfl, ?_⟩) ?_ ?_
                       rotate_left
                       · intro w'
                         go_simp
                         with_reducible rfl
                       rotate_left
                       · simp only [Act.put, List.setIfInBounds_toArray, List.set_cons_zero, List.set_cons_succ, i64_w, i32_w]
                         rfl
                       refine pure_ (i := 6) (N := some 140) (v := ?_) (a' := ?_) #[true, true, true, false, true, false, true, false, false, false] rfl rfl (any_of HT_.out (by kernel_rfl)) (fun _ _ _ h => h) (Or.inl ⟨by rfl, ?_⟩) ?_ ?_
                       rotate_left
                       · intro w'
                         go_simp
                         with_reducible rfl
                       rotate_left
                       · simp only [Act.put, List.setIfInBounds_toArray, List.set_cons_zero, List.set_cons_succ, i64_w, i32_w]
                         rfl
                       refine take_ (i := 3) (N := some 137) (v := ?_) (a' := ?_) #[true, true, true, true, true, false, true, false, false, false] rfl rfl (take_ofW HT_.out HW_.out (by kernel_rfl)) (fun _ _ _ h => h) (Or.inl ⟨by rfl, ?_⟩) hHeld ?_ ?_
                       rotate_left
                       · rintro w' ⟨s0, s1, s2, s3, s4, s5, s6, s7⟩
                         go_simp
                         with_reducible rfl
                       rotate_left
                       · simp only [Act.put, List.setIfInBounds_toArray, List.set_cons_zero, List.set_cons_succ, i64_w, i32_w]
                         rfl
                       refine take_ (i := 5) (N := some 139) (v := ?_) (a' := ?_) #[true, true, true, true, true, true, true, false, false, false] rfl rfl (take_ofW HT_.out HW_.out (by kernel_rfl)) (fun _ _ _ h => h) (Or.inl ⟨by rfl, ?_⟩) hHeld ?_ ?_
                       rotate_left
                       · rintro w' ⟨s0, s1, s2, s3, s4, s5, s6, s7⟩
                         go_simp
                         with_reducible rfl
                       rotate_left
                       · simp only [Act.put, List.setIfInBounds_toArray, List.set_cons_zero, List.set_cons_succ, i64_w, i32_w]
                         rfl
                       refine pure_ (i := 7) (N := some 141) (v := ?_) (a' := ?_) #[true, true, true, true, true, true, true, true, false, false] rfl rfl (any_of HT_.out (by kernel_rfl)) (fun _ _ _ h => h) (Or.inl ⟨by rfl, ?_⟩) ?_ ?_
                       rotate_left
                       · intro w'
                         go_simp
                         with_reducible rfl
                       rotate_left
                       · simp only [Act.put, List.setIfInBounds_toArray, List.set_cons_zero, List.set_cons_succ, i64_w, i32_w]
                         rfl
                       refine take_ (i := 8) (N := some 142) (v := ?_) (a' := ?_) #[true, true, true, true, true, true, true, true, true, false] rfl rfl (take_ofW HT_.out HW_.out (by kernel_rfl)) (fun _ _ _ h => h) (Or.inl ⟨by rfl, ?_⟩) hHeld ?_ ?_
                       rotate_left
                       · rintro w' ⟨s0, s1, s2, s3, s4, s5, s6, s7⟩
                         go_simp
                         with_reducible rfl
                       rotate_left
                       · simp only [Act.put, List.setIfInBounds_toArray, List.set_cons_zero, List.set_cons_succ, i64_w, i32_w]
                         rfl
                       refine pure_ (i := 9) (N := some 143) (v := ?_) (a' := ?_) #[true, true, true, true, true, true, true, true, true, true] rfl rfl (any_of HT_.out (by kernel_rfl)) (fun _ _ _ h => h) (Or.inl ⟨by rfl, ?_⟩) ?_ ?_
                       rotate_left
                       · intro w'
                         go_simp
                         with_reducible rfl
                       rotate_left
                       · simp only [Act.put, List.setIfInBounds_toArray, List.set_cons_zero, List.set_cons_succ, i64_w, i32_w]
                         rfl
                       refine done_ (done_of HT_.out (by kernel_rfl)) ?_
                       try go_wp2
                       go_ret
                       exact ⟨by first | rfl | (simp [errW_none, errW_some] <;> rfl) | (simp [*, errW_none, errW_some] <;> rfl), by repeat (first | (with_reducible first | exact HB.out | apply below_alloc | apply pw_below_drewN | apply below_drew1 | refine below_set ?_ GE108.out | refine below_set ?_ GE111.out | refine below_set ?_ GE134.out) | exact HB.out)⟩
                     · rw [if_neg c138] at H
                       have c138b0 : (!(((rd_T46 x6_1 x10_2).f0) == ((rd_T46 t131 x10_2).f0)) || (!(((rd_T46 x6_1 x10_2).f1) == ((rd_T46 t131 x10_2).f1)) || (!(((rd_T46 x6_1 x10_2).f2) == ((rd_T46 t131 x10_2).f2))))) = false := by simpa using c138
                       clear c138
                       have H' := Aside0.mk H
                       clear H
                       try go_wp2
                       have n0_ := Aside0.mk (Kd.R_drew HO_3.out)
                       have n1_ := Aside0.mk (Kd.R_drew HO_6.out)
                       have n2_ := Aside0.mk (Kd.R_drew HO_135001.out)
                       have n3_ := Aside0.mk (blk_drew BK108.out)
                       have n4_ := Aside0.mk (blk_drew BK111.out)
                       have n5_ := Aside0.mk (blk_drew BK134.out)
                       have n6_ := Aside0.mk (below_drew1 HB.out)
                       clear HO_3
                       clear HO_6
                       clear HO_135001
                       clear BK108
                       clear BK111
                       clear BK134
                       clear HB
                       have HO_3 := n0_
                       have HO_6 := n1_
                       have HO_135001 := n2_
                       have BK108 := n3_
                       have BK111 := n4_
                       have BK134 := n5_
                       have HB := n6_
                       clear n0_ n1_ n2_ n3_ n4_ n5_ n6_
                       have p137 : 0 ≤ (x10_2 : Int) := of_decide_eq_true (by first | (with_reducible assumption) | assumption)
                       have q137 : x10_2 < (x6_1.length : Int) := of_decide_eq_true (by first | (with_reducible assumption) | assumption)
                       obtain ⟨ad137, e137, hx137_0, hx137_1, hx137_2⟩ := at_T46 (Kd.R_reads' HO_6.out).2.2 x10_2 p137 q137
                       cases e137
                       replace p137 := eq_true p137
                       replace q137 := eq_true q137
                       have p138 : 0 ≤ (x10_2 : Int) := of_decide_eq_true (by first | (with_reducible assumption) | assumption)
                       have q138 : x10_2 < (t131.length : Int) := of_decide_eq_true (by first | (with_reducible assumption) | assumption)
                       obtain ⟨ad138, e138, hx138_0, hx138_1, hx138_2⟩ := at_T46 (Kd.R_reads' HO_135001.out).2.2 x10_2 p138 q138
                       cases e138
                       replace p138 := eq_true p138
                       replace q138 := eq_true q138
                       refine start_ (n := 10) (S := fun w' => w'.cell? ⟨gb134, 0, none⟩ = some (.int .i64 t130) ∧ w'.cell? ⟨gb134, 1, none⟩ = some (.slice (some ad138) t131.length co83) ∧ w'.cell? (ad137.add ((x10_2).toNat * 3)) = some (.int .i64 ((rd_T46 x6_1 x10_2).f0)) ∧ w'.cell? ⟨(ad137.add ((x10_2).toNat * 3)).block, (ad137.add ((x10_2).toNat * 3)).off + 1, none⟩ = some (.int .i64 ((rd_T46 x6_1 x10_2).f1)) ∧ w'.cell? ⟨(ad137.add ((x10_2).toNat * 3)).block, (ad137.add ((x10_2).toNat * 3)).off + 2, none⟩ = some (.int .i64 ((rd_T46 x6_1 x10_2).f2)) ∧ w'.cell? (ad138.add ((x10_2).toNat * 3)) = some (.int .i64 ((rd_T46 t131 x10_2).f0)) ∧ w'.cell? ⟨(ad138.add ((x10_2).toNat * 3)).block, (ad138.add ((x10_2).toNat * 3)).off + 1, none⟩ = some (.int .i64 ((rd_T46 t131 x10_2).f1)) ∧ w'.cell? ⟨(ad138.add ((x10_2).toNat * 3)).block, (ad138.add ((x10_2).toNat * 3)).off + 2, none⟩ = some (.int .i64 ((rd_T46 t131 x10_2).f2))) (ds := []) #[false, false, false, false, false, false, false, false, false, false] (by kernel_rfl) rfl rfl ⟨(blk_cell BK134.out 0).trans rfl, (blk_cell BK134.out 1).trans rfl, hx137_0, hx137_1, hx137_2, hx138_0, hx138_1, hx138_2⟩ (fun hHeld => ?_);refine with_tabW laws_FnRows.tab25 laws_FnRows.bits25 (fun HT_ HW_ => ?_)
                       generalize wr.drew = w140 at HO_3 HO_6 HO_135001 BK108 BK111 BK134 HB hx137_0 hx137_1 hx137_2 hx138_0 hx138_1 hx138_2 hHeld ⊢
                       refine pure_ (i := 0) (N := some 134) (v := ?_) (a' := ?_) #[true, false, false, false, false, false, false, false, false, false] rfl rfl (any_of HT_.out (by kernel_rfl)) (fun _ _ _ h => h) (Or.inl ⟨by rfl, ?_⟩) ?_ ?_
                       rotate_left
                       · intro w'
                         go_simp
                         with_reducible rfl
                       rotate_left
                       · simp only [Act.put, List.setIfInBounds_toArray, List.set_cons_zero, List.set_cons_succ, i64_w, i32_w]
                         rfl
                       refine pure_ (i := 1) (N := some 135) (v := ?_) (a' := ?_) #[true, true, false, false, false, false, false, false, false, false] rfl rfl (any_of HT_.out (by kernel_rfl)) (fun _ _ _ h => h) (Or.inl ⟨by rfl, ?_⟩) ?_ ?_
                       rotate_left
                       · intro w'
                         go_simp
                         with_reducible rfl
                       rotate_left
                       · simp only [Act.put, List.setIfInBounds_toArray, List.set_cons_zero, List.set_cons_succ, i64_w, i32_w]
                         rfl
                       refine pure_ (i := 2) (N := some 136) (v := ?_) (a' := ?_) #[true, true, true, false, false, false, false, false, false, false] rfl rfl (any_of HT_.out (by kernel_rfl)) (fun _ _ _ h => h) (Or.inl ⟨by rfl, ?_⟩) ?_ ?_
                       rotate_left
                       · intro w'
                         go_simp
                         with_reducible rfl
                       rotate_left
                       · simp only [Act.put, List.setIfInBounds_toArray, List.set_cons_zero, List.set_cons_succ, i64_w, i32_w]
                         rfl
                       refine pure_ (i := 4) (N := some 138) (v := ?_) (a' := ?_) #[true, true, true, false, true, false, false, false, false, false] rfl rfl (any_of HT_.out (by kernel_rfl)) (fun _ _ _ h => h) (Or.inl ⟨by rfl, ?_⟩) ?_ ?_
                       rotate_left
                       · intro w'
                         go_simp
                         with_reducible rfl
                       rotate_left
                       · simp only [Act.put, List.setIfInBounds_toArray, List.set_cons_zero, List.set_cons_succ, i64_w, i32_w]
                         rfl
                       refine pure_ (i := 6) (N := some 140) (v := ?_) (a' := ?_) #[true, true, true, false, true, false, true, false, false, false] rfl rfl (any_of HT_.out (by kernel_rfl)) (fun _ _ _ h => h) (Or.inl ⟨by rfl, ?_⟩) ?_ ?_
                       rotate_left
                       · intro w'
                         go_simp
                         with_reducible rfl
                       rotate_left
                       · simp only [Act.put, List.setIfInBounds_toArray, List.set_cons_zero, List.set_cons_succ, i64_w, i32_w]
                         rfl
                       refine take_ (i := 3) (N := some 137) (v := ?_) (a' := ?_) #[true, true, true, true, true, false, true, false, false, false] rfl rfl (take_ofW HT_.out HW_.out (by kernel_rfl)) (fun _ _ _ h => h) (Or.inl ⟨by rfl, ?_⟩) hHeld ?_ ?_
                       rotate_left
                       · rintro w' ⟨s0, s1, s2, s3, s4, s5, s6, s7⟩
                         go_simp
                         with_reducible rfl
                       rotate_left
                       · simp only [Act.put, List.setIfInBounds_toArray, List.set_cons_zero, List.set_cons_succ, i64_w, i32_w]
                         rfl
                       refine take_ (i := 5) (N := some 139) (v := ?_) (a' := ?_) #[true, true, true, true, true, true, true, false, false, false] rfl rfl (take_ofW HT_.out HW_.out (by kernel_rfl)) (fun _ _ _ h => h) (Or.inl ⟨by rfl, ?_⟩) hHeld ?_ ?_
                       rotate_left
                       · rintro w' ⟨s0, s1, s2, s3, s4, s5, s6, s7⟩
                         go_simp
                         with_reducible rfl
                       rotate_left
                       · simp only [Act.put, List.setIfInBounds_toArray, List.set_cons_zero, List.set_cons_succ, i64_w, i32_w]
                         rfl
                       refine pure_ (i := 7) (N := some 141) (v := ?_) (a' := ?_) #[true, true, true, true, true, true, true, true, false, false] rfl rfl (any_of HT_.out (by kernel_rfl)) (fun _ _ _ h => h) (Or.inl ⟨by rfl, ?_⟩) ?_ ?_
                       rotate_left
                       · intro w'
                         go_simp
                         with_reducible rfl
                       rotate_left
                       · simp only [Act.put, List.setIfInBounds_toArray, List.set_cons_zero, List.set_cons_succ, i64_w, i32_w]
                         rfl
                       refine take_ (i := 8) (N := some 142) (v := ?_) (a' := ?_) #[true, true, true, true, true, true, true, true, true, false] rfl rfl (take_ofW HT_.out HW_.out (by kernel_rfl)) (fun _ _ _ h => h) (Or.inl ⟨by rfl, ?_⟩) hHeld ?_ ?_
                       rotate_left
                       · rintro w' ⟨s0, s1, s2, s3, s4, s5, s6, s7⟩
                         go_simp
                         with_reducible rfl
                       rotate_left
                       · simp only [Act.put, List.setIfInBounds_toArray, List.set_cons_zero, List.set_cons_succ, i64_w, i32_w]
                         rfl
                       refine pure_ (i := 9) (N := some 143) (v := ?_) (a' := ?_) #[true, true, true, true, true, true, true, true, true, true] rfl rfl (any_of HT_.out (by kernel_rfl)) (fun _ _ _ h => h) (Or.inl ⟨by rfl, ?_⟩) ?_ ?_
                       rotate_left
                       · intro w'
                         go_simp
                         with_reducible rfl
                       rotate_left
                       · simp only [Act.put, List.setIfInBounds_toArray, List.set_cons_zero, List.set_cons_succ, i64_w, i32_w]
                         rfl
                       refine done_ (done_of HT_.out (by kernel_rfl)) ?_
                       try go_wp2
                       go_roundg k2
                       case measure => have := HK1.out;have := HK2.out;omega
                       case rel => exact ⟨(wrap64 (x10_2 + 1)), (by first | rfl | (simp;done) | (simp [*];done)), H', ⟨by have := HK1.out;have := HK2.out;omega⟩, ⟨by (with_reducible repeat (first | apply Kd.R_alloc | apply Kd.R_drewN | apply Kd.R_drew));exact HO_3.out⟩, ⟨by (with_reducible repeat (first | apply Kd.R_alloc | apply Kd.R_drewN | apply Kd.R_drew));exact HO_6.out⟩, ⟨by (with_reducible repeat (first | apply Kd.R_alloc | apply Kd.R_drewN | apply Kd.R_drew));exact HO_135001.out⟩, ⟨by (with_reducible repeat (first | refine blk_drewN ?_ _ | refine blk_drew ?_ | refine blk_alloc ?_ _));exact BK108.out⟩, ⟨by (with_reducible repeat (first | refine blk_drewN ?_ _ | refine blk_drew ?_ | refine blk_alloc ?_ _));exact BK111.out⟩, ⟨by (with_reducible repeat (first | refine blk_drewN ?_ _ | refine blk_drew ?_ | refine blk_alloc ?_ _));exact BK134.out⟩, ⟨by repeat (first | (with_reducible first | exact HB.out | apply below_alloc | apply pw_below_drewN | apply below_drew1 | refine below_set ?_ GE108.out | refine below_set ?_ GE111.out | refine below_set ?_ GE134.out) | exact HB.out)⟩⟩
                   · rw [if_neg c137] at H
                     exact absurd H (by simp)
                 · rw [if_neg c136] at H
                   exact absurd H (by simp)
               · rw [if_neg c135] at H
                 have c135b0 : decide (x10_2 < (x6_1.length : Int)) = false := decide_eq_false c135
                 clear c135
                 by_cases c141 : t110 ≥ 1
                 · rw [if_pos c141] at H
                   have c141b0 : decide (1 ≤ t110) = true := decide_eq_true c141
                   clear c141
                   replace H := Option.bind_eq_some_iff.mp H
                   obtain ⟨⟨t139, t140⟩, A1420, H⟩ := H
                   replace H : (some (t139 == 3)) = some r := H
                   have A142 := Aside0.mk A1420
                   clear A1420
                   obtain rfl := Option.some.inj H
                   have hnb143 := NB111_108.out
                   have hnc143 := NB108_111.out
                   have hnb144 := NB111_134.out
                   have hnc144 := NB134_111.out
                   have hcz145_0 : wr.cell? ⟨gb111, 0, none⟩ = some (.int .i64 t109) := (blk_cell BK111.out 0).trans rfl
                   have hcz145_1 : wr.cell? ⟨gb111, 1, none⟩ = some (.int .i64 t110) := (blk_cell BK111.out 1).trans rfl
                   have hfz145_0 := blk_frozen BK111.out 0
                   have hfz145_1 := blk_frozen BK111.out 1
                   have hnb146 := NB108_134.out
                   have hnc146 := NB134_108.out
                   have hcz147_0 : wr.cell? ⟨gb108, 0, none⟩ = some (.int .i64 t105) := (blk_cell BK108.out 0).trans rfl
                   have hcz147_1 : wr.cell? ⟨gb108, 1, none⟩ = some (.bool false) := (blk_cell BK108.out 1).trans rfl
                   have hcz147_2 : wr.cell? ⟨gb108, 2, none⟩ = some (.int .i64 t107) := (blk_cell BK108.out 2).trans rfl
                   have hfz147_0 := blk_frozen BK108.out 0
                   have hfz147_1 := blk_frozen BK108.out 1
                   have hfz147_2 := blk_frozen BK108.out 2
                   go_wp2_with (first | (go_at_call 37;(with_reducible refine (impl_RowCells.calls k2 _ _ t102 t105 false t107 t110 t139 t140 _ ?side1 ?side2 A142.out).mono ?_);(case side1 => repeat (first | exact (Kd.R_reads' HO_3.out).2.2 | (with_reducible refine Kd.C_alloc ?_ _) | (with_reducible refine Kd.C_drewN ?_ _) | (with_reducible refine Kd.C_drew ?_)));(case side2 => exact (Kd.R_reads' HO_3.out).2.1);rintro e w148 ⟨v141, rfl, ho0, hb⟩;have n0_ := Aside0.mk (Kd.R_below (by (with_reducible repeat (first | apply Kd.R_alloc | apply Kd.R_drewN | apply Kd.R_drew));exact HO_3.out) hb);have n1_ := Aside0.mk (Kd.R_elder' (by (with_reducible repeat (first | apply Kd.R_alloc | apply Kd.R_drewN | apply Kd.R_drew));exact HO_6.out) (Kd.R_base ho0) hb);have n2_ := Aside0.mk (Kd.R_elder' (by (with_reducible repeat (first | apply Kd.R_alloc | apply Kd.R_drewN | apply Kd.R_drew));exact HO_135001.out) (Kd.R_base ho0) hb);have n3_ := Aside0.mk (Kd.R_lower (Kd.R_new' (Kd.R_new' ho0 (Kd.R_lt (by (with_reducible repeat (first | apply Kd.R_alloc | apply Kd.R_drewN | apply Kd.R_drew));exact HO_6.out))) (Kd.R_lt (by (with_reducible repeat (first | apply Kd.R_alloc | apply Kd.R_drewN | apply Kd.R_drew));exact HO_135001.out))) (below_size (by repeat (first | (with_reducible first | exact HB.out | apply below_alloc | apply pw_below_drewN | apply below_drew1 | refine below_set ?_ GE108.out | refine below_set ?_ GE111.out | refine below_set ?_ GE134.out) | exact HB.out))));have n4_ := Aside0.mk (blk_below (g := gb108) (o := .cells #[.int .i64 t105, .bool false, .int .i64 t107] 25 (0, 0)) (by (with_reducible repeat (first | refine blk_drewN ?_ _ | refine blk_drew ?_ | refine blk_alloc ?_ _));exact BK108.out) hb);have n5_ := Aside0.mk (blk_below (g := gb111) (o := .cells #[.int .i64 t109, .int .i64 t110] 30 (0, 0)) (by (with_reducible repeat (first | refine blk_drewN ?_ _ | refine blk_drew ?_ | refine blk_alloc ?_ _));exact BK111.out) hb);have n6_ := Aside0.mk (blk_below (g := gb134) (o := .cells #[.int .i64 t130, .slice Ao83 t131.length co83] 40 (0, 0)) (by (with_reducible repeat (first | refine blk_drewN ?_ _ | refine blk_drew ?_ | refine blk_alloc ?_ _));exact BK134.out) hb);have n7_ := Aside0.mk (below_step (by repeat (first | (with_reducible first | exact HB.out | apply below_alloc | apply pw_below_drewN | apply below_drew1 | refine below_set ?_ GE108.out | refine below_set ?_ GE111.out | refine below_set ?_ GE134.out) | exact HB.out)) hb);clear HO_3;clear HO_6;clear HO_135001;clear BK108;clear BK111;clear BK134;clear HB;have HO_3 := n0_;have HO_6 := n1_;have HO_135001 := n2_;have HO142 := n3_;have BK108 := n4_;have BK111 := n5_;have BK134 := n6_;have HB := n7_;clear n0_ n1_ n2_ n3_ n4_ n5_ n6_ n7_;(try clear hb);(try clear hb2);(try clear hk);(try clear hi);(try clear ho0)))
                   go_ret
                   exact ⟨by first | rfl | (simp [errW_none, errW_some] <;> rfl) | (simp [*, errW_none, errW_some] <;> rfl), by repeat (first | (with_reducible first | exact HB.out | apply below_alloc | apply pw_below_drewN | apply below_drew1 | refine below_set ?_ GE108.out | refine below_set ?_ GE111.out | refine below_set ?_ GE134.out) | exact HB.out)⟩
                 · rw [if_neg c141] at H
                   have c141b0 : decide (1 ≤ t110) = false := decide_eq_false c141
                   clear c141
                   obtain rfl := Option.some.inj H
                   have hnb149 := NB111_108.out
                   have hnc149 := NB108_111.out
                   have hnb150 := NB111_134.out
                   have hnc150 := NB134_111.out
                   have hcz151_0 : wr.cell? ⟨gb111, 0, none⟩ = some (.int .i64 t109) := (blk_cell BK111.out 0).trans rfl
                   have hcz151_1 : wr.cell? ⟨gb111, 1, none⟩ = some (.int .i64 t110) := (blk_cell BK111.out 1).trans rfl
                   have hfz151_0 := blk_frozen BK111.out 0
                   have hfz151_1 := blk_frozen BK111.out 1
                   go_wp2
                   go_ret
                   exact ⟨by first | rfl | (simp [errW_none, errW_some] <;> rfl) | (simp [*, errW_none, errW_some] <;> rfl), by repeat (first | (with_reducible first | exact HB.out | apply below_alloc | apply pw_below_drewN | apply below_drew1 | refine below_set ?_ GE108.out | refine below_set ?_ GE111.out | refine below_set ?_ GE134.out) | exact HB.out)⟩
           · rw [if_neg c130] at H
             have c130b0 : ((x6_1.length : Int) == (t131.length : Int)) = false := beq_eq_false_iff_ne.mpr c130
             have c130b1 : ((x6_1.length : Int) != (t131.length : Int)) = true := bne_iff_ne.mpr c130
             have c130b2 : (x6_1.length == t131.length) = false := by first | simpa using c130 | (simp at c130 ⊢;omega)
             obtain rfl := Option.some.inj H
             obtain ⟨Ao152, co152, eo152⟩ := Kd.R_slice HO_6.out
             subst eo152
             have hnb153 := NB134_108.out
             have hnc153 := NB108_134.out
             have hnb154 := NB134_111.out
             have hnc154 := NB111_134.out
             have hcz155_0 : w79.cell? ⟨gb134, 0, none⟩ = some (.int .i64 0) := (blk_cell BK134.out 0).trans rfl
             have hcz155_1 : w79.cell? ⟨gb134, 1, none⟩ = some (.slice none 0 0) := (blk_cell BK134.out 1).trans rfl
             have hfz155_0 := blk_frozen BK134.out 0
             have hfz155_1 := blk_frozen BK134.out 1
             go_wp2
             go_ret
             exact ⟨by first | rfl | (simp [errW_none, errW_some] <;> rfl) | (simp [*, errW_none, errW_some] <;> rfl), by repeat (first | (with_reducible first | exact HB.out | apply below_alloc | apply pw_below_drewN | apply below_drew1 | refine below_set ?_ GE108.out | refine below_set ?_ GE111.out | refine below_set ?_ GE134.out) | exact HB.out)⟩
   · rw [if_neg c16] at H
     have c16b0 : (t109 == 0) = false := beq_eq_false_iff_ne.mpr c16
     have c16b1 : (t109 != 0) = true := bne_iff_ne.mpr c16
     (first | rw [c16b0] | (simp only [i64_w, i32_w];rw [c16b0]) | skip)
     replace H := Option.bind_eq_some_iff.mp H
     obtain ⟨⟨t112, t113⟩, A1560, H⟩ := H
     replace H : (if t112 = t109 then ((impl_LayoutFault.f k t105 t106 t107).bind fun t114 => ((spec_LayoutFault.f k t105 t106 t107).bind fun t115 => (some (t114 == t115)))) else (some false)) = some r := H
     have A156 := Aside0.mk A1560
     clear A1560
     by_cases c157 : t112 = t109
     · rw [if_pos c157] at H
       have c157b0 : (t112 == t109) = true := beq_iff_eq.mpr c157
       have c157b1 : (t112 != t109) = false := bne_eq_false_iff_eq.mpr c157
       clear c157
       replace H := Option.bind_eq_some_iff.mp H
       obtain ⟨t114, A1580, H⟩ := H
       replace H : ((spec_LayoutFault.f k t105 t106 t107).bind fun t115 => (some (t114 == t115))) = some r := H
       have A158 := Aside0.mk A1580
       clear A1580
       replace H := Option.bind_eq_some_iff.mp H
       obtain ⟨t115, A1590, H⟩ := H
       replace H : (some (t114 == t115)) = some r := H
       have A159 := Aside0.mk A1590
       clear A1590
       obtain rfl := Option.some.inj H
       try go_wp2
       have n0_ : Aside0 (Kd.R (Kd.int .u8) 5 ((w13.setCell ⟨gb111, 0, none⟩ (.int .i64 t109)).setCell ⟨gb111, 1, none⟩ (.int .i64 t110)) w.heap.size (fun _ => True) (.slice Ao11 t102.length co11) t102) := ⟨by (with_reducible repeat (first | apply Kd.R_alloc | apply Kd.R_drewN | apply Kd.R_drew));exact Kd.R_mono (Kd.R_far (p := ⟨gb111, 1, none⟩) (Kd.R_far (p := ⟨gb111, 0, none⟩) (Kd.R_types HO104.out BK111.out (by decide)) (fun _ hk => hk.2) (.int .i64 t109)) (fun _ hk => hk.2) (.int .i64 t110)) (fun _ hk => trivial)⟩
       have n1_ : Aside0 (((w13.setCell ⟨gb111, 0, none⟩ (.int .i64 t109)).setCell ⟨gb111, 1, none⟩ (.int .i64 t110)).heap[gb108]? = some (.cells #[.int .i64 t105, .bool t106, .int .i64 t107] 25 (0, 0))) := ⟨by (with_reducible repeat (first | refine blk_drewN ?_ _ | refine blk_drew ?_ | refine blk_alloc ?_ _));refine blk_far ?_ NB108_111.out _;(with_reducible repeat (first | refine blk_drewN ?_ _ | refine blk_drew ?_ | refine blk_alloc ?_ _));refine blk_far ?_ NB108_111.out _;(with_reducible repeat (first | refine blk_drewN ?_ _ | refine blk_drew ?_ | refine blk_alloc ?_ _));exact BK108.out⟩
       have n2_ : Aside0 (((w13.setCell ⟨gb111, 0, none⟩ (.int .i64 t109)).setCell ⟨gb111, 1, none⟩ (.int .i64 t110)).heap[gb111]? = some (.cells #[.int .i64 t109, .int .i64 t110] 30 (0, 0))) := ⟨by (with_reducible repeat (first | refine blk_drewN ?_ _ | refine blk_drew ?_ | refine blk_alloc ?_ _));refine blk_put (cs := #[.int .i64 t109, .int .i64 0]) ?_ 1 _ rfl;(with_reducible repeat (first | refine blk_drewN ?_ _ | refine blk_drew ?_ | refine blk_alloc ?_ _));refine blk_put (cs := #[.int .i64 0, .int .i64 0]) ?_ 0 _ rfl;(with_reducible repeat (first | refine blk_drewN ?_ _ | refine blk_drew ?_ | refine blk_alloc ?_ _));exact BK111.out⟩
       have n3_ : Aside0 (Below w.heap.size w ((w13.setCell ⟨gb111, 0, none⟩ (.int .i64 t109)).setCell ⟨gb111, 1, none⟩ (.int .i64 t110))) := ⟨by repeat (first | (with_reducible first | exact HB.out | apply below_alloc | apply pw_below_drewN | apply below_drew1 | refine below_set ?_ GE108.out | refine below_set ?_ GE111.out) | exact HB.out)⟩
       (try clear HO104)
       (try clear BK108)
       (try clear BK111)
       (try clear HB)
       generalize ((w13.setCell ⟨gb111, 0, none⟩ (.int .i64 t109)).setCell ⟨gb111, 1, none⟩ (.int .i64 t110)) = w160 at n0_ n1_ n2_ n3_ ⊢
       have HO104 := n0_
       have BK108 := n1_
       have BK111 := n2_
       have HB := n3_
       clear n0_ n1_ n2_ n3_
       have n0_ := Aside0.mk (Kd.R_drew HO104.out)
       have n1_ := Aside0.mk (blk_drew BK108.out)
       have n2_ := Aside0.mk (blk_drew BK111.out)
       have n3_ := Aside0.mk (below_drew1 HB.out)
       clear HO104
       clear BK108
       clear BK111
       clear HB
       have HO104 := n0_
       have BK108 := n1_
       have BK111 := n2_
       have HB := n3_
       clear n0_ n1_ n2_ n3_
       refine start_ (n := 15) (S := fun w' => w'.cell? ⟨gb108, 0, none⟩ = some (.int .i64 t105) ∧ w'.cell? ⟨gb108, 1, none⟩ = some (.bool t106) ∧ w'.cell? ⟨gb108, 2, none⟩ = some (.int .i64 t107) ∧ w'.cell? ⟨gb111, 0, none⟩ = some (.int .i64 t109) ∧ w'.cell? ⟨gb111, 1, none⟩ = some (.int .i64 t110)) (ds := []) #[false, false, false, false, false, false, false, false, false, false, false, false, false, false, false] (by kernel_rfl) rfl rfl ⟨(blk_cell BK108.out 0).trans rfl, (blk_cell BK108.out 1).trans rfl, (blk_cell BK108.out 2).trans rfl, (blk_cell BK111.out 0).trans rfl, (blk_cell BK111.out 1).trans rfl⟩ (fun hHeld => ?_);refine with_tabW laws_FnRows.tab6 laws_FnRows.bits6 (fun HT_ HW_ => ?_)
       generalize w160.drew = w161 at HO104 BK108 BK111 HB hHeld ⊢
       refine pure_ (i := 0) (N := some 24) (v := ?_) (a' := ?_) #[true, false, false, false, false, false, false, false, false, false, false, false, false, false, false] rfl rfl (any_of HT_.out (by kernel_rfl)) (fun _ _ _ h => h) (Or.inl ⟨by rfl, ?_⟩) ?_ ?_
       rotate_left
       · intro w'
         go_simp
         with_reducible rfl
       rotate_left
       · simp only [Act.put, List.setIfInBounds_toArray, List.set_cons_zero, List.set_cons_succ, i64_w, i32_w]
         rfl
       refine pure_ (i := 4) (N := some 28) (v := ?_) (a' := ?_) #[true, false, false, false, true, false, false, false, false, false, false, false, false, false, false] rfl rfl (any_of HT_.out (by kernel_rfl)) (fun _ _ _ h => h) (Or.inl ⟨by rfl, ?_⟩) ?_ ?_
       rotate_left
       · intro w'
         go_simp
         with_reducible rfl
       rotate_left
       · simp only [Act.put, List.setIfInBounds_toArray, List.set_cons_zero, List.set_cons_succ, i64_w, i32_w]
         rfl
       refine take_ (i := 1) (N := some 25) (v := ?_) (a' := ?_) #[true, true, false, false, true, false, false, false, false, false, false, false, false, false, false] rfl rfl (take_ofW HT_.out HW_.out (by kernel_rfl)) (fun _ _ _ h => h) (Or.inl ⟨by rfl, ?_⟩) hHeld ?_ ?_
       rotate_left
       · rintro w' ⟨s0, s1, s2, s3, s4⟩
         go_simp
         with_reducible rfl
       rotate_left
       · simp only [Act.put, List.setIfInBounds_toArray, List.set_cons_zero, List.set_cons_succ, i64_w, i32_w]
         rfl
       refine take_ (i := 5) (N := some 29) (v := ?_) (a' := ?_) #[true, true, false, false, true, true, false, false, false, false, false, false, false, false, false] rfl rfl (take_ofW HT_.out HW_.out (by kernel_rfl)) (fun _ _ _ h => h) (Or.inl ⟨by rfl, ?_⟩) hHeld ?_ ?_
       rotate_left
       · rintro w' ⟨s0, s1, s2, s3, s4⟩
         go_simp
         with_reducible rfl
       rotate_left
       · simp only [Act.put, List.setIfInBounds_toArray, List.set_cons_zero, List.set_cons_succ, i64_w, i32_w]
         rfl
       refine one_ (i := 2) (N := some 26) #[true, true, true, false, true, true, false, false, false, false, false, false, false, false, false] rfl rfl (one_of HT_.out (by kernel_rfl)) (by decide) (fun K hK => ?_)
       refine goes_ Try.func22 (by kernel_rfl) rfl #[.slice Ao11 t102.length co11, .agg #[.int .i64 t105, .bool t106, .int .i64 t107]] (by rfl) rfl rfl (by (try simp only [List.map_toArray, List.map_cons, List.map_nil]);first | done | rfl | (simp only [List.length_drop, List.length_take];rfl)) ?_
       with_reducible refine (spec_RowCount.calls k _ _ t102 t105 t106 t107 t112 t113 _ ?side1 ?side2 A156.out).mono ?_
       (case side1 => repeat (first | exact (Kd.R_reads' HO104.out).2.2 | (with_reducible refine Kd.C_alloc ?_ _) | (with_reducible refine Kd.C_drewN ?_ _) | (with_reducible refine Kd.C_drew ?_)))
       (case side2 => exact (Kd.R_reads' HO104.out).2.1)
       rintro e w162 ⟨rfl, hb⟩
       refine ⟨_, rfl, ?_⟩
       have n0_ := Aside0.mk (Kd.R_below (by (with_reducible repeat (first | apply Kd.R_alloc | apply Kd.R_drewN | apply Kd.R_drew));exact HO104.out) hb)
       have n1_ := Aside0.mk (blk_below (g := gb108) (o := .cells #[.int .i64 t105, .bool t106, .int .i64 t107] 25 (0, 0)) (by (with_reducible repeat (first | refine blk_drewN ?_ _ | refine blk_drew ?_ | refine blk_alloc ?_ _));exact BK108.out) hb)
       have n2_ := Aside0.mk (blk_below (g := gb111) (o := .cells #[.int .i64 t109, .int .i64 t110] 30 (0, 0)) (by (with_reducible repeat (first | refine blk_drewN ?_ _ | refine blk_drew ?_ | refine blk_alloc ?_ _));exact BK111.out) hb)
       have n3_ := Aside0.mk (below_step (by repeat (first | (with_reducible first | exact HB.out | apply below_alloc | apply pw_below_drewN | apply below_drew1 | refine below_set ?_ GE108.out | refine below_set ?_ GE111.out) | exact HB.out)) hb)
       clear HO104
       clear BK108
       clear BK111
       clear HB
       have HO104 := n0_
       have BK108 := n1_
       have BK111 := n2_
       have HB := n3_
       clear n0_ n1_ n2_ n3_
       (try clear hb)
       (try clear hb2)
       (try clear hk)
       (try clear hi)
       refine hK.out _ _ ⟨(blk_cell BK108.out 0).trans rfl, (blk_cell BK108.out 1).trans rfl, (blk_cell BK108.out 2).trans rfl, (blk_cell BK111.out 0).trans rfl, (blk_cell BK111.out 1).trans rfl⟩ (fun hHeld => ?_)
       clear hK K
       refine norm_ (a' := ?_) ?_ ?_
       rotate_left
       · show Act.put _ (some 26) _ = _
         simp only [Act.put, List.setIfInBounds_toArray, List.set_cons_zero, List.set_cons_succ, i64_w, i32_w]
         rfl
       refine pure_ (i := 3) (N := some 27) (v := ?_) (a' := ?_) #[true, true, true, true, true, true, false, false, false, false, false, false, false, false, false] rfl rfl (any_of HT_.out (by kernel_rfl)) (fun _ _ _ h => h) (Or.inl ⟨by rfl, ?_⟩) ?_ ?_
       rotate_left
       · intro w'
         go_simp
         with_reducible rfl
       rotate_left
       · simp only [Act.put, List.setIfInBounds_toArray, List.set_cons_zero, List.set_cons_succ, i64_w, i32_w]
         rfl
       refine pure_ (i := 6) (N := some 30) (v := ?_) (a' := ?_) #[true, true, true, true, true, true, true, false, false, false, false, false, false, false, false] rfl rfl (any_of HT_.out (by kernel_rfl)) (fun _ _ _ h => h) (Or.inl ⟨by rfl, ?_⟩) ?_ ?_
       rotate_left
       · intro w'
         go_simp
         with_reducible rfl
       rotate_left
       · simp only [Act.put, List.setIfInBounds_toArray, List.set_cons_zero, List.set_cons_succ, i64_w, i32_w]
         rfl
       refine pure_ (i := 7) (N := some 31) (v := ?_) (a' := ?_) #[true, true, true, true, true, true, true, true, false, false, false, false, false, false, false] rfl rfl (any_of HT_.out (by kernel_rfl)) (fun _ _ _ h => h) (Or.inl ⟨by rfl, ?_⟩) ?_ ?_
       rotate_left
       · intro w'
         go_simp
         with_reducible rfl
       rotate_left
       · simp only [Act.put, List.setIfInBounds_toArray, List.set_cons_zero, List.set_cons_succ, i64_w, i32_w]
         rfl
       refine take_ (i := 8) (N := some 32) (v := ?_) (a' := ?_) #[true, true, true, true, true, true, true, true, true, false, false, false, false, false, false] rfl rfl (take_ofW HT_.out HW_.out (by kernel_rfl)) (fun _ _ _ h => h) (Or.inl ⟨by rfl, ?_⟩) hHeld ?_ ?_
       rotate_left
       · rintro w' ⟨s0, s1, s2, s3, s4⟩
         go_simp
         with_reducible rfl
       rotate_left
       · simp only [Act.put, List.setIfInBounds_toArray, List.set_cons_zero, List.set_cons_succ, i64_w, i32_w]
         rfl
       refine take_ (i := 10) (N := some 34) (v := ?_) (a' := ?_) #[true, true, true, true, true, true, true, true, true, false, true, false, false, false, false] rfl rfl (take_ofW HT_.out HW_.out (by kernel_rfl)) (fun _ _ _ h => h) (Or.inl ⟨by rfl, ?_⟩) hHeld ?_ ?_
       rotate_left
       · rintro w' ⟨s0, s1, s2, s3, s4⟩
         go_simp
         with_reducible rfl
       rotate_left
       · simp only [Act.put, List.setIfInBounds_toArray, List.set_cons_zero, List.set_cons_succ, i64_w, i32_w]
         rfl
       refine one_ (i := 9) (N := some 33) #[true, true, true, true, true, true, true, true, true, true, true, false, false, false, false] rfl rfl (one_of HT_.out (by kernel_rfl)) (by decide) (fun K hK => ?_)
       refine goes_ Try.func16 (by kernel_rfl) rfl #[.agg #[.int .i64 t105, .bool t106, .int .i64 t107]] (by rfl) rfl rfl (by (try simp only [List.map_toArray, List.map_cons, List.map_nil]);first | done | rfl | (simp only [List.length_drop, List.length_take];rfl)) ?_
       with_reducible refine (impl_LayoutFault.calls k t105 t106 t107 t114 _ A158.out).mono ?_
       rintro e w163 ⟨rfl, hb⟩
       refine ⟨_, rfl, ?_⟩
       have n0_ := Aside0.mk (Kd.R_below (by (with_reducible repeat (first | apply Kd.R_alloc | apply Kd.R_drewN | apply Kd.R_drew));exact HO104.out) hb)
       have n1_ := Aside0.mk (blk_below (g := gb108) (o := .cells #[.int .i64 t105, .bool t106, .int .i64 t107] 25 (0, 0)) (by (with_reducible repeat (first | refine blk_drewN ?_ _ | refine blk_drew ?_ | refine blk_alloc ?_ _));exact BK108.out) hb)
       have n2_ := Aside0.mk (blk_below (g := gb111) (o := .cells #[.int .i64 t109, .int .i64 t110] 30 (0, 0)) (by (with_reducible repeat (first | refine blk_drewN ?_ _ | refine blk_drew ?_ | refine blk_alloc ?_ _));exact BK111.out) hb)
       have n3_ := Aside0.mk (below_step (by repeat (first | (with_reducible first | exact HB.out | apply below_alloc | apply pw_below_drewN | apply below_drew1 | refine below_set ?_ GE108.out | refine below_set ?_ GE111.out) | exact HB.out)) hb)
       clear HO104
       clear BK108
       clear BK111
       clear HB
       have HO104 := n0_
       have BK108 := n1_
       have BK111 := n2_
       have HB := n3_
       clear n0_ n1_ n2_ n3_
       (try clear hb)
       (try clear hb2)
       (try clear hk)
       (try clear hi)
       refine hK.out _ _ ⟨(blk_cell BK108.out 0).trans rfl, (blk_cell BK108.out 1).trans rfl, (blk_cell BK108.out 2).trans rfl, (blk_cell BK111.out 0).trans rfl, (blk_cell BK111.out 1).trans rfl⟩ (fun hHeld => ?_)
       clear hK K
       refine norm_ (a' := ?_) ?_ ?_
       rotate_left
       · show Act.put _ (some 33) _ = _
         simp only [Act.put, List.setIfInBounds_toArray, List.set_cons_zero, List.set_cons_succ, i64_w, i32_w]
         rfl
       refine one_ (i := 11) (N := some 35) #[true, true, true, true, true, true, true, true, true, true, true, true, false, false, false] rfl rfl (one_of HT_.out (by kernel_rfl)) (by decide) (fun K hK => ?_)
       refine goes_ Try.func14 (by kernel_rfl) rfl #[.agg #[.int .i64 t105, .bool t106, .int .i64 t107]] (by rfl) rfl rfl (by (try simp only [List.map_toArray, List.map_cons, List.map_nil]);first | done | rfl | (simp only [List.length_drop, List.length_take];rfl)) ?_
       with_reducible refine (spec_LayoutFault.calls k t105 t106 t107 t115 _ A159.out).mono ?_
       rintro e w164 ⟨rfl, hb⟩
       refine ⟨_, rfl, ?_⟩
       have n0_ := Aside0.mk (Kd.R_below (by (with_reducible repeat (first | apply Kd.R_alloc | apply Kd.R_drewN | apply Kd.R_drew));exact HO104.out) hb)
       have n1_ := Aside0.mk (blk_below (g := gb108) (o := .cells #[.int .i64 t105, .bool t106, .int .i64 t107] 25 (0, 0)) (by (with_reducible repeat (first | refine blk_drewN ?_ _ | refine blk_drew ?_ | refine blk_alloc ?_ _));exact BK108.out) hb)
       have n2_ := Aside0.mk (blk_below (g := gb111) (o := .cells #[.int .i64 t109, .int .i64 t110] 30 (0, 0)) (by (with_reducible repeat (first | refine blk_drewN ?_ _ | refine blk_drew ?_ | refine blk_alloc ?_ _));exact BK111.out) hb)
       have n3_ := Aside0.mk (below_step (by repeat (first | (with_reducible first | exact HB.out | apply below_alloc | apply pw_below_drewN | apply below_drew1 | refine below_set ?_ GE108.out | refine below_set ?_ GE111.out) | exact HB.out)) hb)
       clear HO104
       clear BK108
       clear BK111
       clear HB
       have HO104 := n0_
       have BK108 := n1_
       have BK111 := n2_
       have HB := n3_
       clear n0_ n1_ n2_ n3_
       (try clear hb)
       (try clear hb2)
       (try clear hk)
       (try clear hi)
       refine hK.out _ _ ⟨(blk_cell BK108.out 0).trans rfl, (blk_cell BK108.out 1).trans rfl, (blk_cell BK108.out 2).trans rfl, (blk_cell BK111.out 0).trans rfl, (blk_cell BK111.out 1).trans rfl⟩ (fun hHeld => ?_)
       clear hK K
       refine norm_ (a' := ?_) ?_ ?_
       rotate_left
       · show Act.put _ (some 35) _ = _
         simp only [Act.put, List.setIfInBounds_toArray, List.set_cons_zero, List.set_cons_succ, i64_w, i32_w]
         rfl
       refine pure_ (i := 12) (N := some 36) (v := ?_) (a' := ?_) #[true, true, true, true, true, true, true, true, true, true, true, true, true, false, false] rfl rfl (any_of HT_.out (by kernel_rfl)) (fun _ _ _ h => h) (Or.inl ⟨by rfl, ?_⟩) ?_ ?_
       rotate_left
       · intro w'
         go_simp
         with_reducible rfl
       rotate_left
       · simp only [Act.put, List.setIfInBounds_toArray, List.set_cons_zero, List.set_cons_succ, i64_w, i32_w]
         rfl
       refine pure_ (i := 13) (N := some 37) (v := ?_) (a' := ?_) #[true, true, true, true, true, true, true, true, true, true, true, true, true, true, false] rfl rfl (any_of HT_.out (by kernel_rfl)) (fun _ _ _ h => h) (Or.inl ⟨by rfl, ?_⟩) ?_ ?_
       rotate_left
       · intro w'
         go_simp
         with_reducible rfl
       rotate_left
       · simp only [Act.put, List.setIfInBounds_toArray, List.set_cons_zero, List.set_cons_succ, i64_w, i32_w]
         rfl
       refine pure_ (i := 14) (N := some 2) (v := ?_) (a' := ?_) #[true, true, true, true, true, true, true, true, true, true, true, true, true, true, true] rfl rfl (any_of HT_.out (by kernel_rfl)) (fun _ _ _ h => h) (Or.inl ⟨by rfl, ?_⟩) ?_ ?_
       rotate_left
       · intro w'
         go_simp
         with_reducible rfl
       rotate_left
       · simp only [Act.put, List.setIfInBounds_toArray, List.set_cons_zero, List.set_cons_succ, i64_w, i32_w]
         rfl
       refine done_ (done_of HT_.out (by kernel_rfl)) ?_
       try go_wp2
       go_ret
       exact ⟨by first | rfl | (simp [errW_none, errW_some] <;> rfl) | (simp [*, errW_none, errW_some] <;> rfl), by repeat (first | (with_reducible first | exact HB.out | apply below_alloc | apply pw_below_drewN | apply below_drew1 | refine below_set ?_ GE108.out | refine below_set ?_ GE111.out) | exact HB.out)⟩
     · rw [if_neg c157] at H
       have c157b0 : (t112 == t109) = false := beq_eq_false_iff_ne.mpr c157
       have c157b1 : (t112 != t109) = true := bne_iff_ne.mpr c157
       obtain rfl := Option.some.inj H
       try go_wp2
       have n0_ : Aside0 (Kd.R (Kd.int .u8) 5 ((w13.setCell ⟨gb111, 0, none⟩ (.int .i64 t109)).setCell ⟨gb111, 1, none⟩ (.int .i64 t110)) w.heap.size (fun _ => True) (.slice Ao11 t102.length co11) t102) := ⟨by (with_reducible repeat (first | apply Kd.R_alloc | apply Kd.R_drewN | apply Kd.R_drew));exact Kd.R_mono (Kd.R_far (p := ⟨gb111, 1, none⟩) (Kd.R_far (p := ⟨gb111, 0, none⟩) (Kd.R_types HO104.out BK111.out (by decide)) (fun _ hk => hk.2) (.int .i64 t109)) (fun _ hk => hk.2) (.int .i64 t110)) (fun _ hk => trivial)⟩
       have n1_ : Aside0 (((w13.setCell ⟨gb111, 0, none⟩ (.int .i64 t109)).setCell ⟨gb111, 1, none⟩ (.int .i64 t110)).heap[gb108]? = some (.cells #[.int .i64 t105, .bool t106, .int .i64 t107] 25 (0, 0))) := ⟨by (with_reducible repeat (first | refine blk_drewN ?_ _ | refine blk_drew ?_ | refine blk_alloc ?_ _));refine blk_far ?_ NB108_111.out _;(with_reducible repeat (first | refine blk_drewN ?_ _ | refine blk_drew ?_ | refine blk_alloc ?_ _));refine blk_far ?_ NB108_111.out _;(with_reducible repeat (first | refine blk_drewN ?_ _ | refine blk_drew ?_ | refine blk_alloc ?_ _));exact BK108.out⟩
       have n2_ : Aside0 (((w13.setCell ⟨gb111, 0, none⟩ (.int .i64 t109)).setCell ⟨gb111, 1, none⟩ (.int .i64 t110)).heap[gb111]? = some (.cells #[.int .i64 t109, .int .i64 t110] 30 (0, 0))) := ⟨by (with_reducible repeat (first | refine blk_drewN ?_ _ | refine blk_drew ?_ | refine blk_alloc ?_ _));refine blk_put (cs := #[.int .i64 t109, .int .i64 0]) ?_ 1 _ rfl;(with_reducible repeat (first | refine blk_drewN ?_ _ | refine blk_drew ?_ | refine blk_alloc ?_ _));refine blk_put (cs := #[.int .i64 0, .int .i64 0]) ?_ 0 _ rfl;(with_reducible repeat (first | refine blk_drewN ?_ _ | refine blk_drew ?_ | refine blk_alloc ?_ _));exact BK111.out⟩
       have n3_ : Aside0 (Below w.heap.size w ((w13.setCell ⟨gb111, 0, none⟩ (.int .i64 t109)).setCell ⟨gb111, 1, none⟩ (.int .i64 t110))) := ⟨by repeat (first | (with_reducible first | exact HB.out | apply below_alloc | apply pw_below_drewN | apply below_drew1 | refine below_set ?_ GE108.out | refine below_set ?_ GE111.out) | exact HB.out)⟩
       (try clear HO104)
       (try clear BK108)
       (try clear BK111)
       (try clear HB)
       generalize ((w13.setCell ⟨gb111, 0, none⟩ (.int .i64 t109)).setCell ⟨gb111, 1, none⟩ (.int .i64 t110)) = w165 at n0_ n1_ n2_ n3_ ⊢
       have HO104 := n0_
       have BK108 := n1_
       have BK111 := n2_
       have HB := n3_
       clear n0_ n1_ n2_ n3_
       have n0_ := Aside0.mk (Kd.R_drew HO104.out)
       have n1_ := Aside0.mk (blk_drew BK108.out)
       have n2_ := Aside0.mk (blk_drew BK111.out)
       have n3_ := Aside0.mk (below_drew1 HB.out)
       clear HO104
       clear BK108
       clear BK111
       clear HB
       have HO104 := n0_
       have BK108 := n1_
       have BK111 := n2_
       have HB := n3_
       clear n0_ n1_ n2_ n3_
       refine start_ (n := 15) (S := fun w' => w'.cell? ⟨gb108, 0, none⟩ = some (.int .i64 t105) ∧ w'.cell? ⟨gb108, 1, none⟩ = some (.bool t106) ∧ w'.cell? ⟨gb108, 2, none⟩ = some (.int .i64 t107) ∧ w'.cell? ⟨gb111, 0, none⟩ = some (.int .i64 t109) ∧ w'.cell? ⟨gb111, 1, none⟩ = some (.int .i64 t110)) (ds := []) #[false, false, false, false, false, false, false, false, false, false, false, false, false, false, false] (by kernel_rfl) rfl rfl ⟨(blk_cell BK108.out 0).trans rfl, (blk_cell BK108.out 1).trans rfl, (blk_cell BK108.out 2).trans rfl, (blk_cell BK111.out 0).trans rfl, (blk_cell BK111.out 1).trans rfl⟩ (fun hHeld => ?_);refine with_tabW laws_FnRows.tab6 laws_FnRows.bits6 (fun HT_ HW_ => ?_)
       generalize w165.drew = w166 at HO104 BK108 BK111 HB hHeld ⊢
       refine pure_ (i := 0) (N := some 24) (v := ?_) (a' := ?_) #[true, false, false, false, false, false, false, false, false, false, false, false, false, false, false] rfl rfl (any_of HT_.out (by kernel_rfl)) (fun _ _ _ h => h) (Or.inl ⟨by rfl, ?_⟩) ?_ ?_
       rotate_left
       · intro w'
         go_simp
         with_reducible rfl
       rotate_left
       · simp only [Act.put, List.setIfInBounds_toArray, List.set_cons_zero, List.set_cons_succ, i64_w, i32_w]
         rfl
       refine pure_ (i := 4) (N := some 28) (v := ?_) (a' := ?_) #[true, false, false, false, true, false, false, false, false, false, false, false, false, false, false] rfl rfl (any_of HT_.out (by kernel_rfl)) (fun _ _ _ h => h) (Or.inl ⟨by rfl, ?_⟩) ?_ ?_
       rotate_left
       · intro w'
         go_simp
         with_reducible rfl
       rotate_left
       · simp only [Act.put, List.setIfInBounds_toArray, List.set_cons_zero, List.set_cons_succ, i64_w, i32_w]
         rfl
       refine take_ (i := 1) (N := some 25) (v := ?_) (a' := ?_) #[true, true, false, false, true, false, false, false, false, false, false, false, false, false, false] rfl rfl (take_ofW HT_.out HW_.out (by kernel_rfl)) (fun _ _ _ h => h) (Or.inl ⟨by rfl, ?_⟩) hHeld ?_ ?_
       rotate_left
       · rintro w' ⟨s0, s1, s2, s3, s4⟩
         go_simp
         with_reducible rfl
       rotate_left
       · simp only [Act.put, List.setIfInBounds_toArray, List.set_cons_zero, List.set_cons_succ, i64_w, i32_w]
         rfl
       refine take_ (i := 5) (N := some 29) (v := ?_) (a' := ?_) #[true, true, false, false, true, true, false, false, false, false, false, false, false, false, false] rfl rfl (take_ofW HT_.out HW_.out (by kernel_rfl)) (fun _ _ _ h => h) (Or.inl ⟨by rfl, ?_⟩) hHeld ?_ ?_
       rotate_left
       · rintro w' ⟨s0, s1, s2, s3, s4⟩
         go_simp
         with_reducible rfl
       rotate_left
       · simp only [Act.put, List.setIfInBounds_toArray, List.set_cons_zero, List.set_cons_succ, i64_w, i32_w]
         rfl
       refine one_ (i := 2) (N := some 26) #[true, true, true, false, true, true, false, false, false, false, false, false, false, false, false] rfl rfl (one_of HT_.out (by kernel_rfl)) (by decide) (fun K hK => ?_)
       refine goes_ Try.func22 (by kernel_rfl) rfl #[.slice Ao11 t102.length co11, .agg #[.int .i64 t105, .bool t106, .int .i64 t107]] (by rfl) rfl rfl (by (try simp only [List.map_toArray, List.map_cons, List.map_nil]);first | done | rfl | (simp only [List.length_drop, List.length_take];rfl)) ?_
       with_reducible refine (spec_RowCount.calls k _ _ t102 t105 t106 t107 t112 t113 _ ?side1 ?side2 A156.out).mono ?_
       (case side1 => repeat (first | exact (Kd.R_reads' HO104.out).2.2 | (with_reducible refine Kd.C_alloc ?_ _) | (with_reducible refine Kd.C_drewN ?_ _) | (with_reducible refine Kd.C_drew ?_)))
       (case side2 => exact (Kd.R_reads' HO104.out).2.1)
       rintro e w167 ⟨rfl, hb⟩
       refine ⟨_, rfl, ?_⟩
       have n0_ := Aside0.mk (Kd.R_below (by (with_reducible repeat (first | apply Kd.R_alloc | apply Kd.R_drewN | apply Kd.R_drew));exact HO104.out) hb)
       have n1_ := Aside0.mk (blk_below (g := gb108) (o := .cells #[.int .i64 t105, .bool t106, .int .i64 t107] 25 (0, 0)) (by (with_reducible repeat (first | refine blk_drewN ?_ _ | refine blk_drew ?_ | refine blk_alloc ?_ _));exact BK108.out) hb)
       have n2_ := Aside0.mk (blk_below (g := gb111) (o := .cells #[.int .i64 t109, .int .i64 t110] 30 (0, 0)) (by (with_reducible repeat (first | refine blk_drewN ?_ _ | refine blk_drew ?_ | refine blk_alloc ?_ _));exact BK111.out) hb)
       have n3_ := Aside0.mk (below_step (by repeat (first | (with_reducible first | exact HB.out | apply below_alloc | apply pw_below_drewN | apply below_drew1 | refine below_set ?_ GE108.out | refine below_set ?_ GE111.out) | exact HB.out)) hb)
       clear HO104
       clear BK108
       clear BK111
       clear HB
       have HO104 := n0_
       have BK108 := n1_
       have BK111 := n2_
       have HB := n3_
       clear n0_ n1_ n2_ n3_
       (try clear hb)
       (try clear hb2)
       (try clear hk)
       (try clear hi)
       refine hK.out _ _ ⟨(blk_cell BK108.out 0).trans rfl, (blk_cell BK108.out 1).trans rfl, (blk_cell BK108.out 2).trans rfl, (blk_cell BK111.out 0).trans rfl, (blk_cell BK111.out 1).trans rfl⟩ (fun hHeld => ?_)
       clear hK K
       refine norm_ (a' := ?_) ?_ ?_
       rotate_left
       · show Act.put _ (some 26) _ = _
         simp only [Act.put, List.setIfInBounds_toArray, List.set_cons_zero, List.set_cons_succ, i64_w, i32_w]
         rfl
       refine pure_ (i := 3) (N := some 27) (v := ?_) (a' := ?_) #[true, true, true, true, true, true, false, false, false, false, false, false, false, false, false] rfl rfl (any_of HT_.out (by kernel_rfl)) (fun _ _ _ h => h) (Or.inl ⟨by rfl, ?_⟩) ?_ ?_
       rotate_left
       · intro w'
         go_simp
         with_reducible rfl
       rotate_left
       · simp only [Act.put, List.setIfInBounds_toArray, List.set_cons_zero, List.set_cons_succ, i64_w, i32_w]
         rfl
       refine pure_ (i := 6) (N := some 30) (v := ?_) (a' := ?_) #[true, true, true, true, true, true, true, false, false, false, false, false, false, false, false] rfl rfl (any_of HT_.out (by kernel_rfl)) (fun _ _ _ h => h) (Or.inl ⟨by rfl, ?_⟩) ?_ ?_
       rotate_left
       · intro w'
         go_simp
         with_reducible rfl
       rotate_left
       · simp only [Act.put, List.setIfInBounds_toArray, List.set_cons_zero, List.set_cons_succ, i64_w, i32_w]
         rfl
       refine pure_ (i := 7) (N := some 31) (v := ?_) (a' := ?_) #[true, true, true, true, true, true, true, true, false, false, false, false, false, false, false] rfl rfl (any_of HT_.out (by kernel_rfl)) (fun _ _ _ h => h) (Or.inl ⟨by rfl, ?_⟩) ?_ ?_
       rotate_left
       · intro w'
         go_simp
         with_reducible rfl
       rotate_left
       · simp only [Act.put, List.setIfInBounds_toArray, List.set_cons_zero, List.set_cons_succ, i64_w, i32_w]
         rfl
       refine pure_ (i := 8) (N := some 32) (v := undef) (a' := ?_) #[true, true, true, true, true, true, true, true, true, false, false, false, false, false, false] rfl rfl (any_of HT_.out (by kernel_rfl)) (fun _ _ _ h => h) (Or.inr ⟨by rfl, rfl⟩) ?_ ?_
       rotate_left
       · simp only [Act.put, List.setIfInBounds_toArray, List.set_cons_zero, List.set_cons_succ, i64_w, i32_w]
         rfl
       refine pure_ (i := 9) (N := some 33) (v := undef) (a' := ?_) #[true, true, true, true, true, true, true, true, true, true, false, false, false, false, false] rfl rfl (any_of HT_.out (by kernel_rfl)) (fun _ _ _ h => h) (Or.inr ⟨by rfl, rfl⟩) ?_ ?_
       rotate_left
       · simp only [Act.put, List.setIfInBounds_toArray, List.set_cons_zero, List.set_cons_succ, i64_w, i32_w]
         rfl
       refine pure_ (i := 10) (N := some 34) (v := undef) (a' := ?_) #[true, true, true, true, true, true, true, true, true, true, true, false, false, false, false] rfl rfl (any_of HT_.out (by kernel_rfl)) (fun _ _ _ h => h) (Or.inr ⟨by rfl, rfl⟩) ?_ ?_
       rotate_left
       · simp only [Act.put, List.setIfInBounds_toArray, List.set_cons_zero, List.set_cons_succ, i64_w, i32_w]
         rfl
       refine pure_ (i := 11) (N := some 35) (v := undef) (a' := ?_) #[true, true, true, true, true, true, true, true, true, true, true, true, false, false, false] rfl rfl (any_of HT_.out (by kernel_rfl)) (fun _ _ _ h => h) (Or.inr ⟨by rfl, rfl⟩) ?_ ?_
       rotate_left
       · simp only [Act.put, List.setIfInBounds_toArray, List.set_cons_zero, List.set_cons_succ, i64_w, i32_w]
         rfl
       refine pure_ (i := 12) (N := some 36) (v := undef) (a' := ?_) #[true, true, true, true, true, true, true, true, true, true, true, true, true, false, false] rfl rfl (any_of HT_.out (by kernel_rfl)) (fun _ _ _ h => h) (Or.inr ⟨by rfl, rfl⟩) ?_ ?_
       rotate_left
       · simp only [Act.put, List.setIfInBounds_toArray, List.set_cons_zero, List.set_cons_succ, i64_w, i32_w]
         rfl
       refine pure_ (i := 13) (N := some 37) (v := ?_) (a' := ?_) #[true, true, true, true, true, true, true, true, true, true, true, true, true, true, false] rfl rfl (any_of HT_.out (by kernel_rfl)) (fun _ _ _ h => h) (Or.inl ⟨by rfl, ?_⟩) ?_ ?_
       rotate_left
       · intro w'
         go_simp
         with_reducible rfl
       rotate_left
       · simp only [Act.put, List.setIfInBounds_toArray, List.set_cons_zero, List.set_cons_succ, i64_w, i32_w]
         rfl
       refine pure_ (i := 14) (N := some 2) (v := ?_) (a' := ?_) #[true, true, true, true, true, true, true, true, true, true, true, true, true, true, true] rfl rfl (any_of HT_.out (by kernel_rfl)) (fun _ _ _ h => h) (Or.inl ⟨by rfl, ?_⟩) ?_ ?_
       rotate_left
       · intro w'
         go_simp
         with_reducible rfl
       rotate_left
       · simp only [Act.put, List.setIfInBounds_toArray, List.set_cons_zero, List.set_cons_succ, i64_w, i32_w]
         rfl
       refine done_ (done_of HT_.out (by kernel_rfl)) ?_
       try go_wp2
       go_ret
       exact ⟨by first | rfl | (simp [errW_none, errW_some] <;> rfl) | (simp [*, errW_none, errW_some] <;> rfl), by repeat (first | (with_reducible first | exact HB.out | apply below_alloc | apply pw_below_drewN | apply below_drew1 | refine below_set ?_ GE108.out | refine below_set ?_ GE111.out) | exact HB.out)⟩
/-- THE ONE PURE STATEMENT of laws_FnRows: yours. -/
def laws_FnRows.Pure : Prop := ∀ (l0 : List Int), l0.length ≤ maxLen → l0.length * 1 ≤ 140737488351232 → (∀ x ∈ l0, (Lit.int .u8 x).wf = true) → ∃ k, laws_FnRows.f k l0 = some true
theorem laws_FnRows.walk (P : laws_FnRows.Pure) (a0 : Option Addr) (len0 cap0 : Nat) (z0 : List Int) (w : World) (w0 : (a0 = none ∧ len0 = 0 ∧ cap0 = 0 ∧ z0 = []) ∨ ∃ x, a0 = some x ∧ len0 ≤ cap0 ∧ cap0 ≤ maxLen ∧ z0.length = cap0 ∧ (∀ i, i < z0.length → w.cell? (x.add i) = some (.int .u8 (z0.getD i 0))) ∧ ∀ n ∈ z0, (Lit.int .u8 n).wf = true) (y0 : len0 * 1 ≤ 140737488351232) :
 Calls Try.prog 8 #[.slice a0 len0 cap0] w fun e w' => e = .returned (.bool true) ∧ Below w.heap.size w w' := by
 obtain ⟨l0, rfl, hr0, hm0, hw0, hc0⟩ := ReadsInt.ofRowC w0
 obtain ⟨k, h⟩ := P l0 hm0 y0 hw0
 refine (laws_FnRows.calls k _ _ l0 true w (Kd.C_of_reads (d := (0 : Int)) (h1 := fun _ => rfl) hr0) hc0 h).mono ?_
 rintro e w' ⟨rfl, hd⟩
 exact ⟨rfl, hd⟩
end Go.Proofs.Ytcinaflmpdmdaaa.Q
end
section
namespace Go.Proofs.Ytcinaflmpdmdaaa.L
open Go.RowKit Go.Proofs.YtcinaflmpdmdaaaW.PrintWords Go.Proofs.YtcinaflmpdmdaaaW.PrintLast Go.Proofs.YtcinaflmpdmdaaaW.PrintMore
theorem w64 {x : Int} (h0 : -9223372036854775808 ≤ x) (h1 : x ≤ 9223372036854775807) : wrap64 x = x := by unfold wrap64; omega
theorem len1 {α : Type} : ∀ {l : List α}, l.length = 1 → ∃ a, l = [a] | [a], _ => ⟨a, rfl⟩
theorem len2 {α : Type} : ∀ {l : List α}, l.length = 2 → ∃ a b, l = [a, b] | [a, b], _ => ⟨a, b, rfl⟩
theorem len3 {α : Type} : ∀ {l : List α}, l.length = 3 → ∃ a b c, l = [a, b, c] | [a, b, c], _ => ⟨a, b, c, rfl⟩
theorem len5 {α : Type} : ∀ {l : List α}, l.length = 5 → ∃ a b c d e, l = [a, b, c, d, e] | [a, b, c, d, e], _ => ⟨a, b, c, d, e, rfl⟩
theorem len8 {α : Type} : ∀ {l : List α}, l.length = 8 → ∃ a b c d e f g h, l = [a, b, c, d, e, f, g, h] | [a, b, c, d, e, f, g, h], _ => ⟨a, b, c, d, e, f, g, h, rfl⟩
theorem Ev.succ {α : Type} {g : Nat → Option α} {r : α} (h : Ev (fun k => g (k + 1)) r) : Ev g r := Ev.step (fun _ => rfl) h
theorem Ev.eq {α : Type} {g : Nat → Option α} {r r' : α} (h : Ev g r) (e : r = r') : Ev g r' := e ▸ h
theorem Ev.pos {α : Type} {c : Prop} [Decidable c] {f g : Nat → Option α} {r : α} (hc : c) (h : Ev f r) : Ev (fun k => if c then f k else g k) r := Ev.congr (fun k => if_pos hc) h
theorem Ev.neg {α : Type} {c : Prop} [Decidable c] {f g : Nat → Option α} {r : α} (hc : ¬ c) (h : Ev g r) : Ev (fun k => if c then f k else g k) r := Ev.congr (fun k => if_neg hc) h
/-- A callee without rounds. -/
theorem Ev.bind0 {α β : Type} {o : Option α} {f : Nat → α → Option β} {a : α} {r : β} (h : o = some a) (k : Ev (fun n => f n a) r) : Ev (fun n => o.bind (f n)) r := Ev.congr (fun n => by rw [h]; rfl) k
theorem Ev.bind1 {α β : Type} {g : Nat → Option α} {f : Nat → α → Option β} {a : α} {r : β} (h : Ev g a) (k : Ev (fun n => f n a) r) : Ev (fun n => (g n).bind (f n)) r := Ev.bind h k
theorem Ev.one {α : Type} {o : Option α} {r : α} (h : o = some r) : Ev (fun _ => o) r := ⟨0, fun _ _ => h⟩
theorem rd_nat (l : List Int) (i : Nat) (h : i < l.length) : rd l (i : Int) = l[i] := by simp [rd, List.getD_eq_getElem?_getD, h]
theorem rd_get? {l : List Int} {i : Nat} {x : Int} (h : l[i]? = some x) : rd l (i : Int) = x := by simp [rd, List.getD_eq_getElem?_getD, h]
/-- Copying element by element into as many places. -/
theorem copy_loop {α : Type} (g : Nat → List α → Int → Option (List α)) (xs : List α) (step : ∀ k (ys : List α) (i : Nat) (h : i < xs.length), ys.length = xs.length → g (k + 1) ys i = g k (ys.set i xs[i]) ((i + 1 : Nat) : Int))
    (fin : ∀ k (ys : List α), g (k + 1) ys xs.length = some ys) : ∀ (d i : Nat) (ys : List α), xs.length - i = d → i ≤ xs.length → ys.length = xs.length → Ev (fun k => g k (xs.take i ++ ys.drop i) i) xs
  | 0, i, ys, hd, hi, hl => by
    obtain rfl : i = xs.length := by omega
    refine Ev.succ (Ev.congr (fun k => fin k _) (Ev.one ?_))
    rw [List.take_length, ← hl, List.drop_length, List.append_nil]
  | d + 1, i, ys, hd, hi, hl => by
    have h : i < xs.length := by omega
    refine Ev.succ (Ev.congr (fun k => step k _ i h (by simp; omega)) ?_)
    have := copy_loop g xs step fin d (i + 1) ys (by omega) (by omega) hl
    refine Ev.congr (fun k => ?_) this
    congr 1
    rw [List.set_append_right _ _ (by simp; omega), List.take_succ_eq_append_getElem h, List.append_assoc]
    congr 1
    rw [List.length_take, Nat.min_eq_left (by omega), Nat.sub_self, List.drop_eq_getElem_cons (by omega : i < ys.length), List.set_cons_zero]
    rfl
theorem copy_all {α : Type} (g : Nat → List α → Int → Option (List α)) (xs : List α) (z : α) (step : ∀ k (ys : List α) (i : Nat) (h : i < xs.length), ys.length = xs.length → g (k + 1) ys i = g k (ys.set i xs[i]) ((i + 1 : Nat) : Int))
    (fin : ∀ k (ys : List α), g (k + 1) ys xs.length = some ys) : Ev (fun k => g k (List.replicate xs.length z) 0) xs := by
  have := copy_loop g xs step fin xs.length 0 (List.replicate xs.length z) rfl (by omega) (by simp)
  simpa using this
/-- A loop over places that only goes on. -/
theorem all_loop {β : Type} (g : Nat → Int → Option β) (n : Nat) (r : β) (step : ∀ k (i : Nat), i < n → g (k + 1) i = g k ((i + 1 : Nat) : Int)) (fin : ∀ k, g (k + 1) n = some r) : ∀ (d i : Nat), n - i = d → i ≤ n → Ev (fun k => g k i) r
  | 0, i, hd, hi => by
    obtain rfl : i = n := by omega
    exact Ev.succ (Ev.congr (fun k => fin k) (Ev.now _))
  | d + 1, i, hd, hi => Ev.succ (Ev.congr (fun k => step k i (by omega)) (all_loop g n r step fin d (i + 1) (by omega) (by omega)))
theorem all_all {β : Type} (g : Nat → Int → Option β) (n : Nat) (r : β) (step : ∀ k (i : Nat), i < n → g (k + 1) i = g k ((i + 1 : Nat) : Int)) (fin : ∀ k, g (k + 1) n = some r) : Ev (fun k => g k 0) r := all_loop g n r step fin n 0 rfl (by omega)
/-- The same where a round calls what has rounds of its own. -/
theorem ev_loop {β : Type} (g : Nat → Int → Option β) (n : Nat) (r : β) (step : ∀ (i : Nat), i < n → Ev (fun k => g k ((i + 1 : Nat) : Int)) r → Ev (fun k => g (k + 1) i) r) (fin : Ev (fun k => g (k + 1) n) r) : ∀ (d i : Nat), n - i = d → i ≤ n → Ev (fun k => g k i) r
  | 0, i, hd, hi => by
    obtain rfl : i = n := by omega
    exact Ev.succ fin
  | d + 1, i, hd, hi => Ev.succ (step i (by omega) (ev_loop g n r step fin d (i + 1) (by omega) (by omega)))
theorem ev_all {β : Type} (g : Nat → Int → Option β) (n : Nat) (r : β) (step : ∀ (i : Nat), i < n → Ev (fun k => g k ((i + 1 : Nat) : Int)) r → Ev (fun k => g (k + 1) i) r) (fin : Ev (fun k => g (k + 1) n) r) : Ev (fun k => g k 0) r := ev_loop g n r step fin n 0 rfl (by omega)
/-- Marks: element j gets mk x_j (m + c * j). -/
def marked {α : Type} (mk : α → Int → α) (c : Int) : Int → List α → List α
  | _, [] => []
  | m, x :: xs => mk x m :: marked mk c (m + c) xs
theorem marked_length {α : Type} (mk : α → Int → α) (c : Int) : ∀ (m : Int) (xs : List α), (marked mk c m xs).length = xs.length
  | _, [] => rfl
  | m, x :: xs => by simp [marked, marked_length mk c (m + c) xs]
theorem marked_get {α : Type} (mk : α → Int → α) (c : Int) : ∀ (m : Int) (xs : List α) (j : Nat) (h : j < xs.length), (marked mk c m xs)[j]'(by rw [marked_length]; exact h) = mk xs[j] (m + c * j)
  | m, x :: xs, 0, _ => by simp [marked]
  | m, x :: xs, j + 1, h => by
    simp only [marked, List.getElem_cons_succ]
    rw [marked_get mk c (m + c) xs j (by simpa using h)]
    congr 1
    have : c * ((j + 1 : Nat) : Int) = c * (j : Int) + c := by rw [Int.natCast_add, Int.mul_add]; simp
    omega
theorem mark_loop {α : Type} (g : Nat → List α → Int → Int → Option (Int × List α)) (mk : α → Int → α) (c : Int) (hc : 0 ≤ c) (hc2 : c ≤ 4096) (xs : List α) (m : Int) (hm0 : 0 ≤ m) (hm : m + c * xs.length ≤ 4611686018427387904)
    (step : ∀ k (ys : List α) (i : Nat) (q : Int) (h : i < xs.length) (hl : ys.length = xs.length), ys[i] = xs[i] → 0 ≤ q → q ≤ 4611686018427387904 → g (k + 1) ys q i = g k (ys.set i (mk xs[i] q)) (q + c) ((i + 1 : Nat) : Int))
    (fin : ∀ k (ys : List α) (q : Int), ys.length = xs.length → g (k + 1) ys q xs.length = some (q, ys)) : ∀ (d i : Nat), xs.length - i = d → i ≤ xs.length → Ev (fun k => g k ((marked mk c m xs).take i ++ xs.drop i) (m + c * i) i) (m + c * xs.length, marked mk c m xs)
  | 0, i, hd, hi => by
    obtain rfl : i = xs.length := by omega
    refine Ev.succ (Ev.congr (fun k => fin k _ _ (by simp [marked_length])) (Ev.one ?_))
    rw [List.drop_length, List.append_nil, List.take_of_length_le (by rw [marked_length]; omega)]
  | d + 1, i, hd, hi => by
    have h : i < xs.length := by omega
    have hM : (marked mk c m xs).length = xs.length := marked_length mk c m xs
    have hle : c * (i : Int) ≤ c * (xs.length : Int) := Int.mul_le_mul_of_nonneg_left (by omega) hc
    have hge : 0 ≤ c * (i : Int) := Int.mul_nonneg hc (by omega)
    refine Ev.succ (Ev.congr (fun k => step k _ i _ h (by simp; omega) ?_ (by omega) (by omega)) ?_)
    · rw [List.getElem_append_right (by simp; omega)]
      simp [Nat.min_eq_left (Nat.le_of_lt h), hM, List.length_take]
    · have := mark_loop g mk c hc hc2 xs m hm0 hm step fin d (i + 1) (by omega) (by omega)
      have e : m + c * (i : Int) + c = m + c * ((i + 1 : Nat) : Int) := by rw [Int.natCast_add, Int.mul_add]; simp; omega
      refine Ev.congr (fun k => ?_) this
      rw [e]
      congr 1
      rw [List.set_append_right _ _ (by simp; omega), List.take_succ_eq_append_getElem (by omega : i < (marked mk c m xs).length), List.append_assoc, marked_get mk c m xs i h]
      congr 1
      rw [List.length_take, Nat.min_eq_left (by omega), Nat.sub_self, List.drop_eq_getElem_cons h, List.set_cons_zero]
      rfl
theorem mark_all {α : Type} (g : Nat → List α → Int → Int → Option (Int × List α)) (mk : α → Int → α) (c : Int) (hc : 0 ≤ c) (hc2 : c ≤ 4096) (xs : List α) (m : Int) (hm0 : 0 ≤ m) (hm : m + c * xs.length ≤ 4611686018427387904)
    (step : ∀ k (ys : List α) (i : Nat) (q : Int) (h : i < xs.length) (hl : ys.length = xs.length), ys[i] = xs[i] → 0 ≤ q → q ≤ 4611686018427387904 → g (k + 1) ys q i = g k (ys.set i (mk xs[i] q)) (q + c) ((i + 1 : Nat) : Int))
    (fin : ∀ k (ys : List α) (q : Int), ys.length = xs.length → g (k + 1) ys q xs.length = some (q, ys)) : Ev (fun k => g k xs m 0) (m + c * xs.length, marked mk c m xs) := by
  have := mark_loop g mk c hc hc2 xs m hm0 hm step fin xs.length 0 (by omega) (by omega)
  simpa using this
/-- Held: the marks are found again. -/
theorem held_loop {α : Type} (g : Nat → Int → Int → Option Int) (c : Int) (hc : 0 ≤ c) (n : Nat) (m : Int) (hm0 : 0 ≤ m) (hm : m + c * n ≤ 4611686018427387904)
    (step : ∀ k (i : Nat), i < n → 0 ≤ m + c * i → m + c * i ≤ 4611686018427387904 → g (k + 1) (m + c * i) i = g k (m + c * i + c) ((i + 1 : Nat) : Int)) (fin : ∀ k (q : Int), g (k + 1) q n = some q) : ∀ (d i : Nat), n - i = d → i ≤ n → Ev (fun k => g k (m + c * i) i) (m + c * n)
  | 0, i, hd, hi => by
    obtain rfl : i = n := by omega
    exact Ev.succ (Ev.congr (fun k => fin k _) (Ev.now _))
  | d + 1, i, hd, hi => by
    have hle : c * (i : Int) ≤ c * (n : Int) := Int.mul_le_mul_of_nonneg_left (by omega) hc
    have hge : 0 ≤ c * (i : Int) := Int.mul_nonneg hc (by omega)
    have e : m + c * (i : Int) + c = m + c * ((i + 1 : Nat) : Int) := by rw [Int.natCast_add, Int.mul_add]; simp; omega
    refine Ev.succ (Ev.congr (fun k => step k i (by omega) (by omega) (by omega)) ?_)
    rw [e]
    exact held_loop (α := α) g c hc n m hm0 hm step fin d (i + 1) (by omega) (by omega)
theorem held_all (g : Nat → Int → Int → Option Int) (c : Int) (hc : 0 ≤ c) (n : Nat) (m : Int) (hm0 : 0 ≤ m) (hm : m + c * n ≤ 4611686018427387904)
    (step : ∀ k (i : Nat), i < n → 0 ≤ m + c * i → m + c * i ≤ 4611686018427387904 → g (k + 1) (m + c * i) i = g k (m + c * i + c) ((i + 1 : Nat) : Int)) (fin : ∀ k (q : Int), g (k + 1) q n = some q) : Ev (fun k => g k m 0) (m + c * n) := by
  have := held_loop (α := Unit) g c hc n m hm0 hm step fin n 0 (by omega) (by omega)
  simpa using this
end Go.Proofs.Ytcinaflmpdmdaaa.L
end
section
namespace Go.Proofs.Ytcinaflmpdmdaaa.Q
open Go.RowKit Go.Proofs.YtcinaflmpdmdaaaW.PrintWords Go.Proofs.YtcinaflmpdmdaaaW.PrintLast Go.Proofs.YtcinaflmpdmdaaaW.PrintMore Go.Proofs.Ytcinaflmpdmdaaa.L
theorem rd_cell (l : List S46) (i : Nat) (h : i < l.length) : rd_T46 l (i : Int) = l[i] := by simp [rd_T46, List.getD_eq_getElem?_getD, h]
theorem rd_cell_set (l : List S46) (i : Nat) (h : i < l.length) (x : S46) : rd_T46 (l.set i x) (i : Int) = x := by simp [rd_T46, List.getD_eq_getElem?_getD, h]
end Go.Proofs.Ytcinaflmpdmdaaa.Q
end
section
namespace Go.Proofs.Ytcinaflmpdmdaaa.Q
open Go.RowKit Go.Proofs.YtcinaflmpdmdaaaW.PrintWords Go.Proofs.YtcinaflmpdmdaaaW.PrintLast Go.Proofs.YtcinaflmpdmdaaaW.PrintMore Go.Proofs.Ytcinaflmpdmdaaa.L
theorem within_eq (a b c : Int) : impl_within.f a b c = some (decide (b ≤ a ∧ a ≤ c)) := by
  unfold impl_within.f
  by_cases h : b ≤ a <;> simp [h]
theorem l1In_eq (a b c : Int) : spec_l1In.f a b c = some (decide (b ≤ a ∧ a ≤ c)) := by
  unfold spec_l1In.f
  by_cases h : b ≤ a <;> simp [h]
end Go.Proofs.Ytcinaflmpdmdaaa.Q
end
section
namespace Go.Proofs.Ytcinaflmpdmdaaa.Q
open Go.RowKit Go.Proofs.YtcinaflmpdmdaaaW.PrintWords Go.Proofs.YtcinaflmpdmdaaaW.PrintLast Go.Proofs.YtcinaflmpdmdaaaW.PrintMore Go.Proofs.Ytcinaflmpdmdaaa.L
def layF (wd : Int) (ch : Bool) (sh : Int) : Int := if (1 ≤ wd ∧ wd ≤ 40) ∧ (0 ≤ sh ∧ sh ≤ 400) then (if ch = true ∨ sh = 0 then 0 else 1) else 3
theorem layF_zero {wd : Int} {ch : Bool} {sh : Int} (h : layF wd ch sh = 0) : 1 ≤ wd ∧ wd ≤ 40 ∧ 0 ≤ sh ∧ sh ≤ 400 ∧ (ch = true ∨ sh = 0) := by
  unfold layF at h
  split at h
  · split at h
    · rename_i h1 h2
      exact ⟨h1.1.1, h1.1.2, h1.2.1, h1.2.2, h2⟩
    · cases h
  · cases h
theorem i_layout (wd : Int) (ch : Bool) (sh : Int) : Ev (fun k => impl_LayoutFault.f k wd ch sh) (layF wd ch sh) := by
  unfold impl_LayoutFault.f layF
  simp only [within_eq, Option.bind_some]
  by_cases h1 : 1 ≤ wd ∧ wd ≤ 40
  · rw [show decide (1 ≤ wd ∧ wd ≤ 40) = true from decide_eq_true h1]
    refine Ev.pos rfl (Ev.succ ?_)
    simp only [impl_LayoutFault.j0]
    by_cases h2 : 0 ≤ sh ∧ sh ≤ 400
    · rw [if_pos (show (1 ≤ wd ∧ wd ≤ 40) ∧ (0 ≤ sh ∧ sh ≤ 400) from ⟨h1, h2⟩), show decide (0 ≤ sh ∧ sh ≤ 400) = true from decide_eq_true h2]
      refine Ev.neg (by simp) (Ev.one ?_)
      cases ch <;> by_cases h3 : sh = 0 <;> simp [h3]
    · rw [if_neg (fun h : (1 ≤ wd ∧ wd ≤ 40) ∧ (0 ≤ sh ∧ sh ≤ 400) => h2 h.2), show decide (0 ≤ sh ∧ sh ≤ 400) = false from decide_eq_false h2]
      exact Ev.pos rfl (Ev.now _)
  · rw [if_neg (fun h : (1 ≤ wd ∧ wd ≤ 40) ∧ (0 ≤ sh ∧ sh ≤ 400) => h1 h.1), show decide (1 ≤ wd ∧ wd ≤ 40) = false from decide_eq_false h1]
    refine Ev.neg (by simp) (Ev.succ ?_)
    simp only [impl_LayoutFault.j0]
    exact Ev.pos trivial (Ev.now _)
theorem s_layout (wd : Int) (ch : Bool) (sh : Int) : Ev (fun k => spec_l10Fault.f k wd ch sh) (layF wd ch sh, wd, ch, sh) := by
  unfold spec_l10Fault.f layF
  simp only [l1In_eq, Option.bind_some]
  by_cases h1 : 1 ≤ wd ∧ wd ≤ 40
  · rw [show decide (1 ≤ wd ∧ wd ≤ 40) = true from decide_eq_true h1]
    refine Ev.pos rfl (Ev.succ ?_)
    simp only [spec_l10Fault.j0]
    by_cases h2 : 0 ≤ sh ∧ sh ≤ 400
    · rw [if_pos (show (1 ≤ wd ∧ wd ≤ 40) ∧ (0 ≤ sh ∧ sh ≤ 400) from ⟨h1, h2⟩), show decide (0 ≤ sh ∧ sh ≤ 400) = true from decide_eq_true h2]
      refine Ev.neg (by simp) (Ev.one ?_)
      cases ch <;> by_cases h3 : sh = 0 <;> simp [h3]
    · rw [if_neg (fun h : (1 ≤ wd ∧ wd ≤ 40) ∧ (0 ≤ sh ∧ sh ≤ 400) => h2 h.2), show decide (0 ≤ sh ∧ sh ≤ 400) = false from decide_eq_false h2]
      exact Ev.pos rfl (Ev.now _)
  · rw [if_neg (fun h : (1 ≤ wd ∧ wd ≤ 40) ∧ (0 ≤ sh ∧ sh ≤ 400) => h1 h.1), show decide (1 ≤ wd ∧ wd ≤ 40) = false from decide_eq_false h1]
    refine Ev.neg (by simp) (Ev.succ ?_)
    simp only [spec_l10Fault.j0]
    exact Ev.pos trivial (Ev.now _)
/-- How many rows a line of so many cells has. -/
def rowN (n : Nat) (wd : Int) (ch : Bool) : Int := if ch = true then 1 else if (n : Int) = 0 then 1 else ((n : Int) + wd - 1) / wd
theorem rowN_in {n : Nat} {wd : Int} (ch : Bool) (h0 : 1 ≤ wd) : 1 ≤ rowN n wd ch ∧ rowN n wd ch ≤ n + 1 := by
  unfold rowN
  split
  · omega
  · split
    · omega
    · have h1 : 1 ≤ ((n : Int) + wd - 1) / wd := by
        rw [Int.le_ediv_iff_mul_le (by omega)]
        omega
      have h2 : ((n : Int) + wd - 1) / wd ≤ n := by
        apply Int.ediv_le_of_le_mul (by omega)
        have : (n : Int) * 1 ≤ n * wd := Int.mul_le_mul_of_nonneg_left h0 (by omega)
        have h3 : (n : Int) * wd = (n : Int) * (wd - 1) + n := by rw [Int.mul_sub, Int.mul_one]; omega
        have h4 : 1 * (wd - 1) ≤ (n : Int) * (wd - 1) := Int.mul_le_mul_of_nonneg_right (by omega) (by omega)
        omega
      omega
theorem rowW (n : Nat) (hn : n ≤ 16777216) (wd : Int) (h0 : 1 ≤ wd) (h1 : wd ≤ 40) : wrap64 (Int.tdiv (wrap64 ((wrap64 ((n : Int) + wd)) - 1)) wd) = ((n : Int) + wd - 1) / wd := by
  rw [w64 (x := (n : Int) + wd) (by omega) (by omega), w64 (x := (n : Int) + wd - 1) (by omega) (by omega), Int.tdiv_eq_ediv_of_nonneg (by omega)]
  have a : 0 ≤ ((n : Int) + wd - 1) / wd := Int.ediv_nonneg (by omega) (by omega)
  have b : ((n : Int) + wd - 1) / wd ≤ (n : Int) + wd - 1 := Int.ediv_le_self _ (by omega)
  exact w64 (by omega) (by omega)
theorem cellsS_len (l : List Int) : (cellsS l).length ≤ 4 * l.length := by rw [cellsS, List.length_map]; exact M.cellsOf_len l
theorem i_rowN (l : List Int) (ho : M.lineOk l = true) (wd : Int) (ch : Bool) (sh : Int) (h0 : 1 ≤ wd) (h1 : wd ≤ 40) : impl_rowCount.f l wd ch sh = some (rowN (cellsS l).length wd ch) := by
  have hl := M.lineOk_len ho
  have hc := cellsS_len l
  unfold impl_rowCount.f impl_cells.f spec_l1Cells.f rowN
  rw [if_pos ho]
  simp only [Option.bind_some]
  cases ch with
  | true => rfl
  | false =>
    simp only [Bool.false_eq_true, if_false]
    by_cases h : ((cellsS l).length : Int) = 0
    · rw [if_pos h, if_pos h]
    · rw [if_neg h, if_neg h, if_neg (by omega), rowW _ (by omega) wd h0 h1]
theorem s_rowN (l : List Int) (ho : M.lineOk l = true) (wd : Int) (ch : Bool) (sh : Int) (h0 : 1 ≤ wd) (h1 : wd ≤ 40) : spec_l10Count.f l wd ch sh = some (rowN (cellsS l).length wd ch, wd, ch, sh) := by
  have hl := M.lineOk_len ho
  have hc := cellsS_len l
  unfold spec_l10Count.f spec_l1Cells.f rowN
  rw [if_pos ho]
  simp only [Option.bind_some]
  cases ch with
  | true => rfl
  | false =>
    simp only [Bool.false_eq_true, if_false]
    by_cases h : ((cellsS l).length : Int) = 0
    · rw [if_pos h, if_pos h]
    · rw [if_neg h, if_neg h, if_neg (by omega), rowW _ (by omega) wd h0 h1]
def askF (n : Nat) (wd : Int) (ch : Bool) (sh : Int) : Int := if layF wd ch sh = 0 then (if (n : Int) > 400 then 2 else 0) else layF wd ch sh
theorem askF_bad {n : Nat} {wd : Int} {ch : Bool} {sh : Int} (h : ¬ layF wd ch sh = 0) : askF n wd ch sh = layF wd ch sh := if_neg h
theorem askF_long {n : Nat} {wd : Int} {ch : Bool} {sh : Int} (h : layF wd ch sh = 0) (h2 : (n : Int) > 400) : askF n wd ch sh = 2 := (if_pos h).trans (if_pos h2)
theorem askF_ok {n : Nat} {wd : Int} {ch : Bool} {sh : Int} (h : layF wd ch sh = 0) (h2 : ¬ (n : Int) > 400) : askF n wd ch sh = 0 := (if_pos h).trans (if_neg h2)
theorem i_rowCode (l : List Int) (wd : Int) (ch : Bool) (sh : Int) : Ev (fun k => impl_rowCode.f k l wd ch sh) (askF l.length wd ch sh) := by
  unfold impl_rowCode.f impl_isLong.f
  refine Ev.bind (i_layout wd ch sh) ?_
  by_cases h : layF wd ch sh = 0
  · refine Ev.pos h ?_
    simp only [Option.bind_some]
    by_cases h2 : (l.length : Int) > 400
    · rw [askF_long h h2]
      exact Ev.pos (by simpa using h2) (Ev.now _)
    · rw [askF_ok h h2]
      exact Ev.neg (by simpa using h2) (Ev.now _)
  · rw [askF_bad h]
    exact Ev.neg h (Ev.now _)
theorem s_asked (l : List Int) (wd : Int) (ch : Bool) (sh : Int) : Ev (fun k => spec_l10Asked.f k l wd ch sh) (askF l.length wd ch sh, wd, ch, sh) := by
  unfold spec_l10Asked.f
  refine Ev.bind (s_layout wd ch sh) ?_
  by_cases h : layF wd ch sh = 0
  · refine Ev.pos h ?_
    by_cases h2 : (l.length : Int) > 400
    · rw [askF_long h h2]
      exact Ev.pos h2 (Ev.now _)
    · rw [askF_ok h h2]
      exact Ev.neg h2 (Ev.now _)
  · rw [askF_bad h]
    exact Ev.neg h (Ev.now _)
theorem rowCount_same (l : List Int) (ho : M.lineOk l = true) (wd : Int) (ch : Bool) (sh : Int) : ∃ r, Ev (fun k => spec_RowCount.f k l wd ch sh) r ∧ Ev (fun k => impl_RowCount.f k l wd ch sh) r := by
  by_cases h : layF wd ch sh = 0
  · obtain ⟨a, b, _⟩ := layF_zero h
    by_cases h2 : (l.length : Int) > 400
    · refine ⟨(2, 0), ?_, ?_⟩
      · unfold spec_RowCount.f
        have := s_asked l wd ch sh
        rw [askF_long h h2] at this
        exact Ev.bind this (Ev.neg (by simp) (Ev.now _))
      · unfold impl_RowCount.f
        have := i_rowCode l wd ch sh
        rw [askF_long h h2] at this
        exact Ev.bind this (Ev.neg (by simp) (Ev.now _))
    · refine ⟨(0, rowN (cellsS l).length wd ch), ?_, ?_⟩
      · unfold spec_RowCount.f
        have := s_asked l wd ch sh
        rw [askF_ok h h2] at this
        exact Ev.bind this (Ev.pos rfl (Ev.bind0 (s_rowN l ho wd ch sh a b) (Ev.now _)))
      · unfold impl_RowCount.f
        have := i_rowCode l wd ch sh
        rw [askF_ok h h2] at this
        exact Ev.bind this (Ev.pos rfl (Ev.bind0 (i_rowN l ho wd ch sh a b) (Ev.now _)))
  · refine ⟨(layF wd ch sh, 0), ?_, ?_⟩
    · unfold spec_RowCount.f
      have := s_asked l wd ch sh
      rw [askF_bad h] at this
      exact Ev.bind this (Ev.neg h (Ev.now _))
    · unfold impl_RowCount.f
      have := i_rowCode l wd ch sh
      rw [askF_bad h] at this
      exact Ev.bind this (Ev.neg h (Ev.now _))
end Go.Proofs.Ytcinaflmpdmdaaa.Q
end
section
namespace Go.Proofs.Ytcinaflmpdmdaaa.Q
open Go.RowKit Go.Proofs.YtcinaflmpdmdaaaW.PrintWords Go.Proofs.YtcinaflmpdmdaaaW.PrintLast Go.Proofs.YtcinaflmpdmdaaaW.PrintMore Go.Proofs.Ytcinaflmpdmdaaa.L
/-- Bytes of a draw's code. -/
structure CodeOk (l : List Int) : Prop where
  len : l.length ≤ 1048576
  byt : ∀ x ∈ l, 0 ≤ x ∧ x ≤ 255
/-- How far a source has been read: so far at most. -/
def Rd (at_ : Int) : Prop := 0 ≤ at_ ∧ at_ ≤ 1073741824
theorem rd_byt {l : List Int} (h : ∀ x ∈ l, 0 ≤ x ∧ x ≤ 255) (i : Int) : 0 ≤ rd l i ∧ rd l i ≤ 255 := by
  unfold rd
  rw [List.getD_eq_getElem?_getD]
  cases e : l[i.toNat]? with
  | none => simp
  | some x => exact h x (List.mem_of_getElem? e)
theorem tmod_in {a n : Int} (ha : 0 ≤ a) (hn : 1 ≤ n) : 0 ≤ Int.tmod a n ∧ Int.tmod a n < n := by
  rw [Int.tmod_eq_emod_of_nonneg ha]
  exact ⟨Int.emod_nonneg _ (by omega), Int.emod_lt_of_pos _ (by omega)⟩
theorem tdiv_in {a n : Int} (ha : 0 ≤ a) (hn : 1 ≤ n) : 0 ≤ Int.tdiv a n ∧ Int.tdiv a n ≤ a := by
  rw [Int.tdiv_eq_ediv_of_nonneg ha]
  exact ⟨Int.ediv_nonneg ha (by omega), Int.ediv_le_self _ ha⟩
theorem l1Next_ex {l : List Int} (hc : CodeOk l) {a n : Int} (ha : 0 ≤ a ∧ a ≤ 2147483648) (hn : n ≤ 2147483648) : ∃ v, spec_l1Next.f l a n = some (v, a + 1) ∧ 0 ≤ v ∧ (1 ≤ n → v < n) ∧ (n < 1 → v = 0) := by
  obtain ⟨hl, hb⟩ := hc
  obtain ⟨a0, a1⟩ := ha
  unfold spec_l1Next.f
  rw [w64 (x := a + 1) (by omega) (by omega), show a + 1 - 1 = a by omega, w64 (x := a) (by omega) (by omega), w64 (x := a + 1) (by omega) (by omega)]
  by_cases h1 : n < 1
  · exact ⟨0, if_pos h1, by omega, by omega, fun _ => rfl⟩
  rw [if_neg h1]
  by_cases h2 : (l.length : Int) = 0
  · rw [if_pos h2, if_neg (by omega), w64 (by omega) (by omega)]
    obtain ⟨b0, b1⟩ := tmod_in (a := a * 7) (n := n) (by omega) (by omega)
    exact ⟨_, rfl, b0, fun _ => b1, fun h => by omega⟩
  rw [if_neg h2]
  obtain ⟨c0, c1⟩ := tmod_in (a := a) (n := (l.length : Int)) (by omega) (by omega)
  obtain ⟨d0, d1⟩ := tmod_in (a := a + 1) (n := (l.length : Int)) (by omega) (by omega)
  obtain ⟨e0, e1⟩ := tdiv_in (a := a) (n := (l.length : Int)) (by omega) (by omega)
  obtain ⟨f0, f1⟩ := rd_byt hb (Int.tmod a (l.length : Int))
  obtain ⟨g0, g1⟩ := rd_byt hb (Int.tmod (a + 1) (l.length : Int))
  rw [if_pos c0, if_pos c1]
  generalize Int.tdiv a (l.length : Int) = q at *
  generalize rd l (Int.tmod a (l.length : Int)) = x at *
  generalize rd l (Int.tmod (a + 1) (l.length : Int)) = y at *
  have q1 : q ≤ 2147483648 := by omega
  rw [w64 (x := x) (by omega) (by omega), w64 (x := q) (by omega) (by omega), w64 (x := q * 37) (by omega) (by omega), w64 (x := x + q * 37) (by omega) (by omega)]
  by_cases h3 : n > 200
  · rw [if_pos h3, if_pos d0, if_pos d1, if_neg (by omega), w64 (x := y) (by omega) (by omega), w64 (x := (x + q * 37) * 251) (by omega) (by omega), w64 (x := y * 13) (by omega) (by omega), w64 (x := (x + q * 37) * 251 + y * 13) (by omega) (by omega), w64 (by omega) (by omega)]
    obtain ⟨b0, b1⟩ := tmod_in (a := (x + q * 37) * 251 + y * 13 + a) (n := n) (by omega) (by omega)
    exact ⟨_, rfl, b0, fun _ => b1, fun h => by omega⟩
  · rw [if_neg h3, if_neg (by omega)]
    obtain ⟨b0, b1⟩ := tmod_in (a := x + q * 37) (n := n) (by omega) (by omega)
    exact ⟨_, rfl, b0, fun _ => b1, fun h => by omega⟩
theorem l1Chance_ex {l : List Int} (hc : CodeOk l) {a n : Int} (ha : 0 ≤ a ∧ a ≤ 2147483648) (hn : n ≤ 2147483648) : ∃ b, spec_l1Chance.f l a n = some (b, a + 1) := by
  obtain ⟨v, e, _⟩ := l1Next_ex hc ha hn
  exact ⟨v == 0, by unfold spec_l1Chance.f; rw [e]; rfl⟩
theorem l1Pick_ex {l : List Int} (hc : CodeOk l) {a : Int} (ha : 0 ≤ a ∧ a ≤ 2147483648) (xs : List Int) (h0 : 1 ≤ xs.length) (h1 : xs.length ≤ 1000) : ∃ v, spec_l1Pick.f l a xs = some (v, a + 1) ∧ v ∈ xs := by
  obtain ⟨v, e, v0, v1, _⟩ := l1Next_ex hc ha (n := (xs.length : Int)) (by omega)
  have v1 := v1 (by omega)
  obtain ⟨m, rfl⟩ : ∃ m : Nat, v = m := ⟨v.toNat, by omega⟩
  have hm : m < xs.length := by omega
  refine ⟨xs[m], ?_, List.getElem_mem _⟩
  unfold spec_l1Pick.f
  rw [e]
  simp only [Option.bind_some]
  rw [if_pos v0, if_pos v1, rd_nat xs m hm]
def BytL (l : List Int) : Prop := ∀ x ∈ l, 0 ≤ x ∧ x ≤ 255
theorem BytL.nil : BytL [] := by intro x h; cases h
theorem BytL.cons {x : Int} {l : List Int} (h0 : 0 ≤ x) (h1 : x ≤ 255) (h : BytL l) : BytL (x :: l) := by
  intro y hy
  rcases List.mem_cons.mp hy with rfl | hy
  · exact ⟨h0, h1⟩
  · exact h y hy
theorem BytL.append {a b : List Int} (h : BytL a) (k : BytL b) : BytL (a ++ b) := by
  intro x hx
  rcases List.mem_append.mp hx with hx | hx
  · exact h x hx
  · exact k x hx
theorem mod256 (x : Int) : 0 ≤ x % 256 ∧ x % 256 ≤ 255 := ⟨Int.emod_nonneg _ (by decide), by have := Int.emod_lt_of_pos x (show (0 : Int) < 256 by decide); omega⟩
theorem l1Encode_ex (c : Int) : ∃ bs, spec_l1Encode.f c = some bs ∧ bs.length ≤ 3 ∧ BytL bs := by
  unfold spec_l1Encode.f
  split
  · exact ⟨_, rfl, by simp, BytL.cons (mod256 _).1 (mod256 _).2 BytL.nil⟩
  · split
    · exact ⟨_, rfl, by simp, BytL.cons (mod256 _).1 (mod256 _).2 (BytL.cons (mod256 _).1 (mod256 _).2 BytL.nil)⟩
    · exact ⟨_, rfl, by simp, BytL.cons (mod256 _).1 (mod256 _).2 (BytL.cons (mod256 _).1 (mod256 _).2 (BytL.cons (mod256 _).1 (mod256 _).2 BytL.nil))⟩
theorem l1Byte_ex {l : List Int} (hc : CodeOk l) {a : Int} (ha : 0 ≤ a ∧ a ≤ 2147483600) : ∃ bs a', spec_l1Byte.f l a = some (bs, a') ∧ a ≤ a' ∧ a' ≤ a + 3 ∧ bs.length ≤ 3 ∧ BytL bs := by
  obtain ⟨v, e, _⟩ := l1Next_ex hc (a := a) (n := 12) (by omega) (by omega)
  unfold spec_l1Byte.f
  rw [e]
  simp only [Option.bind_some]
  by_cases h0 : v = 0
  · rw [if_pos h0]
    exact ⟨_, _, rfl, by omega, by omega, by simp, BytL.cons (by decide) (by decide) BytL.nil⟩
  rw [if_neg h0]
  by_cases h1 : v = 1
  · obtain ⟨p, ep, _⟩ := l1Pick_ex hc (a := a + 1) (by omega) [1, 27, 127, 13] (by decide) (by decide)
    rw [if_pos h1, ep]
    exact ⟨_, _, rfl, by omega, by omega, by simp, BytL.cons (mod256 _).1 (mod256 _).2 BytL.nil⟩
  rw [if_neg h1]
  by_cases h2 : v = 2
  · obtain ⟨p, ep, _⟩ := l1Next_ex hc (a := a + 1) (n := 128) (by omega) (by omega)
    rw [if_pos h2, ep]
    exact ⟨_, _, rfl, by omega, by omega, by simp, BytL.cons (mod256 _).1 (mod256 _).2 BytL.nil⟩
  rw [if_neg h2]
  by_cases h3 : v = 3
  · obtain ⟨p, ep, _⟩ := l1Pick_ex hc (a := a + 1) (by omega) [228, 8364, 2047, 2048, 65535] (by decide) (by decide)
    obtain ⟨bs, eb, b1, b2⟩ := l1Encode_ex p
    rw [if_pos h3, ep]
    simp only [Option.bind_some]
    rw [eb]
    exact ⟨_, _, rfl, by omega, by omega, b1, b2⟩
  rw [if_neg h3]
  obtain ⟨p, ep, _⟩ := l1Next_ex hc (a := a + 1) (n := 4) (by omega) (by omega)
  rw [ep]
  simp only [Option.bind_some]
  obtain ⟨q, eq, _⟩ := l1Pick_ex hc (a := a + 1 + 1) (by omega) [97, 98, 99, 32, wrap64 (97 + p)] (by simp) (by simp)
  rw [eq]
  exact ⟨_, _, rfl, by omega, by omega, by simp, BytL.cons (mod256 _).1 (mod256 _).2 BytL.nil⟩
theorem l1Line_loop {l : List Int} (hc : CodeOk l) : ∀ (n : Nat) (out : List Int) (a : Int), out.length + 3 * n ≤ 1000000 → 0 ≤ a → a + 3 * n ≤ 2000000000 → BytL out →
    ∃ bs a', Ev (fun k => spec_l1Line.l0 k out (n : Int) l a) (bs, a') ∧ a ≤ a' ∧ a' ≤ a + 3 * n ∧ bs.length ≤ out.length + 3 * n ∧ BytL bs
  | 0, out, a, _, h0, h1, hb => ⟨out, a, Ev.succ (Ev.congr (fun k => by simp only [spec_l1Line.l0]; rw [if_neg (by omega)]) (Ev.now _)), by omega, by omega, by omega, hb⟩
  | n + 1, out, a, ho, h0, h1, hb => by
    obtain ⟨bs, a1, e, e0, e1, e2, e3⟩ := l1Byte_ex hc (a := a) (by omega)
    obtain ⟨cs, a2, f, f0, f1, f2, f3⟩ := l1Line_loop hc n (out ++ bs) a1 (by rw [List.length_append]; omega) (by omega) (by omega) (hb.append e3)
    rw [List.length_append] at f2
    refine ⟨cs, a2, Ev.succ (Ev.congr (fun k => ?_) f), by omega, by omega, by omega, f3⟩
    simp only [spec_l1Line.l0]
    rw [if_pos (by omega), e]
    simp only [Option.bind_some]
    rw [if_pos (by omega), w64 (by omega) (by omega), show ((n + 1 : Nat) : Int) - 1 = (n : Int) by omega]
theorem l1Line_ex {l : List Int} (hc : CodeOk l) {a : Int} (n : Nat) (ha : 0 ≤ a ∧ a ≤ 1900000000) (h1 : 1 ≤ n) (h2 : n ≤ 10000) : ∃ bs a', Ev (fun k => spec_l1Line.f k l a (n : Int)) (bs, a') ∧ a ≤ a' ∧ a' ≤ a + 1 + 3 * n ∧ bs.length ≤ 3 * n ∧ BytL bs := by
  obtain ⟨v, e, v0, v1, _⟩ := l1Next_ex hc (a := a) (n := (n : Int)) (by omega) (by omega)
  have v1 := v1 (by omega)
  obtain ⟨m, rfl⟩ : ∃ m : Nat, v = m := ⟨v.toNat, by omega⟩
  obtain ⟨bs, a', f, f0, f1, f2, f3⟩ := l1Line_loop hc m [] (a + 1) (by simp; omega) (by omega) (by omega) BytL.nil
  simp only [List.length_nil] at f2
  refine ⟨bs, a', ?_, by omega, by omega, by omega, f3⟩
  unfold spec_l1Line.f
  exact Ev.bind0 e f
theorem BytL.zeros (n : Nat) : BytL (List.replicate n 0) := by
  intro x hx
  rw [List.eq_of_mem_replicate hx]
  decide
theorem l1Long_ex {l : List Int} (hc : CodeOk l) {a : Int} (ha : 0 ≤ a ∧ a ≤ 1800000000) : ∃ bs a', Ev (fun k => spec_l1Long.f k l a) (bs, a') ∧ a ≤ a' ∧ a' ≤ a + 40 ∧ bs.length ≤ 401 ∧ BytL bs := by
  obtain ⟨b, e⟩ := l1Chance_ex hc (a := a) (n := 30) (by omega) (by omega)
  unfold spec_l1Long.f
  cases b with
  | true =>
    obtain ⟨p, ep, hp⟩ := l1Pick_ex hc (a := a + 1) (by omega) [400, 401] (by decide) (by decide)
    have hp2 : p = 400 ∨ p = 401 := by simpa using hp
    refine ⟨List.replicate p.toNat 0, a + 1 + 1, Ev.bind0 e (Ev.pos rfl (Ev.bind0 ep (Ev.pos (by simp only; omega) (Ev.pos (by simp only; omega) (Ev.now _))))), by omega, by omega, by rw [List.length_replicate]; omega, BytL.zeros _⟩
  | false =>
    obtain ⟨bs, a', f, f0, f1, f2, f3⟩ := l1Line_ex hc (a := a + 1) 12 (by omega) (by omega) (by omega)
    refine ⟨bs, a', Ev.bind0 e (Ev.neg (by simp) (Ev.bind f (Ev.now _))), by omega, by omega, by omega, f3⟩
end Go.Proofs.Ytcinaflmpdmdaaa.Q
end
section
namespace Go.Proofs.Ytcinaflmpdmdaaa.Q
open Go.RowKit Go.Proofs.YtcinaflmpdmdaaaW.PrintWords Go.Proofs.YtcinaflmpdmdaaaW.PrintLast Go.Proofs.YtcinaflmpdmdaaaW.PrintMore Go.Proofs.Ytcinaflmpdmdaaa.L
theorem l10Bent_ex {l : List Int} (hc : CodeOk l) {a : Int} (ha : 0 ≤ a ∧ a ≤ 1800000000) : ∃ wd ch sh a', spec_l10Bent.f l a = some (wd, ch, sh, a') ∧ a ≤ a' ∧ a' ≤ a + 6 := by
  obtain ⟨p, ep, _⟩ := l1Pick_ex hc (a := a) (by omega) [4, 3, 6, 1, 40] (by decide) (by decide)
  obtain ⟨b, eb⟩ := l1Chance_ex hc (a := a + 1) (n := 3) (by omega) (by omega)
  have hd : ∃ sh a1, spec_l10Draw.f l a = some (p, b, sh, a1) ∧ a ≤ a1 ∧ a1 ≤ a + 3 := by
    unfold spec_l10Draw.f
    rw [ep]
    simp only [Option.bind_some]
    rw [eb]
    simp only [Option.bind_some]
    cases b with
    | true =>
      obtain ⟨q, eq, _⟩ := l1Pick_ex hc (a := a + 1 + 1) (by omega) [0, 2, 5] (by decide) (by decide)
      exact ⟨q, a + 1 + 1 + 1, by rw [if_pos rfl, eq]; rfl, by omega, by omega⟩
    | false => exact ⟨0, a + 1 + 1, by rw [if_neg (by simp)], by omega, by omega⟩
  obtain ⟨sh, a1, ed, d0, d1⟩ := hd
  obtain ⟨v, en, _⟩ := l1Next_ex hc (a := a1) (n := 12) (by omega) (by omega)
  unfold spec_l10Bent.f
  rw [ed]
  simp only [Option.bind_some]
  rw [en]
  simp only [Option.bind_some]
  by_cases h0 : v = 0
  · obtain ⟨q, eq, _⟩ := l1Pick_ex hc (a := a1 + 1) (by omega) [0, 41] (by decide) (by decide)
    exact ⟨_, _, _, _, by rw [if_pos h0, eq]; rfl, by omega, by omega⟩
  · by_cases h1 : v = 1
    · obtain ⟨q, eq, _⟩ := l1Pick_ex hc (a := a1 + 1) (by omega) [-1, 400, 401, 3] (by decide) (by decide)
      exact ⟨_, _, _, _, by rw [if_neg h0, if_pos h1, eq]; rfl, by omega, by omega⟩
    · exact ⟨_, _, _, _, by rw [if_neg h0, if_neg h1], by omega, by omega⟩
/-- A row within bounds, by the program. -/
theorem i_row {l : List Int} (ho : M.lineOk l = true) (hl : l.length ≤ 400) {wd : Int} {ch : Bool} {sh : Int} (h : layF wd ch sh = 0) {row : Int} (h0 : 0 ≤ row) (h1 : row < rowN (cellsS l).length wd ch) : Ev (fun k => impl_RowCells.f k l wd ch sh row) (0, rowCut (cellsS l) wd ch sh row) := by
  obtain ⟨a, b, c, d, _⟩ := layF_zero h
  have hI := i_rowCode l wd ch sh
  rw [askF_ok h (by omega)] at hI
  have hc := cellsS_len l
  have hr := rowN_in (n := (cellsS l).length) ch a
  have hw : wrap64 (rowN (cellsS l).length wd ch - 1) = rowN (cellsS l).length wd ch - 1 := w64 (by omega) (by omega)
  have hok : rowOk l wd sh row = true := by
    unfold rowOk
    rw [ho, Bool.true_and, decide_eq_true_eq]
    omega
  unfold impl_RowCells.f
  refine Ev.bind hI (Ev.pos rfl (Ev.bind0 (i_rowN l ho wd ch sh a b) ?_))
  simp only [hw]
  exact Ev.pos ⟨h0, by omega⟩ (Ev.pos hok (Ev.now _))
theorem i_row_out {l : List Int} (ho : M.lineOk l = true) (hl : l.length ≤ 400) {wd : Int} {ch : Bool} {sh : Int} (h : layF wd ch sh = 0) {row : Int} (h1 : rowN (cellsS l).length wd ch ≤ row) : Ev (fun k => impl_RowCells.f k l wd ch sh row) (3, []) := by
  obtain ⟨a, b, c, d, _⟩ := layF_zero h
  have hI := i_rowCode l wd ch sh
  rw [askF_ok h (by omega)] at hI
  have hc := cellsS_len l
  have hr := rowN_in (n := (cellsS l).length) ch a
  have hw : wrap64 (rowN (cellsS l).length wd ch - 1) = rowN (cellsS l).length wd ch - 1 := w64 (by omega) (by omega)
  unfold impl_RowCells.f
  refine Ev.bind hI (Ev.pos rfl (Ev.bind0 (i_rowN l ho wd ch sh a b) ?_))
  simp only [hw]
  exact Ev.neg (by omega) (Ev.now _)
theorem cut_nat (C : List S46) (w i : Nat) (hw : 1 ≤ w) (sh : Int) : rowCut C (w : Int) false sh (i : Int) = (C.drop (i * w)).take w := by
  unfold rowCut M.cutTo M.cutFrom
  simp only [Bool.false_eq_true, if_false]
  have e : (i : Int) * (w : Int) = ((i * w : Nat) : Int) := by simp
  rw [e]
  by_cases h1 : ((C.length : Nat) : Int) < ((i * w : Nat) : Int)
  · have h1' : C.length ≤ i * w := by omega
    rw [if_pos h1, if_pos (by omega)]
    rw [List.drop_eq_nil_of_le h1', List.take_nil]
    apply List.drop_eq_nil_of_le
    simp
  · rw [if_neg h1]
    by_cases h2 : ((C.length : Nat) : Int) < ((i * w : Nat) : Int) + (w : Int)
    · rw [if_pos h2, Int.toNat_natCast, Int.toNat_natCast, List.take_length, List.take_of_length_le (by rw [List.length_drop]; omega)]
    · rw [if_neg h2, Int.toNat_natCast, show (((i * w : Nat) : Int) + (w : Int)).toNat = i * w + w by omega, List.drop_take, Nat.add_sub_cancel_left]
theorem take_step (C : List S46) (w i : Nat) : C.take (i * w) ++ (C.drop (i * w)).take w = C.take ((i + 1) * w) := by
  rw [← List.take_add, Nat.succ_mul]
section
variable (l : List Int) (ho : M.lineOk l = true) (hl : l.length ≤ 400)
include ho hl
theorem rows_loop (w : Nat) (sh : Int) (h : layF (w : Int) false sh = 0) (N : Nat) (hN : rowN (cellsS l).length (w : Int) false = (N : Int)) (hw1 : 1 ≤ w) (hw2 : w ≤ 40) (h1 : (cellsS l).length ≤ N * w) (h2 : (N - 1) * w ≤ (cellsS l).length) (hN1 : 1 ≤ N) (r : Bool)
    (fin : Ev (fun k => laws_FnRows.l0 k l (cellsS l) (N : Int) (w : Int) false sh 0 (N : Int)) r) : ∀ (d i : Nat), N - i = d → i ≤ N → Ev (fun k => laws_FnRows.l0 k l ((cellsS l).take (i * w)) (i : Int) (w : Int) false sh 0 (N : Int)) r
  | 0, i, hd, hi => by
    obtain rfl : i = N := by omega
    rw [List.take_of_length_le h1]
    exact fin
  | d + 1, i, hd, hi => by
    have ih := rows_loop w sh h N hN hw1 hw2 h1 h2 hN1 r fin d (i + 1) (by omega) (by omega)
    rw [← take_step] at ih
    have hc := cellsS_len l
    have hNb := (rowN_in (n := (cellsS l).length) (wd := (w : Int)) false (by omega)).2
    rw [hN] at hNb
    have hlt : ((cellsS l).take (i * w)).length ≤ (cellsS l).length := by rw [List.length_take]; omega
    have hle : ((cellsS l).drop (i * w) |>.take w).length ≤ w := by rw [List.length_take]; omega
    refine Ev.succ ?_
    simp only [laws_FnRows.l0]
    refine Ev.pos (by omega) (Ev.bind (i_row ho hl h (row := (i : Int)) (by omega) (by rw [hN]; omega)) (Ev.pos rfl ?_))
    simp only [cut_nat _ w i hw1]
    refine Ev.neg (by omega) ?_
    rw [w64 (by omega) (by omega)]
    by_cases hlast : (i : Int) + 1 < (N : Int)
    · have hm : (i + 1) * w ≤ (N - 1) * w := Nat.mul_le_mul_right _ (by omega)
      have hs : (i + 1) * w = i * w + w := Nat.succ_mul _ _
      have heq : ((cellsS l).drop (i * w) |>.take w).length = w := by rw [List.length_take, List.length_drop]; omega
      exact Ev.pos hlast (Ev.pos (by omega) (Ev.pos (by omega) ih))
    · exact Ev.neg hlast (Ev.pos (by omega) ih)
end
theorem same_loop (l : List Int) (C : List S46) (hC : C.length ≤ 2000) (w sh n : Int) (r : Bool) (fin : Ev (fun k => laws_FnRows.l1 k l C (C.length : Int) w false sh 0 n 0 C) r) : ∀ (d i : Nat), C.length - i = d → i ≤ C.length → Ev (fun k => laws_FnRows.l1 k l C (i : Int) w false sh 0 n 0 C) r
  | 0, i, hd, hi => by
    obtain rfl : i = C.length := by omega
    exact fin
  | d + 1, i, hd, hi => by
    have h : i < C.length := by omega
    have ih := same_loop l C hC w sh n r fin d (i + 1) (by omega) (by omega)
    refine Ev.succ ?_
    simp only [laws_FnRows.l1, rd_cell C i h]
    refine Ev.pos (by omega) (Ev.pos (by omega) (Ev.pos (by omega) (Ev.neg (by simp) ?_)))
    rw [w64 (by omega) (by omega)]
    exact ih
theorem lineOk_bytL' {l : List Int} (h : l.length ≤ 1048576) (hb : BytL l) : M.lineOk l = true := by
  simp only [M.lineOk, Bool.and_eq_true, List.all_eq_true, decide_eq_true_eq]
  exact ⟨h, hb⟩
end Go.Proofs.Ytcinaflmpdmdaaa.Q
namespace Go.Proofs.Ytcinaflmpdmdaaa.Pure
open Go.RowKit Go.Proofs.Ytcinaflmpdmdaaa.Q Go.Proofs.YtcinaflmpdmdaaaW.PrintWords Go.Proofs.YtcinaflmpdmdaaaW.PrintLast Go.Proofs.YtcinaflmpdmdaaaW.PrintMore Go.Proofs.Ytcinaflmpdmdaaa.L
theorem FnRows : laws_FnRows.Pure := by
  intro l0 _ _ hw
  refine Ev.rounds ?_
  unfold laws_FnRows.f
  refine Ev.bind0 (show laws_lwBig.f l0 = some (decide ((l0.length : Int) > 1048576)) from rfl) ?_
  by_cases hl : (l0.length : Int) > 1048576
  · exact Ev.pos (decide_eq_true hl) (Ev.now _)
  refine Ev.neg (by simpa using hl) ?_
  have hc : CodeOk l0 := ⟨by omega, fun x hx => bounds_u8 (hw x hx)⟩
  obtain ⟨line, a1, e1, _, _, hn, hb⟩ := l1Long_ex hc (a := 0) (by omega)
  obtain ⟨wd, ch, sh, a2, e2, _, _⟩ := l10Bent_ex hc (a := a1) (by omega)
  have hd : Ev (fun k => spec_DrawRowCount.f k l0) (line, wd, ch, sh) := by
    unfold spec_DrawRowCount.f
    exact Ev.bind0 (show spec_l1Source.f l0 = some (l0, 0) from rfl) (Ev.bind e1 (Ev.bind0 e2 (Ev.now _)))
  refine Ev.bind hd ?_
  have ho : M.lineOk line = true := lineOk_bytL' (by omega) hb
  have hI := i_rowCode line wd ch sh
  have hS := s_asked line wd ch sh
  by_cases hz : askF line.length wd ch sh = 0
  case neg =>
    have h1 : Ev (fun k => impl_RowCount.f k line wd ch sh) (askF line.length wd ch sh, 0) := by
      unfold impl_RowCount.f
      exact Ev.bind hI (Ev.neg hz (Ev.now _))
    have h2 : Ev (fun k => spec_RowCount.f k line wd ch sh) (askF line.length wd ch sh, 0) := by
      unfold spec_RowCount.f
      exact Ev.bind hS (Ev.neg hz (Ev.now _))
    have h3 : Ev (fun k => spec_LayoutFault.f k wd ch sh) (layF wd ch sh) := by
      unfold spec_LayoutFault.f
      exact Ev.bind (s_layout wd ch sh) (Ev.now _)
    exact Ev.bind h1 (Ev.neg hz (Ev.bind h2 (Ev.pos rfl (Ev.bind (i_layout wd ch sh) (Ev.bind h3 (Ev.one (by simp)))))))
  have hlay : layF wd ch sh = 0 := by
    by_cases h : layF wd ch sh = 0
    · exact h
    · rw [askF_bad h] at hz; exact absurd hz h
  have h400 : line.length ≤ 400 := by
    by_cases h : (line.length : Int) > 400
    · rw [askF_long hlay h] at hz; cases hz
    · omega
  rw [hz] at hI hS
  obtain ⟨w1, w2, s1, s2, hsh⟩ := layF_zero hlay
  have hRC : Ev (fun k => impl_RowCount.f k line wd ch sh) (0, rowN (cellsS line).length wd ch) := by
    unfold impl_RowCount.f
    exact Ev.bind hI (Ev.pos rfl (Ev.bind0 (i_rowN line ho wd ch sh w1 w2) (Ev.now _)))
  refine Ev.bind hRC (Ev.pos rfl ?_)
  have hcells : impl_CellsOf.f line = some (0, cellsS line) := by
    unfold impl_CellsOf.f impl_isLong.f impl_cells.f spec_l1Cells.f
    rw [if_pos ho]
    simp
    omega
  have hcl := cellsS_len line
  obtain ⟨w, rfl⟩ : ∃ w : Nat, wd = w := ⟨wd.toNat, by omega⟩
  cases ch with
  | false =>
    have hr := rowN_in (n := (cellsS line).length) (wd := (w : Int)) false w1
    obtain ⟨N, hN⟩ : ∃ N : Nat, rowN (cellsS line).length (w : Int) false = N := ⟨(rowN (cellsS line).length (w : Int) false).toNat, by omega⟩
    rw [hN] at hr ⊢
    have hb2 : (cellsS line).length ≤ N * w ∧ (N - 1) * w ≤ (cellsS line).length := by
      unfold rowN at hN
      simp only [Bool.false_eq_true, if_false] at hN
      by_cases h0 : ((cellsS line).length : Int) = 0
      · rw [if_pos h0] at hN
        have : N = 1 := by omega
        subst this
        simp
        omega
      · rw [if_neg h0] at hN
        have hNat : ((cellsS line).length + w - 1) / w = N := by
          have : (((cellsS line).length : Int) + (w : Int) - 1) = (((cellsS line).length + w - 1 : Nat) : Int) := by omega
          rw [this] at hN
          exact_mod_cast hN
        have hd1 := Nat.div_mul_le_self ((cellsS line).length + w - 1) w
        have hd2 := Nat.lt_div_mul_add (a := (cellsS line).length + w - 1) (b := w) (by omega)
        rw [hNat] at hd1 hd2
        have hd3 : (N - 1) * w = N * w - w := by rw [Nat.sub_mul, Nat.one_mul]
        omega
    have h0 : Ev (fun k => laws_FnRows.l0 k line (cellsS line) (N : Int) (w : Int) false sh 0 (N : Int)) true := by
      refine Ev.succ ?_
      simp only [laws_FnRows.l0]
      refine Ev.neg (by omega) (Ev.bind0 hcells (Ev.neg (by simp) (Ev.pos rfl ?_)))
      refine same_loop line (cellsS line) (by omega) (w : Int) sh (N : Int) true ?_ (cellsS line).length 0 (by omega) (by omega)
      refine Ev.succ ?_
      simp only [laws_FnRows.l1]
      exact Ev.neg (by omega) (Ev.pos (by omega) (Ev.bind (i_row_out ho h400 hlay (row := (N : Int)) (by rw [hN]; omega)) (Ev.one (by decide))))
    have := rows_loop line ho h400 w sh hlay N hN (by omega) (by omega) hb2.1 hb2.2 (by omega) true h0 N 0 (by omega) (by omega)
    simpa using this
  | true =>
    have hN : rowN (cellsS line).length (w : Int) true = 1 := by unfold rowN; rw [if_pos rfl]
    rw [hN]
    obtain ⟨s, rfl⟩ : ∃ s : Nat, sh = s := ⟨sh.toNat, by omega⟩
    have hcut : rowCut (cellsS line) (w : Int) true (s : Int) 0 = ((cellsS line).drop s).take w := by
      unfold rowCut M.cutTo M.cutFrom
      simp only [if_true]
      by_cases h1 : (((cellsS line).length : Nat) : Int) < (s : Int)
      · rw [if_pos h1, if_pos (by omega), List.drop_eq_nil_of_le (by omega : (cellsS line).length ≤ s), List.take_nil]
        apply List.drop_eq_nil_of_le
        simp
      · rw [if_neg h1]
        by_cases h2 : (((cellsS line).length : Nat) : Int) < (s : Int) + (w : Int)
        · rw [if_pos h2, Int.toNat_natCast, Int.toNat_natCast, List.take_length, List.take_of_length_le (by rw [List.length_drop]; omega)]
        · rw [if_neg h2, Int.toNat_natCast, show ((s : Int) + (w : Int)).toNat = s + w by omega, List.drop_take, Nat.add_sub_cancel_left]
    have hle : (((cellsS line).drop s).take w).length ≤ w := by rw [List.length_take]; omega
    have hrow := i_row ho h400 hlay (row := 0) (by omega) (by rw [hN]; omega)
    rw [hcut] at hrow
    refine Ev.succ ?_
    simp only [laws_FnRows.l0]
    refine Ev.pos (by omega) (Ev.bind hrow (Ev.pos rfl (Ev.neg (by simp only; omega) (Ev.neg (by unfold wrap64; omega) (Ev.pos (by simp only [List.length_nil]; omega) ?_)))))
    refine Ev.succ ?_
    simp only [laws_FnRows.l0, List.nil_append]
    refine Ev.neg (by unfold wrap64; omega) (Ev.bind0 hcells (Ev.pos trivial (Ev.pos trivial ?_)))
    by_cases hs : ((cellsS line).length : Int) > (s : Int)
    · have hlen : 1 ≤ (((cellsS line).drop s).take w).length := by rw [List.length_take, List.length_drop]; omega
      have h0 : (((cellsS line).drop s).take w)[0]'(by omega) = (cellsS line)[s]'(by omega) := by simp
      refine Ev.pos hs (Ev.neg (by omega) (Ev.pos (by omega) (Ev.pos (by omega) (Ev.pos (by omega) ?_))))
      have r0 : rd_T46 (((cellsS line).drop s).take w) 0 = (cellsS line)[s]'(by omega) := (rd_cell (((cellsS line).drop s).take w) 0 (by omega)).trans h0
      have r1 := rd_cell (cellsS line) s (by omega)
      simp only [r0, r1, beq_self_eq_true, Bool.and_self]
      exact Ev.now _
    · have hlen : (((cellsS line).drop s).take w).length = 0 := by rw [List.length_take, List.length_drop]; omega
      exact Ev.neg hs (Ev.pos (by omega) (Ev.now _))
end Go.Proofs.Ytcinaflmpdmdaaa.Pure
end
