/- Part 5 of what the proof of FnLasts needs: contracts of functions, as plain functions over numbers and lists, and laws of these. -/
import Derived.Test.YtjnmhpldabbeiaaCFnLasts3
import Derived.Test.YtjnmhpldabbeiaaCFnLasts2
import Derived.Test.YtjnmhpldabbeiaaCFnLasts1
set_option linter.unusedVariables false
set_option linter.unusedSimpArgs false
section
namespace Go.Proofs.Ytjnmhpldabbeiaa.Q
open Go.RowKit Go.Proofs.YtjnmhpldabbeiaaW.PrintWords Go.Proofs.YtjnmhpldabbeiaaW.PrintLast Go.Proofs.YtjnmhpldabbeiaaW.PrintMore Go.Proofs.Ytjnmhpldabbeiaa.L
theorem layoutCode_ev (l : List Int) (wd : Int) (ch : Bool) (sh : Int) : Ev (fun k => impl_layoutCode.f k l wd ch sh) (M.baseF l.length wd ch sh) := by
  unfold impl_layoutCode.f impl_FileFault.f impl_isLong.f M.baseF
  by_cases h : 400 < l.length
  · rw [if_pos h]
    have : ((l.length : Int) > 400) := by omega
    refine Ev.bind0 (a := 2) (by simp [this]) (Ev.neg (by decide) (Ev.now _))
  · rw [if_neg h]
    have : ¬ ((l.length : Int) > 400) := by omega
    exact Ev.bind0 (a := 0) (by simp [this]) (Ev.pos rfl (Ev.bind (i_layout wd ch sh) (Ev.now _)))
theorem rowsOf_eq {l : List Int} (ho : M.lineOk l = true) {wd : Int} (ch : Bool) (sh : Int) (h1 : 1 ≤ wd) (h2 : wd ≤ 40) : impl_rowsOf.f l wd ch sh = some (M.cntL l wd ch) := by
  unfold impl_rowsOf.f
  rw [ho, if_pos (by simp [h1, h2])]
end Go.Proofs.Ytjnmhpldabbeiaa.Q
end
section
namespace Go.Proofs.Ytjnmhpldabbeiaa.Q
open Go.RowKit Go.Proofs.YtjnmhpldabbeiaaW.PrintWords Go.Proofs.YtjnmhpldabbeiaaW.PrintLast Go.Proofs.YtjnmhpldabbeiaaW.PrintMore
attribute [local go_sem] max2_int min2_int max_two min_two max_three min_three max_four min_four   -- for this text's walks alone
set_option linter.unusedVariables false
set_option linter.unusedSimpArgs false
/-! ### impl_SpotFault: function 71 -/
def impl_SpotFault.f (k : Nat) (l0_0 : List Int) (a1_0 : Int) (a1_1 : Bool) (a1_2 : Int) (a2_0 : Int) (a2_1 : Int) : Option (Int):=(impl_layoutCode.f k l0_0 a1_0 a1_1 a1_2).bind fun t104 => (if t104 = 0 then ((impl_rowsOf.f l0_0 a1_0 a1_1 a1_2).bind fun t105 => ((impl_isSpot.f t105 a2_0 a2_1).bind fun t108 => (if t108 = true then (some 0) else (if (t105.length : Int) = 0 then (some 4) else (some 3))))) else (some t104))
theorem impl_SpotFault.mono : ∀ a0 a1 a2 a3 a4 a5 k,LeO (impl_SpotFault.f k a0 a1 a2 a3 a4 a5) (impl_SpotFault.f (k + 1) a0 a1 a2 a3 a4 a5):=by
 intro a0 a1 a2 a3 a4 a5 k
 unfold impl_SpotFault.f
 repeat' first
  | (with_reducible exact impl_layoutCode.mono _ _ _ _ _)
  | (with_reducible exact LeO.refl _)
  | (with_reducible exact LeO.none _)
  | (with_reducible refine LeO.ite ?_ ?_)
  | (with_reducible refine LeO.bind ?_ (fun _ => ?_))
  | exact impl_layoutCode.mono _ _ _ _ _
  | exact LeO.none _
  | refine LeO.ite ?_ ?_
  | refine LeO.bind ?_ (fun _ => ?_)
set_option maxHeartbeats 8000000 in
set_option maxRecDepth 100000 in
theorem impl_SpotFault.calls (k : Nat) (A0_0 : Option Addr) (c0_0 : Nat) (l0_0 : List Int) (a1_0 : Int) (a1_1 : Bool) (a1_2 : Int) (a2_0 : Int) (a2_1 : Int) (r : Int) (w : World) (hr0_0 : Kd.C (Kd.int .u8) w A0_0 l0_0.length l0_0) (hc0_0 : l0_0.length ≤ c0_0) (h : impl_SpotFault.f k l0_0 a1_0 a1_1 a1_2 a2_0 a2_1 = some r) :
 Calls Try.prog 71 #[.agg #[.slice A0_0 l0_0.length c0_0],.agg #[.int .i64 a1_0,.bool a1_1,.int .i64 a1_2],.agg #[.int .i64 a2_0,.int .i64 a2_1]] w fun e w' => e = .returned (.int .i64 r) ∧ Below w.heap.size w w':=by
 have hu104:=Try.underlying104
 have hu37:=Try.underlying37
 have hu39:=Try.underlying39
 have HR0_0:=Aside0.mk hr0_0
 have HC0_0:=Aside0.mk hc0_0
 clear hr0_0 hc0_0
 have HB:=Aside0.mk (Below.refl w.heap.size w)
 have H : ((impl_layoutCode.f k l0_0 a1_0 a1_1 a1_2).bind fun t104 => (if t104 = 0 then ((impl_rowsOf.f l0_0 a1_0 a1_1 a1_2).bind fun t105 => ((impl_isSpot.f t105 a2_0 a2_1).bind fun t108 => (if t108 = true then (some 0) else (if (t105.length : Int) = 0 then (some 4) else (some 3))))) else (some t104))) = some r:=h
 clear h
 replace H:=Option.bind_eq_some_iff.mp H
 obtain ⟨t104,A40,H⟩:=H
 replace H : (if t104 = 0 then ((impl_rowsOf.f l0_0 a1_0 a1_1 a1_2).bind fun t105 => ((impl_isSpot.f t105 a2_0 a2_1).bind fun t108 => (if t108 = true then (some 0) else (if (t105.length : Int) = 0 then (some 4) else (some 3))))) else (some t104)) = some r:=H
 have A4:=Aside0.mk A40
 clear A40
 by_cases c5 : t104 = 0
 · rw [if_pos c5] at H
   have c5b0 : (t104 == 0) = true:=beq_iff_eq.mpr c5
   have c5b1 : (t104 != 0) = false:=bne_eq_false_iff_eq.mpr c5
   clear c5
   replace H:=Option.bind_eq_some_iff.mp H
   obtain ⟨t105,A60,H⟩:=H
   replace H : ((impl_isSpot.f t105 a2_0 a2_1).bind fun t108 => (if t108 = true then (some 0) else (if (t105.length : Int) = 0 then (some 4) else (some 3)))) = some r:=H
   have A6:=Aside0.mk A60
   clear A60
   replace H:=Option.bind_eq_some_iff.mp H
   obtain ⟨t108,A70,H⟩:=H
   replace H : (if t108 = true then (some 0) else (if (t105.length : Int) = 0 then (some 4) else (some 3))) = some r:=H
   have A7:=Aside0.mk A70
   clear A70
   by_cases c8 : t108 = true
   · subst c8
     have H1 : (some 0) = some r:=by rw [if_pos rfl] at H;exact H
     clear H
     have H:=H1
     clear H1
     obtain rfl:=Option.some.inj H
     go_enter Try.func71,Try.ntmps71
     go_wp2_with (first|((with_reducible refine gate_dst (N:=3) rfl ?_);refine box_event ?hg (N:=3) ?hd (cs:=#[.slice A0_0 l0_0.length c0_0]) (t:=104) ?hr ?_;(case hd => rfl);(case hg => rfl);(case hr => first|(go_simp;done)|(go_simp;rfl));intro gb101 hg w9 hbox hb;have n0_:=Aside0.mk (below_step (by repeat (first|(with_reducible first|exact HB.out|apply below_alloc|apply pw_below_drewN|apply below_drew1)|exact HB.out)) hb);have n1_:=Aside0.mk (hbox);have n2_:=Aside0.mk ((by rw [hg];exact (below_size (by repeat (first|(with_reducible first|exact HB.out|apply below_alloc|apply pw_below_drewN|apply below_drew1)|exact HB.out))) : w.heap.size ≤ gb101));have n3_:=Aside0.mk ((by rw [hg];exact (below_size (by repeat (first|(with_reducible first|exact HB.out|apply below_alloc|apply pw_below_drewN|apply below_drew1)|exact HB.out))) : w.heap.size ≤ gb101));clear HB;have HB:=n0_;have BK101:=n1_;have GW101:=n2_;have GE101:=n3_;clear n0_ n1_ n2_ n3_;clear hb hbox hg)|((with_reducible refine gate_dst (N:=4) rfl ?_);refine box_event ?hg (N:=4) ?hd (cs:=#[.int .i64 a1_0,.bool a1_1,.int .i64 a1_2]) (t:=37) ?hr ?_;(case hd => rfl);(case hg => rfl);(case hr => first|(go_simp;done)|(go_simp;rfl));intro gb102 hg w10 hbox hb;have n0_:=Aside0.mk (blk_below (g:=gb101) (o:=.cells #[.slice A0_0 l0_0.length c0_0] 104 (0,0)) (by (with_reducible repeat (first|refine blk_drewN ?_ _|refine blk_drew ?_|refine blk_alloc ?_ _));exact BK101.out) hb);have n1_:=Aside0.mk (below_step (by repeat (first|(with_reducible first|exact HB.out|apply below_alloc|apply pw_below_drewN|apply below_drew1|refine below_set ?_ GE101.out)|exact HB.out)) hb);have n2_:=Aside0.mk (hbox);have n3_:=Aside0.mk ((by rw [hg];exact (below_size (by repeat (first|(with_reducible first|exact HB.out|apply below_alloc|apply pw_below_drewN|apply below_drew1|refine below_set ?_ GE101.out)|exact HB.out))) : w.heap.size ≤ gb102));have n4_:=Aside0.mk ((by rw [hg];exact (below_size (by repeat (first|(with_reducible first|exact HB.out|apply below_alloc|apply pw_below_drewN|apply below_drew1|refine below_set ?_ GE101.out)|exact HB.out))) : w.heap.size ≤ gb102));have n5_:=Aside0.mk ((by rw [hg];exact Nat.ne_of_lt (blk_lt (g:=gb101) (o:=.cells #[.slice A0_0 l0_0.length c0_0] 104 (0,0)) (by (with_reducible repeat (first|refine blk_drewN ?_ _|refine blk_drew ?_|refine blk_alloc ?_ _));exact BK101.out)) : gb101 ≠ gb102));have n6_:=Aside0.mk ((by rw [hg];exact Nat.ne_of_gt (blk_lt (g:=gb101) (o:=.cells #[.slice A0_0 l0_0.length c0_0] 104 (0,0)) (by (with_reducible repeat (first|refine blk_drewN ?_ _|refine blk_drew ?_|refine blk_alloc ?_ _));exact BK101.out)) : gb102 ≠ gb101));clear BK101;clear HB;have BK101:=n0_;have HB:=n1_;have BK102:=n2_;have GW102:=n3_;have GE102:=n4_;have NB101_102:=n5_;have NB102_101:=n6_;clear n0_ n1_ n2_ n3_ n4_ n5_ n6_;clear hb hbox hg)|((with_reducible refine gate_dst (N:=5) rfl ?_);refine box_event ?hg (N:=5) ?hd (cs:=#[.int .i64 a2_0,.int .i64 a2_1]) (t:=39) ?hr ?_;(case hd => rfl);(case hg => rfl);(case hr => first|(go_simp;done)|(go_simp;rfl));intro gb103 hg w11 hbox hb;have n0_:=Aside0.mk (blk_below (g:=gb101) (o:=.cells #[.slice A0_0 l0_0.length c0_0] 104 (0,0)) (by (with_reducible repeat (first|refine blk_drewN ?_ _|refine blk_drew ?_|refine blk_alloc ?_ _));exact BK101.out) hb);have n1_:=Aside0.mk (blk_below (g:=gb102) (o:=.cells #[.int .i64 a1_0,.bool a1_1,.int .i64 a1_2] 37 (0,0)) (by (with_reducible repeat (first|refine blk_drewN ?_ _|refine blk_drew ?_|refine blk_alloc ?_ _));exact BK102.out) hb);have n2_:=Aside0.mk (below_step (by repeat (first|(with_reducible first|exact HB.out|apply below_alloc|apply pw_below_drewN|apply below_drew1|refine below_set ?_ GE101.out|refine below_set ?_ GE102.out)|exact HB.out)) hb);have n3_:=Aside0.mk (hbox);have n4_:=Aside0.mk ((by rw [hg];exact (below_size (by repeat (first|(with_reducible first|exact HB.out|apply below_alloc|apply pw_below_drewN|apply below_drew1|refine below_set ?_ GE101.out|refine below_set ?_ GE102.out)|exact HB.out))) : w.heap.size ≤ gb103));have n5_:=Aside0.mk ((by rw [hg];exact (below_size (by repeat (first|(with_reducible first|exact HB.out|apply below_alloc|apply pw_below_drewN|apply below_drew1|refine below_set ?_ GE101.out|refine below_set ?_ GE102.out)|exact HB.out))) : w.heap.size ≤ gb103));have n6_:=Aside0.mk ((by rw [hg];exact Nat.ne_of_lt (blk_lt (g:=gb101) (o:=.cells #[.slice A0_0 l0_0.length c0_0] 104 (0,0)) (by (with_reducible repeat (first|refine blk_drewN ?_ _|refine blk_drew ?_|refine blk_alloc ?_ _));exact BK101.out)) : gb101 ≠ gb103));have n7_:=Aside0.mk ((by rw [hg];exact Nat.ne_of_gt (blk_lt (g:=gb101) (o:=.cells #[.slice A0_0 l0_0.length c0_0] 104 (0,0)) (by (with_reducible repeat (first|refine blk_drewN ?_ _|refine blk_drew ?_|refine blk_alloc ?_ _));exact BK101.out)) : gb103 ≠ gb101));have n8_:=Aside0.mk ((by rw [hg];exact Nat.ne_of_lt (blk_lt (g:=gb102) (o:=.cells #[.int .i64 a1_0,.bool a1_1,.int .i64 a1_2] 37 (0,0)) (by (with_reducible repeat (first|refine blk_drewN ?_ _|refine blk_drew ?_|refine blk_alloc ?_ _));exact BK102.out)) : gb102 ≠ gb103));have n9_:=Aside0.mk ((by rw [hg];exact Nat.ne_of_gt (blk_lt (g:=gb102) (o:=.cells #[.int .i64 a1_0,.bool a1_1,.int .i64 a1_2] 37 (0,0)) (by (with_reducible repeat (first|refine blk_drewN ?_ _|refine blk_drew ?_|refine blk_alloc ?_ _));exact BK102.out)) : gb103 ≠ gb102));clear BK101;clear BK102;clear HB;have BK101:=n0_;have BK102:=n1_;have HB:=n2_;have BK103:=n3_;have GW103:=n4_;have GE103:=n5_;have NB101_103:=n6_;have NB103_101:=n7_;have NB102_103:=n8_;have NB103_102:=n9_;clear n0_ n1_ n2_ n3_ n4_ n5_ n6_ n7_ n8_ n9_;clear hb hbox hg;have hnb12:=NB101_102.out;have hnc12:=NB102_101.out;have hnb13:=NB101_103.out;have hnc13:=NB103_101.out;have hcz14_0 : w11.cell? ⟨gb101,0,none⟩ = some (.slice A0_0 l0_0.length c0_0):=(blk_cell BK101.out 0).trans rfl;have hfz14_0:=blk_frozen BK101.out 0;have hnb15:=NB102_103.out;have hnc15:=NB103_102.out;have hcz16_0 : w11.cell? ⟨gb102,0,none⟩ = some (.int .i64 a1_0):=(blk_cell BK102.out 0).trans rfl;have hcz16_1 : w11.cell? ⟨gb102,1,none⟩ = some (.bool a1_1):=(blk_cell BK102.out 1).trans rfl;have hcz16_2 : w11.cell? ⟨gb102,2,none⟩ = some (.int .i64 a1_2):=(blk_cell BK102.out 2).trans rfl;have hfz16_0:=blk_frozen BK102.out 0;have hfz16_1:=blk_frozen BK102.out 1;have hfz16_2:=blk_frozen BK102.out 2)|((with_reducible refine gate_callee (f:=116) rfl ?_);refine goesL_ (some 11) rfl rfl Try.func116 (by kernel_rfl) rfl #[.agg #[.slice A0_0 l0_0.length c0_0],.agg #[.int .i64 a1_0,.bool a1_1,.int .i64 a1_2]] rfl (by (try simp only [List.map_toArray,List.map_cons,List.map_nil]);first|done|rfl|(simp only [List.length_drop,List.length_take];rfl)) ?_;(with_reducible refine (impl_layoutCode.calls k _ _ l0_0 a1_0 a1_1 a1_2 t104 _ ?side1 ?side2 A4.out).mono ?_);(case side1 => repeat (first|exact (Kd.C_below HR0_0.out HB.out)|(with_reducible refine Kd.C_alloc ?_ _)|(with_reducible refine Kd.C_drewN ?_ _)|(with_reducible refine Kd.C_drew ?_)));(case side2 => exact HC0_0.out);rintro e w17 ⟨rfl,hb⟩;refine ⟨_,rfl,?_⟩;have n0_:=Aside0.mk (blk_below (g:=gb101) (o:=.cells #[.slice A0_0 l0_0.length c0_0] 104 (0,0)) (by (with_reducible repeat (first|refine blk_drewN ?_ _|refine blk_drew ?_|refine blk_alloc ?_ _));exact BK101.out) hb);have n1_:=Aside0.mk (blk_below (g:=gb102) (o:=.cells #[.int .i64 a1_0,.bool a1_1,.int .i64 a1_2] 37 (0,0)) (by (with_reducible repeat (first|refine blk_drewN ?_ _|refine blk_drew ?_|refine blk_alloc ?_ _));exact BK102.out) hb);have n2_:=Aside0.mk (blk_below (g:=gb103) (o:=.cells #[.int .i64 a2_0,.int .i64 a2_1] 39 (0,0)) (by (with_reducible repeat (first|refine blk_drewN ?_ _|refine blk_drew ?_|refine blk_alloc ?_ _));exact BK103.out) hb);have n3_:=Aside0.mk (below_step (by repeat (first|(with_reducible first|exact HB.out|apply below_alloc|apply pw_below_drewN|apply below_drew1|refine below_set ?_ GE101.out|refine below_set ?_ GE102.out|refine below_set ?_ GE103.out)|exact HB.out)) hb);clear BK101;clear BK102;clear BK103;clear HB;have BK101:=n0_;have BK102:=n1_;have BK103:=n2_;have HB:=n3_;clear n0_ n1_ n2_ n3_;(try clear hb);(try clear hb2);(try clear hk);(try clear hi);have hcz18_0 : w17.cell? ⟨gb101,0,none⟩ = some (.slice A0_0 l0_0.length c0_0):=(blk_cell BK101.out 0).trans rfl;have hfz18_0:=blk_frozen BK101.out 0;have hcz19_0 : w17.cell? ⟨gb102,0,none⟩ = some (.int .i64 a1_0):=(blk_cell BK102.out 0).trans rfl;have hcz19_1 : w17.cell? ⟨gb102,1,none⟩ = some (.bool a1_1):=(blk_cell BK102.out 1).trans rfl;have hcz19_2 : w17.cell? ⟨gb102,2,none⟩ = some (.int .i64 a1_2):=(blk_cell BK102.out 2).trans rfl;have hfz19_0:=blk_frozen BK102.out 0;have hfz19_1:=blk_frozen BK102.out 1;have hfz19_2:=blk_frozen BK102.out 2)|((with_reducible refine gate_callee (f:=122) rfl ?_);refine goesL_ (some 17) rfl rfl Try.func122 (by kernel_rfl) rfl #[.agg #[.slice A0_0 l0_0.length c0_0],.agg #[.int .i64 a1_0,.bool a1_1,.int .i64 a1_2]] rfl (by (try simp only [List.map_toArray,List.map_cons,List.map_nil]);first|done|rfl|(simp only [List.length_drop,List.length_take];rfl)) ?_;(with_reducible refine (impl_rowsOf.calls _ _ l0_0 a1_0 a1_1 a1_2 t105 _ ?side1 ?side2 A6.out).mono ?_);(case side1 => repeat (first|exact (Kd.C_below HR0_0.out HB.out)|(with_reducible refine Kd.C_alloc ?_ _)|(with_reducible refine Kd.C_drewN ?_ _)|(with_reducible refine Kd.C_drew ?_)));(case side2 => exact HC0_0.out);rintro e w20 ⟨v106,rfl,ho0,hb⟩;refine ⟨_,rfl,?_⟩;have n0_:=Aside0.mk (Kd.R_lower ho0 (below_size (by repeat (first|(with_reducible first|exact HB.out|apply below_alloc|apply pw_below_drewN|apply below_drew1|refine below_set ?_ GE101.out|refine below_set ?_ GE102.out|refine below_set ?_ GE103.out)|exact HB.out))));have n1_:=Aside0.mk (blk_below (g:=gb101) (o:=.cells #[.slice A0_0 l0_0.length c0_0] 104 (0,0)) (by (with_reducible repeat (first|refine blk_drewN ?_ _|refine blk_drew ?_|refine blk_alloc ?_ _));exact BK101.out) hb);have n2_:=Aside0.mk (blk_below (g:=gb102) (o:=.cells #[.int .i64 a1_0,.bool a1_1,.int .i64 a1_2] 37 (0,0)) (by (with_reducible repeat (first|refine blk_drewN ?_ _|refine blk_drew ?_|refine blk_alloc ?_ _));exact BK102.out) hb);have n3_:=Aside0.mk (blk_below (g:=gb103) (o:=.cells #[.int .i64 a2_0,.int .i64 a2_1] 39 (0,0)) (by (with_reducible repeat (first|refine blk_drewN ?_ _|refine blk_drew ?_|refine blk_alloc ?_ _));exact BK103.out) hb);have n4_:=Aside0.mk (below_step (by repeat (first|(with_reducible first|exact HB.out|apply below_alloc|apply pw_below_drewN|apply below_drew1|refine below_set ?_ GE101.out|refine below_set ?_ GE102.out|refine below_set ?_ GE103.out)|exact HB.out)) hb);clear BK101;clear BK102;clear BK103;clear HB;have HO107:=n0_;have BK101:=n1_;have BK102:=n2_;have BK103:=n3_;have HB:=n4_;clear n0_ n1_ n2_ n3_ n4_;(try clear hb);(try clear hb2);(try clear hk);(try clear hi);(try clear ho0);have hcz21_0 : w20.cell? ⟨gb103,0,none⟩ = some (.int .i64 a2_0):=(blk_cell BK103.out 0).trans rfl;have hcz21_1 : w20.cell? ⟨gb103,1,none⟩ = some (.int .i64 a2_1):=(blk_cell BK103.out 1).trans rfl;have hfz21_0:=blk_frozen BK103.out 0;have hfz21_1:=blk_frozen BK103.out 1;obtain ⟨Ao22,co22,eo22⟩:=Kd.R_slice HO107.out;subst eo22)|((with_reducible refine gate_callee (f:=123) rfl ?_);refine goesL_ (some 21) rfl rfl Try.func123 (by kernel_rfl) rfl #[.slice Ao22 t105.length co22,.agg #[.int .i64 a2_0,.int .i64 a2_1]] rfl (by (try simp only [List.map_toArray,List.map_cons,List.map_nil]);first|done|rfl|(simp only [List.length_drop,List.length_take];rfl)) ?_;(with_reducible refine (impl_isSpot.calls _ _ t105 a2_0 a2_1 true _ ?side1 ?side2 A7.out).mono ?_);(case side1 => repeat (first|exact (Kd.R_reads' HO107.out).2.2|(with_reducible refine Kd.C_alloc ?_ _)|(with_reducible refine Kd.C_drewN ?_ _)|(with_reducible refine Kd.C_drew ?_)));(case side2 => exact (Kd.R_reads' HO107.out).2.1);rintro e w23 ⟨rfl,hb⟩;refine ⟨_,rfl,?_⟩;have n0_:=Aside0.mk (Kd.R_below (by (with_reducible repeat (first|apply Kd.R_alloc|apply Kd.R_drewN|apply Kd.R_drew));exact HO107.out) hb);have n1_:=Aside0.mk (blk_below (g:=gb101) (o:=.cells #[.slice A0_0 l0_0.length c0_0] 104 (0,0)) (by (with_reducible repeat (first|refine blk_drewN ?_ _|refine blk_drew ?_|refine blk_alloc ?_ _));exact BK101.out) hb);have n2_:=Aside0.mk (blk_below (g:=gb102) (o:=.cells #[.int .i64 a1_0,.bool a1_1,.int .i64 a1_2] 37 (0,0)) (by (with_reducible repeat (first|refine blk_drewN ?_ _|refine blk_drew ?_|refine blk_alloc ?_ _));exact BK102.out) hb);have n3_:=Aside0.mk (blk_below (g:=gb103) (o:=.cells #[.int .i64 a2_0,.int .i64 a2_1] 39 (0,0)) (by (with_reducible repeat (first|refine blk_drewN ?_ _|refine blk_drew ?_|refine blk_alloc ?_ _));exact BK103.out) hb);have n4_:=Aside0.mk (below_step (by repeat (first|(with_reducible first|exact HB.out|apply below_alloc|apply pw_below_drewN|apply below_drew1|refine below_set ?_ GE101.out|refine below_set ?_ GE102.out|refine below_set ?_ GE103.out)|exact HB.out)) hb);clear HO107;clear BK101;clear BK102;clear BK103;clear HB;have HO107:=n0_;have BK101:=n1_;have BK102:=n2_;have BK103:=n3_;have HB:=n4_;clear n0_ n1_ n2_ n3_ n4_;(try clear hb);(try clear hb2);(try clear hk);(try clear hi)))
     go_ret
     exact ⟨by first|rfl|(simp [errW_none,errW_some] <;> rfl)|(simp [*,errW_none,errW_some] <;> rfl),by repeat (first|(with_reducible first|exact HB.out|apply below_alloc|apply pw_below_drewN|apply below_drew1|refine below_set ?_ GE101.out|refine below_set ?_ GE102.out|refine below_set ?_ GE103.out)|exact HB.out)⟩
   · replace c8:=Bool.eq_false_iff.mpr c8
     subst c8
     have H1 : (if (t105.length : Int) = 0 then (some 4) else (some 3)) = some r:=by rw [if_neg (show ¬ (false = true) by decide)] at H;exact H
     clear H
     have H:=H1
     clear H1
     by_cases c24 : (t105.length : Int) = 0
     · rw [if_pos c24] at H
       have c24b0 : ((t105.length : Int) == 0) = true:=beq_iff_eq.mpr c24
       have c24b1 : ((t105.length : Int) != 0) = false:=bne_eq_false_iff_eq.mpr c24
       clear c24
       obtain rfl:=Option.some.inj H
       go_enter Try.func71,Try.ntmps71
       go_wp2_with (first|((with_reducible refine gate_dst (N:=3) rfl ?_);refine box_event ?hg (N:=3) ?hd (cs:=#[.slice A0_0 l0_0.length c0_0]) (t:=104) ?hr ?_;(case hd => rfl);(case hg => rfl);(case hr => first|(go_simp;done)|(go_simp;rfl));intro gb101 hg w25 hbox hb;have n0_:=Aside0.mk (below_step (by repeat (first|(with_reducible first|exact HB.out|apply below_alloc|apply pw_below_drewN|apply below_drew1)|exact HB.out)) hb);have n1_:=Aside0.mk (hbox);have n2_:=Aside0.mk ((by rw [hg];exact (below_size (by repeat (first|(with_reducible first|exact HB.out|apply below_alloc|apply pw_below_drewN|apply below_drew1)|exact HB.out))) : w.heap.size ≤ gb101));have n3_:=Aside0.mk ((by rw [hg];exact (below_size (by repeat (first|(with_reducible first|exact HB.out|apply below_alloc|apply pw_below_drewN|apply below_drew1)|exact HB.out))) : w.heap.size ≤ gb101));clear HB;have HB:=n0_;have BK101:=n1_;have GW101:=n2_;have GE101:=n3_;clear n0_ n1_ n2_ n3_;clear hb hbox hg)|((with_reducible refine gate_dst (N:=4) rfl ?_);refine box_event ?hg (N:=4) ?hd (cs:=#[.int .i64 a1_0,.bool a1_1,.int .i64 a1_2]) (t:=37) ?hr ?_;(case hd => rfl);(case hg => rfl);(case hr => first|(go_simp;done)|(go_simp;rfl));intro gb102 hg w26 hbox hb;have n0_:=Aside0.mk (blk_below (g:=gb101) (o:=.cells #[.slice A0_0 l0_0.length c0_0] 104 (0,0)) (by (with_reducible repeat (first|refine blk_drewN ?_ _|refine blk_drew ?_|refine blk_alloc ?_ _));exact BK101.out) hb);have n1_:=Aside0.mk (below_step (by repeat (first|(with_reducible first|exact HB.out|apply below_alloc|apply pw_below_drewN|apply below_drew1|refine below_set ?_ GE101.out)|exact HB.out)) hb);have n2_:=Aside0.mk (hbox);have n3_:=Aside0.mk ((by rw [hg];exact (below_size (by repeat (first|(with_reducible first|exact HB.out|apply below_alloc|apply pw_below_drewN|apply below_drew1|refine below_set ?_ GE101.out)|exact HB.out))) : w.heap.size ≤ gb102));have n4_:=Aside0.mk ((by rw [hg];exact (below_size (by repeat (first|(with_reducible first|exact HB.out|apply below_alloc|apply pw_below_drewN|apply below_drew1|refine below_set ?_ GE101.out)|exact HB.out))) : w.heap.size ≤ gb102));have n5_:=Aside0.mk ((by rw [hg];exact Nat.ne_of_lt (blk_lt (g:=gb101) (o:=.cells #[.slice A0_0 l0_0.length c0_0] 104 (0,0)) (by (with_reducible repeat (first|refine blk_drewN ?_ _|refine blk_drew ?_|refine blk_alloc ?_ _));exact BK101.out)) : gb101 ≠ gb102));have n6_:=Aside0.mk ((by rw [hg];exact Nat.ne_of_gt (blk_lt (g:=gb101) (o:=.cells #[.slice A0_0 l0_0.length c0_0] 104 (0,0)) (by (with_reducible repeat (first|refine blk_drewN ?_ _|refine blk_drew ?_|refine blk_alloc ?_ _));exact BK101.out)) : gb102 ≠ gb101));clear BK101;clear HB;have BK101:=n0_;have HB:=n1_;have BK102:=n2_;have GW102:=n3_;have GE102:=n4_;have NB101_102:=n5_;have NB102_101:=n6_;clear n0_ n1_ n2_ n3_ n4_ n5_ n6_;clear hb hbox hg)|((with_reducible refine gate_dst (N:=5) rfl ?_);refine box_event ?hg (N:=5) ?hd (cs:=#[.int .i64 a2_0,.int .i64 a2_1]) (t:=39) ?hr ?_;(case hd => rfl);(case hg => rfl);(case hr => first|(go_simp;done)|(go_simp;rfl));intro gb103 hg w27 hbox hb;have n0_:=Aside0.mk (blk_below (g:=gb101) (o:=.cells #[.slice A0_0 l0_0.length c0_0] 104 (0,0)) (by (with_reducible repeat (first|refine blk_drewN ?_ _|refine blk_drew ?_|refine blk_alloc ?_ _));exact BK101.out) hb);have n1_:=Aside0.mk (blk_below (g:=gb102) (o:=.cells #[.int .i64 a1_0,.bool a1_1,.int .i64 a1_2] 37 (0,0)) (by (with_reducible repeat (first|refine blk_drewN ?_ _|refine blk_drew ?_|refine blk_alloc ?_ _));exact BK102.out) hb);have n2_:=Aside0.mk (below_step (by repeat (first|(with_reducible first|exact HB.out|apply below_alloc|apply pw_below_drewN|apply below_drew1|refine below_set ?_ GE101.out|refine below_set ?_ GE102.out)|exact HB.out)) hb);have n3_:=Aside0.mk (hbox);have n4_:=Aside0.mk ((by rw [hg];exact (below_size (by repeat (first|(with_reducible first|exact HB.out|apply below_alloc|apply pw_below_drewN|apply below_drew1|refine below_set ?_ GE101.out|refine below_set ?_ GE102.out)|exact HB.out))) : w.heap.size ≤ gb103));have n5_:=Aside0.mk ((by rw [hg];exact (below_size (by repeat (first|(with_reducible first|exact HB.out|apply below_alloc|apply pw_below_drewN|apply below_drew1|refine below_set ?_ GE101.out|refine below_set ?_ GE102.out)|exact HB.out))) : w.heap.size ≤ gb103));have n6_:=Aside0.mk ((by rw [hg];exact Nat.ne_of_lt (blk_lt (g:=gb101) (o:=.cells #[.slice A0_0 l0_0.length c0_0] 104 (0,0)) (by (with_reducible repeat (first|refine blk_drewN ?_ _|refine blk_drew ?_|refine blk_alloc ?_ _));exact BK101.out)) : gb101 ≠ gb103));have n7_:=Aside0.mk ((by rw [hg];exact Nat.ne_of_gt (blk_lt (g:=gb101) (o:=.cells #[.slice A0_0 l0_0.length c0_0] 104 (0,0)) (by (with_reducible repeat (first|refine blk_drewN ?_ _|refine blk_drew ?_|refine blk_alloc ?_ _));exact BK101.out)) : gb103 ≠ gb101));have n8_:=Aside0.mk ((by rw [hg];exact Nat.ne_of_lt (blk_lt (g:=gb102) (o:=.cells #[.int .i64 a1_0,.bool a1_1,.int .i64 a1_2] 37 (0,0)) (by (with_reducible repeat (first|refine blk_drewN ?_ _|refine blk_drew ?_|refine blk_alloc ?_ _));exact BK102.out)) : gb102 ≠ gb103));have n9_:=Aside0.mk ((by rw [hg];exact Nat.ne_of_gt (blk_lt (g:=gb102) (o:=.cells #[.int .i64 a1_0,.bool a1_1,.int .i64 a1_2] 37 (0,0)) (by (with_reducible repeat (first|refine blk_drewN ?_ _|refine blk_drew ?_|refine blk_alloc ?_ _));exact BK102.out)) : gb103 ≠ gb102));clear BK101;clear BK102;clear HB;have BK101:=n0_;have BK102:=n1_;have HB:=n2_;have BK103:=n3_;have GW103:=n4_;have GE103:=n5_;have NB101_103:=n6_;have NB103_101:=n7_;have NB102_103:=n8_;have NB103_102:=n9_;clear n0_ n1_ n2_ n3_ n4_ n5_ n6_ n7_ n8_ n9_;clear hb hbox hg;have hnb28:=NB101_102.out;have hnc28:=NB102_101.out;have hnb29:=NB101_103.out;have hnc29:=NB103_101.out;have hcz30_0 : w27.cell? ⟨gb101,0,none⟩ = some (.slice A0_0 l0_0.length c0_0):=(blk_cell BK101.out 0).trans rfl;have hfz30_0:=blk_frozen BK101.out 0;have hnb31:=NB102_103.out;have hnc31:=NB103_102.out;have hcz32_0 : w27.cell? ⟨gb102,0,none⟩ = some (.int .i64 a1_0):=(blk_cell BK102.out 0).trans rfl;have hcz32_1 : w27.cell? ⟨gb102,1,none⟩ = some (.bool a1_1):=(blk_cell BK102.out 1).trans rfl;have hcz32_2 : w27.cell? ⟨gb102,2,none⟩ = some (.int .i64 a1_2):=(blk_cell BK102.out 2).trans rfl;have hfz32_0:=blk_frozen BK102.out 0;have hfz32_1:=blk_frozen BK102.out 1;have hfz32_2:=blk_frozen BK102.out 2)|((with_reducible refine gate_callee (f:=116) rfl ?_);refine goesL_ (some 11) rfl rfl Try.func116 (by kernel_rfl) rfl #[.agg #[.slice A0_0 l0_0.length c0_0],.agg #[.int .i64 a1_0,.bool a1_1,.int .i64 a1_2]] rfl (by (try simp only [List.map_toArray,List.map_cons,List.map_nil]);first|done|rfl|(simp only [List.length_drop,List.length_take];rfl)) ?_;(with_reducible refine (impl_layoutCode.calls k _ _ l0_0 a1_0 a1_1 a1_2 t104 _ ?side1 ?side2 A4.out).mono ?_);(case side1 => repeat (first|exact (Kd.C_below HR0_0.out HB.out)|(with_reducible refine Kd.C_alloc ?_ _)|(with_reducible refine Kd.C_drewN ?_ _)|(with_reducible refine Kd.C_drew ?_)));(case side2 => exact HC0_0.out);rintro e w33 ⟨rfl,hb⟩;refine ⟨_,rfl,?_⟩;have n0_:=Aside0.mk (blk_below (g:=gb101) (o:=.cells #[.slice A0_0 l0_0.length c0_0] 104 (0,0)) (by (with_reducible repeat (first|refine blk_drewN ?_ _|refine blk_drew ?_|refine blk_alloc ?_ _));exact BK101.out) hb);have n1_:=Aside0.mk (blk_below (g:=gb102) (o:=.cells #[.int .i64 a1_0,.bool a1_1,.int .i64 a1_2] 37 (0,0)) (by (with_reducible repeat (first|refine blk_drewN ?_ _|refine blk_drew ?_|refine blk_alloc ?_ _));exact BK102.out) hb);have n2_:=Aside0.mk (blk_below (g:=gb103) (o:=.cells #[.int .i64 a2_0,.int .i64 a2_1] 39 (0,0)) (by (with_reducible repeat (first|refine blk_drewN ?_ _|refine blk_drew ?_|refine blk_alloc ?_ _));exact BK103.out) hb);have n3_:=Aside0.mk (below_step (by repeat (first|(with_reducible first|exact HB.out|apply below_alloc|apply pw_below_drewN|apply below_drew1|refine below_set ?_ GE101.out|refine below_set ?_ GE102.out|refine below_set ?_ GE103.out)|exact HB.out)) hb);clear BK101;clear BK102;clear BK103;clear HB;have BK101:=n0_;have BK102:=n1_;have BK103:=n2_;have HB:=n3_;clear n0_ n1_ n2_ n3_;(try clear hb);(try clear hb2);(try clear hk);(try clear hi);have hcz34_0 : w33.cell? ⟨gb101,0,none⟩ = some (.slice A0_0 l0_0.length c0_0):=(blk_cell BK101.out 0).trans rfl;have hfz34_0:=blk_frozen BK101.out 0;have hcz35_0 : w33.cell? ⟨gb102,0,none⟩ = some (.int .i64 a1_0):=(blk_cell BK102.out 0).trans rfl;have hcz35_1 : w33.cell? ⟨gb102,1,none⟩ = some (.bool a1_1):=(blk_cell BK102.out 1).trans rfl;have hcz35_2 : w33.cell? ⟨gb102,2,none⟩ = some (.int .i64 a1_2):=(blk_cell BK102.out 2).trans rfl;have hfz35_0:=blk_frozen BK102.out 0;have hfz35_1:=blk_frozen BK102.out 1;have hfz35_2:=blk_frozen BK102.out 2)|((with_reducible refine gate_callee (f:=122) rfl ?_);refine goesL_ (some 17) rfl rfl Try.func122 (by kernel_rfl) rfl #[.agg #[.slice A0_0 l0_0.length c0_0],.agg #[.int .i64 a1_0,.bool a1_1,.int .i64 a1_2]] rfl (by (try simp only [List.map_toArray,List.map_cons,List.map_nil]);first|done|rfl|(simp only [List.length_drop,List.length_take];rfl)) ?_;(with_reducible refine (impl_rowsOf.calls _ _ l0_0 a1_0 a1_1 a1_2 t105 _ ?side1 ?side2 A6.out).mono ?_);(case side1 => repeat (first|exact (Kd.C_below HR0_0.out HB.out)|(with_reducible refine Kd.C_alloc ?_ _)|(with_reducible refine Kd.C_drewN ?_ _)|(with_reducible refine Kd.C_drew ?_)));(case side2 => exact HC0_0.out);rintro e w36 ⟨v106,rfl,ho0,hb⟩;refine ⟨_,rfl,?_⟩;have n0_:=Aside0.mk (Kd.R_lower ho0 (below_size (by repeat (first|(with_reducible first|exact HB.out|apply below_alloc|apply pw_below_drewN|apply below_drew1|refine below_set ?_ GE101.out|refine below_set ?_ GE102.out|refine below_set ?_ GE103.out)|exact HB.out))));have n1_:=Aside0.mk (blk_below (g:=gb101) (o:=.cells #[.slice A0_0 l0_0.length c0_0] 104 (0,0)) (by (with_reducible repeat (first|refine blk_drewN ?_ _|refine blk_drew ?_|refine blk_alloc ?_ _));exact BK101.out) hb);have n2_:=Aside0.mk (blk_below (g:=gb102) (o:=.cells #[.int .i64 a1_0,.bool a1_1,.int .i64 a1_2] 37 (0,0)) (by (with_reducible repeat (first|refine blk_drewN ?_ _|refine blk_drew ?_|refine blk_alloc ?_ _));exact BK102.out) hb);have n3_:=Aside0.mk (blk_below (g:=gb103) (o:=.cells #[.int .i64 a2_0,.int .i64 a2_1] 39 (0,0)) (by (with_reducible repeat (first|refine blk_drewN ?_ _|refine blk_drew ?_|refine blk_alloc ?_ _));exact BK103.out) hb);have n4_:=Aside0.mk (below_step (by repeat (first|(with_reducible first|exact HB.out|apply below_alloc|apply pw_below_drewN|apply below_drew1|refine below_set ?_ GE101.out|refine below_set ?_ GE102.out|refine below_set ?_ GE103.out)|exact HB.out)) hb);clear BK101;clear BK102;clear BK103;clear HB;have HO107:=n0_;have BK101:=n1_;have BK102:=n2_;have BK103:=n3_;have HB:=n4_;clear n0_ n1_ n2_ n3_ n4_;(try clear hb);(try clear hb2);(try clear hk);(try clear hi);(try clear ho0);have hcz37_0 : w36.cell? ⟨gb103,0,none⟩ = some (.int .i64 a2_0):=(blk_cell BK103.out 0).trans rfl;have hcz37_1 : w36.cell? ⟨gb103,1,none⟩ = some (.int .i64 a2_1):=(blk_cell BK103.out 1).trans rfl;have hfz37_0:=blk_frozen BK103.out 0;have hfz37_1:=blk_frozen BK103.out 1;obtain ⟨Ao38,co38,eo38⟩:=Kd.R_slice HO107.out;subst eo38)|((with_reducible refine gate_callee (f:=123) rfl ?_);refine goesL_ (some 21) rfl rfl Try.func123 (by kernel_rfl) rfl #[.slice Ao38 t105.length co38,.agg #[.int .i64 a2_0,.int .i64 a2_1]] rfl (by (try simp only [List.map_toArray,List.map_cons,List.map_nil]);first|done|rfl|(simp only [List.length_drop,List.length_take];rfl)) ?_;(with_reducible refine (impl_isSpot.calls _ _ t105 a2_0 a2_1 false _ ?side1 ?side2 A7.out).mono ?_);(case side1 => repeat (first|exact (Kd.R_reads' HO107.out).2.2|(with_reducible refine Kd.C_alloc ?_ _)|(with_reducible refine Kd.C_drewN ?_ _)|(with_reducible refine Kd.C_drew ?_)));(case side2 => exact (Kd.R_reads' HO107.out).2.1);rintro e w39 ⟨rfl,hb⟩;refine ⟨_,rfl,?_⟩;have n0_:=Aside0.mk (Kd.R_below (by (with_reducible repeat (first|apply Kd.R_alloc|apply Kd.R_drewN|apply Kd.R_drew));exact HO107.out) hb);have n1_:=Aside0.mk (blk_below (g:=gb101) (o:=.cells #[.slice A0_0 l0_0.length c0_0] 104 (0,0)) (by (with_reducible repeat (first|refine blk_drewN ?_ _|refine blk_drew ?_|refine blk_alloc ?_ _));exact BK101.out) hb);have n2_:=Aside0.mk (blk_below (g:=gb102) (o:=.cells #[.int .i64 a1_0,.bool a1_1,.int .i64 a1_2] 37 (0,0)) (by (with_reducible repeat (first|refine blk_drewN ?_ _|refine blk_drew ?_|refine blk_alloc ?_ _));exact BK102.out) hb);have n3_:=Aside0.mk (blk_below (g:=gb103) (o:=.cells #[.int .i64 a2_0,.int .i64 a2_1] 39 (0,0)) (by (with_reducible repeat (first|refine blk_drewN ?_ _|refine blk_drew ?_|refine blk_alloc ?_ _));exact BK103.out) hb);have n4_:=Aside0.mk (below_step (by repeat (first|(with_reducible first|exact HB.out|apply below_alloc|apply pw_below_drewN|apply below_drew1|refine below_set ?_ GE101.out|refine below_set ?_ GE102.out|refine below_set ?_ GE103.out)|exact HB.out)) hb);clear HO107;clear BK101;clear BK102;clear BK103;clear HB;have HO107:=n0_;have BK101:=n1_;have BK102:=n2_;have BK103:=n3_;have HB:=n4_;clear n0_ n1_ n2_ n3_ n4_;(try clear hb);(try clear hb2);(try clear hk);(try clear hi)))
       go_ret
       exact ⟨by first|rfl|(simp [errW_none,errW_some] <;> rfl)|(simp [*,errW_none,errW_some] <;> rfl),by repeat (first|(with_reducible first|exact HB.out|apply below_alloc|apply pw_below_drewN|apply below_drew1|refine below_set ?_ GE101.out|refine below_set ?_ GE102.out|refine below_set ?_ GE103.out)|exact HB.out)⟩
     · rw [if_neg c24] at H
       have c24b0 : ((t105.length : Int) == 0) = false:=beq_eq_false_iff_ne.mpr c24
       have c24b1 : ((t105.length : Int) != 0) = true:=bne_iff_ne.mpr c24
       have c24b2 : ¬ (t105 = []):=fun h_ => c24 (by rw [h_];rfl)
       obtain rfl:=Option.some.inj H
       go_enter Try.func71,Try.ntmps71
       go_wp2_with (first|((with_reducible refine gate_dst (N:=3) rfl ?_);refine box_event ?hg (N:=3) ?hd (cs:=#[.slice A0_0 l0_0.length c0_0]) (t:=104) ?hr ?_;(case hd => rfl);(case hg => rfl);(case hr => first|(go_simp;done)|(go_simp;rfl));intro gb101 hg w40 hbox hb;have n0_:=Aside0.mk (below_step (by repeat (first|(with_reducible first|exact HB.out|apply below_alloc|apply pw_below_drewN|apply below_drew1)|exact HB.out)) hb);have n1_:=Aside0.mk (hbox);have n2_:=Aside0.mk ((by rw [hg];exact (below_size (by repeat (first|(with_reducible first|exact HB.out|apply below_alloc|apply pw_below_drewN|apply below_drew1)|exact HB.out))) : w.heap.size ≤ gb101));have n3_:=Aside0.mk ((by rw [hg];exact (below_size (by repeat (first|(with_reducible first|exact HB.out|apply below_alloc|apply pw_below_drewN|apply below_drew1)|exact HB.out))) : w.heap.size ≤ gb101));clear HB;have HB:=n0_;have BK101:=n1_;have GW101:=n2_;have GE101:=n3_;clear n0_ n1_ n2_ n3_;clear hb hbox hg)|((with_reducible refine gate_dst (N:=4) rfl ?_);refine box_event ?hg (N:=4) ?hd (cs:=#[.int .i64 a1_0,.bool a1_1,.int .i64 a1_2]) (t:=37) ?hr ?_;(case hd => rfl);(case hg => rfl);(case hr => first|(go_simp;done)|(go_simp;rfl));intro gb102 hg w41 hbox hb;have n0_:=Aside0.mk (blk_below (g:=gb101) (o:=.cells #[.slice A0_0 l0_0.length c0_0] 104 (0,0)) (by (with_reducible repeat (first|refine blk_drewN ?_ _|refine blk_drew ?_|refine blk_alloc ?_ _));exact BK101.out) hb);have n1_:=Aside0.mk (below_step (by repeat (first|(with_reducible first|exact HB.out|apply below_alloc|apply pw_below_drewN|apply below_drew1|refine below_set ?_ GE101.out)|exact HB.out)) hb);have n2_:=Aside0.mk (hbox);have n3_:=Aside0.mk ((by rw [hg];exact (below_size (by repeat (first|(with_reducible first|exact HB.out|apply below_alloc|apply pw_below_drewN|apply below_drew1|refine below_set ?_ GE101.out)|exact HB.out))) : w.heap.size ≤ gb102));have n4_:=Aside0.mk ((by rw [hg];exact (below_size (by repeat (first|(with_reducible first|exact HB.out|apply below_alloc|apply pw_below_drewN|apply below_drew1|refine below_set ?_ GE101.out)|exact HB.out))) : w.heap.size ≤ gb102));have n5_:=Aside0.mk ((by rw [hg];exact Nat.ne_of_lt (blk_lt (g:=gb101) (o:=.cells #[.slice A0_0 l0_0.length c0_0] 104 (0,0)) (by (with_reducible repeat (first|refine blk_drewN ?_ _|refine blk_drew ?_|refine blk_alloc ?_ _));exact BK101.out)) : gb101 ≠ gb102));have n6_:=Aside0.mk ((by rw [hg];exact Nat.ne_of_gt (blk_lt (g:=gb101) (o:=.cells #[.slice A0_0 l0_0.length c0_0] 104 (0,0)) (by (with_reducible repeat (first|refine blk_drewN ?_ _|refine blk_drew ?_|refine blk_alloc ?_ _));exact BK101.out)) : gb102 ≠ gb101));clear BK101;clear HB;have BK101:=n0_;have HB:=n1_;have BK102:=n2_;have GW102:=n3_;have GE102:=n4_;have NB101_102:=n5_;have NB102_101:=n6_;clear n0_ n1_ n2_ n3_ n4_ n5_ n6_;clear hb hbox hg)|((with_reducible refine gate_dst (N:=5) rfl ?_);refine box_event ?hg (N:=5) ?hd (cs:=#[.int .i64 a2_0,.int .i64 a2_1]) (t:=39) ?hr ?_;(case hd => rfl);(case hg => rfl);(case hr => first|(go_simp;done)|(go_simp;rfl));intro gb103 hg w42 hbox hb;have n0_:=Aside0.mk (blk_below (g:=gb101) (o:=.cells #[.slice A0_0 l0_0.length c0_0] 104 (0,0)) (by (with_reducible repeat (first|refine blk_drewN ?_ _|refine blk_drew ?_|refine blk_alloc ?_ _));exact BK101.out) hb);have n1_:=Aside0.mk (blk_below (g:=gb102) (o:=.cells #[.int .i64 a1_0,.bool a1_1,.int .i64 a1_2] 37 (0,0)) (by (with_reducible repeat (first|refine blk_drewN ?_ _|refine blk_drew ?_|refine blk_alloc ?_ _));exact BK102.out) hb);have n2_:=Aside0.mk (below_step (by repeat (first|(with_reducible first|exact HB.out|apply below_alloc|apply pw_below_drewN|apply below_drew1|refine below_set ?_ GE101.out|refine below_set ?_ GE102.out)|exact HB.out)) hb);have n3_:=Aside0.mk (hbox);have n4_:=Aside0.mk ((by rw [hg];exact (below_size (by repeat (first|(with_reducible first|exact HB.out|apply below_alloc|apply pw_below_drewN|apply below_drew1|refine below_set ?_ GE101.out|refine below_set ?_ GE102.out)|exact HB.out))) : w.heap.size ≤ gb103));have n5_:=Aside0.mk ((by rw [hg];exact (below_size (by repeat (first|(with_reducible first|exact HB.out|apply below_alloc|apply pw_below_drewN|apply below_drew1|refine below_set ?_ GE101.out|refine below_set ?_ GE102.out)|exact HB.out))) : w.heap.size ≤ gb103));have n6_:=Aside0.mk ((by rw [hg];exact Nat.ne_of_lt (blk_lt (g:=gb101) (o:=.cells #[.slice A0_0 l0_0.length c0_0] 104 (0,0)) (by (with_reducible repeat (first|refine blk_drewN ?_ _|refine blk_drew ?_|refine blk_alloc ?_ _));exact BK101.out)) : gb101 ≠ gb103));have n7_:=Aside0.mk ((by rw [hg];exact Nat.ne_of_gt (blk_lt (g:=gb101) (o:=.cells #[.slice A0_0 l0_0.length c0_0] 104 (0,0)) (by (with_reducible repeat (first|refine blk_drewN ?_ _|refine blk_drew ?_|refine blk_alloc ?_ _));exact BK101.out)) : gb103 ≠ gb101));have n8_:=Aside0.mk ((by rw [hg];exact Nat.ne_of_lt (blk_lt (g:=gb102) (o:=.cells #[.int .i64 a1_0,.bool a1_1,.int .i64 a1_2] 37 (0,0)) (by (with_reducible repeat (first|refine blk_drewN ?_ _|refine blk_drew ?_|refine blk_alloc ?_ _));exact BK102.out)) : gb102 ≠ gb103));have n9_:=Aside0.mk ((by rw [hg];exact Nat.ne_of_gt (blk_lt (g:=gb102) (o:=.cells #[.int .i64 a1_0,.bool a1_1,.int .i64 a1_2] 37 (0,0)) (by (with_reducible repeat (first|refine blk_drewN ?_ _|refine blk_drew ?_|refine blk_alloc ?_ _));exact BK102.out)) : gb103 ≠ gb102));clear BK101;clear BK102;clear HB;have BK101:=n0_;have BK102:=n1_;have HB:=n2_;have BK103:=n3_;have GW103:=n4_;have GE103:=n5_;have NB101_103:=n6_;have NB103_101:=n7_;have NB102_103:=n8_;have NB103_102:=n9_;clear n0_ n1_ n2_ n3_ n4_ n5_ n6_ n7_ n8_ n9_;clear hb hbox hg;have hnb43:=NB101_102.out;have hnc43:=NB102_101.out;have hnb44:=NB101_103.out;have hnc44:=NB103_101.out;have hcz45_0 : w42.cell? ⟨gb101,0,none⟩ = some (.slice A0_0 l0_0.length c0_0):=(blk_cell BK101.out 0).trans rfl;have hfz45_0:=blk_frozen BK101.out 0;have hnb46:=NB102_103.out;have hnc46:=NB103_102.out;have hcz47_0 : w42.cell? ⟨gb102,0,none⟩ = some (.int .i64 a1_0):=(blk_cell BK102.out 0).trans rfl;have hcz47_1 : w42.cell? ⟨gb102,1,none⟩ = some (.bool a1_1):=(blk_cell BK102.out 1).trans rfl;have hcz47_2 : w42.cell? ⟨gb102,2,none⟩ = some (.int .i64 a1_2):=(blk_cell BK102.out 2).trans rfl;have hfz47_0:=blk_frozen BK102.out 0;have hfz47_1:=blk_frozen BK102.out 1;have hfz47_2:=blk_frozen BK102.out 2)|((with_reducible refine gate_callee (f:=116) rfl ?_);refine goesL_ (some 11) rfl rfl Try.func116 (by kernel_rfl) rfl #[.agg #[.slice A0_0 l0_0.length c0_0],.agg #[.int .i64 a1_0,.bool a1_1,.int .i64 a1_2]] rfl (by (try simp only [List.map_toArray,List.map_cons,List.map_nil]);first|done|rfl|(simp only [List.length_drop,List.length_take];rfl)) ?_;(with_reducible refine (impl_layoutCode.calls k _ _ l0_0 a1_0 a1_1 a1_2 t104 _ ?side1 ?side2 A4.out).mono ?_);(case side1 => repeat (first|exact (Kd.C_below HR0_0.out HB.out)|(with_reducible refine Kd.C_alloc ?_ _)|(with_reducible refine Kd.C_drewN ?_ _)|(with_reducible refine Kd.C_drew ?_)));(case side2 => exact HC0_0.out);rintro e w48 ⟨rfl,hb⟩;refine ⟨_,rfl,?_⟩;have n0_:=Aside0.mk (blk_below (g:=gb101) (o:=.cells #[.slice A0_0 l0_0.length c0_0] 104 (0,0)) (by (with_reducible repeat (first|refine blk_drewN ?_ _|refine blk_drew ?_|refine blk_alloc ?_ _));exact BK101.out) hb);have n1_:=Aside0.mk (blk_below (g:=gb102) (o:=.cells #[.int .i64 a1_0,.bool a1_1,.int .i64 a1_2] 37 (0,0)) (by (with_reducible repeat (first|refine blk_drewN ?_ _|refine blk_drew ?_|refine blk_alloc ?_ _));exact BK102.out) hb);have n2_:=Aside0.mk (blk_below (g:=gb103) (o:=.cells #[.int .i64 a2_0,.int .i64 a2_1] 39 (0,0)) (by (with_reducible repeat (first|refine blk_drewN ?_ _|refine blk_drew ?_|refine blk_alloc ?_ _));exact BK103.out) hb);have n3_:=Aside0.mk (below_step (by repeat (first|(with_reducible first|exact HB.out|apply below_alloc|apply pw_below_drewN|apply below_drew1|refine below_set ?_ GE101.out|refine below_set ?_ GE102.out|refine below_set ?_ GE103.out)|exact HB.out)) hb);clear BK101;clear BK102;clear BK103;clear HB;have BK101:=n0_;have BK102:=n1_;have BK103:=n2_;have HB:=n3_;clear n0_ n1_ n2_ n3_;(try clear hb);(try clear hb2);(try clear hk);(try clear hi);have hcz49_0 : w48.cell? ⟨gb101,0,none⟩ = some (.slice A0_0 l0_0.length c0_0):=(blk_cell BK101.out 0).trans rfl;have hfz49_0:=blk_frozen BK101.out 0;have hcz50_0 : w48.cell? ⟨gb102,0,none⟩ = some (.int .i64 a1_0):=(blk_cell BK102.out 0).trans rfl;have hcz50_1 : w48.cell? ⟨gb102,1,none⟩ = some (.bool a1_1):=(blk_cell BK102.out 1).trans rfl;have hcz50_2 : w48.cell? ⟨gb102,2,none⟩ = some (.int .i64 a1_2):=(blk_cell BK102.out 2).trans rfl;have hfz50_0:=blk_frozen BK102.out 0;have hfz50_1:=blk_frozen BK102.out 1;have hfz50_2:=blk_frozen BK102.out 2)|((with_reducible refine gate_callee (f:=122) rfl ?_);refine goesL_ (some 17) rfl rfl Try.func122 (by kernel_rfl) rfl #[.agg #[.slice A0_0 l0_0.length c0_0],.agg #[.int .i64 a1_0,.bool a1_1,.int .i64 a1_2]] rfl (by (try simp only [List.map_toArray,List.map_cons,List.map_nil]);first|done|rfl|(simp only [List.length_drop,List.length_take];rfl)) ?_;(with_reducible refine (impl_rowsOf.calls _ _ l0_0 a1_0 a1_1 a1_2 t105 _ ?side1 ?side2 A6.out).mono ?_);(case side1 => repeat (first|exact (Kd.C_below HR0_0.out HB.out)|(with_reducible refine Kd.C_alloc ?_ _)|(with_reducible refine Kd.C_drewN ?_ _)|(with_reducible refine Kd.C_drew ?_)));(case side2 => exact HC0_0.out);rintro e w51 ⟨v106,rfl,ho0,hb⟩;refine ⟨_,rfl,?_⟩;have n0_:=Aside0.mk (Kd.R_lower ho0 (below_size (by repeat (first|(with_reducible first|exact HB.out|apply below_alloc|apply pw_below_drewN|apply below_drew1|refine below_set ?_ GE101.out|refine below_set ?_ GE102.out|refine below_set ?_ GE103.out)|exact HB.out))));have n1_:=Aside0.mk (blk_below (g:=gb101) (o:=.cells #[.slice A0_0 l0_0.length c0_0] 104 (0,0)) (by (with_reducible repeat (first|refine blk_drewN ?_ _|refine blk_drew ?_|refine blk_alloc ?_ _));exact BK101.out) hb);have n2_:=Aside0.mk (blk_below (g:=gb102) (o:=.cells #[.int .i64 a1_0,.bool a1_1,.int .i64 a1_2] 37 (0,0)) (by (with_reducible repeat (first|refine blk_drewN ?_ _|refine blk_drew ?_|refine blk_alloc ?_ _));exact BK102.out) hb);have n3_:=Aside0.mk (blk_below (g:=gb103) (o:=.cells #[.int .i64 a2_0,.int .i64 a2_1] 39 (0,0)) (by (with_reducible repeat (first|refine blk_drewN ?_ _|refine blk_drew ?_|refine blk_alloc ?_ _));exact BK103.out) hb);have n4_:=Aside0.mk (below_step (by repeat (first|(with_reducible first|exact HB.out|apply below_alloc|apply pw_below_drewN|apply below_drew1|refine below_set ?_ GE101.out|refine below_set ?_ GE102.out|refine below_set ?_ GE103.out)|exact HB.out)) hb);clear BK101;clear BK102;clear BK103;clear HB;have HO107:=n0_;have BK101:=n1_;have BK102:=n2_;have BK103:=n3_;have HB:=n4_;clear n0_ n1_ n2_ n3_ n4_;(try clear hb);(try clear hb2);(try clear hk);(try clear hi);(try clear ho0);have hcz52_0 : w51.cell? ⟨gb103,0,none⟩ = some (.int .i64 a2_0):=(blk_cell BK103.out 0).trans rfl;have hcz52_1 : w51.cell? ⟨gb103,1,none⟩ = some (.int .i64 a2_1):=(blk_cell BK103.out 1).trans rfl;have hfz52_0:=blk_frozen BK103.out 0;have hfz52_1:=blk_frozen BK103.out 1;obtain ⟨Ao53,co53,eo53⟩:=Kd.R_slice HO107.out;subst eo53)|((with_reducible refine gate_callee (f:=123) rfl ?_);refine goesL_ (some 21) rfl rfl Try.func123 (by kernel_rfl) rfl #[.slice Ao53 t105.length co53,.agg #[.int .i64 a2_0,.int .i64 a2_1]] rfl (by (try simp only [List.map_toArray,List.map_cons,List.map_nil]);first|done|rfl|(simp only [List.length_drop,List.length_take];rfl)) ?_;(with_reducible refine (impl_isSpot.calls _ _ t105 a2_0 a2_1 false _ ?side1 ?side2 A7.out).mono ?_);(case side1 => repeat (first|exact (Kd.R_reads' HO107.out).2.2|(with_reducible refine Kd.C_alloc ?_ _)|(with_reducible refine Kd.C_drewN ?_ _)|(with_reducible refine Kd.C_drew ?_)));(case side2 => exact (Kd.R_reads' HO107.out).2.1);rintro e w54 ⟨rfl,hb⟩;refine ⟨_,rfl,?_⟩;have n0_:=Aside0.mk (Kd.R_below (by (with_reducible repeat (first|apply Kd.R_alloc|apply Kd.R_drewN|apply Kd.R_drew));exact HO107.out) hb);have n1_:=Aside0.mk (blk_below (g:=gb101) (o:=.cells #[.slice A0_0 l0_0.length c0_0] 104 (0,0)) (by (with_reducible repeat (first|refine blk_drewN ?_ _|refine blk_drew ?_|refine blk_alloc ?_ _));exact BK101.out) hb);have n2_:=Aside0.mk (blk_below (g:=gb102) (o:=.cells #[.int .i64 a1_0,.bool a1_1,.int .i64 a1_2] 37 (0,0)) (by (with_reducible repeat (first|refine blk_drewN ?_ _|refine blk_drew ?_|refine blk_alloc ?_ _));exact BK102.out) hb);have n3_:=Aside0.mk (blk_below (g:=gb103) (o:=.cells #[.int .i64 a2_0,.int .i64 a2_1] 39 (0,0)) (by (with_reducible repeat (first|refine blk_drewN ?_ _|refine blk_drew ?_|refine blk_alloc ?_ _));exact BK103.out) hb);have n4_:=Aside0.mk (below_step (by repeat (first|(with_reducible first|exact HB.out|apply below_alloc|apply pw_below_drewN|apply below_drew1|refine below_set ?_ GE101.out|refine below_set ?_ GE102.out|refine below_set ?_ GE103.out)|exact HB.out)) hb);clear HO107;clear BK101;clear BK102;clear BK103;clear HB;have HO107:=n0_;have BK101:=n1_;have BK102:=n2_;have BK103:=n3_;have HB:=n4_;clear n0_ n1_ n2_ n3_ n4_;(try clear hb);(try clear hb2);(try clear hk);(try clear hi)))
       go_ret
       exact ⟨by first|rfl|(simp [errW_none,errW_some] <;> rfl)|(simp [*,errW_none,errW_some] <;> rfl),by repeat (first|(with_reducible first|exact HB.out|apply below_alloc|apply pw_below_drewN|apply below_drew1|refine below_set ?_ GE101.out|refine below_set ?_ GE102.out|refine below_set ?_ GE103.out)|exact HB.out)⟩
 · rw [if_neg c5] at H
   have c5b0 : (t104 == 0) = false:=beq_eq_false_iff_ne.mpr c5
   have c5b1 : (t104 != 0) = true:=bne_iff_ne.mpr c5
   obtain rfl:=Option.some.inj H
   go_enter Try.func71,Try.ntmps71
   go_wp2_with (first|((with_reducible refine gate_dst (N:=3) rfl ?_);refine box_event ?hg (N:=3) ?hd (cs:=#[.slice A0_0 l0_0.length c0_0]) (t:=104) ?hr ?_;(case hd => rfl);(case hg => rfl);(case hr => first|(go_simp;done)|(go_simp;rfl));intro gb101 hg w55 hbox hb;have n0_:=Aside0.mk (below_step (by repeat (first|(with_reducible first|exact HB.out|apply below_alloc|apply pw_below_drewN|apply below_drew1)|exact HB.out)) hb);have n1_:=Aside0.mk (hbox);have n2_:=Aside0.mk ((by rw [hg];exact (below_size (by repeat (first|(with_reducible first|exact HB.out|apply below_alloc|apply pw_below_drewN|apply below_drew1)|exact HB.out))) : w.heap.size ≤ gb101));have n3_:=Aside0.mk ((by rw [hg];exact (below_size (by repeat (first|(with_reducible first|exact HB.out|apply below_alloc|apply pw_below_drewN|apply below_drew1)|exact HB.out))) : w.heap.size ≤ gb101));clear HB;have HB:=n0_;have BK101:=n1_;have GW101:=n2_;have GE101:=n3_;clear n0_ n1_ n2_ n3_;clear hb hbox hg)|((with_reducible refine gate_dst (N:=4) rfl ?_);refine box_event ?hg (N:=4) ?hd (cs:=#[.int .i64 a1_0,.bool a1_1,.int .i64 a1_2]) (t:=37) ?hr ?_;(case hd => rfl);(case hg => rfl);(case hr => first|(go_simp;done)|(go_simp;rfl));intro gb102 hg w56 hbox hb;have n0_:=Aside0.mk (blk_below (g:=gb101) (o:=.cells #[.slice A0_0 l0_0.length c0_0] 104 (0,0)) (by (with_reducible repeat (first|refine blk_drewN ?_ _|refine blk_drew ?_|refine blk_alloc ?_ _));exact BK101.out) hb);have n1_:=Aside0.mk (below_step (by repeat (first|(with_reducible first|exact HB.out|apply below_alloc|apply pw_below_drewN|apply below_drew1|refine below_set ?_ GE101.out)|exact HB.out)) hb);have n2_:=Aside0.mk (hbox);have n3_:=Aside0.mk ((by rw [hg];exact (below_size (by repeat (first|(with_reducible first|exact HB.out|apply below_alloc|apply pw_below_drewN|apply below_drew1|refine below_set ?_ GE101.out)|exact HB.out))) : w.heap.size ≤ gb102));have n4_:=Aside0.mk ((by rw [hg];exact (below_size (by repeat (first|(with_reducible first|exact HB.out|apply below_alloc|apply pw_below_drewN|apply below_drew1|refine below_set ?_ GE101.out)|exact HB.out))) : w.heap.size ≤ gb102));have n5_:=Aside0.mk ((by rw [hg];exact Nat.ne_of_lt (blk_lt (g:=gb101) (o:=.cells #[.slice A0_0 l0_0.length c0_0] 104 (0,0)) (by (with_reducible repeat (first|refine blk_drewN ?_ _|refine blk_drew ?_|refine blk_alloc ?_ _));exact BK101.out)) : gb101 ≠ gb102));have n6_:=Aside0.mk ((by rw [hg];exact Nat.ne_of_gt (blk_lt (g:=gb101) (o:=.cells #[.slice A0_0 l0_0.length c0_0] 104 (0,0)) (by (with_reducible repeat (first|refine blk_drewN ?_ _|refine blk_drew ?_|refine blk_alloc ?_ _));exact BK101.out)) : gb102 ≠ gb101));clear BK101;clear HB;have BK101:=n0_;have HB:=n1_;have BK102:=n2_;have GW102:=n3_;have GE102:=n4_;have NB101_102:=n5_;have NB102_101:=n6_;clear n0_ n1_ n2_ n3_ n4_ n5_ n6_;clear hb hbox hg)|((with_reducible refine gate_dst (N:=5) rfl ?_);refine box_event ?hg (N:=5) ?hd (cs:=#[.int .i64 a2_0,.int .i64 a2_1]) (t:=39) ?hr ?_;(case hd => rfl);(case hg => rfl);(case hr => first|(go_simp;done)|(go_simp;rfl));intro gb103 hg w57 hbox hb;have n0_:=Aside0.mk (blk_below (g:=gb101) (o:=.cells #[.slice A0_0 l0_0.length c0_0] 104 (0,0)) (by (with_reducible repeat (first|refine blk_drewN ?_ _|refine blk_drew ?_|refine blk_alloc ?_ _));exact BK101.out) hb);have n1_:=Aside0.mk (blk_below (g:=gb102) (o:=.cells #[.int .i64 a1_0,.bool a1_1,.int .i64 a1_2] 37 (0,0)) (by (with_reducible repeat (first|refine blk_drewN ?_ _|refine blk_drew ?_|refine blk_alloc ?_ _));exact BK102.out) hb);have n2_:=Aside0.mk (below_step (by repeat (first|(with_reducible first|exact HB.out|apply below_alloc|apply pw_below_drewN|apply below_drew1|refine below_set ?_ GE101.out|refine below_set ?_ GE102.out)|exact HB.out)) hb);have n3_:=Aside0.mk (hbox);have n4_:=Aside0.mk ((by rw [hg];exact (below_size (by repeat (first|(with_reducible first|exact HB.out|apply below_alloc|apply pw_below_drewN|apply below_drew1|refine below_set ?_ GE101.out|refine below_set ?_ GE102.out)|exact HB.out))) : w.heap.size ≤ gb103));have n5_:=Aside0.mk ((by rw [hg];exact (below_size (by repeat (first|(with_reducible first|exact HB.out|apply below_alloc|apply pw_below_drewN|apply below_drew1|refine below_set ?_ GE101.out|refine below_set ?_ GE102.out)|exact HB.out))) : w.heap.size ≤ gb103));have n6_:=Aside0.mk ((by rw [hg];exact Nat.ne_of_lt (blk_lt (g:=gb101) (o:=.cells #[.slice A0_0 l0_0.length c0_0] 104 (0,0)) (by (with_reducible repeat (first|refine blk_drewN ?_ _|refine blk_drew ?_|refine blk_alloc ?_ _));exact BK101.out)) : gb101 ≠ gb103));have n7_:=Aside0.mk ((by rw [hg];exact Nat.ne_of_gt (blk_lt (g:=gb101) (o:=.cells #[.slice A0_0 l0_0.length c0_0] 104 (0,0)) (by (with_reducible repeat (first|refine blk_drewN ?_ _|refine blk_drew ?_|refine blk_alloc ?_ _));exact BK101.out)) : gb103 ≠ gb101));have n8_:=Aside0.mk ((by rw [hg];exact Nat.ne_of_lt (blk_lt (g:=gb102) (o:=.cells #[.int .i64 a1_0,.bool a1_1,.int .i64 a1_2] 37 (0,0)) (by (with_reducible repeat (first|refine blk_drewN ?_ _|refine blk_drew ?_|refine blk_alloc ?_ _));exact BK102.out)) : gb102 ≠ gb103));have n9_:=Aside0.mk ((by rw [hg];exact Nat.ne_of_gt (blk_lt (g:=gb102) (o:=.cells #[.int .i64 a1_0,.bool a1_1,.int .i64 a1_2] 37 (0,0)) (by (with_reducible repeat (first|refine blk_drewN ?_ _|refine blk_drew ?_|refine blk_alloc ?_ _));exact BK102.out)) : gb103 ≠ gb102));clear BK101;clear BK102;clear HB;have BK101:=n0_;have BK102:=n1_;have HB:=n2_;have BK103:=n3_;have GW103:=n4_;have GE103:=n5_;have NB101_103:=n6_;have NB103_101:=n7_;have NB102_103:=n8_;have NB103_102:=n9_;clear n0_ n1_ n2_ n3_ n4_ n5_ n6_ n7_ n8_ n9_;clear hb hbox hg;have hnb58:=NB101_102.out;have hnc58:=NB102_101.out;have hnb59:=NB101_103.out;have hnc59:=NB103_101.out;have hcz60_0 : w57.cell? ⟨gb101,0,none⟩ = some (.slice A0_0 l0_0.length c0_0):=(blk_cell BK101.out 0).trans rfl;have hfz60_0:=blk_frozen BK101.out 0;have hnb61:=NB102_103.out;have hnc61:=NB103_102.out;have hcz62_0 : w57.cell? ⟨gb102,0,none⟩ = some (.int .i64 a1_0):=(blk_cell BK102.out 0).trans rfl;have hcz62_1 : w57.cell? ⟨gb102,1,none⟩ = some (.bool a1_1):=(blk_cell BK102.out 1).trans rfl;have hcz62_2 : w57.cell? ⟨gb102,2,none⟩ = some (.int .i64 a1_2):=(blk_cell BK102.out 2).trans rfl;have hfz62_0:=blk_frozen BK102.out 0;have hfz62_1:=blk_frozen BK102.out 1;have hfz62_2:=blk_frozen BK102.out 2)|((with_reducible refine gate_callee (f:=116) rfl ?_);refine goesL_ (some 11) rfl rfl Try.func116 (by kernel_rfl) rfl #[.agg #[.slice A0_0 l0_0.length c0_0],.agg #[.int .i64 a1_0,.bool a1_1,.int .i64 a1_2]] rfl (by (try simp only [List.map_toArray,List.map_cons,List.map_nil]);first|done|rfl|(simp only [List.length_drop,List.length_take];rfl)) ?_;(with_reducible refine (impl_layoutCode.calls k _ _ l0_0 a1_0 a1_1 a1_2 t104 _ ?side1 ?side2 A4.out).mono ?_);(case side1 => repeat (first|exact (Kd.C_below HR0_0.out HB.out)|(with_reducible refine Kd.C_alloc ?_ _)|(with_reducible refine Kd.C_drewN ?_ _)|(with_reducible refine Kd.C_drew ?_)));(case side2 => exact HC0_0.out);rintro e w63 ⟨rfl,hb⟩;refine ⟨_,rfl,?_⟩;have n0_:=Aside0.mk (blk_below (g:=gb101) (o:=.cells #[.slice A0_0 l0_0.length c0_0] 104 (0,0)) (by (with_reducible repeat (first|refine blk_drewN ?_ _|refine blk_drew ?_|refine blk_alloc ?_ _));exact BK101.out) hb);have n1_:=Aside0.mk (blk_below (g:=gb102) (o:=.cells #[.int .i64 a1_0,.bool a1_1,.int .i64 a1_2] 37 (0,0)) (by (with_reducible repeat (first|refine blk_drewN ?_ _|refine blk_drew ?_|refine blk_alloc ?_ _));exact BK102.out) hb);have n2_:=Aside0.mk (blk_below (g:=gb103) (o:=.cells #[.int .i64 a2_0,.int .i64 a2_1] 39 (0,0)) (by (with_reducible repeat (first|refine blk_drewN ?_ _|refine blk_drew ?_|refine blk_alloc ?_ _));exact BK103.out) hb);have n3_:=Aside0.mk (below_step (by repeat (first|(with_reducible first|exact HB.out|apply below_alloc|apply pw_below_drewN|apply below_drew1|refine below_set ?_ GE101.out|refine below_set ?_ GE102.out|refine below_set ?_ GE103.out)|exact HB.out)) hb);clear BK101;clear BK102;clear BK103;clear HB;have BK101:=n0_;have BK102:=n1_;have BK103:=n2_;have HB:=n3_;clear n0_ n1_ n2_ n3_;(try clear hb);(try clear hb2);(try clear hk);(try clear hi)))
   go_ret
   exact ⟨by first|rfl|(simp [errW_none,errW_some] <;> rfl)|(simp [*,errW_none,errW_some] <;> rfl),by repeat (first|(with_reducible first|exact HB.out|apply below_alloc|apply pw_below_drewN|apply below_drew1|refine below_set ?_ GE101.out|refine below_set ?_ GE102.out|refine below_set ?_ GE103.out)|exact HB.out)⟩
end Go.Proofs.Ytjnmhpldabbeiaa.Q
end
section
namespace Go.Proofs.Ytjnmhpldabbeiaa.Q
open Go.RowKit Go.Proofs.YtjnmhpldabbeiaaW.PrintWords Go.Proofs.YtjnmhpldabbeiaaW.PrintLast Go.Proofs.YtjnmhpldabbeiaaW.PrintMore Go.Proofs.Ytjnmhpldabbeiaa.L
theorem isSpot_eq {cs : List Int} (h : ∀ x ∈ cs, 1 ≤ x ∧ x ≤ 1073741824) (hl : cs.length ≤ 1073741824) (a b : Int) : impl_isSpot.f cs a b = some (decide (M.spotInF cs a b = 0)) := by
  have hr := M.rd_bd h a
  unfold impl_isSpot.f M.spotInF
  by_cases h0 : cs.length = 0
  · rw [if_pos (by omega), if_pos h0]
    by_cases ha : a = 0 <;> by_cases hb : b = 0 <;> simp [ha, hb]
  · rw [if_neg (by omega), if_neg h0, w64 (by omega) (by omega)]
    simp only [within_eq, Option.bind_some]
    by_cases h1 : 0 ≤ a ∧ a < (cs.length : Int)
    · rw [if_pos (decide_eq_true (by omega)), if_pos h1.1, if_pos h1.2, w64 (by omega) (by omega)]
      by_cases h2 : 0 ≤ b ∧ b < rd cs a
      · rw [if_pos ⟨h1, h2⟩]
        congr 1
        simp
        omega
      · rw [if_neg (fun q => h2 q.2)]
        congr 1
        simp
        omega
    · rw [if_neg (by simp; omega), if_neg (fun q => h1 q.1)]
      rfl
theorem i_spot {l : List Int} (ho : M.lineOk l = true) (wd : Int) (ch : Bool) (sh a b : Int) : Ev (fun k => impl_SpotFault.f k l wd ch sh a b) (M.spotF l wd ch sh a b) := by
  have hl := M.lineOk_len ho
  by_cases hz : M.baseF l.length wd ch sh = 0
  · have e : M.spotF l wd ch sh a b = M.spotInF (M.cntL l wd ch) a b := by unfold M.spotF; rw [if_pos hz]
    rw [e]
    unfold impl_SpotFault.f
    refine Ev.bind (layoutCode_ev l wd ch sh) ?_
    obtain ⟨_, hlay⟩ := M.baseF_zero hz
    obtain ⟨w1, w2, _⟩ := layF_zero hlay
    have hc := M.cntL_len l wd ch
    refine Ev.pos hz (Ev.bind0 (rowsOf_eq ho ch sh w1 w2) (Ev.bind0 (isSpot_eq (M.cntL_in hl ch w1) (by omega) a b) ?_))
    by_cases hs : M.spotInF (M.cntL l wd ch) a b = 0
    · rw [hs]
      exact Ev.pos (decide_eq_true rfl) (Ev.now _)
    · refine Ev.neg (by simpa using hs) ?_
      unfold M.spotInF at hs ⊢
      by_cases h0 : (M.cntL l wd ch).length = 0
      · rw [if_pos h0] at hs ⊢
        have : ¬ (a = 0 ∧ b = 0) := fun q => hs (if_pos q)
        rw [if_neg this]
        exact Ev.pos (by omega) (Ev.now _)
      · rw [if_neg h0] at hs ⊢
        have : ¬ ((0 ≤ a ∧ a < ((M.cntL l wd ch).length : Int)) ∧ (0 ≤ b ∧ b < rd (M.cntL l wd ch) a)) := fun q => hs (if_pos q)
        rw [if_neg this]
        exact Ev.neg (by omega) (Ev.now _)
  · have e : M.spotF l wd ch sh a b = M.baseF l.length wd ch sh := by unfold M.spotF; rw [if_neg hz]
    rw [e]
    unfold impl_SpotFault.f
    refine Ev.bind (layoutCode_ev l wd ch sh) ?_
    exact Ev.neg hz (Ev.now _)
end Go.Proofs.Ytjnmhpldabbeiaa.Q
end
section
namespace Go.Proofs.Ytjnmhpldabbeiaa.Q
open Go.RowKit Go.Proofs.YtjnmhpldabbeiaaW.PrintWords Go.Proofs.YtjnmhpldabbeiaaW.PrintLast Go.Proofs.YtjnmhpldabbeiaaW.PrintMore
attribute [local go_sem] max2_int min2_int max_two min_two max_three min_three max_four min_four   -- for this text's walks alone
set_option linter.unusedVariables false
set_option linter.unusedSimpArgs false
/-! ### impl_MoveSpot: function 70 -/
def impl_MoveSpot.f (k : Nat) (l0_0 : List Int) (a1_0 : Int) (a1_1 : Bool) (a1_2 : Int) (a2_0 : Int) (a2_1 : Int) (a3 : Int) : Option (Int × Int × Int):=(impl_SpotFault.f k l0_0 a1_0 a1_1 a1_2 a2_0 a2_1).bind fun t105 => (if t105 = 0 then ((impl_within.f a3 (-9999) 9999).bind fun t106 => (if t106 = true then ((impl_rowsOf.f l0_0 a1_0 a1_1 a1_2).bind fun t107 => ((impl_moved.f k t107 a2_0 a2_1 a3).bind fun bt110 => (some (0,bt110.1,bt110.2)))) else (some (3,0,0)))) else (some (t105,0,0)))
theorem impl_MoveSpot.mono : ∀ a0 a1 a2 a3 a4 a5 a6 k,LeO (impl_MoveSpot.f k a0 a1 a2 a3 a4 a5 a6) (impl_MoveSpot.f (k + 1) a0 a1 a2 a3 a4 a5 a6):=by
 intro a0 a1 a2 a3 a4 a5 a6 k
 unfold impl_MoveSpot.f
 repeat' first
  | (with_reducible exact impl_SpotFault.mono _ _ _ _ _ _ _)
  | (with_reducible exact impl_moved.mono _ _ _ _ _)
  | (with_reducible exact LeO.refl _)
  | (with_reducible exact LeO.none _)
  | (with_reducible refine LeO.ite ?_ ?_)
  | (with_reducible refine LeO.bind ?_ (fun _ => ?_))
  | exact impl_SpotFault.mono _ _ _ _ _ _ _
  | exact impl_moved.mono _ _ _ _ _
  | exact LeO.none _
  | refine LeO.ite ?_ ?_
  | refine LeO.bind ?_ (fun _ => ?_)
def impl_MoveSpot.T6 : Bool × List (List Nat × List Nat):=(true,[([],[]),([],[]),([0,1],[0,1]),([],[]),([],[]),([2,3,4,2],[2,3,4]),([5],[5]),([6,5,0,1,2,3,4,5,6],[6])])
def impl_MoveSpot.B6 : List Nat:=[0,0,3,0,0,31,63,127]
theorem impl_MoveSpot.tab6 : rtab .any (opsOf Try.f70 6) = impl_MoveSpot.T6:=by kernel_rfl
theorem impl_MoveSpot.bits6 : waitsOk impl_MoveSpot.T6.2 impl_MoveSpot.B6 = true:=by kernel_rfl
set_option maxHeartbeats 8000000 in
set_option maxRecDepth 100000 in
theorem impl_MoveSpot.calls (k : Nat) (A0_0 : Option Addr) (c0_0 : Nat) (l0_0 : List Int) (a1_0 : Int) (a1_1 : Bool) (a1_2 : Int) (a2_0 : Int) (a2_1 : Int) (a3 : Int) (r1 : Int) (r2 : Int) (r3 : Int) (w : World) (hr0_0 : Kd.C (Kd.int .u8) w A0_0 l0_0.length l0_0) (hc0_0 : l0_0.length ≤ c0_0) (h : impl_MoveSpot.f k l0_0 a1_0 a1_1 a1_2 a2_0 a2_1 a3 = some (r1,r2,r3)) :
 Calls Try.prog 70 #[.agg #[.slice A0_0 l0_0.length c0_0],.agg #[.int .i64 a1_0,.bool a1_1,.int .i64 a1_2],.agg #[.int .i64 a2_0,.int .i64 a2_1],.int .i64 a3] w fun e w' => e = .returned (.agg #[.int .i64 r1,.int .i64 r2,.int .i64 r3]) ∧ Below w.heap.size w w':=by
 have hu104:=Try.underlying104
 have hu37:=Try.underlying37
 have hu39:=Try.underlying39
 have hu108:=Try.underlying108
 have HR0_0:=Aside0.mk hr0_0
 have HC0_0:=Aside0.mk hc0_0
 clear hr0_0 hc0_0
 have HB:=Aside0.mk (Below.refl w.heap.size w)
 have H : ((impl_SpotFault.f k l0_0 a1_0 a1_1 a1_2 a2_0 a2_1).bind fun t105 => (if t105 = 0 then ((impl_within.f a3 (-9999) 9999).bind fun t106 => (if t106 = true then ((impl_rowsOf.f l0_0 a1_0 a1_1 a1_2).bind fun t107 => ((impl_moved.f k t107 a2_0 a2_1 a3).bind fun bt110 => (some (0,bt110.1,bt110.2)))) else (some (3,0,0)))) else (some (t105,0,0)))) = some (r1,r2,r3):=h
 clear h
 replace H:=Option.bind_eq_some_iff.mp H
 obtain ⟨t105,A50,H⟩:=H
 replace H : (if t105 = 0 then ((impl_within.f a3 (-9999) 9999).bind fun t106 => (if t106 = true then ((impl_rowsOf.f l0_0 a1_0 a1_1 a1_2).bind fun t107 => ((impl_moved.f k t107 a2_0 a2_1 a3).bind fun bt110 => (some (0,bt110.1,bt110.2)))) else (some (3,0,0)))) else (some (t105,0,0))) = some (r1,r2,r3):=H
 have A5:=Aside0.mk A50
 clear A50
 by_cases c6 : t105 = 0
 · rw [if_pos c6] at H
   have c6b0 : (t105 == 0) = true:=beq_iff_eq.mpr c6
   have c6b1 : (t105 != 0) = false:=bne_eq_false_iff_eq.mpr c6
   clear c6
   replace H:=Option.bind_eq_some_iff.mp H
   obtain ⟨t106,A70,H⟩:=H
   replace H : (if t106 = true then ((impl_rowsOf.f l0_0 a1_0 a1_1 a1_2).bind fun t107 => ((impl_moved.f k t107 a2_0 a2_1 a3).bind fun bt110 => (some (0,bt110.1,bt110.2)))) else (some (3,0,0))) = some (r1,r2,r3):=H
   have A7:=Aside0.mk A70
   clear A70
   by_cases c8 : t106 = true
   · subst c8
     have H1 : ((impl_rowsOf.f l0_0 a1_0 a1_1 a1_2).bind fun t107 => ((impl_moved.f k t107 a2_0 a2_1 a3).bind fun bt110 => (some (0,bt110.1,bt110.2)))) = some (r1,r2,r3):=by rw [if_pos rfl] at H;exact H
     clear H
     have H:=H1
     clear H1
     replace H:=Option.bind_eq_some_iff.mp H
     obtain ⟨t107,A90,H⟩:=H
     replace H : ((impl_moved.f k t107 a2_0 a2_1 a3).bind fun bt110 => (some (0,bt110.1,bt110.2))) = some (r1,r2,r3):=H
     have A9:=Aside0.mk A90
     clear A90
     replace H:=Option.bind_eq_some_iff.mp H
     obtain ⟨⟨t110,t111⟩,A100,H⟩:=H
     replace H : (some (0,t110,t111)) = some (r1,r2,r3):=H
     have A10:=Aside0.mk A100
     clear A100
     simp only [Option.some.injEq,Prod.mk.injEq] at H
     obtain ⟨rfl,rfl,rfl⟩:=H
     go_enter Try.func70,Try.ntmps70
     try go_wp2_with (first|((with_reducible refine gate_dst (N:=4) rfl ?_);refine box_event ?hg (N:=4) ?hd (cs:=#[.slice A0_0 l0_0.length c0_0]) (t:=104) ?hr ?_;(case hd => rfl);(case hg => rfl);(case hr => first|(go_simp;done)|(go_simp;rfl));intro gb101 hg w11 hbox hb;have n0_:=Aside0.mk (below_step (by repeat (first|(with_reducible first|exact HB.out|apply below_alloc|apply pw_below_drewN|apply below_drew1)|exact HB.out)) hb);have n1_:=Aside0.mk (hbox);have n2_:=Aside0.mk ((by rw [hg];exact (below_size (by repeat (first|(with_reducible first|exact HB.out|apply below_alloc|apply pw_below_drewN|apply below_drew1)|exact HB.out))) : w.heap.size ≤ gb101));have n3_:=Aside0.mk ((by rw [hg];exact (below_size (by repeat (first|(with_reducible first|exact HB.out|apply below_alloc|apply pw_below_drewN|apply below_drew1)|exact HB.out))) : w.heap.size ≤ gb101));clear HB;have HB:=n0_;have BK101:=n1_;have GW101:=n2_;have GE101:=n3_;clear n0_ n1_ n2_ n3_;clear hb hbox hg)|((with_reducible refine gate_dst (N:=5) rfl ?_);refine box_event ?hg (N:=5) ?hd (cs:=#[.int .i64 a1_0,.bool a1_1,.int .i64 a1_2]) (t:=37) ?hr ?_;(case hd => rfl);(case hg => rfl);(case hr => first|(go_simp;done)|(go_simp;rfl));intro gb102 hg w12 hbox hb;have n0_:=Aside0.mk (blk_below (g:=gb101) (o:=.cells #[.slice A0_0 l0_0.length c0_0] 104 (0,0)) (by (with_reducible repeat (first|refine blk_drewN ?_ _|refine blk_drew ?_|refine blk_alloc ?_ _));exact BK101.out) hb);have n1_:=Aside0.mk (below_step (by repeat (first|(with_reducible first|exact HB.out|apply below_alloc|apply pw_below_drewN|apply below_drew1|refine below_set ?_ GE101.out)|exact HB.out)) hb);have n2_:=Aside0.mk (hbox);have n3_:=Aside0.mk ((by rw [hg];exact (below_size (by repeat (first|(with_reducible first|exact HB.out|apply below_alloc|apply pw_below_drewN|apply below_drew1|refine below_set ?_ GE101.out)|exact HB.out))) : w.heap.size ≤ gb102));have n4_:=Aside0.mk ((by rw [hg];exact (below_size (by repeat (first|(with_reducible first|exact HB.out|apply below_alloc|apply pw_below_drewN|apply below_drew1|refine below_set ?_ GE101.out)|exact HB.out))) : w.heap.size ≤ gb102));have n5_:=Aside0.mk ((by rw [hg];exact Nat.ne_of_lt (blk_lt (g:=gb101) (o:=.cells #[.slice A0_0 l0_0.length c0_0] 104 (0,0)) (by (with_reducible repeat (first|refine blk_drewN ?_ _|refine blk_drew ?_|refine blk_alloc ?_ _));exact BK101.out)) : gb101 ≠ gb102));have n6_:=Aside0.mk ((by rw [hg];exact Nat.ne_of_gt (blk_lt (g:=gb101) (o:=.cells #[.slice A0_0 l0_0.length c0_0] 104 (0,0)) (by (with_reducible repeat (first|refine blk_drewN ?_ _|refine blk_drew ?_|refine blk_alloc ?_ _));exact BK101.out)) : gb102 ≠ gb101));clear BK101;clear HB;have BK101:=n0_;have HB:=n1_;have BK102:=n2_;have GW102:=n3_;have GE102:=n4_;have NB101_102:=n5_;have NB102_101:=n6_;clear n0_ n1_ n2_ n3_ n4_ n5_ n6_;clear hb hbox hg)|((with_reducible refine gate_dst (N:=6) rfl ?_);refine box_event ?hg (N:=6) ?hd (cs:=#[.int .i64 a2_0,.int .i64 a2_1]) (t:=39) ?hr ?_;(case hd => rfl);(case hg => rfl);(case hr => first|(go_simp;done)|(go_simp;rfl));intro gb103 hg w13 hbox hb;have n0_:=Aside0.mk (blk_below (g:=gb101) (o:=.cells #[.slice A0_0 l0_0.length c0_0] 104 (0,0)) (by (with_reducible repeat (first|refine blk_drewN ?_ _|refine blk_drew ?_|refine blk_alloc ?_ _));exact BK101.out) hb);have n1_:=Aside0.mk (blk_below (g:=gb102) (o:=.cells #[.int .i64 a1_0,.bool a1_1,.int .i64 a1_2] 37 (0,0)) (by (with_reducible repeat (first|refine blk_drewN ?_ _|refine blk_drew ?_|refine blk_alloc ?_ _));exact BK102.out) hb);have n2_:=Aside0.mk (below_step (by repeat (first|(with_reducible first|exact HB.out|apply below_alloc|apply pw_below_drewN|apply below_drew1|refine below_set ?_ GE101.out|refine below_set ?_ GE102.out)|exact HB.out)) hb);have n3_:=Aside0.mk (hbox);have n4_:=Aside0.mk ((by rw [hg];exact (below_size (by repeat (first|(with_reducible first|exact HB.out|apply below_alloc|apply pw_below_drewN|apply below_drew1|refine below_set ?_ GE101.out|refine below_set ?_ GE102.out)|exact HB.out))) : w.heap.size ≤ gb103));have n5_:=Aside0.mk ((by rw [hg];exact (below_size (by repeat (first|(with_reducible first|exact HB.out|apply below_alloc|apply pw_below_drewN|apply below_drew1|refine below_set ?_ GE101.out|refine below_set ?_ GE102.out)|exact HB.out))) : w.heap.size ≤ gb103));have n6_:=Aside0.mk ((by rw [hg];exact Nat.ne_of_lt (blk_lt (g:=gb101) (o:=.cells #[.slice A0_0 l0_0.length c0_0] 104 (0,0)) (by (with_reducible repeat (first|refine blk_drewN ?_ _|refine blk_drew ?_|refine blk_alloc ?_ _));exact BK101.out)) : gb101 ≠ gb103));have n7_:=Aside0.mk ((by rw [hg];exact Nat.ne_of_gt (blk_lt (g:=gb101) (o:=.cells #[.slice A0_0 l0_0.length c0_0] 104 (0,0)) (by (with_reducible repeat (first|refine blk_drewN ?_ _|refine blk_drew ?_|refine blk_alloc ?_ _));exact BK101.out)) : gb103 ≠ gb101));have n8_:=Aside0.mk ((by rw [hg];exact Nat.ne_of_lt (blk_lt (g:=gb102) (o:=.cells #[.int .i64 a1_0,.bool a1_1,.int .i64 a1_2] 37 (0,0)) (by (with_reducible repeat (first|refine blk_drewN ?_ _|refine blk_drew ?_|refine blk_alloc ?_ _));exact BK102.out)) : gb102 ≠ gb103));have n9_:=Aside0.mk ((by rw [hg];exact Nat.ne_of_gt (blk_lt (g:=gb102) (o:=.cells #[.int .i64 a1_0,.bool a1_1,.int .i64 a1_2] 37 (0,0)) (by (with_reducible repeat (first|refine blk_drewN ?_ _|refine blk_drew ?_|refine blk_alloc ?_ _));exact BK102.out)) : gb103 ≠ gb102));clear BK101;clear BK102;clear HB;have BK101:=n0_;have BK102:=n1_;have HB:=n2_;have BK103:=n3_;have GW103:=n4_;have GE103:=n5_;have NB101_103:=n6_;have NB103_101:=n7_;have NB102_103:=n8_;have NB103_102:=n9_;clear n0_ n1_ n2_ n3_ n4_ n5_ n6_ n7_ n8_ n9_;clear hb hbox hg)|((with_reducible refine gate_dst (N:=8) rfl ?_);refine box_event ?hg (N:=8) ?hd (cs:=#[.int .i64 0,.int .i64 0,.int .i64 0]) (t:=108) ?hr ?_;(case hd => rfl);(case hg => rfl);(case hr => first|(go_simp;done)|(go_simp;rfl));intro gb104 hg w14 hbox hb;have n0_:=Aside0.mk (blk_below (g:=gb101) (o:=.cells #[.slice A0_0 l0_0.length c0_0] 104 (0,0)) (by (with_reducible repeat (first|refine blk_drewN ?_ _|refine blk_drew ?_|refine blk_alloc ?_ _));exact BK101.out) hb);have n1_:=Aside0.mk (blk_below (g:=gb102) (o:=.cells #[.int .i64 a1_0,.bool a1_1,.int .i64 a1_2] 37 (0,0)) (by (with_reducible repeat (first|refine blk_drewN ?_ _|refine blk_drew ?_|refine blk_alloc ?_ _));exact BK102.out) hb);have n2_:=Aside0.mk (blk_below (g:=gb103) (o:=.cells #[.int .i64 a2_0,.int .i64 a2_1] 39 (0,0)) (by (with_reducible repeat (first|refine blk_drewN ?_ _|refine blk_drew ?_|refine blk_alloc ?_ _));exact BK103.out) hb);have n3_:=Aside0.mk (below_step (by repeat (first|(with_reducible first|exact HB.out|apply below_alloc|apply pw_below_drewN|apply below_drew1|refine below_set ?_ GE101.out|refine below_set ?_ GE102.out|refine below_set ?_ GE103.out)|exact HB.out)) hb);have n4_:=Aside0.mk (hbox);have n5_:=Aside0.mk ((by rw [hg];exact (below_size (by repeat (first|(with_reducible first|exact HB.out|apply below_alloc|apply pw_below_drewN|apply below_drew1|refine below_set ?_ GE101.out|refine below_set ?_ GE102.out|refine below_set ?_ GE103.out)|exact HB.out))) : w.heap.size ≤ gb104));have n6_:=Aside0.mk ((by rw [hg];exact (below_size (by repeat (first|(with_reducible first|exact HB.out|apply below_alloc|apply pw_below_drewN|apply below_drew1|refine below_set ?_ GE101.out|refine below_set ?_ GE102.out|refine below_set ?_ GE103.out)|exact HB.out))) : w.heap.size ≤ gb104));have n7_:=Aside0.mk ((by rw [hg];exact Nat.ne_of_lt (blk_lt (g:=gb101) (o:=.cells #[.slice A0_0 l0_0.length c0_0] 104 (0,0)) (by (with_reducible repeat (first|refine blk_drewN ?_ _|refine blk_drew ?_|refine blk_alloc ?_ _));exact BK101.out)) : gb101 ≠ gb104));have n8_:=Aside0.mk ((by rw [hg];exact Nat.ne_of_gt (blk_lt (g:=gb101) (o:=.cells #[.slice A0_0 l0_0.length c0_0] 104 (0,0)) (by (with_reducible repeat (first|refine blk_drewN ?_ _|refine blk_drew ?_|refine blk_alloc ?_ _));exact BK101.out)) : gb104 ≠ gb101));have n9_:=Aside0.mk ((by rw [hg];exact Nat.ne_of_lt (blk_lt (g:=gb102) (o:=.cells #[.int .i64 a1_0,.bool a1_1,.int .i64 a1_2] 37 (0,0)) (by (with_reducible repeat (first|refine blk_drewN ?_ _|refine blk_drew ?_|refine blk_alloc ?_ _));exact BK102.out)) : gb102 ≠ gb104));have n10_:=Aside0.mk ((by rw [hg];exact Nat.ne_of_gt (blk_lt (g:=gb102) (o:=.cells #[.int .i64 a1_0,.bool a1_1,.int .i64 a1_2] 37 (0,0)) (by (with_reducible repeat (first|refine blk_drewN ?_ _|refine blk_drew ?_|refine blk_alloc ?_ _));exact BK102.out)) : gb104 ≠ gb102));have n11_:=Aside0.mk ((by rw [hg];exact Nat.ne_of_lt (blk_lt (g:=gb103) (o:=.cells #[.int .i64 a2_0,.int .i64 a2_1] 39 (0,0)) (by (with_reducible repeat (first|refine blk_drewN ?_ _|refine blk_drew ?_|refine blk_alloc ?_ _));exact BK103.out)) : gb103 ≠ gb104));have n12_:=Aside0.mk ((by rw [hg];exact Nat.ne_of_gt (blk_lt (g:=gb103) (o:=.cells #[.int .i64 a2_0,.int .i64 a2_1] 39 (0,0)) (by (with_reducible repeat (first|refine blk_drewN ?_ _|refine blk_drew ?_|refine blk_alloc ?_ _));exact BK103.out)) : gb104 ≠ gb103));clear BK101;clear BK102;clear BK103;clear HB;have BK101:=n0_;have BK102:=n1_;have BK103:=n2_;have HB:=n3_;have BK104:=n4_;have GW104:=n5_;have GE104:=n6_;have NB101_104:=n7_;have NB104_101:=n8_;have NB102_104:=n9_;have NB104_102:=n10_;have NB103_104:=n11_;have NB104_103:=n12_;clear n0_ n1_ n2_ n3_ n4_ n5_ n6_ n7_ n8_ n9_ n10_ n11_ n12_;clear hb hbox hg;have hnb15:=NB101_102.out;have hnc15:=NB102_101.out;have hnb16:=NB101_103.out;have hnc16:=NB103_101.out;have hnb17:=NB101_104.out;have hnc17:=NB104_101.out;have hcz18_0 : w14.cell? ⟨gb101,0,none⟩ = some (.slice A0_0 l0_0.length c0_0):=(blk_cell BK101.out 0).trans rfl;have hfz18_0:=blk_frozen BK101.out 0;have hnb19:=NB102_103.out;have hnc19:=NB103_102.out;have hnb20:=NB102_104.out;have hnc20:=NB104_102.out;have hcz21_0 : w14.cell? ⟨gb102,0,none⟩ = some (.int .i64 a1_0):=(blk_cell BK102.out 0).trans rfl;have hcz21_1 : w14.cell? ⟨gb102,1,none⟩ = some (.bool a1_1):=(blk_cell BK102.out 1).trans rfl;have hcz21_2 : w14.cell? ⟨gb102,2,none⟩ = some (.int .i64 a1_2):=(blk_cell BK102.out 2).trans rfl;have hfz21_0:=blk_frozen BK102.out 0;have hfz21_1:=blk_frozen BK102.out 1;have hfz21_2:=blk_frozen BK102.out 2;have hnb22:=NB103_104.out;have hnc22:=NB104_103.out;have hcz23_0 : w14.cell? ⟨gb103,0,none⟩ = some (.int .i64 a2_0):=(blk_cell BK103.out 0).trans rfl;have hcz23_1 : w14.cell? ⟨gb103,1,none⟩ = some (.int .i64 a2_1):=(blk_cell BK103.out 1).trans rfl;have hfz23_0:=blk_frozen BK103.out 0;have hfz23_1:=blk_frozen BK103.out 1)|((with_reducible refine gate_callee (f:=71) rfl ?_);refine goesL_ (some 13) rfl rfl Try.func71 (by kernel_rfl) rfl #[.agg #[.slice A0_0 l0_0.length c0_0],.agg #[.int .i64 a1_0,.bool a1_1,.int .i64 a1_2],.agg #[.int .i64 a2_0,.int .i64 a2_1]] rfl (by (try simp only [List.map_toArray,List.map_cons,List.map_nil]);first|done|rfl|(simp only [List.length_drop,List.length_take];rfl)) ?_;(with_reducible refine (impl_SpotFault.calls k _ _ l0_0 a1_0 a1_1 a1_2 a2_0 a2_1 t105 _ ?side1 ?side2 A5.out).mono ?_);(case side1 => repeat (first|exact (Kd.C_below HR0_0.out HB.out)|(with_reducible refine Kd.C_alloc ?_ _)|(with_reducible refine Kd.C_drewN ?_ _)|(with_reducible refine Kd.C_drew ?_)));(case side2 => exact HC0_0.out);rintro e w24 ⟨rfl,hb⟩;refine ⟨_,rfl,?_⟩;have n0_:=Aside0.mk (blk_below (g:=gb101) (o:=.cells #[.slice A0_0 l0_0.length c0_0] 104 (0,0)) (by (with_reducible repeat (first|refine blk_drewN ?_ _|refine blk_drew ?_|refine blk_alloc ?_ _));exact BK101.out) hb);have n1_:=Aside0.mk (blk_below (g:=gb102) (o:=.cells #[.int .i64 a1_0,.bool a1_1,.int .i64 a1_2] 37 (0,0)) (by (with_reducible repeat (first|refine blk_drewN ?_ _|refine blk_drew ?_|refine blk_alloc ?_ _));exact BK102.out) hb);have n2_:=Aside0.mk (blk_below (g:=gb103) (o:=.cells #[.int .i64 a2_0,.int .i64 a2_1] 39 (0,0)) (by (with_reducible repeat (first|refine blk_drewN ?_ _|refine blk_drew ?_|refine blk_alloc ?_ _));exact BK103.out) hb);have n3_:=Aside0.mk (blk_below (g:=gb104) (o:=.cells #[.int .i64 0,.int .i64 0,.int .i64 0] 108 (0,0)) (by (with_reducible repeat (first|refine blk_drewN ?_ _|refine blk_drew ?_|refine blk_alloc ?_ _));exact BK104.out) hb);have n4_:=Aside0.mk (below_step (by repeat (first|(with_reducible first|exact HB.out|apply below_alloc|apply pw_below_drewN|apply below_drew1|refine below_set ?_ GE101.out|refine below_set ?_ GE102.out|refine below_set ?_ GE103.out|refine below_set ?_ GE104.out)|exact HB.out)) hb);clear BK101;clear BK102;clear BK103;clear BK104;clear HB;have BK101:=n0_;have BK102:=n1_;have BK103:=n2_;have BK104:=n3_;have HB:=n4_;clear n0_ n1_ n2_ n3_ n4_;(try clear hb);(try clear hb2);(try clear hk);(try clear hi))|((with_reducible refine gate_callee (f:=74) rfl ?_);refine goesL_ (some 19) rfl rfl Try.func74 (by kernel_rfl) rfl #[.int .i64 a3,.int .i64 (-9999),.int .i64 9999] rfl (by (try simp only [List.map_toArray,List.map_cons,List.map_nil]);first|done|rfl|(simp only [List.length_drop,List.length_take];rfl)) ?_;(with_reducible refine (impl_within.calls a3 (-9999) 9999 true _ A7.out).mono ?_);rintro e w' ⟨rfl,⟨nd,rfl⟩⟩;refine ⟨_,rfl,?_⟩;(try (rw [drewN_self w24];generalize hq_ : World.drewN w24 _ = w24;have n0_ : Aside0 (w24.heap[gb101]? = some (.cells #[.slice A0_0 l0_0.length c0_0] 104 (0,0))):=⟨by rw [← hq_];exact (by (with_reducible repeat (first|refine blk_drewN ?_ _|refine blk_drew ?_|refine blk_alloc ?_ _));exact BK101.out)⟩;have n1_ : Aside0 (w24.heap[gb102]? = some (.cells #[.int .i64 a1_0,.bool a1_1,.int .i64 a1_2] 37 (0,0))):=⟨by rw [← hq_];exact (by (with_reducible repeat (first|refine blk_drewN ?_ _|refine blk_drew ?_|refine blk_alloc ?_ _));exact BK102.out)⟩;have n2_ : Aside0 (w24.heap[gb103]? = some (.cells #[.int .i64 a2_0,.int .i64 a2_1] 39 (0,0))):=⟨by rw [← hq_];exact (by (with_reducible repeat (first|refine blk_drewN ?_ _|refine blk_drew ?_|refine blk_alloc ?_ _));exact BK103.out)⟩;have n3_ : Aside0 (w24.heap[gb104]? = some (.cells #[.int .i64 0,.int .i64 0,.int .i64 0] 108 (0,0))):=⟨by rw [← hq_];exact (by (with_reducible repeat (first|refine blk_drewN ?_ _|refine blk_drew ?_|refine blk_alloc ?_ _));exact BK104.out)⟩;have n4_ : Aside0 (Below w.heap.size w w24):=⟨by rw [← hq_];exact (by repeat (first|(with_reducible first|exact HB.out|apply below_alloc|apply pw_below_drewN|apply below_drew1|refine below_set ?_ GE101.out|refine below_set ?_ GE102.out|refine below_set ?_ GE103.out|refine below_set ?_ GE104.out)|exact HB.out))⟩;clear BK101 BK102 BK103 BK104 HB hq_;have BK101:=n0_;have BK102:=n1_;have BK103:=n2_;have BK104:=n3_;have HB:=n4_;clear n0_ n1_ n2_ n3_ n4_))))
     have n0_:=Aside0.mk (blk_drew BK101.out)
     have n1_:=Aside0.mk (blk_drew BK102.out)
     have n2_:=Aside0.mk (blk_drew BK103.out)
     have n3_:=Aside0.mk (blk_drew BK104.out)
     have n4_:=Aside0.mk (below_drew1 HB.out)
     clear BK101
     clear BK102
     clear BK103
     clear BK104
     clear HB
     have BK101:=n0_
     have BK102:=n1_
     have BK103:=n2_
     have BK104:=n3_
     have HB:=n4_
     clear n0_ n1_ n2_ n3_ n4_
     refine start_ (n:=8) (S:=fun w' => w'.cell? ⟨gb101,0,none⟩ = some (.slice A0_0 l0_0.length c0_0) ∧ w'.cell? ⟨gb102,0,none⟩ = some (.int .i64 a1_0) ∧ w'.cell? ⟨gb102,1,none⟩ = some (.bool a1_1) ∧ w'.cell? ⟨gb102,2,none⟩ = some (.int .i64 a1_2) ∧ w'.cell? ⟨gb103,0,none⟩ = some (.int .i64 a2_0) ∧ w'.cell? ⟨gb103,1,none⟩ = some (.int .i64 a2_1)) (ds:=[]) #[false,false,false,false,false,false,false,false] (by kernel_rfl) rfl rfl ⟨(blk_cell BK101.out 0).trans rfl,(blk_cell BK102.out 0).trans rfl,(blk_cell BK102.out 1).trans rfl,(blk_cell BK102.out 2).trans rfl,(blk_cell BK103.out 0).trans rfl,(blk_cell BK103.out 1).trans rfl⟩ (fun hHeld => ?_);refine with_tabW impl_MoveSpot.tab6 impl_MoveSpot.bits6 (fun HT_ HW_ => ?_)
     generalize w24.drew = w25 at BK101 BK102 BK103 BK104 HB hHeld ⊢
     refine pure_ (i:=4) (N:=some 26) (v:=?_) (a':=?_) #[false,false,false,false,true,false,false,false] rfl rfl (any_of HT_.out (by kernel_rfl)) (fun _ _ _ h => h) (Or.inl ⟨by rfl,?_⟩) ?_ ?_
     rotate_left
     · intro w'
       go_simp
       with_reducible rfl
     rotate_left
     · simp only [Act.put,List.setIfInBounds_toArray,List.set_cons_zero,List.set_cons_succ,i64_w,i32_w]
       rfl
     refine take_ (i:=0) (N:=some 22) (v:=?_) (a':=?_) #[true,false,false,false,true,false,false,false] rfl rfl (take_ofW HT_.out HW_.out (by kernel_rfl)) (fun _ _ _ h => h) (Or.inl ⟨by rfl,?_⟩) hHeld ?_ ?_
     rotate_left
     · rintro w' ⟨s0,s1,s2,s3,s4,s5⟩
       go_simp
       with_reducible rfl
     rotate_left
     · simp only [Act.put,List.setIfInBounds_toArray,List.set_cons_zero,List.set_cons_succ,i64_w,i32_w]
       rfl
     refine take_ (i:=1) (N:=some 23) (v:=?_) (a':=?_) #[true,true,false,false,true,false,false,false] rfl rfl (take_ofW HT_.out HW_.out (by kernel_rfl)) (fun _ _ _ h => h) (Or.inl ⟨by rfl,?_⟩) hHeld ?_ ?_
     rotate_left
     · rintro w' ⟨s0,s1,s2,s3,s4,s5⟩
       go_simp
       with_reducible rfl
     rotate_left
     · simp only [Act.put,List.setIfInBounds_toArray,List.set_cons_zero,List.set_cons_succ,i64_w,i32_w]
       rfl
     refine take_ (i:=3) (N:=some 25) (v:=?_) (a':=?_) #[true,true,false,true,true,false,false,false] rfl rfl (take_ofW HT_.out HW_.out (by kernel_rfl)) (fun _ _ _ h => h) (Or.inl ⟨by rfl,?_⟩) hHeld ?_ ?_
     rotate_left
     · rintro w' ⟨s0,s1,s2,s3,s4,s5⟩
       go_simp
       with_reducible rfl
     rotate_left
     · simp only [Act.put,List.setIfInBounds_toArray,List.set_cons_zero,List.set_cons_succ,i64_w,i32_w]
       rfl
     refine one_ (i:=2) (N:=some 24) #[true,true,true,true,true,false,false,false] rfl rfl (one_of HT_.out (by kernel_rfl)) (by decide) (fun K hK => ?_)
     refine goes_ Try.func122 (by kernel_rfl) rfl #[.agg #[.slice A0_0 l0_0.length c0_0],.agg #[.int .i64 a1_0,.bool a1_1,.int .i64 a1_2]] (by rfl) rfl rfl (by (try simp only [List.map_toArray,List.map_cons,List.map_nil]);first|done|rfl|(simp only [List.length_drop,List.length_take];rfl)) ?_
     with_reducible refine (impl_rowsOf.calls _ _ l0_0 a1_0 a1_1 a1_2 t107 _ ?side1 ?side2 A9.out).mono ?_
     (case side1 => repeat (first|exact (Kd.C_below HR0_0.out HB.out)|(with_reducible refine Kd.C_alloc ?_ _)|(with_reducible refine Kd.C_drewN ?_ _)|(with_reducible refine Kd.C_drew ?_)))
     (case side2 => exact HC0_0.out)
     rintro e w26 ⟨v108,rfl,ho0,hb⟩
     refine ⟨_,rfl,?_⟩
     have n0_:=Aside0.mk (Kd.R_lower ho0 (below_size (by repeat (first|(with_reducible first|exact HB.out|apply below_alloc|apply pw_below_drewN|apply below_drew1|refine below_set ?_ GE101.out|refine below_set ?_ GE102.out|refine below_set ?_ GE103.out|refine below_set ?_ GE104.out)|exact HB.out))))
     have n1_:=Aside0.mk (blk_below (g:=gb101) (o:=.cells #[.slice A0_0 l0_0.length c0_0] 104 (0,0)) (by (with_reducible repeat (first|refine blk_drewN ?_ _|refine blk_drew ?_|refine blk_alloc ?_ _));exact BK101.out) hb)
     have n2_:=Aside0.mk (blk_below (g:=gb102) (o:=.cells #[.int .i64 a1_0,.bool a1_1,.int .i64 a1_2] 37 (0,0)) (by (with_reducible repeat (first|refine blk_drewN ?_ _|refine blk_drew ?_|refine blk_alloc ?_ _));exact BK102.out) hb)
     have n3_:=Aside0.mk (blk_below (g:=gb103) (o:=.cells #[.int .i64 a2_0,.int .i64 a2_1] 39 (0,0)) (by (with_reducible repeat (first|refine blk_drewN ?_ _|refine blk_drew ?_|refine blk_alloc ?_ _));exact BK103.out) hb)
     have n4_:=Aside0.mk (blk_below (g:=gb104) (o:=.cells #[.int .i64 0,.int .i64 0,.int .i64 0] 108 (0,0)) (by (with_reducible repeat (first|refine blk_drewN ?_ _|refine blk_drew ?_|refine blk_alloc ?_ _));exact BK104.out) hb)
     have n5_:=Aside0.mk (below_step (by repeat (first|(with_reducible first|exact HB.out|apply below_alloc|apply pw_below_drewN|apply below_drew1|refine below_set ?_ GE101.out|refine below_set ?_ GE102.out|refine below_set ?_ GE103.out|refine below_set ?_ GE104.out)|exact HB.out)) hb)
     clear BK101
     clear BK102
     clear BK103
     clear BK104
     clear HB
     have HO109:=n0_
     have BK101:=n1_
     have BK102:=n2_
     have BK103:=n3_
     have BK104:=n4_
     have HB:=n5_
     clear n0_ n1_ n2_ n3_ n4_ n5_
     (try clear hb)
     (try clear hb2)
     (try clear hk)
     (try clear hi)
     (try clear ho0)
     obtain ⟨Ao27,co27,eo27⟩:=Kd.R_slice HO109.out
     (first|subst eo27|(injection eo27 with f1_ f2_ f3_;have f4_:=f1_.symm;have f5_:=f3_.symm;clear f1_ f2_ f3_;subst f4_;subst f5_))
     refine hK.out _ _ ⟨(blk_cell BK101.out 0).trans rfl,(blk_cell BK102.out 0).trans rfl,(blk_cell BK102.out 1).trans rfl,(blk_cell BK102.out 2).trans rfl,(blk_cell BK103.out 0).trans rfl,(blk_cell BK103.out 1).trans rfl⟩ (fun hHeld => ?_)
     clear hK K
     refine norm_ (a':=?_) ?_ ?_
     rotate_left
     · show Act.put _ (some 24) _ = _
       simp only [Act.put,List.setIfInBounds_toArray,List.set_cons_zero,List.set_cons_succ,i64_w,i32_w]
       rfl
     refine one_ (i:=5) (N:=some 27) #[true,true,true,true,true,true,false,false] rfl rfl (one_of HT_.out (by kernel_rfl)) (by decide) (fun K hK => ?_)
     refine goes_ Try.func121 (by kernel_rfl) rfl #[.slice Ao27 t107.length co27,.agg #[.int .i64 a2_0,.int .i64 a2_1],.int .i64 a3] (by rfl) rfl rfl (by (try simp only [List.map_toArray,List.map_cons,List.map_nil]);first|done|rfl|(simp only [List.length_drop,List.length_take];rfl)) ?_
     with_reducible refine (impl_moved.calls k _ _ t107 a2_0 a2_1 a3 t110 t111 _ ?side1 ?side2 A10.out).mono ?_
     (case side1 => repeat (first|exact (Kd.R_reads' HO109.out).2.2|(with_reducible refine Kd.C_alloc ?_ _)|(with_reducible refine Kd.C_drewN ?_ _)|(with_reducible refine Kd.C_drew ?_)))
     (case side2 => exact (Kd.R_reads' HO109.out).2.1)
     rintro e w28 ⟨rfl,hb⟩
     refine ⟨_,rfl,?_⟩
     have n0_:=Aside0.mk (Kd.R_below (by (with_reducible repeat (first|apply Kd.R_alloc|apply Kd.R_drewN|apply Kd.R_drew));exact HO109.out) hb)
     have n1_:=Aside0.mk (blk_below (g:=gb101) (o:=.cells #[.slice A0_0 l0_0.length c0_0] 104 (0,0)) (by (with_reducible repeat (first|refine blk_drewN ?_ _|refine blk_drew ?_|refine blk_alloc ?_ _));exact BK101.out) hb)
     have n2_:=Aside0.mk (blk_below (g:=gb102) (o:=.cells #[.int .i64 a1_0,.bool a1_1,.int .i64 a1_2] 37 (0,0)) (by (with_reducible repeat (first|refine blk_drewN ?_ _|refine blk_drew ?_|refine blk_alloc ?_ _));exact BK102.out) hb)
     have n3_:=Aside0.mk (blk_below (g:=gb103) (o:=.cells #[.int .i64 a2_0,.int .i64 a2_1] 39 (0,0)) (by (with_reducible repeat (first|refine blk_drewN ?_ _|refine blk_drew ?_|refine blk_alloc ?_ _));exact BK103.out) hb)
     have n4_:=Aside0.mk (blk_below (g:=gb104) (o:=.cells #[.int .i64 0,.int .i64 0,.int .i64 0] 108 (0,0)) (by (with_reducible repeat (first|refine blk_drewN ?_ _|refine blk_drew ?_|refine blk_alloc ?_ _));exact BK104.out) hb)
     have n5_:=Aside0.mk (below_step (by repeat (first|(with_reducible first|exact HB.out|apply below_alloc|apply pw_below_drewN|apply below_drew1|refine below_set ?_ GE101.out|refine below_set ?_ GE102.out|refine below_set ?_ GE103.out|refine below_set ?_ GE104.out)|exact HB.out)) hb)
     clear HO109
     clear BK101
     clear BK102
     clear BK103
     clear BK104
     clear HB
     have HO109:=n0_
     have BK101:=n1_
     have BK102:=n2_
     have BK103:=n3_
     have BK104:=n4_
     have HB:=n5_
     clear n0_ n1_ n2_ n3_ n4_ n5_
     (try clear hb)
     (try clear hb2)
     (try clear hk)
     (try clear hi)
     refine hK.out _ _ ⟨(blk_cell BK101.out 0).trans rfl,(blk_cell BK102.out 0).trans rfl,(blk_cell BK102.out 1).trans rfl,(blk_cell BK102.out 2).trans rfl,(blk_cell BK103.out 0).trans rfl,(blk_cell BK103.out 1).trans rfl⟩ (fun hHeld => ?_)
     clear hK K
     refine norm_ (a':=?_) ?_ ?_
     rotate_left
     · show Act.put _ (some 27) _ = _
       simp only [Act.put,List.setIfInBounds_toArray,List.set_cons_zero,List.set_cons_succ,i64_w,i32_w]
       rfl
     refine pure_ (i:=6) (N:=some 28) (v:=?_) (a':=?_) #[true,true,true,true,true,true,true,false] rfl rfl (any_of HT_.out (by kernel_rfl)) (fun _ _ _ h => h) (Or.inl ⟨by rfl,?_⟩) ?_ ?_
     rotate_left
     · intro w'
       go_simp
       with_reducible rfl
     rotate_left
     · simp only [Act.put,List.setIfInBounds_toArray,List.set_cons_zero,List.set_cons_succ,i64_w,i32_w]
       rfl
     refine one_ (i:=7) (N:=none) #[true,true,true,true,true,true,true,true] rfl rfl (one_of HT_.out (by kernel_rfl)) (by decide) (fun K hK => ?_)
     have hs29 : w28.cell? ⟨gb104,0,none⟩ = some (.int .i64 0):=(blk_cell BK104.out 0).trans rfl
     have hfs29:=blk_frozen BK104.out 0
     have hns29_0:=NB101_104.out
     have hns29_1:=NB102_104.out
     have hns29_2:=NB103_104.out
     have hms29_0:=NB104_101.out
     have hms29_1:=NB104_102.out
     have hms29_2:=NB104_103.out
     have hs30 : w28.cell? ⟨gb104,1,none⟩ = some (.int .i64 0):=(blk_cell BK104.out 1).trans rfl
     have hfs30:=blk_frozen BK104.out 1
     have hns30_0:=NB101_104.out
     have hns30_1:=NB102_104.out
     have hns30_2:=NB103_104.out
     have hms30_0:=NB104_101.out
     have hms30_1:=NB104_102.out
     have hms30_2:=NB104_103.out
     have hs31 : w28.cell? ⟨gb104,2,none⟩ = some (.int .i64 0):=(blk_cell BK104.out 2).trans rfl
     have hfs31:=blk_frozen BK104.out 2
     have hns31_0:=NB101_104.out
     have hns31_1:=NB102_104.out
     have hns31_2:=NB103_104.out
     have hms31_0:=NB104_101.out
     have hms31_1:=NB104_102.out
     have hms31_2:=NB104_103.out
     refine skip_ (w1:=?_) (by rfl) rfl ?_ ?_
     rotate_left
     · go_simp
       rfl
     refine hK.out _ _ ⟨((cell_far (p:=⟨gb104,_,none⟩) NB101_104.out _).trans (((cell_far (p:=⟨gb104,_,none⟩) NB101_104.out _).trans (((cell_far (p:=⟨gb104,_,none⟩) NB101_104.out _).trans (hHeld.1)))))),((cell_far (p:=⟨gb104,_,none⟩) NB102_104.out _).trans (((cell_far (p:=⟨gb104,_,none⟩) NB102_104.out _).trans (((cell_far (p:=⟨gb104,_,none⟩) NB102_104.out _).trans (hHeld.2.1)))))),((cell_far (p:=⟨gb104,_,none⟩) NB102_104.out _).trans (((cell_far (p:=⟨gb104,_,none⟩) NB102_104.out _).trans (((cell_far (p:=⟨gb104,_,none⟩) NB102_104.out _).trans (hHeld.2.2.1)))))),((cell_far (p:=⟨gb104,_,none⟩) NB102_104.out _).trans (((cell_far (p:=⟨gb104,_,none⟩) NB102_104.out _).trans (((cell_far (p:=⟨gb104,_,none⟩) NB102_104.out _).trans (hHeld.2.2.2.1)))))),((cell_far (p:=⟨gb104,_,none⟩) NB103_104.out _).trans (((cell_far (p:=⟨gb104,_,none⟩) NB103_104.out _).trans (((cell_far (p:=⟨gb104,_,none⟩) NB103_104.out _).trans (hHeld.2.2.2.2.1)))))),((cell_far (p:=⟨gb104,_,none⟩) NB103_104.out _).trans (((cell_far (p:=⟨gb104,_,none⟩) NB103_104.out _).trans (((cell_far (p:=⟨gb104,_,none⟩) NB103_104.out _).trans (hHeld.2.2.2.2.2))))))⟩ (fun hHeld => ?_)
     clear hK K
     refine done_ (done_of HT_.out (by kernel_rfl)) ?_
     try go_wp2
     refine bodyPost_ret (results_cell_row rfl _ _ gb104 108 #[.int .i64 0,.int .i64 t110,.int .i64 t111] (0,0) _ rfl (by (with_reducible repeat (first|refine blk_drewN ?_ _|refine blk_drew ?_|refine blk_alloc ?_ _));refine blk_put (cs:=#[.int .i64 0,.int .i64 t110,.int .i64 0]) ?_ 2 _ rfl;(with_reducible repeat (first|refine blk_drewN ?_ _|refine blk_drew ?_|refine blk_alloc ?_ _));refine blk_put (cs:=#[.int .i64 0,.int .i64 0,.int .i64 0]) ?_ 1 _ rfl;(with_reducible repeat (first|refine blk_drewN ?_ _|refine blk_drew ?_|refine blk_alloc ?_ _));refine blk_put (cs:=#[.int .i64 0,.int .i64 0,.int .i64 0]) ?_ 0 _ rfl;(with_reducible repeat (first|refine blk_drewN ?_ _|refine blk_drew ?_|refine blk_alloc ?_ _));exact BK104.out) Try.underlying108 rfl (by kernel_rfl)) rfl ?_
     exact ⟨by first|rfl|(simp [errW_none,errW_some] <;> rfl)|(simp [*,errW_none,errW_some] <;> rfl),by repeat (first|(with_reducible first|exact HB.out|apply below_alloc|apply pw_below_drewN|apply below_drew1|refine below_set ?_ GE101.out|refine below_set ?_ GE102.out|refine below_set ?_ GE103.out|refine below_set ?_ GE104.out)|exact HB.out)⟩
   · replace c8:=Bool.eq_false_iff.mpr c8
     subst c8
     have H1 : (some (3,0,0)) = some (r1,r2,r3):=by rw [if_neg (show ¬ (false = true) by decide)] at H;exact H
     clear H
     have H:=H1
     clear H1
     simp only [Option.some.injEq,Prod.mk.injEq] at H
     obtain ⟨rfl,rfl,rfl⟩:=H
     go_enter Try.func70,Try.ntmps70
     go_wp2_with (first|((with_reducible refine gate_dst (N:=4) rfl ?_);refine box_event ?hg (N:=4) ?hd (cs:=#[.slice A0_0 l0_0.length c0_0]) (t:=104) ?hr ?_;(case hd => rfl);(case hg => rfl);(case hr => first|(go_simp;done)|(go_simp;rfl));intro gb101 hg w32 hbox hb;have n0_:=Aside0.mk (below_step (by repeat (first|(with_reducible first|exact HB.out|apply below_alloc|apply pw_below_drewN|apply below_drew1)|exact HB.out)) hb);have n1_:=Aside0.mk (hbox);have n2_:=Aside0.mk ((by rw [hg];exact (below_size (by repeat (first|(with_reducible first|exact HB.out|apply below_alloc|apply pw_below_drewN|apply below_drew1)|exact HB.out))) : w.heap.size ≤ gb101));have n3_:=Aside0.mk ((by rw [hg];exact (below_size (by repeat (first|(with_reducible first|exact HB.out|apply below_alloc|apply pw_below_drewN|apply below_drew1)|exact HB.out))) : w.heap.size ≤ gb101));clear HB;have HB:=n0_;have BK101:=n1_;have GW101:=n2_;have GE101:=n3_;clear n0_ n1_ n2_ n3_;clear hb hbox hg)|((with_reducible refine gate_dst (N:=5) rfl ?_);refine box_event ?hg (N:=5) ?hd (cs:=#[.int .i64 a1_0,.bool a1_1,.int .i64 a1_2]) (t:=37) ?hr ?_;(case hd => rfl);(case hg => rfl);(case hr => first|(go_simp;done)|(go_simp;rfl));intro gb102 hg w33 hbox hb;have n0_:=Aside0.mk (blk_below (g:=gb101) (o:=.cells #[.slice A0_0 l0_0.length c0_0] 104 (0,0)) (by (with_reducible repeat (first|refine blk_drewN ?_ _|refine blk_drew ?_|refine blk_alloc ?_ _));exact BK101.out) hb);have n1_:=Aside0.mk (below_step (by repeat (first|(with_reducible first|exact HB.out|apply below_alloc|apply pw_below_drewN|apply below_drew1|refine below_set ?_ GE101.out)|exact HB.out)) hb);have n2_:=Aside0.mk (hbox);have n3_:=Aside0.mk ((by rw [hg];exact (below_size (by repeat (first|(with_reducible first|exact HB.out|apply below_alloc|apply pw_below_drewN|apply below_drew1|refine below_set ?_ GE101.out)|exact HB.out))) : w.heap.size ≤ gb102));have n4_:=Aside0.mk ((by rw [hg];exact (below_size (by repeat (first|(with_reducible first|exact HB.out|apply below_alloc|apply pw_below_drewN|apply below_drew1|refine below_set ?_ GE101.out)|exact HB.out))) : w.heap.size ≤ gb102));have n5_:=Aside0.mk ((by rw [hg];exact Nat.ne_of_lt (blk_lt (g:=gb101) (o:=.cells #[.slice A0_0 l0_0.length c0_0] 104 (0,0)) (by (with_reducible repeat (first|refine blk_drewN ?_ _|refine blk_drew ?_|refine blk_alloc ?_ _));exact BK101.out)) : gb101 ≠ gb102));have n6_:=Aside0.mk ((by rw [hg];exact Nat.ne_of_gt (blk_lt (g:=gb101) (o:=.cells #[.slice A0_0 l0_0.length c0_0] 104 (0,0)) (by (with_reducible repeat (first|refine blk_drewN ?_ _|refine blk_drew ?_|refine blk_alloc ?_ _));exact BK101.out)) : gb102 ≠ gb101));clear BK101;clear HB;have BK101:=n0_;have HB:=n1_;have BK102:=n2_;have GW102:=n3_;have GE102:=n4_;have NB101_102:=n5_;have NB102_101:=n6_;clear n0_ n1_ n2_ n3_ n4_ n5_ n6_;clear hb hbox hg)|((with_reducible refine gate_dst (N:=6) rfl ?_);refine box_event ?hg (N:=6) ?hd (cs:=#[.int .i64 a2_0,.int .i64 a2_1]) (t:=39) ?hr ?_;(case hd => rfl);(case hg => rfl);(case hr => first|(go_simp;done)|(go_simp;rfl));intro gb103 hg w34 hbox hb;have n0_:=Aside0.mk (blk_below (g:=gb101) (o:=.cells #[.slice A0_0 l0_0.length c0_0] 104 (0,0)) (by (with_reducible repeat (first|refine blk_drewN ?_ _|refine blk_drew ?_|refine blk_alloc ?_ _));exact BK101.out) hb);have n1_:=Aside0.mk (blk_below (g:=gb102) (o:=.cells #[.int .i64 a1_0,.bool a1_1,.int .i64 a1_2] 37 (0,0)) (by (with_reducible repeat (first|refine blk_drewN ?_ _|refine blk_drew ?_|refine blk_alloc ?_ _));exact BK102.out) hb);have n2_:=Aside0.mk (below_step (by repeat (first|(with_reducible first|exact HB.out|apply below_alloc|apply pw_below_drewN|apply below_drew1|refine below_set ?_ GE101.out|refine below_set ?_ GE102.out)|exact HB.out)) hb);have n3_:=Aside0.mk (hbox);have n4_:=Aside0.mk ((by rw [hg];exact (below_size (by repeat (first|(with_reducible first|exact HB.out|apply below_alloc|apply pw_below_drewN|apply below_drew1|refine below_set ?_ GE101.out|refine below_set ?_ GE102.out)|exact HB.out))) : w.heap.size ≤ gb103));have n5_:=Aside0.mk ((by rw [hg];exact (below_size (by repeat (first|(with_reducible first|exact HB.out|apply below_alloc|apply pw_below_drewN|apply below_drew1|refine below_set ?_ GE101.out|refine below_set ?_ GE102.out)|exact HB.out))) : w.heap.size ≤ gb103));have n6_:=Aside0.mk ((by rw [hg];exact Nat.ne_of_lt (blk_lt (g:=gb101) (o:=.cells #[.slice A0_0 l0_0.length c0_0] 104 (0,0)) (by (with_reducible repeat (first|refine blk_drewN ?_ _|refine blk_drew ?_|refine blk_alloc ?_ _));exact BK101.out)) : gb101 ≠ gb103));have n7_:=Aside0.mk ((by rw [hg];exact Nat.ne_of_gt (blk_lt (g:=gb101) (o:=.cells #[.slice A0_0 l0_0.length c0_0] 104 (0,0)) (by (with_reducible repeat (first|refine blk_drewN ?_ _|refine blk_drew ?_|refine blk_alloc ?_ _));exact BK101.out)) : gb103 ≠ gb101));have n8_:=Aside0.mk ((by rw [hg];exact Nat.ne_of_lt (blk_lt (g:=gb102) (o:=.cells #[.int .i64 a1_0,.bool a1_1,.int .i64 a1_2] 37 (0,0)) (by (with_reducible repeat (first|refine blk_drewN ?_ _|refine blk_drew ?_|refine blk_alloc ?_ _));exact BK102.out)) : gb102 ≠ gb103));have n9_:=Aside0.mk ((by rw [hg];exact Nat.ne_of_gt (blk_lt (g:=gb102) (o:=.cells #[.int .i64 a1_0,.bool a1_1,.int .i64 a1_2] 37 (0,0)) (by (with_reducible repeat (first|refine blk_drewN ?_ _|refine blk_drew ?_|refine blk_alloc ?_ _));exact BK102.out)) : gb103 ≠ gb102));clear BK101;clear BK102;clear HB;have BK101:=n0_;have BK102:=n1_;have HB:=n2_;have BK103:=n3_;have GW103:=n4_;have GE103:=n5_;have NB101_103:=n6_;have NB103_101:=n7_;have NB102_103:=n8_;have NB103_102:=n9_;clear n0_ n1_ n2_ n3_ n4_ n5_ n6_ n7_ n8_ n9_;clear hb hbox hg)|((with_reducible refine gate_dst (N:=8) rfl ?_);refine box_event ?hg (N:=8) ?hd (cs:=#[.int .i64 0,.int .i64 0,.int .i64 0]) (t:=108) ?hr ?_;(case hd => rfl);(case hg => rfl);(case hr => first|(go_simp;done)|(go_simp;rfl));intro gb104 hg w35 hbox hb;have n0_:=Aside0.mk (blk_below (g:=gb101) (o:=.cells #[.slice A0_0 l0_0.length c0_0] 104 (0,0)) (by (with_reducible repeat (first|refine blk_drewN ?_ _|refine blk_drew ?_|refine blk_alloc ?_ _));exact BK101.out) hb);have n1_:=Aside0.mk (blk_below (g:=gb102) (o:=.cells #[.int .i64 a1_0,.bool a1_1,.int .i64 a1_2] 37 (0,0)) (by (with_reducible repeat (first|refine blk_drewN ?_ _|refine blk_drew ?_|refine blk_alloc ?_ _));exact BK102.out) hb);have n2_:=Aside0.mk (blk_below (g:=gb103) (o:=.cells #[.int .i64 a2_0,.int .i64 a2_1] 39 (0,0)) (by (with_reducible repeat (first|refine blk_drewN ?_ _|refine blk_drew ?_|refine blk_alloc ?_ _));exact BK103.out) hb);have n3_:=Aside0.mk (below_step (by repeat (first|(with_reducible first|exact HB.out|apply below_alloc|apply pw_below_drewN|apply below_drew1|refine below_set ?_ GE101.out|refine below_set ?_ GE102.out|refine below_set ?_ GE103.out)|exact HB.out)) hb);have n4_:=Aside0.mk (hbox);have n5_:=Aside0.mk ((by rw [hg];exact (below_size (by repeat (first|(with_reducible first|exact HB.out|apply below_alloc|apply pw_below_drewN|apply below_drew1|refine below_set ?_ GE101.out|refine below_set ?_ GE102.out|refine below_set ?_ GE103.out)|exact HB.out))) : w.heap.size ≤ gb104));have n6_:=Aside0.mk ((by rw [hg];exact (below_size (by repeat (first|(with_reducible first|exact HB.out|apply below_alloc|apply pw_below_drewN|apply below_drew1|refine below_set ?_ GE101.out|refine below_set ?_ GE102.out|refine below_set ?_ GE103.out)|exact HB.out))) : w.heap.size ≤ gb104));have n7_:=Aside0.mk ((by rw [hg];exact Nat.ne_of_lt (blk_lt (g:=gb101) (o:=.cells #[.slice A0_0 l0_0.length c0_0] 104 (0,0)) (by (with_reducible repeat (first|refine blk_drewN ?_ _|refine blk_drew ?_|refine blk_alloc ?_ _));exact BK101.out)) : gb101 ≠ gb104));have n8_:=Aside0.mk ((by rw [hg];exact Nat.ne_of_gt (blk_lt (g:=gb101) (o:=.cells #[.slice A0_0 l0_0.length c0_0] 104 (0,0)) (by (with_reducible repeat (first|refine blk_drewN ?_ _|refine blk_drew ?_|refine blk_alloc ?_ _));exact BK101.out)) : gb104 ≠ gb101));have n9_:=Aside0.mk ((by rw [hg];exact Nat.ne_of_lt (blk_lt (g:=gb102) (o:=.cells #[.int .i64 a1_0,.bool a1_1,.int .i64 a1_2] 37 (0,0)) (by (with_reducible repeat (first|refine blk_drewN ?_ _|refine blk_drew ?_|refine blk_alloc ?_ _));exact BK102.out)) : gb102 ≠ gb104));have n10_:=Aside0.mk ((by rw [hg];exact Nat.ne_of_gt (blk_lt (g:=gb102) (o:=.cells #[.int .i64 a1_0,.bool a1_1,.int .i64 a1_2] 37 (0,0)) (by (with_reducible repeat (first|refine blk_drewN ?_ _|refine blk_drew ?_|refine blk_alloc ?_ _));exact BK102.out)) : gb104 ≠ gb102));have n11_:=Aside0.mk ((by rw [hg];exact Nat.ne_of_lt (blk_lt (g:=gb103) (o:=.cells #[.int .i64 a2_0,.int .i64 a2_1] 39 (0,0)) (by (with_reducible repeat (first|refine blk_drewN ?_ _|refine blk_drew ?_|refine blk_alloc ?_ _));exact BK103.out)) : gb103 ≠ gb104));have n12_:=Aside0.mk ((by rw [hg];exact Nat.ne_of_gt (blk_lt (g:=gb103) (o:=.cells #[.int .i64 a2_0,.int .i64 a2_1] 39 (0,0)) (by (with_reducible repeat (first|refine blk_drewN ?_ _|refine blk_drew ?_|refine blk_alloc ?_ _));exact BK103.out)) : gb104 ≠ gb103));clear BK101;clear BK102;clear BK103;clear HB;have BK101:=n0_;have BK102:=n1_;have BK103:=n2_;have HB:=n3_;have BK104:=n4_;have GW104:=n5_;have GE104:=n6_;have NB101_104:=n7_;have NB104_101:=n8_;have NB102_104:=n9_;have NB104_102:=n10_;have NB103_104:=n11_;have NB104_103:=n12_;clear n0_ n1_ n2_ n3_ n4_ n5_ n6_ n7_ n8_ n9_ n10_ n11_ n12_;clear hb hbox hg;have hnb36:=NB101_102.out;have hnc36:=NB102_101.out;have hnb37:=NB101_103.out;have hnc37:=NB103_101.out;have hnb38:=NB101_104.out;have hnc38:=NB104_101.out;have hcz39_0 : w35.cell? ⟨gb101,0,none⟩ = some (.slice A0_0 l0_0.length c0_0):=(blk_cell BK101.out 0).trans rfl;have hfz39_0:=blk_frozen BK101.out 0;have hnb40:=NB102_103.out;have hnc40:=NB103_102.out;have hnb41:=NB102_104.out;have hnc41:=NB104_102.out;have hcz42_0 : w35.cell? ⟨gb102,0,none⟩ = some (.int .i64 a1_0):=(blk_cell BK102.out 0).trans rfl;have hcz42_1 : w35.cell? ⟨gb102,1,none⟩ = some (.bool a1_1):=(blk_cell BK102.out 1).trans rfl;have hcz42_2 : w35.cell? ⟨gb102,2,none⟩ = some (.int .i64 a1_2):=(blk_cell BK102.out 2).trans rfl;have hfz42_0:=blk_frozen BK102.out 0;have hfz42_1:=blk_frozen BK102.out 1;have hfz42_2:=blk_frozen BK102.out 2;have hnb43:=NB103_104.out;have hnc43:=NB104_103.out;have hcz44_0 : w35.cell? ⟨gb103,0,none⟩ = some (.int .i64 a2_0):=(blk_cell BK103.out 0).trans rfl;have hcz44_1 : w35.cell? ⟨gb103,1,none⟩ = some (.int .i64 a2_1):=(blk_cell BK103.out 1).trans rfl;have hfz44_0:=blk_frozen BK103.out 0;have hfz44_1:=blk_frozen BK103.out 1)|((with_reducible refine gate_callee (f:=71) rfl ?_);refine goesL_ (some 13) rfl rfl Try.func71 (by kernel_rfl) rfl #[.agg #[.slice A0_0 l0_0.length c0_0],.agg #[.int .i64 a1_0,.bool a1_1,.int .i64 a1_2],.agg #[.int .i64 a2_0,.int .i64 a2_1]] rfl (by (try simp only [List.map_toArray,List.map_cons,List.map_nil]);first|done|rfl|(simp only [List.length_drop,List.length_take];rfl)) ?_;(with_reducible refine (impl_SpotFault.calls k _ _ l0_0 a1_0 a1_1 a1_2 a2_0 a2_1 t105 _ ?side1 ?side2 A5.out).mono ?_);(case side1 => repeat (first|exact (Kd.C_below HR0_0.out HB.out)|(with_reducible refine Kd.C_alloc ?_ _)|(with_reducible refine Kd.C_drewN ?_ _)|(with_reducible refine Kd.C_drew ?_)));(case side2 => exact HC0_0.out);rintro e w45 ⟨rfl,hb⟩;refine ⟨_,rfl,?_⟩;have n0_:=Aside0.mk (blk_below (g:=gb101) (o:=.cells #[.slice A0_0 l0_0.length c0_0] 104 (0,0)) (by (with_reducible repeat (first|refine blk_drewN ?_ _|refine blk_drew ?_|refine blk_alloc ?_ _));exact BK101.out) hb);have n1_:=Aside0.mk (blk_below (g:=gb102) (o:=.cells #[.int .i64 a1_0,.bool a1_1,.int .i64 a1_2] 37 (0,0)) (by (with_reducible repeat (first|refine blk_drewN ?_ _|refine blk_drew ?_|refine blk_alloc ?_ _));exact BK102.out) hb);have n2_:=Aside0.mk (blk_below (g:=gb103) (o:=.cells #[.int .i64 a2_0,.int .i64 a2_1] 39 (0,0)) (by (with_reducible repeat (first|refine blk_drewN ?_ _|refine blk_drew ?_|refine blk_alloc ?_ _));exact BK103.out) hb);have n3_:=Aside0.mk (blk_below (g:=gb104) (o:=.cells #[.int .i64 0,.int .i64 0,.int .i64 0] 108 (0,0)) (by (with_reducible repeat (first|refine blk_drewN ?_ _|refine blk_drew ?_|refine blk_alloc ?_ _));exact BK104.out) hb);have n4_:=Aside0.mk (below_step (by repeat (first|(with_reducible first|exact HB.out|apply below_alloc|apply pw_below_drewN|apply below_drew1|refine below_set ?_ GE101.out|refine below_set ?_ GE102.out|refine below_set ?_ GE103.out|refine below_set ?_ GE104.out)|exact HB.out)) hb);clear BK101;clear BK102;clear BK103;clear BK104;clear HB;have BK101:=n0_;have BK102:=n1_;have BK103:=n2_;have BK104:=n3_;have HB:=n4_;clear n0_ n1_ n2_ n3_ n4_;(try clear hb);(try clear hb2);(try clear hk);(try clear hi))|((with_reducible refine gate_callee (f:=74) rfl ?_);refine goesL_ (some 19) rfl rfl Try.func74 (by kernel_rfl) rfl #[.int .i64 a3,.int .i64 (-9999),.int .i64 9999] rfl (by (try simp only [List.map_toArray,List.map_cons,List.map_nil]);first|done|rfl|(simp only [List.length_drop,List.length_take];rfl)) ?_;(with_reducible refine (impl_within.calls a3 (-9999) 9999 false _ A7.out).mono ?_);rintro e w' ⟨rfl,⟨nd,rfl⟩⟩;refine ⟨_,rfl,?_⟩;(try (rw [drewN_self w45];generalize hq_ : World.drewN w45 _ = w45;have n0_ : Aside0 (w45.heap[gb101]? = some (.cells #[.slice A0_0 l0_0.length c0_0] 104 (0,0))):=⟨by rw [← hq_];exact (by (with_reducible repeat (first|refine blk_drewN ?_ _|refine blk_drew ?_|refine blk_alloc ?_ _));exact BK101.out)⟩;have n1_ : Aside0 (w45.heap[gb102]? = some (.cells #[.int .i64 a1_0,.bool a1_1,.int .i64 a1_2] 37 (0,0))):=⟨by rw [← hq_];exact (by (with_reducible repeat (first|refine blk_drewN ?_ _|refine blk_drew ?_|refine blk_alloc ?_ _));exact BK102.out)⟩;have n2_ : Aside0 (w45.heap[gb103]? = some (.cells #[.int .i64 a2_0,.int .i64 a2_1] 39 (0,0))):=⟨by rw [← hq_];exact (by (with_reducible repeat (first|refine blk_drewN ?_ _|refine blk_drew ?_|refine blk_alloc ?_ _));exact BK103.out)⟩;have n3_ : Aside0 (w45.heap[gb104]? = some (.cells #[.int .i64 0,.int .i64 0,.int .i64 0] 108 (0,0))):=⟨by rw [← hq_];exact (by (with_reducible repeat (first|refine blk_drewN ?_ _|refine blk_drew ?_|refine blk_alloc ?_ _));exact BK104.out)⟩;have n4_ : Aside0 (Below w.heap.size w w45):=⟨by rw [← hq_];exact (by repeat (first|(with_reducible first|exact HB.out|apply below_alloc|apply pw_below_drewN|apply below_drew1|refine below_set ?_ GE101.out|refine below_set ?_ GE102.out|refine below_set ?_ GE103.out|refine below_set ?_ GE104.out)|exact HB.out))⟩;clear BK101 BK102 BK103 BK104 HB hq_;have BK101:=n0_;have BK102:=n1_;have BK103:=n2_;have BK104:=n3_;have HB:=n4_;clear n0_ n1_ n2_ n3_ n4_));have hcz46_0 : w45.cell? ⟨gb104,0,none⟩ = some (.int .i64 0):=(blk_cell BK104.out 0).trans rfl;have hcz46_1 : w45.cell? ⟨gb104,1,none⟩ = some (.int .i64 0):=(blk_cell BK104.out 1).trans rfl;have hcz46_2 : w45.cell? ⟨gb104,2,none⟩ = some (.int .i64 0):=(blk_cell BK104.out 2).trans rfl;have hfz46_0:=blk_frozen BK104.out 0;have hfz46_1:=blk_frozen BK104.out 1;have hfz46_2:=blk_frozen BK104.out 2))
     refine bodyPost_ret (results_cell_row rfl _ _ gb104 108 #[.int .i64 3,.int .i64 0,.int .i64 0] (0,0) _ rfl (by (with_reducible repeat (first|refine blk_drewN ?_ _|refine blk_drew ?_|refine blk_alloc ?_ _));refine blk_put (cs:=#[.int .i64 3,.int .i64 0,.int .i64 0]) ?_ 2 _ rfl;(with_reducible repeat (first|refine blk_drewN ?_ _|refine blk_drew ?_|refine blk_alloc ?_ _));refine blk_put (cs:=#[.int .i64 3,.int .i64 0,.int .i64 0]) ?_ 1 _ rfl;(with_reducible repeat (first|refine blk_drewN ?_ _|refine blk_drew ?_|refine blk_alloc ?_ _));refine blk_put (cs:=#[.int .i64 0,.int .i64 0,.int .i64 0]) ?_ 0 _ rfl;(with_reducible repeat (first|refine blk_drewN ?_ _|refine blk_drew ?_|refine blk_alloc ?_ _));exact BK104.out) Try.underlying108 rfl (by kernel_rfl)) rfl ?_
     exact ⟨by first|rfl|(simp [errW_none,errW_some] <;> rfl)|(simp [*,errW_none,errW_some] <;> rfl),by repeat (first|(with_reducible first|exact HB.out|apply below_alloc|apply pw_below_drewN|apply below_drew1|refine below_set ?_ GE101.out|refine below_set ?_ GE102.out|refine below_set ?_ GE103.out|refine below_set ?_ GE104.out)|exact HB.out)⟩
 · rw [if_neg c6] at H
   have c6b0 : (t105 == 0) = false:=beq_eq_false_iff_ne.mpr c6
   have c6b1 : (t105 != 0) = true:=bne_iff_ne.mpr c6
   simp only [Option.some.injEq,Prod.mk.injEq] at H
   obtain ⟨rfl,rfl,rfl⟩:=H
   go_enter Try.func70,Try.ntmps70
   go_wp2_with (first|((with_reducible refine gate_dst (N:=4) rfl ?_);refine box_event ?hg (N:=4) ?hd (cs:=#[.slice A0_0 l0_0.length c0_0]) (t:=104) ?hr ?_;(case hd => rfl);(case hg => rfl);(case hr => first|(go_simp;done)|(go_simp;rfl));intro gb101 hg w47 hbox hb;have n0_:=Aside0.mk (below_step (by repeat (first|(with_reducible first|exact HB.out|apply below_alloc|apply pw_below_drewN|apply below_drew1)|exact HB.out)) hb);have n1_:=Aside0.mk (hbox);have n2_:=Aside0.mk ((by rw [hg];exact (below_size (by repeat (first|(with_reducible first|exact HB.out|apply below_alloc|apply pw_below_drewN|apply below_drew1)|exact HB.out))) : w.heap.size ≤ gb101));have n3_:=Aside0.mk ((by rw [hg];exact (below_size (by repeat (first|(with_reducible first|exact HB.out|apply below_alloc|apply pw_below_drewN|apply below_drew1)|exact HB.out))) : w.heap.size ≤ gb101));clear HB;have HB:=n0_;have BK101:=n1_;have GW101:=n2_;have GE101:=n3_;clear n0_ n1_ n2_ n3_;clear hb hbox hg)|((with_reducible refine gate_dst (N:=5) rfl ?_);refine box_event ?hg (N:=5) ?hd (cs:=#[.int .i64 a1_0,.bool a1_1,.int .i64 a1_2]) (t:=37) ?hr ?_;(case hd => rfl);(case hg => rfl);(case hr => first|(go_simp;done)|(go_simp;rfl));intro gb102 hg w48 hbox hb;have n0_:=Aside0.mk (blk_below (g:=gb101) (o:=.cells #[.slice A0_0 l0_0.length c0_0] 104 (0,0)) (by (with_reducible repeat (first|refine blk_drewN ?_ _|refine blk_drew ?_|refine blk_alloc ?_ _));exact BK101.out) hb);have n1_:=Aside0.mk (below_step (by repeat (first|(with_reducible first|exact HB.out|apply below_alloc|apply pw_below_drewN|apply below_drew1|refine below_set ?_ GE101.out)|exact HB.out)) hb);have n2_:=Aside0.mk (hbox);have n3_:=Aside0.mk ((by rw [hg];exact (below_size (by repeat (first|(with_reducible first|exact HB.out|apply below_alloc|apply pw_below_drewN|apply below_drew1|refine below_set ?_ GE101.out)|exact HB.out))) : w.heap.size ≤ gb102));have n4_:=Aside0.mk ((by rw [hg];exact (below_size (by repeat (first|(with_reducible first|exact HB.out|apply below_alloc|apply pw_below_drewN|apply below_drew1|refine below_set ?_ GE101.out)|exact HB.out))) : w.heap.size ≤ gb102));have n5_:=Aside0.mk ((by rw [hg];exact Nat.ne_of_lt (blk_lt (g:=gb101) (o:=.cells #[.slice A0_0 l0_0.length c0_0] 104 (0,0)) (by (with_reducible repeat (first|refine blk_drewN ?_ _|refine blk_drew ?_|refine blk_alloc ?_ _));exact BK101.out)) : gb101 ≠ gb102));have n6_:=Aside0.mk ((by rw [hg];exact Nat.ne_of_gt (blk_lt (g:=gb101) (o:=.cells #[.slice A0_0 l0_0.length c0_0] 104 (0,0)) (by (with_reducible repeat (first|refine blk_drewN ?_ _|refine blk_drew ?_|refine blk_alloc ?_ _));exact BK101.out)) : gb102 ≠ gb101));clear BK101;clear HB;have BK101:=n0_;have HB:=n1_;have BK102:=n2_;have GW102:=n3_;have GE102:=n4_;have NB101_102:=n5_;have NB102_101:=n6_;clear n0_ n1_ n2_ n3_ n4_ n5_ n6_;clear hb hbox hg)|((with_reducible refine gate_dst (N:=6) rfl ?_);refine box_event ?hg (N:=6) ?hd (cs:=#[.int .i64 a2_0,.int .i64 a2_1]) (t:=39) ?hr ?_;(case hd => rfl);(case hg => rfl);(case hr => first|(go_simp;done)|(go_simp;rfl));intro gb103 hg w49 hbox hb;have n0_:=Aside0.mk (blk_below (g:=gb101) (o:=.cells #[.slice A0_0 l0_0.length c0_0] 104 (0,0)) (by (with_reducible repeat (first|refine blk_drewN ?_ _|refine blk_drew ?_|refine blk_alloc ?_ _));exact BK101.out) hb);have n1_:=Aside0.mk (blk_below (g:=gb102) (o:=.cells #[.int .i64 a1_0,.bool a1_1,.int .i64 a1_2] 37 (0,0)) (by (with_reducible repeat (first|refine blk_drewN ?_ _|refine blk_drew ?_|refine blk_alloc ?_ _));exact BK102.out) hb);have n2_:=Aside0.mk (below_step (by repeat (first|(with_reducible first|exact HB.out|apply below_alloc|apply pw_below_drewN|apply below_drew1|refine below_set ?_ GE101.out|refine below_set ?_ GE102.out)|exact HB.out)) hb);have n3_:=Aside0.mk (hbox);have n4_:=Aside0.mk ((by rw [hg];exact (below_size (by repeat (first|(with_reducible first|exact HB.out|apply below_alloc|apply pw_below_drewN|apply below_drew1|refine below_set ?_ GE101.out|refine below_set ?_ GE102.out)|exact HB.out))) : w.heap.size ≤ gb103));have n5_:=Aside0.mk ((by rw [hg];exact (below_size (by repeat (first|(with_reducible first|exact HB.out|apply below_alloc|apply pw_below_drewN|apply below_drew1|refine below_set ?_ GE101.out|refine below_set ?_ GE102.out)|exact HB.out))) : w.heap.size ≤ gb103));have n6_:=Aside0.mk ((by rw [hg];exact Nat.ne_of_lt (blk_lt (g:=gb101) (o:=.cells #[.slice A0_0 l0_0.length c0_0] 104 (0,0)) (by (with_reducible repeat (first|refine blk_drewN ?_ _|refine blk_drew ?_|refine blk_alloc ?_ _));exact BK101.out)) : gb101 ≠ gb103));have n7_:=Aside0.mk ((by rw [hg];exact Nat.ne_of_gt (blk_lt (g:=gb101) (o:=.cells #[.slice A0_0 l0_0.length c0_0] 104 (0,0)) (by (with_reducible repeat (first|refine blk_drewN ?_ _|refine blk_drew ?_|refine blk_alloc ?_ _));exact BK101.out)) : gb103 ≠ gb101));have n8_:=Aside0.mk ((by rw [hg];exact Nat.ne_of_lt (blk_lt (g:=gb102) (o:=.cells #[.int .i64 a1_0,.bool a1_1,.int .i64 a1_2] 37 (0,0)) (by (with_reducible repeat (first|refine blk_drewN ?_ _|refine blk_drew ?_|refine blk_alloc ?_ _));exact BK102.out)) : gb102 ≠ gb103));have n9_:=Aside0.mk ((by rw [hg];exact Nat.ne_of_gt (blk_lt (g:=gb102) (o:=.cells #[.int .i64 a1_0,.bool a1_1,.int .i64 a1_2] 37 (0,0)) (by (with_reducible repeat (first|refine blk_drewN ?_ _|refine blk_drew ?_|refine blk_alloc ?_ _));exact BK102.out)) : gb103 ≠ gb102));clear BK101;clear BK102;clear HB;have BK101:=n0_;have BK102:=n1_;have HB:=n2_;have BK103:=n3_;have GW103:=n4_;have GE103:=n5_;have NB101_103:=n6_;have NB103_101:=n7_;have NB102_103:=n8_;have NB103_102:=n9_;clear n0_ n1_ n2_ n3_ n4_ n5_ n6_ n7_ n8_ n9_;clear hb hbox hg)|((with_reducible refine gate_dst (N:=8) rfl ?_);refine box_event ?hg (N:=8) ?hd (cs:=#[.int .i64 0,.int .i64 0,.int .i64 0]) (t:=108) ?hr ?_;(case hd => rfl);(case hg => rfl);(case hr => first|(go_simp;done)|(go_simp;rfl));intro gb104 hg w50 hbox hb;have n0_:=Aside0.mk (blk_below (g:=gb101) (o:=.cells #[.slice A0_0 l0_0.length c0_0] 104 (0,0)) (by (with_reducible repeat (first|refine blk_drewN ?_ _|refine blk_drew ?_|refine blk_alloc ?_ _));exact BK101.out) hb);have n1_:=Aside0.mk (blk_below (g:=gb102) (o:=.cells #[.int .i64 a1_0,.bool a1_1,.int .i64 a1_2] 37 (0,0)) (by (with_reducible repeat (first|refine blk_drewN ?_ _|refine blk_drew ?_|refine blk_alloc ?_ _));exact BK102.out) hb);have n2_:=Aside0.mk (blk_below (g:=gb103) (o:=.cells #[.int .i64 a2_0,.int .i64 a2_1] 39 (0,0)) (by (with_reducible repeat (first|refine blk_drewN ?_ _|refine blk_drew ?_|refine blk_alloc ?_ _));exact BK103.out) hb);have n3_:=Aside0.mk (below_step (by repeat (first|(with_reducible first|exact HB.out|apply below_alloc|apply pw_below_drewN|apply below_drew1|refine below_set ?_ GE101.out|refine below_set ?_ GE102.out|refine below_set ?_ GE103.out)|exact HB.out)) hb);have n4_:=Aside0.mk (hbox);have n5_:=Aside0.mk ((by rw [hg];exact (below_size (by repeat (first|(with_reducible first|exact HB.out|apply below_alloc|apply pw_below_drewN|apply below_drew1|refine below_set ?_ GE101.out|refine below_set ?_ GE102.out|refine below_set ?_ GE103.out)|exact HB.out))) : w.heap.size ≤ gb104));have n6_:=Aside0.mk ((by rw [hg];exact (below_size (by repeat (first|(with_reducible first|exact HB.out|apply below_alloc|apply pw_below_drewN|apply below_drew1|refine below_set ?_ GE101.out|refine below_set ?_ GE102.out|refine below_set ?_ GE103.out)|exact HB.out))) : w.heap.size ≤ gb104));have n7_:=Aside0.mk ((by rw [hg];exact Nat.ne_of_lt (blk_lt (g:=gb101) (o:=.cells #[.slice A0_0 l0_0.length c0_0] 104 (0,0)) (by (with_reducible repeat (first|refine blk_drewN ?_ _|refine blk_drew ?_|refine blk_alloc ?_ _));exact BK101.out)) : gb101 ≠ gb104));have n8_:=Aside0.mk ((by rw [hg];exact Nat.ne_of_gt (blk_lt (g:=gb101) (o:=.cells #[.slice A0_0 l0_0.length c0_0] 104 (0,0)) (by (with_reducible repeat (first|refine blk_drewN ?_ _|refine blk_drew ?_|refine blk_alloc ?_ _));exact BK101.out)) : gb104 ≠ gb101));have n9_:=Aside0.mk ((by rw [hg];exact Nat.ne_of_lt (blk_lt (g:=gb102) (o:=.cells #[.int .i64 a1_0,.bool a1_1,.int .i64 a1_2] 37 (0,0)) (by (with_reducible repeat (first|refine blk_drewN ?_ _|refine blk_drew ?_|refine blk_alloc ?_ _));exact BK102.out)) : gb102 ≠ gb104));have n10_:=Aside0.mk ((by rw [hg];exact Nat.ne_of_gt (blk_lt (g:=gb102) (o:=.cells #[.int .i64 a1_0,.bool a1_1,.int .i64 a1_2] 37 (0,0)) (by (with_reducible repeat (first|refine blk_drewN ?_ _|refine blk_drew ?_|refine blk_alloc ?_ _));exact BK102.out)) : gb104 ≠ gb102));have n11_:=Aside0.mk ((by rw [hg];exact Nat.ne_of_lt (blk_lt (g:=gb103) (o:=.cells #[.int .i64 a2_0,.int .i64 a2_1] 39 (0,0)) (by (with_reducible repeat (first|refine blk_drewN ?_ _|refine blk_drew ?_|refine blk_alloc ?_ _));exact BK103.out)) : gb103 ≠ gb104));have n12_:=Aside0.mk ((by rw [hg];exact Nat.ne_of_gt (blk_lt (g:=gb103) (o:=.cells #[.int .i64 a2_0,.int .i64 a2_1] 39 (0,0)) (by (with_reducible repeat (first|refine blk_drewN ?_ _|refine blk_drew ?_|refine blk_alloc ?_ _));exact BK103.out)) : gb104 ≠ gb103));clear BK101;clear BK102;clear BK103;clear HB;have BK101:=n0_;have BK102:=n1_;have BK103:=n2_;have HB:=n3_;have BK104:=n4_;have GW104:=n5_;have GE104:=n6_;have NB101_104:=n7_;have NB104_101:=n8_;have NB102_104:=n9_;have NB104_102:=n10_;have NB103_104:=n11_;have NB104_103:=n12_;clear n0_ n1_ n2_ n3_ n4_ n5_ n6_ n7_ n8_ n9_ n10_ n11_ n12_;clear hb hbox hg;have hnb51:=NB101_102.out;have hnc51:=NB102_101.out;have hnb52:=NB101_103.out;have hnc52:=NB103_101.out;have hnb53:=NB101_104.out;have hnc53:=NB104_101.out;have hcz54_0 : w50.cell? ⟨gb101,0,none⟩ = some (.slice A0_0 l0_0.length c0_0):=(blk_cell BK101.out 0).trans rfl;have hfz54_0:=blk_frozen BK101.out 0;have hnb55:=NB102_103.out;have hnc55:=NB103_102.out;have hnb56:=NB102_104.out;have hnc56:=NB104_102.out;have hcz57_0 : w50.cell? ⟨gb102,0,none⟩ = some (.int .i64 a1_0):=(blk_cell BK102.out 0).trans rfl;have hcz57_1 : w50.cell? ⟨gb102,1,none⟩ = some (.bool a1_1):=(blk_cell BK102.out 1).trans rfl;have hcz57_2 : w50.cell? ⟨gb102,2,none⟩ = some (.int .i64 a1_2):=(blk_cell BK102.out 2).trans rfl;have hfz57_0:=blk_frozen BK102.out 0;have hfz57_1:=blk_frozen BK102.out 1;have hfz57_2:=blk_frozen BK102.out 2;have hnb58:=NB103_104.out;have hnc58:=NB104_103.out;have hcz59_0 : w50.cell? ⟨gb103,0,none⟩ = some (.int .i64 a2_0):=(blk_cell BK103.out 0).trans rfl;have hcz59_1 : w50.cell? ⟨gb103,1,none⟩ = some (.int .i64 a2_1):=(blk_cell BK103.out 1).trans rfl;have hfz59_0:=blk_frozen BK103.out 0;have hfz59_1:=blk_frozen BK103.out 1)|((with_reducible refine gate_callee (f:=71) rfl ?_);refine goesL_ (some 13) rfl rfl Try.func71 (by kernel_rfl) rfl #[.agg #[.slice A0_0 l0_0.length c0_0],.agg #[.int .i64 a1_0,.bool a1_1,.int .i64 a1_2],.agg #[.int .i64 a2_0,.int .i64 a2_1]] rfl (by (try simp only [List.map_toArray,List.map_cons,List.map_nil]);first|done|rfl|(simp only [List.length_drop,List.length_take];rfl)) ?_;(with_reducible refine (impl_SpotFault.calls k _ _ l0_0 a1_0 a1_1 a1_2 a2_0 a2_1 t105 _ ?side1 ?side2 A5.out).mono ?_);(case side1 => repeat (first|exact (Kd.C_below HR0_0.out HB.out)|(with_reducible refine Kd.C_alloc ?_ _)|(with_reducible refine Kd.C_drewN ?_ _)|(with_reducible refine Kd.C_drew ?_)));(case side2 => exact HC0_0.out);rintro e w60 ⟨rfl,hb⟩;refine ⟨_,rfl,?_⟩;have n0_:=Aside0.mk (blk_below (g:=gb101) (o:=.cells #[.slice A0_0 l0_0.length c0_0] 104 (0,0)) (by (with_reducible repeat (first|refine blk_drewN ?_ _|refine blk_drew ?_|refine blk_alloc ?_ _));exact BK101.out) hb);have n1_:=Aside0.mk (blk_below (g:=gb102) (o:=.cells #[.int .i64 a1_0,.bool a1_1,.int .i64 a1_2] 37 (0,0)) (by (with_reducible repeat (first|refine blk_drewN ?_ _|refine blk_drew ?_|refine blk_alloc ?_ _));exact BK102.out) hb);have n2_:=Aside0.mk (blk_below (g:=gb103) (o:=.cells #[.int .i64 a2_0,.int .i64 a2_1] 39 (0,0)) (by (with_reducible repeat (first|refine blk_drewN ?_ _|refine blk_drew ?_|refine blk_alloc ?_ _));exact BK103.out) hb);have n3_:=Aside0.mk (blk_below (g:=gb104) (o:=.cells #[.int .i64 0,.int .i64 0,.int .i64 0] 108 (0,0)) (by (with_reducible repeat (first|refine blk_drewN ?_ _|refine blk_drew ?_|refine blk_alloc ?_ _));exact BK104.out) hb);have n4_:=Aside0.mk (below_step (by repeat (first|(with_reducible first|exact HB.out|apply below_alloc|apply pw_below_drewN|apply below_drew1|refine below_set ?_ GE101.out|refine below_set ?_ GE102.out|refine below_set ?_ GE103.out|refine below_set ?_ GE104.out)|exact HB.out)) hb);clear BK101;clear BK102;clear BK103;clear BK104;clear HB;have BK101:=n0_;have BK102:=n1_;have BK103:=n2_;have BK104:=n3_;have HB:=n4_;clear n0_ n1_ n2_ n3_ n4_;(try clear hb);(try clear hb2);(try clear hk);(try clear hi);have hcz61_0 : w60.cell? ⟨gb104,0,none⟩ = some (.int .i64 0):=(blk_cell BK104.out 0).trans rfl;have hcz61_1 : w60.cell? ⟨gb104,1,none⟩ = some (.int .i64 0):=(blk_cell BK104.out 1).trans rfl;have hcz61_2 : w60.cell? ⟨gb104,2,none⟩ = some (.int .i64 0):=(blk_cell BK104.out 2).trans rfl;have hfz61_0:=blk_frozen BK104.out 0;have hfz61_1:=blk_frozen BK104.out 1;have hfz61_2:=blk_frozen BK104.out 2))
   refine bodyPost_ret (results_cell_row rfl _ _ gb104 108 #[.int .i64 t105,.int .i64 0,.int .i64 0] (0,0) _ rfl (by (with_reducible repeat (first|refine blk_drewN ?_ _|refine blk_drew ?_|refine blk_alloc ?_ _));refine blk_put (cs:=#[.int .i64 t105,.int .i64 0,.int .i64 0]) ?_ 2 _ rfl;(with_reducible repeat (first|refine blk_drewN ?_ _|refine blk_drew ?_|refine blk_alloc ?_ _));refine blk_put (cs:=#[.int .i64 t105,.int .i64 0,.int .i64 0]) ?_ 1 _ rfl;(with_reducible repeat (first|refine blk_drewN ?_ _|refine blk_drew ?_|refine blk_alloc ?_ _));refine blk_put (cs:=#[.int .i64 0,.int .i64 0,.int .i64 0]) ?_ 0 _ rfl;(with_reducible repeat (first|refine blk_drewN ?_ _|refine blk_drew ?_|refine blk_alloc ?_ _));exact BK104.out) Try.underlying108 rfl (by kernel_rfl)) rfl ?_
   exact ⟨by first|rfl|(simp [errW_none,errW_some] <;> rfl)|(simp [*,errW_none,errW_some] <;> rfl),by repeat (first|(with_reducible first|exact HB.out|apply below_alloc|apply pw_below_drewN|apply below_drew1|refine below_set ?_ GE101.out|refine below_set ?_ GE102.out|refine below_set ?_ GE103.out|refine below_set ?_ GE104.out)|exact HB.out)⟩
end Go.Proofs.Ytjnmhpldabbeiaa.Q
end
section
namespace Go.Proofs.Ytjnmhpldabbeiaa.Q
open Go.RowKit Go.Proofs.YtjnmhpldabbeiaaW.PrintWords Go.Proofs.YtjnmhpldabbeiaaW.PrintLast Go.Proofs.YtjnmhpldabbeiaaW.PrintMore Go.Proofs.Ytjnmhpldabbeiaa.L
/-- A spot moved, in lines of so many rows: where there are no lines it stays. -/
def movF (cs : List Int) (a b m : Int) : Int × Int := if cs.length = 0 then (a, b) else (((moveS cs (a.toNat, b) m).1 : Int), (moveS cs (a.toNat, b) m).2)
theorem spotIn_zero {cs : List Int} {a b : Int} (h0 : ¬ cs.length = 0) (h : M.spotInF cs a b = 0) : OkS cs a.toNat b ∧ 0 ≤ a := by
  unfold M.spotInF at h
  rw [if_neg h0] at h
  split at h
  · rename_i q
    obtain ⟨⟨q1, q2⟩, q3, q4⟩ := q
    have hlt : a.toNat < cs.length := by omega
    have e : rd cs a = cs[a.toNat] := by
      have := rd_nat cs a.toNat hlt
      rwa [Int.toNat_of_nonneg q1] at this
    exact ⟨⟨cs[a.toNat], List.getElem?_eq_getElem hlt, q3, by omega⟩, q1⟩
  · cases h
theorem i_mov {cs : List Int} (h : CntOk cs) {a b : Int} (hs : M.spotInF cs a b = 0) (m : Int) (hm : -9999 ≤ m ∧ m ≤ 9999) : Ev (fun k => impl_moved.f k cs a b m) (movF cs a b m) := by
  by_cases h0 : cs.length = 0
  · have e : movF cs a b m = (a, b) := by unfold movF; rw [if_pos h0]
    rw [e]
    unfold impl_moved.f
    exact Ev.pos (by omega) (Ev.now _)
  · have e : movF cs a b m = (((moveS cs (a.toNat, b) m).1 : Int), (moveS cs (a.toNat, b) m).2) := by unfold movF; rw [if_neg h0]
    obtain ⟨ho, ha⟩ := spotIn_zero h0 hs
    rw [e]
    have := moved_ev h ho m (by omega)
    rwa [Int.toNat_of_nonneg ha] at this
theorem move_none (m : Nat) : m ≤ 1000000 → Ev (fun k => spec_l10Move.l0 k [] (m : Int) 0 0) (0, 0) := by
  induction m with
  | zero =>
    intro _
    refine Ev.succ ?_
    simp only [spec_l10Move.l0]
    refine Ev.neg (by omega) (Ev.succ ?_)
    simp only [spec_l10Move.l1]
    exact Ev.neg (by omega) (Ev.now _)
  | succ m ih =>
    intro hm
    refine Ev.succ ?_
    simp only [spec_l10Move.l0]
    have e : spec_l10At.f [] 0 = some 1 := by unfold spec_l10At.f; simp
    refine Ev.pos (by omega) (Ev.bind0 e ?_)
    rw [w64 (x := (0 : Int) + 1) (by omega) (by omega), w64 (x := ((m + 1 : Nat) : Int) - 1) (by omega) (by omega), show ((m + 1 : Nat) : Int) - 1 = (m : Int) by omega]
    exact Ev.neg (by omega) (Ev.neg (by simp) (ih (by omega)))
theorem move_none_dn (m : Nat) : m ≤ 1000000 → Ev (fun k => spec_l10Move.l1 k [] (-(m : Int)) 0 0) (0, 0) := by
  induction m with
  | zero =>
    intro _
    refine Ev.succ ?_
    simp only [spec_l10Move.l1]
    exact Ev.neg (by omega) (Ev.now _)
  | succ m ih =>
    intro hm
    refine Ev.succ ?_
    simp only [spec_l10Move.l1]
    refine Ev.pos (by omega) (Ev.neg (by omega) (Ev.neg (by omega) ?_))
    rw [w64 (x := -((m + 1 : Nat) : Int) + 1) (by omega) (by omega), show -((m + 1 : Nat) : Int) + 1 = -(m : Int) by omega]
    exact ih (by omega)
theorem s_mov {cs : List Int} (h : CntOk cs) {a b : Int} (hs : M.spotInF cs a b = 0) (m : Int) (hm : -9999 ≤ m ∧ m ≤ 9999) : Ev (fun k => spec_l10Move.f k cs a b m) (movF cs a b m) := by
  by_cases h0 : cs.length = 0
  · have e : movF cs a b m = (a, b) := by unfold movF; rw [if_pos h0]
    have hc : cs = [] := List.eq_nil_of_length_eq_zero h0
    have hab : a = 0 ∧ b = 0 := by
      unfold M.spotInF at hs
      rw [if_pos h0] at hs
      split at hs
      · assumption
      · cases hs
    rw [e]
    obtain ⟨rfl, rfl⟩ := hab
    subst hc
    unfold spec_l10Move.f
    by_cases hp : 0 ≤ m
    · obtain ⟨q, rfl⟩ : ∃ q : Nat, m = q := ⟨m.toNat, by omega⟩
      exact move_none q (by omega)
    · obtain ⟨q, rfl⟩ : ∃ q : Nat, m = -(q : Int) := ⟨(-m).toNat, by omega⟩
      refine Ev.succ ?_
      simp only [spec_l10Move.l0]
      exact Ev.neg (by omega) (move_none_dn q (by omega))
  · have e : movF cs a b m = (((moveS cs (a.toNat, b) m).1 : Int), (moveS cs (a.toNat, b) m).2) := by unfold movF; rw [if_neg h0]
    obtain ⟨ho, ha⟩ := spotIn_zero h0 hs
    rw [e]
    have := move_ev h ho m (by omega)
    rwa [Int.toNat_of_nonneg ha] at this
theorem spotF_in {l : List Int} {wd : Int} {ch : Bool} {sh a b : Int} (h : M.spotF l wd ch sh a b = 0) : M.spotInF (M.cntL l wd ch) a b = 0 := by
  have hb := M.spotF_base h
  unfold M.spotF at h
  rwa [if_pos hb] at h
theorem i_moveSpot {l : List Int} (ho : M.lineOk l = true) (wd : Int) (ch : Bool) (sh a b m : Int) : Ev (fun k => impl_MoveSpot.f k l wd ch sh a b m) (if M.spotF l wd ch sh a b = 0 then (if -9999 ≤ m ∧ m ≤ 9999 then (0, movF (M.cntL l wd ch) a b m) else (3, 0, 0)) else (M.spotF l wd ch sh a b, 0, 0)) := by
  unfold impl_MoveSpot.f
  by_cases hz : M.spotF l wd ch sh a b = 0
  · obtain ⟨_, hlay⟩ := M.baseF_zero (M.spotF_base hz)
    obtain ⟨w1, w2, _⟩ := layF_zero hlay
    by_cases hm : -9999 ≤ m ∧ m ≤ 9999
    · refine Ev.eq (Ev.bind (i_spot ho wd ch sh a b) (Ev.pos hz (Ev.bind0 (within_eq m (-9999) 9999) (Ev.pos (decide_eq_true hm) (Ev.bind0 (rowsOf_eq ho ch sh w1 w2) (Ev.bind (i_mov (cntOk (M.lineOk_len ho) ch w1) (spotF_in hz) m hm) (Ev.now _))))))) ?_
      simp [hz, hm]
    · refine Ev.eq (Ev.bind (i_spot ho wd ch sh a b) (Ev.pos hz (Ev.bind0 (within_eq m (-9999) 9999) (Ev.neg (by simpa using hm) (Ev.now _))))) ?_
      simp [hz, hm]
  · refine Ev.eq (Ev.bind (i_spot ho wd ch sh a b) (Ev.neg hz (Ev.now _))) ?_
    simp [hz]
end Go.Proofs.Ytjnmhpldabbeiaa.Q
end
section
namespace Go.Proofs.Ytjnmhpldabbeiaa.Q
open Go.RowKit Go.Proofs.YtjnmhpldabbeiaaW.PrintWords Go.Proofs.YtjnmhpldabbeiaaW.PrintLast Go.Proofs.YtjnmhpldabbeiaaW.PrintMore
attribute [local go_sem] max2_int min2_int max_two min_two max_three min_three max_four min_four   -- for this text's walks alone
set_option linter.unusedVariables false
set_option linter.unusedSimpArgs false
/-! ### spec_l10With: function 113 -/
def spec_l10With.tl (l0 : List Int) (bs : List Int) (wd : Int) (ch : Bool) (sh a : Int) : Option (List Int × Int × Bool × Int × Int × Int):=(spec_l1Next.f l0 a 4).bind fun x => (spec_l1Next.f l0 x.2 3).bind fun y => some (bs,wd,ch,sh,wrap64 (x.1 - 1),wrap64 (y.1 - 1))
def spec_l10With.f (k : Nat) (l0 : List Int) : Option (List Int × Int × Bool × Int × Int × Int):=(spec_l2Bent.f k l0 0).bind fun b => (spec_l10Bent.f l0 b.2).bind fun y => if M.lineOk b.1 = true then (if M.baseF b.1.length y.1 y.2.1 y.2.2.1 = 0 then (spec_l1Chance.f l0 y.2.2.2 10).bind fun c => (if c.1 = true then spec_l10With.tl l0 b.1 y.1 y.2.1 y.2.2.1 c.2 else (spec_l1Next.f l0 c.2 20).bind fun m => (spec_l10Move.f k (M.cntL b.1 y.1 y.2.1) 0 0 m.1).bind fun p => some (b.1,y.1,y.2.1,y.2.2.1,p.1,p.2)) else spec_l10With.tl l0 b.1 y.1 y.2.1 y.2.2.1 y.2.2.2) else none
theorem spec_l10With.mono : ∀ a0 k,LeO (spec_l10With.f k a0) (spec_l10With.f (k + 1) a0):=fun a0 k => by
 unfold spec_l10With.f
 refine LeO.bind (spec_l2Bent.mono a0 0 k) (fun _ => LeO.bind (LeO.refl _) (fun _ => LeO.ite (LeO.ite (LeO.bind (LeO.refl _) (fun _ => LeO.ite (LeO.refl _) (LeO.bind (LeO.refl _) (fun _ => LeO.bind (spec_l10Move.mono _ _ _ _ k) (fun _ => LeO.refl _))))) (LeO.refl _)) (LeO.refl _)))
theorem isS_keep {w0 w w' : World} {g : Nat} {l : List Int} {a : Int} (h : IsS212 w0 w g l a) (hk : ∀ i,i < w.heap.size → w'.heap[i]? = w.heap[i]?) : IsS212 w0 w' g l a:=by
 obtain ⟨A,c,h1,h2,h3⟩:=h
 exact ⟨A,c,(hk g (Array.getElem?_eq_some_iff.mp h1).1).trans h1,h2,h3⟩
set_option maxRecDepth 20000 in
set_option maxHeartbeats 8000000 in
theorem spec_l10With.calls (k : Nat) (A0 : Option Addr) (c0 : Nat) (l0 : List Int) (r1 : List Int) (r2 : Int) (r3 : Bool) (r4 r5 r6 : Int) (w : World) (hr0 : Kd.C (Kd.int .u8) w A0 l0.length l0) (hc0 : l0.length ≤ c0) (h : spec_l10With.f k l0 = some (r1,r2,r3,r4,r5,r6)) :
 Calls Try.prog 113 #[.slice A0 l0.length c0] w fun e w' => ∃ v0_ : Value,e = .returned (.tuple #[.agg #[v0_],.agg #[.int .i64 r2,.bool r3,.int .i64 r4],.agg #[.int .i64 r5,.int .i64 r6]]) ∧ Kd.R (Kd.int .u8) 5 w' w.heap.size (fun _ => True) v0_ r1 ∧ Below w.heap.size w w':=by
 obtain ⟨⟨bs,a1⟩,h1,h2⟩:=Option.bind_eq_some_iff.mp h
 obtain ⟨⟨wd,ch,sh,a2⟩,h3,h4⟩:=Option.bind_eq_some_iff.mp h2
 simp only at h3 h4
 have hok : M.lineOk bs = true:=by
  by_cases q : M.lineOk bs = true
  · exact q
  · rw [if_neg q] at h4;cases h4
 rw [if_pos hok] at h4
 have H1:=Aside0.mk h1
 have H3:=Aside0.mk h3
 have HR0:=Aside0.mk hr0
 have HOK:=Aside0.mk hok
 have H4:=Aside0.mk h4
 clear h h1 h2 h3 h4 hok
 obtain ⟨n,hn⟩ : ∃ n,bs.length = n:=⟨_,rfl⟩
 have HN:=Aside0.mk hn
 have hm:=M.lineOk_len HOK.out
 rw [hn] at hm
 clear hn
 obtain ⟨W,hW⟩ : ∃ W,W = ((w.alloc (.cells #[.slice none 0 0] 104)).alloc (.cells #[.int .i64 0,.bool false,.int .i64 0] 37)).alloc (.cells #[.int .i64 0,.int .i64 0] 39):=⟨_,rfl⟩
 obtain ⟨_,_,_,_,_,_,hz,G0⟩:=M.box3 _ _ _ _ _ _ _ W hW
 have hF : W.heap[w.heap.size]? = some (.cells #[.slice none 0 0] 104 (0,0)):=by
  subst hW
  exact blk_alloc (blk_alloc (heap_alloc_new w _) _) _
 have hL : W.heap[w.heap.size + 1]? = some (.cells #[.int .i64 0,.bool false,.int .i64 0] 37 (0,0)):=by
  subst hW
  have:=heap_alloc_new (w.alloc (.cells #[.slice none 0 0] 104)) (.cells #[.int .i64 0,.bool false,.int .i64 0] 37)
  rw [heap_alloc_old _ _ (by simp)]
  simpa using this
 have hS : W.heap[w.heap.size + 1 + 1]? = some (.cells #[.int .i64 0,.int .i64 0] 39 (0,0)):=by
  subst hW
  have:=heap_alloc_new ((w.alloc (.cells #[.slice none 0 0] 104)).alloc (.cells #[.int .i64 0,.bool false,.int .i64 0] 37)) (.cells #[.int .i64 0,.int .i64 0] 39)
  simpa using this
 have HW:=Aside0.mk hW
 have HF:=Aside0.mk hF
 have HL:=Aside0.mk hL
 have HS:=Aside0.mk hS
 clear hW hF hL hS
 go_enter Try.func113,Try.ntmps113
 go_wp2_with (fail)
 rw [← HW.out]
 refine (spec_l1Source.calls A0 c0 l0 l0 0 w W G0 HR0.out hc0 rfl).mono ?_
 rintro e w1 ⟨g,rfl,hI1,hB1,hb1⟩
 have HF1:=Aside0.mk (blk_below HF.out hb1)
 have HL1:=Aside0.mk (blk_below HL.out hb1)
 have HS1:=Aside0.mk (blk_below HS.out hb1)
 have HG1 : Aside0 (∃ A c,w1.heap[g]? = some (.cells #[.slice A l0.length c,.int .i64 0] 212 (0,0))):=⟨by obtain ⟨A,c,hg,_⟩:=hI1;exact ⟨A,c,hg⟩⟩
 have HNF : Aside0 (w.heap.size ≠ g):=⟨by obtain ⟨A,c,hg⟩:=HG1.out;exact blk_ne HF1.out hg (by decide)⟩
 have HNL : Aside0 (w.heap.size + 1 ≠ g):=⟨by obtain ⟨A,c,hg⟩:=HG1.out;exact blk_ne HL1.out hg (by decide)⟩
 have HNS : Aside0 (w.heap.size + 1 + 1 ≠ g):=⟨by obtain ⟨A,c,hg⟩:=HG1.out;exact blk_ne HS1.out hg (by decide)⟩
 have HI1:=Aside0.mk hI1
 have HB1:=Aside0.mk hB1
 clear hI1 hB1 hb1
 go_wp2_with (fail)
 refine (spec_l2Bent.calls k g l0 0 bs a1 w w1 HI1.out HB1.out H1.out).mono ?_
 rintro e w2 ⟨v,rfl,hR2,hI2,hB2,hk2⟩
 have HF2:=Aside0.mk (hk2.blk HF1.out HNF.out (by simp))
 have HL2:=Aside0.mk (hk2.blk HL1.out HNL.out (by simp))
 have HS2:=Aside0.mk (hk2.blk HS1.out HNS.out (by simp))
 obtain ⟨Ag,cg,hgg⟩:=HG1.out
 have HR2:=Aside0.mk (Kd.R_newB (Kd.R_newB (Kd.R_newB (Kd.R_newB hR2 hgg) HF1.out) HL1.out) HS1.out)
 have ho2:=M.own_u8 hR2
 obtain ⟨Av,cv,rfl,hv1,hv2,_⟩:=ho2.row
 rw [HN.out] at hv1 HR2 ⊢
 have HI2:=Aside0.mk hI2
 have HB2:=Aside0.mk hB2
 have HLT:=Aside0.mk (blk_lt HS2.out)
 clear ho2 hR2 hI2 hB2 hk2 hgg
 obtain ⟨w3,hw3⟩ : ∃ w3,w3 = w2.alloc (.cells #[.slice Av n cv] 104):=⟨_,rfl⟩
 have b3 : Below w2.heap.size w2 w3:=by rw [hw3];exact (Below.refl _ _).alloc (Nat.le_refl _) _
 obtain ⟨gf,hgf⟩ : ∃ gf,gf = w2.heap.size:=⟨_,rfl⟩
 have HB3':=Aside0.mk (show w3.heap[gf]? = some (.cells #[.slice Av n cv] 104 (0,0)) by rw [hw3,hgf];exact heap_alloc_new _ _)
 have HF3:=Aside0.mk (blk_below HF2.out b3)
 have HL3:=Aside0.mk (blk_below HL2.out b3)
 have HS3:=Aside0.mk (blk_below HS2.out b3)
 have HR3:=Aside0.mk (Kd.R_below HR2.out b3)
 have HI3:=Aside0.mk (isS_keep HI2.out (fun i hi => b3.block i hi))
 have HB3:=Aside0.mk (HB2.out.trans (b3.mono HB2.out.size))
 have hgF : w.heap.size < gf ∧ w.heap.size + 1 < gf ∧ w.heap.size + 1 + 1 < gf:=by have:=HLT.out;omega
 have HGNE : Aside0 (gf ≠ g):=⟨by obtain ⟨A,c,hg,_,_⟩:=HI2.out;have:=blk_lt hg;omega⟩
 have HRF:=Aside0.mk (show Kd.R (Kd.int .u8) 5 w3 w1.heap.size (fun k => ((((True ∧ k ≠ g) ∧ k ≠ w.heap.size) ∧ k ≠ w.heap.size + 1) ∧ k ≠ w.heap.size + 1 + 1) ∧ k ≠ gf) (.slice Av n cv) bs from Kd.R_below (Kd.R_elderB HR2.out gf (by omega)) b3)
 have hW3:=Aside0.mk hw3
 clear hw3 b3
 go_wp2_with (fail)
 rw [← hW3.out]
 refine (spec_l10Bent.calls g l0 a1 wd ch sh a2 w w3 HI3.out HB3.out H3.out).mono ?_
 rintro e w4 ⟨rfl,hI4,hB4,hk4⟩
 have HX4:=Aside0.mk (hk4.blk HB3'.out HGNE.out (by simp))
 have HF4:=Aside0.mk (hk4.blk HF3.out HNF.out (by simp))
 have HL4:=Aside0.mk (hk4.blk HL3.out HNL.out (by simp))
 have HS4:=Aside0.mk (hk4.blk HS3.out HNS.out (by simp))
 have HR4:=Aside0.mk (Kd.R_keep HRF.out hk4 (fun k hk => hk.1.1.1.1.2))
 obtain ⟨w5,hw5⟩ : ∃ w5,w5 = w4.alloc (.cells #[.int .i64 wd,.bool ch,.int .i64 sh] 37):=⟨_,rfl⟩
 have b5 : Below w4.heap.size w4 w5:=by rw [hw5];exact (Below.refl _ _).alloc (Nat.le_refl _) _
 obtain ⟨gl,hgl⟩ : ∃ gl,gl = w4.heap.size:=⟨_,rfl⟩
 have HY5:=Aside0.mk (show w5.heap[gl]? = some (.cells #[.int .i64 wd,.bool ch,.int .i64 sh] 37 (0,0)) by rw [hw5,hgl];exact heap_alloc_new _ _)
 have HX5:=Aside0.mk (blk_below HX4.out b5)
 have HF5:=Aside0.mk (blk_below HF4.out b5)
 have HL5:=Aside0.mk (blk_below HL4.out b5)
 have HS5:=Aside0.mk (blk_below HS4.out b5)
 have HI5:=Aside0.mk (isS_keep hI4 (fun i hi => b5.block i hi))
 have HB5:=Aside0.mk (hB4.trans (b5.mono hB4.size))
 have hglt : gf < gl:=by have:=blk_lt HX4.out;omega
 have HGNL : Aside0 (gl ≠ g):=⟨by obtain ⟨A,c,hg,_,_⟩:=hI4;have:=blk_lt hg;omega⟩
 have HR5:=Aside0.mk (show Kd.R (Kd.int .u8) 5 w5 w1.heap.size (fun k => (((((True ∧ k ≠ g) ∧ k ≠ w.heap.size) ∧ k ≠ w.heap.size + 1) ∧ k ≠ w.heap.size + 1 + 1) ∧ k ≠ gf) ∧ k ≠ gl) (.slice Av n cv) bs from Kd.R_below (Kd.R_elderB HR4.out gl (by omega)) b5)
 have hW5:=Aside0.mk hw5
 clear hw5 b5 hI4 hB4 hk4
 go_wp2_with (fail)
 rw [← hW5.out]
 subst hgf
 subst hgl
 obtain ⟨q0,hq0⟩ : ∃ q0,M.baseF n wd ch sh = q0:=⟨_,rfl⟩
 have H5:=H4.out
 rw [HN.out,hq0] at H5
 have HQ0:=Aside0.mk hq0
 have hp5 : w5.cell? ⟨w2.heap.size,0,none⟩ = some (.slice Av n cv):=blk_cell HX5.out 0
 refine M.l10Base_c w2.heap.size w4.heap.size Av n cv wd ch sh w5 hp5 HY5.out (blk_lt HY5.out) hm q0 HQ0.out _ ?_
 intro w6 b6
 have HX6:=Aside0.mk (blk_below HX5.out b6)
 have HY6:=Aside0.mk (blk_below HY5.out b6)
 have HF6:=Aside0.mk (blk_below HF5.out b6)
 have HL6:=Aside0.mk (blk_below HL5.out b6)
 have HS6:=Aside0.mk (blk_below HS5.out b6)
 have HI6:=Aside0.mk (isS_keep HI5.out (fun i hi => b6.block i hi))
 have HB6:=Aside0.mk (HB5.out.trans (b6.mono HB5.out.size))
 have HR6:=Aside0.mk (Kd.R_below HR5.out b6)
 clear b6 hp5 hq0 H4
 have HGF:=HGNE
 have HGL:=HGNL
 have hw1 : w.heap.size ≤ w1.heap.size:=HB1.out.size
 by_cases hz : q0 = 0
 case neg =>
  rw [if_neg hz] at H5
  have hz1 : (q0 != 0) = true:=by simpa using hz
  have hz2 : (q0 == 0) = false:=by simpa using hz
  obtain ⟨⟨x1,a3⟩,hx1,H6⟩:=Option.bind_eq_some_iff.mp H5
  obtain ⟨⟨x2,a4⟩,hx2,H7⟩:=Option.bind_eq_some_iff.mp H6
  simp only [Option.some.injEq,Prod.mk.injEq] at H7
  obtain ⟨rfl,rfl,rfl,rfl,rfl,rfl⟩:=H7
  have HX1:=Aside0.mk hx1
  have HX2:=Aside0.mk hx2
  clear H5 H6 hx1 hx2
  go_wp2_with (fail)
  have HX6d:=Aside0.mk (show w6.drew.heap[w2.heap.size]? = some (.cells #[.slice Av n cv] 104 (0,0)) from HX6.out)
  have HY6d:=Aside0.mk (show w6.drew.heap[w4.heap.size]? = some (.cells #[.int .i64 wd,.bool ch,.int .i64 sh] 37 (0,0)) from HY6.out)
  have HF6d:=Aside0.mk (show w6.drew.heap[w.heap.size]? = some (.cells #[.slice none 0 0] 104 (0,0)) from HF6.out)
  have HL6d:=Aside0.mk (show w6.drew.heap[w.heap.size + 1]? = some (.cells #[.int .i64 0,.bool false,.int .i64 0] 37 (0,0)) from HL6.out)
  have HS6d:=Aside0.mk (show w6.drew.heap[w.heap.size + 1 + 1]? = some (.cells #[.int .i64 0,.int .i64 0] 39 (0,0)) from HS6.out)
  have HR6d:=Aside0.mk (Kd.R_drew HR6.out)
  have HI6d:=Aside0.mk (isS_keep (w':=w6.drew) HI6.out (fun i hi => rfl))
  have HB6d:=Aside0.mk (below_drew1 HB6.out)
  refine start_ (n:=12) (S:=fun w' => w'.cell? ⟨w2.heap.size,0,none⟩ = some (.slice Av n cv) ∧ w'.cell? ⟨w4.heap.size,0,none⟩ = some (.int .i64 wd) ∧ w'.cell? ⟨w4.heap.size,1,none⟩ = some (.bool ch) ∧ w'.cell? ⟨w4.heap.size,2,none⟩ = some (.int .i64 sh)) (ds:=[10,11]) #[false,false,false,false,false,false,false,false,false,false,false,false] (by kernel_rfl) rfl rfl ⟨(blk_cell HX6d.out 0),(blk_cell HY6d.out 0),(blk_cell HY6d.out 1),(blk_cell HY6d.out 2)⟩ (fun hHeld => ?_)
  refine pure_ (i:=2) (N:=some 22) (v:=?_) (a':=?_) #[false,false,true,false,false,false,false,false,false,false,false,false] rfl rfl (by kernel_rfl) (fun _ _ _ h => h) (Or.inl ⟨by rfl,?_⟩) ?_ ?_
  rotate_left
  · intro w'
    go_simp
    with_reducible rfl
  rotate_left
  · simp only [Act.put,List.setIfInBounds_toArray,List.set_cons_zero,List.set_cons_succ,i64_w,i32_w]
    rfl
  refine pure_ (i:=5) (N:=some 25) (v:=?_) (a':=?_) #[false,false,true,false,false,true,false,false,false,false,false,false] rfl rfl (by kernel_rfl) (fun _ _ _ h => h) (Or.inl ⟨by rfl,?_⟩) ?_ ?_
  rotate_left
  · intro w'
    go_simp
    with_reducible rfl
  rotate_left
  · simp only [Act.put,List.setIfInBounds_toArray,List.set_cons_zero,List.set_cons_succ,i64_w,i32_w]
    rfl
  refine take_ (i:=0) (N:=some 20) (v:=?_) (a':=?_) #[true,false,true,false,false,true,false,false,false,false,false,false] rfl rfl (by kernel_rfl) (fun _ _ _ h => h) (Or.inl ⟨by rfl,?_⟩) hHeld ?_ ?_
  rotate_left
  · rintro w' ⟨s0,s1,s2,s3⟩
    go_simp
    with_reducible rfl
  rotate_left
  · simp only [Act.put,List.setIfInBounds_toArray,List.set_cons_zero,List.set_cons_succ,i64_w,i32_w]
    rfl
  refine take_ (i:=1) (N:=some 21) (v:=?_) (a':=?_) #[true,true,true,false,false,true,false,false,false,false,false,false] rfl rfl (by kernel_rfl) (fun _ _ _ h => h) (Or.inl ⟨by rfl,?_⟩) hHeld ?_ ?_
  rotate_left
  · rintro w' ⟨s0,s1,s2,s3⟩
    go_simp
    with_reducible rfl
  rotate_left
  · simp only [Act.put,List.setIfInBounds_toArray,List.set_cons_zero,List.set_cons_succ,i64_w,i32_w]
    rfl
  refine one_ (i:=3) (N:=some 23) #[true,true,true,true,false,true,false,false,false,false,false,false] rfl rfl (by kernel_rfl) (by decide) (fun K hK => ?_)
  refine goes_ Try.func163 (by kernel_rfl) rfl #[.pointer (some ⟨g,0,none⟩),.int .i64 4] (by rfl) rfl rfl (by simp only [List.map_toArray,List.map_cons,List.map_nil];rfl) ?_
  refine (spec_l1Next.calls g l0 a2 4 x1 a3 w _ HI6d.out HB6d.out HX1.out).mono ?_
  rintro e w_a ⟨rfl,hI_a,hB_a,hk_a⟩
  refine ⟨_,rfl,?_⟩
  have HX_a:=Aside0.mk (hk_a.blk HX6d.out HGF.out (by simp))
  have HY_a:=Aside0.mk (hk_a.blk HY6d.out HGL.out (by simp))
  have HF_a:=Aside0.mk (hk_a.blk HF6d.out HNF.out (by simp))
  have HL_a:=Aside0.mk (hk_a.blk HL6d.out HNL.out (by simp))
  have HS_a:=Aside0.mk (hk_a.blk HS6d.out HNS.out (by simp))
  have HR_a:=Aside0.mk (Kd.R_keep HR6d.out hk_a (fun k hk => hk.1.1.1.1.1.2))
  have HI_a:=Aside0.mk hI_a
  have HB_a:=Aside0.mk hB_a
  clear hI_a hB_a hk_a
  refine hK.out _ _ ⟨(blk_cell HX_a.out 0),(blk_cell HY_a.out 0),(blk_cell HY_a.out 1),(blk_cell HY_a.out 2)⟩ (fun hHeld => ?_)
  clear hK K
  refine norm_ (a':=?_) ?_ ?_
  rotate_left
  · show Act.put _ (some 23) _ = _
    simp only [Act.put,List.setIfInBounds_toArray,List.set_cons_zero,List.set_cons_succ,i64_w,i32_w]
    rfl
  refine pure_ (i:=4) (N:=some 24) (v:=?_) (a':=?_) #[true,true,true,true,true,true,false,false,false,false,false,false] rfl rfl (by kernel_rfl) (fun _ _ _ h => h) (Or.inl ⟨by rfl,?_⟩) ?_ ?_
  rotate_left
  · intro w'
    go_simp
    with_reducible rfl
  rotate_left
  · simp only [Act.put,List.setIfInBounds_toArray,List.set_cons_zero,List.set_cons_succ,i64_w,i32_w]
    rfl
  refine one_ (i:=6) (N:=some 26) #[true,true,true,true,true,true,true,false,false,false,false,false] rfl rfl (by kernel_rfl) (by decide) (fun K hK => ?_)
  refine goes_ Try.func163 (by kernel_rfl) rfl #[.pointer (some ⟨g,0,none⟩),.int .i64 3] (by rfl) rfl rfl (by simp only [List.map_toArray,List.map_cons,List.map_nil];rfl) ?_
  refine (spec_l1Next.calls g l0 a3 3 x2 a4 w _ HI_a.out HB_a.out HX2.out).mono ?_
  rintro e w_b ⟨rfl,hI_b,hB_b,hk_b⟩
  refine ⟨_,rfl,?_⟩
  have HX_b:=Aside0.mk (hk_b.blk HX_a.out HGF.out (by simp))
  have HY_b:=Aside0.mk (hk_b.blk HY_a.out HGL.out (by simp))
  have HF_b:=Aside0.mk (hk_b.blk HF_a.out HNF.out (by simp))
  have HL_b:=Aside0.mk (hk_b.blk HL_a.out HNL.out (by simp))
  have HS_b:=Aside0.mk (hk_b.blk HS_a.out HNS.out (by simp))
  have HR_b:=Aside0.mk (Kd.R_keep HR_a.out hk_b (fun k hk => hk.1.1.1.1.1.2))
  have HI_b:=Aside0.mk hI_b
  have HB_b:=Aside0.mk hB_b
  clear hI_b hB_b hk_b
  refine hK.out _ _ ⟨(blk_cell HX_b.out 0),(blk_cell HY_b.out 0),(blk_cell HY_b.out 1),(blk_cell HY_b.out 2)⟩ (fun hHeld => ?_)
  clear hK K
  refine norm_ (a':=?_) ?_ ?_
  rotate_left
  · show Act.put _ (some 26) _ = _
    simp only [Act.put,List.setIfInBounds_toArray,List.set_cons_zero,List.set_cons_succ,i64_w,i32_w]
    rfl
  refine pure_ (i:=7) (N:=some 27) (v:=?_) (a':=?_) #[true,true,true,true,true,true,true,true,false,false,false,false] rfl rfl (by kernel_rfl) (fun _ _ _ h => h) (Or.inl ⟨by rfl,?_⟩) ?_ ?_
  rotate_left
  · intro w'
    go_simp
    with_reducible rfl
  rotate_left
  · simp only [Act.put,List.setIfInBounds_toArray,List.set_cons_zero,List.set_cons_succ,i64_w,i32_w]
    rfl
  refine pure_ (i:=8) (N:=some 28) (v:=?_) (a':=?_) #[true,true,true,true,true,true,true,true,true,false,false,false] rfl rfl (by kernel_rfl) (fun _ _ _ h => h) (Or.inl ⟨by rfl,?_⟩) ?_ ?_
  rotate_left
  · intro w'
    go_simp
    with_reducible rfl
  rotate_left
  · simp only [Act.put,List.setIfInBounds_toArray,List.set_cons_zero,List.set_cons_succ,i64_w,i32_w]
    rfl
  refine one_ (i:=9) (N:=none) #[true,true,true,true,true,true,true,true,true,true,false,false] rfl rfl (by kernel_rfl) (by decide) (fun K hK => ?_)
  have cF_0:=blk_cell HF_b.out 0
  have zF_0:=blk_frozen HF_b.out 0
  refine skip_ (w1:=?_) (by rfl) rfl ?_ ?_
  rotate_left
  · go_simp
    rfl
  obtain ⟨u1,hu1⟩ : ∃ u1,u1 = w_b.setCell ⟨w.heap.size,0,none⟩ (.slice Av n cv):=⟨_,rfl⟩
  try rw [← hu1]
  have HF_1:=Aside0.mk (show u1.heap[w.heap.size]? = some (.cells #[.slice Av n cv] 104 (0,0)) by rw [hu1];exact blk_put HF_b.out 0 _ rfl)
  have HX_1:=Aside0.mk (show u1.heap[w2.heap.size]? = some (.cells #[.slice Av n cv] 104 (0,0)) by rw [hu1];exact blk_far HX_b.out (by first|omega|(simp only;omega)) _)
  have HY_1:=Aside0.mk (show u1.heap[w4.heap.size]? = some (.cells #[.int .i64 wd,.bool ch,.int .i64 sh] 37 (0,0)) by rw [hu1];exact blk_far HY_b.out (by first|omega|(simp only;omega)) _)
  have HL_1:=Aside0.mk (show u1.heap[w.heap.size + 1]? = some (.cells #[.int .i64 0,.bool false,.int .i64 0] 37 (0,0)) by rw [hu1];exact blk_far HL_b.out (by first|omega|(simp only;omega)) _)
  have HS_1:=Aside0.mk (show u1.heap[w.heap.size + 1 + 1]? = some (.cells #[.int .i64 0,.int .i64 0] 39 (0,0)) by rw [hu1];exact blk_far HS_b.out (by first|omega|(simp only;omega)) _)
  have HR_1:=Aside0.mk (show Kd.R (Kd.int .u8) 5 u1 w1.heap.size _ (.slice Av n cv) bs by rw [hu1];exact Kd.R_far HR_b.out (fun k hk => hk.1.1.1.1.2) _)
  have HB_1:=Aside0.mk (show Below w.heap.size w u1 by rw [hu1];exact below_set HB_b.out (Nat.le_refl _))
  clear hu1
  refine hK.out _ _ ⟨(blk_cell HX_1.out 0),(blk_cell HY_1.out 0),(blk_cell HY_1.out 1),(blk_cell HY_1.out 2)⟩ (fun hHeld => ?_)
  clear hK K
  refine last_ (i:=10) (N:=none) #[true,true,true,true,true,true,true,true,true,true,true,false] rfl rfl (by kernel_rfl) (by decide) (fun K hK => ?_)
  have cL_0:=blk_cell HL_1.out 0
  have cL_1:=blk_cell HL_1.out 1
  have cL_2:=blk_cell HL_1.out 2
  have zL_0:=blk_frozen HL_1.out 0
  have zL_1:=blk_frozen HL_1.out 1
  have zL_2:=blk_frozen HL_1.out 2
  refine skip_ (w1:=?_) (by rfl) rfl ?_ ?_
  rotate_left
  · go_simp
    rfl
  obtain ⟨u2,hu2⟩ : ∃ u2,u2 = ((u1.setCell ⟨w.heap.size + 1,0,none⟩ (.int .i64 wd)).setCell ⟨w.heap.size + 1,1,none⟩ (.bool ch)).setCell ⟨w.heap.size + 1,2,none⟩ (.int .i64 sh):=⟨_,rfl⟩
  try rw [← hu2]
  have HL_2:=Aside0.mk (show u2.heap[w.heap.size + 1]? = some (.cells #[.int .i64 wd,.bool ch,.int .i64 sh] 37 (0,0)) by rw [hu2];exact blk_put (blk_put (blk_put HL_1.out 0 _ rfl) 1 _ rfl) 2 _ rfl)
  have HF_2:=Aside0.mk (show u2.heap[w.heap.size]? = some (.cells #[.slice Av n cv] 104 (0,0)) by rw [hu2];exact blk_far (blk_far (blk_far HF_1.out (by first|omega|(simp only;omega)) _) (by first|omega|(simp only;omega)) _) (by first|omega|(simp only;omega)) _)
  have HS_2:=Aside0.mk (show u2.heap[w.heap.size + 1 + 1]? = some (.cells #[.int .i64 0,.int .i64 0] 39 (0,0)) by rw [hu2];exact blk_far (blk_far (blk_far HS_1.out (by first|omega|(simp only;omega)) _) (by first|omega|(simp only;omega)) _) (by first|omega|(simp only;omega)) _)
  have HR_2:=Aside0.mk (show Kd.R (Kd.int .u8) 5 u2 w1.heap.size _ (.slice Av n cv) bs by rw [hu2];exact Kd.R_far (Kd.R_far (Kd.R_far HR_1.out (fun k hk => hk.1.1.1.2) _) (fun k hk => hk.1.1.1.2) _) (fun k hk => hk.1.1.1.2) _)
  have HB_2:=Aside0.mk (show Below w.heap.size w u2 by rw [hu2];exact below_set (below_set (below_set HB_1.out (by first|omega|(simp only;omega))) (by first|omega|(simp only;omega))) (by first|omega|(simp only;omega)))
  clear hu2
  refine hK.out _ _ ?_
  clear hK K
  refine last_ (i:=11) (N:=none) #[true,true,true,true,true,true,true,true,true,true,true,true] rfl rfl (by kernel_rfl) (by decide) (fun K hK => ?_)
  have cS_0:=blk_cell HS_2.out 0
  have cS_1:=blk_cell HS_2.out 1
  have zS_0:=blk_frozen HS_2.out 0
  have zS_1:=blk_frozen HS_2.out 1
  refine skip_ (w1:=?_) (by rfl) rfl ?_ ?_
  rotate_left
  · go_simp
    rfl
  obtain ⟨u3,hu3⟩ : ∃ u3,u3 = (u2.setCell ⟨w.heap.size + 1 + 1,0,none⟩ (.int .i64 (wrap64 (x1 - 1)))).setCell ⟨w.heap.size + 1 + 1,1,none⟩ (.int .i64 (wrap64 (x2 - 1))):=⟨_,rfl⟩
  try rw [← hu3]
  have HS_3:=Aside0.mk (show u3.heap[w.heap.size + 1 + 1]? = some (.cells #[.int .i64 (wrap64 (x1 - 1)),.int .i64 (wrap64 (x2 - 1))] 39 (0,0)) by rw [hu3];exact blk_put (blk_put HS_2.out 0 _ rfl) 1 _ rfl)
  have HF_3:=Aside0.mk (show u3.heap[w.heap.size]? = some (.cells #[.slice Av n cv] 104 (0,0)) by rw [hu3];exact blk_far (blk_far HF_2.out (by first|omega|(simp only;omega)) _) (by first|omega|(simp only;omega)) _)
  have HL_3:=Aside0.mk (show u3.heap[w.heap.size + 1]? = some (.cells #[.int .i64 wd,.bool ch,.int .i64 sh] 37 (0,0)) by rw [hu3];exact blk_far (blk_far HL_2.out (by first|omega|(simp only;omega)) _) (by first|omega|(simp only;omega)) _)
  have HR_3:=Aside0.mk (show Kd.R (Kd.int .u8) 5 u3 w1.heap.size _ (.slice Av n cv) bs by rw [hu3];exact Kd.R_far (Kd.R_far HR_2.out (fun k hk => hk.1.1.2) _) (fun k hk => hk.1.1.2) _)
  have HB_3:=Aside0.mk (show Below w.heap.size w u3 by rw [hu3];exact below_set (below_set HB_2.out (by first|omega|(simp only;omega))) (by first|omega|(simp only;omega)))
  clear hu3
  refine hK.out _ _ ?_
  clear hK K
  refine done_ (by kernel_rfl) ?_
  have hF0:=blk_cell HF_3.out 0
  have hL0:=blk_cell HL_3.out 0
  have hL1:=blk_cell HL_3.out 1
  have hL2:=blk_cell HL_3.out 2
  have hS0:=blk_cell HS_3.out 0
  have hS1:=blk_cell HS_3.out 1
  go_wp2
  refine bodyPost_ret (by simp [results,Try.results113,go_sem,hF0,hL0,hL1,hL2,hS0,hS1];try rfl) rfl ?_
  exact ⟨_,rfl,Kd.R_lower (Kd.R_mono HR_3.out (fun _ _ => trivial)) (by omega),HB_3.out⟩
 subst hz
 rw [if_pos rfl] at H5
 obtain ⟨⟨cb,a3⟩,hx1,H6⟩:=Option.bind_eq_some_iff.mp H5
 have HX1:=Aside0.mk hx1
 simp only at H6
 have H6':=Aside0.mk H6
 clear H5 H6 hx1
 go_wp2_with (fail)
 refine (spec_l1Chance.calls g l0 a2 10 cb a3 w w6 HI6.out HB6.out HX1.out).mono ?_
 rintro e w7 ⟨rfl,hI7,hB7,hk7⟩
 have HX7:=Aside0.mk (hk7.blk HX6.out HGF.out (by simp))
 have HY7:=Aside0.mk (hk7.blk HY6.out HGL.out (by simp))
 have HF7:=Aside0.mk (hk7.blk HF6.out HNF.out (by simp))
 have HL7:=Aside0.mk (hk7.blk HL6.out HNL.out (by simp))
 have HS7:=Aside0.mk (hk7.blk HS6.out HNS.out (by simp))
 have HR7:=Aside0.mk (Kd.R_keep HR6.out hk7 (fun k hk => hk.1.1.1.1.1.2))
 have HI7:=Aside0.mk hI7
 have HB7:=Aside0.mk hB7
 clear hI7 hB7 hk7
 have H7:=H6'.out
 cases cb with
 | true =>
  rw [if_pos rfl] at H7
  obtain ⟨⟨x1,a4⟩,hx1,H8⟩:=Option.bind_eq_some_iff.mp H7
  obtain ⟨⟨x2,a5⟩,hx2,H9⟩:=Option.bind_eq_some_iff.mp H8
  simp only [Option.some.injEq,Prod.mk.injEq] at H9
  obtain ⟨rfl,rfl,rfl,rfl,rfl,rfl⟩:=H9
  have HN1:=Aside0.mk hx1
  have HN2:=Aside0.mk hx2
  clear H6' H7 H8 hx1 hx2
  go_wp2_with (fail)
  have HX7d:=Aside0.mk (show w7.drew.heap[w2.heap.size]? = some (.cells #[.slice Av n cv] 104 (0,0)) from HX7.out)
  have HY7d:=Aside0.mk (show w7.drew.heap[w4.heap.size]? = some (.cells #[.int .i64 wd,.bool ch,.int .i64 sh] 37 (0,0)) from HY7.out)
  have HF7d:=Aside0.mk (show w7.drew.heap[w.heap.size]? = some (.cells #[.slice none 0 0] 104 (0,0)) from HF7.out)
  have HL7d:=Aside0.mk (show w7.drew.heap[w.heap.size + 1]? = some (.cells #[.int .i64 0,.bool false,.int .i64 0] 37 (0,0)) from HL7.out)
  have HS7d:=Aside0.mk (show w7.drew.heap[w.heap.size + 1 + 1]? = some (.cells #[.int .i64 0,.int .i64 0] 39 (0,0)) from HS7.out)
  have HR7d:=Aside0.mk (Kd.R_drew HR7.out)
  have HI7d:=Aside0.mk (isS_keep (w':=w7.drew) HI7.out (fun i hi => rfl))
  have HB7d:=Aside0.mk (below_drew1 HB7.out)
  refine start_ (n:=12) (S:=fun w' => w'.cell? ⟨w2.heap.size,0,none⟩ = some (.slice Av n cv) ∧ w'.cell? ⟨w4.heap.size,0,none⟩ = some (.int .i64 wd) ∧ w'.cell? ⟨w4.heap.size,1,none⟩ = some (.bool ch) ∧ w'.cell? ⟨w4.heap.size,2,none⟩ = some (.int .i64 sh)) (ds:=[10,11]) #[false,false,false,false,false,false,false,false,false,false,false,false] (by kernel_rfl) rfl rfl ⟨(blk_cell HX7d.out 0),(blk_cell HY7d.out 0),(blk_cell HY7d.out 1),(blk_cell HY7d.out 2)⟩ (fun hHeld => ?_)
  refine pure_ (i:=2) (N:=some 22) (v:=?_) (a':=?_) #[false,false,true,false,false,false,false,false,false,false,false,false] rfl rfl (by kernel_rfl) (fun _ _ _ h => h) (Or.inl ⟨by rfl,?_⟩) ?_ ?_
  rotate_left
  · intro w'
    go_simp
    with_reducible rfl
  rotate_left
  · simp only [Act.put,List.setIfInBounds_toArray,List.set_cons_zero,List.set_cons_succ,i64_w,i32_w]
    rfl
  refine pure_ (i:=5) (N:=some 25) (v:=?_) (a':=?_) #[false,false,true,false,false,true,false,false,false,false,false,false] rfl rfl (by kernel_rfl) (fun _ _ _ h => h) (Or.inl ⟨by rfl,?_⟩) ?_ ?_
  rotate_left
  · intro w'
    go_simp
    with_reducible rfl
  rotate_left
  · simp only [Act.put,List.setIfInBounds_toArray,List.set_cons_zero,List.set_cons_succ,i64_w,i32_w]
    rfl
  refine take_ (i:=0) (N:=some 20) (v:=?_) (a':=?_) #[true,false,true,false,false,true,false,false,false,false,false,false] rfl rfl (by kernel_rfl) (fun _ _ _ h => h) (Or.inl ⟨by rfl,?_⟩) hHeld ?_ ?_
  rotate_left
  · rintro w' ⟨s0,s1,s2,s3⟩
    go_simp
    with_reducible rfl
  rotate_left
  · simp only [Act.put,List.setIfInBounds_toArray,List.set_cons_zero,List.set_cons_succ,i64_w,i32_w]
    rfl
  refine take_ (i:=1) (N:=some 21) (v:=?_) (a':=?_) #[true,true,true,false,false,true,false,false,false,false,false,false] rfl rfl (by kernel_rfl) (fun _ _ _ h => h) (Or.inl ⟨by rfl,?_⟩) hHeld ?_ ?_
  rotate_left
  · rintro w' ⟨s0,s1,s2,s3⟩
    go_simp
    with_reducible rfl
  rotate_left
  · simp only [Act.put,List.setIfInBounds_toArray,List.set_cons_zero,List.set_cons_succ,i64_w,i32_w]
    rfl
  refine one_ (i:=3) (N:=some 23) #[true,true,true,true,false,true,false,false,false,false,false,false] rfl rfl (by kernel_rfl) (by decide) (fun K hK => ?_)
  refine goes_ Try.func163 (by kernel_rfl) rfl #[.pointer (some ⟨g,0,none⟩),.int .i64 4] (by rfl) rfl rfl (by simp only [List.map_toArray,List.map_cons,List.map_nil];rfl) ?_
  refine (spec_l1Next.calls g l0 a3 4 x1 a4 w _ HI7d.out HB7d.out HN1.out).mono ?_
  rintro e w_a ⟨rfl,hI_a,hB_a,hk_a⟩
  refine ⟨_,rfl,?_⟩
  have HX_a:=Aside0.mk (hk_a.blk HX7d.out HGF.out (by simp))
  have HY_a:=Aside0.mk (hk_a.blk HY7d.out HGL.out (by simp))
  have HF_a:=Aside0.mk (hk_a.blk HF7d.out HNF.out (by simp))
  have HL_a:=Aside0.mk (hk_a.blk HL7d.out HNL.out (by simp))
  have HS_a:=Aside0.mk (hk_a.blk HS7d.out HNS.out (by simp))
  have HR_a:=Aside0.mk (Kd.R_keep HR7d.out hk_a (fun k hk => hk.1.1.1.1.1.2))
  have HI_a:=Aside0.mk hI_a
  have HB_a:=Aside0.mk hB_a
  clear hI_a hB_a hk_a
  refine hK.out _ _ ⟨(blk_cell HX_a.out 0),(blk_cell HY_a.out 0),(blk_cell HY_a.out 1),(blk_cell HY_a.out 2)⟩ (fun hHeld => ?_)
  clear hK K
  refine norm_ (a':=?_) ?_ ?_
  rotate_left
  · show Act.put _ (some 23) _ = _
    simp only [Act.put,List.setIfInBounds_toArray,List.set_cons_zero,List.set_cons_succ,i64_w,i32_w]
    rfl
  refine pure_ (i:=4) (N:=some 24) (v:=?_) (a':=?_) #[true,true,true,true,true,true,false,false,false,false,false,false] rfl rfl (by kernel_rfl) (fun _ _ _ h => h) (Or.inl ⟨by rfl,?_⟩) ?_ ?_
  rotate_left
  · intro w'
    go_simp
    with_reducible rfl
  rotate_left
  · simp only [Act.put,List.setIfInBounds_toArray,List.set_cons_zero,List.set_cons_succ,i64_w,i32_w]
    rfl
  refine one_ (i:=6) (N:=some 26) #[true,true,true,true,true,true,true,false,false,false,false,false] rfl rfl (by kernel_rfl) (by decide) (fun K hK => ?_)
  refine goes_ Try.func163 (by kernel_rfl) rfl #[.pointer (some ⟨g,0,none⟩),.int .i64 3] (by rfl) rfl rfl (by simp only [List.map_toArray,List.map_cons,List.map_nil];rfl) ?_
  refine (spec_l1Next.calls g l0 a4 3 x2 a5 w _ HI_a.out HB_a.out HN2.out).mono ?_
  rintro e w_b ⟨rfl,hI_b,hB_b,hk_b⟩
  refine ⟨_,rfl,?_⟩
  have HX_b:=Aside0.mk (hk_b.blk HX_a.out HGF.out (by simp))
  have HY_b:=Aside0.mk (hk_b.blk HY_a.out HGL.out (by simp))
  have HF_b:=Aside0.mk (hk_b.blk HF_a.out HNF.out (by simp))
  have HL_b:=Aside0.mk (hk_b.blk HL_a.out HNL.out (by simp))
  have HS_b:=Aside0.mk (hk_b.blk HS_a.out HNS.out (by simp))
  have HR_b:=Aside0.mk (Kd.R_keep HR_a.out hk_b (fun k hk => hk.1.1.1.1.1.2))
  have HI_b:=Aside0.mk hI_b
  have HB_b:=Aside0.mk hB_b
  clear hI_b hB_b hk_b
  refine hK.out _ _ ⟨(blk_cell HX_b.out 0),(blk_cell HY_b.out 0),(blk_cell HY_b.out 1),(blk_cell HY_b.out 2)⟩ (fun hHeld => ?_)
  clear hK K
  refine norm_ (a':=?_) ?_ ?_
  rotate_left
  · show Act.put _ (some 26) _ = _
    simp only [Act.put,List.setIfInBounds_toArray,List.set_cons_zero,List.set_cons_succ,i64_w,i32_w]
    rfl
  refine pure_ (i:=7) (N:=some 27) (v:=?_) (a':=?_) #[true,true,true,true,true,true,true,true,false,false,false,false] rfl rfl (by kernel_rfl) (fun _ _ _ h => h) (Or.inl ⟨by rfl,?_⟩) ?_ ?_
  rotate_left
  · intro w'
    go_simp
    with_reducible rfl
  rotate_left
  · simp only [Act.put,List.setIfInBounds_toArray,List.set_cons_zero,List.set_cons_succ,i64_w,i32_w]
    rfl
  refine pure_ (i:=8) (N:=some 28) (v:=?_) (a':=?_) #[true,true,true,true,true,true,true,true,true,false,false,false] rfl rfl (by kernel_rfl) (fun _ _ _ h => h) (Or.inl ⟨by rfl,?_⟩) ?_ ?_
  rotate_left
  · intro w'
    go_simp
    with_reducible rfl
  rotate_left
  · simp only [Act.put,List.setIfInBounds_toArray,List.set_cons_zero,List.set_cons_succ,i64_w,i32_w]
    rfl
  refine one_ (i:=9) (N:=none) #[true,true,true,true,true,true,true,true,true,true,false,false] rfl rfl (by kernel_rfl) (by decide) (fun K hK => ?_)
  have cF_0:=blk_cell HF_b.out 0
  have zF_0:=blk_frozen HF_b.out 0
  refine skip_ (w1:=?_) (by rfl) rfl ?_ ?_
  rotate_left
  · go_simp
    rfl
  obtain ⟨u1,hu1⟩ : ∃ u1,u1 = w_b.setCell ⟨w.heap.size,0,none⟩ (.slice Av n cv):=⟨_,rfl⟩
  try rw [← hu1]
  have HF_1:=Aside0.mk (show u1.heap[w.heap.size]? = some (.cells #[.slice Av n cv] 104 (0,0)) by rw [hu1];exact blk_put HF_b.out 0 _ rfl)
  have HX_1:=Aside0.mk (show u1.heap[w2.heap.size]? = some (.cells #[.slice Av n cv] 104 (0,0)) by rw [hu1];exact blk_far HX_b.out (by first|omega|(simp only;omega)) _)
  have HY_1:=Aside0.mk (show u1.heap[w4.heap.size]? = some (.cells #[.int .i64 wd,.bool ch,.int .i64 sh] 37 (0,0)) by rw [hu1];exact blk_far HY_b.out (by first|omega|(simp only;omega)) _)
  have HL_1:=Aside0.mk (show u1.heap[w.heap.size + 1]? = some (.cells #[.int .i64 0,.bool false,.int .i64 0] 37 (0,0)) by rw [hu1];exact blk_far HL_b.out (by first|omega|(simp only;omega)) _)
  have HS_1:=Aside0.mk (show u1.heap[w.heap.size + 1 + 1]? = some (.cells #[.int .i64 0,.int .i64 0] 39 (0,0)) by rw [hu1];exact blk_far HS_b.out (by first|omega|(simp only;omega)) _)
  have HR_1:=Aside0.mk (show Kd.R (Kd.int .u8) 5 u1 w1.heap.size _ (.slice Av n cv) bs by rw [hu1];exact Kd.R_far HR_b.out (fun k hk => hk.1.1.1.1.2) _)
  have HB_1:=Aside0.mk (show Below w.heap.size w u1 by rw [hu1];exact below_set HB_b.out (Nat.le_refl _))
  clear hu1
  refine hK.out _ _ ⟨(blk_cell HX_1.out 0),(blk_cell HY_1.out 0),(blk_cell HY_1.out 1),(blk_cell HY_1.out 2)⟩ (fun hHeld => ?_)
  clear hK K
  refine last_ (i:=10) (N:=none) #[true,true,true,true,true,true,true,true,true,true,true,false] rfl rfl (by kernel_rfl) (by decide) (fun K hK => ?_)
  have cL_0:=blk_cell HL_1.out 0
  have cL_1:=blk_cell HL_1.out 1
  have cL_2:=blk_cell HL_1.out 2
  have zL_0:=blk_frozen HL_1.out 0
  have zL_1:=blk_frozen HL_1.out 1
  have zL_2:=blk_frozen HL_1.out 2
  refine skip_ (w1:=?_) (by rfl) rfl ?_ ?_
  rotate_left
  · go_simp
    rfl
  obtain ⟨u2,hu2⟩ : ∃ u2,u2 = ((u1.setCell ⟨w.heap.size + 1,0,none⟩ (.int .i64 wd)).setCell ⟨w.heap.size + 1,1,none⟩ (.bool ch)).setCell ⟨w.heap.size + 1,2,none⟩ (.int .i64 sh):=⟨_,rfl⟩
  try rw [← hu2]
  have HL_2:=Aside0.mk (show u2.heap[w.heap.size + 1]? = some (.cells #[.int .i64 wd,.bool ch,.int .i64 sh] 37 (0,0)) by rw [hu2];exact blk_put (blk_put (blk_put HL_1.out 0 _ rfl) 1 _ rfl) 2 _ rfl)
  have HF_2:=Aside0.mk (show u2.heap[w.heap.size]? = some (.cells #[.slice Av n cv] 104 (0,0)) by rw [hu2];exact blk_far (blk_far (blk_far HF_1.out (by first|omega|(simp only;omega)) _) (by first|omega|(simp only;omega)) _) (by first|omega|(simp only;omega)) _)
  have HS_2:=Aside0.mk (show u2.heap[w.heap.size + 1 + 1]? = some (.cells #[.int .i64 0,.int .i64 0] 39 (0,0)) by rw [hu2];exact blk_far (blk_far (blk_far HS_1.out (by first|omega|(simp only;omega)) _) (by first|omega|(simp only;omega)) _) (by first|omega|(simp only;omega)) _)
  have HR_2:=Aside0.mk (show Kd.R (Kd.int .u8) 5 u2 w1.heap.size _ (.slice Av n cv) bs by rw [hu2];exact Kd.R_far (Kd.R_far (Kd.R_far HR_1.out (fun k hk => hk.1.1.1.2) _) (fun k hk => hk.1.1.1.2) _) (fun k hk => hk.1.1.1.2) _)
  have HB_2:=Aside0.mk (show Below w.heap.size w u2 by rw [hu2];exact below_set (below_set (below_set HB_1.out (by first|omega|(simp only;omega))) (by first|omega|(simp only;omega))) (by first|omega|(simp only;omega)))
  clear hu2
  refine hK.out _ _ ?_
  clear hK K
  refine last_ (i:=11) (N:=none) #[true,true,true,true,true,true,true,true,true,true,true,true] rfl rfl (by kernel_rfl) (by decide) (fun K hK => ?_)
  have cS_0:=blk_cell HS_2.out 0
  have cS_1:=blk_cell HS_2.out 1
  have zS_0:=blk_frozen HS_2.out 0
  have zS_1:=blk_frozen HS_2.out 1
  refine skip_ (w1:=?_) (by rfl) rfl ?_ ?_
  rotate_left
  · go_simp
    rfl
  obtain ⟨u3,hu3⟩ : ∃ u3,u3 = (u2.setCell ⟨w.heap.size + 1 + 1,0,none⟩ (.int .i64 (wrap64 (x1 - 1)))).setCell ⟨w.heap.size + 1 + 1,1,none⟩ (.int .i64 (wrap64 (x2 - 1))):=⟨_,rfl⟩
  try rw [← hu3]
  have HS_3:=Aside0.mk (show u3.heap[w.heap.size + 1 + 1]? = some (.cells #[.int .i64 (wrap64 (x1 - 1)),.int .i64 (wrap64 (x2 - 1))] 39 (0,0)) by rw [hu3];exact blk_put (blk_put HS_2.out 0 _ rfl) 1 _ rfl)
  have HF_3:=Aside0.mk (show u3.heap[w.heap.size]? = some (.cells #[.slice Av n cv] 104 (0,0)) by rw [hu3];exact blk_far (blk_far HF_2.out (by first|omega|(simp only;omega)) _) (by first|omega|(simp only;omega)) _)
  have HL_3:=Aside0.mk (show u3.heap[w.heap.size + 1]? = some (.cells #[.int .i64 wd,.bool ch,.int .i64 sh] 37 (0,0)) by rw [hu3];exact blk_far (blk_far HL_2.out (by first|omega|(simp only;omega)) _) (by first|omega|(simp only;omega)) _)
  have HR_3:=Aside0.mk (show Kd.R (Kd.int .u8) 5 u3 w1.heap.size _ (.slice Av n cv) bs by rw [hu3];exact Kd.R_far (Kd.R_far HR_2.out (fun k hk => hk.1.1.2) _) (fun k hk => hk.1.1.2) _)
  have HB_3:=Aside0.mk (show Below w.heap.size w u3 by rw [hu3];exact below_set (below_set HB_2.out (by first|omega|(simp only;omega))) (by first|omega|(simp only;omega)))
  clear hu3
  refine hK.out _ _ ?_
  clear hK K
  refine done_ (by kernel_rfl) ?_
  have hF0:=blk_cell HF_3.out 0
  have hL0:=blk_cell HL_3.out 0
  have hL1:=blk_cell HL_3.out 1
  have hL2:=blk_cell HL_3.out 2
  have hS0:=blk_cell HS_3.out 0
  have hS1:=blk_cell HS_3.out 1
  go_wp2
  refine bodyPost_ret (by simp [results,Try.results113,go_sem,hF0,hL0,hL1,hL2,hS0,hS1];try rfl) rfl ?_
  exact ⟨_,rfl,Kd.R_lower (Kd.R_mono HR_3.out (fun _ _ => trivial)) (by omega),HB_3.out⟩
 | false =>
  rw [if_neg (by simp)] at H7
  obtain ⟨⟨mv,a4⟩,hx1,H8⟩:=Option.bind_eq_some_iff.mp H7
  obtain ⟨⟨p1,p2⟩,hx2,H9⟩:=Option.bind_eq_some_iff.mp H8
  simp only [Option.some.injEq,Prod.mk.injEq] at H9
  obtain ⟨rfl,rfl,rfl,rfl,rfl,rfl⟩:=H9
  have HN1:=Aside0.mk hx1
  have HN2:=Aside0.mk hx2
  clear H6' H7 H8 hx1 hx2
  go_wp2_with (fail)
  have HX7d:=Aside0.mk (show w7.drew.heap[w2.heap.size]? = some (.cells #[.slice Av n cv] 104 (0,0)) from HX7.out)
  have HY7d:=Aside0.mk (show w7.drew.heap[w4.heap.size]? = some (.cells #[.int .i64 wd,.bool ch,.int .i64 sh] 37 (0,0)) from HY7.out)
  have HF7d:=Aside0.mk (show w7.drew.heap[w.heap.size]? = some (.cells #[.slice none 0 0] 104 (0,0)) from HF7.out)
  have HL7d:=Aside0.mk (show w7.drew.heap[w.heap.size + 1]? = some (.cells #[.int .i64 0,.bool false,.int .i64 0] 37 (0,0)) from HL7.out)
  have HS7d:=Aside0.mk (show w7.drew.heap[w.heap.size + 1 + 1]? = some (.cells #[.int .i64 0,.int .i64 0] 39 (0,0)) from HS7.out)
  have HR7d:=Aside0.mk (Kd.R_drew HR7.out)
  have HI7d:=Aside0.mk (isS_keep (w':=w7.drew) HI7.out (fun i hi => rfl))
  have HB7d:=Aside0.mk (below_drew1 HB7.out)
  have HRW:=Aside0.mk (show M.Row M.eU 1 w7.drew Av bs from (M.own_u8 (Kd.R_mono HR7d.out (fun _ _ => trivial))).rowOf)
  obtain ⟨hq1,hq2,_,_,_⟩:=layF_zero (M.baseF_zero HQ0.out).2
  refine start_ (n:=10) (S:=fun w' => w'.cell? ⟨w2.heap.size,0,none⟩ = some (.slice Av n cv) ∧ w'.cell? ⟨w4.heap.size,0,none⟩ = some (.int .i64 wd) ∧ w'.cell? ⟨w4.heap.size,1,none⟩ = some (.bool ch) ∧ w'.cell? ⟨w4.heap.size,2,none⟩ = some (.int .i64 sh)) (ds:=[8,9]) #[false,false,false,false,false,false,false,false,false,false] (by kernel_rfl) rfl rfl ⟨(blk_cell HX7d.out 0),(blk_cell HY7d.out 0),(blk_cell HY7d.out 1),(blk_cell HY7d.out 2)⟩ (fun hHeld => ?_)
  refine pure_ (i:=3) (N:=some 32) (v:=?_) (a':=?_) #[false,false,false,true,false,false,false,false,false,false] rfl rfl (by kernel_rfl) (fun _ _ _ h => h) (Or.inl ⟨by rfl,?_⟩) ?_ ?_
  rotate_left
  · intro w'
    go_simp
    with_reducible rfl
  rotate_left
  · simp only [Act.put,List.setIfInBounds_toArray,List.set_cons_zero,List.set_cons_succ,i64_w,i32_w]
    rfl
  refine pure_ (i:=4) (N:=some 33) (v:=?_) (a':=?_) #[false,false,false,true,true,false,false,false,false,false] rfl rfl (by kernel_rfl) (fun _ _ _ h => h) (Or.inl ⟨by rfl,?_⟩) ?_ ?_
  rotate_left
  · intro w'
    go_simp
    with_reducible rfl
  rotate_left
  · simp only [Act.put,List.setIfInBounds_toArray,List.set_cons_zero,List.set_cons_succ,i64_w,i32_w]
    rfl
  refine take_ (i:=0) (N:=some 29) (v:=?_) (a':=?_) #[true,false,false,true,true,false,false,false,false,false] rfl rfl (by kernel_rfl) (fun _ _ _ h => h) (Or.inl ⟨by rfl,?_⟩) hHeld ?_ ?_
  rotate_left
  · rintro w' ⟨s0,s1,s2,s3⟩
    go_simp
    with_reducible rfl
  rotate_left
  · simp only [Act.put,List.setIfInBounds_toArray,List.set_cons_zero,List.set_cons_succ,i64_w,i32_w]
    rfl
  refine take_ (i:=1) (N:=some 30) (v:=?_) (a':=?_) #[true,true,false,true,true,false,false,false,false,false] rfl rfl (by kernel_rfl) (fun _ _ _ h => h) (Or.inl ⟨by rfl,?_⟩) hHeld ?_ ?_
  rotate_left
  · rintro w' ⟨s0,s1,s2,s3⟩
    go_simp
    with_reducible rfl
  rotate_left
  · simp only [Act.put,List.setIfInBounds_toArray,List.set_cons_zero,List.set_cons_succ,i64_w,i32_w]
    rfl
  refine one_ (i:=2) (N:=some 31) #[true,true,true,true,true,false,false,false,false,false] rfl rfl (by kernel_rfl) (by decide) (fun K hK => ?_)
  refine goes_ Try.func120 (by kernel_rfl) rfl #[.pointer (some ⟨w2.heap.size,0,none⟩),.pointer (some ⟨w4.heap.size,0,none⟩)] (by rfl) rfl rfl (by simp only [List.map_toArray,List.map_cons,List.map_nil];rfl) ?_
  refine M.l10Counts_c w2.heap.size w4.heap.size Av n cv bs wd ch sh _ (blk_cell HX7d.out 0) HY7d.out HN.out HRW.out hv1 HOK.out hq1 hq2 (blk_lt HY7d.out) _ ?_
  intro A8 c8 w_a ho8 hc8 hm8 b8
  refine ⟨_,rfl,?_⟩
  have HX_a:=Aside0.mk (blk_below HX7d.out b8)
  have HY_a:=Aside0.mk (blk_below HY7d.out b8)
  have HF_a:=Aside0.mk (blk_below HF7d.out b8)
  have HL_a:=Aside0.mk (blk_below HL7d.out b8)
  have HS_a:=Aside0.mk (blk_below HS7d.out b8)
  have HR_a:=Aside0.mk (Kd.R_below HR7d.out b8)
  have HI_a:=Aside0.mk (isS_keep HI7d.out (fun i hi => b8.block i hi))
  have HB_a:=Aside0.mk (HB7d.out.trans (b8.mono HB7d.out.size))
  obtain ⟨Ah,ch8,hgh⟩ : ∃ A c,w7.drew.heap[g]? = some (.cells #[.slice A l0.length c,.int .i64 a3] 212 (0,0)):=by obtain ⟨A,c,hg,_⟩:=HI7d.out;exact ⟨A,c,hg⟩
  have HK8:=Aside0.mk (Kd.R_newB (w:=w7.drew) (M.r_i64 ho8) hgh)
  clear ho8 b8 hgh
  refine hK.out _ _ ⟨(blk_cell HX_a.out 0),(blk_cell HY_a.out 0),(blk_cell HY_a.out 1),(blk_cell HY_a.out 2)⟩ (fun hHeld => ?_)
  clear hK K
  refine norm_ (a':=?_) ?_ ?_
  rotate_left
  · show Act.put _ (some 31) _ = _
    simp only [Act.put,List.setIfInBounds_toArray,List.set_cons_zero,List.set_cons_succ,i64_w,i32_w]
    rfl
  refine one_ (i:=5) (N:=some 34) #[true,true,true,true,true,true,false,false,false,false] rfl rfl (by kernel_rfl) (by decide) (fun K hK => ?_)
  refine goes_ Try.func163 (by kernel_rfl) rfl #[.pointer (some ⟨g,0,none⟩),.int .i64 20] (by rfl) rfl rfl (by simp only [List.map_toArray,List.map_cons,List.map_nil];rfl) ?_
  refine (spec_l1Next.calls g l0 a3 20 mv a4 w _ HI_a.out HB_a.out HN1.out).mono ?_
  rintro e w_c ⟨rfl,hI_c,hB_c,hk_c⟩
  refine ⟨_,rfl,?_⟩
  have HC9:=Aside0.mk (show Kd.C (Kd.int .i64) w_c A8 (M.cntL bs wd ch).length (M.cntL bs wd ch) from M.C_ints (by unfold maxLen at hm8;omega) (M.own_i64 (Kd.R_mono (Kd.R_keep HK8.out hk_c (fun k hk => hk.2)) (fun _ _ => trivial))).rowOf)
  have HX_c:=Aside0.mk (hk_c.blk HX_a.out HGF.out (by simp))
  have HY_c:=Aside0.mk (hk_c.blk HY_a.out HGL.out (by simp))
  have HF_c:=Aside0.mk (hk_c.blk HF_a.out HNF.out (by simp))
  have HL_c:=Aside0.mk (hk_c.blk HL_a.out HNL.out (by simp))
  have HS_c:=Aside0.mk (hk_c.blk HS_a.out HNS.out (by simp))
  have HR_c:=Aside0.mk (Kd.R_keep HR_a.out hk_c (fun k hk => hk.1.1.1.1.1.2))
  have HI_c:=Aside0.mk hI_c
  have HB_c:=Aside0.mk hB_c
  clear hI_c hB_c hk_c
  refine hK.out _ _ ⟨(blk_cell HX_c.out 0),(blk_cell HY_c.out 0),(blk_cell HY_c.out 1),(blk_cell HY_c.out 2)⟩ (fun hHeld => ?_)
  clear hK K
  refine norm_ (a':=?_) ?_ ?_
  rotate_left
  · show Act.put _ (some 34) _ = _
    simp only [Act.put,List.setIfInBounds_toArray,List.set_cons_zero,List.set_cons_succ,i64_w,i32_w]
    rfl
  refine one_ (i:=6) (N:=some 35) #[true,true,true,true,true,true,true,false,false,false] rfl rfl (by kernel_rfl) (by decide) (fun K hK => ?_)
  refine goes_ Try.func164 (by kernel_rfl) rfl #[.slice A8 (M.cntL bs wd ch).length c8,.agg #[.int .i64 0,.int .i64 0],.int .i64 mv] (by rfl) rfl rfl (by simp only [List.map_toArray,List.map_cons,List.map_nil];rfl) ?_
  refine (spec_l10Move.calls k A8 c8 (M.cntL bs wd ch) 0 0 mv p1 p2 _ HC9.out hc8 HN2.out).mono ?_
  rintro e w_b ⟨rfl,b10⟩
  refine ⟨_,rfl,?_⟩
  have HX_b:=Aside0.mk (blk_below HX_c.out b10)
  have HY_b:=Aside0.mk (blk_below HY_c.out b10)
  have HF_b:=Aside0.mk (blk_below HF_c.out b10)
  have HL_b:=Aside0.mk (blk_below HL_c.out b10)
  have HS_b:=Aside0.mk (blk_below HS_c.out b10)
  have HR_b:=Aside0.mk (Kd.R_below HR_c.out b10)
  have HI_b:=Aside0.mk (isS_keep HI_c.out (fun i hi => b10.block i hi))
  have HB_b:=Aside0.mk (HB_c.out.trans (b10.mono HB_c.out.size))
  clear b10
  refine hK.out _ _ ⟨(blk_cell HX_b.out 0),(blk_cell HY_b.out 0),(blk_cell HY_b.out 1),(blk_cell HY_b.out 2)⟩ (fun hHeld => ?_)
  clear hK K
  refine norm_ (a':=?_) ?_ ?_
  rotate_left
  · show Act.put _ (some 35) _ = _
    simp only [Act.put,List.setIfInBounds_toArray,List.set_cons_zero,List.set_cons_succ,i64_w,i32_w]
    rfl
  refine one_ (i:=7) (N:=none) #[true,true,true,true,true,true,true,true,false,false] rfl rfl (by kernel_rfl) (by decide) (fun K hK => ?_)
  have cF_0:=blk_cell HF_b.out 0
  have zF_0:=blk_frozen HF_b.out 0
  refine skip_ (w1:=?_) (by rfl) rfl ?_ ?_
  rotate_left
  · go_simp
    rfl
  obtain ⟨u1,hu1⟩ : ∃ u1,u1 = w_b.setCell ⟨w.heap.size,0,none⟩ (.slice Av n cv):=⟨_,rfl⟩
  try rw [← hu1]
  have HF_1:=Aside0.mk (show u1.heap[w.heap.size]? = some (.cells #[.slice Av n cv] 104 (0,0)) by rw [hu1];exact blk_put HF_b.out 0 _ rfl)
  have HX_1:=Aside0.mk (show u1.heap[w2.heap.size]? = some (.cells #[.slice Av n cv] 104 (0,0)) by rw [hu1];exact blk_far HX_b.out (by first|omega|(simp only;omega)) _)
  have HY_1:=Aside0.mk (show u1.heap[w4.heap.size]? = some (.cells #[.int .i64 wd,.bool ch,.int .i64 sh] 37 (0,0)) by rw [hu1];exact blk_far HY_b.out (by first|omega|(simp only;omega)) _)
  have HL_1:=Aside0.mk (show u1.heap[w.heap.size + 1]? = some (.cells #[.int .i64 0,.bool false,.int .i64 0] 37 (0,0)) by rw [hu1];exact blk_far HL_b.out (by first|omega|(simp only;omega)) _)
  have HS_1:=Aside0.mk (show u1.heap[w.heap.size + 1 + 1]? = some (.cells #[.int .i64 0,.int .i64 0] 39 (0,0)) by rw [hu1];exact blk_far HS_b.out (by first|omega|(simp only;omega)) _)
  have HR_1:=Aside0.mk (show Kd.R (Kd.int .u8) 5 u1 w1.heap.size _ (.slice Av n cv) bs by rw [hu1];exact Kd.R_far HR_b.out (fun k hk => hk.1.1.1.1.2) _)
  have HB_1:=Aside0.mk (show Below w.heap.size w u1 by rw [hu1];exact below_set HB_b.out (Nat.le_refl _))
  clear hu1
  refine hK.out _ _ ⟨(blk_cell HX_1.out 0),(blk_cell HY_1.out 0),(blk_cell HY_1.out 1),(blk_cell HY_1.out 2)⟩ (fun hHeld => ?_)
  clear hK K
  refine last_ (i:=8) (N:=none) #[true,true,true,true,true,true,true,true,true,false] rfl rfl (by kernel_rfl) (by decide) (fun K hK => ?_)
  have cL_0:=blk_cell HL_1.out 0
  have cL_1:=blk_cell HL_1.out 1
  have cL_2:=blk_cell HL_1.out 2
  have zL_0:=blk_frozen HL_1.out 0
  have zL_1:=blk_frozen HL_1.out 1
  have zL_2:=blk_frozen HL_1.out 2
  refine skip_ (w1:=?_) (by rfl) rfl ?_ ?_
  rotate_left
  · go_simp
    rfl
  obtain ⟨u2,hu2⟩ : ∃ u2,u2 = ((u1.setCell ⟨w.heap.size + 1,0,none⟩ (.int .i64 wd)).setCell ⟨w.heap.size + 1,1,none⟩ (.bool ch)).setCell ⟨w.heap.size + 1,2,none⟩ (.int .i64 sh):=⟨_,rfl⟩
  try rw [← hu2]
  have HL_2:=Aside0.mk (show u2.heap[w.heap.size + 1]? = some (.cells #[.int .i64 wd,.bool ch,.int .i64 sh] 37 (0,0)) by rw [hu2];exact blk_put (blk_put (blk_put HL_1.out 0 _ rfl) 1 _ rfl) 2 _ rfl)
  have HF_2:=Aside0.mk (show u2.heap[w.heap.size]? = some (.cells #[.slice Av n cv] 104 (0,0)) by rw [hu2];exact blk_far (blk_far (blk_far HF_1.out (by first|omega|(simp only;omega)) _) (by first|omega|(simp only;omega)) _) (by first|omega|(simp only;omega)) _)
  have HS_2:=Aside0.mk (show u2.heap[w.heap.size + 1 + 1]? = some (.cells #[.int .i64 0,.int .i64 0] 39 (0,0)) by rw [hu2];exact blk_far (blk_far (blk_far HS_1.out (by first|omega|(simp only;omega)) _) (by first|omega|(simp only;omega)) _) (by first|omega|(simp only;omega)) _)
  have HR_2:=Aside0.mk (show Kd.R (Kd.int .u8) 5 u2 w1.heap.size _ (.slice Av n cv) bs by rw [hu2];exact Kd.R_far (Kd.R_far (Kd.R_far HR_1.out (fun k hk => hk.1.1.1.2) _) (fun k hk => hk.1.1.1.2) _) (fun k hk => hk.1.1.1.2) _)
  have HB_2:=Aside0.mk (show Below w.heap.size w u2 by rw [hu2];exact below_set (below_set (below_set HB_1.out (by first|omega|(simp only;omega))) (by first|omega|(simp only;omega))) (by first|omega|(simp only;omega)))
  clear hu2
  refine hK.out _ _ ?_
  clear hK K
  refine last_ (i:=9) (N:=none) #[true,true,true,true,true,true,true,true,true,true] rfl rfl (by kernel_rfl) (by decide) (fun K hK => ?_)
  have cS_0:=blk_cell HS_2.out 0
  have cS_1:=blk_cell HS_2.out 1
  have zS_0:=blk_frozen HS_2.out 0
  have zS_1:=blk_frozen HS_2.out 1
  refine skip_ (w1:=?_) (by rfl) rfl ?_ ?_
  rotate_left
  · go_simp
    rfl
  obtain ⟨u3,hu3⟩ : ∃ u3,u3 = (u2.setCell ⟨w.heap.size + 1 + 1,0,none⟩ (.int .i64 (p1))).setCell ⟨w.heap.size + 1 + 1,1,none⟩ (.int .i64 (p2)):=⟨_,rfl⟩
  try rw [← hu3]
  have HS_3:=Aside0.mk (show u3.heap[w.heap.size + 1 + 1]? = some (.cells #[.int .i64 (p1),.int .i64 (p2)] 39 (0,0)) by rw [hu3];exact blk_put (blk_put HS_2.out 0 _ rfl) 1 _ rfl)
  have HF_3:=Aside0.mk (show u3.heap[w.heap.size]? = some (.cells #[.slice Av n cv] 104 (0,0)) by rw [hu3];exact blk_far (blk_far HF_2.out (by first|omega|(simp only;omega)) _) (by first|omega|(simp only;omega)) _)
  have HL_3:=Aside0.mk (show u3.heap[w.heap.size + 1]? = some (.cells #[.int .i64 wd,.bool ch,.int .i64 sh] 37 (0,0)) by rw [hu3];exact blk_far (blk_far HL_2.out (by first|omega|(simp only;omega)) _) (by first|omega|(simp only;omega)) _)
  have HR_3:=Aside0.mk (show Kd.R (Kd.int .u8) 5 u3 w1.heap.size _ (.slice Av n cv) bs by rw [hu3];exact Kd.R_far (Kd.R_far HR_2.out (fun k hk => hk.1.1.2) _) (fun k hk => hk.1.1.2) _)
  have HB_3:=Aside0.mk (show Below w.heap.size w u3 by rw [hu3];exact below_set (below_set HB_2.out (by first|omega|(simp only;omega))) (by first|omega|(simp only;omega)))
  clear hu3
  refine hK.out _ _ ?_
  clear hK K
  refine done_ (by kernel_rfl) ?_
  have hF0:=blk_cell HF_3.out 0
  have hL0:=blk_cell HL_3.out 0
  have hL1:=blk_cell HL_3.out 1
  have hL2:=blk_cell HL_3.out 2
  have hS0:=blk_cell HS_3.out 0
  have hS1:=blk_cell HS_3.out 1
  go_wp2
  refine bodyPost_ret (by simp [results,Try.results113,go_sem,hF0,hL0,hL1,hL2,hS0,hS1];try rfl) rfl ?_
  exact ⟨_,rfl,Kd.R_lower (Kd.R_mono HR_3.out (fun _ _ => trivial)) (by omega),HB_3.out⟩
end Go.Proofs.Ytjnmhpldabbeiaa.Q
end
section
namespace Go.Proofs.Ytjnmhpldabbeiaa.Q
open Go.RowKit Go.Proofs.YtjnmhpldabbeiaaW.PrintWords Go.Proofs.YtjnmhpldabbeiaaW.PrintLast Go.Proofs.YtjnmhpldabbeiaaW.PrintMore
attribute [local go_sem] max2_int min2_int max_two min_two max_three min_three max_four min_four   -- for this text's walks alone
set_option linter.unusedVariables false
set_option linter.unusedSimpArgs false
/-! ### spec_DrawLastTop: function 67 -/
def spec_DrawLastTop.f (k : Nat) (l0 : List Int) : Option (List Int × Int × Bool × Int × Int):=(spec_l10With.f k l0).bind fun bt103 => ((spec_l1Later.f l0 3).bind fun bt114 => ((spec_l1Pick.f bt114.1 bt114.2 (([3,1,20,21,0] : List Int))).bind fun bt120 => (some (bt103.1,bt103.2.1,bt103.2.2.1,bt103.2.2.2.1,bt120.1))))
theorem spec_DrawLastTop.mono : ∀ a0 k,LeO (spec_DrawLastTop.f k a0) (spec_DrawLastTop.f (k + 1) a0):=by
 intro a0 k
 unfold spec_DrawLastTop.f
 repeat' first
  | (with_reducible exact spec_l10With.mono _ _)
  | (with_reducible exact LeO.refl _)
  | (with_reducible exact LeO.none _)
  | (with_reducible refine LeO.ite ?_ ?_)
  | (with_reducible refine LeO.bind ?_ (fun _ => ?_))
  | exact spec_l10With.mono _ _
  | exact LeO.none _
  | refine LeO.ite ?_ ?_
  | refine LeO.bind ?_ (fun _ => ?_)
def spec_DrawLastTop.T3 : Bool × List (List Nat × List Nat):=(true,[([],[]),([],[]),([],[]),([],[]),([2,3],[2,3]),([0,4,0],[0]),([1,5,0,1,5],[1]),([4,6,0,1,2,3,4,5,6],[4])])
def spec_DrawLastTop.B3 : List Nat:=[0,0,0,0,12,29,63,127]
theorem spec_DrawLastTop.tab3 : rtab .any (opsOf Try.f67 3) = spec_DrawLastTop.T3:=by kernel_rfl
theorem spec_DrawLastTop.bits3 : waitsOk spec_DrawLastTop.T3.2 spec_DrawLastTop.B3 = true:=by kernel_rfl
set_option maxHeartbeats 8000000 in
set_option maxRecDepth 100000 in
theorem spec_DrawLastTop.calls (k : Nat) (A0 : Option Addr) (c0 : Nat) (l0 : List Int) (r1 : List Int) (r2 : Int) (r3 : Bool) (r4 : Int) (r5 : Int) (w : World) (hr0 : Kd.C (Kd.int .u8) w A0 l0.length l0) (hc0 : l0.length ≤ c0) (h : spec_DrawLastTop.f k l0 = some (r1,r2,r3,r4,r5)) :
 Calls Try.prog 67 #[.slice A0 l0.length c0] w fun e w' => ∃ v0_ : Value,e = .returned (.tuple #[.agg #[v0_],.agg #[.int .i64 r2,.bool r3,.int .i64 r4],.int .i64 r5]) ∧ Kd.R (Kd.int .u8) 5 w' w.heap.size (fun _ => True) v0_ r1 ∧ Below w.heap.size w w':=by
 have hu104:=Try.underlying104
 have hu37:=Try.underlying37
 have hu39:=Try.underlying39
 have HR0:=Aside0.mk hr0
 have HC0:=Aside0.mk hc0
 clear hr0 hc0
 have HB:=Aside0.mk (Below.refl w.heap.size w)
 have H : ((spec_l10With.f k l0).bind fun bt103 => ((spec_l1Later.f l0 3).bind fun bt114 => ((spec_l1Pick.f bt114.1 bt114.2 (([3,1,20,21,0] : List Int))).bind fun bt120 => (some (bt103.1,bt103.2.1,bt103.2.2.1,bt103.2.2.2.1,bt120.1))))) = some (r1,r2,r3,r4,r5):=h
 clear h
 replace H:=Option.bind_eq_some_iff.mp H
 obtain ⟨⟨t103,t106,t107,t108,t109,t110⟩,A20,H⟩:=H
 replace H : ((spec_l1Later.f l0 3).bind fun bt114 => ((spec_l1Pick.f bt114.1 bt114.2 (([3,1,20,21,0] : List Int))).bind fun bt120 => (some (t103,t106,t107,t108,bt120.1)))) = some (r1,r2,r3,r4,r5):=H
 have A2:=Aside0.mk A20
 clear A20
 replace H:=Option.bind_eq_some_iff.mp H
 obtain ⟨⟨t114,t115⟩,A30,H⟩:=H
 replace H : ((spec_l1Pick.f t114 t115 (([3,1,20,21,0] : List Int))).bind fun bt120 => (some (t103,t106,t107,t108,bt120.1))) = some (r1,r2,r3,r4,r5):=H
 have A3:=Aside0.mk A30
 clear A30
 obtain ⟨y117,hy117⟩ : ∃ y_ : List Int,y_ = (([3,1,20,21,0] : List Int)):=⟨_,rfl⟩
 replace H : ((spec_l1Pick.f t114 t115 y117).bind fun bt120 => (some (t103,t106,t107,t108,bt120.1))) = some (r1,r2,r3,r4,r5):=by first|(rw [hy117];with_reducible exact H)|(have H2_:=(Option.bind_some _ _).symm.trans H;rw [hy117];with_reducible exact H2_)|(have H2_:=(Option.bind_some _ _).symm.trans H;with_reducible exact H2_)|with_reducible exact H|(rw [hy117];exact H)|exact H
 have Ny117:=Aside0.mk hy117
 clear hy117
 replace H:=Option.bind_eq_some_iff.mp H
 obtain ⟨⟨t120,t121⟩,A40,H⟩:=H
 replace H : (some (t103,t106,t107,t108,t120)) = some (r1,r2,r3,r4,r5):=H
 have A4:=Aside0.mk A40
 clear A40
 simp only [Option.some.injEq,Prod.mk.injEq] at H
 obtain ⟨rfl,rfl,rfl,rfl,rfl⟩:=H
 go_enter Try.func67,Try.ntmps67
 try go_wp2_with (first|((with_reducible refine gate_dst (N:=2) rfl ?_);refine box_event ?hg (N:=2) ?hd (cs:=#[.slice none 0 0]) (t:=104) ?hr ?_;(case hd => rfl);(case hg => rfl);(case hr => first|(go_simp;done)|(go_simp;rfl));intro gb101 hg w5 hbox hb;have n0_:=Aside0.mk (below_step (by repeat (first|(with_reducible first|exact HB.out|apply below_alloc|apply pw_below_drewN|apply below_drew1)|exact HB.out)) hb);have n1_:=Aside0.mk (hbox);have n2_:=Aside0.mk ((by rw [hg];exact (below_size (by repeat (first|(with_reducible first|exact HB.out|apply below_alloc|apply pw_below_drewN|apply below_drew1)|exact HB.out))) : w.heap.size ≤ gb101));have n3_:=Aside0.mk ((by rw [hg];exact (below_size (by repeat (first|(with_reducible first|exact HB.out|apply below_alloc|apply pw_below_drewN|apply below_drew1)|exact HB.out))) : w.heap.size ≤ gb101));clear HB;have HB:=n0_;have BK101:=n1_;have GW101:=n2_;have GE101:=n3_;clear n0_ n1_ n2_ n3_;clear hb hbox hg)|((with_reducible refine gate_dst (N:=3) rfl ?_);refine box_event ?hg (N:=3) ?hd (cs:=#[.int .i64 0,.bool false,.int .i64 0]) (t:=37) ?hr ?_;(case hd => rfl);(case hg => rfl);(case hr => first|(go_simp;done)|(go_simp;rfl));intro gb102 hg w6 hbox hb;have n0_:=Aside0.mk (blk_below (g:=gb101) (o:=.cells #[.slice none 0 0] 104 (0,0)) (by (with_reducible repeat (first|refine blk_drewN ?_ _|refine blk_drew ?_|refine blk_alloc ?_ _));exact BK101.out) hb);have n1_:=Aside0.mk (below_step (by repeat (first|(with_reducible first|exact HB.out|apply below_alloc|apply pw_below_drewN|apply below_drew1|refine below_set ?_ GE101.out)|exact HB.out)) hb);have n2_:=Aside0.mk (hbox);have n3_:=Aside0.mk ((by rw [hg];exact (below_size (by repeat (first|(with_reducible first|exact HB.out|apply below_alloc|apply pw_below_drewN|apply below_drew1|refine below_set ?_ GE101.out)|exact HB.out))) : w.heap.size ≤ gb102));have n4_:=Aside0.mk ((by rw [hg];exact (below_size (by repeat (first|(with_reducible first|exact HB.out|apply below_alloc|apply pw_below_drewN|apply below_drew1|refine below_set ?_ GE101.out)|exact HB.out))) : w.heap.size ≤ gb102));have n5_:=Aside0.mk ((by rw [hg];exact Nat.ne_of_lt (blk_lt (g:=gb101) (o:=.cells #[.slice none 0 0] 104 (0,0)) (by (with_reducible repeat (first|refine blk_drewN ?_ _|refine blk_drew ?_|refine blk_alloc ?_ _));exact BK101.out)) : gb101 ≠ gb102));have n6_:=Aside0.mk ((by rw [hg];exact Nat.ne_of_gt (blk_lt (g:=gb101) (o:=.cells #[.slice none 0 0] 104 (0,0)) (by (with_reducible repeat (first|refine blk_drewN ?_ _|refine blk_drew ?_|refine blk_alloc ?_ _));exact BK101.out)) : gb102 ≠ gb101));clear BK101;clear HB;have BK101:=n0_;have HB:=n1_;have BK102:=n2_;have GW102:=n3_;have GE102:=n4_;have NB101_102:=n5_;have NB102_101:=n6_;clear n0_ n1_ n2_ n3_ n4_ n5_ n6_;clear hb hbox hg)|((with_reducible refine gate_callee (f:=113) rfl ?_);refine goesL_ (some 11) rfl rfl Try.func113 (by kernel_rfl) rfl #[.slice A0 l0.length c0] rfl (by (try simp only [List.map_toArray,List.map_cons,List.map_nil]);first|done|rfl|(simp only [List.length_drop,List.length_take];rfl)) ?_;(with_reducible refine (spec_l10With.calls k _ _ l0 t103 t106 t107 t108 t109 t110 _ ?side1 ?side2 A2.out).mono ?_);(case side1 => repeat (first|exact (Kd.C_below HR0.out HB.out)|(with_reducible refine Kd.C_alloc ?_ _)|(with_reducible refine Kd.C_drewN ?_ _)|(with_reducible refine Kd.C_drew ?_)));(case side2 => exact HC0.out);rintro e w7 ⟨v104,rfl,ho0,hb⟩;refine ⟨_,rfl,?_⟩;have n0_:=Aside0.mk (Kd.R_lower ho0 (below_size (by repeat (first|(with_reducible first|exact HB.out|apply below_alloc|apply pw_below_drewN|apply below_drew1|refine below_set ?_ GE101.out|refine below_set ?_ GE102.out)|exact HB.out))));have n1_:=Aside0.mk (blk_below (g:=gb101) (o:=.cells #[.slice none 0 0] 104 (0,0)) (by (with_reducible repeat (first|refine blk_drewN ?_ _|refine blk_drew ?_|refine blk_alloc ?_ _));exact BK101.out) hb);have n2_:=Aside0.mk (blk_below (g:=gb102) (o:=.cells #[.int .i64 0,.bool false,.int .i64 0] 37 (0,0)) (by (with_reducible repeat (first|refine blk_drewN ?_ _|refine blk_drew ?_|refine blk_alloc ?_ _));exact BK102.out) hb);have n3_:=Aside0.mk (below_step (by repeat (first|(with_reducible first|exact HB.out|apply below_alloc|apply pw_below_drewN|apply below_drew1|refine below_set ?_ GE101.out|refine below_set ?_ GE102.out)|exact HB.out)) hb);clear BK101;clear BK102;clear HB;have HO105:=n0_;have BK101:=n1_;have BK102:=n2_;have HB:=n3_;clear n0_ n1_ n2_ n3_;(try clear hb);(try clear hb2);(try clear hk);(try clear hi);(try clear ho0))|((with_reducible refine gate_dst (N:=5) rfl ?_);refine box_event ?hg (N:=5) ?hd (cs:=#[.slice none 0 0]) (t:=104) ?hr ?_;(case hd => rfl);(case hg => rfl);(case hr => first|(go_simp;done)|(go_simp;rfl));intro gb111 hg w8 hbox hb;have n0_:=Aside0.mk (Kd.R_below (by (with_reducible repeat (first|apply Kd.R_alloc|apply Kd.R_drewN|apply Kd.R_drew));exact HO105.out) hb);have n1_:=Aside0.mk (blk_below (g:=gb101) (o:=.cells #[.slice none 0 0] 104 (0,0)) (by (with_reducible repeat (first|refine blk_drewN ?_ _|refine blk_drew ?_|refine blk_alloc ?_ _));exact BK101.out) hb);have n2_:=Aside0.mk (blk_below (g:=gb102) (o:=.cells #[.int .i64 0,.bool false,.int .i64 0] 37 (0,0)) (by (with_reducible repeat (first|refine blk_drewN ?_ _|refine blk_drew ?_|refine blk_alloc ?_ _));exact BK102.out) hb);have n3_:=Aside0.mk (below_step (by repeat (first|(with_reducible first|exact HB.out|apply below_alloc|apply pw_below_drewN|apply below_drew1|refine below_set ?_ GE101.out|refine below_set ?_ GE102.out)|exact HB.out)) hb);have n4_:=Aside0.mk (hbox);have n5_:=Aside0.mk ((by rw [hg];exact (below_size (by repeat (first|(with_reducible first|exact HB.out|apply below_alloc|apply pw_below_drewN|apply below_drew1|refine below_set ?_ GE101.out|refine below_set ?_ GE102.out)|exact HB.out))) : w.heap.size ≤ gb111));have n6_:=Aside0.mk ((by rw [hg];exact (below_size (by repeat (first|(with_reducible first|exact HB.out|apply below_alloc|apply pw_below_drewN|apply below_drew1|refine below_set ?_ GE101.out|refine below_set ?_ GE102.out)|exact HB.out))) : w.heap.size ≤ gb111));have n7_:=Aside0.mk ((by rw [hg];exact Nat.ne_of_lt (blk_lt (g:=gb101) (o:=.cells #[.slice none 0 0] 104 (0,0)) (by (with_reducible repeat (first|refine blk_drewN ?_ _|refine blk_drew ?_|refine blk_alloc ?_ _));exact BK101.out)) : gb101 ≠ gb111));have n8_:=Aside0.mk ((by rw [hg];exact Nat.ne_of_gt (blk_lt (g:=gb101) (o:=.cells #[.slice none 0 0] 104 (0,0)) (by (with_reducible repeat (first|refine blk_drewN ?_ _|refine blk_drew ?_|refine blk_alloc ?_ _));exact BK101.out)) : gb111 ≠ gb101));have n9_:=Aside0.mk ((by rw [hg];exact Nat.ne_of_lt (blk_lt (g:=gb102) (o:=.cells #[.int .i64 0,.bool false,.int .i64 0] 37 (0,0)) (by (with_reducible repeat (first|refine blk_drewN ?_ _|refine blk_drew ?_|refine blk_alloc ?_ _));exact BK102.out)) : gb102 ≠ gb111));have n10_:=Aside0.mk ((by rw [hg];exact Nat.ne_of_gt (blk_lt (g:=gb102) (o:=.cells #[.int .i64 0,.bool false,.int .i64 0] 37 (0,0)) (by (with_reducible repeat (first|refine blk_drewN ?_ _|refine blk_drew ?_|refine blk_alloc ?_ _));exact BK102.out)) : gb111 ≠ gb102));clear HO105;clear BK101;clear BK102;clear HB;have HO105:=n0_;have BK101:=n1_;have BK102:=n2_;have HB:=n3_;have BK111:=n4_;have GW111:=n5_;have GE111:=n6_;have NB101_111:=n7_;have NB111_101:=n8_;have NB102_111:=n9_;have NB111_102:=n10_;clear n0_ n1_ n2_ n3_ n4_ n5_ n6_ n7_ n8_ n9_ n10_;clear hb hbox hg)|((with_reducible refine gate_dst (N:=6) rfl ?_);refine box_event ?hg (N:=6) ?hd (cs:=#[.int .i64 0,.bool false,.int .i64 0]) (t:=37) ?hr ?_;(case hd => rfl);(case hg => rfl);(case hr => first|(go_simp;done)|(go_simp;rfl));intro gb112 hg w9 hbox hb;have n0_:=Aside0.mk (Kd.R_below (by (with_reducible repeat (first|apply Kd.R_alloc|apply Kd.R_drewN|apply Kd.R_drew));exact HO105.out) hb);have n1_:=Aside0.mk (blk_below (g:=gb101) (o:=.cells #[.slice none 0 0] 104 (0,0)) (by (with_reducible repeat (first|refine blk_drewN ?_ _|refine blk_drew ?_|refine blk_alloc ?_ _));exact BK101.out) hb);have n2_:=Aside0.mk (blk_below (g:=gb102) (o:=.cells #[.int .i64 0,.bool false,.int .i64 0] 37 (0,0)) (by (with_reducible repeat (first|refine blk_drewN ?_ _|refine blk_drew ?_|refine blk_alloc ?_ _));exact BK102.out) hb);have n3_:=Aside0.mk (blk_below (g:=gb111) (o:=.cells #[.slice none 0 0] 104 (0,0)) (by (with_reducible repeat (first|refine blk_drewN ?_ _|refine blk_drew ?_|refine blk_alloc ?_ _));exact BK111.out) hb);have n4_:=Aside0.mk (below_step (by repeat (first|(with_reducible first|exact HB.out|apply below_alloc|apply pw_below_drewN|apply below_drew1|refine below_set ?_ GE101.out|refine below_set ?_ GE102.out|refine below_set ?_ GE111.out)|exact HB.out)) hb);have n5_:=Aside0.mk (hbox);have n6_:=Aside0.mk ((by rw [hg];exact (below_size (by repeat (first|(with_reducible first|exact HB.out|apply below_alloc|apply pw_below_drewN|apply below_drew1|refine below_set ?_ GE101.out|refine below_set ?_ GE102.out|refine below_set ?_ GE111.out)|exact HB.out))) : w.heap.size ≤ gb112));have n7_:=Aside0.mk ((by rw [hg];exact (below_size (by repeat (first|(with_reducible first|exact HB.out|apply below_alloc|apply pw_below_drewN|apply below_drew1|refine below_set ?_ GE101.out|refine below_set ?_ GE102.out|refine below_set ?_ GE111.out)|exact HB.out))) : w.heap.size ≤ gb112));have n8_:=Aside0.mk ((by rw [hg];exact Nat.ne_of_lt (blk_lt (g:=gb101) (o:=.cells #[.slice none 0 0] 104 (0,0)) (by (with_reducible repeat (first|refine blk_drewN ?_ _|refine blk_drew ?_|refine blk_alloc ?_ _));exact BK101.out)) : gb101 ≠ gb112));have n9_:=Aside0.mk ((by rw [hg];exact Nat.ne_of_gt (blk_lt (g:=gb101) (o:=.cells #[.slice none 0 0] 104 (0,0)) (by (with_reducible repeat (first|refine blk_drewN ?_ _|refine blk_drew ?_|refine blk_alloc ?_ _));exact BK101.out)) : gb112 ≠ gb101));have n10_:=Aside0.mk ((by rw [hg];exact Nat.ne_of_lt (blk_lt (g:=gb102) (o:=.cells #[.int .i64 0,.bool false,.int .i64 0] 37 (0,0)) (by (with_reducible repeat (first|refine blk_drewN ?_ _|refine blk_drew ?_|refine blk_alloc ?_ _));exact BK102.out)) : gb102 ≠ gb112));have n11_:=Aside0.mk ((by rw [hg];exact Nat.ne_of_gt (blk_lt (g:=gb102) (o:=.cells #[.int .i64 0,.bool false,.int .i64 0] 37 (0,0)) (by (with_reducible repeat (first|refine blk_drewN ?_ _|refine blk_drew ?_|refine blk_alloc ?_ _));exact BK102.out)) : gb112 ≠ gb102));have n12_:=Aside0.mk ((by rw [hg];exact Nat.ne_of_lt (blk_lt (g:=gb111) (o:=.cells #[.slice none 0 0] 104 (0,0)) (by (with_reducible repeat (first|refine blk_drewN ?_ _|refine blk_drew ?_|refine blk_alloc ?_ _));exact BK111.out)) : gb111 ≠ gb112));have n13_:=Aside0.mk ((by rw [hg];exact Nat.ne_of_gt (blk_lt (g:=gb111) (o:=.cells #[.slice none 0 0] 104 (0,0)) (by (with_reducible repeat (first|refine blk_drewN ?_ _|refine blk_drew ?_|refine blk_alloc ?_ _));exact BK111.out)) : gb112 ≠ gb111));clear HO105;clear BK101;clear BK102;clear BK111;clear HB;have HO105:=n0_;have BK101:=n1_;have BK102:=n2_;have BK111:=n3_;have HB:=n4_;have BK112:=n5_;have GW112:=n6_;have GE112:=n7_;have NB101_112:=n8_;have NB112_101:=n9_;have NB102_112:=n10_;have NB112_102:=n11_;have NB111_112:=n12_;have NB112_111:=n13_;clear n0_ n1_ n2_ n3_ n4_ n5_ n6_ n7_ n8_ n9_ n10_ n11_ n12_ n13_;clear hb hbox hg)|((with_reducible refine gate_dst (N:=7) rfl ?_);refine box_event ?hg (N:=7) ?hd (cs:=#[.int .i64 0,.int .i64 0]) (t:=39) ?hr ?_;(case hd => rfl);(case hg => rfl);(case hr => first|(go_simp;done)|(go_simp;rfl));intro gb113 hg w10 hbox hb;have n0_:=Aside0.mk (Kd.R_below (by (with_reducible repeat (first|apply Kd.R_alloc|apply Kd.R_drewN|apply Kd.R_drew));exact HO105.out) hb);have n1_:=Aside0.mk (blk_below (g:=gb101) (o:=.cells #[.slice none 0 0] 104 (0,0)) (by (with_reducible repeat (first|refine blk_drewN ?_ _|refine blk_drew ?_|refine blk_alloc ?_ _));exact BK101.out) hb);have n2_:=Aside0.mk (blk_below (g:=gb102) (o:=.cells #[.int .i64 0,.bool false,.int .i64 0] 37 (0,0)) (by (with_reducible repeat (first|refine blk_drewN ?_ _|refine blk_drew ?_|refine blk_alloc ?_ _));exact BK102.out) hb);have n3_:=Aside0.mk (blk_below (g:=gb111) (o:=.cells #[.slice none 0 0] 104 (0,0)) (by (with_reducible repeat (first|refine blk_drewN ?_ _|refine blk_drew ?_|refine blk_alloc ?_ _));exact BK111.out) hb);have n4_:=Aside0.mk (blk_below (g:=gb112) (o:=.cells #[.int .i64 0,.bool false,.int .i64 0] 37 (0,0)) (by (with_reducible repeat (first|refine blk_drewN ?_ _|refine blk_drew ?_|refine blk_alloc ?_ _));exact BK112.out) hb);have n5_:=Aside0.mk (below_step (by repeat (first|(with_reducible first|exact HB.out|apply below_alloc|apply pw_below_drewN|apply below_drew1|refine below_set ?_ GE101.out|refine below_set ?_ GE102.out|refine below_set ?_ GE111.out|refine below_set ?_ GE112.out)|exact HB.out)) hb);have n6_:=Aside0.mk (hbox);have n7_:=Aside0.mk ((by rw [hg];exact (below_size (by repeat (first|(with_reducible first|exact HB.out|apply below_alloc|apply pw_below_drewN|apply below_drew1|refine below_set ?_ GE101.out|refine below_set ?_ GE102.out|refine below_set ?_ GE111.out|refine below_set ?_ GE112.out)|exact HB.out))) : w.heap.size ≤ gb113));have n8_:=Aside0.mk ((by rw [hg];exact (below_size (by repeat (first|(with_reducible first|exact HB.out|apply below_alloc|apply pw_below_drewN|apply below_drew1|refine below_set ?_ GE101.out|refine below_set ?_ GE102.out|refine below_set ?_ GE111.out|refine below_set ?_ GE112.out)|exact HB.out))) : w.heap.size ≤ gb113));have n9_:=Aside0.mk ((by rw [hg];exact Nat.ne_of_lt (blk_lt (g:=gb101) (o:=.cells #[.slice none 0 0] 104 (0,0)) (by (with_reducible repeat (first|refine blk_drewN ?_ _|refine blk_drew ?_|refine blk_alloc ?_ _));exact BK101.out)) : gb101 ≠ gb113));have n10_:=Aside0.mk ((by rw [hg];exact Nat.ne_of_gt (blk_lt (g:=gb101) (o:=.cells #[.slice none 0 0] 104 (0,0)) (by (with_reducible repeat (first|refine blk_drewN ?_ _|refine blk_drew ?_|refine blk_alloc ?_ _));exact BK101.out)) : gb113 ≠ gb101));have n11_:=Aside0.mk ((by rw [hg];exact Nat.ne_of_lt (blk_lt (g:=gb102) (o:=.cells #[.int .i64 0,.bool false,.int .i64 0] 37 (0,0)) (by (with_reducible repeat (first|refine blk_drewN ?_ _|refine blk_drew ?_|refine blk_alloc ?_ _));exact BK102.out)) : gb102 ≠ gb113));have n12_:=Aside0.mk ((by rw [hg];exact Nat.ne_of_gt (blk_lt (g:=gb102) (o:=.cells #[.int .i64 0,.bool false,.int .i64 0] 37 (0,0)) (by (with_reducible repeat (first|refine blk_drewN ?_ _|refine blk_drew ?_|refine blk_alloc ?_ _));exact BK102.out)) : gb113 ≠ gb102));have n13_:=Aside0.mk ((by rw [hg];exact Nat.ne_of_lt (blk_lt (g:=gb111) (o:=.cells #[.slice none 0 0] 104 (0,0)) (by (with_reducible repeat (first|refine blk_drewN ?_ _|refine blk_drew ?_|refine blk_alloc ?_ _));exact BK111.out)) : gb111 ≠ gb113));have n14_:=Aside0.mk ((by rw [hg];exact Nat.ne_of_gt (blk_lt (g:=gb111) (o:=.cells #[.slice none 0 0] 104 (0,0)) (by (with_reducible repeat (first|refine blk_drewN ?_ _|refine blk_drew ?_|refine blk_alloc ?_ _));exact BK111.out)) : gb113 ≠ gb111));have n15_:=Aside0.mk ((by rw [hg];exact Nat.ne_of_lt (blk_lt (g:=gb112) (o:=.cells #[.int .i64 0,.bool false,.int .i64 0] 37 (0,0)) (by (with_reducible repeat (first|refine blk_drewN ?_ _|refine blk_drew ?_|refine blk_alloc ?_ _));exact BK112.out)) : gb112 ≠ gb113));have n16_:=Aside0.mk ((by rw [hg];exact Nat.ne_of_gt (blk_lt (g:=gb112) (o:=.cells #[.int .i64 0,.bool false,.int .i64 0] 37 (0,0)) (by (with_reducible repeat (first|refine blk_drewN ?_ _|refine blk_drew ?_|refine blk_alloc ?_ _));exact BK112.out)) : gb113 ≠ gb112));clear HO105;clear BK101;clear BK102;clear BK111;clear BK112;clear HB;have HO105:=n0_;have BK101:=n1_;have BK102:=n2_;have BK111:=n3_;have BK112:=n4_;have HB:=n5_;have BK113:=n6_;have GW113:=n7_;have GE113:=n8_;have NB101_113:=n9_;have NB113_101:=n10_;have NB102_113:=n11_;have NB113_102:=n12_;have NB111_113:=n13_;have NB113_111:=n14_;have NB112_113:=n15_;have NB113_112:=n16_;clear n0_ n1_ n2_ n3_ n4_ n5_ n6_ n7_ n8_ n9_ n10_ n11_ n12_ n13_ n14_ n15_ n16_;clear hb hbox hg;obtain ⟨Ao11,co11,eo11⟩:=Kd.R_slice HO105.out;subst eo11;have hnb12:=NB111_101.out;have hnc12:=NB101_111.out;have hnb13:=NB111_102.out;have hnc13:=NB102_111.out;have hnb14:=NB111_112.out;have hnc14:=NB112_111.out;have hnb15:=NB111_113.out;have hnc15:=NB113_111.out;have hcz16_0 : w10.cell? ⟨gb111,0,none⟩ = some (.slice none 0 0):=(blk_cell BK111.out 0).trans rfl;have hfz16_0:=blk_frozen BK111.out 0;have hnb17:=NB112_101.out;have hnc17:=NB101_112.out;have hnb18:=NB112_102.out;have hnc18:=NB102_112.out;have hnb19:=NB112_113.out;have hnc19:=NB113_112.out;have hcz20_0 : w10.cell? ⟨gb112,0,none⟩ = some (.int .i64 0):=(blk_cell BK112.out 0).trans rfl;have hcz20_1 : w10.cell? ⟨gb112,1,none⟩ = some (.bool false):=(blk_cell BK112.out 1).trans rfl;have hcz20_2 : w10.cell? ⟨gb112,2,none⟩ = some (.int .i64 0):=(blk_cell BK112.out 2).trans rfl;have hfz20_0:=blk_frozen BK112.out 0;have hfz20_1:=blk_frozen BK112.out 1;have hfz20_2:=blk_frozen BK112.out 2;have hnb21:=NB113_101.out;have hnc21:=NB101_113.out;have hnb22:=NB113_102.out;have hnc22:=NB102_113.out;have hcz23_0 : w10.cell? ⟨gb113,0,none⟩ = some (.int .i64 0):=(blk_cell BK113.out 0).trans rfl;have hcz23_1 : w10.cell? ⟨gb113,1,none⟩ = some (.int .i64 0):=(blk_cell BK113.out 1).trans rfl;have hfz23_0:=blk_frozen BK113.out 0;have hfz23_1:=blk_frozen BK113.out 1)|((with_reducible refine gate_callee (f:=114) rfl ?_);refine goesL_ (some 16) rfl rfl Try.func114 (by kernel_rfl) rfl #[.slice A0 l0.length c0,.int .i64 3] rfl (by (try simp only [List.map_toArray,List.map_cons,List.map_nil]);first|done|rfl|(simp only [List.length_drop,List.length_take];rfl)) ?_;(with_reducible refine (spec_l1Later.calls _ _ l0 3 t114 t115 w _ ?side1 ?side2 ?side3 A3.out).mono ?_);(case side1 => repeat (first|(with_reducible first|exact HB.out|apply below_alloc|apply pw_below_drewN|apply below_drew1|refine below_set ?_ GE101.out|refine below_set ?_ GE102.out|refine below_set ?_ GE111.out|refine below_set ?_ GE112.out|refine below_set ?_ GE113.out)|exact HB.out));(case side2 => exact HR0.out);(case side3 => exact HC0.out);rintro e w24 ⟨g116,rfl,hi,hb,hb2⟩;refine ⟨_,rfl,?_⟩;have n0_:=Aside0.mk (Kd.R_below (by (with_reducible repeat (first|apply Kd.R_alloc|apply Kd.R_drewN|apply Kd.R_drew));exact (Kd.R_mono (Kd.R_mono (Kd.R_mono (Kd.R_far (p:=⟨gb113,1,none⟩) (Kd.R_far (p:=⟨gb113,0,none⟩) (Kd.R_far (p:=⟨gb112,2,none⟩) (Kd.R_far (p:=⟨gb112,1,none⟩) (Kd.R_far (p:=⟨gb112,0,none⟩) (Kd.R_far (p:=⟨gb111,0,none⟩) (Kd.R_types (Kd.R_types (Kd.R_types HO105.out BK111.out (by decide)) BK112.out (by decide)) BK113.out (by decide)) (fun _ hk => hk.1.1.2) (.slice Ao11 t103.length co11)) (fun _ hk => hk.1.2) (.int .i64 t106)) (fun _ hk => hk.1.2) (.bool t107)) (fun _ hk => hk.1.2) (.int .i64 t108)) (fun _ hk => hk.2) (.int .i64 t109)) (fun _ hk => hk.2) (.int .i64 t110)) (fun _ h_ => h_.1)) (fun _ h_ => h_.1)) (fun _ h_ => h_.1))) hb2);have n1_:=Aside0.mk (blk_below (g:=gb101) (o:=.cells #[.slice none 0 0] 104 (0,0)) (by (with_reducible repeat (first|refine blk_drewN ?_ _|refine blk_drew ?_|refine blk_alloc ?_ _));refine blk_far ?_ NB101_113.out _;(with_reducible repeat (first|refine blk_drewN ?_ _|refine blk_drew ?_|refine blk_alloc ?_ _));refine blk_far ?_ NB101_113.out _;(with_reducible repeat (first|refine blk_drewN ?_ _|refine blk_drew ?_|refine blk_alloc ?_ _));refine blk_far ?_ NB101_112.out _;(with_reducible repeat (first|refine blk_drewN ?_ _|refine blk_drew ?_|refine blk_alloc ?_ _));refine blk_far ?_ NB101_112.out _;(with_reducible repeat (first|refine blk_drewN ?_ _|refine blk_drew ?_|refine blk_alloc ?_ _));refine blk_far ?_ NB101_112.out _;(with_reducible repeat (first|refine blk_drewN ?_ _|refine blk_drew ?_|refine blk_alloc ?_ _));refine blk_far ?_ NB101_111.out _;(with_reducible repeat (first|refine blk_drewN ?_ _|refine blk_drew ?_|refine blk_alloc ?_ _));exact BK101.out) hb2);have n2_:=Aside0.mk (blk_below (g:=gb102) (o:=.cells #[.int .i64 0,.bool false,.int .i64 0] 37 (0,0)) (by (with_reducible repeat (first|refine blk_drewN ?_ _|refine blk_drew ?_|refine blk_alloc ?_ _));refine blk_far ?_ NB102_113.out _;(with_reducible repeat (first|refine blk_drewN ?_ _|refine blk_drew ?_|refine blk_alloc ?_ _));refine blk_far ?_ NB102_113.out _;(with_reducible repeat (first|refine blk_drewN ?_ _|refine blk_drew ?_|refine blk_alloc ?_ _));refine blk_far ?_ NB102_112.out _;(with_reducible repeat (first|refine blk_drewN ?_ _|refine blk_drew ?_|refine blk_alloc ?_ _));refine blk_far ?_ NB102_112.out _;(with_reducible repeat (first|refine blk_drewN ?_ _|refine blk_drew ?_|refine blk_alloc ?_ _));refine blk_far ?_ NB102_112.out _;(with_reducible repeat (first|refine blk_drewN ?_ _|refine blk_drew ?_|refine blk_alloc ?_ _));refine blk_far ?_ NB102_111.out _;(with_reducible repeat (first|refine blk_drewN ?_ _|refine blk_drew ?_|refine blk_alloc ?_ _));exact BK102.out) hb2);have n3_:=Aside0.mk (blk_below (g:=gb111) (o:=.cells #[.slice Ao11 t103.length co11] 104 (0,0)) (by (with_reducible repeat (first|refine blk_drewN ?_ _|refine blk_drew ?_|refine blk_alloc ?_ _));refine blk_far ?_ NB111_113.out _;(with_reducible repeat (first|refine blk_drewN ?_ _|refine blk_drew ?_|refine blk_alloc ?_ _));refine blk_far ?_ NB111_113.out _;(with_reducible repeat (first|refine blk_drewN ?_ _|refine blk_drew ?_|refine blk_alloc ?_ _));refine blk_far ?_ NB111_112.out _;(with_reducible repeat (first|refine blk_drewN ?_ _|refine blk_drew ?_|refine blk_alloc ?_ _));refine blk_far ?_ NB111_112.out _;(with_reducible repeat (first|refine blk_drewN ?_ _|refine blk_drew ?_|refine blk_alloc ?_ _));refine blk_far ?_ NB111_112.out _;(with_reducible repeat (first|refine blk_drewN ?_ _|refine blk_drew ?_|refine blk_alloc ?_ _));refine blk_put (cs:=#[.slice none 0 0]) ?_ 0 _ rfl;(with_reducible repeat (first|refine blk_drewN ?_ _|refine blk_drew ?_|refine blk_alloc ?_ _));exact BK111.out) hb2);have n4_:=Aside0.mk (blk_below (g:=gb112) (o:=.cells #[.int .i64 t106,.bool t107,.int .i64 t108] 37 (0,0)) (by (with_reducible repeat (first|refine blk_drewN ?_ _|refine blk_drew ?_|refine blk_alloc ?_ _));refine blk_far ?_ NB112_113.out _;(with_reducible repeat (first|refine blk_drewN ?_ _|refine blk_drew ?_|refine blk_alloc ?_ _));refine blk_far ?_ NB112_113.out _;(with_reducible repeat (first|refine blk_drewN ?_ _|refine blk_drew ?_|refine blk_alloc ?_ _));refine blk_put (cs:=#[.int .i64 t106,.bool t107,.int .i64 0]) ?_ 2 _ rfl;(with_reducible repeat (first|refine blk_drewN ?_ _|refine blk_drew ?_|refine blk_alloc ?_ _));refine blk_put (cs:=#[.int .i64 t106,.bool false,.int .i64 0]) ?_ 1 _ rfl;(with_reducible repeat (first|refine blk_drewN ?_ _|refine blk_drew ?_|refine blk_alloc ?_ _));refine blk_put (cs:=#[.int .i64 0,.bool false,.int .i64 0]) ?_ 0 _ rfl;(with_reducible repeat (first|refine blk_drewN ?_ _|refine blk_drew ?_|refine blk_alloc ?_ _));refine blk_far ?_ NB112_111.out _;(with_reducible repeat (first|refine blk_drewN ?_ _|refine blk_drew ?_|refine blk_alloc ?_ _));exact BK112.out) hb2);have n5_:=Aside0.mk (blk_below (g:=gb113) (o:=.cells #[.int .i64 t109,.int .i64 t110] 39 (0,0)) (by (with_reducible repeat (first|refine blk_drewN ?_ _|refine blk_drew ?_|refine blk_alloc ?_ _));refine blk_put (cs:=#[.int .i64 t109,.int .i64 0]) ?_ 1 _ rfl;(with_reducible repeat (first|refine blk_drewN ?_ _|refine blk_drew ?_|refine blk_alloc ?_ _));refine blk_put (cs:=#[.int .i64 0,.int .i64 0]) ?_ 0 _ rfl;(with_reducible repeat (first|refine blk_drewN ?_ _|refine blk_drew ?_|refine blk_alloc ?_ _));refine blk_far ?_ NB113_112.out _;(with_reducible repeat (first|refine blk_drewN ?_ _|refine blk_drew ?_|refine blk_alloc ?_ _));refine blk_far ?_ NB113_112.out _;(with_reducible repeat (first|refine blk_drewN ?_ _|refine blk_drew ?_|refine blk_alloc ?_ _));refine blk_far ?_ NB113_112.out _;(with_reducible repeat (first|refine blk_drewN ?_ _|refine blk_drew ?_|refine blk_alloc ?_ _));refine blk_far ?_ NB113_111.out _;(with_reducible repeat (first|refine blk_drewN ?_ _|refine blk_drew ?_|refine blk_alloc ?_ _));exact BK113.out) hb2);have n6_:=Aside0.mk (hb);have n7_:=Aside0.mk (hi);have n8_:=Aside0.mk (IsS212.ne_blk hi (blk_below (g:=gb101) (o:=.cells #[.slice none 0 0] 104 (0,0)) (by (with_reducible repeat (first|refine blk_drewN ?_ _|refine blk_drew ?_|refine blk_alloc ?_ _));refine blk_far ?_ NB101_113.out _;(with_reducible repeat (first|refine blk_drewN ?_ _|refine blk_drew ?_|refine blk_alloc ?_ _));refine blk_far ?_ NB101_113.out _;(with_reducible repeat (first|refine blk_drewN ?_ _|refine blk_drew ?_|refine blk_alloc ?_ _));refine blk_far ?_ NB101_112.out _;(with_reducible repeat (first|refine blk_drewN ?_ _|refine blk_drew ?_|refine blk_alloc ?_ _));refine blk_far ?_ NB101_112.out _;(with_reducible repeat (first|refine blk_drewN ?_ _|refine blk_drew ?_|refine blk_alloc ?_ _));refine blk_far ?_ NB101_112.out _;(with_reducible repeat (first|refine blk_drewN ?_ _|refine blk_drew ?_|refine blk_alloc ?_ _));refine blk_far ?_ NB101_111.out _;(with_reducible repeat (first|refine blk_drewN ?_ _|refine blk_drew ?_|refine blk_alloc ?_ _));exact BK101.out) hb2) (by decide));have n9_:=Aside0.mk (Ne.symm (IsS212.ne_blk hi (blk_below (g:=gb101) (o:=.cells #[.slice none 0 0] 104 (0,0)) (by (with_reducible repeat (first|refine blk_drewN ?_ _|refine blk_drew ?_|refine blk_alloc ?_ _));refine blk_far ?_ NB101_113.out _;(with_reducible repeat (first|refine blk_drewN ?_ _|refine blk_drew ?_|refine blk_alloc ?_ _));refine blk_far ?_ NB101_113.out _;(with_reducible repeat (first|refine blk_drewN ?_ _|refine blk_drew ?_|refine blk_alloc ?_ _));refine blk_far ?_ NB101_112.out _;(with_reducible repeat (first|refine blk_drewN ?_ _|refine blk_drew ?_|refine blk_alloc ?_ _));refine blk_far ?_ NB101_112.out _;(with_reducible repeat (first|refine blk_drewN ?_ _|refine blk_drew ?_|refine blk_alloc ?_ _));refine blk_far ?_ NB101_112.out _;(with_reducible repeat (first|refine blk_drewN ?_ _|refine blk_drew ?_|refine blk_alloc ?_ _));refine blk_far ?_ NB101_111.out _;(with_reducible repeat (first|refine blk_drewN ?_ _|refine blk_drew ?_|refine blk_alloc ?_ _));exact BK101.out) hb2) (by decide)));have n10_:=Aside0.mk (IsS212.ne_blk hi (blk_below (g:=gb102) (o:=.cells #[.int .i64 0,.bool false,.int .i64 0] 37 (0,0)) (by (with_reducible repeat (first|refine blk_drewN ?_ _|refine blk_drew ?_|refine blk_alloc ?_ _));refine blk_far ?_ NB102_113.out _;(with_reducible repeat (first|refine blk_drewN ?_ _|refine blk_drew ?_|refine blk_alloc ?_ _));refine blk_far ?_ NB102_113.out _;(with_reducible repeat (first|refine blk_drewN ?_ _|refine blk_drew ?_|refine blk_alloc ?_ _));refine blk_far ?_ NB102_112.out _;(with_reducible repeat (first|refine blk_drewN ?_ _|refine blk_drew ?_|refine blk_alloc ?_ _));refine blk_far ?_ NB102_112.out _;(with_reducible repeat (first|refine blk_drewN ?_ _|refine blk_drew ?_|refine blk_alloc ?_ _));refine blk_far ?_ NB102_112.out _;(with_reducible repeat (first|refine blk_drewN ?_ _|refine blk_drew ?_|refine blk_alloc ?_ _));refine blk_far ?_ NB102_111.out _;(with_reducible repeat (first|refine blk_drewN ?_ _|refine blk_drew ?_|refine blk_alloc ?_ _));exact BK102.out) hb2) (by decide));have n11_:=Aside0.mk (Ne.symm (IsS212.ne_blk hi (blk_below (g:=gb102) (o:=.cells #[.int .i64 0,.bool false,.int .i64 0] 37 (0,0)) (by (with_reducible repeat (first|refine blk_drewN ?_ _|refine blk_drew ?_|refine blk_alloc ?_ _));refine blk_far ?_ NB102_113.out _;(with_reducible repeat (first|refine blk_drewN ?_ _|refine blk_drew ?_|refine blk_alloc ?_ _));refine blk_far ?_ NB102_113.out _;(with_reducible repeat (first|refine blk_drewN ?_ _|refine blk_drew ?_|refine blk_alloc ?_ _));refine blk_far ?_ NB102_112.out _;(with_reducible repeat (first|refine blk_drewN ?_ _|refine blk_drew ?_|refine blk_alloc ?_ _));refine blk_far ?_ NB102_112.out _;(with_reducible repeat (first|refine blk_drewN ?_ _|refine blk_drew ?_|refine blk_alloc ?_ _));refine blk_far ?_ NB102_112.out _;(with_reducible repeat (first|refine blk_drewN ?_ _|refine blk_drew ?_|refine blk_alloc ?_ _));refine blk_far ?_ NB102_111.out _;(with_reducible repeat (first|refine blk_drewN ?_ _|refine blk_drew ?_|refine blk_alloc ?_ _));exact BK102.out) hb2) (by decide)));have n12_:=Aside0.mk (IsS212.ne_blk hi (blk_below (g:=gb111) (o:=.cells #[.slice Ao11 t103.length co11] 104 (0,0)) (by (with_reducible repeat (first|refine blk_drewN ?_ _|refine blk_drew ?_|refine blk_alloc ?_ _));refine blk_far ?_ NB111_113.out _;(with_reducible repeat (first|refine blk_drewN ?_ _|refine blk_drew ?_|refine blk_alloc ?_ _));refine blk_far ?_ NB111_113.out _;(with_reducible repeat (first|refine blk_drewN ?_ _|refine blk_drew ?_|refine blk_alloc ?_ _));refine blk_far ?_ NB111_112.out _;(with_reducible repeat (first|refine blk_drewN ?_ _|refine blk_drew ?_|refine blk_alloc ?_ _));refine blk_far ?_ NB111_112.out _;(with_reducible repeat (first|refine blk_drewN ?_ _|refine blk_drew ?_|refine blk_alloc ?_ _));refine blk_far ?_ NB111_112.out _;(with_reducible repeat (first|refine blk_drewN ?_ _|refine blk_drew ?_|refine blk_alloc ?_ _));refine blk_put (cs:=#[.slice none 0 0]) ?_ 0 _ rfl;(with_reducible repeat (first|refine blk_drewN ?_ _|refine blk_drew ?_|refine blk_alloc ?_ _));exact BK111.out) hb2) (by decide));have n13_:=Aside0.mk (Ne.symm (IsS212.ne_blk hi (blk_below (g:=gb111) (o:=.cells #[.slice Ao11 t103.length co11] 104 (0,0)) (by (with_reducible repeat (first|refine blk_drewN ?_ _|refine blk_drew ?_|refine blk_alloc ?_ _));refine blk_far ?_ NB111_113.out _;(with_reducible repeat (first|refine blk_drewN ?_ _|refine blk_drew ?_|refine blk_alloc ?_ _));refine blk_far ?_ NB111_113.out _;(with_reducible repeat (first|refine blk_drewN ?_ _|refine blk_drew ?_|refine blk_alloc ?_ _));refine blk_far ?_ NB111_112.out _;(with_reducible repeat (first|refine blk_drewN ?_ _|refine blk_drew ?_|refine blk_alloc ?_ _));refine blk_far ?_ NB111_112.out _;(with_reducible repeat (first|refine blk_drewN ?_ _|refine blk_drew ?_|refine blk_alloc ?_ _));refine blk_far ?_ NB111_112.out _;(with_reducible repeat (first|refine blk_drewN ?_ _|refine blk_drew ?_|refine blk_alloc ?_ _));refine blk_put (cs:=#[.slice none 0 0]) ?_ 0 _ rfl;(with_reducible repeat (first|refine blk_drewN ?_ _|refine blk_drew ?_|refine blk_alloc ?_ _));exact BK111.out) hb2) (by decide)));have n14_:=Aside0.mk (IsS212.ne_blk hi (blk_below (g:=gb112) (o:=.cells #[.int .i64 t106,.bool t107,.int .i64 t108] 37 (0,0)) (by (with_reducible repeat (first|refine blk_drewN ?_ _|refine blk_drew ?_|refine blk_alloc ?_ _));refine blk_far ?_ NB112_113.out _;(with_reducible repeat (first|refine blk_drewN ?_ _|refine blk_drew ?_|refine blk_alloc ?_ _));refine blk_far ?_ NB112_113.out _;(with_reducible repeat (first|refine blk_drewN ?_ _|refine blk_drew ?_|refine blk_alloc ?_ _));refine blk_put (cs:=#[.int .i64 t106,.bool t107,.int .i64 0]) ?_ 2 _ rfl;(with_reducible repeat (first|refine blk_drewN ?_ _|refine blk_drew ?_|refine blk_alloc ?_ _));refine blk_put (cs:=#[.int .i64 t106,.bool false,.int .i64 0]) ?_ 1 _ rfl;(with_reducible repeat (first|refine blk_drewN ?_ _|refine blk_drew ?_|refine blk_alloc ?_ _));refine blk_put (cs:=#[.int .i64 0,.bool false,.int .i64 0]) ?_ 0 _ rfl;(with_reducible repeat (first|refine blk_drewN ?_ _|refine blk_drew ?_|refine blk_alloc ?_ _));refine blk_far ?_ NB112_111.out _;(with_reducible repeat (first|refine blk_drewN ?_ _|refine blk_drew ?_|refine blk_alloc ?_ _));exact BK112.out) hb2) (by decide));have n15_:=Aside0.mk (Ne.symm (IsS212.ne_blk hi (blk_below (g:=gb112) (o:=.cells #[.int .i64 t106,.bool t107,.int .i64 t108] 37 (0,0)) (by (with_reducible repeat (first|refine blk_drewN ?_ _|refine blk_drew ?_|refine blk_alloc ?_ _));refine blk_far ?_ NB112_113.out _;(with_reducible repeat (first|refine blk_drewN ?_ _|refine blk_drew ?_|refine blk_alloc ?_ _));refine blk_far ?_ NB112_113.out _;(with_reducible repeat (first|refine blk_drewN ?_ _|refine blk_drew ?_|refine blk_alloc ?_ _));refine blk_put (cs:=#[.int .i64 t106,.bool t107,.int .i64 0]) ?_ 2 _ rfl;(with_reducible repeat (first|refine blk_drewN ?_ _|refine blk_drew ?_|refine blk_alloc ?_ _));refine blk_put (cs:=#[.int .i64 t106,.bool false,.int .i64 0]) ?_ 1 _ rfl;(with_reducible repeat (first|refine blk_drewN ?_ _|refine blk_drew ?_|refine blk_alloc ?_ _));refine blk_put (cs:=#[.int .i64 0,.bool false,.int .i64 0]) ?_ 0 _ rfl;(with_reducible repeat (first|refine blk_drewN ?_ _|refine blk_drew ?_|refine blk_alloc ?_ _));refine blk_far ?_ NB112_111.out _;(with_reducible repeat (first|refine blk_drewN ?_ _|refine blk_drew ?_|refine blk_alloc ?_ _));exact BK112.out) hb2) (by decide)));have n16_:=Aside0.mk (IsS212.ne_blk hi (blk_below (g:=gb113) (o:=.cells #[.int .i64 t109,.int .i64 t110] 39 (0,0)) (by (with_reducible repeat (first|refine blk_drewN ?_ _|refine blk_drew ?_|refine blk_alloc ?_ _));refine blk_put (cs:=#[.int .i64 t109,.int .i64 0]) ?_ 1 _ rfl;(with_reducible repeat (first|refine blk_drewN ?_ _|refine blk_drew ?_|refine blk_alloc ?_ _));refine blk_put (cs:=#[.int .i64 0,.int .i64 0]) ?_ 0 _ rfl;(with_reducible repeat (first|refine blk_drewN ?_ _|refine blk_drew ?_|refine blk_alloc ?_ _));refine blk_far ?_ NB113_112.out _;(with_reducible repeat (first|refine blk_drewN ?_ _|refine blk_drew ?_|refine blk_alloc ?_ _));refine blk_far ?_ NB113_112.out _;(with_reducible repeat (first|refine blk_drewN ?_ _|refine blk_drew ?_|refine blk_alloc ?_ _));refine blk_far ?_ NB113_112.out _;(with_reducible repeat (first|refine blk_drewN ?_ _|refine blk_drew ?_|refine blk_alloc ?_ _));refine blk_far ?_ NB113_111.out _;(with_reducible repeat (first|refine blk_drewN ?_ _|refine blk_drew ?_|refine blk_alloc ?_ _));exact BK113.out) hb2) (by decide));have n17_:=Aside0.mk (Ne.symm (IsS212.ne_blk hi (blk_below (g:=gb113) (o:=.cells #[.int .i64 t109,.int .i64 t110] 39 (0,0)) (by (with_reducible repeat (first|refine blk_drewN ?_ _|refine blk_drew ?_|refine blk_alloc ?_ _));refine blk_put (cs:=#[.int .i64 t109,.int .i64 0]) ?_ 1 _ rfl;(with_reducible repeat (first|refine blk_drewN ?_ _|refine blk_drew ?_|refine blk_alloc ?_ _));refine blk_put (cs:=#[.int .i64 0,.int .i64 0]) ?_ 0 _ rfl;(with_reducible repeat (first|refine blk_drewN ?_ _|refine blk_drew ?_|refine blk_alloc ?_ _));refine blk_far ?_ NB113_112.out _;(with_reducible repeat (first|refine blk_drewN ?_ _|refine blk_drew ?_|refine blk_alloc ?_ _));refine blk_far ?_ NB113_112.out _;(with_reducible repeat (first|refine blk_drewN ?_ _|refine blk_drew ?_|refine blk_alloc ?_ _));refine blk_far ?_ NB113_112.out _;(with_reducible repeat (first|refine blk_drewN ?_ _|refine blk_drew ?_|refine blk_alloc ?_ _));refine blk_far ?_ NB113_111.out _;(with_reducible repeat (first|refine blk_drewN ?_ _|refine blk_drew ?_|refine blk_alloc ?_ _));exact BK113.out) hb2) (by decide)));clear HO105;clear BK101;clear BK102;clear BK111;clear BK112;clear BK113;clear HB;have HO105:=n0_;have BK101:=n1_;have BK102:=n2_;have BK111:=n3_;have BK112:=n4_;have BK113:=n5_;have HB:=n6_;have HI116:=n7_;have NB116_101:=n8_;have NB101_116:=n9_;have NB116_102:=n10_;have NB102_116:=n11_;have NB116_111:=n12_;have NB111_116:=n13_;have NB116_112:=n14_;have NB112_116:=n15_;have NB116_113:=n16_;have NB113_116:=n17_;clear n0_ n1_ n2_ n3_ n4_ n5_ n6_ n7_ n8_ n9_ n10_ n11_ n12_ n13_ n14_ n15_ n16_ n17_;(try clear hb);(try clear hb2);(try clear hk);(try clear hi)))
 have n0_:=Aside0.mk (Kd.R_drew HO105.out)
 have n1_:=Aside0.mk (blk_drew BK101.out)
 have n2_:=Aside0.mk (blk_drew BK102.out)
 have n3_:=Aside0.mk (blk_drew BK111.out)
 have n4_:=Aside0.mk (blk_drew BK112.out)
 have n5_:=Aside0.mk (blk_drew BK113.out)
 have n6_:=Aside0.mk (IsS212.drew HI116.out)
 have n7_:=Aside0.mk (below_drew1 HB.out)
 clear HO105
 clear BK101
 clear BK102
 clear BK111
 clear BK112
 clear BK113
 clear HI116
 clear HB
 have HO105:=n0_
 have BK101:=n1_
 have BK102:=n2_
 have BK111:=n3_
 have BK112:=n4_
 have BK113:=n5_
 have HI116:=n6_
 have HB:=n7_
 clear n0_ n1_ n2_ n3_ n4_ n5_ n6_ n7_
 refine start_ (n:=8) (S:=fun w' => w'.cell? ⟨gb111,0,none⟩ = some (.slice Ao11 t103.length co11) ∧ w'.cell? ⟨gb112,0,none⟩ = some (.int .i64 t106) ∧ w'.cell? ⟨gb112,1,none⟩ = some (.bool t107) ∧ w'.cell? ⟨gb112,2,none⟩ = some (.int .i64 t108)) (ds:=[]) #[false,false,false,false,false,false,false,false] (by kernel_rfl) rfl rfl ⟨(blk_cell BK111.out 0).trans rfl,(blk_cell BK112.out 0).trans rfl,(blk_cell BK112.out 1).trans rfl,(blk_cell BK112.out 2).trans rfl⟩ (fun hHeld => ?_);refine with_tabW spec_DrawLastTop.tab3 spec_DrawLastTop.bits3 (fun HT_ HW_ => ?_)
 generalize w24.drew = w25 at HO105 BK101 BK102 BK111 BK112 BK113 HI116 HB hHeld ⊢
 refine pure_ (i:=2) (N:=some 19) (v:=?_) (a':=?_) #[false,false,true,false,false,false,false,false] rfl rfl (any_of HT_.out (by kernel_rfl)) (fun _ _ _ h => h) (Or.inl ⟨by rfl,?_⟩) ?_ ?_
 rotate_left
 · intro w'
   go_simp
   with_reducible rfl
 rotate_left
 · simp only [Act.put,List.setIfInBounds_toArray,List.set_cons_zero,List.set_cons_succ,i64_w,i32_w]
   rfl
 refine take_ (i:=0) (N:=some 17) (v:=?_) (a':=?_) #[true,false,true,false,false,false,false,false] rfl rfl (take_ofW HT_.out HW_.out (by kernel_rfl)) (fun _ _ _ h => h) (Or.inl ⟨by rfl,?_⟩) hHeld ?_ ?_
 rotate_left
 · rintro w' ⟨s0,s1,s2,s3⟩
   go_simp
   with_reducible rfl
 rotate_left
 · simp only [Act.put,List.setIfInBounds_toArray,List.set_cons_zero,List.set_cons_succ,i64_w,i32_w]
   rfl
 refine take_ (i:=1) (N:=some 18) (v:=?_) (a':=?_) #[true,true,true,false,false,false,false,false] rfl rfl (take_ofW HT_.out HW_.out (by kernel_rfl)) (fun _ _ _ h => h) (Or.inl ⟨by rfl,?_⟩) hHeld ?_ ?_
 rotate_left
 · rintro w' ⟨s0,s1,s2,s3⟩
   go_simp
   with_reducible rfl
 rotate_left
 · simp only [Act.put,List.setIfInBounds_toArray,List.set_cons_zero,List.set_cons_succ,i64_w,i32_w]
   rfl
 refine one_ (i:=3) (N:=some 20) #[true,true,true,true,false,false,false,false] rfl rfl (one_of HT_.out (by kernel_rfl)) (by decide) (fun K hK => ?_)
 refine Kd.R_lit_step (Kd.int .i64) _ 2 ?hg (N:=20) ?hd (xs:=([3,1,20,21,0] : List Int)) (inner:=[.int .i64 3,.int .i64 1,.int .i64 20,.int .i64 21,.int .i64 0]) (ok:=fun _ => True) (okp:=fun _ => True) ?hr ?hp (fun _ hk => hk) trivial (Below.refl _ _) (Nat.le_refl _) (by simp) ?_;(case hd => rfl);(case hg => rfl);(case hr => first|(go_simp;done)|(go_simp;rfl));(case hp => exact (Reps.one (show Kd.M (Kd.int .i64) _ _ _ 3 [.int .i64 3] from rfl) (Reps.one (show Kd.M (Kd.int .i64) _ _ _ 1 [.int .i64 1] from rfl) (Reps.one (show Kd.M (Kd.int .i64) _ _ _ 20 [.int .i64 20] from rfl) (Reps.one (show Kd.M (Kd.int .i64) _ _ _ 21 [.int .i64 21] from rfl) (Reps.one (show Kd.M (Kd.int .i64) _ _ _ 0 [.int .i64 0] from rfl) (Reps.none _ _)))))))
 intro v118 w26 ho27 hb hg_ hnew_
 clear hg_ hnew_
 (first|rw [← Ny117.out] at ho27|(simp only [Int.reduceToNat] at ho27;rw [← Ny117.out] at ho27))
 have n0_:=Aside0.mk (Kd.R_below (by (with_reducible repeat (first|apply Kd.R_alloc|apply Kd.R_drewN|apply Kd.R_drew));exact HO105.out) hb)
 have n1_:=Aside0.mk (Kd.R_lower ho27 (below_size (by repeat (first|(with_reducible first|exact HB.out|apply below_alloc|apply pw_below_drewN|apply below_drew1|refine below_set ?_ (IsS212.ge HI116.out)|refine below_set ?_ GE101.out|refine below_set ?_ GE102.out|refine below_set ?_ GE111.out|refine below_set ?_ GE112.out|refine below_set ?_ GE113.out)|exact HB.out))))
 have n2_:=Aside0.mk (blk_below (g:=gb101) (o:=.cells #[.slice none 0 0] 104 (0,0)) (by (with_reducible repeat (first|refine blk_drewN ?_ _|refine blk_drew ?_|refine blk_alloc ?_ _));exact BK101.out) hb)
 have n3_:=Aside0.mk (blk_below (g:=gb102) (o:=.cells #[.int .i64 0,.bool false,.int .i64 0] 37 (0,0)) (by (with_reducible repeat (first|refine blk_drewN ?_ _|refine blk_drew ?_|refine blk_alloc ?_ _));exact BK102.out) hb)
 have n4_:=Aside0.mk (blk_below (g:=gb111) (o:=.cells #[.slice Ao11 t103.length co11] 104 (0,0)) (by (with_reducible repeat (first|refine blk_drewN ?_ _|refine blk_drew ?_|refine blk_alloc ?_ _));exact BK111.out) hb)
 have n5_:=Aside0.mk (blk_below (g:=gb112) (o:=.cells #[.int .i64 t106,.bool t107,.int .i64 t108] 37 (0,0)) (by (with_reducible repeat (first|refine blk_drewN ?_ _|refine blk_drew ?_|refine blk_alloc ?_ _));exact BK112.out) hb)
 have n6_:=Aside0.mk (blk_below (g:=gb113) (o:=.cells #[.int .i64 t109,.int .i64 t110] 39 (0,0)) (by (with_reducible repeat (first|refine blk_drewN ?_ _|refine blk_drew ?_|refine blk_alloc ?_ _));exact BK113.out) hb)
 have n7_:=Aside0.mk (IsS212.below (by repeat (first|(with_reducible first|exact HI116.out|apply IsS212.alloc|apply IsS212.drewN|apply IsS212.drew|apply IsS212.set_1|refine IsS212.far ?_ NB116_101.out _|refine IsS212.far ?_ NB116_102.out _|refine IsS212.far ?_ NB116_111.out _|refine IsS212.far ?_ NB116_112.out _|refine IsS212.far ?_ NB116_113.out _)|exact HI116.out)) hb)
 have n8_:=Aside0.mk (below_step (by repeat (first|(with_reducible first|exact HB.out|apply below_alloc|apply pw_below_drewN|apply below_drew1|refine below_set ?_ (IsS212.ge HI116.out)|refine below_set ?_ GE101.out|refine below_set ?_ GE102.out|refine below_set ?_ GE111.out|refine below_set ?_ GE112.out|refine below_set ?_ GE113.out)|exact HB.out)) hb)
 clear HO105
 clear BK101
 clear BK102
 clear BK111
 clear BK112
 clear BK113
 clear HI116
 clear HB
 have HO105:=n0_
 have HO119:=n1_
 have BK101:=n2_
 have BK102:=n3_
 have BK111:=n4_
 have BK112:=n5_
 have BK113:=n6_
 have HI116:=n7_
 have HB:=n8_
 clear n0_ n1_ n2_ n3_ n4_ n5_ n6_ n7_ n8_
 clear hb ho27
 obtain ⟨Ao28,co28,eo28⟩:=Kd.R_slice HO119.out
 (first|subst eo28|(injection eo28 with f1_ f2_ f3_;have f4_:=f1_.symm;have f5_:=f3_.symm;clear f1_ f2_ f3_;subst f4_;subst f5_))
 refine hK.out _ _ ⟨(blk_cell BK111.out 0).trans rfl,(blk_cell BK112.out 0).trans rfl,(blk_cell BK112.out 1).trans rfl,(blk_cell BK112.out 2).trans rfl⟩ (fun hHeld => ?_)
 clear hK K
 refine norm_ (a':=?_) ?_ ?_
 rotate_left
 · show Act.put _ (some 20) _ = _
   simp only [Act.put,List.setIfInBounds_toArray,List.set_cons_zero,List.set_cons_succ,i64_w,i32_w]
   rfl
 refine one_ (i:=4) (N:=some 21) #[true,true,true,true,true,false,false,false] rfl rfl (one_of HT_.out (by kernel_rfl)) (by decide) (fun K hK => ?_)
 refine goes_ Try.func115 (by kernel_rfl) rfl #[.pointer (some ⟨g116,0,none⟩),.slice Ao28 y117.length co28] (by rfl) rfl rfl (by (try simp only [List.map_toArray,List.map_cons,List.map_nil]);first|done|rfl|(simp only [List.length_drop,List.length_take];rfl)) ?_
 with_reducible refine (spec_l1Pick.calls g116 t114 t115 _ _ y117 t120 t121 w _ ?side1 ?side2 ?side3 ?side4 ?side5 A4.out).mono ?_
 (case side1 => repeat (first|(with_reducible first|exact HI116.out|apply IsS212.alloc|apply IsS212.drewN|apply IsS212.drew|apply IsS212.set_1|refine IsS212.far ?_ NB116_101.out _|refine IsS212.far ?_ NB116_102.out _|refine IsS212.far ?_ NB116_111.out _|refine IsS212.far ?_ NB116_112.out _|refine IsS212.far ?_ NB116_113.out _)|exact HI116.out))
 (case side2 => repeat (first|(with_reducible first|exact HB.out|apply below_alloc|apply pw_below_drewN|apply below_drew1|refine below_set ?_ (IsS212.ge HI116.out)|refine below_set ?_ GE101.out|refine below_set ?_ GE102.out|refine below_set ?_ GE111.out|refine below_set ?_ GE112.out|refine below_set ?_ GE113.out)|exact HB.out))
 (case side3 => repeat (first|exact (Kd.R_reads' HO119.out).2.2|(with_reducible refine Kd.C_alloc ?_ _)|(with_reducible refine Kd.C_drewN ?_ _)|(with_reducible refine Kd.C_drew ?_)))
 (case side4 => exact (Kd.R_reads' HO119.out).2.1)
 (case side5 => exact far_slice (IsS212.own_ne HI116.out HO119.out (by decide)))
 rintro e w29 ⟨rfl,hi,hb,hk⟩
 refine ⟨_,rfl,?_⟩
 have n0_:=Aside0.mk (KeepBut.blk hk (g':=gb101) (o:=.cells #[.slice none 0 0] 104 (0,0)) (by (with_reducible repeat (first|refine blk_drewN ?_ _|refine blk_drew ?_|refine blk_alloc ?_ _));exact BK101.out) NB101_116.out (by simp))
 have n1_:=Aside0.mk (KeepBut.blk hk (g':=gb102) (o:=.cells #[.int .i64 0,.bool false,.int .i64 0] 37 (0,0)) (by (with_reducible repeat (first|refine blk_drewN ?_ _|refine blk_drew ?_|refine blk_alloc ?_ _));exact BK102.out) NB102_116.out (by simp))
 have n2_:=Aside0.mk (Kd.R_mono (Kd.R_keep (IsS212.apart (show IsS212 w _ g116 t114 t115 from by repeat (first|(with_reducible first|exact HI116.out|apply IsS212.alloc|apply IsS212.drewN|apply IsS212.drew|apply IsS212.set_1|refine IsS212.far ?_ NB116_101.out _|refine IsS212.far ?_ NB116_102.out _|refine IsS212.far ?_ NB116_111.out _|refine IsS212.far ?_ NB116_112.out _|refine IsS212.far ?_ NB116_113.out _)|exact HI116.out)) (by (with_reducible repeat (first|apply Kd.R_alloc|apply Kd.R_drewN|apply Kd.R_drew));exact HO105.out) (by decide)) hk (fun _ h => h.2)) (fun _ h => h.1))
 have n3_:=Aside0.mk (KeepBut.blk hk (g':=gb111) (o:=.cells #[.slice Ao11 t103.length co11] 104 (0,0)) (by (with_reducible repeat (first|refine blk_drewN ?_ _|refine blk_drew ?_|refine blk_alloc ?_ _));exact BK111.out) NB111_116.out (by simp))
 have n4_:=Aside0.mk (KeepBut.blk hk (g':=gb112) (o:=.cells #[.int .i64 t106,.bool t107,.int .i64 t108] 37 (0,0)) (by (with_reducible repeat (first|refine blk_drewN ?_ _|refine blk_drew ?_|refine blk_alloc ?_ _));exact BK112.out) NB112_116.out (by simp))
 have n5_:=Aside0.mk (KeepBut.blk hk (g':=gb113) (o:=.cells #[.int .i64 t109,.int .i64 t110] 39 (0,0)) (by (with_reducible repeat (first|refine blk_drewN ?_ _|refine blk_drew ?_|refine blk_alloc ?_ _));exact BK113.out) NB113_116.out (by simp))
 have n6_:=Aside0.mk (Kd.R_mono (Kd.R_keep (IsS212.apart (show IsS212 w _ g116 t114 t115 from by repeat (first|(with_reducible first|exact HI116.out|apply IsS212.alloc|apply IsS212.drewN|apply IsS212.drew|apply IsS212.set_1|refine IsS212.far ?_ NB116_101.out _|refine IsS212.far ?_ NB116_102.out _|refine IsS212.far ?_ NB116_111.out _|refine IsS212.far ?_ NB116_112.out _|refine IsS212.far ?_ NB116_113.out _)|exact HI116.out)) (by (with_reducible repeat (first|apply Kd.R_alloc|apply Kd.R_drewN|apply Kd.R_drew));exact HO119.out) (by decide)) hk (fun _ h => h.2)) (fun _ h => h.1))
 have n7_:=Aside0.mk (hb)
 have n8_:=Aside0.mk (hi)
 clear BK101
 clear BK102
 clear HO105
 clear BK111
 clear BK112
 clear BK113
 clear HO119
 clear HB
 clear HI116
 have BK101:=n0_
 have BK102:=n1_
 have HO105:=n2_
 have BK111:=n3_
 have BK112:=n4_
 have BK113:=n5_
 have HO119:=n6_
 have HB:=n7_
 have HI116:=n8_
 clear n0_ n1_ n2_ n3_ n4_ n5_ n6_ n7_ n8_
 (try clear hb)
 (try clear hb2)
 (try clear hk)
 (try clear hi)
 refine hK.out _ _ ⟨(blk_cell BK111.out 0).trans rfl,(blk_cell BK112.out 0).trans rfl,(blk_cell BK112.out 1).trans rfl,(blk_cell BK112.out 2).trans rfl⟩ (fun hHeld => ?_)
 clear hK K
 refine norm_ (a':=?_) ?_ ?_
 rotate_left
 · show Act.put _ (some 21) _ = _
   simp only [Act.put,List.setIfInBounds_toArray,List.set_cons_zero,List.set_cons_succ,i64_w,i32_w]
   rfl
 refine one_ (i:=5) (N:=none) #[true,true,true,true,true,true,false,false] rfl rfl (one_of HT_.out (by kernel_rfl)) (by decide) (fun K hK => ?_)
 have hs30 : w29.cell? ⟨gb101,0,none⟩ = some (.slice none 0 0):=(blk_cell BK101.out 0).trans rfl
 have hfs30:=blk_frozen BK101.out 0
 have hns30_1:=NB102_101.out
 have hns30_2:=NB111_101.out
 have hns30_3:=NB112_101.out
 have hns30_4:=NB113_101.out
 have hms30_1:=NB101_102.out
 have hms30_2:=NB101_111.out
 have hms30_3:=NB101_112.out
 have hms30_4:=NB101_113.out
 refine skip_ (w1:=?_) (by rfl) rfl ?_ ?_
 rotate_left
 · go_simp
   rfl
 refine hK.out _ _ ⟨((cell_far (p:=⟨gb101,_,none⟩) NB111_101.out _).trans (hHeld.1)),((cell_far (p:=⟨gb101,_,none⟩) NB112_101.out _).trans (hHeld.2.1)),((cell_far (p:=⟨gb101,_,none⟩) NB112_101.out _).trans (hHeld.2.2.1)),((cell_far (p:=⟨gb101,_,none⟩) NB112_101.out _).trans (hHeld.2.2.2))⟩ (fun hHeld => ?_)
 clear hK K
 refine one_ (i:=6) (N:=none) #[true,true,true,true,true,true,true,false] rfl rfl (one_of HT_.out (by kernel_rfl)) (by decide) (fun K hK => ?_)
 have hs31 : w29.cell? ⟨gb102,0,none⟩ = some (.int .i64 0):=(blk_cell BK102.out 0).trans rfl
 have hfs31:=blk_frozen BK102.out 0
 have hns31_0:=NB101_102.out
 have hns31_2:=NB111_102.out
 have hns31_3:=NB112_102.out
 have hns31_4:=NB113_102.out
 have hms31_0:=NB102_101.out
 have hms31_2:=NB102_111.out
 have hms31_3:=NB102_112.out
 have hms31_4:=NB102_113.out
 have hs32 : w29.cell? ⟨gb102,1,none⟩ = some (.bool false):=(blk_cell BK102.out 1).trans rfl
 have hfs32:=blk_frozen BK102.out 1
 have hns32_0:=NB101_102.out
 have hns32_2:=NB111_102.out
 have hns32_3:=NB112_102.out
 have hns32_4:=NB113_102.out
 have hms32_0:=NB102_101.out
 have hms32_2:=NB102_111.out
 have hms32_3:=NB102_112.out
 have hms32_4:=NB102_113.out
 have hs33 : w29.cell? ⟨gb102,2,none⟩ = some (.int .i64 0):=(blk_cell BK102.out 2).trans rfl
 have hfs33:=blk_frozen BK102.out 2
 have hns33_0:=NB101_102.out
 have hns33_2:=NB111_102.out
 have hns33_3:=NB112_102.out
 have hns33_4:=NB113_102.out
 have hms33_0:=NB102_101.out
 have hms33_2:=NB102_111.out
 have hms33_3:=NB102_112.out
 have hms33_4:=NB102_113.out
 refine skip_ (w1:=?_) (by rfl) rfl ?_ ?_
 rotate_left
 · go_simp
   rfl
 refine hK.out _ _ ⟨((cell_far (p:=⟨gb102,_,none⟩) NB111_102.out _).trans (((cell_far (p:=⟨gb102,_,none⟩) NB111_102.out _).trans (((cell_far (p:=⟨gb102,_,none⟩) NB111_102.out _).trans (hHeld.1)))))),((cell_far (p:=⟨gb102,_,none⟩) NB112_102.out _).trans (((cell_far (p:=⟨gb102,_,none⟩) NB112_102.out _).trans (((cell_far (p:=⟨gb102,_,none⟩) NB112_102.out _).trans (hHeld.2.1)))))),((cell_far (p:=⟨gb102,_,none⟩) NB112_102.out _).trans (((cell_far (p:=⟨gb102,_,none⟩) NB112_102.out _).trans (((cell_far (p:=⟨gb102,_,none⟩) NB112_102.out _).trans (hHeld.2.2.1)))))),((cell_far (p:=⟨gb102,_,none⟩) NB112_102.out _).trans (((cell_far (p:=⟨gb102,_,none⟩) NB112_102.out _).trans (((cell_far (p:=⟨gb102,_,none⟩) NB112_102.out _).trans (hHeld.2.2.2))))))⟩ (fun hHeld => ?_)
 clear hK K
 refine pure_ (i:=7) (N:=some 4) (v:=?_) (a':=?_) #[true,true,true,true,true,true,true,true] rfl rfl (any_of HT_.out (by kernel_rfl)) (fun _ _ _ h => h) (Or.inl ⟨by rfl,?_⟩) ?_ ?_
 rotate_left
 · intro w'
   go_simp
   with_reducible rfl
 rotate_left
 · simp only [Act.put,List.setIfInBounds_toArray,List.set_cons_zero,List.set_cons_succ,i64_w,i32_w]
   rfl
 refine done_ (done_of HT_.out (by kernel_rfl)) ?_
 try go_wp2
 refine bodyPost_ret (results_list (rs:=[.cell 2 104,.cell 3 37,.tmp 4]) rfl (by simp) (.cell gb101 104 #[.slice Ao11 t103.length co11] (0,0) _ rfl (by (with_reducible repeat (first|refine blk_drewN ?_ _|refine blk_drew ?_|refine blk_alloc ?_ _));refine blk_far ?_ NB101_102.out _;(with_reducible repeat (first|refine blk_drewN ?_ _|refine blk_drew ?_|refine blk_alloc ?_ _));refine blk_far ?_ NB101_102.out _;(with_reducible repeat (first|refine blk_drewN ?_ _|refine blk_drew ?_|refine blk_alloc ?_ _));refine blk_far ?_ NB101_102.out _;(with_reducible repeat (first|refine blk_drewN ?_ _|refine blk_drew ?_|refine blk_alloc ?_ _));refine blk_put (cs:=#[.slice none 0 0]) ?_ 0 _ rfl;(with_reducible repeat (first|refine blk_drewN ?_ _|refine blk_drew ?_|refine blk_alloc ?_ _));exact BK101.out) Try.underlying104 rfl (by kernel_rfl) (.cell gb102 37 #[.int .i64 t106,.bool t107,.int .i64 t108] (0,0) _ rfl (by (with_reducible repeat (first|refine blk_drewN ?_ _|refine blk_drew ?_|refine blk_alloc ?_ _));refine blk_put (cs:=#[.int .i64 t106,.bool t107,.int .i64 0]) ?_ 2 _ rfl;(with_reducible repeat (first|refine blk_drewN ?_ _|refine blk_drew ?_|refine blk_alloc ?_ _));refine blk_put (cs:=#[.int .i64 t106,.bool false,.int .i64 0]) ?_ 1 _ rfl;(with_reducible repeat (first|refine blk_drewN ?_ _|refine blk_drew ?_|refine blk_alloc ?_ _));refine blk_put (cs:=#[.int .i64 0,.bool false,.int .i64 0]) ?_ 0 _ rfl;(with_reducible repeat (first|refine blk_drewN ?_ _|refine blk_drew ?_|refine blk_alloc ?_ _));refine blk_far ?_ NB102_101.out _;(with_reducible repeat (first|refine blk_drewN ?_ _|refine blk_drew ?_|refine blk_alloc ?_ _));exact BK102.out) Try.underlying37 rfl (by kernel_rfl) (.tmp .nil)))) rfl ?_
 exact ⟨_,by first|rfl|(simp [errW_none,errW_some] <;> rfl)|(simp [*,errW_none,errW_some] <;> rfl),by (with_reducible repeat (first|apply Kd.R_alloc|apply Kd.R_drewN|apply Kd.R_drew));exact Kd.R_mono (Kd.R_far (p:=⟨gb102,2,none⟩) (Kd.R_far (p:=⟨gb102,1,none⟩) (Kd.R_far (p:=⟨gb102,0,none⟩) (Kd.R_far (p:=⟨gb101,0,none⟩) (Kd.R_types (Kd.R_types HO105.out BK101.out (by decide)) BK102.out (by decide)) (fun _ hk => hk.1.2) (.slice Ao11 t103.length co11)) (fun _ hk => hk.2) (.int .i64 t106)) (fun _ hk => hk.2) (.bool t107)) (fun _ hk => hk.2) (.int .i64 t108)) (fun _ hk => trivial),by repeat (first|(with_reducible first|exact HB.out|apply below_alloc|apply pw_below_drewN|apply below_drew1|refine below_set ?_ (IsS212.ge HI116.out)|refine below_set ?_ GE101.out|refine below_set ?_ GE102.out|refine below_set ?_ GE111.out|refine below_set ?_ GE112.out|refine below_set ?_ GE113.out)|exact HB.out)⟩
end Go.Proofs.Ytjnmhpldabbeiaa.Q
end
section
namespace Go.Proofs.Ytjnmhpldabbeiaa.Q
open Go.RowKit Go.Proofs.YtjnmhpldabbeiaaW.PrintWords Go.Proofs.YtjnmhpldabbeiaaW.PrintLast Go.Proofs.YtjnmhpldabbeiaaW.PrintMore Go.Proofs.Ytjnmhpldabbeiaa.L
theorem l10Bent_ex {l : List Int} (hc : CodeOk l) {a : Int} (ha : 0 ≤ a ∧ a ≤ 1800000000) : ∃ wd ch sh a', spec_l10Bent.f l a = some (wd, ch, sh, a') ∧ a ≤ a' ∧ a' ≤ a + 6 := by
  obtain ⟨p, ep, _⟩ := l1Pick_ex hc (a := a) (by omega) [4, 3, 6, 1, 40] (by decide) (by decide)
  obtain ⟨b, eb⟩ := l1Chance_ex hc (a := a + 1) (n := 3) (by omega) (by omega)
  have hd : ∃ sh a1, spec_l10Draw.f l a = some (p, b, sh, a1) ∧ a ≤ a1 ∧ a1 ≤ a + 3 := by
    unfold spec_l10Draw.f
    rw [ep]
    simp only [Option.bind_some]
    rw [eb]
    simp only [Option.bind_some]
    cases b with
    | true =>
      obtain ⟨q, eq, _⟩ := l1Pick_ex hc (a := a + 1 + 1) (by omega) [0, 2, 5] (by decide) (by decide)
      exact ⟨q, a + 1 + 1 + 1, by rw [if_pos rfl, eq]; rfl, by omega, by omega⟩
    | false => exact ⟨0, a + 1 + 1, by rw [if_neg (by simp)], by omega, by omega⟩
  obtain ⟨sh, a1, ed, d0, d1⟩ := hd
  obtain ⟨v, en, _⟩ := l1Next_ex hc (a := a1) (n := 12) (by omega) (by omega)
  unfold spec_l10Bent.f
  rw [ed]
  simp only [Option.bind_some]
  rw [en]
  simp only [Option.bind_some]
  by_cases h0 : v = 0
  · obtain ⟨q, eq, _⟩ := l1Pick_ex hc (a := a1 + 1) (by omega) [0, 41] (by decide) (by decide)
    exact ⟨_, _, _, _, by rw [if_pos h0, eq]; rfl, by omega, by omega⟩
  · by_cases h1 : v = 1
    · obtain ⟨q, eq, _⟩ := l1Pick_ex hc (a := a1 + 1) (by omega) [-1, 400, 401, 3] (by decide) (by decide)
      exact ⟨_, _, _, _, by rw [if_neg h0, if_pos h1, eq]; rfl, by omega, by omega⟩
    · exact ⟨_, _, _, _, by rw [if_neg h0, if_neg h1], by omega, by omega⟩
theorem BytL.zeros' (n : Nat) : BytL (List.replicate n 0) := by
  intro x hx
  rw [List.eq_of_mem_replicate hx]
  decide
theorem l2Draw_loop {l : List Int} (hc : CodeOk l) : ∀ (n : Nat) (out : List Int) (a : Int), out.length + 40 * n ≤ 100000 → 0 ≤ a → a + 100 * n ≤ 1000000000 → BytL out →
    ∃ bs a', Ev (fun k => spec_l2Draw.l0 k out (n : Int) l a) (bs, a') ∧ a ≤ a' ∧ a' ≤ a + 100 * n + 100 ∧ bs.length ≤ out.length + 40 * n + 40 ∧ BytL bs
  | 0, out, a, ho, h0, h1, hb => by
    obtain ⟨b, eb⟩ := l1Chance_ex hc (a := a) (n := 2) (by omega) (by omega)
    cases b with
    | true =>
      obtain ⟨cs, a2, f, f0, f1, f2, f3⟩ := l1Line_ex hc (a := a + 1) 6 (by omega) (by omega) (by omega)
      refine ⟨out ++ cs, a2, Ev.succ ?_, by omega, by omega, by rw [List.length_append]; omega, hb.append f3⟩
      simp only [spec_l2Draw.l0]
      exact Ev.neg (by omega) (Ev.bind0 eb (Ev.pos rfl (Ev.bind f (Ev.pos (by simp only; omega) (Ev.now _)))))
    | false =>
      refine ⟨out, a + 1, Ev.succ ?_, by omega, by omega, by omega, hb⟩
      simp only [spec_l2Draw.l0]
      exact Ev.neg (by omega) (Ev.bind0 eb (Ev.neg (by simp) (Ev.now _)))
  | n + 1, out, a, ho, h0, h1, hb => by
    obtain ⟨bs, a1, e, e0, e1, e2, e3⟩ := l1Line_ex hc (a := a) 10 (by omega) (by omega) (by omega)
    obtain ⟨cs, a2, f, f0, f1, f2, f3⟩ := l2Draw_loop hc n (out ++ bs ++ [10]) a1 (by simp only [List.length_append, List.length_singleton]; omega) (by omega) (by omega) ((hb.append e3).append (BytL.cons (by decide) (by decide) BytL.nil))
    simp only [List.length_append, List.length_singleton] at f2
    refine ⟨cs, a2, Ev.succ ?_, by omega, by omega, by omega, f3⟩
    simp only [spec_l2Draw.l0]
    refine Ev.pos (by omega) (Ev.bind e (Ev.pos (by simp only; omega) ?_))
    simp only [Option.bind_some]
    refine Ev.pos (by rw [List.length_append]; omega) ?_
    rw [w64 (by omega) (by omega), show ((n + 1 : Nat) : Int) - 1 = (n : Int) by omega]
    exact f
theorem l2Bent_ex {l : List Int} (hc : CodeOk l) {a : Int} (ha : 0 ≤ a ∧ a ≤ 100000000) : ∃ bs a', Ev (fun k => spec_l2Bent.f k l a) (bs, a') ∧ a ≤ a' ∧ a' ≤ a + 1000 ∧ bs.length ≤ 1000 ∧ BytL bs := by
  obtain ⟨b, e⟩ := l1Chance_ex hc (a := a) (n := 20) (by omega) (by omega)
  unfold spec_l2Bent.f
  cases b with
  | true =>
    obtain ⟨p, ep, hp⟩ := l1Pick_ex hc (a := a + 1) (by omega) [400, 401] (by decide) (by decide)
    have hp2 : p = 400 ∨ p = 401 := by simpa using hp
    refine ⟨List.replicate p.toNat 0, a + 1 + 1, Ev.bind0 e (Ev.pos rfl (Ev.bind0 ep (Ev.pos (by simp only; omega) (Ev.pos (by simp only; omega) (Ev.now _))))), by omega, by omega, by rw [List.length_replicate]; omega, BytL.zeros' _⟩
  | false =>
    obtain ⟨v, en, v0, v1, _⟩ := l1Next_ex hc (a := a + 1) (n := 7) (by omega) (by omega)
    have v1 := v1 (by omega)
    obtain ⟨m, rfl⟩ : ∃ m : Nat, v = m := ⟨v.toNat, by omega⟩
    obtain ⟨bs, a', f, f0, f1, f2, f3⟩ := l2Draw_loop hc m [] (a + 1 + 1) (by simp; omega) (by omega) (by omega) BytL.nil
    simp only [List.length_nil] at f2
    refine ⟨bs, a', Ev.bind0 e (Ev.neg (by simp) (Ev.bind (a := (bs, a')) ?_ (Ev.now _))), by omega, by omega, by omega, f3⟩
    unfold spec_l2Draw.f
    exact Ev.bind0 en f
theorem tl_ex {l : List Int} (hc : CodeOk l) {a : Int} (ha : 0 ≤ a ∧ a ≤ 1000000000) (bs : List Int) (wd : Int) (ch : Bool) (sh : Int) : ∃ p q, spec_l10With.tl l bs wd ch sh a = some (bs, wd, ch, sh, p, q) := by
  obtain ⟨x, ex, _⟩ := l1Next_ex hc (a := a) (n := 4) (by omega) (by omega)
  obtain ⟨y, ey, _⟩ := l1Next_ex hc (a := a + 1) (n := 3) (by omega) (by omega)
  exact ⟨_, _, by unfold spec_l10With.tl; rw [ex]; simp only [Option.bind_some]; rw [ey]; rfl⟩
theorem lineOk_bytF {l : List Int} (h : l.length ≤ 1048576) (hb : BytL l) : M.lineOk l = true := by
  simp only [M.lineOk, Bool.and_eq_true, List.all_eq_true, decide_eq_true_eq]
  exact ⟨h, hb⟩
theorem l10With_ex {l : List Int} (hc : CodeOk l) : ∃ bs wd ch sh p q, Ev (fun k => spec_l10With.f k l) (bs, wd, ch, sh, p, q) ∧ bs.length ≤ 1000 ∧ M.lineOk bs = true := by
  obtain ⟨bs, a1, e1, _, _, hn, hb⟩ := l2Bent_ex hc (a := 0) (by omega)
  obtain ⟨wd, ch, sh, a2, e2, _, _⟩ := l10Bent_ex hc (a := a1) (by omega)
  have ho := lineOk_bytF (by omega) hb
  unfold spec_l10With.f
  by_cases hz : M.baseF bs.length wd ch sh = 0
  · obtain ⟨_, hlay⟩ := M.baseF_zero hz
    obtain ⟨w1, w2, _⟩ := layF_zero hlay
    obtain ⟨c, ec⟩ := l1Chance_ex hc (a := a2) (n := 10) (by omega) (by omega)
    cases c with
    | true =>
      obtain ⟨p, q, et⟩ := tl_ex hc (a := a2 + 1) (by omega) bs wd ch sh
      exact ⟨bs, wd, ch, sh, p, q, Ev.bind e1 (Ev.bind0 e2 (Ev.pos ho (Ev.pos hz (Ev.bind0 ec (Ev.pos rfl (Ev.one et)))))), hn, ho⟩
    | false =>
      obtain ⟨m, em, m0, m1, _⟩ := l1Next_ex hc (a := a2 + 1) (n := 20) (by omega) (by omega)
      have m1 := m1 (by omega)
      have hcs := cntOk (M.lineOk_len ho) ch w1
      have hs : M.spotInF (M.cntL bs wd ch) 0 0 = 0 := by
        unfold M.spotInF
        by_cases h0 : (M.cntL bs wd ch).length = 0
        · rw [if_pos h0, if_pos ⟨rfl, rfl⟩]
        · have hlt : 0 < (M.cntL bs wd ch).length := by omega
          have := hcs.pos _ (List.getElem_mem hlt)
          have hr : rd (M.cntL bs wd ch) 0 = (M.cntL bs wd ch)[0] := rd_nat _ 0 hlt
          rw [if_neg h0, if_pos ⟨⟨by omega, by omega⟩, by omega, by rw [hr]; omega⟩]
      exact ⟨bs, wd, ch, sh, (movF (M.cntL bs wd ch) 0 0 m).1, (movF (M.cntL bs wd ch) 0 0 m).2, Ev.bind e1 (Ev.bind0 e2 (Ev.pos ho (Ev.pos hz (Ev.bind0 ec (Ev.neg (by simp) (Ev.bind0 em (Ev.bind (s_mov hcs hs m (by omega)) (Ev.now _)))))))), hn, ho⟩
  · obtain ⟨p, q, et⟩ := tl_ex hc (a := a2) (by omega) bs wd ch sh
    exact ⟨bs, wd, ch, sh, p, q, Ev.bind e1 (Ev.bind0 e2 (Ev.pos ho (Ev.neg hz (Ev.one et)))), hn, ho⟩
theorem drawLast_ex {l : List Int} (hc : CodeOk l) : ∃ bs wd ch sh t, Ev (fun k => spec_DrawLastTop.f k l) (bs, wd, ch, sh, t) ∧ bs.length ≤ 1000 ∧ M.lineOk bs = true := by
  obtain ⟨bs, wd, ch, sh, p, q, e, hn, ho⟩ := l10With_ex hc
  obtain ⟨t, et, _⟩ := l1Pick_ex hc (a := 26) (by omega) [3, 1, 20, 21, 0] (by decide) (by decide)
  have el : spec_l1Later.f l 3 = some (l, 26) := by
    unfold spec_l1Later.f
    rw [w64 (x := (7 : Int) * 3) (by omega) (by omega), w64 (by omega) (by omega)]
    rfl
  unfold spec_DrawLastTop.f
  exact ⟨bs, wd, ch, sh, t, Ev.bind e (Ev.bind0 el (Ev.bind0 et (Ev.now _))), hn, ho⟩
end Go.Proofs.Ytjnmhpldabbeiaa.Q
end
section
namespace Go.Proofs.Ytjnmhpldabbeiaa.Q
open Go.RowKit Go.Proofs.YtjnmhpldabbeiaaW.PrintWords Go.Proofs.YtjnmhpldabbeiaaW.PrintLast Go.Proofs.YtjnmhpldabbeiaaW.PrintMore
attribute [local go_sem] max2_int min2_int max_two min_two max_three min_three max_four min_four   -- for this text's walks alone
set_option linter.unusedVariables false
set_option linter.unusedSimpArgs false
/-! ### impl_lastTop: function 117 -/
def impl_lastTop.f (k : Nat) (l0_0 : List Int) (a1_0 : Int) (a1_1 : Bool) (a1_2 : Int) (a2 : Int) : Option (Int × Int):=(impl_rowsOf.f l0_0 a1_0 a1_1 a1_2).bind fun t104 => (if (wrap64 ((t104.length : Int) - 1)) < 0 then (some (0,0)) else (if 0 ≤ (wrap64 ((t104.length : Int) - 1)) then (if (wrap64 ((t104.length : Int) - 1)) < (t104.length : Int) then ((impl_moved.f k t104 (wrap64 ((t104.length : Int) - 1)) (wrap64 ((rd t104 (wrap64 ((t104.length : Int) - 1))) - 1)) (wrap64 (1 - a2))).bind fun bt108 => (some (bt108.1,bt108.2))) else (none)) else (none)))
theorem impl_lastTop.mono : ∀ a0 a1 a2 a3 a4 k,LeO (impl_lastTop.f k a0 a1 a2 a3 a4) (impl_lastTop.f (k + 1) a0 a1 a2 a3 a4):=by
 intro a0 a1 a2 a3 a4 k
 unfold impl_lastTop.f
 repeat' first
  | (with_reducible exact impl_moved.mono _ _ _ _ _)
  | (with_reducible exact LeO.refl _)
  | (with_reducible exact LeO.none _)
  | (with_reducible refine LeO.ite ?_ ?_)
  | (with_reducible refine LeO.bind ?_ (fun _ => ?_))
  | exact impl_moved.mono _ _ _ _ _
  | exact LeO.none _
  | refine LeO.ite ?_ ?_
  | refine LeO.bind ?_ (fun _ => ?_)
set_option maxHeartbeats 8000000 in
set_option maxRecDepth 100000 in
theorem impl_lastTop.calls (k : Nat) (A0_0 : Option Addr) (c0_0 : Nat) (l0_0 : List Int) (a1_0 : Int) (a1_1 : Bool) (a1_2 : Int) (a2 : Int) (r1 : Int) (r2 : Int) (w : World) (hr0_0 : Kd.C (Kd.int .u8) w A0_0 l0_0.length l0_0) (hc0_0 : l0_0.length ≤ c0_0) (h : impl_lastTop.f k l0_0 a1_0 a1_1 a1_2 a2 = some (r1,r2)) :
 Calls Try.prog 117 #[.agg #[.slice A0_0 l0_0.length c0_0],.agg #[.int .i64 a1_0,.bool a1_1,.int .i64 a1_2],.int .i64 a2] w fun e w' => e = .returned (.agg #[.int .i64 r1,.int .i64 r2]) ∧ Below w.heap.size w w':=by
 have hu104:=Try.underlying104
 have hu37:=Try.underlying37
 have hu39:=Try.underlying39
 have HR0_0:=Aside0.mk hr0_0
 have HC0_0:=Aside0.mk hc0_0
 clear hr0_0 hc0_0
 have HB:=Aside0.mk (Below.refl w.heap.size w)
 have H : ((impl_rowsOf.f l0_0 a1_0 a1_1 a1_2).bind fun t104 => (if (wrap64 ((t104.length : Int) - 1)) < 0 then (some (0,0)) else (if 0 ≤ (wrap64 ((t104.length : Int) - 1)) then (if (wrap64 ((t104.length : Int) - 1)) < (t104.length : Int) then ((impl_moved.f k t104 (wrap64 ((t104.length : Int) - 1)) (wrap64 ((rd t104 (wrap64 ((t104.length : Int) - 1))) - 1)) (wrap64 (1 - a2))).bind fun bt108 => (some (bt108.1,bt108.2))) else (none)) else (none)))) = some (r1,r2):=h
 clear h
 replace H:=Option.bind_eq_some_iff.mp H
 obtain ⟨t104,A40,H⟩:=H
 replace H : (if (wrap64 ((t104.length : Int) - 1)) < 0 then (some (0,0)) else (if 0 ≤ (wrap64 ((t104.length : Int) - 1)) then (if (wrap64 ((t104.length : Int) - 1)) < (t104.length : Int) then ((impl_moved.f k t104 (wrap64 ((t104.length : Int) - 1)) (wrap64 ((rd t104 (wrap64 ((t104.length : Int) - 1))) - 1)) (wrap64 (1 - a2))).bind fun bt108 => (some (bt108.1,bt108.2))) else (none)) else (none))) = some (r1,r2):=H
 have A4:=Aside0.mk A40
 clear A40
 by_cases c5 : (wrap64 ((t104.length : Int) - 1)) < 0
 · rw [if_pos c5] at H
   have c5b0 : decide ((wrap64 ((t104.length : Int) - 1)) < 0) = true:=decide_eq_true c5
   clear c5
   simp only [Option.some.injEq,Prod.mk.injEq] at H
   obtain ⟨rfl,rfl⟩:=H
   go_enter Try.func117,Try.ntmps117
   go_wp2_with (first|((with_reducible refine gate_dst (N:=3) rfl ?_);refine box_event ?hg (N:=3) ?hd (cs:=#[.slice A0_0 l0_0.length c0_0]) (t:=104) ?hr ?_;(case hd => rfl);(case hg => rfl);(case hr => first|(go_simp;done)|(go_simp;rfl));intro gb101 hg w6 hbox hb;have n0_:=Aside0.mk (below_step (by repeat (first|(with_reducible first|exact HB.out|apply below_alloc|apply pw_below_drewN|apply below_drew1)|exact HB.out)) hb);have n1_:=Aside0.mk (hbox);have n2_:=Aside0.mk ((by rw [hg];exact (below_size (by repeat (first|(with_reducible first|exact HB.out|apply below_alloc|apply pw_below_drewN|apply below_drew1)|exact HB.out))) : w.heap.size ≤ gb101));have n3_:=Aside0.mk ((by rw [hg];exact (below_size (by repeat (first|(with_reducible first|exact HB.out|apply below_alloc|apply pw_below_drewN|apply below_drew1)|exact HB.out))) : w.heap.size ≤ gb101));clear HB;have HB:=n0_;have BK101:=n1_;have GW101:=n2_;have GE101:=n3_;clear n0_ n1_ n2_ n3_;clear hb hbox hg)|((with_reducible refine gate_dst (N:=4) rfl ?_);refine box_event ?hg (N:=4) ?hd (cs:=#[.int .i64 a1_0,.bool a1_1,.int .i64 a1_2]) (t:=37) ?hr ?_;(case hd => rfl);(case hg => rfl);(case hr => first|(go_simp;done)|(go_simp;rfl));intro gb102 hg w7 hbox hb;have n0_:=Aside0.mk (blk_below (g:=gb101) (o:=.cells #[.slice A0_0 l0_0.length c0_0] 104 (0,0)) (by (with_reducible repeat (first|refine blk_drewN ?_ _|refine blk_drew ?_|refine blk_alloc ?_ _));exact BK101.out) hb);have n1_:=Aside0.mk (below_step (by repeat (first|(with_reducible first|exact HB.out|apply below_alloc|apply pw_below_drewN|apply below_drew1|refine below_set ?_ GE101.out)|exact HB.out)) hb);have n2_:=Aside0.mk (hbox);have n3_:=Aside0.mk ((by rw [hg];exact (below_size (by repeat (first|(with_reducible first|exact HB.out|apply below_alloc|apply pw_below_drewN|apply below_drew1|refine below_set ?_ GE101.out)|exact HB.out))) : w.heap.size ≤ gb102));have n4_:=Aside0.mk ((by rw [hg];exact (below_size (by repeat (first|(with_reducible first|exact HB.out|apply below_alloc|apply pw_below_drewN|apply below_drew1|refine below_set ?_ GE101.out)|exact HB.out))) : w.heap.size ≤ gb102));have n5_:=Aside0.mk ((by rw [hg];exact Nat.ne_of_lt (blk_lt (g:=gb101) (o:=.cells #[.slice A0_0 l0_0.length c0_0] 104 (0,0)) (by (with_reducible repeat (first|refine blk_drewN ?_ _|refine blk_drew ?_|refine blk_alloc ?_ _));exact BK101.out)) : gb101 ≠ gb102));have n6_:=Aside0.mk ((by rw [hg];exact Nat.ne_of_gt (blk_lt (g:=gb101) (o:=.cells #[.slice A0_0 l0_0.length c0_0] 104 (0,0)) (by (with_reducible repeat (first|refine blk_drewN ?_ _|refine blk_drew ?_|refine blk_alloc ?_ _));exact BK101.out)) : gb102 ≠ gb101));clear BK101;clear HB;have BK101:=n0_;have HB:=n1_;have BK102:=n2_;have GW102:=n3_;have GE102:=n4_;have NB101_102:=n5_;have NB102_101:=n6_;clear n0_ n1_ n2_ n3_ n4_ n5_ n6_;clear hb hbox hg)|((with_reducible refine gate_dst (N:=6) rfl ?_);refine box_event ?hg (N:=6) ?hd (cs:=#[.int .i64 0,.int .i64 0]) (t:=39) ?hr ?_;(case hd => rfl);(case hg => rfl);(case hr => first|(go_simp;done)|(go_simp;rfl));intro gb103 hg w8 hbox hb;have n0_:=Aside0.mk (blk_below (g:=gb101) (o:=.cells #[.slice A0_0 l0_0.length c0_0] 104 (0,0)) (by (with_reducible repeat (first|refine blk_drewN ?_ _|refine blk_drew ?_|refine blk_alloc ?_ _));exact BK101.out) hb);have n1_:=Aside0.mk (blk_below (g:=gb102) (o:=.cells #[.int .i64 a1_0,.bool a1_1,.int .i64 a1_2] 37 (0,0)) (by (with_reducible repeat (first|refine blk_drewN ?_ _|refine blk_drew ?_|refine blk_alloc ?_ _));exact BK102.out) hb);have n2_:=Aside0.mk (below_step (by repeat (first|(with_reducible first|exact HB.out|apply below_alloc|apply pw_below_drewN|apply below_drew1|refine below_set ?_ GE101.out|refine below_set ?_ GE102.out)|exact HB.out)) hb);have n3_:=Aside0.mk (hbox);have n4_:=Aside0.mk ((by rw [hg];exact (below_size (by repeat (first|(with_reducible first|exact HB.out|apply below_alloc|apply pw_below_drewN|apply below_drew1|refine below_set ?_ GE101.out|refine below_set ?_ GE102.out)|exact HB.out))) : w.heap.size ≤ gb103));have n5_:=Aside0.mk ((by rw [hg];exact (below_size (by repeat (first|(with_reducible first|exact HB.out|apply below_alloc|apply pw_below_drewN|apply below_drew1|refine below_set ?_ GE101.out|refine below_set ?_ GE102.out)|exact HB.out))) : w.heap.size ≤ gb103));have n6_:=Aside0.mk ((by rw [hg];exact Nat.ne_of_lt (blk_lt (g:=gb101) (o:=.cells #[.slice A0_0 l0_0.length c0_0] 104 (0,0)) (by (with_reducible repeat (first|refine blk_drewN ?_ _|refine blk_drew ?_|refine blk_alloc ?_ _));exact BK101.out)) : gb101 ≠ gb103));have n7_:=Aside0.mk ((by rw [hg];exact Nat.ne_of_gt (blk_lt (g:=gb101) (o:=.cells #[.slice A0_0 l0_0.length c0_0] 104 (0,0)) (by (with_reducible repeat (first|refine blk_drewN ?_ _|refine blk_drew ?_|refine blk_alloc ?_ _));exact BK101.out)) : gb103 ≠ gb101));have n8_:=Aside0.mk ((by rw [hg];exact Nat.ne_of_lt (blk_lt (g:=gb102) (o:=.cells #[.int .i64 a1_0,.bool a1_1,.int .i64 a1_2] 37 (0,0)) (by (with_reducible repeat (first|refine blk_drewN ?_ _|refine blk_drew ?_|refine blk_alloc ?_ _));exact BK102.out)) : gb102 ≠ gb103));have n9_:=Aside0.mk ((by rw [hg];exact Nat.ne_of_gt (blk_lt (g:=gb102) (o:=.cells #[.int .i64 a1_0,.bool a1_1,.int .i64 a1_2] 37 (0,0)) (by (with_reducible repeat (first|refine blk_drewN ?_ _|refine blk_drew ?_|refine blk_alloc ?_ _));exact BK102.out)) : gb103 ≠ gb102));clear BK101;clear BK102;clear HB;have BK101:=n0_;have BK102:=n1_;have HB:=n2_;have BK103:=n3_;have GW103:=n4_;have GE103:=n5_;have NB101_103:=n6_;have NB103_101:=n7_;have NB102_103:=n8_;have NB103_102:=n9_;clear n0_ n1_ n2_ n3_ n4_ n5_ n6_ n7_ n8_ n9_;clear hb hbox hg;have hnb9:=NB101_102.out;have hnc9:=NB102_101.out;have hnb10:=NB101_103.out;have hnc10:=NB103_101.out;have hcz11_0 : w8.cell? ⟨gb101,0,none⟩ = some (.slice A0_0 l0_0.length c0_0):=(blk_cell BK101.out 0).trans rfl;have hfz11_0:=blk_frozen BK101.out 0;have hnb12:=NB102_103.out;have hnc12:=NB103_102.out;have hcz13_0 : w8.cell? ⟨gb102,0,none⟩ = some (.int .i64 a1_0):=(blk_cell BK102.out 0).trans rfl;have hcz13_1 : w8.cell? ⟨gb102,1,none⟩ = some (.bool a1_1):=(blk_cell BK102.out 1).trans rfl;have hcz13_2 : w8.cell? ⟨gb102,2,none⟩ = some (.int .i64 a1_2):=(blk_cell BK102.out 2).trans rfl;have hfz13_0:=blk_frozen BK102.out 0;have hfz13_1:=blk_frozen BK102.out 1;have hfz13_2:=blk_frozen BK102.out 2)|((with_reducible refine gate_callee (f:=122) rfl ?_);refine goesL_ (some 11) rfl rfl Try.func122 (by kernel_rfl) rfl #[.agg #[.slice A0_0 l0_0.length c0_0],.agg #[.int .i64 a1_0,.bool a1_1,.int .i64 a1_2]] rfl (by (try simp only [List.map_toArray,List.map_cons,List.map_nil]);first|done|rfl|(simp only [List.length_drop,List.length_take];rfl)) ?_;(with_reducible refine (impl_rowsOf.calls _ _ l0_0 a1_0 a1_1 a1_2 t104 _ ?side1 ?side2 A4.out).mono ?_);(case side1 => repeat (first|exact (Kd.C_below HR0_0.out HB.out)|(with_reducible refine Kd.C_alloc ?_ _)|(with_reducible refine Kd.C_drewN ?_ _)|(with_reducible refine Kd.C_drew ?_)));(case side2 => exact HC0_0.out);rintro e w14 ⟨v105,rfl,ho0,hb⟩;refine ⟨_,rfl,?_⟩;have n0_:=Aside0.mk (Kd.R_lower ho0 (below_size (by repeat (first|(with_reducible first|exact HB.out|apply below_alloc|apply pw_below_drewN|apply below_drew1|refine below_set ?_ GE101.out|refine below_set ?_ GE102.out|refine below_set ?_ GE103.out)|exact HB.out))));have n1_:=Aside0.mk (blk_below (g:=gb101) (o:=.cells #[.slice A0_0 l0_0.length c0_0] 104 (0,0)) (by (with_reducible repeat (first|refine blk_drewN ?_ _|refine blk_drew ?_|refine blk_alloc ?_ _));exact BK101.out) hb);have n2_:=Aside0.mk (blk_below (g:=gb102) (o:=.cells #[.int .i64 a1_0,.bool a1_1,.int .i64 a1_2] 37 (0,0)) (by (with_reducible repeat (first|refine blk_drewN ?_ _|refine blk_drew ?_|refine blk_alloc ?_ _));exact BK102.out) hb);have n3_:=Aside0.mk (blk_below (g:=gb103) (o:=.cells #[.int .i64 0,.int .i64 0] 39 (0,0)) (by (with_reducible repeat (first|refine blk_drewN ?_ _|refine blk_drew ?_|refine blk_alloc ?_ _));exact BK103.out) hb);have n4_:=Aside0.mk (below_step (by repeat (first|(with_reducible first|exact HB.out|apply below_alloc|apply pw_below_drewN|apply below_drew1|refine below_set ?_ GE101.out|refine below_set ?_ GE102.out|refine below_set ?_ GE103.out)|exact HB.out)) hb);clear BK101;clear BK102;clear BK103;clear HB;have HO106:=n0_;have BK101:=n1_;have BK102:=n2_;have BK103:=n3_;have HB:=n4_;clear n0_ n1_ n2_ n3_ n4_;(try clear hb);(try clear hb2);(try clear hk);(try clear hi);(try clear ho0);obtain ⟨Ao15,co15,eo15⟩:=Kd.R_slice HO106.out;subst eo15;have hcz16_0 : w14.cell? ⟨gb103,0,none⟩ = some (.int .i64 0):=(blk_cell BK103.out 0).trans rfl;have hcz16_1 : w14.cell? ⟨gb103,1,none⟩ = some (.int .i64 0):=(blk_cell BK103.out 1).trans rfl;have hfz16_0:=blk_frozen BK103.out 0;have hfz16_1:=blk_frozen BK103.out 1))
   refine bodyPost_ret (results_cell_row rfl _ _ gb103 39 #[.int .i64 0,.int .i64 0] (0,0) _ rfl (by (with_reducible repeat (first|refine blk_drewN ?_ _|refine blk_drew ?_|refine blk_alloc ?_ _));refine blk_put (cs:=#[.int .i64 0,.int .i64 0]) ?_ 1 _ rfl;(with_reducible repeat (first|refine blk_drewN ?_ _|refine blk_drew ?_|refine blk_alloc ?_ _));refine blk_put (cs:=#[.int .i64 0,.int .i64 0]) ?_ 0 _ rfl;(with_reducible repeat (first|refine blk_drewN ?_ _|refine blk_drew ?_|refine blk_alloc ?_ _));exact BK103.out) Try.underlying39 rfl (by kernel_rfl)) rfl ?_
   exact ⟨by first|rfl|(simp [errW_none,errW_some] <;> rfl)|(simp [*,errW_none,errW_some] <;> rfl),by repeat (first|(with_reducible first|exact HB.out|apply below_alloc|apply pw_below_drewN|apply below_drew1|refine below_set ?_ GE101.out|refine below_set ?_ GE102.out|refine below_set ?_ GE103.out)|exact HB.out)⟩
 · rw [if_neg c5] at H
   have c5b0 : decide ((wrap64 ((t104.length : Int) - 1)) < 0) = false:=decide_eq_false c5
   clear c5
   obtain ⟨ji17,hji17⟩ : ∃ j_ : Int,(wrap64 ((t104.length : Int) - 1)) = j_:=⟨_,rfl⟩
   replace H : (if 0 ≤ (ji17) then (if (ji17) < (t104.length : Int) then ((impl_moved.f k t104 (ji17) (wrap64 ((rd t104 (ji17)) - 1)) (wrap64 (1 - a2))).bind fun bt108 => (some (bt108.1,bt108.2))) else (none)) else (none)) = some (r1,r2):=by first|(rw [hji17] at H;exact H)|(simp only [hji17] at H ⊢;exact H)
   (try rw [hji17] at c5b0)
   (try rw [hji17] at A4)
   have hji17w : (IntKind.i64.wrap ((t104.length : Int) - 1)) = ji17:=(i64_w _).trans hji17
   by_cases c18 : 0 ≤ (ji17)
   · rw [if_pos c18] at H
     have c18b0 : decide (0 ≤ (ji17)) = true:=decide_eq_true c18
     clear c18
     by_cases c19 : (ji17) < (t104.length : Int)
     · rw [if_pos c19] at H
       have c19b0 : decide ((ji17) < (t104.length : Int)) = true:=decide_eq_true c19
       clear c19
       replace H:=Option.bind_eq_some_iff.mp H
       obtain ⟨⟨t108,t109⟩,A200,H⟩:=H
       replace H : (some (t108,t109)) = some (r1,r2):=H
       have A20:=Aside0.mk A200
       clear A200
       simp only [Option.some.injEq,Prod.mk.injEq] at H
       obtain ⟨rfl,rfl⟩:=H
       go_enter Try.func117,Try.ntmps117
       go_wp2_with (first|((with_reducible refine gate_dst (N:=3) rfl ?_);refine box_event ?hg (N:=3) ?hd (cs:=#[.slice A0_0 l0_0.length c0_0]) (t:=104) ?hr ?_;(case hd => rfl);(case hg => rfl);(case hr => first|(go_simp;done)|(go_simp;rfl));intro gb101 hg w21 hbox hb;have n0_:=Aside0.mk (below_step (by repeat (first|(with_reducible first|exact HB.out|apply below_alloc|apply pw_below_drewN|apply below_drew1)|exact HB.out)) hb);have n1_:=Aside0.mk (hbox);have n2_:=Aside0.mk ((by rw [hg];exact (below_size (by repeat (first|(with_reducible first|exact HB.out|apply below_alloc|apply pw_below_drewN|apply below_drew1)|exact HB.out))) : w.heap.size ≤ gb101));have n3_:=Aside0.mk ((by rw [hg];exact (below_size (by repeat (first|(with_reducible first|exact HB.out|apply below_alloc|apply pw_below_drewN|apply below_drew1)|exact HB.out))) : w.heap.size ≤ gb101));clear HB;have HB:=n0_;have BK101:=n1_;have GW101:=n2_;have GE101:=n3_;clear n0_ n1_ n2_ n3_;clear hb hbox hg)|((with_reducible refine gate_dst (N:=4) rfl ?_);refine box_event ?hg (N:=4) ?hd (cs:=#[.int .i64 a1_0,.bool a1_1,.int .i64 a1_2]) (t:=37) ?hr ?_;(case hd => rfl);(case hg => rfl);(case hr => first|(go_simp;done)|(go_simp;rfl));intro gb102 hg w22 hbox hb;have n0_:=Aside0.mk (blk_below (g:=gb101) (o:=.cells #[.slice A0_0 l0_0.length c0_0] 104 (0,0)) (by (with_reducible repeat (first|refine blk_drewN ?_ _|refine blk_drew ?_|refine blk_alloc ?_ _));exact BK101.out) hb);have n1_:=Aside0.mk (below_step (by repeat (first|(with_reducible first|exact HB.out|apply below_alloc|apply pw_below_drewN|apply below_drew1|refine below_set ?_ GE101.out)|exact HB.out)) hb);have n2_:=Aside0.mk (hbox);have n3_:=Aside0.mk ((by rw [hg];exact (below_size (by repeat (first|(with_reducible first|exact HB.out|apply below_alloc|apply pw_below_drewN|apply below_drew1|refine below_set ?_ GE101.out)|exact HB.out))) : w.heap.size ≤ gb102));have n4_:=Aside0.mk ((by rw [hg];exact (below_size (by repeat (first|(with_reducible first|exact HB.out|apply below_alloc|apply pw_below_drewN|apply below_drew1|refine below_set ?_ GE101.out)|exact HB.out))) : w.heap.size ≤ gb102));have n5_:=Aside0.mk ((by rw [hg];exact Nat.ne_of_lt (blk_lt (g:=gb101) (o:=.cells #[.slice A0_0 l0_0.length c0_0] 104 (0,0)) (by (with_reducible repeat (first|refine blk_drewN ?_ _|refine blk_drew ?_|refine blk_alloc ?_ _));exact BK101.out)) : gb101 ≠ gb102));have n6_:=Aside0.mk ((by rw [hg];exact Nat.ne_of_gt (blk_lt (g:=gb101) (o:=.cells #[.slice A0_0 l0_0.length c0_0] 104 (0,0)) (by (with_reducible repeat (first|refine blk_drewN ?_ _|refine blk_drew ?_|refine blk_alloc ?_ _));exact BK101.out)) : gb102 ≠ gb101));clear BK101;clear HB;have BK101:=n0_;have HB:=n1_;have BK102:=n2_;have GW102:=n3_;have GE102:=n4_;have NB101_102:=n5_;have NB102_101:=n6_;clear n0_ n1_ n2_ n3_ n4_ n5_ n6_;clear hb hbox hg)|((with_reducible refine gate_dst (N:=6) rfl ?_);refine box_event ?hg (N:=6) ?hd (cs:=#[.int .i64 0,.int .i64 0]) (t:=39) ?hr ?_;(case hd => rfl);(case hg => rfl);(case hr => first|(go_simp;done)|(go_simp;rfl));intro gb103 hg w23 hbox hb;have n0_:=Aside0.mk (blk_below (g:=gb101) (o:=.cells #[.slice A0_0 l0_0.length c0_0] 104 (0,0)) (by (with_reducible repeat (first|refine blk_drewN ?_ _|refine blk_drew ?_|refine blk_alloc ?_ _));exact BK101.out) hb);have n1_:=Aside0.mk (blk_below (g:=gb102) (o:=.cells #[.int .i64 a1_0,.bool a1_1,.int .i64 a1_2] 37 (0,0)) (by (with_reducible repeat (first|refine blk_drewN ?_ _|refine blk_drew ?_|refine blk_alloc ?_ _));exact BK102.out) hb);have n2_:=Aside0.mk (below_step (by repeat (first|(with_reducible first|exact HB.out|apply below_alloc|apply pw_below_drewN|apply below_drew1|refine below_set ?_ GE101.out|refine below_set ?_ GE102.out)|exact HB.out)) hb);have n3_:=Aside0.mk (hbox);have n4_:=Aside0.mk ((by rw [hg];exact (below_size (by repeat (first|(with_reducible first|exact HB.out|apply below_alloc|apply pw_below_drewN|apply below_drew1|refine below_set ?_ GE101.out|refine below_set ?_ GE102.out)|exact HB.out))) : w.heap.size ≤ gb103));have n5_:=Aside0.mk ((by rw [hg];exact (below_size (by repeat (first|(with_reducible first|exact HB.out|apply below_alloc|apply pw_below_drewN|apply below_drew1|refine below_set ?_ GE101.out|refine below_set ?_ GE102.out)|exact HB.out))) : w.heap.size ≤ gb103));have n6_:=Aside0.mk ((by rw [hg];exact Nat.ne_of_lt (blk_lt (g:=gb101) (o:=.cells #[.slice A0_0 l0_0.length c0_0] 104 (0,0)) (by (with_reducible repeat (first|refine blk_drewN ?_ _|refine blk_drew ?_|refine blk_alloc ?_ _));exact BK101.out)) : gb101 ≠ gb103));have n7_:=Aside0.mk ((by rw [hg];exact Nat.ne_of_gt (blk_lt (g:=gb101) (o:=.cells #[.slice A0_0 l0_0.length c0_0] 104 (0,0)) (by (with_reducible repeat (first|refine blk_drewN ?_ _|refine blk_drew ?_|refine blk_alloc ?_ _));exact BK101.out)) : gb103 ≠ gb101));have n8_:=Aside0.mk ((by rw [hg];exact Nat.ne_of_lt (blk_lt (g:=gb102) (o:=.cells #[.int .i64 a1_0,.bool a1_1,.int .i64 a1_2] 37 (0,0)) (by (with_reducible repeat (first|refine blk_drewN ?_ _|refine blk_drew ?_|refine blk_alloc ?_ _));exact BK102.out)) : gb102 ≠ gb103));have n9_:=Aside0.mk ((by rw [hg];exact Nat.ne_of_gt (blk_lt (g:=gb102) (o:=.cells #[.int .i64 a1_0,.bool a1_1,.int .i64 a1_2] 37 (0,0)) (by (with_reducible repeat (first|refine blk_drewN ?_ _|refine blk_drew ?_|refine blk_alloc ?_ _));exact BK102.out)) : gb103 ≠ gb102));clear BK101;clear BK102;clear HB;have BK101:=n0_;have BK102:=n1_;have HB:=n2_;have BK103:=n3_;have GW103:=n4_;have GE103:=n5_;have NB101_103:=n6_;have NB103_101:=n7_;have NB102_103:=n8_;have NB103_102:=n9_;clear n0_ n1_ n2_ n3_ n4_ n5_ n6_ n7_ n8_ n9_;clear hb hbox hg;have hnb24:=NB101_102.out;have hnc24:=NB102_101.out;have hnb25:=NB101_103.out;have hnc25:=NB103_101.out;have hcz26_0 : w23.cell? ⟨gb101,0,none⟩ = some (.slice A0_0 l0_0.length c0_0):=(blk_cell BK101.out 0).trans rfl;have hfz26_0:=blk_frozen BK101.out 0;have hnb27:=NB102_103.out;have hnc27:=NB103_102.out;have hcz28_0 : w23.cell? ⟨gb102,0,none⟩ = some (.int .i64 a1_0):=(blk_cell BK102.out 0).trans rfl;have hcz28_1 : w23.cell? ⟨gb102,1,none⟩ = some (.bool a1_1):=(blk_cell BK102.out 1).trans rfl;have hcz28_2 : w23.cell? ⟨gb102,2,none⟩ = some (.int .i64 a1_2):=(blk_cell BK102.out 2).trans rfl;have hfz28_0:=blk_frozen BK102.out 0;have hfz28_1:=blk_frozen BK102.out 1;have hfz28_2:=blk_frozen BK102.out 2)|((with_reducible refine gate_callee (f:=122) rfl ?_);refine goesL_ (some 11) rfl rfl Try.func122 (by kernel_rfl) rfl #[.agg #[.slice A0_0 l0_0.length c0_0],.agg #[.int .i64 a1_0,.bool a1_1,.int .i64 a1_2]] rfl (by (try simp only [List.map_toArray,List.map_cons,List.map_nil]);first|done|rfl|(simp only [List.length_drop,List.length_take];rfl)) ?_;(with_reducible refine (impl_rowsOf.calls _ _ l0_0 a1_0 a1_1 a1_2 t104 _ ?side1 ?side2 A4.out).mono ?_);(case side1 => repeat (first|exact (Kd.C_below HR0_0.out HB.out)|(with_reducible refine Kd.C_alloc ?_ _)|(with_reducible refine Kd.C_drewN ?_ _)|(with_reducible refine Kd.C_drew ?_)));(case side2 => exact HC0_0.out);rintro e w29 ⟨v105,rfl,ho0,hb⟩;refine ⟨_,rfl,?_⟩;have n0_:=Aside0.mk (Kd.R_lower ho0 (below_size (by repeat (first|(with_reducible first|exact HB.out|apply below_alloc|apply pw_below_drewN|apply below_drew1|refine below_set ?_ GE101.out|refine below_set ?_ GE102.out|refine below_set ?_ GE103.out)|exact HB.out))));have n1_:=Aside0.mk (blk_below (g:=gb101) (o:=.cells #[.slice A0_0 l0_0.length c0_0] 104 (0,0)) (by (with_reducible repeat (first|refine blk_drewN ?_ _|refine blk_drew ?_|refine blk_alloc ?_ _));exact BK101.out) hb);have n2_:=Aside0.mk (blk_below (g:=gb102) (o:=.cells #[.int .i64 a1_0,.bool a1_1,.int .i64 a1_2] 37 (0,0)) (by (with_reducible repeat (first|refine blk_drewN ?_ _|refine blk_drew ?_|refine blk_alloc ?_ _));exact BK102.out) hb);have n3_:=Aside0.mk (blk_below (g:=gb103) (o:=.cells #[.int .i64 0,.int .i64 0] 39 (0,0)) (by (with_reducible repeat (first|refine blk_drewN ?_ _|refine blk_drew ?_|refine blk_alloc ?_ _));exact BK103.out) hb);have n4_:=Aside0.mk (below_step (by repeat (first|(with_reducible first|exact HB.out|apply below_alloc|apply pw_below_drewN|apply below_drew1|refine below_set ?_ GE101.out|refine below_set ?_ GE102.out|refine below_set ?_ GE103.out)|exact HB.out)) hb);clear BK101;clear BK102;clear BK103;clear HB;have HO106:=n0_;have BK101:=n1_;have BK102:=n2_;have BK103:=n3_;have HB:=n4_;clear n0_ n1_ n2_ n3_ n4_;(try clear hb);(try clear hb2);(try clear hk);(try clear hi);(try clear ho0);obtain ⟨Ao30,co30,eo30⟩:=Kd.R_slice HO106.out;subst eo30;have p107 : 0 ≤ ((ji17) : Int):=of_decide_eq_true (by first|(with_reducible assumption)|assumption);have q107 : (ji17) < (t104.length : Int):=of_decide_eq_true (by first|(with_reducible assumption)|assumption);obtain ⟨ad107,e107,hx107_0⟩:=Kd.at_int (Kd.R_reads' HO106.out).2.2 (ji17) p107 q107;cases e107;replace p107:=eq_true p107;replace q107:=eq_true q107)|((with_reducible refine gate_callee (f:=121) rfl ?_);refine goesL_ (some 28) rfl rfl Try.func121 (by kernel_rfl) rfl #[.slice (some ad107) t104.length co30,.agg #[.int .i64 ji17,.int .i64 (wrap64 ((rd t104 (ji17)) - 1))],.int .i64 (wrap64 (1 - a2))] rfl (by (try simp only [List.map_toArray,List.map_cons,List.map_nil]);first|done|(simp only [hji17];rfl)|rfl|(simp only [List.length_drop,List.length_take];rfl)) ?_;(with_reducible refine (impl_moved.calls k _ _ t104 ji17 (wrap64 ((rd t104 (ji17)) - 1)) (wrap64 (1 - a2)) t108 t109 _ ?side1 ?side2 A20.out).mono ?_);(case side1 => repeat (first|exact (Kd.R_reads' HO106.out).2.2|(with_reducible refine Kd.C_alloc ?_ _)|(with_reducible refine Kd.C_drewN ?_ _)|(with_reducible refine Kd.C_drew ?_)));(case side2 => exact (Kd.R_reads' HO106.out).2.1);rintro e w31 ⟨rfl,hb⟩;refine ⟨_,rfl,?_⟩;have n0_:=Aside0.mk (Kd.R_below (by (with_reducible repeat (first|apply Kd.R_alloc|apply Kd.R_drewN|apply Kd.R_drew));exact HO106.out) hb);have n1_:=Aside0.mk (blk_below (g:=gb101) (o:=.cells #[.slice A0_0 l0_0.length c0_0] 104 (0,0)) (by (with_reducible repeat (first|refine blk_drewN ?_ _|refine blk_drew ?_|refine blk_alloc ?_ _));exact BK101.out) hb);have n2_:=Aside0.mk (blk_below (g:=gb102) (o:=.cells #[.int .i64 a1_0,.bool a1_1,.int .i64 a1_2] 37 (0,0)) (by (with_reducible repeat (first|refine blk_drewN ?_ _|refine blk_drew ?_|refine blk_alloc ?_ _));exact BK102.out) hb);have n3_:=Aside0.mk (blk_below (g:=gb103) (o:=.cells #[.int .i64 0,.int .i64 0] 39 (0,0)) (by (with_reducible repeat (first|refine blk_drewN ?_ _|refine blk_drew ?_|refine blk_alloc ?_ _));exact BK103.out) hb);have n4_:=Aside0.mk (below_step (by repeat (first|(with_reducible first|exact HB.out|apply below_alloc|apply pw_below_drewN|apply below_drew1|refine below_set ?_ GE101.out|refine below_set ?_ GE102.out|refine below_set ?_ GE103.out)|exact HB.out)) hb);clear HO106;clear BK101;clear BK102;clear BK103;clear HB;have HO106:=n0_;have BK101:=n1_;have BK102:=n2_;have BK103:=n3_;have HB:=n4_;clear n0_ n1_ n2_ n3_ n4_;(try clear hb);(try clear hb2);(try clear hk);(try clear hi);have hcz32_0 : w31.cell? ⟨gb103,0,none⟩ = some (.int .i64 0):=(blk_cell BK103.out 0).trans rfl;have hcz32_1 : w31.cell? ⟨gb103,1,none⟩ = some (.int .i64 0):=(blk_cell BK103.out 1).trans rfl;have hfz32_0:=blk_frozen BK103.out 0;have hfz32_1:=blk_frozen BK103.out 1))
       refine bodyPost_ret (results_cell_row rfl _ _ gb103 39 #[.int .i64 t108,.int .i64 t109] (0,0) _ rfl (by (with_reducible repeat (first|refine blk_drewN ?_ _|refine blk_drew ?_|refine blk_alloc ?_ _));refine blk_put (cs:=#[.int .i64 t108,.int .i64 0]) ?_ 1 _ rfl;(with_reducible repeat (first|refine blk_drewN ?_ _|refine blk_drew ?_|refine blk_alloc ?_ _));refine blk_put (cs:=#[.int .i64 0,.int .i64 0]) ?_ 0 _ rfl;(with_reducible repeat (first|refine blk_drewN ?_ _|refine blk_drew ?_|refine blk_alloc ?_ _));exact BK103.out) Try.underlying39 rfl (by kernel_rfl)) rfl ?_
       exact ⟨by first|rfl|(simp [errW_none,errW_some] <;> rfl)|(simp only [← hji17];first|rfl|(simp [errW_none,errW_some] <;> rfl))|(simp [*,errW_none,errW_some] <;> rfl),by repeat (first|(with_reducible first|exact HB.out|apply below_alloc|apply pw_below_drewN|apply below_drew1|refine below_set ?_ GE101.out|refine below_set ?_ GE102.out|refine below_set ?_ GE103.out)|exact HB.out)⟩
     · rw [if_neg c19] at H
       exact absurd H (by simp)
   · rw [if_neg c18] at H
     exact absurd H (by simp)
end Go.Proofs.Ytjnmhpldabbeiaa.Q
end
