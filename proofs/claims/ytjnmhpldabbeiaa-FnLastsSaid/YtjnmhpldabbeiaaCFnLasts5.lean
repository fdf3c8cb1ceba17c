/- For every input FnLasts returns true: from the last top on there are just as many rows as there is room for, or it is the first one. No condition. -/
import Derived.Test.YtjnmhpldabbeiaaCFnLasts1
import Derived.Test.YtjnmhpldabbeiaaCFnLasts2
import Derived.Test.YtjnmhpldabbeiaaCFnLasts4
import Derived.Test.YtjnmhpldabbeiaaCFnLasts3
import Derived.Test.YtjnmhpldabbeiaaRows
set_option linter.unusedVariables false
set_option linter.unusedSimpArgs false
section
namespace Go.Proofs.Ytjnmhpldabbeiaa.Q
open Go.RowKit Go.Proofs.YtjnmhpldabbeiaaW.PrintWords Go.Proofs.YtjnmhpldabbeiaaW.PrintLast Go.Proofs.YtjnmhpldabbeiaaW.PrintMore
attribute [local go_sem] max2_int min2_int max_two min_two max_three min_three max_four min_four   -- for this text's walks alone
set_option linter.unusedVariables false
set_option linter.unusedSimpArgs false
/-! ### impl_LastTop: function 68 -/
def impl_LastTop.f (k : Nat) (l0_0 : List Int) (a1_0 : Int) (a1_1 : Bool) (a1_2 : Int) (a2 : Int) : Option (Int × Int × Int):=(impl_layoutCode.f k l0_0 a1_0 a1_1 a1_2).bind fun t104 => (if t104 = 0 then ((impl_within.f a2 1 20).bind fun t105 => (if t105 = true then ((impl_lastTop.f k l0_0 a1_0 a1_1 a1_2 a2).bind fun bt106 => (some (0,bt106.1,bt106.2))) else (some (3,0,0)))) else (some (t104,0,0)))
theorem impl_LastTop.mono : ∀ a0 a1 a2 a3 a4 k,LeO (impl_LastTop.f k a0 a1 a2 a3 a4) (impl_LastTop.f (k + 1) a0 a1 a2 a3 a4):=by
 intro a0 a1 a2 a3 a4 k
 unfold impl_LastTop.f
 repeat' first
  | (with_reducible exact impl_lastTop.mono _ _ _ _ _ _)
  | (with_reducible exact impl_layoutCode.mono _ _ _ _ _)
  | (with_reducible exact LeO.refl _)
  | (with_reducible exact LeO.none _)
  | (with_reducible refine LeO.ite ?_ ?_)
  | (with_reducible refine LeO.bind ?_ (fun _ => ?_))
  | exact impl_lastTop.mono _ _ _ _ _ _
  | exact impl_layoutCode.mono _ _ _ _ _
  | exact LeO.none _
  | refine LeO.ite ?_ ?_
  | refine LeO.bind ?_ (fun _ => ?_)
set_option maxHeartbeats 8000000 in
set_option maxRecDepth 100000 in
theorem impl_LastTop.calls (k : Nat) (A0_0 : Option Addr) (c0_0 : Nat) (l0_0 : List Int) (a1_0 : Int) (a1_1 : Bool) (a1_2 : Int) (a2 : Int) (r1 : Int) (r2 : Int) (r3 : Int) (w : World) (hr0_0 : Kd.C (Kd.int .u8) w A0_0 l0_0.length l0_0) (hc0_0 : l0_0.length ≤ c0_0) (h : impl_LastTop.f k l0_0 a1_0 a1_1 a1_2 a2 = some (r1,r2,r3)) :
 Calls Try.prog 68 #[.agg #[.slice A0_0 l0_0.length c0_0],.agg #[.int .i64 a1_0,.bool a1_1,.int .i64 a1_2],.int .i64 a2] w fun e w' => e = .returned (.agg #[.int .i64 r1,.int .i64 r2,.int .i64 r3]) ∧ Below w.heap.size w w':=by
 have hu104:=Try.underlying104
 have hu37:=Try.underlying37
 have hu108:=Try.underlying108
 have HR0_0:=Aside0.mk hr0_0
 have HC0_0:=Aside0.mk hc0_0
 clear hr0_0 hc0_0
 have HB:=Aside0.mk (Below.refl w.heap.size w)
 have H : ((impl_layoutCode.f k l0_0 a1_0 a1_1 a1_2).bind fun t104 => (if t104 = 0 then ((impl_within.f a2 1 20).bind fun t105 => (if t105 = true then ((impl_lastTop.f k l0_0 a1_0 a1_1 a1_2 a2).bind fun bt106 => (some (0,bt106.1,bt106.2))) else (some (3,0,0)))) else (some (t104,0,0)))) = some (r1,r2,r3):=h
 clear h
 replace H:=Option.bind_eq_some_iff.mp H
 obtain ⟨t104,A40,H⟩:=H
 replace H : (if t104 = 0 then ((impl_within.f a2 1 20).bind fun t105 => (if t105 = true then ((impl_lastTop.f k l0_0 a1_0 a1_1 a1_2 a2).bind fun bt106 => (some (0,bt106.1,bt106.2))) else (some (3,0,0)))) else (some (t104,0,0))) = some (r1,r2,r3):=H
 have A4:=Aside0.mk A40
 clear A40
 by_cases c5 : t104 = 0
 · rw [if_pos c5] at H
   have c5b0 : (t104 == 0) = true:=beq_iff_eq.mpr c5
   have c5b1 : (t104 != 0) = false:=bne_eq_false_iff_eq.mpr c5
   clear c5
   replace H:=Option.bind_eq_some_iff.mp H
   obtain ⟨t105,A60,H⟩:=H
   replace H : (if t105 = true then ((impl_lastTop.f k l0_0 a1_0 a1_1 a1_2 a2).bind fun bt106 => (some (0,bt106.1,bt106.2))) else (some (3,0,0))) = some (r1,r2,r3):=H
   have A6:=Aside0.mk A60
   clear A60
   by_cases c7 : t105 = true
   · subst c7
     have H1 : ((impl_lastTop.f k l0_0 a1_0 a1_1 a1_2 a2).bind fun bt106 => (some (0,bt106.1,bt106.2))) = some (r1,r2,r3):=by rw [if_pos rfl] at H;exact H
     clear H
     have H:=H1
     clear H1
     replace H:=Option.bind_eq_some_iff.mp H
     obtain ⟨⟨t106,t107⟩,A80,H⟩:=H
     replace H : (some (0,t106,t107)) = some (r1,r2,r3):=H
     have A8:=Aside0.mk A80
     clear A80
     simp only [Option.some.injEq,Prod.mk.injEq] at H
     obtain ⟨rfl,rfl,rfl⟩:=H
     go_enter Try.func68,Try.ntmps68
     go_wp2_with (first|((with_reducible refine gate_dst (N:=3) rfl ?_);refine box_event ?hg (N:=3) ?hd (cs:=#[.slice A0_0 l0_0.length c0_0]) (t:=104) ?hr ?_;(case hd => rfl);(case hg => rfl);(case hr => first|(go_simp;done)|(go_simp;rfl));intro gb101 hg w9 hbox hb;have n0_:=Aside0.mk (below_step (by repeat (first|(with_reducible first|exact HB.out|apply below_alloc|apply pw_below_drewN|apply below_drew1)|exact HB.out)) hb);have n1_:=Aside0.mk (hbox);have n2_:=Aside0.mk ((by rw [hg];exact (below_size (by repeat (first|(with_reducible first|exact HB.out|apply below_alloc|apply pw_below_drewN|apply below_drew1)|exact HB.out))) : w.heap.size ≤ gb101));have n3_:=Aside0.mk ((by rw [hg];exact (below_size (by repeat (first|(with_reducible first|exact HB.out|apply below_alloc|apply pw_below_drewN|apply below_drew1)|exact HB.out))) : w.heap.size ≤ gb101));clear HB;have HB:=n0_;have BK101:=n1_;have GW101:=n2_;have GE101:=n3_;clear n0_ n1_ n2_ n3_;clear hb hbox hg)|((with_reducible refine gate_dst (N:=4) rfl ?_);refine box_event ?hg (N:=4) ?hd (cs:=#[.int .i64 a1_0,.bool a1_1,.int .i64 a1_2]) (t:=37) ?hr ?_;(case hd => rfl);(case hg => rfl);(case hr => first|(go_simp;done)|(go_simp;rfl));intro gb102 hg w10 hbox hb;have n0_:=Aside0.mk (blk_below (g:=gb101) (o:=.cells #[.slice A0_0 l0_0.length c0_0] 104 (0,0)) (by (with_reducible repeat (first|refine blk_drewN ?_ _|refine blk_drew ?_|refine blk_alloc ?_ _));exact BK101.out) hb);have n1_:=Aside0.mk (below_step (by repeat (first|(with_reducible first|exact HB.out|apply below_alloc|apply pw_below_drewN|apply below_drew1|refine below_set ?_ GE101.out)|exact HB.out)) hb);have n2_:=Aside0.mk (hbox);have n3_:=Aside0.mk ((by rw [hg];exact (below_size (by repeat (first|(with_reducible first|exact HB.out|apply below_alloc|apply pw_below_drewN|apply below_drew1|refine below_set ?_ GE101.out)|exact HB.out))) : w.heap.size ≤ gb102));have n4_:=Aside0.mk ((by rw [hg];exact (below_size (by repeat (first|(with_reducible first|exact HB.out|apply below_alloc|apply pw_below_drewN|apply below_drew1|refine below_set ?_ GE101.out)|exact HB.out))) : w.heap.size ≤ gb102));have n5_:=Aside0.mk ((by rw [hg];exact Nat.ne_of_lt (blk_lt (g:=gb101) (o:=.cells #[.slice A0_0 l0_0.length c0_0] 104 (0,0)) (by (with_reducible repeat (first|refine blk_drewN ?_ _|refine blk_drew ?_|refine blk_alloc ?_ _));exact BK101.out)) : gb101 ≠ gb102));have n6_:=Aside0.mk ((by rw [hg];exact Nat.ne_of_gt (blk_lt (g:=gb101) (o:=.cells #[.slice A0_0 l0_0.length c0_0] 104 (0,0)) (by (with_reducible repeat (first|refine blk_drewN ?_ _|refine blk_drew ?_|refine blk_alloc ?_ _));exact BK101.out)) : gb102 ≠ gb101));clear BK101;clear HB;have BK101:=n0_;have HB:=n1_;have BK102:=n2_;have GW102:=n3_;have GE102:=n4_;have NB101_102:=n5_;have NB102_101:=n6_;clear n0_ n1_ n2_ n3_ n4_ n5_ n6_;clear hb hbox hg)|((with_reducible refine gate_dst (N:=6) rfl ?_);refine box_event ?hg (N:=6) ?hd (cs:=#[.int .i64 0,.int .i64 0,.int .i64 0]) (t:=108) ?hr ?_;(case hd => rfl);(case hg => rfl);(case hr => first|(go_simp;done)|(go_simp;rfl));intro gb103 hg w11 hbox hb;have n0_:=Aside0.mk (blk_below (g:=gb101) (o:=.cells #[.slice A0_0 l0_0.length c0_0] 104 (0,0)) (by (with_reducible repeat (first|refine blk_drewN ?_ _|refine blk_drew ?_|refine blk_alloc ?_ _));exact BK101.out) hb);have n1_:=Aside0.mk (blk_below (g:=gb102) (o:=.cells #[.int .i64 a1_0,.bool a1_1,.int .i64 a1_2] 37 (0,0)) (by (with_reducible repeat (first|refine blk_drewN ?_ _|refine blk_drew ?_|refine blk_alloc ?_ _));exact BK102.out) hb);have n2_:=Aside0.mk (below_step (by repeat (first|(with_reducible first|exact HB.out|apply below_alloc|apply pw_below_drewN|apply below_drew1|refine below_set ?_ GE101.out|refine below_set ?_ GE102.out)|exact HB.out)) hb);have n3_:=Aside0.mk (hbox);have n4_:=Aside0.mk ((by rw [hg];exact (below_size (by repeat (first|(with_reducible first|exact HB.out|apply below_alloc|apply pw_below_drewN|apply below_drew1|refine below_set ?_ GE101.out|refine below_set ?_ GE102.out)|exact HB.out))) : w.heap.size ≤ gb103));have n5_:=Aside0.mk ((by rw [hg];exact (below_size (by repeat (first|(with_reducible first|exact HB.out|apply below_alloc|apply pw_below_drewN|apply below_drew1|refine below_set ?_ GE101.out|refine below_set ?_ GE102.out)|exact HB.out))) : w.heap.size ≤ gb103));have n6_:=Aside0.mk ((by rw [hg];exact Nat.ne_of_lt (blk_lt (g:=gb101) (o:=.cells #[.slice A0_0 l0_0.length c0_0] 104 (0,0)) (by (with_reducible repeat (first|refine blk_drewN ?_ _|refine blk_drew ?_|refine blk_alloc ?_ _));exact BK101.out)) : gb101 ≠ gb103));have n7_:=Aside0.mk ((by rw [hg];exact Nat.ne_of_gt (blk_lt (g:=gb101) (o:=.cells #[.slice A0_0 l0_0.length c0_0] 104 (0,0)) (by (with_reducible repeat (first|refine blk_drewN ?_ _|refine blk_drew ?_|refine blk_alloc ?_ _));exact BK101.out)) : gb103 ≠ gb101));have n8_:=Aside0.mk ((by rw [hg];exact Nat.ne_of_lt (blk_lt (g:=gb102) (o:=.cells #[.int .i64 a1_0,.bool a1_1,.int .i64 a1_2] 37 (0,0)) (by (with_reducible repeat (first|refine blk_drewN ?_ _|refine blk_drew ?_|refine blk_alloc ?_ _));exact BK102.out)) : gb102 ≠ gb103));have n9_:=Aside0.mk ((by rw [hg];exact Nat.ne_of_gt (blk_lt (g:=gb102) (o:=.cells #[.int .i64 a1_0,.bool a1_1,.int .i64 a1_2] 37 (0,0)) (by (with_reducible repeat (first|refine blk_drewN ?_ _|refine blk_drew ?_|refine blk_alloc ?_ _));exact BK102.out)) : gb103 ≠ gb102));clear BK101;clear BK102;clear HB;have BK101:=n0_;have BK102:=n1_;have HB:=n2_;have BK103:=n3_;have GW103:=n4_;have GE103:=n5_;have NB101_103:=n6_;have NB103_101:=n7_;have NB102_103:=n8_;have NB103_102:=n9_;clear n0_ n1_ n2_ n3_ n4_ n5_ n6_ n7_ n8_ n9_;clear hb hbox hg;have hnb12:=NB101_102.out;have hnc12:=NB102_101.out;have hnb13:=NB101_103.out;have hnc13:=NB103_101.out;have hcz14_0 : w11.cell? ⟨gb101,0,none⟩ = some (.slice A0_0 l0_0.length c0_0):=(blk_cell BK101.out 0).trans rfl;have hfz14_0:=blk_frozen BK101.out 0;have hnb15:=NB102_103.out;have hnc15:=NB103_102.out;have hcz16_0 : w11.cell? ⟨gb102,0,none⟩ = some (.int .i64 a1_0):=(blk_cell BK102.out 0).trans rfl;have hcz16_1 : w11.cell? ⟨gb102,1,none⟩ = some (.bool a1_1):=(blk_cell BK102.out 1).trans rfl;have hcz16_2 : w11.cell? ⟨gb102,2,none⟩ = some (.int .i64 a1_2):=(blk_cell BK102.out 2).trans rfl;have hfz16_0:=blk_frozen BK102.out 0;have hfz16_1:=blk_frozen BK102.out 1;have hfz16_2:=blk_frozen BK102.out 2)|((with_reducible refine gate_callee (f:=116) rfl ?_);refine goesL_ (some 10) rfl rfl Try.func116 (by kernel_rfl) rfl #[.agg #[.slice A0_0 l0_0.length c0_0],.agg #[.int .i64 a1_0,.bool a1_1,.int .i64 a1_2]] rfl (by (try simp only [List.map_toArray,List.map_cons,List.map_nil]);first|done|rfl|(simp only [List.length_drop,List.length_take];rfl)) ?_;(with_reducible refine (impl_layoutCode.calls k _ _ l0_0 a1_0 a1_1 a1_2 t104 _ ?side1 ?side2 A4.out).mono ?_);(case side1 => repeat (first|exact (Kd.C_below HR0_0.out HB.out)|(with_reducible refine Kd.C_alloc ?_ _)|(with_reducible refine Kd.C_drewN ?_ _)|(with_reducible refine Kd.C_drew ?_)));(case side2 => exact HC0_0.out);rintro e w17 ⟨rfl,hb⟩;refine ⟨_,rfl,?_⟩;have n0_:=Aside0.mk (blk_below (g:=gb101) (o:=.cells #[.slice A0_0 l0_0.length c0_0] 104 (0,0)) (by (with_reducible repeat (first|refine blk_drewN ?_ _|refine blk_drew ?_|refine blk_alloc ?_ _));exact BK101.out) hb);have n1_:=Aside0.mk (blk_below (g:=gb102) (o:=.cells #[.int .i64 a1_0,.bool a1_1,.int .i64 a1_2] 37 (0,0)) (by (with_reducible repeat (first|refine blk_drewN ?_ _|refine blk_drew ?_|refine blk_alloc ?_ _));exact BK102.out) hb);have n2_:=Aside0.mk (blk_below (g:=gb103) (o:=.cells #[.int .i64 0,.int .i64 0,.int .i64 0] 108 (0,0)) (by (with_reducible repeat (first|refine blk_drewN ?_ _|refine blk_drew ?_|refine blk_alloc ?_ _));exact BK103.out) hb);have n3_:=Aside0.mk (below_step (by repeat (first|(with_reducible first|exact HB.out|apply below_alloc|apply pw_below_drewN|apply below_drew1|refine below_set ?_ GE101.out|refine below_set ?_ GE102.out|refine below_set ?_ GE103.out)|exact HB.out)) hb);clear BK101;clear BK102;clear BK103;clear HB;have BK101:=n0_;have BK102:=n1_;have BK103:=n2_;have HB:=n3_;clear n0_ n1_ n2_ n3_;(try clear hb);(try clear hb2);(try clear hk);(try clear hi))|((with_reducible refine gate_callee (f:=74) rfl ?_);refine goesL_ (some 16) rfl rfl Try.func74 (by kernel_rfl) rfl #[.int .i64 a2,.int .i64 1,.int .i64 20] rfl (by (try simp only [List.map_toArray,List.map_cons,List.map_nil]);first|done|rfl|(simp only [List.length_drop,List.length_take];rfl)) ?_;(with_reducible refine (impl_within.calls a2 1 20 true _ A6.out).mono ?_);rintro e w' ⟨rfl,⟨nd,rfl⟩⟩;refine ⟨_,rfl,?_⟩;(try (rw [drewN_self w17];generalize hq_ : World.drewN w17 _ = w17;have n0_ : Aside0 (w17.heap[gb101]? = some (.cells #[.slice A0_0 l0_0.length c0_0] 104 (0,0))):=⟨by rw [← hq_];exact (by (with_reducible repeat (first|refine blk_drewN ?_ _|refine blk_drew ?_|refine blk_alloc ?_ _));exact BK101.out)⟩;have n1_ : Aside0 (w17.heap[gb102]? = some (.cells #[.int .i64 a1_0,.bool a1_1,.int .i64 a1_2] 37 (0,0))):=⟨by rw [← hq_];exact (by (with_reducible repeat (first|refine blk_drewN ?_ _|refine blk_drew ?_|refine blk_alloc ?_ _));exact BK102.out)⟩;have n2_ : Aside0 (w17.heap[gb103]? = some (.cells #[.int .i64 0,.int .i64 0,.int .i64 0] 108 (0,0))):=⟨by rw [← hq_];exact (by (with_reducible repeat (first|refine blk_drewN ?_ _|refine blk_drew ?_|refine blk_alloc ?_ _));exact BK103.out)⟩;have n3_ : Aside0 (Below w.heap.size w w17):=⟨by rw [← hq_];exact (by repeat (first|(with_reducible first|exact HB.out|apply below_alloc|apply pw_below_drewN|apply below_drew1|refine below_set ?_ GE101.out|refine below_set ?_ GE102.out|refine below_set ?_ GE103.out)|exact HB.out))⟩;clear BK101 BK102 BK103 HB hq_;have BK101:=n0_;have BK102:=n1_;have BK103:=n2_;have HB:=n3_;clear n0_ n1_ n2_ n3_));have hcz18_0 : w17.cell? ⟨gb101,0,none⟩ = some (.slice A0_0 l0_0.length c0_0):=(blk_cell BK101.out 0).trans rfl;have hfz18_0:=blk_frozen BK101.out 0;have hcz19_0 : w17.cell? ⟨gb102,0,none⟩ = some (.int .i64 a1_0):=(blk_cell BK102.out 0).trans rfl;have hcz19_1 : w17.cell? ⟨gb102,1,none⟩ = some (.bool a1_1):=(blk_cell BK102.out 1).trans rfl;have hcz19_2 : w17.cell? ⟨gb102,2,none⟩ = some (.int .i64 a1_2):=(blk_cell BK102.out 2).trans rfl;have hfz19_0:=blk_frozen BK102.out 0;have hfz19_1:=blk_frozen BK102.out 1;have hfz19_2:=blk_frozen BK102.out 2)|((with_reducible refine gate_callee (f:=117) rfl ?_);refine goesL_ (some 22) rfl rfl Try.func117 (by kernel_rfl) rfl #[.agg #[.slice A0_0 l0_0.length c0_0],.agg #[.int .i64 a1_0,.bool a1_1,.int .i64 a1_2],.int .i64 a2] rfl (by (try simp only [List.map_toArray,List.map_cons,List.map_nil]);first|done|rfl|(simp only [List.length_drop,List.length_take];rfl)) ?_;(with_reducible refine (impl_lastTop.calls k _ _ l0_0 a1_0 a1_1 a1_2 a2 t106 t107 _ ?side1 ?side2 A8.out).mono ?_);(case side1 => repeat (first|exact (Kd.C_below HR0_0.out HB.out)|(with_reducible refine Kd.C_alloc ?_ _)|(with_reducible refine Kd.C_drewN ?_ _)|(with_reducible refine Kd.C_drew ?_)));(case side2 => exact HC0_0.out);rintro e w20 ⟨rfl,hb⟩;refine ⟨_,rfl,?_⟩;have n0_:=Aside0.mk (blk_below (g:=gb101) (o:=.cells #[.slice A0_0 l0_0.length c0_0] 104 (0,0)) (by (with_reducible repeat (first|refine blk_drewN ?_ _|refine blk_drew ?_|refine blk_alloc ?_ _));exact BK101.out) hb);have n1_:=Aside0.mk (blk_below (g:=gb102) (o:=.cells #[.int .i64 a1_0,.bool a1_1,.int .i64 a1_2] 37 (0,0)) (by (with_reducible repeat (first|refine blk_drewN ?_ _|refine blk_drew ?_|refine blk_alloc ?_ _));exact BK102.out) hb);have n2_:=Aside0.mk (blk_below (g:=gb103) (o:=.cells #[.int .i64 0,.int .i64 0,.int .i64 0] 108 (0,0)) (by (with_reducible repeat (first|refine blk_drewN ?_ _|refine blk_drew ?_|refine blk_alloc ?_ _));exact BK103.out) hb);have n3_:=Aside0.mk (below_step (by repeat (first|(with_reducible first|exact HB.out|apply below_alloc|apply pw_below_drewN|apply below_drew1|refine below_set ?_ GE101.out|refine below_set ?_ GE102.out|refine below_set ?_ GE103.out)|exact HB.out)) hb);clear BK101;clear BK102;clear BK103;clear HB;have BK101:=n0_;have BK102:=n1_;have BK103:=n2_;have HB:=n3_;clear n0_ n1_ n2_ n3_;(try clear hb);(try clear hb2);(try clear hk);(try clear hi);have hcz21_0 : w20.cell? ⟨gb103,0,none⟩ = some (.int .i64 0):=(blk_cell BK103.out 0).trans rfl;have hcz21_1 : w20.cell? ⟨gb103,1,none⟩ = some (.int .i64 0):=(blk_cell BK103.out 1).trans rfl;have hcz21_2 : w20.cell? ⟨gb103,2,none⟩ = some (.int .i64 0):=(blk_cell BK103.out 2).trans rfl;have hfz21_0:=blk_frozen BK103.out 0;have hfz21_1:=blk_frozen BK103.out 1;have hfz21_2:=blk_frozen BK103.out 2))
     refine bodyPost_ret (results_cell_row rfl _ _ gb103 108 #[.int .i64 0,.int .i64 t106,.int .i64 t107] (0,0) _ rfl (by (with_reducible repeat (first|refine blk_drewN ?_ _|refine blk_drew ?_|refine blk_alloc ?_ _));refine blk_put (cs:=#[.int .i64 0,.int .i64 t106,.int .i64 0]) ?_ 2 _ rfl;(with_reducible repeat (first|refine blk_drewN ?_ _|refine blk_drew ?_|refine blk_alloc ?_ _));refine blk_put (cs:=#[.int .i64 0,.int .i64 0,.int .i64 0]) ?_ 1 _ rfl;(with_reducible repeat (first|refine blk_drewN ?_ _|refine blk_drew ?_|refine blk_alloc ?_ _));refine blk_put (cs:=#[.int .i64 0,.int .i64 0,.int .i64 0]) ?_ 0 _ rfl;(with_reducible repeat (first|refine blk_drewN ?_ _|refine blk_drew ?_|refine blk_alloc ?_ _));exact BK103.out) Try.underlying108 rfl (by kernel_rfl)) rfl ?_
     exact ⟨by first|rfl|(simp [errW_none,errW_some] <;> rfl)|(simp [*,errW_none,errW_some] <;> rfl),by repeat (first|(with_reducible first|exact HB.out|apply below_alloc|apply pw_below_drewN|apply below_drew1|refine below_set ?_ GE101.out|refine below_set ?_ GE102.out|refine below_set ?_ GE103.out)|exact HB.out)⟩
   · replace c7:=Bool.eq_false_iff.mpr c7
     subst c7
     have H1 : (some (3,0,0)) = some (r1,r2,r3):=by rw [if_neg (show ¬ (false = true) by decide)] at H;exact H
     clear H
     have H:=H1
     clear H1
     simp only [Option.some.injEq,Prod.mk.injEq] at H
     obtain ⟨rfl,rfl,rfl⟩:=H
     go_enter Try.func68,Try.ntmps68
     go_wp2_with (first|((with_reducible refine gate_dst (N:=3) rfl ?_);refine box_event ?hg (N:=3) ?hd (cs:=#[.slice A0_0 l0_0.length c0_0]) (t:=104) ?hr ?_;(case hd => rfl);(case hg => rfl);(case hr => first|(go_simp;done)|(go_simp;rfl));intro gb101 hg w22 hbox hb;have n0_:=Aside0.mk (below_step (by repeat (first|(with_reducible first|exact HB.out|apply below_alloc|apply pw_below_drewN|apply below_drew1)|exact HB.out)) hb);have n1_:=Aside0.mk (hbox);have n2_:=Aside0.mk ((by rw [hg];exact (below_size (by repeat (first|(with_reducible first|exact HB.out|apply below_alloc|apply pw_below_drewN|apply below_drew1)|exact HB.out))) : w.heap.size ≤ gb101));have n3_:=Aside0.mk ((by rw [hg];exact (below_size (by repeat (first|(with_reducible first|exact HB.out|apply below_alloc|apply pw_below_drewN|apply below_drew1)|exact HB.out))) : w.heap.size ≤ gb101));clear HB;have HB:=n0_;have BK101:=n1_;have GW101:=n2_;have GE101:=n3_;clear n0_ n1_ n2_ n3_;clear hb hbox hg)|((with_reducible refine gate_dst (N:=4) rfl ?_);refine box_event ?hg (N:=4) ?hd (cs:=#[.int .i64 a1_0,.bool a1_1,.int .i64 a1_2]) (t:=37) ?hr ?_;(case hd => rfl);(case hg => rfl);(case hr => first|(go_simp;done)|(go_simp;rfl));intro gb102 hg w23 hbox hb;have n0_:=Aside0.mk (blk_below (g:=gb101) (o:=.cells #[.slice A0_0 l0_0.length c0_0] 104 (0,0)) (by (with_reducible repeat (first|refine blk_drewN ?_ _|refine blk_drew ?_|refine blk_alloc ?_ _));exact BK101.out) hb);have n1_:=Aside0.mk (below_step (by repeat (first|(with_reducible first|exact HB.out|apply below_alloc|apply pw_below_drewN|apply below_drew1|refine below_set ?_ GE101.out)|exact HB.out)) hb);have n2_:=Aside0.mk (hbox);have n3_:=Aside0.mk ((by rw [hg];exact (below_size (by repeat (first|(with_reducible first|exact HB.out|apply below_alloc|apply pw_below_drewN|apply below_drew1|refine below_set ?_ GE101.out)|exact HB.out))) : w.heap.size ≤ gb102));have n4_:=Aside0.mk ((by rw [hg];exact (below_size (by repeat (first|(with_reducible first|exact HB.out|apply below_alloc|apply pw_below_drewN|apply below_drew1|refine below_set ?_ GE101.out)|exact HB.out))) : w.heap.size ≤ gb102));have n5_:=Aside0.mk ((by rw [hg];exact Nat.ne_of_lt (blk_lt (g:=gb101) (o:=.cells #[.slice A0_0 l0_0.length c0_0] 104 (0,0)) (by (with_reducible repeat (first|refine blk_drewN ?_ _|refine blk_drew ?_|refine blk_alloc ?_ _));exact BK101.out)) : gb101 ≠ gb102));have n6_:=Aside0.mk ((by rw [hg];exact Nat.ne_of_gt (blk_lt (g:=gb101) (o:=.cells #[.slice A0_0 l0_0.length c0_0] 104 (0,0)) (by (with_reducible repeat (first|refine blk_drewN ?_ _|refine blk_drew ?_|refine blk_alloc ?_ _));exact BK101.out)) : gb102 ≠ gb101));clear BK101;clear HB;have BK101:=n0_;have HB:=n1_;have BK102:=n2_;have GW102:=n3_;have GE102:=n4_;have NB101_102:=n5_;have NB102_101:=n6_;clear n0_ n1_ n2_ n3_ n4_ n5_ n6_;clear hb hbox hg)|((with_reducible refine gate_dst (N:=6) rfl ?_);refine box_event ?hg (N:=6) ?hd (cs:=#[.int .i64 0,.int .i64 0,.int .i64 0]) (t:=108) ?hr ?_;(case hd => rfl);(case hg => rfl);(case hr => first|(go_simp;done)|(go_simp;rfl));intro gb103 hg w24 hbox hb;have n0_:=Aside0.mk (blk_below (g:=gb101) (o:=.cells #[.slice A0_0 l0_0.length c0_0] 104 (0,0)) (by (with_reducible repeat (first|refine blk_drewN ?_ _|refine blk_drew ?_|refine blk_alloc ?_ _));exact BK101.out) hb);have n1_:=Aside0.mk (blk_below (g:=gb102) (o:=.cells #[.int .i64 a1_0,.bool a1_1,.int .i64 a1_2] 37 (0,0)) (by (with_reducible repeat (first|refine blk_drewN ?_ _|refine blk_drew ?_|refine blk_alloc ?_ _));exact BK102.out) hb);have n2_:=Aside0.mk (below_step (by repeat (first|(with_reducible first|exact HB.out|apply below_alloc|apply pw_below_drewN|apply below_drew1|refine below_set ?_ GE101.out|refine below_set ?_ GE102.out)|exact HB.out)) hb);have n3_:=Aside0.mk (hbox);have n4_:=Aside0.mk ((by rw [hg];exact (below_size (by repeat (first|(with_reducible first|exact HB.out|apply below_alloc|apply pw_below_drewN|apply below_drew1|refine below_set ?_ GE101.out|refine below_set ?_ GE102.out)|exact HB.out))) : w.heap.size ≤ gb103));have n5_:=Aside0.mk ((by rw [hg];exact (below_size (by repeat (first|(with_reducible first|exact HB.out|apply below_alloc|apply pw_below_drewN|apply below_drew1|refine below_set ?_ GE101.out|refine below_set ?_ GE102.out)|exact HB.out))) : w.heap.size ≤ gb103));have n6_:=Aside0.mk ((by rw [hg];exact Nat.ne_of_lt (blk_lt (g:=gb101) (o:=.cells #[.slice A0_0 l0_0.length c0_0] 104 (0,0)) (by (with_reducible repeat (first|refine blk_drewN ?_ _|refine blk_drew ?_|refine blk_alloc ?_ _));exact BK101.out)) : gb101 ≠ gb103));have n7_:=Aside0.mk ((by rw [hg];exact Nat.ne_of_gt (blk_lt (g:=gb101) (o:=.cells #[.slice A0_0 l0_0.length c0_0] 104 (0,0)) (by (with_reducible repeat (first|refine blk_drewN ?_ _|refine blk_drew ?_|refine blk_alloc ?_ _));exact BK101.out)) : gb103 ≠ gb101));have n8_:=Aside0.mk ((by rw [hg];exact Nat.ne_of_lt (blk_lt (g:=gb102) (o:=.cells #[.int .i64 a1_0,.bool a1_1,.int .i64 a1_2] 37 (0,0)) (by (with_reducible repeat (first|refine blk_drewN ?_ _|refine blk_drew ?_|refine blk_alloc ?_ _));exact BK102.out)) : gb102 ≠ gb103));have n9_:=Aside0.mk ((by rw [hg];exact Nat.ne_of_gt (blk_lt (g:=gb102) (o:=.cells #[.int .i64 a1_0,.bool a1_1,.int .i64 a1_2] 37 (0,0)) (by (with_reducible repeat (first|refine blk_drewN ?_ _|refine blk_drew ?_|refine blk_alloc ?_ _));exact BK102.out)) : gb103 ≠ gb102));clear BK101;clear BK102;clear HB;have BK101:=n0_;have BK102:=n1_;have HB:=n2_;have BK103:=n3_;have GW103:=n4_;have GE103:=n5_;have NB101_103:=n6_;have NB103_101:=n7_;have NB102_103:=n8_;have NB103_102:=n9_;clear n0_ n1_ n2_ n3_ n4_ n5_ n6_ n7_ n8_ n9_;clear hb hbox hg;have hnb25:=NB101_102.out;have hnc25:=NB102_101.out;have hnb26:=NB101_103.out;have hnc26:=NB103_101.out;have hcz27_0 : w24.cell? ⟨gb101,0,none⟩ = some (.slice A0_0 l0_0.length c0_0):=(blk_cell BK101.out 0).trans rfl;have hfz27_0:=blk_frozen BK101.out 0;have hnb28:=NB102_103.out;have hnc28:=NB103_102.out;have hcz29_0 : w24.cell? ⟨gb102,0,none⟩ = some (.int .i64 a1_0):=(blk_cell BK102.out 0).trans rfl;have hcz29_1 : w24.cell? ⟨gb102,1,none⟩ = some (.bool a1_1):=(blk_cell BK102.out 1).trans rfl;have hcz29_2 : w24.cell? ⟨gb102,2,none⟩ = some (.int .i64 a1_2):=(blk_cell BK102.out 2).trans rfl;have hfz29_0:=blk_frozen BK102.out 0;have hfz29_1:=blk_frozen BK102.out 1;have hfz29_2:=blk_frozen BK102.out 2)|((with_reducible refine gate_callee (f:=116) rfl ?_);refine goesL_ (some 10) rfl rfl Try.func116 (by kernel_rfl) rfl #[.agg #[.slice A0_0 l0_0.length c0_0],.agg #[.int .i64 a1_0,.bool a1_1,.int .i64 a1_2]] rfl (by (try simp only [List.map_toArray,List.map_cons,List.map_nil]);first|done|rfl|(simp only [List.length_drop,List.length_take];rfl)) ?_;(with_reducible refine (impl_layoutCode.calls k _ _ l0_0 a1_0 a1_1 a1_2 t104 _ ?side1 ?side2 A4.out).mono ?_);(case side1 => repeat (first|exact (Kd.C_below HR0_0.out HB.out)|(with_reducible refine Kd.C_alloc ?_ _)|(with_reducible refine Kd.C_drewN ?_ _)|(with_reducible refine Kd.C_drew ?_)));(case side2 => exact HC0_0.out);rintro e w30 ⟨rfl,hb⟩;refine ⟨_,rfl,?_⟩;have n0_:=Aside0.mk (blk_below (g:=gb101) (o:=.cells #[.slice A0_0 l0_0.length c0_0] 104 (0,0)) (by (with_reducible repeat (first|refine blk_drewN ?_ _|refine blk_drew ?_|refine blk_alloc ?_ _));exact BK101.out) hb);have n1_:=Aside0.mk (blk_below (g:=gb102) (o:=.cells #[.int .i64 a1_0,.bool a1_1,.int .i64 a1_2] 37 (0,0)) (by (with_reducible repeat (first|refine blk_drewN ?_ _|refine blk_drew ?_|refine blk_alloc ?_ _));exact BK102.out) hb);have n2_:=Aside0.mk (blk_below (g:=gb103) (o:=.cells #[.int .i64 0,.int .i64 0,.int .i64 0] 108 (0,0)) (by (with_reducible repeat (first|refine blk_drewN ?_ _|refine blk_drew ?_|refine blk_alloc ?_ _));exact BK103.out) hb);have n3_:=Aside0.mk (below_step (by repeat (first|(with_reducible first|exact HB.out|apply below_alloc|apply pw_below_drewN|apply below_drew1|refine below_set ?_ GE101.out|refine below_set ?_ GE102.out|refine below_set ?_ GE103.out)|exact HB.out)) hb);clear BK101;clear BK102;clear BK103;clear HB;have BK101:=n0_;have BK102:=n1_;have BK103:=n2_;have HB:=n3_;clear n0_ n1_ n2_ n3_;(try clear hb);(try clear hb2);(try clear hk);(try clear hi))|((with_reducible refine gate_callee (f:=74) rfl ?_);refine goesL_ (some 16) rfl rfl Try.func74 (by kernel_rfl) rfl #[.int .i64 a2,.int .i64 1,.int .i64 20] rfl (by (try simp only [List.map_toArray,List.map_cons,List.map_nil]);first|done|rfl|(simp only [List.length_drop,List.length_take];rfl)) ?_;(with_reducible refine (impl_within.calls a2 1 20 false _ A6.out).mono ?_);rintro e w' ⟨rfl,⟨nd,rfl⟩⟩;refine ⟨_,rfl,?_⟩;(try (rw [drewN_self w30];generalize hq_ : World.drewN w30 _ = w30;have n0_ : Aside0 (w30.heap[gb101]? = some (.cells #[.slice A0_0 l0_0.length c0_0] 104 (0,0))):=⟨by rw [← hq_];exact (by (with_reducible repeat (first|refine blk_drewN ?_ _|refine blk_drew ?_|refine blk_alloc ?_ _));exact BK101.out)⟩;have n1_ : Aside0 (w30.heap[gb102]? = some (.cells #[.int .i64 a1_0,.bool a1_1,.int .i64 a1_2] 37 (0,0))):=⟨by rw [← hq_];exact (by (with_reducible repeat (first|refine blk_drewN ?_ _|refine blk_drew ?_|refine blk_alloc ?_ _));exact BK102.out)⟩;have n2_ : Aside0 (w30.heap[gb103]? = some (.cells #[.int .i64 0,.int .i64 0,.int .i64 0] 108 (0,0))):=⟨by rw [← hq_];exact (by (with_reducible repeat (first|refine blk_drewN ?_ _|refine blk_drew ?_|refine blk_alloc ?_ _));exact BK103.out)⟩;have n3_ : Aside0 (Below w.heap.size w w30):=⟨by rw [← hq_];exact (by repeat (first|(with_reducible first|exact HB.out|apply below_alloc|apply pw_below_drewN|apply below_drew1|refine below_set ?_ GE101.out|refine below_set ?_ GE102.out|refine below_set ?_ GE103.out)|exact HB.out))⟩;clear BK101 BK102 BK103 HB hq_;have BK101:=n0_;have BK102:=n1_;have BK103:=n2_;have HB:=n3_;clear n0_ n1_ n2_ n3_));have hcz31_0 : w30.cell? ⟨gb103,0,none⟩ = some (.int .i64 0):=(blk_cell BK103.out 0).trans rfl;have hcz31_1 : w30.cell? ⟨gb103,1,none⟩ = some (.int .i64 0):=(blk_cell BK103.out 1).trans rfl;have hcz31_2 : w30.cell? ⟨gb103,2,none⟩ = some (.int .i64 0):=(blk_cell BK103.out 2).trans rfl;have hfz31_0:=blk_frozen BK103.out 0;have hfz31_1:=blk_frozen BK103.out 1;have hfz31_2:=blk_frozen BK103.out 2))
     refine bodyPost_ret (results_cell_row rfl _ _ gb103 108 #[.int .i64 3,.int .i64 0,.int .i64 0] (0,0) _ rfl (by (with_reducible repeat (first|refine blk_drewN ?_ _|refine blk_drew ?_|refine blk_alloc ?_ _));refine blk_put (cs:=#[.int .i64 3,.int .i64 0,.int .i64 0]) ?_ 2 _ rfl;(with_reducible repeat (first|refine blk_drewN ?_ _|refine blk_drew ?_|refine blk_alloc ?_ _));refine blk_put (cs:=#[.int .i64 3,.int .i64 0,.int .i64 0]) ?_ 1 _ rfl;(with_reducible repeat (first|refine blk_drewN ?_ _|refine blk_drew ?_|refine blk_alloc ?_ _));refine blk_put (cs:=#[.int .i64 0,.int .i64 0,.int .i64 0]) ?_ 0 _ rfl;(with_reducible repeat (first|refine blk_drewN ?_ _|refine blk_drew ?_|refine blk_alloc ?_ _));exact BK103.out) Try.underlying108 rfl (by kernel_rfl)) rfl ?_
     exact ⟨by first|rfl|(simp [errW_none,errW_some] <;> rfl)|(simp [*,errW_none,errW_some] <;> rfl),by repeat (first|(with_reducible first|exact HB.out|apply below_alloc|apply pw_below_drewN|apply below_drew1|refine below_set ?_ GE101.out|refine below_set ?_ GE102.out|refine below_set ?_ GE103.out)|exact HB.out)⟩
 · rw [if_neg c5] at H
   have c5b0 : (t104 == 0) = false:=beq_eq_false_iff_ne.mpr c5
   have c5b1 : (t104 != 0) = true:=bne_iff_ne.mpr c5
   simp only [Option.some.injEq,Prod.mk.injEq] at H
   obtain ⟨rfl,rfl,rfl⟩:=H
   go_enter Try.func68,Try.ntmps68
   go_wp2_with (first|((with_reducible refine gate_dst (N:=3) rfl ?_);refine box_event ?hg (N:=3) ?hd (cs:=#[.slice A0_0 l0_0.length c0_0]) (t:=104) ?hr ?_;(case hd => rfl);(case hg => rfl);(case hr => first|(go_simp;done)|(go_simp;rfl));intro gb101 hg w32 hbox hb;have n0_:=Aside0.mk (below_step (by repeat (first|(with_reducible first|exact HB.out|apply below_alloc|apply pw_below_drewN|apply below_drew1)|exact HB.out)) hb);have n1_:=Aside0.mk (hbox);have n2_:=Aside0.mk ((by rw [hg];exact (below_size (by repeat (first|(with_reducible first|exact HB.out|apply below_alloc|apply pw_below_drewN|apply below_drew1)|exact HB.out))) : w.heap.size ≤ gb101));have n3_:=Aside0.mk ((by rw [hg];exact (below_size (by repeat (first|(with_reducible first|exact HB.out|apply below_alloc|apply pw_below_drewN|apply below_drew1)|exact HB.out))) : w.heap.size ≤ gb101));clear HB;have HB:=n0_;have BK101:=n1_;have GW101:=n2_;have GE101:=n3_;clear n0_ n1_ n2_ n3_;clear hb hbox hg)|((with_reducible refine gate_dst (N:=4) rfl ?_);refine box_event ?hg (N:=4) ?hd (cs:=#[.int .i64 a1_0,.bool a1_1,.int .i64 a1_2]) (t:=37) ?hr ?_;(case hd => rfl);(case hg => rfl);(case hr => first|(go_simp;done)|(go_simp;rfl));intro gb102 hg w33 hbox hb;have n0_:=Aside0.mk (blk_below (g:=gb101) (o:=.cells #[.slice A0_0 l0_0.length c0_0] 104 (0,0)) (by (with_reducible repeat (first|refine blk_drewN ?_ _|refine blk_drew ?_|refine blk_alloc ?_ _));exact BK101.out) hb);have n1_:=Aside0.mk (below_step (by repeat (first|(with_reducible first|exact HB.out|apply below_alloc|apply pw_below_drewN|apply below_drew1|refine below_set ?_ GE101.out)|exact HB.out)) hb);have n2_:=Aside0.mk (hbox);have n3_:=Aside0.mk ((by rw [hg];exact (below_size (by repeat (first|(with_reducible first|exact HB.out|apply below_alloc|apply pw_below_drewN|apply below_drew1|refine below_set ?_ GE101.out)|exact HB.out))) : w.heap.size ≤ gb102));have n4_:=Aside0.mk ((by rw [hg];exact (below_size (by repeat (first|(with_reducible first|exact HB.out|apply below_alloc|apply pw_below_drewN|apply below_drew1|refine below_set ?_ GE101.out)|exact HB.out))) : w.heap.size ≤ gb102));have n5_:=Aside0.mk ((by rw [hg];exact Nat.ne_of_lt (blk_lt (g:=gb101) (o:=.cells #[.slice A0_0 l0_0.length c0_0] 104 (0,0)) (by (with_reducible repeat (first|refine blk_drewN ?_ _|refine blk_drew ?_|refine blk_alloc ?_ _));exact BK101.out)) : gb101 ≠ gb102));have n6_:=Aside0.mk ((by rw [hg];exact Nat.ne_of_gt (blk_lt (g:=gb101) (o:=.cells #[.slice A0_0 l0_0.length c0_0] 104 (0,0)) (by (with_reducible repeat (first|refine blk_drewN ?_ _|refine blk_drew ?_|refine blk_alloc ?_ _));exact BK101.out)) : gb102 ≠ gb101));clear BK101;clear HB;have BK101:=n0_;have HB:=n1_;have BK102:=n2_;have GW102:=n3_;have GE102:=n4_;have NB101_102:=n5_;have NB102_101:=n6_;clear n0_ n1_ n2_ n3_ n4_ n5_ n6_;clear hb hbox hg)|((with_reducible refine gate_dst (N:=6) rfl ?_);refine box_event ?hg (N:=6) ?hd (cs:=#[.int .i64 0,.int .i64 0,.int .i64 0]) (t:=108) ?hr ?_;(case hd => rfl);(case hg => rfl);(case hr => first|(go_simp;done)|(go_simp;rfl));intro gb103 hg w34 hbox hb;have n0_:=Aside0.mk (blk_below (g:=gb101) (o:=.cells #[.slice A0_0 l0_0.length c0_0] 104 (0,0)) (by (with_reducible repeat (first|refine blk_drewN ?_ _|refine blk_drew ?_|refine blk_alloc ?_ _));exact BK101.out) hb);have n1_:=Aside0.mk (blk_below (g:=gb102) (o:=.cells #[.int .i64 a1_0,.bool a1_1,.int .i64 a1_2] 37 (0,0)) (by (with_reducible repeat (first|refine blk_drewN ?_ _|refine blk_drew ?_|refine blk_alloc ?_ _));exact BK102.out) hb);have n2_:=Aside0.mk (below_step (by repeat (first|(with_reducible first|exact HB.out|apply below_alloc|apply pw_below_drewN|apply below_drew1|refine below_set ?_ GE101.out|refine below_set ?_ GE102.out)|exact HB.out)) hb);have n3_:=Aside0.mk (hbox);have n4_:=Aside0.mk ((by rw [hg];exact (below_size (by repeat (first|(with_reducible first|exact HB.out|apply below_alloc|apply pw_below_drewN|apply below_drew1|refine below_set ?_ GE101.out|refine below_set ?_ GE102.out)|exact HB.out))) : w.heap.size ≤ gb103));have n5_:=Aside0.mk ((by rw [hg];exact (below_size (by repeat (first|(with_reducible first|exact HB.out|apply below_alloc|apply pw_below_drewN|apply below_drew1|refine below_set ?_ GE101.out|refine below_set ?_ GE102.out)|exact HB.out))) : w.heap.size ≤ gb103));have n6_:=Aside0.mk ((by rw [hg];exact Nat.ne_of_lt (blk_lt (g:=gb101) (o:=.cells #[.slice A0_0 l0_0.length c0_0] 104 (0,0)) (by (with_reducible repeat (first|refine blk_drewN ?_ _|refine blk_drew ?_|refine blk_alloc ?_ _));exact BK101.out)) : gb101 ≠ gb103));have n7_:=Aside0.mk ((by rw [hg];exact Nat.ne_of_gt (blk_lt (g:=gb101) (o:=.cells #[.slice A0_0 l0_0.length c0_0] 104 (0,0)) (by (with_reducible repeat (first|refine blk_drewN ?_ _|refine blk_drew ?_|refine blk_alloc ?_ _));exact BK101.out)) : gb103 ≠ gb101));have n8_:=Aside0.mk ((by rw [hg];exact Nat.ne_of_lt (blk_lt (g:=gb102) (o:=.cells #[.int .i64 a1_0,.bool a1_1,.int .i64 a1_2] 37 (0,0)) (by (with_reducible repeat (first|refine blk_drewN ?_ _|refine blk_drew ?_|refine blk_alloc ?_ _));exact BK102.out)) : gb102 ≠ gb103));have n9_:=Aside0.mk ((by rw [hg];exact Nat.ne_of_gt (blk_lt (g:=gb102) (o:=.cells #[.int .i64 a1_0,.bool a1_1,.int .i64 a1_2] 37 (0,0)) (by (with_reducible repeat (first|refine blk_drewN ?_ _|refine blk_drew ?_|refine blk_alloc ?_ _));exact BK102.out)) : gb103 ≠ gb102));clear BK101;clear BK102;clear HB;have BK101:=n0_;have BK102:=n1_;have HB:=n2_;have BK103:=n3_;have GW103:=n4_;have GE103:=n5_;have NB101_103:=n6_;have NB103_101:=n7_;have NB102_103:=n8_;have NB103_102:=n9_;clear n0_ n1_ n2_ n3_ n4_ n5_ n6_ n7_ n8_ n9_;clear hb hbox hg;have hnb35:=NB101_102.out;have hnc35:=NB102_101.out;have hnb36:=NB101_103.out;have hnc36:=NB103_101.out;have hcz37_0 : w34.cell? ⟨gb101,0,none⟩ = some (.slice A0_0 l0_0.length c0_0):=(blk_cell BK101.out 0).trans rfl;have hfz37_0:=blk_frozen BK101.out 0;have hnb38:=NB102_103.out;have hnc38:=NB103_102.out;have hcz39_0 : w34.cell? ⟨gb102,0,none⟩ = some (.int .i64 a1_0):=(blk_cell BK102.out 0).trans rfl;have hcz39_1 : w34.cell? ⟨gb102,1,none⟩ = some (.bool a1_1):=(blk_cell BK102.out 1).trans rfl;have hcz39_2 : w34.cell? ⟨gb102,2,none⟩ = some (.int .i64 a1_2):=(blk_cell BK102.out 2).trans rfl;have hfz39_0:=blk_frozen BK102.out 0;have hfz39_1:=blk_frozen BK102.out 1;have hfz39_2:=blk_frozen BK102.out 2)|((with_reducible refine gate_callee (f:=116) rfl ?_);refine goesL_ (some 10) rfl rfl Try.func116 (by kernel_rfl) rfl #[.agg #[.slice A0_0 l0_0.length c0_0],.agg #[.int .i64 a1_0,.bool a1_1,.int .i64 a1_2]] rfl (by (try simp only [List.map_toArray,List.map_cons,List.map_nil]);first|done|rfl|(simp only [List.length_drop,List.length_take];rfl)) ?_;(with_reducible refine (impl_layoutCode.calls k _ _ l0_0 a1_0 a1_1 a1_2 t104 _ ?side1 ?side2 A4.out).mono ?_);(case side1 => repeat (first|exact (Kd.C_below HR0_0.out HB.out)|(with_reducible refine Kd.C_alloc ?_ _)|(with_reducible refine Kd.C_drewN ?_ _)|(with_reducible refine Kd.C_drew ?_)));(case side2 => exact HC0_0.out);rintro e w40 ⟨rfl,hb⟩;refine ⟨_,rfl,?_⟩;have n0_:=Aside0.mk (blk_below (g:=gb101) (o:=.cells #[.slice A0_0 l0_0.length c0_0] 104 (0,0)) (by (with_reducible repeat (first|refine blk_drewN ?_ _|refine blk_drew ?_|refine blk_alloc ?_ _));exact BK101.out) hb);have n1_:=Aside0.mk (blk_below (g:=gb102) (o:=.cells #[.int .i64 a1_0,.bool a1_1,.int .i64 a1_2] 37 (0,0)) (by (with_reducible repeat (first|refine blk_drewN ?_ _|refine blk_drew ?_|refine blk_alloc ?_ _));exact BK102.out) hb);have n2_:=Aside0.mk (blk_below (g:=gb103) (o:=.cells #[.int .i64 0,.int .i64 0,.int .i64 0] 108 (0,0)) (by (with_reducible repeat (first|refine blk_drewN ?_ _|refine blk_drew ?_|refine blk_alloc ?_ _));exact BK103.out) hb);have n3_:=Aside0.mk (below_step (by repeat (first|(with_reducible first|exact HB.out|apply below_alloc|apply pw_below_drewN|apply below_drew1|refine below_set ?_ GE101.out|refine below_set ?_ GE102.out|refine below_set ?_ GE103.out)|exact HB.out)) hb);clear BK101;clear BK102;clear BK103;clear HB;have BK101:=n0_;have BK102:=n1_;have BK103:=n2_;have HB:=n3_;clear n0_ n1_ n2_ n3_;(try clear hb);(try clear hb2);(try clear hk);(try clear hi);have hcz41_0 : w40.cell? ⟨gb103,0,none⟩ = some (.int .i64 0):=(blk_cell BK103.out 0).trans rfl;have hcz41_1 : w40.cell? ⟨gb103,1,none⟩ = some (.int .i64 0):=(blk_cell BK103.out 1).trans rfl;have hcz41_2 : w40.cell? ⟨gb103,2,none⟩ = some (.int .i64 0):=(blk_cell BK103.out 2).trans rfl;have hfz41_0:=blk_frozen BK103.out 0;have hfz41_1:=blk_frozen BK103.out 1;have hfz41_2:=blk_frozen BK103.out 2))
   refine bodyPost_ret (results_cell_row rfl _ _ gb103 108 #[.int .i64 t104,.int .i64 0,.int .i64 0] (0,0) _ rfl (by (with_reducible repeat (first|refine blk_drewN ?_ _|refine blk_drew ?_|refine blk_alloc ?_ _));refine blk_put (cs:=#[.int .i64 t104,.int .i64 0,.int .i64 0]) ?_ 2 _ rfl;(with_reducible repeat (first|refine blk_drewN ?_ _|refine blk_drew ?_|refine blk_alloc ?_ _));refine blk_put (cs:=#[.int .i64 t104,.int .i64 0,.int .i64 0]) ?_ 1 _ rfl;(with_reducible repeat (first|refine blk_drewN ?_ _|refine blk_drew ?_|refine blk_alloc ?_ _));refine blk_put (cs:=#[.int .i64 0,.int .i64 0,.int .i64 0]) ?_ 0 _ rfl;(with_reducible repeat (first|refine blk_drewN ?_ _|refine blk_drew ?_|refine blk_alloc ?_ _));exact BK103.out) Try.underlying108 rfl (by kernel_rfl)) rfl ?_
   exact ⟨by first|rfl|(simp [errW_none,errW_some] <;> rfl)|(simp [*,errW_none,errW_some] <;> rfl),by repeat (first|(with_reducible first|exact HB.out|apply below_alloc|apply pw_below_drewN|apply below_drew1|refine below_set ?_ GE101.out|refine below_set ?_ GE102.out|refine below_set ?_ GE103.out)|exact HB.out)⟩
end Go.Proofs.Ytjnmhpldabbeiaa.Q
end
section
namespace Go.Proofs.Ytjnmhpldabbeiaa.Q
open Go.RowKit Go.Proofs.YtjnmhpldabbeiaaW.PrintWords Go.Proofs.YtjnmhpldabbeiaaW.PrintLast Go.Proofs.YtjnmhpldabbeiaaW.PrintMore
attribute [local go_sem] max2_int min2_int max_two min_two max_three min_three max_four min_four   -- for this text's walks alone
set_option linter.unusedVariables false
set_option linter.unusedSimpArgs false
/-! ### spec_LastTop: function 69 -/
def spec_LastTop.f (k : Nat) (l0_0 : List Int) (a1_0 : Int) (a1_1 : Bool) (a1_2 : Int) (a2 : Int) : Option (Int × Int × Int):=if M.lineOk l0_0 = true then (if M.baseF l0_0.length a1_0 a1_1 a1_2 = 0 then (if 1 ≤ a2 ∧ a2 ≤ 20 then (spec_l10Last.f k (M.cntL l0_0 a1_0 a1_1) a2).bind fun t => some (0,t.1,t.2) else some (3,0,0)) else some (M.baseF l0_0.length a1_0 a1_1 a1_2,0,0)) else none
theorem spec_LastTop.mono : ∀ a0 a1 a2 a3 a4 k,LeO (spec_LastTop.f k a0 a1 a2 a3 a4) (spec_LastTop.f (k + 1) a0 a1 a2 a3 a4):=fun a0 a1 a2 a3 a4 k => by
 unfold spec_LastTop.f
 exact LeO.ite (LeO.ite (LeO.ite (LeO.bind (spec_l10Last.mono _ _ k) (fun _ => LeO.refl _)) (LeO.refl _)) (LeO.refl _)) (LeO.refl _)
set_option maxRecDepth 20000 in
set_option maxHeartbeats 4000000 in
theorem spec_LastTop.calls (k : Nat) (A0_0 : Option Addr) (c0_0 : Nat) (l0_0 : List Int) (a1_0 : Int) (a1_1 : Bool) (a1_2 : Int) (a2 : Int) (r1 r2 r3 : Int) (w : World) (hr0_0 : Kd.C (Kd.int .u8) w A0_0 l0_0.length l0_0) (hc0_0 : l0_0.length ≤ c0_0) (h : spec_LastTop.f k l0_0 a1_0 a1_1 a1_2 a2 = some (r1,r2,r3)) :
 Calls Try.prog 69 #[.agg #[.slice A0_0 l0_0.length c0_0],.agg #[.int .i64 a1_0,.bool a1_1,.int .i64 a1_2],.int .i64 a2] w fun e w' => e = .returned (.agg #[.int .i64 r1,.int .i64 r2,.int .i64 r3]) ∧ Below w.heap.size w w':=by
 unfold spec_LastTop.f at h
 by_cases hok : M.lineOk l0_0 = true
 case neg => rw [if_neg hok] at h;cases h
 rw [if_pos hok] at h
 have HX:=Aside0.mk (M.row_ints hr0_0)
 have HOK:=Aside0.mk hok
 have hm:=M.lineOk_len hok
 obtain ⟨n,hn⟩ : ∃ n,l0_0.length = n:=⟨_,rfl⟩
 rw [hn] at hm hc0_0 h ⊢
 have HN:=Aside0.mk hn
 clear hok hr0_0 hn
 obtain ⟨W,hW⟩ : ∃ W,W = ((w.alloc (.cells #[.slice A0_0 n c0_0] 104)).alloc (.cells #[.int .i64 a1_0,.bool a1_1,.int .i64 a1_2] 37)).alloc (.cells #[.int .i64 0,.int .i64 0,.int .i64 0] 108):=⟨_,rfl⟩
 obtain ⟨b1,b2,b3,f1,f2,f3,hz,G0⟩:=M.box3 _ _ _ _ _ _ _ W hW
 have hI : W.heap[w.heap.size + 1]? = some (.cells #[.int .i64 a1_0,.bool a1_1,.int .i64 a1_2] 37 (0,0)):=by
  subst hW
  have:=heap_alloc_new (w.alloc (.cells #[.slice A0_0 n c0_0] 104)) (.cells #[.int .i64 a1_0,.bool a1_1,.int .i64 a1_2] 37)
  rw [heap_alloc_old _ _ (by simp)]
  simpa using this
 have HW:=Aside0.mk hW
 have HI:=Aside0.mk hI
 have hp : W.cell? ⟨w.heap.size,0,none⟩ = some (.slice A0_0 n c0_0):=b1 0
 have HX2:=Aside0.mk (HX.out.below G0)
 clear hW hI f1 f2 b1 b2
 obtain ⟨q0,hq0⟩ : ∃ q0,M.baseF n a1_0 a1_1 a1_2 = q0:=⟨_,rfl⟩
 rw [hq0] at h
 have HQ0:=Aside0.mk hq0
 clear hq0
 by_cases hz0 : q0 = 0
 case neg =>
  rw [if_neg hz0] at h
  simp only [Option.some.injEq,Prod.mk.injEq] at h
  obtain ⟨rfl,rfl,rfl⟩:=h
  have hz1 : (q0 != 0) = true:=by simpa using hz0
  have hz2 : (q0 == 0) = false:=by simpa using hz0
  go_enter Try.func69,Try.ntmps69
  go_wp2_with (fail)
  rw [← HW.out]
  refine M.l10Base_c w.heap.size (w.heap.size + 1) A0_0 n c0_0 a1_0 a1_1 a1_2 W hp HI.out (by omega) hm q0 HQ0.out _ ?_
  intro w1 hb1
  have b4:=M.blk_keep b3 (by omega) hb1
  have f4:=M.frz_keep f3 (by omega) hb1
  have hlt : w.heap.size + 2 < w1.heap.size:=by have:=hb1.size;omega
  have hG:=G0.trans (hb1.mono G0.size)
  clear b3 f3 hb1
  go_wp2_with (fail)
  refine bodyPost_ret (by simp [results,Try.results69,go_sem,b4,f4];try rfl) rfl ?_
  refine ⟨rfl,?_⟩
  repeat (first|exact hG|apply below_alloc|apply pw_below_drewN|apply below_drew1|refine below_set ?_ (by omega))
 subst hz0
 rw [if_pos rfl] at h
 obtain ⟨_,hlay⟩:=M.baseF_zero HQ0.out
 obtain ⟨w1',w2',_,_,_⟩:=layF_zero hlay
 clear hlay
 by_cases hh : 1 ≤ a2 ∧ a2 ≤ 20
 case neg =>
  rw [if_neg hh] at h
  simp only [Option.some.injEq,Prod.mk.injEq] at h
  obtain ⟨rfl,rfl,rfl⟩:=h
  have HH : Aside0 (spec_l1In.f a2 1 20 = some false):=⟨by rw [l1In_eq,decide_eq_false hh]⟩
  go_enter Try.func69,Try.ntmps69
  go_wp2_with (fail)
  rw [← HW.out]
  refine M.l10Base_c w.heap.size (w.heap.size + 1) A0_0 n c0_0 a1_0 a1_1 a1_2 W hp HI.out (by omega) hm 0 HQ0.out _ ?_
  intro w1 hb1
  have b4:=M.blk_keep b3 (by omega) hb1
  have f4:=M.frz_keep f3 (by omega) hb1
  have hlt : w.heap.size + 2 < w1.heap.size:=by have:=hb1.size;omega
  have hG:=G0.trans (hb1.mono G0.size)
  clear b3 f3 hb1
  go_wp2_with (first|(go_at_call 78;refine (spec_l1In.calls a2 1 20 false _ HH.out).mono ?_;rintro e w' ⟨rfl,⟨nd,rfl⟩⟩))
  refine bodyPost_ret (by simp [results,Try.results69,go_sem,b4,f4];try rfl) rfl ?_
  refine ⟨rfl,?_⟩
  repeat (first|exact hG|apply below_alloc|apply pw_below_drewN|apply below_drew1|refine below_set ?_ (by omega))
 rw [if_pos hh] at h
 have HH : Aside0 (spec_l1In.f a2 1 20 = some true):=⟨by rw [l1In_eq,decide_eq_true hh]⟩
 obtain ⟨⟨t1,t2⟩,h3,h4⟩:=Option.bind_eq_some_iff.mp h
 simp only [Option.some.injEq,Prod.mk.injEq] at h4
 obtain ⟨rfl,rfl,rfl⟩:=h4
 have H3:=Aside0.mk h3
 clear h h3 hh
 go_enter Try.func69,Try.ntmps69
 go_wp2_with (fail)
 rw [← HW.out]
 refine M.l10Base_c w.heap.size (w.heap.size + 1) A0_0 n c0_0 a1_0 a1_1 a1_2 W hp HI.out (by omega) hm 0 HQ0.out _ ?_
 intro w1 hb1
 have b4:=M.blk_keep b3 (by omega) hb1
 have f4:=M.frz_keep f3 (by omega) hb1
 have hlt : w.heap.size + 2 < w1.heap.size:=by have:=hb1.size;omega
 have hG:=G0.trans (hb1.mono G0.size)
 have hp1:=M.cell_below hb1 hp
 have HI1:=Aside0.mk ((hb1.block (w.heap.size + 1) (by omega)).trans HI.out)
 have HX3:=Aside0.mk (HX2.out.below hb1)
 clear b3 f3 hb1 hp
 go_wp2_with (first|(go_at_call 78;refine (spec_l1In.calls a2 1 20 true _ HH.out).mono ?_;rintro e w' ⟨rfl,⟨nd,rfl⟩⟩))
 obtain ⟨w2,hw2⟩ : ∃ w2,w2 = w1.drewN nd:=⟨_,rfl⟩
 rw [← hw2]
 have hb2 : Below w1.heap.size w1 w2:=by rw [hw2];exact M.bdN (Below.refl _ _) nd
 clear hw2
 refine M.l10Counts_c w.heap.size (w.heap.size + 1) A0_0 n c0_0 l0_0 a1_0 a1_1 a1_2 w2 (M.cell_below hb2 hp1) ((hb2.block (w.heap.size + 1) (by omega)).trans HI1.out) HN.out (HX3.out.below hb2) hc0_0 HOK.out w1' w2' (by have:=hb2.size;omega) _ ?_
 intro A2 c2 w3 ho2 hc2 hm2 hb3
 have b5:=M.blk_keep (M.blk_keep b4 hlt hb2) (by have:=hb2.size;omega) hb3
 have f5:=M.frz_keep (M.frz_keep f4 hlt hb2) (by have:=hb2.size;omega) hb3
 have hlt3 : w.heap.size + 2 < w3.heap.size:=by have:=hb2.size;have:=hb3.size;omega
 have hG2:=hG.trans (hb2.mono hG.size)
 have hG3:=hG2.trans (hb3.mono hG2.size)
 have HC:=Aside0.mk (show Kd.C (Kd.int .i64) w3 A2 (M.cntL l0_0 a1_0 a1_1).length (M.cntL l0_0 a1_0 a1_1) from M.C_ints (by unfold maxLen at hm2;omega) ho2.rowOf)
 clear b4 f4 hb2 hb3 ho2 hG hG2
 go_wp2_with (fail)
 refine (spec_l10Last.calls k A2 c2 (M.cntL l0_0 a1_0 a1_1) a2 t1 t2 _ HC.out hc2 H3.out).mono ?_
 rintro e w4 ⟨rfl,hb4⟩
 have b6:=M.blk_keep b5 hlt3 hb4
 have f6:=M.frz_keep f5 hlt3 hb4
 have hlt4 : w.heap.size + 2 < w4.heap.size:=by have:=hb4.size;omega
 have hG4:=hG3.trans (hb4.mono hG3.size)
 clear b5 f5 hb4
 go_wp2_with (fail)
 refine bodyPost_ret (by simp [results,Try.results69,go_sem,b6,f6];try rfl) rfl ?_
 refine ⟨rfl,?_⟩
 repeat (first|exact hG4|apply below_alloc|apply pw_below_drewN|apply below_drew1|refine below_set ?_ (by omega))
end Go.Proofs.Ytjnmhpldabbeiaa.Q
end
section
namespace Go.Proofs.Ytjnmhpldabbeiaa.Q
open Go.RowKit Go.Proofs.YtjnmhpldabbeiaaW.PrintWords Go.Proofs.YtjnmhpldabbeiaaW.PrintLast Go.Proofs.YtjnmhpldabbeiaaW.PrintMore Go.Proofs.Ytjnmhpldabbeiaa.L
def lastF (cs : List Int) (h : Int) : Int × Int := if cs.length = 0 then (0, 0) else (((moveS cs (cs.length - 1, atL cs (cs.length - 1) - 1) (1 - h)).1 : Int), (moveS cs (cs.length - 1, atL cs (cs.length - 1) - 1) (1 - h)).2)
theorem last_ok {cs : List Int} (h : CntOk cs) (h0 : ¬ cs.length = 0) : OkS cs (cs.length - 1) (atL cs (cs.length - 1) - 1) ∧ rd cs ((cs.length : Int) - 1) = atL cs (cs.length - 1) ∧ 1 ≤ atL cs (cs.length - 1) ∧ atL cs (cs.length - 1) ≤ 1073741824 := by
  have hlt : cs.length - 1 < cs.length := by omega
  have ha : atL cs (cs.length - 1) = cs[cs.length - 1] := by rw [atL, List.getElem?_eq_getElem hlt]; rfl
  have hp := h.pos _ (List.getElem_mem hlt)
  have ht := h.top _ (List.getElem_mem hlt)
  refine ⟨⟨cs[cs.length - 1], List.getElem?_eq_getElem hlt, by omega, by omega⟩, ?_, by omega, by omega⟩
  rw [show (cs.length : Int) - 1 = ((cs.length - 1 : Nat) : Int) by omega, rd_nat cs _ hlt, ha]
theorem s_last {cs : List Int} (h : CntOk cs) (t : Int) (ht : 1 ≤ t ∧ t ≤ 20) : Ev (fun k => spec_l10Last.f k cs t) (lastF cs t) := by
  have hl := h.len
  unfold spec_l10Last.f
  by_cases h0 : cs.length = 0
  · have e : lastF cs t = (0, 0) := by unfold lastF; rw [if_pos h0]
    rw [e]
    exact Ev.pos (by omega) (Ev.now _)
  · have e : lastF cs t = (((moveS cs (cs.length - 1, atL cs (cs.length - 1) - 1) (1 - t)).1 : Int), (moveS cs (cs.length - 1, atL cs (cs.length - 1) - 1) (1 - t)).2) := by unfold lastF; rw [if_neg h0]
    obtain ⟨ho, hr, a1, a2⟩ := last_ok h h0
    rw [e, w64 (x := (cs.length : Int) - 1) (by omega) (by omega), hr, w64 (x := atL cs (cs.length - 1) - 1) (by omega) (by omega), w64 (x := 1 - t) (by omega) (by omega)]
    refine Ev.neg (by omega) (Ev.pos (by omega) (Ev.pos (by omega) ?_))
    rw [show (cs.length : Int) - 1 = ((cs.length - 1 : Nat) : Int) by omega]
    exact Ev.bind (move_ev h ho (1 - t) (by omega)) (Ev.now _)
theorem i_last {l : List Int} (ho : M.lineOk l = true) {wd : Int} (ch : Bool) (sh : Int) (h1 : 1 ≤ wd) (h2 : wd ≤ 40) (t : Int) (ht : 1 ≤ t ∧ t ≤ 20) : Ev (fun k => impl_lastTop.f k l wd ch sh t) (lastF (M.cntL l wd ch) t) := by
  have h := cntOk (M.lineOk_len ho) ch h1
  have hl := h.len
  unfold impl_lastTop.f
  refine Ev.bind0 (rowsOf_eq ho ch sh h1 h2) ?_
  generalize M.cntL l wd ch = cs at *
  by_cases h0 : cs.length = 0
  · have e : lastF cs t = (0, 0) := by unfold lastF; rw [if_pos h0]
    rw [e, w64 (x := (cs.length : Int) - 1) (by omega) (by omega)]
    exact Ev.pos (by omega) (Ev.now _)
  · have e : lastF cs t = (((moveS cs (cs.length - 1, atL cs (cs.length - 1) - 1) (1 - t)).1 : Int), (moveS cs (cs.length - 1, atL cs (cs.length - 1) - 1) (1 - t)).2) := by unfold lastF; rw [if_neg h0]
    obtain ⟨ho, hr, a1, a2⟩ := last_ok h h0
    rw [e, w64 (x := (cs.length : Int) - 1) (by omega) (by omega), hr, w64 (x := atL cs (cs.length - 1) - 1) (by omega) (by omega), w64 (x := 1 - t) (by omega) (by omega)]
    refine Ev.neg (by omega) (Ev.pos (by omega) (Ev.pos (by omega) ?_))
    rw [show (cs.length : Int) - 1 = ((cs.length - 1 : Nat) : Int) by omega]
    exact Ev.bind (moved_ev h ho (1 - t) (by omega)) (Ev.now _)
theorem lastTop_same {l : List Int} (ho : M.lineOk l = true) (wd : Int) (ch : Bool) (sh t : Int) : ∃ a b c : Int, Ev (fun k => spec_LastTop.f k l wd ch sh t) (a, b, c) ∧ Ev (fun k => impl_LastTop.f k l wd ch sh t) (a, b, c) := by
  unfold spec_LastTop.f impl_LastTop.f
  by_cases hz : M.baseF l.length wd ch sh = 0
  · obtain ⟨_, hlay⟩ := M.baseF_zero hz
    obtain ⟨w1, w2, _⟩ := layF_zero hlay
    by_cases ht : 1 ≤ t ∧ t ≤ 20
    · exact ⟨0, (lastF (M.cntL l wd ch) t).1, (lastF (M.cntL l wd ch) t).2, Ev.pos ho (Ev.pos hz (Ev.pos ht (Ev.bind (s_last (cntOk (M.lineOk_len ho) ch w1) t ht) (Ev.now _)))), Ev.bind (layoutCode_ev l wd ch sh) (Ev.pos hz (Ev.bind0 (within_eq t 1 20) (Ev.pos (decide_eq_true ht) (Ev.bind (i_last ho ch sh w1 w2 t ht) (Ev.now _)))))⟩
    · exact ⟨3, 0, 0, Ev.pos ho (Ev.pos hz (Ev.neg ht (Ev.now _))), Ev.bind (layoutCode_ev l wd ch sh) (Ev.pos hz (Ev.bind0 (within_eq t 1 20) (Ev.neg (by simpa using ht) (Ev.now _))))⟩
  · exact ⟨_, 0, 0, Ev.pos ho (Ev.neg hz (Ev.now _)), Ev.bind (layoutCode_ev l wd ch sh) (Ev.neg hz (Ev.now _))⟩
end Go.Proofs.Ytjnmhpldabbeiaa.Q
end
section
namespace Go.Proofs.Ytjnmhpldabbeiaa.Q
open Go.RowKit Go.Proofs.YtjnmhpldabbeiaaW.PrintWords Go.Proofs.YtjnmhpldabbeiaaW.PrintLast Go.Proofs.YtjnmhpldabbeiaaW.PrintMore Go.Proofs.Ytjnmhpldabbeiaa.L
/-! ### how many rows in all -/
theorem lin_sum (wd : Int) (h1 : 1 ≤ wd) (ch : Bool) (l : List Int) : ∀ (xs : List Int) (i f : Nat), f ≤ i → sumL ((M.lin xs i f).map (M.cntS l wd ch)) ≤ 4 * ((i - f : Nat) : Int) + 5 * xs.length + 1
  | [], i, f, hf => by
    unfold M.lin
    split
    · simp only [List.map_cons, List.map_nil, sumL]
      have a := rowN_in (n := (cellsS (M.subL l (f : Int).toNat ((i : Int) - (f : Int)).toNat)).length) ch h1
      have b := cellsS_len (M.subL l (f : Int).toNat ((i : Int) - (f : Int)).toNat)
      have c : (M.subL l (f : Int).toNat ((i : Int) - (f : Int)).toNat).length ≤ i - f := by rw [M.subL, List.length_drop, List.length_take]; omega
      have hc : M.cntS l wd ch ⟨(f : Int), (i : Int) - (f : Int)⟩ = rowN (cellsS (M.subL l (f : Int).toNat ((i : Int) - (f : Int)).toNat)).length wd ch := rfl
      rw [hc]
      simp only [List.length_nil]
      omega
    · simp [sumL]; omega
  | x :: xs, i, f, hf => by
    unfold M.lin
    split
    · have ih := lin_sum wd h1 ch l xs (i + 1) (i + 1) (Nat.le_refl _)
      simp only [List.map_cons, sumL, List.length_cons]
      have a := rowN_in (n := (cellsS (M.subL l (f : Int).toNat ((i : Int) - (f : Int)).toNat)).length) ch h1
      have b := cellsS_len (M.subL l (f : Int).toNat ((i : Int) - (f : Int)).toNat)
      have c : (M.subL l (f : Int).toNat ((i : Int) - (f : Int)).toNat).length ≤ i - f := by rw [M.subL, List.length_drop, List.length_take]; omega
      have hc : M.cntS l wd ch ⟨(f : Int), (i : Int) - (f : Int)⟩ = rowN (cellsS (M.subL l (f : Int).toNat ((i : Int) - (f : Int)).toNat)).length wd ch := rfl
      rw [hc]
      omega
    · have ih := lin_sum wd h1 ch l xs (i + 1) f (by omega)
      simp only [List.length_cons]
      omega
theorem cnt_sum {l : List Int} (hl : l.length ≤ 400) {wd : Int} (ch : Bool) (h1 : 1 ≤ wd) : sumL (M.cntL l wd ch) ≤ 2001 := by
  have := lin_sum wd h1 ch l l 0 0 (Nat.le_refl _)
  unfold M.cntL M.linL
  omega
/-! ### spots by their place -/
theorem moveS_ok {cs : List Int} (h : ∀ x ∈ cs, 1 ≤ x) {n : Nat} {R : Int} (ho : OkS cs n R) (b : Int) : OkS cs (moveS cs (n, R) b).1 (moveS cs (n, R) b).2 ∧ posL cs (moveS cs (n, R) b).1 (moveS cs (n, R) b).2 = max 0 (min (posL cs n R + b) (sumL cs - 1)) := by
  have hp := pos_bounds h ho
  unfold moveS
  by_cases h0 : 0 ≤ b
  · rw [if_pos h0]
    obtain ⟨a, e⟩ := upN_ok h b.toNat ho
    exact ⟨a, by rw [e]; omega⟩
  · rw [if_neg h0]
    obtain ⟨a, e⟩ := dnN_ok h (-b).toNat ho
    exact ⟨a, by rw [e]; omega⟩
theorem pos_inj {cs : List Int} (h : ∀ x ∈ cs, 1 ≤ x) {n m : Nat} {R S : Int} (ho : OkS cs n R) (hq : OkS cs m S) (e : posL cs n R = posL cs m S) : n = m ∧ R = S := by
  have a := findS_pos cs n R 0 h ho
  have b := findS_pos cs m S 0 h hq
  rw [e, b] at a
  have := Option.some.inj a
  simp only [Prod.mk.injEq] at this
  omega
/-- What FnLasts asks, of lines of so many rows. -/
theorem lasts {cs : List Int} (h : CntOk cs) (hs : sumL cs ≤ 9000) (t : Int) (ht : 1 ≤ t ∧ t ≤ 20) : ∃ a b e1 e2 m1 m2 : Int, lastF cs t = (a, b) ∧ M.spotInF cs a b = 0 ∧ movF cs a b 9999 = (e1, e2) ∧ M.spotInF cs e1 e2 = 0 ∧ movF cs a b (t - 1) = (e1, e2) ∧ movF cs e1 e2 (-t) = (m1, m2) ∧ ((a = 0 ∧ b = 0) ∨ ¬ (m1 = a ∧ m2 = b)) := by
  by_cases h0 : cs.length = 0
  · refine ⟨0, 0, 0, 0, 0, 0, ?_, ?_, ?_, ?_, ?_, ?_, .inl ⟨rfl, rfl⟩⟩
    · unfold lastF; rw [if_pos h0]
    · unfold M.spotInF; rw [if_pos h0]; rfl
    · unfold movF; rw [if_pos h0]
    · unfold M.spotInF; rw [if_pos h0]; rfl
    · unfold movF; rw [if_pos h0]
    · unfold movF; rw [if_pos h0]
  · have hp := h.pos
    have hmv : ∀ (n : Nat) (R m : Int), movF cs (n : Int) R m = (((moveS cs (n, R) m).1 : Int), (moveS cs (n, R) m).2) := fun n R m => by unfold movF; rw [if_neg h0, Int.toNat_natCast]
    have hin : ∀ (n : Nat) (R : Int), OkS cs n R → M.spotInF cs (n : Int) R = 0 := fun n R ho => by
      obtain ⟨c, hc, q0, q1⟩ := ho
      have hlt := (List.getElem?_eq_some_iff.mp hc).1
      unfold M.spotInF
      rw [if_neg h0, if_pos ⟨⟨by omega, by omega⟩, q0, by rw [rd_get? hc]; exact q1⟩]
    obtain ⟨ho, hr, a1, a2⟩ := last_ok h h0
    have hpos : posL cs (cs.length - 1) (atL cs (cs.length - 1) - 1) = sumL cs - 1 := by
      have hlt : cs.length - 1 < cs.length := by omega
      have hg : cs[cs.length - 1]? = some (atL cs (cs.length - 1)) := by rw [atL, List.getElem?_eq_getElem hlt]; rfl
      have e : sumL cs = sumL (cs.take (cs.length - 1 + 1)) := by rw [List.take_of_length_le (by omega)]
      rw [take_sum hg] at e
      unfold posL
      omega
    have hb := pos_bounds hp ho
    obtain ⟨⟨n1, R1⟩, e1⟩ : ∃ p, moveS cs (cs.length - 1, atL cs (cs.length - 1) - 1) (1 - t) = p := ⟨_, rfl⟩
    obtain ⟨k1, p1⟩ := moveS_ok hp ho (1 - t)
    rw [e1, hpos] at p1
    rw [e1] at k1
    obtain ⟨⟨n2, R2⟩, e2⟩ : ∃ p, moveS cs (n1, R1) 9999 = p := ⟨_, rfl⟩
    obtain ⟨k2, p2⟩ := moveS_ok hp k1 9999
    rw [e2] at k2 p2
    obtain ⟨⟨n3, R3⟩, e3⟩ : ∃ p, moveS cs (n1, R1) (t - 1) = p := ⟨_, rfl⟩
    obtain ⟨k3, p3⟩ := moveS_ok hp k1 (t - 1)
    rw [e3] at k3 p3
    obtain ⟨⟨n4, R4⟩, e4⟩ : ∃ p, moveS cs (n2, R2) (-t) = p := ⟨_, rfl⟩
    obtain ⟨k4, p4⟩ := moveS_ok hp k2 (-t)
    rw [e4] at k4 p4
    dsimp only at p1 p2 p3 p4 k1 k2 k3 k4
    obtain ⟨rfl, rfl⟩ := pos_inj hp k3 k2 (by omega)
    refine ⟨n1, R1, n3, R3, n4, R4, ?_, hin _ _ k1, ?_, hin _ _ k2, ?_, ?_, ?_⟩
    · unfold lastF; rw [if_neg h0, e1]
    · rw [hmv, e2]
    · rw [hmv, e3]
    · rw [hmv, e4]
    · by_cases hz : posL cs n1 R1 = 0
      · have k0 : OkS cs 0 0 := by
          have hlt : 0 < cs.length := by omega
          have := hp _ (List.getElem_mem hlt)
          exact ⟨cs[0], List.getElem?_eq_getElem hlt, by omega, by omega⟩
        obtain ⟨rfl, rfl⟩ := pos_inj hp k1 k0 (by rw [hz]; simp [posL, sumL])
        exact .inl ⟨rfl, rfl⟩
      · refine .inr (fun q => ?_)
        obtain ⟨q1, q2⟩ := q
        have q3 : n4 = n1 := by omega
        subst q3
        rw [q2] at p4
        omega
theorem lastTop_val {l : List Int} (ho : M.lineOk l = true) {wd : Int} {ch : Bool} {sh t : Int} (hz : M.baseF l.length wd ch sh = 0) (ht : 1 ≤ t ∧ t ≤ 20) : Ev (fun k => spec_LastTop.f k l wd ch sh t) (0, lastF (M.cntL l wd ch) t) ∧ Ev (fun k => impl_LastTop.f k l wd ch sh t) (0, lastF (M.cntL l wd ch) t) := by
  unfold spec_LastTop.f impl_LastTop.f
  obtain ⟨_, hlay⟩ := M.baseF_zero hz
  obtain ⟨w1, w2, _⟩ := layF_zero hlay
  exact ⟨Ev.pos ho (Ev.pos hz (Ev.pos ht (Ev.bind (s_last (cntOk (M.lineOk_len ho) ch w1) t ht) (Ev.now _)))), Ev.bind (layoutCode_ev l wd ch sh) (Ev.pos hz (Ev.bind0 (within_eq t 1 20) (Ev.pos (decide_eq_true ht) (Ev.bind (i_last ho ch sh w1 w2 t ht) (Ev.now _)))))⟩
theorem lastTop_bad {l : List Int} (ho : M.lineOk l = true) {wd : Int} {ch : Bool} {sh t : Int} (h : ¬ (M.baseF l.length wd ch sh = 0 ∧ (1 ≤ t ∧ t ≤ 20))) : ∃ z : Int, z ≠ 0 ∧ Ev (fun k => spec_LastTop.f k l wd ch sh t) (z, 0, 0) ∧ Ev (fun k => impl_LastTop.f k l wd ch sh t) (z, 0, 0) := by
  unfold spec_LastTop.f impl_LastTop.f
  by_cases hz : M.baseF l.length wd ch sh = 0
  · have ht : ¬ (1 ≤ t ∧ t ≤ 20) := fun q => h ⟨hz, q⟩
    exact ⟨3, by decide, Ev.pos ho (Ev.pos hz (Ev.neg ht (Ev.now _))), Ev.bind (layoutCode_ev l wd ch sh) (Ev.pos hz (Ev.bind0 (within_eq t 1 20) (Ev.neg (by simpa using ht) (Ev.now _))))⟩
  · exact ⟨_, hz, Ev.pos ho (Ev.neg hz (Ev.now _)), Ev.bind (layoutCode_ev l wd ch sh) (Ev.neg hz (Ev.now _))⟩
/-- All that FnLasts asks, of a file and a layout without a fault. -/
theorem lasts_all {l : List Int} (ho : M.lineOk l = true) {wd : Int} {ch : Bool} {sh t : Int} (hz : M.baseF l.length wd ch sh = 0) (ht : 1 ≤ t ∧ t ≤ 20) : ∃ (k : Nat) (a b e1 e2 m1 m2 : Int), impl_LastTop.f k l wd ch sh t = some (0, a, b) ∧ spec_LastTop.f k l wd ch sh t = some (0, a, b) ∧
    impl_MoveSpot.f k l wd ch sh a b 9999 = some (0, e1, e2) ∧ impl_MoveSpot.f k l wd ch sh a b (t - 1) = some (0, e1, e2) ∧ impl_MoveSpot.f k l wd ch sh e1 e2 (-t) = some (0, m1, m2) ∧ impl_SpotFault.f k l wd ch sh a b = some 0 ∧ ((a = 0 ∧ b = 0) ∨ ¬ (m1 = a ∧ m2 = b)) := by
  obtain ⟨h400, hlay⟩ := M.baseF_zero hz
  obtain ⟨w1, w2, _⟩ := layF_zero hlay
  have hcs := cntOk (M.lineOk_len ho) ch w1
  have hsum := cnt_sum h400 ch w1
  obtain ⟨a, b, e1, e2, m1, m2, q1, q2, q3, q4, q5, q6, q7⟩ := lasts hcs (by omega) t ht
  have s1 : M.spotF l wd ch sh a b = 0 := by unfold M.spotF; rw [if_pos hz]; exact q2
  have s2 : M.spotF l wd ch sh e1 e2 = 0 := by unfold M.spotF; rw [if_pos hz]; exact q4
  obtain ⟨v1, v2⟩ := lastTop_val ho hz ht
  rw [q1] at v1 v2
  have u1 := i_moveSpot ho wd ch sh a b 9999
  have u2 := i_moveSpot ho wd ch sh a b (t - 1)
  have u3 := i_moveSpot ho wd ch sh e1 e2 (-t)
  have u4 := i_spot ho wd ch sh a b
  rw [if_pos s1, if_pos (by omega), q3] at u1
  rw [if_pos s1, if_pos (by omega), q5] at u2
  rw [if_pos s2, if_pos (by omega), q6] at u3
  rw [s1] at u4
  obtain ⟨K1, v1⟩ := v1
  obtain ⟨K2, v2⟩ := v2
  obtain ⟨K3, u1⟩ := u1
  obtain ⟨K4, u2⟩ := u2
  obtain ⟨K5, u3⟩ := u3
  obtain ⟨K6, u4⟩ := u4
  have g1 := Nat.le_max_left K1 (max K2 (max K3 (max K4 (max K5 K6))))
  refine ⟨max K1 (max K2 (max K3 (max K4 (max K5 K6)))), a, b, e1, e2, m1, m2, v2 _ (by omega), v1 _ (by omega), u1 _ (by omega), u2 _ (by omega), u3 _ (by omega), u4 _ (by omega), q7⟩
end Go.Proofs.Ytjnmhpldabbeiaa.Q
end
section
namespace Go.Proofs.Ytjnmhpldabbeiaa.Lasts
open Go.RowKit Go.Proofs.Ytjnmhpldabbeiaa.Q Go.Proofs.YtjnmhpldabbeiaaW.PrintWords Go.Proofs.YtjnmhpldabbeiaaW.PrintLast Go.Proofs.YtjnmhpldabbeiaaW.PrintMore Go.Proofs.Ytjnmhpldabbeiaa.L
set_option linter.unusedVariables false
set_option linter.unusedSimpArgs false
theorem fd0 (x y z : Int) (w : World) : (Instr.field 108 (.agg #[.int .i64 x, .int .i64 y, .int .i64 z]) 0).run Try.prog w = .ok (.int .i64 x) w := by kernel_rfl
theorem fd1 (x y z : Int) (w : World) : (Instr.field 108 (.agg #[.int .i64 x, .int .i64 y, .int .i64 z]) 1).run Try.prog w = .ok (.agg #[.int .i64 y, .int .i64 z]) w := by kernel_rfl
attribute [local go_sem] fd0 fd1
set_option maxRecDepth 20000 in
set_option maxHeartbeats 8000000 in
theorem law_walk (A : Option Addr) (c : Nat) (l : List Int) (w : World) (hR : M.Row (fun x => [Value.int .u8 x]) 1 w A l) (hw : ∀ x ∈ l, (Lit.int .u8 x).wf = true) (hc : l.length ≤ c) (hm : c ≤ maxLen) :
    Calls Try.prog 13 #[.slice A l.length c] w fun e w' => e = .returned (.bool true) ∧ Below w.heap.size w w' := by
  have HC := Aside0.mk (show Kd.C (Kd.int .u8) w A l.length l from M.C_ints (by unfold maxLen at hm; omega) hR)
  have HB0 : Aside0 (laws_lwBig.f l = some (decide ((l.length : Int) > 1048576))) := ⟨rfl⟩
  by_cases hl : (l.length : Int) > 1048576
  · rw [decide_eq_true hl] at HB0
    go_enter Try.func13, Try.ntmps13
    go_wp2_with (first | (go_at_call 66; refine (laws_lwBig.calls A c l true _ HC.out hc HB0.out).mono ?_; rintro e w' ⟨rfl, ⟨nd, rfl⟩⟩))
    go_ret
    exact ⟨rfl, by repeat (first | exact Below.refl _ _ | apply below_alloc | apply pw_below_drewN | apply below_drew1)⟩
  rw [decide_eq_false hl] at HB0
  obtain ⟨bs, wd, ch, sh, t, ed, hn, ho⟩ := drawLast_ex (l := l) ⟨by omega, fun x hx => bounds_u8 (hw x hx)⟩
  obtain ⟨k, hk⟩ := Ev.rounds ed
  have HD := Aside0.mk hk
  clear hk ed
  go_enter Try.func13, Try.ntmps13
  go_wp2_with (first | (go_at_call 66; refine (laws_lwBig.calls A c l false _ HC.out hc HB0.out).mono ?_; rintro e w' ⟨rfl, ⟨nd, rfl⟩⟩))
  obtain ⟨w1, hw1⟩ : ∃ w1, w1 = w.drewN nd := ⟨_, rfl⟩
  rw [← hw1]
  have hb1 : Below w.heap.size w w1 := by rw [hw1]; exact M.bdN (Below.refl _ _) nd
  clear hw1
  refine (spec_DrawLastTop.calls k A c l bs wd ch sh t w1 (Kd.C_below HC.out hb1) hc HD.out).mono ?_
  rintro e w2 ⟨v, rfl, hR2, hb2⟩
  have ho2 := M.own_u8 hR2
  obtain ⟨Ab, cb, rfl, hv1, hv2, _⟩ := ho2.row
  have HCb := Aside0.mk (show Kd.C (Kd.int .u8) w2 Ab bs.length bs from M.C_ints (by omega) ho2.rowOf)
  have hB2 := hb1.trans (hb2.mono hb1.size)
  clear ho2 hR2 hb1 hb2
  obtain ⟨W, hW⟩ : ∃ W, W = (w2.alloc (.cells #[.slice Ab bs.length cb] 104)).alloc (.cells #[.int .i64 wd, .bool ch, .int .i64 sh] 37) := ⟨_, rfl⟩
  obtain ⟨b1, b2, _, _, hwz, G2⟩ := M.box2 _ _ _ _ _ W hW
  have HW := Aside0.mk hW
  have HCw := Aside0.mk (Kd.C_below HCb.out G2)
  have hBW := hB2.trans (G2.mono hB2.size)
  clear hW
  by_cases hz : M.baseF bs.length wd ch sh = 0 ∧ (1 ≤ t ∧ t ≤ 20)
  case neg =>
    obtain ⟨z, hz0, eS, eI⟩ := lastTop_bad ho hz
    obtain ⟨kS, hS⟩ := Ev.rounds eS
    obtain ⟨kI, hI⟩ := Ev.rounds eI
    have HS := Aside0.mk hS
    have HI := Aside0.mk hI
    have hz1 : (z != 0) = true := by simpa using hz0
    have hz2 : (z == 0) = false := by simpa using hz0
    clear eS eI hS hI hz
    go_wp2_with (fail)
    rw [← HW.out]
    refine (impl_LastTop.calls kI Ab cb bs wd ch sh t z 0 0 W HCw.out hv1 HI.out).mono ?_
    rintro e w3 ⟨rfl, hb3⟩
    have HCc := Aside0.mk (Kd.C_below HCw.out hb3)
    have hB3 := hBW.trans (hb3.mono hBW.size)
    have c1 := M.blk_keep b1 (by omega) hb3
    have c2 := M.blk_keep b2 (by omega) hb3
    have hl0 : w2.heap.size < w3.heap.size := by have := hb3.size; omega
    have hl1 : w2.heap.size + 1 < w3.heap.size := by have := hb3.size; omega
    clear hb3 b1 b2
    obtain ⟨V3, hV3⟩ : ∃ V, V = w3.alloc (.cells #[.int .i64 z, .int .i64 0, .int .i64 0] 108) := ⟨_, rfl⟩
    obtain ⟨d3, _, hvz3, g3⟩ := M.box1 _ _ _ V3 hV3
    have HV3 := Aside0.mk hV3
    have c1_ := M.blk_keep c1 (by omega) g3
    have c2_ := M.blk_keep c2 (by omega) g3
    have HCv3 := Aside0.mk (Kd.C_below HCc.out g3)
    have hBv3 := hB3.trans (g3.mono hB3.size)
    go_wp2_with (fail)
    rw [← HV3.out]
    clear c1 c2 g3 hV3
    have ya0 : V3.drew.cell? ⟨w2.heap.size, 0, none⟩ = some (.slice Ab bs.length cb) := c1_ 0
    have ya1 : V3.drew.cell? ⟨w2.heap.size + 1, 0, none⟩ = some (.int .i64 wd) := c2_ 0
    have ya2 : V3.drew.cell? ⟨w2.heap.size + 1, 1, none⟩ = some (.bool ch) := c2_ 1
    have ya3 : V3.drew.cell? ⟨w2.heap.size + 1, 2, none⟩ = some (.int .i64 sh) := c2_ 2
    have ya4 : V3.drew.cell? ⟨w3.heap.size, 0, none⟩ = some (.int .i64 z) := d3 0
    have ya5 : V3.drew.cell? ⟨w3.heap.size, 1, none⟩ = some (.int .i64 0) := d3 1
    have ya6 : V3.drew.cell? ⟨w3.heap.size, 2, none⟩ = some (.int .i64 0) := d3 2
    have HCd := Aside0.mk (Kd.C_drew HCv3.out)
    have hBd : Below w.heap.size w V3.drew := below_drew1 hBv3
    refine start_ (n := 9) (S := fun w' => w'.cell? ⟨w2.heap.size, 0, none⟩ = some (.slice Ab bs.length cb) ∧ w'.cell? ⟨w2.heap.size + 1, 0, none⟩ = some (.int .i64 wd) ∧ w'.cell? ⟨w2.heap.size + 1, 1, none⟩ = some (.bool ch) ∧ w'.cell? ⟨w2.heap.size + 1, 2, none⟩ = some (.int .i64 sh) ∧ w'.cell? ⟨w3.heap.size, 0, none⟩ = some (.int .i64 z) ∧ w'.cell? ⟨w3.heap.size, 1, none⟩ = some (.int .i64 0) ∧ w'.cell? ⟨w3.heap.size, 2, none⟩ = some (.int .i64 0)) (ds := []) #[false, false, false, false, false, false, false, false, false] (by kernel_rfl) rfl rfl ⟨ya0, ya1, ya2, ya3, ya4, ya5, ya6⟩ (fun hHeld => ?_)
    refine pure_ (i := 2) (N := some 27) (v := ?_) (a' := ?_) #[false, false, true, false, false, false, false, false, false] rfl rfl (by kernel_rfl) (fun _ _ _ h => h) (Or.inl ⟨by rfl, ?_⟩) ?_ ?_
    rotate_left
    · intro w'
      go_simp
      with_reducible rfl
    rotate_left
    · simp only [Act.put, List.setIfInBounds_toArray, List.set_cons_zero, List.set_cons_succ, i64_w, i32_w]
      rfl
    refine pure_ (i := 5) (N := some 30) (v := ?_) (a' := ?_) #[false, false, true, false, false, true, false, false, false] rfl rfl (by kernel_rfl) (fun _ _ _ h => h) (Or.inl ⟨by rfl, ?_⟩) ?_ ?_
    rotate_left
    · intro w'
      go_simp
      with_reducible rfl
    rotate_left
    · simp only [Act.put, List.setIfInBounds_toArray, List.set_cons_zero, List.set_cons_succ, i64_w, i32_w]
      rfl
    refine take_ (i := 0) (N := some 25) (v := ?_) (a' := ?_) #[true, false, true, false, false, true, false, false, false] rfl rfl (by kernel_rfl) (fun _ _ _ h => h) (Or.inl ⟨by rfl, ?_⟩) hHeld ?_ ?_
    rotate_left
    · rintro w' ⟨s0, s1, s2, s3, s4, s5, s6⟩
      go_simp
      with_reducible rfl
    rotate_left
    · simp only [Act.put, List.setIfInBounds_toArray, List.set_cons_zero, List.set_cons_succ, i64_w, i32_w]
      rfl
    refine take_ (i := 1) (N := some 26) (v := ?_) (a' := ?_) #[true, true, true, false, false, true, false, false, false] rfl rfl (by kernel_rfl) (fun _ _ _ h => h) (Or.inl ⟨by rfl, ?_⟩) hHeld ?_ ?_
    rotate_left
    · rintro w' ⟨s0, s1, s2, s3, s4, s5, s6⟩
      go_simp
      with_reducible rfl
    rotate_left
    · simp only [Act.put, List.setIfInBounds_toArray, List.set_cons_zero, List.set_cons_succ, i64_w, i32_w]
      rfl
    refine take_ (i := 6) (N := some 31) (v := ?_) (a' := ?_) #[true, true, true, false, false, true, true, false, false] rfl rfl (by kernel_rfl) (fun _ _ _ h => h) (Or.inl ⟨by rfl, ?_⟩) hHeld ?_ ?_
    rotate_left
    · rintro w' ⟨s0, s1, s2, s3, s4, s5, s6⟩
      go_simp
      with_reducible rfl
    rotate_left
    · simp only [Act.put, List.setIfInBounds_toArray, List.set_cons_zero, List.set_cons_succ, i64_w, i32_w]
      rfl
    refine one_ (i := 3) (N := some 28) #[true, true, true, true, false, true, true, false, false] rfl rfl (by kernel_rfl) (by decide) (fun K hK => ?_)
    refine goes_ Try.func69 (by kernel_rfl) rfl #[.agg #[.slice Ab bs.length cb], .agg #[.int .i64 wd, .bool ch, .int .i64 sh], .int .i64 t] (by rfl) rfl rfl (by simp only [List.map_toArray, List.map_cons, List.map_nil]; rfl) ?_
    refine (spec_LastTop.calls kS Ab cb bs wd ch sh t z 0 0 _ HCd.out hv1 HS.out).mono ?_
    rintro e u0 ⟨rfl, hbb0⟩
    refine ⟨_, rfl, ?_⟩
    have xa0_0 := M.cell_below hbb0 ya0
    have xa0_1 := M.cell_below hbb0 ya1
    have xa0_2 := M.cell_below hbb0 ya2
    have xa0_3 := M.cell_below hbb0 ya3
    have xa0_4 := M.cell_below hbb0 ya4
    have xa0_5 := M.cell_below hbb0 ya5
    have xa0_6 := M.cell_below hbb0 ya6
    have HC_0 := Aside0.mk (Kd.C_below HCd.out hbb0)
    have hB_0 := hBd.trans (hbb0.mono hBd.size)
    refine hK.out _ _ ⟨xa0_0, xa0_1, xa0_2, xa0_3, xa0_4, xa0_5, xa0_6⟩ (fun hHeld => ?_)
    clear hK K
    refine norm_ (a' := ?_) ?_ ?_
    rotate_left
    · show Act.put _ (some 28) _ = _
      simp only [Act.put, List.setIfInBounds_toArray, List.set_cons_zero, List.set_cons_succ, i64_w, i32_w]
      rfl
    refine pure_ (i := 4) (N := some 29) (v := ?_) (a' := ?_) #[true, true, true, true, true, true, true, false, false] rfl rfl (by kernel_rfl) (fun _ _ _ h => h) (Or.inl ⟨by rfl, ?_⟩) ?_ ?_
    rotate_left
    · intro w'
      go_simp
      with_reducible rfl
    rotate_left
    · simp only [Act.put, List.setIfInBounds_toArray, List.set_cons_zero, List.set_cons_succ, i64_w, i32_w]
      rfl
    refine pure_ (i := 7) (N := some 32) (v := ?_) (a' := ?_) #[true, true, true, true, true, true, true, true, false] rfl rfl (by kernel_rfl) (fun _ _ _ h => h) (Or.inl ⟨by rfl, ?_⟩) ?_ ?_
    rotate_left
    · intro w'
      go_simp
      with_reducible rfl
    rotate_left
    · simp only [Act.put, List.setIfInBounds_toArray, List.set_cons_zero, List.set_cons_succ, i64_w, i32_w]
      rfl
    refine pure_ (i := 8) (N := some 2) (v := ?_) (a' := ?_) #[true, true, true, true, true, true, true, true, true] rfl rfl (by kernel_rfl) (fun _ _ _ h => h) (Or.inl ⟨by rfl, ?_⟩) ?_ ?_
    rotate_left
    · intro w'
      go_simp
      with_reducible rfl
    rotate_left
    · simp only [Act.put, List.setIfInBounds_toArray, List.set_cons_zero, List.set_cons_succ, i64_w, i32_w]
      rfl
    refine done_ (by kernel_rfl) ?_
    go_wp2
    go_ret
    exact ⟨rfl, by repeat (first | exact hB_0 | apply below_alloc | apply pw_below_drewN | apply below_drew1)⟩
  obtain ⟨hz0, ht⟩ := hz
  obtain ⟨kk, a, b, e1, e2, m1, m2, v1, v2, v3, v4, v5, v6, v7⟩ := lasts_all ho hz0 ht
  have E1 := Aside0.mk v1
  have E2 := Aside0.mk v2
  have E3 := Aside0.mk v3
  have E4 := Aside0.mk v4
  have E5 := Aside0.mk v5
  have E6 := Aside0.mk v6
  have E7 := Aside0.mk v7
  clear v1 v2 v3 v4 v5 v6 v7 hz0
  have w1' : wrap64 (t - 1) = t - 1 := w64 (by omega) (by omega)
  have w2' : wrap64 (-t) = -t := w64 (by omega) (by omega)
  go_wp2_with (fail)
  rw [← HW.out]
  refine (impl_LastTop.calls kk Ab cb bs wd ch sh t 0 a b W HCw.out hv1 E1.out).mono ?_
  rintro e w3 ⟨rfl, hb3⟩
  have HCc := Aside0.mk (Kd.C_below HCw.out hb3)
  have hB3 := hBW.trans (hb3.mono hBW.size)
  have c1 := M.blk_keep b1 (by omega) hb3
  have c2 := M.blk_keep b2 (by omega) hb3
  have hl0 : w2.heap.size < w3.heap.size := by have := hb3.size; omega
  have hl1 : w2.heap.size + 1 < w3.heap.size := by have := hb3.size; omega
  clear hb3 b1 b2
  have HCw3 := HCc
  obtain ⟨V3, hV3⟩ : ∃ V, V = w3.alloc (.cells #[.int .i64 0, .int .i64 a, .int .i64 b] 108) := ⟨_, rfl⟩
  obtain ⟨d3, _, hvz3, g3⟩ := M.box1 _ _ _ V3 hV3
  have HV3 := Aside0.mk hV3
  have c1_ := M.blk_keep c1 (by omega) g3
  have c2_ := M.blk_keep c2 (by omega) g3
  have HCv3 := Aside0.mk (Kd.C_below HCw3.out g3)
  have hBv3 := hB3.trans (g3.mono hB3.size)
  go_wp2_with (fail)
  rw [← HV3.out]
  refine (impl_MoveSpot.calls kk Ab cb bs wd ch sh a b 9999 0 e1 e2 V3 HCv3.out hv1 E3.out).mono ?_
  rintro e w4 ⟨rfl, hb4⟩
  clear c1 c2
  have c1 := M.blk_keep c1_ (by omega) hb4
  have c2 := M.blk_keep c2_ (by omega) hb4
  have d3 := M.blk_keep d3 (by omega) hb4
  have HCw4 := Aside0.mk (Kd.C_below HCv3.out hb4)
  have hB4 := hBv3.trans (hb4.mono hBv3.size)
  have hl4_0 : w2.heap.size < w4.heap.size := by have := hb4.size; omega
  have hl4_1 : w2.heap.size + 1 < w4.heap.size := by have := hb4.size; omega
  have hl4_2 : w3.heap.size < w4.heap.size := by have := hb4.size; omega
  clear c1_ c2_ g3 hb4 hV3
  obtain ⟨V4, hV4⟩ : ∃ V, V = w4.alloc (.cells #[.int .i64 0, .int .i64 e1, .int .i64 e2] 108) := ⟨_, rfl⟩
  obtain ⟨d4, _, hvz4, g4⟩ := M.box1 _ _ _ V4 hV4
  have HV4 := Aside0.mk hV4
  have c1_ := M.blk_keep c1 (by omega) g4
  have c2_ := M.blk_keep c2 (by omega) g4
  have d3_ := M.blk_keep d3 (by omega) g4
  have HCv4 := Aside0.mk (Kd.C_below HCw4.out g4)
  have hBv4 := hB4.trans (g4.mono hB4.size)
  go_wp2_with (fail)
  rw [← HV4.out]
  refine (impl_MoveSpot.calls kk Ab cb bs wd ch sh a b (t - 1) 0 e1 e2 V4 HCv4.out hv1 E4.out).mono ?_
  rintro e w5 ⟨rfl, hb5⟩
  clear c1 c2 d3
  have c1 := M.blk_keep c1_ (by omega) hb5
  have c2 := M.blk_keep c2_ (by omega) hb5
  have d3 := M.blk_keep d3_ (by omega) hb5
  have d4 := M.blk_keep d4 (by omega) hb5
  have HCw5 := Aside0.mk (Kd.C_below HCv4.out hb5)
  have hB5 := hBv4.trans (hb5.mono hBv4.size)
  have hl5_0 : w2.heap.size < w5.heap.size := by have := hb5.size; omega
  have hl5_1 : w2.heap.size + 1 < w5.heap.size := by have := hb5.size; omega
  have hl5_2 : w3.heap.size < w5.heap.size := by have := hb5.size; omega
  have hl5_3 : w4.heap.size < w5.heap.size := by have := hb5.size; omega
  clear c1_ c2_ d3_ g4 hb5 hV4
  obtain ⟨V5, hV5⟩ : ∃ V, V = w5.alloc (.cells #[.int .i64 0, .int .i64 e1, .int .i64 e2] 108) := ⟨_, rfl⟩
  obtain ⟨d5, _, hvz5, g5⟩ := M.box1 _ _ _ V5 hV5
  have HV5 := Aside0.mk hV5
  have c1_ := M.blk_keep c1 (by omega) g5
  have c2_ := M.blk_keep c2 (by omega) g5
  have d3_ := M.blk_keep d3 (by omega) g5
  have d4_ := M.blk_keep d4 (by omega) g5
  have HCv5 := Aside0.mk (Kd.C_below HCw5.out g5)
  have hBv5 := hB5.trans (g5.mono hB5.size)
  go_wp2_with (fail)
  rw [← HV5.out]
  refine (impl_MoveSpot.calls kk Ab cb bs wd ch sh e1 e2 (-t) 0 m1 m2 V5 HCv5.out hv1 E5.out).mono ?_
  rintro e w6 ⟨rfl, hb6⟩
  clear c1 c2 d3 d4
  have c1 := M.blk_keep c1_ (by omega) hb6
  have c2 := M.blk_keep c2_ (by omega) hb6
  have d3 := M.blk_keep d3_ (by omega) hb6
  have d4 := M.blk_keep d4_ (by omega) hb6
  have d5 := M.blk_keep d5 (by omega) hb6
  have HCw6 := Aside0.mk (Kd.C_below HCv5.out hb6)
  have hB6 := hBv5.trans (hb6.mono hBv5.size)
  have hl6_0 : w2.heap.size < w6.heap.size := by have := hb6.size; omega
  have hl6_1 : w2.heap.size + 1 < w6.heap.size := by have := hb6.size; omega
  have hl6_2 : w3.heap.size < w6.heap.size := by have := hb6.size; omega
  have hl6_3 : w4.heap.size < w6.heap.size := by have := hb6.size; omega
  have hl6_4 : w5.heap.size < w6.heap.size := by have := hb6.size; omega
  clear c1_ c2_ d3_ d4_ g5 hb6 hV5
  obtain ⟨V6, hV6⟩ : ∃ V, V = w6.alloc (.cells #[.int .i64 0, .int .i64 m1, .int .i64 m2] 108) := ⟨_, rfl⟩
  obtain ⟨d6, _, hvz6, g6⟩ := M.box1 _ _ _ V6 hV6
  have HV6 := Aside0.mk hV6
  have c1_ := M.blk_keep c1 (by omega) g6
  have c2_ := M.blk_keep c2 (by omega) g6
  have d3_ := M.blk_keep d3 (by omega) g6
  have d4_ := M.blk_keep d4 (by omega) g6
  have d5_ := M.blk_keep d5 (by omega) g6
  have HCv6 := Aside0.mk (Kd.C_below HCw6.out g6)
  have hBv6 := hB6.trans (g6.mono hB6.size)
  go_wp2_with (fail)
  rw [← HV6.out]
  rcases E7.out with ⟨rfl, rfl⟩ | hne
  · clear c1 c2 d3 d4 d5 g6 hV6
    have yb0 : V6.drew.cell? ⟨w2.heap.size, 0, none⟩ = some (.slice Ab bs.length cb) := c1_ 0
    have yb1 : V6.drew.cell? ⟨w2.heap.size + 1, 0, none⟩ = some (.int .i64 wd) := c2_ 0
    have yb2 : V6.drew.cell? ⟨w2.heap.size + 1, 1, none⟩ = some (.bool ch) := c2_ 1
    have yb3 : V6.drew.cell? ⟨w2.heap.size + 1, 2, none⟩ = some (.int .i64 sh) := c2_ 2
    have yb4 : V6.drew.cell? ⟨w3.heap.size, 0, none⟩ = some (.int .i64 0) := d3_ 0
    have yb5 : V6.drew.cell? ⟨w3.heap.size, 1, none⟩ = some (.int .i64 0) := d3_ 1
    have yb6 : V6.drew.cell? ⟨w3.heap.size, 2, none⟩ = some (.int .i64 0) := d3_ 2
    have yb7 : V6.drew.cell? ⟨w4.heap.size, 0, none⟩ = some (.int .i64 0) := d4_ 0
    have yb8 : V6.drew.cell? ⟨w4.heap.size, 1, none⟩ = some (.int .i64 e1) := d4_ 1
    have yb9 : V6.drew.cell? ⟨w4.heap.size, 2, none⟩ = some (.int .i64 e2) := d4_ 2
    have yb10 : V6.drew.cell? ⟨w5.heap.size, 0, none⟩ = some (.int .i64 0) := d5_ 0
    have yb11 : V6.drew.cell? ⟨w5.heap.size, 1, none⟩ = some (.int .i64 e1) := d5_ 1
    have yb12 : V6.drew.cell? ⟨w5.heap.size, 2, none⟩ = some (.int .i64 e2) := d5_ 2
    have yb13 : V6.drew.cell? ⟨w6.heap.size, 0, none⟩ = some (.int .i64 0) := d6 0
    have yb14 : V6.drew.cell? ⟨w6.heap.size, 1, none⟩ = some (.int .i64 m1) := d6 1
    have yb15 : V6.drew.cell? ⟨w6.heap.size, 2, none⟩ = some (.int .i64 m2) := d6 2
    have HCd := Aside0.mk (Kd.C_drew HCv6.out)
    have hBd : Below w.heap.size w V6.drew := below_drew1 hBv6
    refine start_ (n := 47) (S := fun w' => w'.cell? ⟨w2.heap.size, 0, none⟩ = some (.slice Ab bs.length cb) ∧ w'.cell? ⟨w2.heap.size + 1, 0, none⟩ = some (.int .i64 wd) ∧ w'.cell? ⟨w2.heap.size + 1, 1, none⟩ = some (.bool ch) ∧ w'.cell? ⟨w2.heap.size + 1, 2, none⟩ = some (.int .i64 sh) ∧ w'.cell? ⟨w3.heap.size, 0, none⟩ = some (.int .i64 0) ∧ w'.cell? ⟨w3.heap.size, 1, none⟩ = some (.int .i64 0) ∧ w'.cell? ⟨w3.heap.size, 2, none⟩ = some (.int .i64 0) ∧ w'.cell? ⟨w4.heap.size, 0, none⟩ = some (.int .i64 0) ∧ w'.cell? ⟨w4.heap.size, 1, none⟩ = some (.int .i64 e1) ∧ w'.cell? ⟨w4.heap.size, 2, none⟩ = some (.int .i64 e2) ∧ w'.cell? ⟨w5.heap.size, 0, none⟩ = some (.int .i64 0) ∧ w'.cell? ⟨w5.heap.size, 1, none⟩ = some (.int .i64 e1) ∧ w'.cell? ⟨w5.heap.size, 2, none⟩ = some (.int .i64 e2) ∧ w'.cell? ⟨w6.heap.size, 0, none⟩ = some (.int .i64 0) ∧ w'.cell? ⟨w6.heap.size, 1, none⟩ = some (.int .i64 m1) ∧ w'.cell? ⟨w6.heap.size, 2, none⟩ = some (.int .i64 m2)) (ds := []) #[false, false, false, false, false, false, false, false, false, false, false, false, false, false, false, false, false, false, false, false, false, false, false, false, false, false, false, false, false, false, false, false, false, false, false, false, false, false, false, false, false, false, false, false, false, false, false] (by kernel_rfl) rfl rfl ⟨yb0, yb1, yb2, yb3, yb4, yb5, yb6, yb7, yb8, yb9, yb10, yb11, yb12, yb13, yb14, yb15⟩ (fun hHeld => ?_)
    refine pure_ (i := 2) (N := some 54) (v := ?_) (a' := ?_) #[false, false, true, false, false, false, false, false, false, false, false, false, false, false, false, false, false, false, false, false, false, false, false, false, false, false, false, false, false, false, false, false, false, false, false, false, false, false, false, false, false, false, false, false, false, false, false] rfl rfl (by kernel_rfl) (fun _ _ _ h => h) (Or.inl ⟨by rfl, ?_⟩) ?_ ?_
    rotate_left
    · intro w'
      go_simp
      with_reducible rfl
    rotate_left
    · simp only [Act.put, List.setIfInBounds_toArray, List.set_cons_zero, List.set_cons_succ, i64_w, i32_w]
      rfl
    refine take_ (i := 0) (N := some 52) (v := ?_) (a' := ?_) #[true, false, true, false, false, false, false, false, false, false, false, false, false, false, false, false, false, false, false, false, false, false, false, false, false, false, false, false, false, false, false, false, false, false, false, false, false, false, false, false, false, false, false, false, false, false, false] rfl rfl (by kernel_rfl) (fun _ _ _ h => h) (Or.inl ⟨by rfl, ?_⟩) hHeld ?_ ?_
    rotate_left
    · rintro w' ⟨s0, s1, s2, s3, s4, s5, s6, s7, s8, s9, s10, s11, s12, s13, s14, s15⟩
      go_simp
      with_reducible rfl
    rotate_left
    · simp only [Act.put, List.setIfInBounds_toArray, List.set_cons_zero, List.set_cons_succ, i64_w, i32_w]
      rfl
    refine take_ (i := 1) (N := some 53) (v := ?_) (a' := ?_) #[true, true, true, false, false, false, false, false, false, false, false, false, false, false, false, false, false, false, false, false, false, false, false, false, false, false, false, false, false, false, false, false, false, false, false, false, false, false, false, false, false, false, false, false, false, false, false] rfl rfl (by kernel_rfl) (fun _ _ _ h => h) (Or.inl ⟨by rfl, ?_⟩) hHeld ?_ ?_
    rotate_left
    · rintro w' ⟨s0, s1, s2, s3, s4, s5, s6, s7, s8, s9, s10, s11, s12, s13, s14, s15⟩
      go_simp
      with_reducible rfl
    rotate_left
    · simp only [Act.put, List.setIfInBounds_toArray, List.set_cons_zero, List.set_cons_succ, i64_w, i32_w]
      rfl
    refine take_ (i := 3) (N := some 55) (v := ?_) (a' := ?_) #[true, true, true, true, false, false, false, false, false, false, false, false, false, false, false, false, false, false, false, false, false, false, false, false, false, false, false, false, false, false, false, false, false, false, false, false, false, false, false, false, false, false, false, false, false, false, false] rfl rfl (by kernel_rfl) (fun _ _ _ h => h) (Or.inl ⟨by rfl, ?_⟩) hHeld ?_ ?_
    rotate_left
    · rintro w' ⟨s0, s1, s2, s3, s4, s5, s6, s7, s8, s9, s10, s11, s12, s13, s14, s15⟩
      go_simp
      with_reducible rfl
    rotate_left
    · simp only [Act.put, List.setIfInBounds_toArray, List.set_cons_zero, List.set_cons_succ, i64_w, i32_w]
      rfl
    refine one_ (i := 4) (N := some 56) #[true, true, true, true, true, false, false, false, false, false, false, false, false, false, false, false, false, false, false, false, false, false, false, false, false, false, false, false, false, false, false, false, false, false, false, false, false, false, false, false, false, false, false, false, false, false, false] rfl rfl (by kernel_rfl) (by decide) (fun K hK => ?_)
    refine goes_ Try.func71 (by kernel_rfl) rfl #[.agg #[.slice Ab bs.length cb], .agg #[.int .i64 wd, .bool ch, .int .i64 sh], .agg #[.int .i64 0, .int .i64 0]] (by rfl) rfl rfl (by simp only [List.map_toArray, List.map_cons, List.map_nil]; rfl) ?_
    refine (impl_SpotFault.calls kk Ab cb bs wd ch sh 0 0 0 _ HCd.out hv1 E6.out).mono ?_
    rintro e u0 ⟨rfl, hbb0⟩
    refine ⟨_, rfl, ?_⟩
    have xb0_0 := M.cell_below hbb0 yb0
    have xb0_1 := M.cell_below hbb0 yb1
    have xb0_2 := M.cell_below hbb0 yb2
    have xb0_3 := M.cell_below hbb0 yb3
    have xb0_4 := M.cell_below hbb0 yb4
    have xb0_5 := M.cell_below hbb0 yb5
    have xb0_6 := M.cell_below hbb0 yb6
    have xb0_7 := M.cell_below hbb0 yb7
    have xb0_8 := M.cell_below hbb0 yb8
    have xb0_9 := M.cell_below hbb0 yb9
    have xb0_10 := M.cell_below hbb0 yb10
    have xb0_11 := M.cell_below hbb0 yb11
    have xb0_12 := M.cell_below hbb0 yb12
    have xb0_13 := M.cell_below hbb0 yb13
    have xb0_14 := M.cell_below hbb0 yb14
    have xb0_15 := M.cell_below hbb0 yb15
    have HC_0 := Aside0.mk (Kd.C_below HCd.out hbb0)
    have hB_0 := hBd.trans (hbb0.mono hBd.size)
    refine hK.out _ _ ⟨xb0_0, xb0_1, xb0_2, xb0_3, xb0_4, xb0_5, xb0_6, xb0_7, xb0_8, xb0_9, xb0_10, xb0_11, xb0_12, xb0_13, xb0_14, xb0_15⟩ (fun hHeld => ?_)
    clear hK K
    refine norm_ (a' := ?_) ?_ ?_
    rotate_left
    · show Act.put _ (some 56) _ = _
      simp only [Act.put, List.setIfInBounds_toArray, List.set_cons_zero, List.set_cons_succ, i64_w, i32_w]
      rfl
    refine pure_ (i := 5) (N := some 57) (v := ?_) (a' := ?_) #[true, true, true, true, true, true, false, false, false, false, false, false, false, false, false, false, false, false, false, false, false, false, false, false, false, false, false, false, false, false, false, false, false, false, false, false, false, false, false, false, false, false, false, false, false, false, false] rfl rfl (by kernel_rfl) (fun _ _ _ h => h) (Or.inl ⟨by rfl, ?_⟩) ?_ ?_
    rotate_left
    · intro w'
      go_simp
      with_reducible rfl
    rotate_left
    · simp only [Act.put, List.setIfInBounds_toArray, List.set_cons_zero, List.set_cons_succ, i64_w, i32_w]
      rfl
    refine pure_ (i := 6) (N := some 58) (v := ?_) (a' := ?_) #[true, true, true, true, true, true, true, false, false, false, false, false, false, false, false, false, false, false, false, false, false, false, false, false, false, false, false, false, false, false, false, false, false, false, false, false, false, false, false, false, false, false, false, false, false, false, false] rfl rfl (by kernel_rfl) (fun _ _ _ h => h) (Or.inl ⟨by rfl, ?_⟩) ?_ ?_
    rotate_left
    · intro w'
      go_simp
      with_reducible rfl
    rotate_left
    · simp only [Act.put, List.setIfInBounds_toArray, List.set_cons_zero, List.set_cons_succ, i64_w, i32_w]
      rfl
    refine pure_ (i := 7) (N := some 59) (v := ?_) (a' := ?_) #[true, true, true, true, true, true, true, true, false, false, false, false, false, false, false, false, false, false, false, false, false, false, false, false, false, false, false, false, false, false, false, false, false, false, false, false, false, false, false, false, false, false, false, false, false, false, false] rfl rfl (by kernel_rfl) (fun _ _ _ h => h) (Or.inl ⟨by rfl, ?_⟩) ?_ ?_
    rotate_left
    · intro w'
      go_simp
      with_reducible rfl
    rotate_left
    · simp only [Act.put, List.setIfInBounds_toArray, List.set_cons_zero, List.set_cons_succ, i64_w, i32_w]
      rfl
    refine take_ (i := 8) (N := some 60) (v := ?_) (a' := ?_) #[true, true, true, true, true, true, true, true, true, false, false, false, false, false, false, false, false, false, false, false, false, false, false, false, false, false, false, false, false, false, false, false, false, false, false, false, false, false, false, false, false, false, false, false, false, false, false] rfl rfl (by kernel_rfl) (fun _ _ _ h => h) (Or.inl ⟨by rfl, ?_⟩) hHeld ?_ ?_
    rotate_left
    · rintro w' ⟨s0, s1, s2, s3, s4, s5, s6, s7, s8, s9, s10, s11, s12, s13, s14, s15⟩
      go_simp
      with_reducible rfl
    rotate_left
    · simp only [Act.put, List.setIfInBounds_toArray, List.set_cons_zero, List.set_cons_succ, i64_w, i32_w]
      rfl
    refine pure_ (i := 9) (N := some 61) (v := ?_) (a' := ?_) #[true, true, true, true, true, true, true, true, true, true, false, false, false, false, false, false, false, false, false, false, false, false, false, false, false, false, false, false, false, false, false, false, false, false, false, false, false, false, false, false, false, false, false, false, false, false, false] rfl rfl (by kernel_rfl) (fun _ _ _ h => h) (Or.inl ⟨by rfl, ?_⟩) ?_ ?_
    rotate_left
    · intro w'
      go_simp
      with_reducible rfl
    rotate_left
    · simp only [Act.put, List.setIfInBounds_toArray, List.set_cons_zero, List.set_cons_succ, i64_w, i32_w]
      rfl
    refine pure_ (i := 10) (N := some 62) (v := ?_) (a' := ?_) #[true, true, true, true, true, true, true, true, true, true, true, false, false, false, false, false, false, false, false, false, false, false, false, false, false, false, false, false, false, false, false, false, false, false, false, false, false, false, false, false, false, false, false, false, false, false, false] rfl rfl (by kernel_rfl) (fun _ _ _ h => h) (Or.inl ⟨by rfl, ?_⟩) ?_ ?_
    rotate_left
    · intro w'
      go_simp
      with_reducible rfl
    rotate_left
    · simp only [Act.put, List.setIfInBounds_toArray, List.set_cons_zero, List.set_cons_succ, i64_w, i32_w]
      rfl
    refine pure_ (i := 11) (N := some 63) (v := ?_) (a' := ?_) #[true, true, true, true, true, true, true, true, true, true, true, true, false, false, false, false, false, false, false, false, false, false, false, false, false, false, false, false, false, false, false, false, false, false, false, false, false, false, false, false, false, false, false, false, false, false, false] rfl rfl (by kernel_rfl) (fun _ _ _ h => h) (Or.inl ⟨by rfl, ?_⟩) ?_ ?_
    rotate_left
    · intro w'
      go_simp
      with_reducible rfl
    rotate_left
    · simp only [Act.put, List.setIfInBounds_toArray, List.set_cons_zero, List.set_cons_succ, i64_w, i32_w]
      rfl
    refine pure_ (i := 12) (N := some 64) (v := ?_) (a' := ?_) #[true, true, true, true, true, true, true, true, true, true, true, true, true, false, false, false, false, false, false, false, false, false, false, false, false, false, false, false, false, false, false, false, false, false, false, false, false, false, false, false, false, false, false, false, false, false, false] rfl rfl (by kernel_rfl) (fun _ _ _ h => h) (Or.inl ⟨by rfl, ?_⟩) ?_ ?_
    rotate_left
    · intro w'
      go_simp
      with_reducible rfl
    rotate_left
    · simp only [Act.put, List.setIfInBounds_toArray, List.set_cons_zero, List.set_cons_succ, i64_w, i32_w]
      rfl
    refine pure_ (i := 14) (N := some 66) (v := ?_) (a' := ?_) #[true, true, true, true, true, true, true, true, true, true, true, true, true, false, true, false, false, false, false, false, false, false, false, false, false, false, false, false, false, false, false, false, false, false, false, false, false, false, false, false, false, false, false, false, false, false, false] rfl rfl (by kernel_rfl) (fun _ _ _ h => h) (Or.inl ⟨by rfl, ?_⟩) ?_ ?_
    rotate_left
    · intro w'
      go_simp
      with_reducible rfl
    rotate_left
    · simp only [Act.put, List.setIfInBounds_toArray, List.set_cons_zero, List.set_cons_succ, i64_w, i32_w]
      rfl
    refine take_ (i := 13) (N := some 65) (v := ?_) (a' := ?_) #[true, true, true, true, true, true, true, true, true, true, true, true, true, true, true, false, false, false, false, false, false, false, false, false, false, false, false, false, false, false, false, false, false, false, false, false, false, false, false, false, false, false, false, false, false, false, false] rfl rfl (by kernel_rfl) (fun _ _ _ h => h) (Or.inl ⟨by rfl, ?_⟩) hHeld ?_ ?_
    rotate_left
    · rintro w' ⟨s0, s1, s2, s3, s4, s5, s6, s7, s8, s9, s10, s11, s12, s13, s14, s15⟩
      go_simp
      with_reducible rfl
    rotate_left
    · simp only [Act.put, List.setIfInBounds_toArray, List.set_cons_zero, List.set_cons_succ, i64_w, i32_w]
      rfl
    refine take_ (i := 15) (N := some 67) (v := ?_) (a' := ?_) #[true, true, true, true, true, true, true, true, true, true, true, true, true, true, true, true, false, false, false, false, false, false, false, false, false, false, false, false, false, false, false, false, false, false, false, false, false, false, false, false, false, false, false, false, false, false, false] rfl rfl (by kernel_rfl) (fun _ _ _ h => h) (Or.inl ⟨by rfl, ?_⟩) hHeld ?_ ?_
    rotate_left
    · rintro w' ⟨s0, s1, s2, s3, s4, s5, s6, s7, s8, s9, s10, s11, s12, s13, s14, s15⟩
      go_simp
      with_reducible rfl
    rotate_left
    · simp only [Act.put, List.setIfInBounds_toArray, List.set_cons_zero, List.set_cons_succ, i64_w, i32_w]
      rfl
    refine pure_ (i := 16) (N := some 68) (v := ?_) (a' := ?_) #[true, true, true, true, true, true, true, true, true, true, true, true, true, true, true, true, true, false, false, false, false, false, false, false, false, false, false, false, false, false, false, false, false, false, false, false, false, false, false, false, false, false, false, false, false, false, false] rfl rfl (by kernel_rfl) (fun _ _ _ h => h) (Or.inl ⟨by rfl, ?_⟩) ?_ ?_
    rotate_left
    · intro w'
      go_simp
      with_reducible rfl
    rotate_left
    · simp only [Act.put, List.setIfInBounds_toArray, List.set_cons_zero, List.set_cons_succ, i64_w, i32_w]
      rfl
    refine pure_ (i := 17) (N := some 69) (v := ?_) (a' := ?_) #[true, true, true, true, true, true, true, true, true, true, true, true, true, true, true, true, true, true, false, false, false, false, false, false, false, false, false, false, false, false, false, false, false, false, false, false, false, false, false, false, false, false, false, false, false, false, false] rfl rfl (by kernel_rfl) (fun _ _ _ h => h) (Or.inl ⟨by rfl, ?_⟩) ?_ ?_
    rotate_left
    · intro w'
      go_simp
      with_reducible rfl
    rotate_left
    · simp only [Act.put, List.setIfInBounds_toArray, List.set_cons_zero, List.set_cons_succ, i64_w, i32_w]
      rfl
    refine pure_ (i := 18) (N := some 70) (v := ?_) (a' := ?_) #[true, true, true, true, true, true, true, true, true, true, true, true, true, true, true, true, true, true, true, false, false, false, false, false, false, false, false, false, false, false, false, false, false, false, false, false, false, false, false, false, false, false, false, false, false, false, false] rfl rfl (by kernel_rfl) (fun _ _ _ h => h) (Or.inl ⟨by rfl, ?_⟩) ?_ ?_
    rotate_left
    · intro w'
      go_simp
      with_reducible rfl
    rotate_left
    · simp only [Act.put, List.setIfInBounds_toArray, List.set_cons_zero, List.set_cons_succ, i64_w, i32_w]
      rfl
    refine pure_ (i := 19) (N := some 71) (v := ?_) (a' := ?_) #[true, true, true, true, true, true, true, true, true, true, true, true, true, true, true, true, true, true, true, true, false, false, false, false, false, false, false, false, false, false, false, false, false, false, false, false, false, false, false, false, false, false, false, false, false, false, false] rfl rfl (by kernel_rfl) (fun _ _ _ h => h) (Or.inl ⟨by rfl, ?_⟩) ?_ ?_
    rotate_left
    · intro w'
      go_simp
      with_reducible rfl
    rotate_left
    · simp only [Act.put, List.setIfInBounds_toArray, List.set_cons_zero, List.set_cons_succ, i64_w, i32_w]
      rfl
    refine pure_ (i := 21) (N := some 73) (v := ?_) (a' := ?_) #[true, true, true, true, true, true, true, true, true, true, true, true, true, true, true, true, true, true, true, true, false, true, false, false, false, false, false, false, false, false, false, false, false, false, false, false, false, false, false, false, false, false, false, false, false, false, false] rfl rfl (by kernel_rfl) (fun _ _ _ h => h) (Or.inl ⟨by rfl, ?_⟩) ?_ ?_
    rotate_left
    · intro w'
      go_simp
      with_reducible rfl
    rotate_left
    · simp only [Act.put, List.setIfInBounds_toArray, List.set_cons_zero, List.set_cons_succ, i64_w, i32_w]
      rfl
    refine take_ (i := 20) (N := some 72) (v := ?_) (a' := ?_) #[true, true, true, true, true, true, true, true, true, true, true, true, true, true, true, true, true, true, true, true, true, true, false, false, false, false, false, false, false, false, false, false, false, false, false, false, false, false, false, false, false, false, false, false, false, false, false] rfl rfl (by kernel_rfl) (fun _ _ _ h => h) (Or.inl ⟨by rfl, ?_⟩) hHeld ?_ ?_
    rotate_left
    · rintro w' ⟨s0, s1, s2, s3, s4, s5, s6, s7, s8, s9, s10, s11, s12, s13, s14, s15⟩
      go_simp
      with_reducible rfl
    rotate_left
    · simp only [Act.put, List.setIfInBounds_toArray, List.set_cons_zero, List.set_cons_succ, i64_w, i32_w]
      rfl
    refine pure_ (i := 22) (N := some 74) (v := ?_) (a' := ?_) #[true, true, true, true, true, true, true, true, true, true, true, true, true, true, true, true, true, true, true, true, true, true, true, false, false, false, false, false, false, false, false, false, false, false, false, false, false, false, false, false, false, false, false, false, false, false, false] rfl rfl (by kernel_rfl) (fun _ _ _ h => h) (Or.inl ⟨by rfl, ?_⟩) ?_ ?_
    rotate_left
    · intro w'
      go_simp
      with_reducible rfl
    rotate_left
    · simp only [Act.put, List.setIfInBounds_toArray, List.set_cons_zero, List.set_cons_succ, i64_w, i32_w]
      rfl
    refine pure_ (i := 23) (N := some 75) (v := ?_) (a' := ?_) #[true, true, true, true, true, true, true, true, true, true, true, true, true, true, true, true, true, true, true, true, true, true, true, true, false, false, false, false, false, false, false, false, false, false, false, false, false, false, false, false, false, false, false, false, false, false, false] rfl rfl (by kernel_rfl) (fun _ _ _ h => h) (Or.inl ⟨by rfl, ?_⟩) ?_ ?_
    rotate_left
    · intro w'
      go_simp
      with_reducible rfl
    rotate_left
    · simp only [Act.put, List.setIfInBounds_toArray, List.set_cons_zero, List.set_cons_succ, i64_w, i32_w]
      rfl
    refine pure_ (i := 24) (N := some 76) (v := undef) (a' := ?_) #[true, true, true, true, true, true, true, true, true, true, true, true, true, true, true, true, true, true, true, true, true, true, true, true, true, false, false, false, false, false, false, false, false, false, false, false, false, false, false, false, false, false, false, false, false, false, false] rfl rfl (by kernel_rfl) (fun _ _ _ h => h) (Or.inr ⟨by rfl, rfl⟩) ?_ ?_
    rotate_left
    · simp only [Act.put, List.setIfInBounds_toArray, List.set_cons_zero, List.set_cons_succ, i64_w, i32_w]
      rfl
    refine pure_ (i := 25) (N := some 77) (v := undef) (a' := ?_) #[true, true, true, true, true, true, true, true, true, true, true, true, true, true, true, true, true, true, true, true, true, true, true, true, true, true, false, false, false, false, false, false, false, false, false, false, false, false, false, false, false, false, false, false, false, false, false] rfl rfl (by kernel_rfl) (fun _ _ _ h => h) (Or.inr ⟨by rfl, rfl⟩) ?_ ?_
    rotate_left
    · simp only [Act.put, List.setIfInBounds_toArray, List.set_cons_zero, List.set_cons_succ, i64_w, i32_w]
      rfl
    refine pure_ (i := 26) (N := some 78) (v := undef) (a' := ?_) #[true, true, true, true, true, true, true, true, true, true, true, true, true, true, true, true, true, true, true, true, true, true, true, true, true, true, true, false, false, false, false, false, false, false, false, false, false, false, false, false, false, false, false, false, false, false, false] rfl rfl (by kernel_rfl) (fun _ _ _ h => h) (Or.inr ⟨by rfl, rfl⟩) ?_ ?_
    rotate_left
    · simp only [Act.put, List.setIfInBounds_toArray, List.set_cons_zero, List.set_cons_succ, i64_w, i32_w]
      rfl
    refine pure_ (i := 27) (N := some 79) (v := undef) (a' := ?_) #[true, true, true, true, true, true, true, true, true, true, true, true, true, true, true, true, true, true, true, true, true, true, true, true, true, true, true, true, false, false, false, false, false, false, false, false, false, false, false, false, false, false, false, false, false, false, false] rfl rfl (by kernel_rfl) (fun _ _ _ h => h) (Or.inr ⟨by rfl, rfl⟩) ?_ ?_
    rotate_left
    · simp only [Act.put, List.setIfInBounds_toArray, List.set_cons_zero, List.set_cons_succ, i64_w, i32_w]
      rfl
    refine pure_ (i := 28) (N := some 80) (v := undef) (a' := ?_) #[true, true, true, true, true, true, true, true, true, true, true, true, true, true, true, true, true, true, true, true, true, true, true, true, true, true, true, true, true, false, false, false, false, false, false, false, false, false, false, false, false, false, false, false, false, false, false] rfl rfl (by kernel_rfl) (fun _ _ _ h => h) (Or.inr ⟨by rfl, rfl⟩) ?_ ?_
    rotate_left
    · simp only [Act.put, List.setIfInBounds_toArray, List.set_cons_zero, List.set_cons_succ, i64_w, i32_w]
      rfl
    refine pure_ (i := 29) (N := some 81) (v := ?_) (a' := ?_) #[true, true, true, true, true, true, true, true, true, true, true, true, true, true, true, true, true, true, true, true, true, true, true, true, true, true, true, true, true, true, false, false, false, false, false, false, false, false, false, false, false, false, false, false, false, false, false] rfl rfl (by kernel_rfl) (fun _ _ _ h => h) (Or.inl ⟨by rfl, ?_⟩) ?_ ?_
    rotate_left
    · intro w'
      go_simp
      with_reducible rfl
    rotate_left
    · simp only [Act.put, List.setIfInBounds_toArray, List.set_cons_zero, List.set_cons_succ, i64_w, i32_w]
      rfl
    refine pure_ (i := 30) (N := some 82) (v := ?_) (a' := ?_) #[true, true, true, true, true, true, true, true, true, true, true, true, true, true, true, true, true, true, true, true, true, true, true, true, true, true, true, true, true, true, true, false, false, false, false, false, false, false, false, false, false, false, false, false, false, false, false] rfl rfl (by kernel_rfl) (fun _ _ _ h => h) (Or.inl ⟨by rfl, ?_⟩) ?_ ?_
    rotate_left
    · intro w'
      go_simp
      with_reducible rfl
    rotate_left
    · simp only [Act.put, List.setIfInBounds_toArray, List.set_cons_zero, List.set_cons_succ, i64_w, i32_w]
      rfl
    refine pure_ (i := 31) (N := some 83) (v := ?_) (a' := ?_) #[true, true, true, true, true, true, true, true, true, true, true, true, true, true, true, true, true, true, true, true, true, true, true, true, true, true, true, true, true, true, true, true, false, false, false, false, false, false, false, false, false, false, false, false, false, false, false] rfl rfl (by kernel_rfl) (fun _ _ _ h => h) (Or.inl ⟨by rfl, ?_⟩) ?_ ?_
    rotate_left
    · intro w'
      go_simp
      with_reducible rfl
    rotate_left
    · simp only [Act.put, List.setIfInBounds_toArray, List.set_cons_zero, List.set_cons_succ, i64_w, i32_w]
      rfl
    refine pure_ (i := 32) (N := some 84) (v := ?_) (a' := ?_) #[true, true, true, true, true, true, true, true, true, true, true, true, true, true, true, true, true, true, true, true, true, true, true, true, true, true, true, true, true, true, true, true, true, false, false, false, false, false, false, false, false, false, false, false, false, false, false] rfl rfl (by kernel_rfl) (fun _ _ _ h => h) (Or.inl ⟨by rfl, ?_⟩) ?_ ?_
    rotate_left
    · intro w'
      go_simp
      with_reducible rfl
    rotate_left
    · simp only [Act.put, List.setIfInBounds_toArray, List.set_cons_zero, List.set_cons_succ, i64_w, i32_w]
      rfl
    refine take_ (i := 33) (N := some 85) (v := ?_) (a' := ?_) #[true, true, true, true, true, true, true, true, true, true, true, true, true, true, true, true, true, true, true, true, true, true, true, true, true, true, true, true, true, true, true, true, true, true, false, false, false, false, false, false, false, false, false, false, false, false, false] rfl rfl (by kernel_rfl) (fun _ _ _ h => h) (Or.inl ⟨by rfl, ?_⟩) hHeld ?_ ?_
    rotate_left
    · rintro w' ⟨s0, s1, s2, s3, s4, s5, s6, s7, s8, s9, s10, s11, s12, s13, s14, s15⟩
      go_simp
      with_reducible rfl
    rotate_left
    · simp only [Act.put, List.setIfInBounds_toArray, List.set_cons_zero, List.set_cons_succ, i64_w, i32_w]
      rfl
    refine pure_ (i := 34) (N := some 86) (v := ?_) (a' := ?_) #[true, true, true, true, true, true, true, true, true, true, true, true, true, true, true, true, true, true, true, true, true, true, true, true, true, true, true, true, true, true, true, true, true, true, true, false, false, false, false, false, false, false, false, false, false, false, false] rfl rfl (by kernel_rfl) (fun _ _ _ h => h) (Or.inl ⟨by rfl, ?_⟩) ?_ ?_
    rotate_left
    · intro w'
      go_simp
      with_reducible rfl
    rotate_left
    · simp only [Act.put, List.setIfInBounds_toArray, List.set_cons_zero, List.set_cons_succ, i64_w, i32_w]
      rfl
    refine pure_ (i := 35) (N := some 87) (v := ?_) (a' := ?_) #[true, true, true, true, true, true, true, true, true, true, true, true, true, true, true, true, true, true, true, true, true, true, true, true, true, true, true, true, true, true, true, true, true, true, true, true, false, false, false, false, false, false, false, false, false, false, false] rfl rfl (by kernel_rfl) (fun _ _ _ h => h) (Or.inl ⟨by rfl, ?_⟩) ?_ ?_
    rotate_left
    · intro w'
      go_simp
      with_reducible rfl
    rotate_left
    · simp only [Act.put, List.setIfInBounds_toArray, List.set_cons_zero, List.set_cons_succ, i64_w, i32_w]
      rfl
    refine pure_ (i := 36) (N := some 88) (v := ?_) (a' := ?_) #[true, true, true, true, true, true, true, true, true, true, true, true, true, true, true, true, true, true, true, true, true, true, true, true, true, true, true, true, true, true, true, true, true, true, true, true, true, false, false, false, false, false, false, false, false, false, false] rfl rfl (by kernel_rfl) (fun _ _ _ h => h) (Or.inl ⟨by rfl, ?_⟩) ?_ ?_
    rotate_left
    · intro w'
      go_simp
      with_reducible rfl
    rotate_left
    · simp only [Act.put, List.setIfInBounds_toArray, List.set_cons_zero, List.set_cons_succ, i64_w, i32_w]
      rfl
    refine pure_ (i := 37) (N := some 89) (v := ?_) (a' := ?_) #[true, true, true, true, true, true, true, true, true, true, true, true, true, true, true, true, true, true, true, true, true, true, true, true, true, true, true, true, true, true, true, true, true, true, true, true, true, true, false, false, false, false, false, false, false, false, false] rfl rfl (by kernel_rfl) (fun _ _ _ h => h) (Or.inl ⟨by rfl, ?_⟩) ?_ ?_
    rotate_left
    · intro w'
      go_simp
      with_reducible rfl
    rotate_left
    · simp only [Act.put, List.setIfInBounds_toArray, List.set_cons_zero, List.set_cons_succ, i64_w, i32_w]
      rfl
    refine pure_ (i := 41) (N := some 93) (v := ?_) (a' := ?_) #[true, true, true, true, true, true, true, true, true, true, true, true, true, true, true, true, true, true, true, true, true, true, true, true, true, true, true, true, true, true, true, true, true, true, true, true, true, true, false, false, false, true, false, false, false, false, false] rfl rfl (by kernel_rfl) (fun _ _ _ h => h) (Or.inl ⟨by rfl, ?_⟩) ?_ ?_
    rotate_left
    · intro w'
      go_simp
      with_reducible rfl
    rotate_left
    · simp only [Act.put, List.setIfInBounds_toArray, List.set_cons_zero, List.set_cons_succ, i64_w, i32_w]
      rfl
    refine take_ (i := 38) (N := some 90) (v := ?_) (a' := ?_) #[true, true, true, true, true, true, true, true, true, true, true, true, true, true, true, true, true, true, true, true, true, true, true, true, true, true, true, true, true, true, true, true, true, true, true, true, true, true, true, false, false, true, false, false, false, false, false] rfl rfl (by kernel_rfl) (fun _ _ _ h => h) (Or.inl ⟨by rfl, ?_⟩) hHeld ?_ ?_
    rotate_left
    · rintro w' ⟨s0, s1, s2, s3, s4, s5, s6, s7, s8, s9, s10, s11, s12, s13, s14, s15⟩
      go_simp
      with_reducible rfl
    rotate_left
    · simp only [Act.put, List.setIfInBounds_toArray, List.set_cons_zero, List.set_cons_succ, i64_w, i32_w]
      rfl
    refine take_ (i := 39) (N := some 91) (v := ?_) (a' := ?_) #[true, true, true, true, true, true, true, true, true, true, true, true, true, true, true, true, true, true, true, true, true, true, true, true, true, true, true, true, true, true, true, true, true, true, true, true, true, true, true, true, false, true, false, false, false, false, false] rfl rfl (by kernel_rfl) (fun _ _ _ h => h) (Or.inl ⟨by rfl, ?_⟩) hHeld ?_ ?_
    rotate_left
    · rintro w' ⟨s0, s1, s2, s3, s4, s5, s6, s7, s8, s9, s10, s11, s12, s13, s14, s15⟩
      go_simp
      with_reducible rfl
    rotate_left
    · simp only [Act.put, List.setIfInBounds_toArray, List.set_cons_zero, List.set_cons_succ, i64_w, i32_w]
      rfl
    refine take_ (i := 40) (N := some 92) (v := ?_) (a' := ?_) #[true, true, true, true, true, true, true, true, true, true, true, true, true, true, true, true, true, true, true, true, true, true, true, true, true, true, true, true, true, true, true, true, true, true, true, true, true, true, true, true, true, true, false, false, false, false, false] rfl rfl (by kernel_rfl) (fun _ _ _ h => h) (Or.inl ⟨by rfl, ?_⟩) hHeld ?_ ?_
    rotate_left
    · rintro w' ⟨s0, s1, s2, s3, s4, s5, s6, s7, s8, s9, s10, s11, s12, s13, s14, s15⟩
      go_simp
      with_reducible rfl
    rotate_left
    · simp only [Act.put, List.setIfInBounds_toArray, List.set_cons_zero, List.set_cons_succ, i64_w, i32_w]
      rfl
    refine one_ (i := 42) (N := some 94) #[true, true, true, true, true, true, true, true, true, true, true, true, true, true, true, true, true, true, true, true, true, true, true, true, true, true, true, true, true, true, true, true, true, true, true, true, true, true, true, true, true, true, true, false, false, false, false] rfl rfl (by kernel_rfl) (by decide) (fun K hK => ?_)
    refine goes_ Try.func69 (by kernel_rfl) rfl #[.agg #[.slice Ab bs.length cb], .agg #[.int .i64 wd, .bool ch, .int .i64 sh], .int .i64 t] (by rfl) rfl rfl (by simp only [List.map_toArray, List.map_cons, List.map_nil]; rfl) ?_
    refine (spec_LastTop.calls kk Ab cb bs wd ch sh t 0 0 0 _ HC_0.out hv1 E2.out).mono ?_
    rintro e u1 ⟨rfl, hbb1⟩
    refine ⟨_, rfl, ?_⟩
    have xb1_0 := M.cell_below hbb1 xb0_0
    have xb1_1 := M.cell_below hbb1 xb0_1
    have xb1_2 := M.cell_below hbb1 xb0_2
    have xb1_3 := M.cell_below hbb1 xb0_3
    have xb1_4 := M.cell_below hbb1 xb0_4
    have xb1_5 := M.cell_below hbb1 xb0_5
    have xb1_6 := M.cell_below hbb1 xb0_6
    have xb1_7 := M.cell_below hbb1 xb0_7
    have xb1_8 := M.cell_below hbb1 xb0_8
    have xb1_9 := M.cell_below hbb1 xb0_9
    have xb1_10 := M.cell_below hbb1 xb0_10
    have xb1_11 := M.cell_below hbb1 xb0_11
    have xb1_12 := M.cell_below hbb1 xb0_12
    have xb1_13 := M.cell_below hbb1 xb0_13
    have xb1_14 := M.cell_below hbb1 xb0_14
    have xb1_15 := M.cell_below hbb1 xb0_15
    have HC_1 := Aside0.mk (Kd.C_below HC_0.out hbb1)
    have hB_1 := hB_0.trans (hbb1.mono hB_0.size)
    refine hK.out _ _ ⟨xb1_0, xb1_1, xb1_2, xb1_3, xb1_4, xb1_5, xb1_6, xb1_7, xb1_8, xb1_9, xb1_10, xb1_11, xb1_12, xb1_13, xb1_14, xb1_15⟩ (fun hHeld => ?_)
    clear hK K
    refine norm_ (a' := ?_) ?_ ?_
    rotate_left
    · show Act.put _ (some 94) _ = _
      simp only [Act.put, List.setIfInBounds_toArray, List.set_cons_zero, List.set_cons_succ, i64_w, i32_w]
      rfl
    refine pure_ (i := 43) (N := some 95) (v := ?_) (a' := ?_) #[true, true, true, true, true, true, true, true, true, true, true, true, true, true, true, true, true, true, true, true, true, true, true, true, true, true, true, true, true, true, true, true, true, true, true, true, true, true, true, true, true, true, true, true, false, false, false] rfl rfl (by kernel_rfl) (fun _ _ _ h => h) (Or.inl ⟨by rfl, ?_⟩) ?_ ?_
    rotate_left
    · intro w'
      go_simp
      with_reducible rfl
    rotate_left
    · simp only [Act.put, List.setIfInBounds_toArray, List.set_cons_zero, List.set_cons_succ, i64_w, i32_w]
      rfl
    refine pure_ (i := 44) (N := some 96) (v := ?_) (a' := ?_) #[true, true, true, true, true, true, true, true, true, true, true, true, true, true, true, true, true, true, true, true, true, true, true, true, true, true, true, true, true, true, true, true, true, true, true, true, true, true, true, true, true, true, true, true, true, false, false] rfl rfl (by kernel_rfl) (fun _ _ _ h => h) (Or.inl ⟨by rfl, ?_⟩) ?_ ?_
    rotate_left
    · intro w'
      go_simp
      with_reducible rfl
    rotate_left
    · simp only [Act.put, List.setIfInBounds_toArray, List.set_cons_zero, List.set_cons_succ, i64_w, i32_w]
      rfl
    refine pure_ (i := 45) (N := some 97) (v := ?_) (a' := ?_) #[true, true, true, true, true, true, true, true, true, true, true, true, true, true, true, true, true, true, true, true, true, true, true, true, true, true, true, true, true, true, true, true, true, true, true, true, true, true, true, true, true, true, true, true, true, true, false] rfl rfl (by kernel_rfl) (fun _ _ _ h => h) (Or.inl ⟨by rfl, ?_⟩) ?_ ?_
    rotate_left
    · intro w'
      go_simp
      with_reducible rfl
    rotate_left
    · simp only [Act.put, List.setIfInBounds_toArray, List.set_cons_zero, List.set_cons_succ, i64_w, i32_w]
      rfl
    refine pure_ (i := 46) (N := some 2) (v := ?_) (a' := ?_) #[true, true, true, true, true, true, true, true, true, true, true, true, true, true, true, true, true, true, true, true, true, true, true, true, true, true, true, true, true, true, true, true, true, true, true, true, true, true, true, true, true, true, true, true, true, true, true] rfl rfl (by kernel_rfl) (fun _ _ _ h => h) (Or.inl ⟨by rfl, ?_⟩) ?_ ?_
    rotate_left
    · intro w'
      go_simp
      with_reducible rfl
    rotate_left
    · simp only [Act.put, List.setIfInBounds_toArray, List.set_cons_zero, List.set_cons_succ, i64_w, i32_w]
      rfl
    refine done_ (by kernel_rfl) ?_
    go_wp2
    go_ret
    exact ⟨rfl, by repeat (first | exact hB_1 | apply below_alloc | apply pw_below_drewN | apply below_drew1)⟩
  · by_cases hab : a = 0 ∧ b = 0
    · obtain ⟨rfl, rfl⟩ := hab
      clear c1 c2 d3 d4 d5 g6 hV6 hne
      have yb0 : V6.drew.cell? ⟨w2.heap.size, 0, none⟩ = some (.slice Ab bs.length cb) := c1_ 0
      have yb1 : V6.drew.cell? ⟨w2.heap.size + 1, 0, none⟩ = some (.int .i64 wd) := c2_ 0
      have yb2 : V6.drew.cell? ⟨w2.heap.size + 1, 1, none⟩ = some (.bool ch) := c2_ 1
      have yb3 : V6.drew.cell? ⟨w2.heap.size + 1, 2, none⟩ = some (.int .i64 sh) := c2_ 2
      have yb4 : V6.drew.cell? ⟨w3.heap.size, 0, none⟩ = some (.int .i64 0) := d3_ 0
      have yb5 : V6.drew.cell? ⟨w3.heap.size, 1, none⟩ = some (.int .i64 0) := d3_ 1
      have yb6 : V6.drew.cell? ⟨w3.heap.size, 2, none⟩ = some (.int .i64 0) := d3_ 2
      have yb7 : V6.drew.cell? ⟨w4.heap.size, 0, none⟩ = some (.int .i64 0) := d4_ 0
      have yb8 : V6.drew.cell? ⟨w4.heap.size, 1, none⟩ = some (.int .i64 e1) := d4_ 1
      have yb9 : V6.drew.cell? ⟨w4.heap.size, 2, none⟩ = some (.int .i64 e2) := d4_ 2
      have yb10 : V6.drew.cell? ⟨w5.heap.size, 0, none⟩ = some (.int .i64 0) := d5_ 0
      have yb11 : V6.drew.cell? ⟨w5.heap.size, 1, none⟩ = some (.int .i64 e1) := d5_ 1
      have yb12 : V6.drew.cell? ⟨w5.heap.size, 2, none⟩ = some (.int .i64 e2) := d5_ 2
      have yb13 : V6.drew.cell? ⟨w6.heap.size, 0, none⟩ = some (.int .i64 0) := d6 0
      have yb14 : V6.drew.cell? ⟨w6.heap.size, 1, none⟩ = some (.int .i64 m1) := d6 1
      have yb15 : V6.drew.cell? ⟨w6.heap.size, 2, none⟩ = some (.int .i64 m2) := d6 2
      have HCd := Aside0.mk (Kd.C_drew HCv6.out)
      have hBd : Below w.heap.size w V6.drew := below_drew1 hBv6
      refine start_ (n := 47) (S := fun w' => w'.cell? ⟨w2.heap.size, 0, none⟩ = some (.slice Ab bs.length cb) ∧ w'.cell? ⟨w2.heap.size + 1, 0, none⟩ = some (.int .i64 wd) ∧ w'.cell? ⟨w2.heap.size + 1, 1, none⟩ = some (.bool ch) ∧ w'.cell? ⟨w2.heap.size + 1, 2, none⟩ = some (.int .i64 sh) ∧ w'.cell? ⟨w3.heap.size, 0, none⟩ = some (.int .i64 0) ∧ w'.cell? ⟨w3.heap.size, 1, none⟩ = some (.int .i64 0) ∧ w'.cell? ⟨w3.heap.size, 2, none⟩ = some (.int .i64 0) ∧ w'.cell? ⟨w4.heap.size, 0, none⟩ = some (.int .i64 0) ∧ w'.cell? ⟨w4.heap.size, 1, none⟩ = some (.int .i64 e1) ∧ w'.cell? ⟨w4.heap.size, 2, none⟩ = some (.int .i64 e2) ∧ w'.cell? ⟨w5.heap.size, 0, none⟩ = some (.int .i64 0) ∧ w'.cell? ⟨w5.heap.size, 1, none⟩ = some (.int .i64 e1) ∧ w'.cell? ⟨w5.heap.size, 2, none⟩ = some (.int .i64 e2) ∧ w'.cell? ⟨w6.heap.size, 0, none⟩ = some (.int .i64 0) ∧ w'.cell? ⟨w6.heap.size, 1, none⟩ = some (.int .i64 m1) ∧ w'.cell? ⟨w6.heap.size, 2, none⟩ = some (.int .i64 m2)) (ds := []) #[false, false, false, false, false, false, false, false, false, false, false, false, false, false, false, false, false, false, false, false, false, false, false, false, false, false, false, false, false, false, false, false, false, false, false, false, false, false, false, false, false, false, false, false, false, false, false] (by kernel_rfl) rfl rfl ⟨yb0, yb1, yb2, yb3, yb4, yb5, yb6, yb7, yb8, yb9, yb10, yb11, yb12, yb13, yb14, yb15⟩ (fun hHeld => ?_)
      refine pure_ (i := 2) (N := some 54) (v := ?_) (a' := ?_) #[false, false, true, false, false, false, false, false, false, false, false, false, false, false, false, false, false, false, false, false, false, false, false, false, false, false, false, false, false, false, false, false, false, false, false, false, false, false, false, false, false, false, false, false, false, false, false] rfl rfl (by kernel_rfl) (fun _ _ _ h => h) (Or.inl ⟨by rfl, ?_⟩) ?_ ?_
      rotate_left
      · intro w'
        go_simp
        with_reducible rfl
      rotate_left
      · simp only [Act.put, List.setIfInBounds_toArray, List.set_cons_zero, List.set_cons_succ, i64_w, i32_w]
        rfl
      refine take_ (i := 0) (N := some 52) (v := ?_) (a' := ?_) #[true, false, true, false, false, false, false, false, false, false, false, false, false, false, false, false, false, false, false, false, false, false, false, false, false, false, false, false, false, false, false, false, false, false, false, false, false, false, false, false, false, false, false, false, false, false, false] rfl rfl (by kernel_rfl) (fun _ _ _ h => h) (Or.inl ⟨by rfl, ?_⟩) hHeld ?_ ?_
      rotate_left
      · rintro w' ⟨s0, s1, s2, s3, s4, s5, s6, s7, s8, s9, s10, s11, s12, s13, s14, s15⟩
        go_simp
        with_reducible rfl
      rotate_left
      · simp only [Act.put, List.setIfInBounds_toArray, List.set_cons_zero, List.set_cons_succ, i64_w, i32_w]
        rfl
      refine take_ (i := 1) (N := some 53) (v := ?_) (a' := ?_) #[true, true, true, false, false, false, false, false, false, false, false, false, false, false, false, false, false, false, false, false, false, false, false, false, false, false, false, false, false, false, false, false, false, false, false, false, false, false, false, false, false, false, false, false, false, false, false] rfl rfl (by kernel_rfl) (fun _ _ _ h => h) (Or.inl ⟨by rfl, ?_⟩) hHeld ?_ ?_
      rotate_left
      · rintro w' ⟨s0, s1, s2, s3, s4, s5, s6, s7, s8, s9, s10, s11, s12, s13, s14, s15⟩
        go_simp
        with_reducible rfl
      rotate_left
      · simp only [Act.put, List.setIfInBounds_toArray, List.set_cons_zero, List.set_cons_succ, i64_w, i32_w]
        rfl
      refine take_ (i := 3) (N := some 55) (v := ?_) (a' := ?_) #[true, true, true, true, false, false, false, false, false, false, false, false, false, false, false, false, false, false, false, false, false, false, false, false, false, false, false, false, false, false, false, false, false, false, false, false, false, false, false, false, false, false, false, false, false, false, false] rfl rfl (by kernel_rfl) (fun _ _ _ h => h) (Or.inl ⟨by rfl, ?_⟩) hHeld ?_ ?_
      rotate_left
      · rintro w' ⟨s0, s1, s2, s3, s4, s5, s6, s7, s8, s9, s10, s11, s12, s13, s14, s15⟩
        go_simp
        with_reducible rfl
      rotate_left
      · simp only [Act.put, List.setIfInBounds_toArray, List.set_cons_zero, List.set_cons_succ, i64_w, i32_w]
        rfl
      refine one_ (i := 4) (N := some 56) #[true, true, true, true, true, false, false, false, false, false, false, false, false, false, false, false, false, false, false, false, false, false, false, false, false, false, false, false, false, false, false, false, false, false, false, false, false, false, false, false, false, false, false, false, false, false, false] rfl rfl (by kernel_rfl) (by decide) (fun K hK => ?_)
      refine goes_ Try.func71 (by kernel_rfl) rfl #[.agg #[.slice Ab bs.length cb], .agg #[.int .i64 wd, .bool ch, .int .i64 sh], .agg #[.int .i64 0, .int .i64 0]] (by rfl) rfl rfl (by simp only [List.map_toArray, List.map_cons, List.map_nil]; rfl) ?_
      refine (impl_SpotFault.calls kk Ab cb bs wd ch sh 0 0 0 _ HCd.out hv1 E6.out).mono ?_
      rintro e u0 ⟨rfl, hbb0⟩
      refine ⟨_, rfl, ?_⟩
      have xb0_0 := M.cell_below hbb0 yb0
      have xb0_1 := M.cell_below hbb0 yb1
      have xb0_2 := M.cell_below hbb0 yb2
      have xb0_3 := M.cell_below hbb0 yb3
      have xb0_4 := M.cell_below hbb0 yb4
      have xb0_5 := M.cell_below hbb0 yb5
      have xb0_6 := M.cell_below hbb0 yb6
      have xb0_7 := M.cell_below hbb0 yb7
      have xb0_8 := M.cell_below hbb0 yb8
      have xb0_9 := M.cell_below hbb0 yb9
      have xb0_10 := M.cell_below hbb0 yb10
      have xb0_11 := M.cell_below hbb0 yb11
      have xb0_12 := M.cell_below hbb0 yb12
      have xb0_13 := M.cell_below hbb0 yb13
      have xb0_14 := M.cell_below hbb0 yb14
      have xb0_15 := M.cell_below hbb0 yb15
      have HC_0 := Aside0.mk (Kd.C_below HCd.out hbb0)
      have hB_0 := hBd.trans (hbb0.mono hBd.size)
      refine hK.out _ _ ⟨xb0_0, xb0_1, xb0_2, xb0_3, xb0_4, xb0_5, xb0_6, xb0_7, xb0_8, xb0_9, xb0_10, xb0_11, xb0_12, xb0_13, xb0_14, xb0_15⟩ (fun hHeld => ?_)
      clear hK K
      refine norm_ (a' := ?_) ?_ ?_
      rotate_left
      · show Act.put _ (some 56) _ = _
        simp only [Act.put, List.setIfInBounds_toArray, List.set_cons_zero, List.set_cons_succ, i64_w, i32_w]
        rfl
      refine pure_ (i := 5) (N := some 57) (v := ?_) (a' := ?_) #[true, true, true, true, true, true, false, false, false, false, false, false, false, false, false, false, false, false, false, false, false, false, false, false, false, false, false, false, false, false, false, false, false, false, false, false, false, false, false, false, false, false, false, false, false, false, false] rfl rfl (by kernel_rfl) (fun _ _ _ h => h) (Or.inl ⟨by rfl, ?_⟩) ?_ ?_
      rotate_left
      · intro w'
        go_simp
        with_reducible rfl
      rotate_left
      · simp only [Act.put, List.setIfInBounds_toArray, List.set_cons_zero, List.set_cons_succ, i64_w, i32_w]
        rfl
      refine pure_ (i := 6) (N := some 58) (v := ?_) (a' := ?_) #[true, true, true, true, true, true, true, false, false, false, false, false, false, false, false, false, false, false, false, false, false, false, false, false, false, false, false, false, false, false, false, false, false, false, false, false, false, false, false, false, false, false, false, false, false, false, false] rfl rfl (by kernel_rfl) (fun _ _ _ h => h) (Or.inl ⟨by rfl, ?_⟩) ?_ ?_
      rotate_left
      · intro w'
        go_simp
        with_reducible rfl
      rotate_left
      · simp only [Act.put, List.setIfInBounds_toArray, List.set_cons_zero, List.set_cons_succ, i64_w, i32_w]
        rfl
      refine pure_ (i := 7) (N := some 59) (v := ?_) (a' := ?_) #[true, true, true, true, true, true, true, true, false, false, false, false, false, false, false, false, false, false, false, false, false, false, false, false, false, false, false, false, false, false, false, false, false, false, false, false, false, false, false, false, false, false, false, false, false, false, false] rfl rfl (by kernel_rfl) (fun _ _ _ h => h) (Or.inl ⟨by rfl, ?_⟩) ?_ ?_
      rotate_left
      · intro w'
        go_simp
        with_reducible rfl
      rotate_left
      · simp only [Act.put, List.setIfInBounds_toArray, List.set_cons_zero, List.set_cons_succ, i64_w, i32_w]
        rfl
      refine take_ (i := 8) (N := some 60) (v := ?_) (a' := ?_) #[true, true, true, true, true, true, true, true, true, false, false, false, false, false, false, false, false, false, false, false, false, false, false, false, false, false, false, false, false, false, false, false, false, false, false, false, false, false, false, false, false, false, false, false, false, false, false] rfl rfl (by kernel_rfl) (fun _ _ _ h => h) (Or.inl ⟨by rfl, ?_⟩) hHeld ?_ ?_
      rotate_left
      · rintro w' ⟨s0, s1, s2, s3, s4, s5, s6, s7, s8, s9, s10, s11, s12, s13, s14, s15⟩
        go_simp
        with_reducible rfl
      rotate_left
      · simp only [Act.put, List.setIfInBounds_toArray, List.set_cons_zero, List.set_cons_succ, i64_w, i32_w]
        rfl
      refine pure_ (i := 9) (N := some 61) (v := ?_) (a' := ?_) #[true, true, true, true, true, true, true, true, true, true, false, false, false, false, false, false, false, false, false, false, false, false, false, false, false, false, false, false, false, false, false, false, false, false, false, false, false, false, false, false, false, false, false, false, false, false, false] rfl rfl (by kernel_rfl) (fun _ _ _ h => h) (Or.inl ⟨by rfl, ?_⟩) ?_ ?_
      rotate_left
      · intro w'
        go_simp
        with_reducible rfl
      rotate_left
      · simp only [Act.put, List.setIfInBounds_toArray, List.set_cons_zero, List.set_cons_succ, i64_w, i32_w]
        rfl
      refine pure_ (i := 10) (N := some 62) (v := ?_) (a' := ?_) #[true, true, true, true, true, true, true, true, true, true, true, false, false, false, false, false, false, false, false, false, false, false, false, false, false, false, false, false, false, false, false, false, false, false, false, false, false, false, false, false, false, false, false, false, false, false, false] rfl rfl (by kernel_rfl) (fun _ _ _ h => h) (Or.inl ⟨by rfl, ?_⟩) ?_ ?_
      rotate_left
      · intro w'
        go_simp
        with_reducible rfl
      rotate_left
      · simp only [Act.put, List.setIfInBounds_toArray, List.set_cons_zero, List.set_cons_succ, i64_w, i32_w]
        rfl
      refine pure_ (i := 11) (N := some 63) (v := ?_) (a' := ?_) #[true, true, true, true, true, true, true, true, true, true, true, true, false, false, false, false, false, false, false, false, false, false, false, false, false, false, false, false, false, false, false, false, false, false, false, false, false, false, false, false, false, false, false, false, false, false, false] rfl rfl (by kernel_rfl) (fun _ _ _ h => h) (Or.inl ⟨by rfl, ?_⟩) ?_ ?_
      rotate_left
      · intro w'
        go_simp
        with_reducible rfl
      rotate_left
      · simp only [Act.put, List.setIfInBounds_toArray, List.set_cons_zero, List.set_cons_succ, i64_w, i32_w]
        rfl
      refine pure_ (i := 12) (N := some 64) (v := ?_) (a' := ?_) #[true, true, true, true, true, true, true, true, true, true, true, true, true, false, false, false, false, false, false, false, false, false, false, false, false, false, false, false, false, false, false, false, false, false, false, false, false, false, false, false, false, false, false, false, false, false, false] rfl rfl (by kernel_rfl) (fun _ _ _ h => h) (Or.inl ⟨by rfl, ?_⟩) ?_ ?_
      rotate_left
      · intro w'
        go_simp
        with_reducible rfl
      rotate_left
      · simp only [Act.put, List.setIfInBounds_toArray, List.set_cons_zero, List.set_cons_succ, i64_w, i32_w]
        rfl
      refine pure_ (i := 14) (N := some 66) (v := ?_) (a' := ?_) #[true, true, true, true, true, true, true, true, true, true, true, true, true, false, true, false, false, false, false, false, false, false, false, false, false, false, false, false, false, false, false, false, false, false, false, false, false, false, false, false, false, false, false, false, false, false, false] rfl rfl (by kernel_rfl) (fun _ _ _ h => h) (Or.inl ⟨by rfl, ?_⟩) ?_ ?_
      rotate_left
      · intro w'
        go_simp
        with_reducible rfl
      rotate_left
      · simp only [Act.put, List.setIfInBounds_toArray, List.set_cons_zero, List.set_cons_succ, i64_w, i32_w]
        rfl
      refine take_ (i := 13) (N := some 65) (v := ?_) (a' := ?_) #[true, true, true, true, true, true, true, true, true, true, true, true, true, true, true, false, false, false, false, false, false, false, false, false, false, false, false, false, false, false, false, false, false, false, false, false, false, false, false, false, false, false, false, false, false, false, false] rfl rfl (by kernel_rfl) (fun _ _ _ h => h) (Or.inl ⟨by rfl, ?_⟩) hHeld ?_ ?_
      rotate_left
      · rintro w' ⟨s0, s1, s2, s3, s4, s5, s6, s7, s8, s9, s10, s11, s12, s13, s14, s15⟩
        go_simp
        with_reducible rfl
      rotate_left
      · simp only [Act.put, List.setIfInBounds_toArray, List.set_cons_zero, List.set_cons_succ, i64_w, i32_w]
        rfl
      refine take_ (i := 15) (N := some 67) (v := ?_) (a' := ?_) #[true, true, true, true, true, true, true, true, true, true, true, true, true, true, true, true, false, false, false, false, false, false, false, false, false, false, false, false, false, false, false, false, false, false, false, false, false, false, false, false, false, false, false, false, false, false, false] rfl rfl (by kernel_rfl) (fun _ _ _ h => h) (Or.inl ⟨by rfl, ?_⟩) hHeld ?_ ?_
      rotate_left
      · rintro w' ⟨s0, s1, s2, s3, s4, s5, s6, s7, s8, s9, s10, s11, s12, s13, s14, s15⟩
        go_simp
        with_reducible rfl
      rotate_left
      · simp only [Act.put, List.setIfInBounds_toArray, List.set_cons_zero, List.set_cons_succ, i64_w, i32_w]
        rfl
      refine pure_ (i := 16) (N := some 68) (v := ?_) (a' := ?_) #[true, true, true, true, true, true, true, true, true, true, true, true, true, true, true, true, true, false, false, false, false, false, false, false, false, false, false, false, false, false, false, false, false, false, false, false, false, false, false, false, false, false, false, false, false, false, false] rfl rfl (by kernel_rfl) (fun _ _ _ h => h) (Or.inl ⟨by rfl, ?_⟩) ?_ ?_
      rotate_left
      · intro w'
        go_simp
        with_reducible rfl
      rotate_left
      · simp only [Act.put, List.setIfInBounds_toArray, List.set_cons_zero, List.set_cons_succ, i64_w, i32_w]
        rfl
      refine pure_ (i := 17) (N := some 69) (v := ?_) (a' := ?_) #[true, true, true, true, true, true, true, true, true, true, true, true, true, true, true, true, true, true, false, false, false, false, false, false, false, false, false, false, false, false, false, false, false, false, false, false, false, false, false, false, false, false, false, false, false, false, false] rfl rfl (by kernel_rfl) (fun _ _ _ h => h) (Or.inl ⟨by rfl, ?_⟩) ?_ ?_
      rotate_left
      · intro w'
        go_simp
        with_reducible rfl
      rotate_left
      · simp only [Act.put, List.setIfInBounds_toArray, List.set_cons_zero, List.set_cons_succ, i64_w, i32_w]
        rfl
      refine pure_ (i := 18) (N := some 70) (v := ?_) (a' := ?_) #[true, true, true, true, true, true, true, true, true, true, true, true, true, true, true, true, true, true, true, false, false, false, false, false, false, false, false, false, false, false, false, false, false, false, false, false, false, false, false, false, false, false, false, false, false, false, false] rfl rfl (by kernel_rfl) (fun _ _ _ h => h) (Or.inl ⟨by rfl, ?_⟩) ?_ ?_
      rotate_left
      · intro w'
        go_simp
        with_reducible rfl
      rotate_left
      · simp only [Act.put, List.setIfInBounds_toArray, List.set_cons_zero, List.set_cons_succ, i64_w, i32_w]
        rfl
      refine pure_ (i := 19) (N := some 71) (v := ?_) (a' := ?_) #[true, true, true, true, true, true, true, true, true, true, true, true, true, true, true, true, true, true, true, true, false, false, false, false, false, false, false, false, false, false, false, false, false, false, false, false, false, false, false, false, false, false, false, false, false, false, false] rfl rfl (by kernel_rfl) (fun _ _ _ h => h) (Or.inl ⟨by rfl, ?_⟩) ?_ ?_
      rotate_left
      · intro w'
        go_simp
        with_reducible rfl
      rotate_left
      · simp only [Act.put, List.setIfInBounds_toArray, List.set_cons_zero, List.set_cons_succ, i64_w, i32_w]
        rfl
      refine pure_ (i := 21) (N := some 73) (v := ?_) (a' := ?_) #[true, true, true, true, true, true, true, true, true, true, true, true, true, true, true, true, true, true, true, true, false, true, false, false, false, false, false, false, false, false, false, false, false, false, false, false, false, false, false, false, false, false, false, false, false, false, false] rfl rfl (by kernel_rfl) (fun _ _ _ h => h) (Or.inl ⟨by rfl, ?_⟩) ?_ ?_
      rotate_left
      · intro w'
        go_simp
        with_reducible rfl
      rotate_left
      · simp only [Act.put, List.setIfInBounds_toArray, List.set_cons_zero, List.set_cons_succ, i64_w, i32_w]
        rfl
      refine take_ (i := 20) (N := some 72) (v := ?_) (a' := ?_) #[true, true, true, true, true, true, true, true, true, true, true, true, true, true, true, true, true, true, true, true, true, true, false, false, false, false, false, false, false, false, false, false, false, false, false, false, false, false, false, false, false, false, false, false, false, false, false] rfl rfl (by kernel_rfl) (fun _ _ _ h => h) (Or.inl ⟨by rfl, ?_⟩) hHeld ?_ ?_
      rotate_left
      · rintro w' ⟨s0, s1, s2, s3, s4, s5, s6, s7, s8, s9, s10, s11, s12, s13, s14, s15⟩
        go_simp
        with_reducible rfl
      rotate_left
      · simp only [Act.put, List.setIfInBounds_toArray, List.set_cons_zero, List.set_cons_succ, i64_w, i32_w]
        rfl
      refine pure_ (i := 22) (N := some 74) (v := ?_) (a' := ?_) #[true, true, true, true, true, true, true, true, true, true, true, true, true, true, true, true, true, true, true, true, true, true, true, false, false, false, false, false, false, false, false, false, false, false, false, false, false, false, false, false, false, false, false, false, false, false, false] rfl rfl (by kernel_rfl) (fun _ _ _ h => h) (Or.inl ⟨by rfl, ?_⟩) ?_ ?_
      rotate_left
      · intro w'
        go_simp
        with_reducible rfl
      rotate_left
      · simp only [Act.put, List.setIfInBounds_toArray, List.set_cons_zero, List.set_cons_succ, i64_w, i32_w]
        rfl
      refine pure_ (i := 23) (N := some 75) (v := ?_) (a' := ?_) #[true, true, true, true, true, true, true, true, true, true, true, true, true, true, true, true, true, true, true, true, true, true, true, true, false, false, false, false, false, false, false, false, false, false, false, false, false, false, false, false, false, false, false, false, false, false, false] rfl rfl (by kernel_rfl) (fun _ _ _ h => h) (Or.inl ⟨by rfl, ?_⟩) ?_ ?_
      rotate_left
      · intro w'
        go_simp
        with_reducible rfl
      rotate_left
      · simp only [Act.put, List.setIfInBounds_toArray, List.set_cons_zero, List.set_cons_succ, i64_w, i32_w]
        rfl
      refine pure_ (i := 24) (N := some 76) (v := undef) (a' := ?_) #[true, true, true, true, true, true, true, true, true, true, true, true, true, true, true, true, true, true, true, true, true, true, true, true, true, false, false, false, false, false, false, false, false, false, false, false, false, false, false, false, false, false, false, false, false, false, false] rfl rfl (by kernel_rfl) (fun _ _ _ h => h) (Or.inr ⟨by rfl, rfl⟩) ?_ ?_
      rotate_left
      · simp only [Act.put, List.setIfInBounds_toArray, List.set_cons_zero, List.set_cons_succ, i64_w, i32_w]
        rfl
      refine pure_ (i := 25) (N := some 77) (v := undef) (a' := ?_) #[true, true, true, true, true, true, true, true, true, true, true, true, true, true, true, true, true, true, true, true, true, true, true, true, true, true, false, false, false, false, false, false, false, false, false, false, false, false, false, false, false, false, false, false, false, false, false] rfl rfl (by kernel_rfl) (fun _ _ _ h => h) (Or.inr ⟨by rfl, rfl⟩) ?_ ?_
      rotate_left
      · simp only [Act.put, List.setIfInBounds_toArray, List.set_cons_zero, List.set_cons_succ, i64_w, i32_w]
        rfl
      refine pure_ (i := 26) (N := some 78) (v := undef) (a' := ?_) #[true, true, true, true, true, true, true, true, true, true, true, true, true, true, true, true, true, true, true, true, true, true, true, true, true, true, true, false, false, false, false, false, false, false, false, false, false, false, false, false, false, false, false, false, false, false, false] rfl rfl (by kernel_rfl) (fun _ _ _ h => h) (Or.inr ⟨by rfl, rfl⟩) ?_ ?_
      rotate_left
      · simp only [Act.put, List.setIfInBounds_toArray, List.set_cons_zero, List.set_cons_succ, i64_w, i32_w]
        rfl
      refine pure_ (i := 27) (N := some 79) (v := undef) (a' := ?_) #[true, true, true, true, true, true, true, true, true, true, true, true, true, true, true, true, true, true, true, true, true, true, true, true, true, true, true, true, false, false, false, false, false, false, false, false, false, false, false, false, false, false, false, false, false, false, false] rfl rfl (by kernel_rfl) (fun _ _ _ h => h) (Or.inr ⟨by rfl, rfl⟩) ?_ ?_
      rotate_left
      · simp only [Act.put, List.setIfInBounds_toArray, List.set_cons_zero, List.set_cons_succ, i64_w, i32_w]
        rfl
      refine pure_ (i := 28) (N := some 80) (v := undef) (a' := ?_) #[true, true, true, true, true, true, true, true, true, true, true, true, true, true, true, true, true, true, true, true, true, true, true, true, true, true, true, true, true, false, false, false, false, false, false, false, false, false, false, false, false, false, false, false, false, false, false] rfl rfl (by kernel_rfl) (fun _ _ _ h => h) (Or.inr ⟨by rfl, rfl⟩) ?_ ?_
      rotate_left
      · simp only [Act.put, List.setIfInBounds_toArray, List.set_cons_zero, List.set_cons_succ, i64_w, i32_w]
        rfl
      refine pure_ (i := 29) (N := some 81) (v := ?_) (a' := ?_) #[true, true, true, true, true, true, true, true, true, true, true, true, true, true, true, true, true, true, true, true, true, true, true, true, true, true, true, true, true, true, false, false, false, false, false, false, false, false, false, false, false, false, false, false, false, false, false] rfl rfl (by kernel_rfl) (fun _ _ _ h => h) (Or.inl ⟨by rfl, ?_⟩) ?_ ?_
      rotate_left
      · intro w'
        go_simp
        with_reducible rfl
      rotate_left
      · simp only [Act.put, List.setIfInBounds_toArray, List.set_cons_zero, List.set_cons_succ, i64_w, i32_w]
        rfl
      refine pure_ (i := 30) (N := some 82) (v := ?_) (a' := ?_) #[true, true, true, true, true, true, true, true, true, true, true, true, true, true, true, true, true, true, true, true, true, true, true, true, true, true, true, true, true, true, true, false, false, false, false, false, false, false, false, false, false, false, false, false, false, false, false] rfl rfl (by kernel_rfl) (fun _ _ _ h => h) (Or.inl ⟨by rfl, ?_⟩) ?_ ?_
      rotate_left
      · intro w'
        go_simp
        with_reducible rfl
      rotate_left
      · simp only [Act.put, List.setIfInBounds_toArray, List.set_cons_zero, List.set_cons_succ, i64_w, i32_w]
        rfl
      refine pure_ (i := 31) (N := some 83) (v := ?_) (a' := ?_) #[true, true, true, true, true, true, true, true, true, true, true, true, true, true, true, true, true, true, true, true, true, true, true, true, true, true, true, true, true, true, true, true, false, false, false, false, false, false, false, false, false, false, false, false, false, false, false] rfl rfl (by kernel_rfl) (fun _ _ _ h => h) (Or.inl ⟨by rfl, ?_⟩) ?_ ?_
      rotate_left
      · intro w'
        go_simp
        with_reducible rfl
      rotate_left
      · simp only [Act.put, List.setIfInBounds_toArray, List.set_cons_zero, List.set_cons_succ, i64_w, i32_w]
        rfl
      refine pure_ (i := 32) (N := some 84) (v := ?_) (a' := ?_) #[true, true, true, true, true, true, true, true, true, true, true, true, true, true, true, true, true, true, true, true, true, true, true, true, true, true, true, true, true, true, true, true, true, false, false, false, false, false, false, false, false, false, false, false, false, false, false] rfl rfl (by kernel_rfl) (fun _ _ _ h => h) (Or.inl ⟨by rfl, ?_⟩) ?_ ?_
      rotate_left
      · intro w'
        go_simp
        with_reducible rfl
      rotate_left
      · simp only [Act.put, List.setIfInBounds_toArray, List.set_cons_zero, List.set_cons_succ, i64_w, i32_w]
        rfl
      refine take_ (i := 33) (N := some 85) (v := ?_) (a' := ?_) #[true, true, true, true, true, true, true, true, true, true, true, true, true, true, true, true, true, true, true, true, true, true, true, true, true, true, true, true, true, true, true, true, true, true, false, false, false, false, false, false, false, false, false, false, false, false, false] rfl rfl (by kernel_rfl) (fun _ _ _ h => h) (Or.inl ⟨by rfl, ?_⟩) hHeld ?_ ?_
      rotate_left
      · rintro w' ⟨s0, s1, s2, s3, s4, s5, s6, s7, s8, s9, s10, s11, s12, s13, s14, s15⟩
        go_simp
        with_reducible rfl
      rotate_left
      · simp only [Act.put, List.setIfInBounds_toArray, List.set_cons_zero, List.set_cons_succ, i64_w, i32_w]
        rfl
      refine pure_ (i := 34) (N := some 86) (v := ?_) (a' := ?_) #[true, true, true, true, true, true, true, true, true, true, true, true, true, true, true, true, true, true, true, true, true, true, true, true, true, true, true, true, true, true, true, true, true, true, true, false, false, false, false, false, false, false, false, false, false, false, false] rfl rfl (by kernel_rfl) (fun _ _ _ h => h) (Or.inl ⟨by rfl, ?_⟩) ?_ ?_
      rotate_left
      · intro w'
        go_simp
        with_reducible rfl
      rotate_left
      · simp only [Act.put, List.setIfInBounds_toArray, List.set_cons_zero, List.set_cons_succ, i64_w, i32_w]
        rfl
      refine pure_ (i := 35) (N := some 87) (v := ?_) (a' := ?_) #[true, true, true, true, true, true, true, true, true, true, true, true, true, true, true, true, true, true, true, true, true, true, true, true, true, true, true, true, true, true, true, true, true, true, true, true, false, false, false, false, false, false, false, false, false, false, false] rfl rfl (by kernel_rfl) (fun _ _ _ h => h) (Or.inl ⟨by rfl, ?_⟩) ?_ ?_
      rotate_left
      · intro w'
        go_simp
        with_reducible rfl
      rotate_left
      · simp only [Act.put, List.setIfInBounds_toArray, List.set_cons_zero, List.set_cons_succ, i64_w, i32_w]
        rfl
      refine pure_ (i := 36) (N := some 88) (v := ?_) (a' := ?_) #[true, true, true, true, true, true, true, true, true, true, true, true, true, true, true, true, true, true, true, true, true, true, true, true, true, true, true, true, true, true, true, true, true, true, true, true, true, false, false, false, false, false, false, false, false, false, false] rfl rfl (by kernel_rfl) (fun _ _ _ h => h) (Or.inl ⟨by rfl, ?_⟩) ?_ ?_
      rotate_left
      · intro w'
        go_simp
        with_reducible rfl
      rotate_left
      · simp only [Act.put, List.setIfInBounds_toArray, List.set_cons_zero, List.set_cons_succ, i64_w, i32_w]
        rfl
      refine pure_ (i := 37) (N := some 89) (v := ?_) (a' := ?_) #[true, true, true, true, true, true, true, true, true, true, true, true, true, true, true, true, true, true, true, true, true, true, true, true, true, true, true, true, true, true, true, true, true, true, true, true, true, true, false, false, false, false, false, false, false, false, false] rfl rfl (by kernel_rfl) (fun _ _ _ h => h) (Or.inl ⟨by rfl, ?_⟩) ?_ ?_
      rotate_left
      · intro w'
        go_simp
        with_reducible rfl
      rotate_left
      · simp only [Act.put, List.setIfInBounds_toArray, List.set_cons_zero, List.set_cons_succ, i64_w, i32_w]
        rfl
      refine pure_ (i := 41) (N := some 93) (v := ?_) (a' := ?_) #[true, true, true, true, true, true, true, true, true, true, true, true, true, true, true, true, true, true, true, true, true, true, true, true, true, true, true, true, true, true, true, true, true, true, true, true, true, true, false, false, false, true, false, false, false, false, false] rfl rfl (by kernel_rfl) (fun _ _ _ h => h) (Or.inl ⟨by rfl, ?_⟩) ?_ ?_
      rotate_left
      · intro w'
        go_simp
        with_reducible rfl
      rotate_left
      · simp only [Act.put, List.setIfInBounds_toArray, List.set_cons_zero, List.set_cons_succ, i64_w, i32_w]
        rfl
      refine take_ (i := 38) (N := some 90) (v := ?_) (a' := ?_) #[true, true, true, true, true, true, true, true, true, true, true, true, true, true, true, true, true, true, true, true, true, true, true, true, true, true, true, true, true, true, true, true, true, true, true, true, true, true, true, false, false, true, false, false, false, false, false] rfl rfl (by kernel_rfl) (fun _ _ _ h => h) (Or.inl ⟨by rfl, ?_⟩) hHeld ?_ ?_
      rotate_left
      · rintro w' ⟨s0, s1, s2, s3, s4, s5, s6, s7, s8, s9, s10, s11, s12, s13, s14, s15⟩
        go_simp
        with_reducible rfl
      rotate_left
      · simp only [Act.put, List.setIfInBounds_toArray, List.set_cons_zero, List.set_cons_succ, i64_w, i32_w]
        rfl
      refine take_ (i := 39) (N := some 91) (v := ?_) (a' := ?_) #[true, true, true, true, true, true, true, true, true, true, true, true, true, true, true, true, true, true, true, true, true, true, true, true, true, true, true, true, true, true, true, true, true, true, true, true, true, true, true, true, false, true, false, false, false, false, false] rfl rfl (by kernel_rfl) (fun _ _ _ h => h) (Or.inl ⟨by rfl, ?_⟩) hHeld ?_ ?_
      rotate_left
      · rintro w' ⟨s0, s1, s2, s3, s4, s5, s6, s7, s8, s9, s10, s11, s12, s13, s14, s15⟩
        go_simp
        with_reducible rfl
      rotate_left
      · simp only [Act.put, List.setIfInBounds_toArray, List.set_cons_zero, List.set_cons_succ, i64_w, i32_w]
        rfl
      refine take_ (i := 40) (N := some 92) (v := ?_) (a' := ?_) #[true, true, true, true, true, true, true, true, true, true, true, true, true, true, true, true, true, true, true, true, true, true, true, true, true, true, true, true, true, true, true, true, true, true, true, true, true, true, true, true, true, true, false, false, false, false, false] rfl rfl (by kernel_rfl) (fun _ _ _ h => h) (Or.inl ⟨by rfl, ?_⟩) hHeld ?_ ?_
      rotate_left
      · rintro w' ⟨s0, s1, s2, s3, s4, s5, s6, s7, s8, s9, s10, s11, s12, s13, s14, s15⟩
        go_simp
        with_reducible rfl
      rotate_left
      · simp only [Act.put, List.setIfInBounds_toArray, List.set_cons_zero, List.set_cons_succ, i64_w, i32_w]
        rfl
      refine one_ (i := 42) (N := some 94) #[true, true, true, true, true, true, true, true, true, true, true, true, true, true, true, true, true, true, true, true, true, true, true, true, true, true, true, true, true, true, true, true, true, true, true, true, true, true, true, true, true, true, true, false, false, false, false] rfl rfl (by kernel_rfl) (by decide) (fun K hK => ?_)
      refine goes_ Try.func69 (by kernel_rfl) rfl #[.agg #[.slice Ab bs.length cb], .agg #[.int .i64 wd, .bool ch, .int .i64 sh], .int .i64 t] (by rfl) rfl rfl (by simp only [List.map_toArray, List.map_cons, List.map_nil]; rfl) ?_
      refine (spec_LastTop.calls kk Ab cb bs wd ch sh t 0 0 0 _ HC_0.out hv1 E2.out).mono ?_
      rintro e u1 ⟨rfl, hbb1⟩
      refine ⟨_, rfl, ?_⟩
      have xb1_0 := M.cell_below hbb1 xb0_0
      have xb1_1 := M.cell_below hbb1 xb0_1
      have xb1_2 := M.cell_below hbb1 xb0_2
      have xb1_3 := M.cell_below hbb1 xb0_3
      have xb1_4 := M.cell_below hbb1 xb0_4
      have xb1_5 := M.cell_below hbb1 xb0_5
      have xb1_6 := M.cell_below hbb1 xb0_6
      have xb1_7 := M.cell_below hbb1 xb0_7
      have xb1_8 := M.cell_below hbb1 xb0_8
      have xb1_9 := M.cell_below hbb1 xb0_9
      have xb1_10 := M.cell_below hbb1 xb0_10
      have xb1_11 := M.cell_below hbb1 xb0_11
      have xb1_12 := M.cell_below hbb1 xb0_12
      have xb1_13 := M.cell_below hbb1 xb0_13
      have xb1_14 := M.cell_below hbb1 xb0_14
      have xb1_15 := M.cell_below hbb1 xb0_15
      have HC_1 := Aside0.mk (Kd.C_below HC_0.out hbb1)
      have hB_1 := hB_0.trans (hbb1.mono hB_0.size)
      refine hK.out _ _ ⟨xb1_0, xb1_1, xb1_2, xb1_3, xb1_4, xb1_5, xb1_6, xb1_7, xb1_8, xb1_9, xb1_10, xb1_11, xb1_12, xb1_13, xb1_14, xb1_15⟩ (fun hHeld => ?_)
      clear hK K
      refine norm_ (a' := ?_) ?_ ?_
      rotate_left
      · show Act.put _ (some 94) _ = _
        simp only [Act.put, List.setIfInBounds_toArray, List.set_cons_zero, List.set_cons_succ, i64_w, i32_w]
        rfl
      refine pure_ (i := 43) (N := some 95) (v := ?_) (a' := ?_) #[true, true, true, true, true, true, true, true, true, true, true, true, true, true, true, true, true, true, true, true, true, true, true, true, true, true, true, true, true, true, true, true, true, true, true, true, true, true, true, true, true, true, true, true, false, false, false] rfl rfl (by kernel_rfl) (fun _ _ _ h => h) (Or.inl ⟨by rfl, ?_⟩) ?_ ?_
      rotate_left
      · intro w'
        go_simp
        with_reducible rfl
      rotate_left
      · simp only [Act.put, List.setIfInBounds_toArray, List.set_cons_zero, List.set_cons_succ, i64_w, i32_w]
        rfl
      refine pure_ (i := 44) (N := some 96) (v := ?_) (a' := ?_) #[true, true, true, true, true, true, true, true, true, true, true, true, true, true, true, true, true, true, true, true, true, true, true, true, true, true, true, true, true, true, true, true, true, true, true, true, true, true, true, true, true, true, true, true, true, false, false] rfl rfl (by kernel_rfl) (fun _ _ _ h => h) (Or.inl ⟨by rfl, ?_⟩) ?_ ?_
      rotate_left
      · intro w'
        go_simp
        with_reducible rfl
      rotate_left
      · simp only [Act.put, List.setIfInBounds_toArray, List.set_cons_zero, List.set_cons_succ, i64_w, i32_w]
        rfl
      refine pure_ (i := 45) (N := some 97) (v := ?_) (a' := ?_) #[true, true, true, true, true, true, true, true, true, true, true, true, true, true, true, true, true, true, true, true, true, true, true, true, true, true, true, true, true, true, true, true, true, true, true, true, true, true, true, true, true, true, true, true, true, true, false] rfl rfl (by kernel_rfl) (fun _ _ _ h => h) (Or.inl ⟨by rfl, ?_⟩) ?_ ?_
      rotate_left
      · intro w'
        go_simp
        with_reducible rfl
      rotate_left
      · simp only [Act.put, List.setIfInBounds_toArray, List.set_cons_zero, List.set_cons_succ, i64_w, i32_w]
        rfl
      refine pure_ (i := 46) (N := some 2) (v := ?_) (a' := ?_) #[true, true, true, true, true, true, true, true, true, true, true, true, true, true, true, true, true, true, true, true, true, true, true, true, true, true, true, true, true, true, true, true, true, true, true, true, true, true, true, true, true, true, true, true, true, true, true] rfl rfl (by kernel_rfl) (fun _ _ _ h => h) (Or.inl ⟨by rfl, ?_⟩) ?_ ?_
      rotate_left
      · intro w'
        go_simp
        with_reducible rfl
      rotate_left
      · simp only [Act.put, List.setIfInBounds_toArray, List.set_cons_zero, List.set_cons_succ, i64_w, i32_w]
        rfl
      refine done_ (by kernel_rfl) ?_
      go_wp2
      go_ret
      exact ⟨rfl, by repeat (first | exact hB_1 | apply below_alloc | apply pw_below_drewN | apply below_drew1)⟩
    have n1 : ¬ a = 0 ∨ ¬ b = 0 := by omega
    have n2 : ¬ m1 = a ∨ ¬ m2 = b := by omega
    clear c1 c2 d3 d4 d5 g6 hV6 hne hab
    rcases n1 with n1 | n1 <;> rcases n2 with n2 | n2
    all_goals
      have n1' := beq_eq_false_iff_ne.mpr n1
      have n2' := beq_eq_false_iff_ne.mpr n2
      have yb0 : V6.drew.cell? ⟨w2.heap.size, 0, none⟩ = some (.slice Ab bs.length cb) := c1_ 0
      have yb1 : V6.drew.cell? ⟨w2.heap.size + 1, 0, none⟩ = some (.int .i64 wd) := c2_ 0
      have yb2 : V6.drew.cell? ⟨w2.heap.size + 1, 1, none⟩ = some (.bool ch) := c2_ 1
      have yb3 : V6.drew.cell? ⟨w2.heap.size + 1, 2, none⟩ = some (.int .i64 sh) := c2_ 2
      have yb4 : V6.drew.cell? ⟨w3.heap.size, 0, none⟩ = some (.int .i64 0) := d3_ 0
      have yb5 : V6.drew.cell? ⟨w3.heap.size, 1, none⟩ = some (.int .i64 a) := d3_ 1
      have yb6 : V6.drew.cell? ⟨w3.heap.size, 2, none⟩ = some (.int .i64 b) := d3_ 2
      have yb7 : V6.drew.cell? ⟨w4.heap.size, 0, none⟩ = some (.int .i64 0) := d4_ 0
      have yb8 : V6.drew.cell? ⟨w4.heap.size, 1, none⟩ = some (.int .i64 e1) := d4_ 1
      have yb9 : V6.drew.cell? ⟨w4.heap.size, 2, none⟩ = some (.int .i64 e2) := d4_ 2
      have yb10 : V6.drew.cell? ⟨w5.heap.size, 0, none⟩ = some (.int .i64 0) := d5_ 0
      have yb11 : V6.drew.cell? ⟨w5.heap.size, 1, none⟩ = some (.int .i64 e1) := d5_ 1
      have yb12 : V6.drew.cell? ⟨w5.heap.size, 2, none⟩ = some (.int .i64 e2) := d5_ 2
      have yb13 : V6.drew.cell? ⟨w6.heap.size, 0, none⟩ = some (.int .i64 0) := d6 0
      have yb14 : V6.drew.cell? ⟨w6.heap.size, 1, none⟩ = some (.int .i64 m1) := d6 1
      have yb15 : V6.drew.cell? ⟨w6.heap.size, 2, none⟩ = some (.int .i64 m2) := d6 2
      have HCd := Aside0.mk (Kd.C_drew HCv6.out)
      have hBd : Below w.heap.size w V6.drew := below_drew1 hBv6
      refine start_ (n := 47) (S := fun w' => w'.cell? ⟨w2.heap.size, 0, none⟩ = some (.slice Ab bs.length cb) ∧ w'.cell? ⟨w2.heap.size + 1, 0, none⟩ = some (.int .i64 wd) ∧ w'.cell? ⟨w2.heap.size + 1, 1, none⟩ = some (.bool ch) ∧ w'.cell? ⟨w2.heap.size + 1, 2, none⟩ = some (.int .i64 sh) ∧ w'.cell? ⟨w3.heap.size, 0, none⟩ = some (.int .i64 0) ∧ w'.cell? ⟨w3.heap.size, 1, none⟩ = some (.int .i64 a) ∧ w'.cell? ⟨w3.heap.size, 2, none⟩ = some (.int .i64 b) ∧ w'.cell? ⟨w4.heap.size, 0, none⟩ = some (.int .i64 0) ∧ w'.cell? ⟨w4.heap.size, 1, none⟩ = some (.int .i64 e1) ∧ w'.cell? ⟨w4.heap.size, 2, none⟩ = some (.int .i64 e2) ∧ w'.cell? ⟨w5.heap.size, 0, none⟩ = some (.int .i64 0) ∧ w'.cell? ⟨w5.heap.size, 1, none⟩ = some (.int .i64 e1) ∧ w'.cell? ⟨w5.heap.size, 2, none⟩ = some (.int .i64 e2) ∧ w'.cell? ⟨w6.heap.size, 0, none⟩ = some (.int .i64 0) ∧ w'.cell? ⟨w6.heap.size, 1, none⟩ = some (.int .i64 m1) ∧ w'.cell? ⟨w6.heap.size, 2, none⟩ = some (.int .i64 m2)) (ds := []) #[false, false, false, false, false, false, false, false, false, false, false, false, false, false, false, false, false, false, false, false, false, false, false, false, false, false, false, false, false, false, false, false, false, false, false, false, false, false, false, false, false, false, false, false, false, false, false] (by kernel_rfl) rfl rfl ⟨yb0, yb1, yb2, yb3, yb4, yb5, yb6, yb7, yb8, yb9, yb10, yb11, yb12, yb13, yb14, yb15⟩ (fun hHeld => ?_)
      refine pure_ (i := 2) (N := some 54) (v := ?_) (a' := ?_) #[false, false, true, false, false, false, false, false, false, false, false, false, false, false, false, false, false, false, false, false, false, false, false, false, false, false, false, false, false, false, false, false, false, false, false, false, false, false, false, false, false, false, false, false, false, false, false] rfl rfl (by kernel_rfl) (fun _ _ _ h => h) (Or.inl ⟨by rfl, ?_⟩) ?_ ?_
      rotate_left
      · intro w'
        go_simp
        with_reducible rfl
      rotate_left
      · simp only [Act.put, List.setIfInBounds_toArray, List.set_cons_zero, List.set_cons_succ, i64_w, i32_w]
        rfl
      refine take_ (i := 0) (N := some 52) (v := ?_) (a' := ?_) #[true, false, true, false, false, false, false, false, false, false, false, false, false, false, false, false, false, false, false, false, false, false, false, false, false, false, false, false, false, false, false, false, false, false, false, false, false, false, false, false, false, false, false, false, false, false, false] rfl rfl (by kernel_rfl) (fun _ _ _ h => h) (Or.inl ⟨by rfl, ?_⟩) hHeld ?_ ?_
      rotate_left
      · rintro w' ⟨s0, s1, s2, s3, s4, s5, s6, s7, s8, s9, s10, s11, s12, s13, s14, s15⟩
        go_simp
        with_reducible rfl
      rotate_left
      · simp only [Act.put, List.setIfInBounds_toArray, List.set_cons_zero, List.set_cons_succ, i64_w, i32_w]
        rfl
      refine take_ (i := 1) (N := some 53) (v := ?_) (a' := ?_) #[true, true, true, false, false, false, false, false, false, false, false, false, false, false, false, false, false, false, false, false, false, false, false, false, false, false, false, false, false, false, false, false, false, false, false, false, false, false, false, false, false, false, false, false, false, false, false] rfl rfl (by kernel_rfl) (fun _ _ _ h => h) (Or.inl ⟨by rfl, ?_⟩) hHeld ?_ ?_
      rotate_left
      · rintro w' ⟨s0, s1, s2, s3, s4, s5, s6, s7, s8, s9, s10, s11, s12, s13, s14, s15⟩
        go_simp
        with_reducible rfl
      rotate_left
      · simp only [Act.put, List.setIfInBounds_toArray, List.set_cons_zero, List.set_cons_succ, i64_w, i32_w]
        rfl
      refine take_ (i := 3) (N := some 55) (v := ?_) (a' := ?_) #[true, true, true, true, false, false, false, false, false, false, false, false, false, false, false, false, false, false, false, false, false, false, false, false, false, false, false, false, false, false, false, false, false, false, false, false, false, false, false, false, false, false, false, false, false, false, false] rfl rfl (by kernel_rfl) (fun _ _ _ h => h) (Or.inl ⟨by rfl, ?_⟩) hHeld ?_ ?_
      rotate_left
      · rintro w' ⟨s0, s1, s2, s3, s4, s5, s6, s7, s8, s9, s10, s11, s12, s13, s14, s15⟩
        go_simp
        with_reducible rfl
      rotate_left
      · simp only [Act.put, List.setIfInBounds_toArray, List.set_cons_zero, List.set_cons_succ, i64_w, i32_w]
        rfl
      refine one_ (i := 4) (N := some 56) #[true, true, true, true, true, false, false, false, false, false, false, false, false, false, false, false, false, false, false, false, false, false, false, false, false, false, false, false, false, false, false, false, false, false, false, false, false, false, false, false, false, false, false, false, false, false, false] rfl rfl (by kernel_rfl) (by decide) (fun K hK => ?_)
      refine goes_ Try.func71 (by kernel_rfl) rfl #[.agg #[.slice Ab bs.length cb], .agg #[.int .i64 wd, .bool ch, .int .i64 sh], .agg #[.int .i64 a, .int .i64 b]] (by rfl) rfl rfl (by simp only [List.map_toArray, List.map_cons, List.map_nil]; rfl) ?_
      refine (impl_SpotFault.calls kk Ab cb bs wd ch sh a b 0 _ HCd.out hv1 E6.out).mono ?_
      rintro e u0 ⟨rfl, hbb0⟩
      refine ⟨_, rfl, ?_⟩
      have xb0_0 := M.cell_below hbb0 yb0
      have xb0_1 := M.cell_below hbb0 yb1
      have xb0_2 := M.cell_below hbb0 yb2
      have xb0_3 := M.cell_below hbb0 yb3
      have xb0_4 := M.cell_below hbb0 yb4
      have xb0_5 := M.cell_below hbb0 yb5
      have xb0_6 := M.cell_below hbb0 yb6
      have xb0_7 := M.cell_below hbb0 yb7
      have xb0_8 := M.cell_below hbb0 yb8
      have xb0_9 := M.cell_below hbb0 yb9
      have xb0_10 := M.cell_below hbb0 yb10
      have xb0_11 := M.cell_below hbb0 yb11
      have xb0_12 := M.cell_below hbb0 yb12
      have xb0_13 := M.cell_below hbb0 yb13
      have xb0_14 := M.cell_below hbb0 yb14
      have xb0_15 := M.cell_below hbb0 yb15
      have HC_0 := Aside0.mk (Kd.C_below HCd.out hbb0)
      have hB_0 := hBd.trans (hbb0.mono hBd.size)
      refine hK.out _ _ ⟨xb0_0, xb0_1, xb0_2, xb0_3, xb0_4, xb0_5, xb0_6, xb0_7, xb0_8, xb0_9, xb0_10, xb0_11, xb0_12, xb0_13, xb0_14, xb0_15⟩ (fun hHeld => ?_)
      clear hK K
      refine norm_ (a' := ?_) ?_ ?_
      rotate_left
      · show Act.put _ (some 56) _ = _
        simp only [Act.put, List.setIfInBounds_toArray, List.set_cons_zero, List.set_cons_succ, i64_w, i32_w]
        rfl
      refine pure_ (i := 5) (N := some 57) (v := ?_) (a' := ?_) #[true, true, true, true, true, true, false, false, false, false, false, false, false, false, false, false, false, false, false, false, false, false, false, false, false, false, false, false, false, false, false, false, false, false, false, false, false, false, false, false, false, false, false, false, false, false, false] rfl rfl (by kernel_rfl) (fun _ _ _ h => h) (Or.inl ⟨by rfl, ?_⟩) ?_ ?_
      rotate_left
      · intro w'
        go_simp
        with_reducible rfl
      rotate_left
      · simp only [Act.put, List.setIfInBounds_toArray, List.set_cons_zero, List.set_cons_succ, i64_w, i32_w]
        rfl
      refine pure_ (i := 6) (N := some 58) (v := ?_) (a' := ?_) #[true, true, true, true, true, true, true, false, false, false, false, false, false, false, false, false, false, false, false, false, false, false, false, false, false, false, false, false, false, false, false, false, false, false, false, false, false, false, false, false, false, false, false, false, false, false, false] rfl rfl (by kernel_rfl) (fun _ _ _ h => h) (Or.inl ⟨by rfl, ?_⟩) ?_ ?_
      rotate_left
      · intro w'
        go_simp
        with_reducible rfl
      rotate_left
      · simp only [Act.put, List.setIfInBounds_toArray, List.set_cons_zero, List.set_cons_succ, i64_w, i32_w]
        rfl
      refine pure_ (i := 7) (N := some 59) (v := ?_) (a' := ?_) #[true, true, true, true, true, true, true, true, false, false, false, false, false, false, false, false, false, false, false, false, false, false, false, false, false, false, false, false, false, false, false, false, false, false, false, false, false, false, false, false, false, false, false, false, false, false, false] rfl rfl (by kernel_rfl) (fun _ _ _ h => h) (Or.inl ⟨by rfl, ?_⟩) ?_ ?_
      rotate_left
      · intro w'
        go_simp
        with_reducible rfl
      rotate_left
      · simp only [Act.put, List.setIfInBounds_toArray, List.set_cons_zero, List.set_cons_succ, i64_w, i32_w]
        rfl
      refine take_ (i := 8) (N := some 60) (v := ?_) (a' := ?_) #[true, true, true, true, true, true, true, true, true, false, false, false, false, false, false, false, false, false, false, false, false, false, false, false, false, false, false, false, false, false, false, false, false, false, false, false, false, false, false, false, false, false, false, false, false, false, false] rfl rfl (by kernel_rfl) (fun _ _ _ h => h) (Or.inl ⟨by rfl, ?_⟩) hHeld ?_ ?_
      rotate_left
      · rintro w' ⟨s0, s1, s2, s3, s4, s5, s6, s7, s8, s9, s10, s11, s12, s13, s14, s15⟩
        go_simp
        with_reducible rfl
      rotate_left
      · simp only [Act.put, List.setIfInBounds_toArray, List.set_cons_zero, List.set_cons_succ, i64_w, i32_w]
        rfl
      refine pure_ (i := 9) (N := some 61) (v := ?_) (a' := ?_) #[true, true, true, true, true, true, true, true, true, true, false, false, false, false, false, false, false, false, false, false, false, false, false, false, false, false, false, false, false, false, false, false, false, false, false, false, false, false, false, false, false, false, false, false, false, false, false] rfl rfl (by kernel_rfl) (fun _ _ _ h => h) (Or.inl ⟨by rfl, ?_⟩) ?_ ?_
      rotate_left
      · intro w'
        go_simp
        with_reducible rfl
      rotate_left
      · simp only [Act.put, List.setIfInBounds_toArray, List.set_cons_zero, List.set_cons_succ, i64_w, i32_w]
        rfl
      refine pure_ (i := 10) (N := some 62) (v := ?_) (a' := ?_) #[true, true, true, true, true, true, true, true, true, true, true, false, false, false, false, false, false, false, false, false, false, false, false, false, false, false, false, false, false, false, false, false, false, false, false, false, false, false, false, false, false, false, false, false, false, false, false] rfl rfl (by kernel_rfl) (fun _ _ _ h => h) (Or.inl ⟨by rfl, ?_⟩) ?_ ?_
      rotate_left
      · intro w'
        go_simp
        with_reducible rfl
      rotate_left
      · simp only [Act.put, List.setIfInBounds_toArray, List.set_cons_zero, List.set_cons_succ, i64_w, i32_w]
        rfl
      refine pure_ (i := 11) (N := some 63) (v := ?_) (a' := ?_) #[true, true, true, true, true, true, true, true, true, true, true, true, false, false, false, false, false, false, false, false, false, false, false, false, false, false, false, false, false, false, false, false, false, false, false, false, false, false, false, false, false, false, false, false, false, false, false] rfl rfl (by kernel_rfl) (fun _ _ _ h => h) (Or.inl ⟨by rfl, ?_⟩) ?_ ?_
      rotate_left
      · intro w'
        go_simp
        with_reducible rfl
      rotate_left
      · simp only [Act.put, List.setIfInBounds_toArray, List.set_cons_zero, List.set_cons_succ, i64_w, i32_w]
        rfl
      refine pure_ (i := 12) (N := some 64) (v := ?_) (a' := ?_) #[true, true, true, true, true, true, true, true, true, true, true, true, true, false, false, false, false, false, false, false, false, false, false, false, false, false, false, false, false, false, false, false, false, false, false, false, false, false, false, false, false, false, false, false, false, false, false] rfl rfl (by kernel_rfl) (fun _ _ _ h => h) (Or.inl ⟨by rfl, ?_⟩) ?_ ?_
      rotate_left
      · intro w'
        go_simp
        with_reducible rfl
      rotate_left
      · simp only [Act.put, List.setIfInBounds_toArray, List.set_cons_zero, List.set_cons_succ, i64_w, i32_w]
        rfl
      refine pure_ (i := 14) (N := some 66) (v := ?_) (a' := ?_) #[true, true, true, true, true, true, true, true, true, true, true, true, true, false, true, false, false, false, false, false, false, false, false, false, false, false, false, false, false, false, false, false, false, false, false, false, false, false, false, false, false, false, false, false, false, false, false] rfl rfl (by kernel_rfl) (fun _ _ _ h => h) (Or.inl ⟨by rfl, ?_⟩) ?_ ?_
      rotate_left
      · intro w'
        go_simp
        with_reducible rfl
      rotate_left
      · simp only [Act.put, List.setIfInBounds_toArray, List.set_cons_zero, List.set_cons_succ, i64_w, i32_w]
        rfl
      refine take_ (i := 13) (N := some 65) (v := ?_) (a' := ?_) #[true, true, true, true, true, true, true, true, true, true, true, true, true, true, true, false, false, false, false, false, false, false, false, false, false, false, false, false, false, false, false, false, false, false, false, false, false, false, false, false, false, false, false, false, false, false, false] rfl rfl (by kernel_rfl) (fun _ _ _ h => h) (Or.inl ⟨by rfl, ?_⟩) hHeld ?_ ?_
      rotate_left
      · rintro w' ⟨s0, s1, s2, s3, s4, s5, s6, s7, s8, s9, s10, s11, s12, s13, s14, s15⟩
        go_simp
        with_reducible rfl
      rotate_left
      · simp only [Act.put, List.setIfInBounds_toArray, List.set_cons_zero, List.set_cons_succ, i64_w, i32_w]
        rfl
      refine take_ (i := 15) (N := some 67) (v := ?_) (a' := ?_) #[true, true, true, true, true, true, true, true, true, true, true, true, true, true, true, true, false, false, false, false, false, false, false, false, false, false, false, false, false, false, false, false, false, false, false, false, false, false, false, false, false, false, false, false, false, false, false] rfl rfl (by kernel_rfl) (fun _ _ _ h => h) (Or.inl ⟨by rfl, ?_⟩) hHeld ?_ ?_
      rotate_left
      · rintro w' ⟨s0, s1, s2, s3, s4, s5, s6, s7, s8, s9, s10, s11, s12, s13, s14, s15⟩
        go_simp
        with_reducible rfl
      rotate_left
      · simp only [Act.put, List.setIfInBounds_toArray, List.set_cons_zero, List.set_cons_succ, i64_w, i32_w]
        rfl
      refine pure_ (i := 16) (N := some 68) (v := ?_) (a' := ?_) #[true, true, true, true, true, true, true, true, true, true, true, true, true, true, true, true, true, false, false, false, false, false, false, false, false, false, false, false, false, false, false, false, false, false, false, false, false, false, false, false, false, false, false, false, false, false, false] rfl rfl (by kernel_rfl) (fun _ _ _ h => h) (Or.inl ⟨by rfl, ?_⟩) ?_ ?_
      rotate_left
      · intro w'
        go_simp
        with_reducible rfl
      rotate_left
      · simp only [Act.put, List.setIfInBounds_toArray, List.set_cons_zero, List.set_cons_succ, i64_w, i32_w]
        rfl
      refine pure_ (i := 17) (N := some 69) (v := ?_) (a' := ?_) #[true, true, true, true, true, true, true, true, true, true, true, true, true, true, true, true, true, true, false, false, false, false, false, false, false, false, false, false, false, false, false, false, false, false, false, false, false, false, false, false, false, false, false, false, false, false, false] rfl rfl (by kernel_rfl) (fun _ _ _ h => h) (Or.inl ⟨by rfl, ?_⟩) ?_ ?_
      rotate_left
      · intro w'
        go_simp
        with_reducible rfl
      rotate_left
      · simp only [Act.put, List.setIfInBounds_toArray, List.set_cons_zero, List.set_cons_succ, i64_w, i32_w]
        rfl
      refine pure_ (i := 18) (N := some 70) (v := ?_) (a' := ?_) #[true, true, true, true, true, true, true, true, true, true, true, true, true, true, true, true, true, true, true, false, false, false, false, false, false, false, false, false, false, false, false, false, false, false, false, false, false, false, false, false, false, false, false, false, false, false, false] rfl rfl (by kernel_rfl) (fun _ _ _ h => h) (Or.inl ⟨by rfl, ?_⟩) ?_ ?_
      rotate_left
      · intro w'
        go_simp
        with_reducible rfl
      rotate_left
      · simp only [Act.put, List.setIfInBounds_toArray, List.set_cons_zero, List.set_cons_succ, i64_w, i32_w]
        rfl
      refine pure_ (i := 19) (N := some 71) (v := ?_) (a' := ?_) #[true, true, true, true, true, true, true, true, true, true, true, true, true, true, true, true, true, true, true, true, false, false, false, false, false, false, false, false, false, false, false, false, false, false, false, false, false, false, false, false, false, false, false, false, false, false, false] rfl rfl (by kernel_rfl) (fun _ _ _ h => h) (Or.inl ⟨by rfl, ?_⟩) ?_ ?_
      rotate_left
      · intro w'
        go_simp
        with_reducible rfl
      rotate_left
      · simp only [Act.put, List.setIfInBounds_toArray, List.set_cons_zero, List.set_cons_succ, i64_w, i32_w]
        rfl
      refine pure_ (i := 21) (N := some 73) (v := ?_) (a' := ?_) #[true, true, true, true, true, true, true, true, true, true, true, true, true, true, true, true, true, true, true, true, false, true, false, false, false, false, false, false, false, false, false, false, false, false, false, false, false, false, false, false, false, false, false, false, false, false, false] rfl rfl (by kernel_rfl) (fun _ _ _ h => h) (Or.inl ⟨by rfl, ?_⟩) ?_ ?_
      rotate_left
      · intro w'
        go_simp
        with_reducible rfl
      rotate_left
      · simp only [Act.put, List.setIfInBounds_toArray, List.set_cons_zero, List.set_cons_succ, i64_w, i32_w]
        rfl
      refine take_ (i := 20) (N := some 72) (v := ?_) (a' := ?_) #[true, true, true, true, true, true, true, true, true, true, true, true, true, true, true, true, true, true, true, true, true, true, false, false, false, false, false, false, false, false, false, false, false, false, false, false, false, false, false, false, false, false, false, false, false, false, false] rfl rfl (by kernel_rfl) (fun _ _ _ h => h) (Or.inl ⟨by rfl, ?_⟩) hHeld ?_ ?_
      rotate_left
      · rintro w' ⟨s0, s1, s2, s3, s4, s5, s6, s7, s8, s9, s10, s11, s12, s13, s14, s15⟩
        go_simp
        with_reducible rfl
      rotate_left
      · simp only [Act.put, List.setIfInBounds_toArray, List.set_cons_zero, List.set_cons_succ, i64_w, i32_w]
        rfl
      refine pure_ (i := 22) (N := some 74) (v := ?_) (a' := ?_) #[true, true, true, true, true, true, true, true, true, true, true, true, true, true, true, true, true, true, true, true, true, true, true, false, false, false, false, false, false, false, false, false, false, false, false, false, false, false, false, false, false, false, false, false, false, false, false] rfl rfl (by kernel_rfl) (fun _ _ _ h => h) (Or.inl ⟨by rfl, ?_⟩) ?_ ?_
      rotate_left
      · intro w'
        go_simp
        with_reducible rfl
      rotate_left
      · simp only [Act.put, List.setIfInBounds_toArray, List.set_cons_zero, List.set_cons_succ, i64_w, i32_w]
        rfl
      refine pure_ (i := 23) (N := some 75) (v := ?_) (a' := ?_) #[true, true, true, true, true, true, true, true, true, true, true, true, true, true, true, true, true, true, true, true, true, true, true, true, false, false, false, false, false, false, false, false, false, false, false, false, false, false, false, false, false, false, false, false, false, false, false] rfl rfl (by kernel_rfl) (fun _ _ _ h => h) (Or.inl ⟨by rfl, ?_⟩) ?_ ?_
      rotate_left
      · intro w'
        go_simp
        with_reducible rfl
      rotate_left
      · simp only [Act.put, List.setIfInBounds_toArray, List.set_cons_zero, List.set_cons_succ, i64_w, i32_w]
        rfl
      refine pure_ (i := 24) (N := some 76) (v := ?_) (a' := ?_) #[true, true, true, true, true, true, true, true, true, true, true, true, true, true, true, true, true, true, true, true, true, true, true, true, true, false, false, false, false, false, false, false, false, false, false, false, false, false, false, false, false, false, false, false, false, false, false] rfl rfl (by kernel_rfl) (fun _ _ _ h => h) (Or.inl ⟨by rfl, ?_⟩) ?_ ?_
      rotate_left
      · intro w'
        go_simp
        with_reducible rfl
      rotate_left
      · simp only [Act.put, List.setIfInBounds_toArray, List.set_cons_zero, List.set_cons_succ, i64_w, i32_w]
        rfl
      refine pure_ (i := 26) (N := some 78) (v := ?_) (a' := ?_) #[true, true, true, true, true, true, true, true, true, true, true, true, true, true, true, true, true, true, true, true, true, true, true, true, true, false, true, false, false, false, false, false, false, false, false, false, false, false, false, false, false, false, false, false, false, false, false] rfl rfl (by kernel_rfl) (fun _ _ _ h => h) (Or.inl ⟨by rfl, ?_⟩) ?_ ?_
      rotate_left
      · intro w'
        go_simp
        with_reducible rfl
      rotate_left
      · simp only [Act.put, List.setIfInBounds_toArray, List.set_cons_zero, List.set_cons_succ, i64_w, i32_w]
        rfl
      refine take_ (i := 25) (N := some 77) (v := ?_) (a' := ?_) #[true, true, true, true, true, true, true, true, true, true, true, true, true, true, true, true, true, true, true, true, true, true, true, true, true, true, true, false, false, false, false, false, false, false, false, false, false, false, false, false, false, false, false, false, false, false, false] rfl rfl (by kernel_rfl) (fun _ _ _ h => h) (Or.inl ⟨by rfl, ?_⟩) hHeld ?_ ?_
      rotate_left
      · rintro w' ⟨s0, s1, s2, s3, s4, s5, s6, s7, s8, s9, s10, s11, s12, s13, s14, s15⟩
        go_simp
        with_reducible rfl
      rotate_left
      · simp only [Act.put, List.setIfInBounds_toArray, List.set_cons_zero, List.set_cons_succ, i64_w, i32_w]
        rfl
      refine take_ (i := 27) (N := some 79) (v := ?_) (a' := ?_) #[true, true, true, true, true, true, true, true, true, true, true, true, true, true, true, true, true, true, true, true, true, true, true, true, true, true, true, true, false, false, false, false, false, false, false, false, false, false, false, false, false, false, false, false, false, false, false] rfl rfl (by kernel_rfl) (fun _ _ _ h => h) (Or.inl ⟨by rfl, ?_⟩) hHeld ?_ ?_
      rotate_left
      · rintro w' ⟨s0, s1, s2, s3, s4, s5, s6, s7, s8, s9, s10, s11, s12, s13, s14, s15⟩
        go_simp
        with_reducible rfl
      rotate_left
      · simp only [Act.put, List.setIfInBounds_toArray, List.set_cons_zero, List.set_cons_succ, i64_w, i32_w]
        rfl
      refine pure_ (i := 28) (N := some 80) (v := ?_) (a' := ?_) #[true, true, true, true, true, true, true, true, true, true, true, true, true, true, true, true, true, true, true, true, true, true, true, true, true, true, true, true, true, false, false, false, false, false, false, false, false, false, false, false, false, false, false, false, false, false, false] rfl rfl (by kernel_rfl) (fun _ _ _ h => h) (Or.inl ⟨by rfl, ?_⟩) ?_ ?_
      rotate_left
      · intro w'
        go_simp
        with_reducible rfl
      rotate_left
      · simp only [Act.put, List.setIfInBounds_toArray, List.set_cons_zero, List.set_cons_succ, i64_w, i32_w]
        rfl
      refine pure_ (i := 29) (N := some 81) (v := ?_) (a' := ?_) #[true, true, true, true, true, true, true, true, true, true, true, true, true, true, true, true, true, true, true, true, true, true, true, true, true, true, true, true, true, true, false, false, false, false, false, false, false, false, false, false, false, false, false, false, false, false, false] rfl rfl (by kernel_rfl) (fun _ _ _ h => h) (Or.inl ⟨by rfl, ?_⟩) ?_ ?_
      rotate_left
      · intro w'
        go_simp
        with_reducible rfl
      rotate_left
      · simp only [Act.put, List.setIfInBounds_toArray, List.set_cons_zero, List.set_cons_succ, i64_w, i32_w]
        rfl
      refine pure_ (i := 30) (N := some 82) (v := ?_) (a' := ?_) #[true, true, true, true, true, true, true, true, true, true, true, true, true, true, true, true, true, true, true, true, true, true, true, true, true, true, true, true, true, true, true, false, false, false, false, false, false, false, false, false, false, false, false, false, false, false, false] rfl rfl (by kernel_rfl) (fun _ _ _ h => h) (Or.inl ⟨by rfl, ?_⟩) ?_ ?_
      rotate_left
      · intro w'
        go_simp
        with_reducible rfl
      rotate_left
      · simp only [Act.put, List.setIfInBounds_toArray, List.set_cons_zero, List.set_cons_succ, i64_w, i32_w]
        rfl
      refine pure_ (i := 31) (N := some 83) (v := ?_) (a' := ?_) #[true, true, true, true, true, true, true, true, true, true, true, true, true, true, true, true, true, true, true, true, true, true, true, true, true, true, true, true, true, true, true, true, false, false, false, false, false, false, false, false, false, false, false, false, false, false, false] rfl rfl (by kernel_rfl) (fun _ _ _ h => h) (Or.inl ⟨by rfl, ?_⟩) ?_ ?_
      rotate_left
      · intro w'
        go_simp
        with_reducible rfl
      rotate_left
      · simp only [Act.put, List.setIfInBounds_toArray, List.set_cons_zero, List.set_cons_succ, i64_w, i32_w]
        rfl
      refine pure_ (i := 32) (N := some 84) (v := ?_) (a' := ?_) #[true, true, true, true, true, true, true, true, true, true, true, true, true, true, true, true, true, true, true, true, true, true, true, true, true, true, true, true, true, true, true, true, true, false, false, false, false, false, false, false, false, false, false, false, false, false, false] rfl rfl (by kernel_rfl) (fun _ _ _ h => h) (Or.inl ⟨by rfl, ?_⟩) ?_ ?_
      rotate_left
      · intro w'
        go_simp
        with_reducible rfl
      rotate_left
      · simp only [Act.put, List.setIfInBounds_toArray, List.set_cons_zero, List.set_cons_succ, i64_w, i32_w]
        rfl
      refine take_ (i := 33) (N := some 85) (v := ?_) (a' := ?_) #[true, true, true, true, true, true, true, true, true, true, true, true, true, true, true, true, true, true, true, true, true, true, true, true, true, true, true, true, true, true, true, true, true, true, false, false, false, false, false, false, false, false, false, false, false, false, false] rfl rfl (by kernel_rfl) (fun _ _ _ h => h) (Or.inl ⟨by rfl, ?_⟩) hHeld ?_ ?_
      rotate_left
      · rintro w' ⟨s0, s1, s2, s3, s4, s5, s6, s7, s8, s9, s10, s11, s12, s13, s14, s15⟩
        go_simp
        with_reducible rfl
      rotate_left
      · simp only [Act.put, List.setIfInBounds_toArray, List.set_cons_zero, List.set_cons_succ, i64_w, i32_w]
        rfl
      refine pure_ (i := 34) (N := some 86) (v := ?_) (a' := ?_) #[true, true, true, true, true, true, true, true, true, true, true, true, true, true, true, true, true, true, true, true, true, true, true, true, true, true, true, true, true, true, true, true, true, true, true, false, false, false, false, false, false, false, false, false, false, false, false] rfl rfl (by kernel_rfl) (fun _ _ _ h => h) (Or.inl ⟨by rfl, ?_⟩) ?_ ?_
      rotate_left
      · intro w'
        go_simp
        with_reducible rfl
      rotate_left
      · simp only [Act.put, List.setIfInBounds_toArray, List.set_cons_zero, List.set_cons_succ, i64_w, i32_w]
        rfl
      refine pure_ (i := 35) (N := some 87) (v := ?_) (a' := ?_) #[true, true, true, true, true, true, true, true, true, true, true, true, true, true, true, true, true, true, true, true, true, true, true, true, true, true, true, true, true, true, true, true, true, true, true, true, false, false, false, false, false, false, false, false, false, false, false] rfl rfl (by kernel_rfl) (fun _ _ _ h => h) (Or.inl ⟨by rfl, ?_⟩) ?_ ?_
      rotate_left
      · intro w'
        go_simp
        with_reducible rfl
      rotate_left
      · simp only [Act.put, List.setIfInBounds_toArray, List.set_cons_zero, List.set_cons_succ, i64_w, i32_w]
        rfl
      refine pure_ (i := 36) (N := some 88) (v := ?_) (a' := ?_) #[true, true, true, true, true, true, true, true, true, true, true, true, true, true, true, true, true, true, true, true, true, true, true, true, true, true, true, true, true, true, true, true, true, true, true, true, true, false, false, false, false, false, false, false, false, false, false] rfl rfl (by kernel_rfl) (fun _ _ _ h => h) (Or.inl ⟨by rfl, ?_⟩) ?_ ?_
      rotate_left
      · intro w'
        go_simp
        with_reducible rfl
      rotate_left
      · simp only [Act.put, List.setIfInBounds_toArray, List.set_cons_zero, List.set_cons_succ, i64_w, i32_w]
        rfl
      refine pure_ (i := 37) (N := some 89) (v := ?_) (a' := ?_) #[true, true, true, true, true, true, true, true, true, true, true, true, true, true, true, true, true, true, true, true, true, true, true, true, true, true, true, true, true, true, true, true, true, true, true, true, true, true, false, false, false, false, false, false, false, false, false] rfl rfl (by kernel_rfl) (fun _ _ _ h => h) (Or.inl ⟨by rfl, ?_⟩) ?_ ?_
      rotate_left
      · intro w'
        go_simp
        with_reducible rfl
      rotate_left
      · simp only [Act.put, List.setIfInBounds_toArray, List.set_cons_zero, List.set_cons_succ, i64_w, i32_w]
        rfl
      refine pure_ (i := 41) (N := some 93) (v := ?_) (a' := ?_) #[true, true, true, true, true, true, true, true, true, true, true, true, true, true, true, true, true, true, true, true, true, true, true, true, true, true, true, true, true, true, true, true, true, true, true, true, true, true, false, false, false, true, false, false, false, false, false] rfl rfl (by kernel_rfl) (fun _ _ _ h => h) (Or.inl ⟨by rfl, ?_⟩) ?_ ?_
      rotate_left
      · intro w'
        go_simp
        with_reducible rfl
      rotate_left
      · simp only [Act.put, List.setIfInBounds_toArray, List.set_cons_zero, List.set_cons_succ, i64_w, i32_w]
        rfl
      refine take_ (i := 38) (N := some 90) (v := ?_) (a' := ?_) #[true, true, true, true, true, true, true, true, true, true, true, true, true, true, true, true, true, true, true, true, true, true, true, true, true, true, true, true, true, true, true, true, true, true, true, true, true, true, true, false, false, true, false, false, false, false, false] rfl rfl (by kernel_rfl) (fun _ _ _ h => h) (Or.inl ⟨by rfl, ?_⟩) hHeld ?_ ?_
      rotate_left
      · rintro w' ⟨s0, s1, s2, s3, s4, s5, s6, s7, s8, s9, s10, s11, s12, s13, s14, s15⟩
        go_simp
        with_reducible rfl
      rotate_left
      · simp only [Act.put, List.setIfInBounds_toArray, List.set_cons_zero, List.set_cons_succ, i64_w, i32_w]
        rfl
      refine take_ (i := 39) (N := some 91) (v := ?_) (a' := ?_) #[true, true, true, true, true, true, true, true, true, true, true, true, true, true, true, true, true, true, true, true, true, true, true, true, true, true, true, true, true, true, true, true, true, true, true, true, true, true, true, true, false, true, false, false, false, false, false] rfl rfl (by kernel_rfl) (fun _ _ _ h => h) (Or.inl ⟨by rfl, ?_⟩) hHeld ?_ ?_
      rotate_left
      · rintro w' ⟨s0, s1, s2, s3, s4, s5, s6, s7, s8, s9, s10, s11, s12, s13, s14, s15⟩
        go_simp
        with_reducible rfl
      rotate_left
      · simp only [Act.put, List.setIfInBounds_toArray, List.set_cons_zero, List.set_cons_succ, i64_w, i32_w]
        rfl
      refine take_ (i := 40) (N := some 92) (v := ?_) (a' := ?_) #[true, true, true, true, true, true, true, true, true, true, true, true, true, true, true, true, true, true, true, true, true, true, true, true, true, true, true, true, true, true, true, true, true, true, true, true, true, true, true, true, true, true, false, false, false, false, false] rfl rfl (by kernel_rfl) (fun _ _ _ h => h) (Or.inl ⟨by rfl, ?_⟩) hHeld ?_ ?_
      rotate_left
      · rintro w' ⟨s0, s1, s2, s3, s4, s5, s6, s7, s8, s9, s10, s11, s12, s13, s14, s15⟩
        go_simp
        with_reducible rfl
      rotate_left
      · simp only [Act.put, List.setIfInBounds_toArray, List.set_cons_zero, List.set_cons_succ, i64_w, i32_w]
        rfl
      refine one_ (i := 42) (N := some 94) #[true, true, true, true, true, true, true, true, true, true, true, true, true, true, true, true, true, true, true, true, true, true, true, true, true, true, true, true, true, true, true, true, true, true, true, true, true, true, true, true, true, true, true, false, false, false, false] rfl rfl (by kernel_rfl) (by decide) (fun K hK => ?_)
      refine goes_ Try.func69 (by kernel_rfl) rfl #[.agg #[.slice Ab bs.length cb], .agg #[.int .i64 wd, .bool ch, .int .i64 sh], .int .i64 t] (by rfl) rfl rfl (by simp only [List.map_toArray, List.map_cons, List.map_nil]; rfl) ?_
      refine (spec_LastTop.calls kk Ab cb bs wd ch sh t 0 a b _ HC_0.out hv1 E2.out).mono ?_
      rintro e u1 ⟨rfl, hbb1⟩
      refine ⟨_, rfl, ?_⟩
      have xb1_0 := M.cell_below hbb1 xb0_0
      have xb1_1 := M.cell_below hbb1 xb0_1
      have xb1_2 := M.cell_below hbb1 xb0_2
      have xb1_3 := M.cell_below hbb1 xb0_3
      have xb1_4 := M.cell_below hbb1 xb0_4
      have xb1_5 := M.cell_below hbb1 xb0_5
      have xb1_6 := M.cell_below hbb1 xb0_6
      have xb1_7 := M.cell_below hbb1 xb0_7
      have xb1_8 := M.cell_below hbb1 xb0_8
      have xb1_9 := M.cell_below hbb1 xb0_9
      have xb1_10 := M.cell_below hbb1 xb0_10
      have xb1_11 := M.cell_below hbb1 xb0_11
      have xb1_12 := M.cell_below hbb1 xb0_12
      have xb1_13 := M.cell_below hbb1 xb0_13
      have xb1_14 := M.cell_below hbb1 xb0_14
      have xb1_15 := M.cell_below hbb1 xb0_15
      have HC_1 := Aside0.mk (Kd.C_below HC_0.out hbb1)
      have hB_1 := hB_0.trans (hbb1.mono hB_0.size)
      refine hK.out _ _ ⟨xb1_0, xb1_1, xb1_2, xb1_3, xb1_4, xb1_5, xb1_6, xb1_7, xb1_8, xb1_9, xb1_10, xb1_11, xb1_12, xb1_13, xb1_14, xb1_15⟩ (fun hHeld => ?_)
      clear hK K
      refine norm_ (a' := ?_) ?_ ?_
      rotate_left
      · show Act.put _ (some 94) _ = _
        simp only [Act.put, List.setIfInBounds_toArray, List.set_cons_zero, List.set_cons_succ, i64_w, i32_w]
        rfl
      refine pure_ (i := 43) (N := some 95) (v := ?_) (a' := ?_) #[true, true, true, true, true, true, true, true, true, true, true, true, true, true, true, true, true, true, true, true, true, true, true, true, true, true, true, true, true, true, true, true, true, true, true, true, true, true, true, true, true, true, true, true, false, false, false] rfl rfl (by kernel_rfl) (fun _ _ _ h => h) (Or.inl ⟨by rfl, ?_⟩) ?_ ?_
      rotate_left
      · intro w'
        go_simp
        with_reducible rfl
      rotate_left
      · simp only [Act.put, List.setIfInBounds_toArray, List.set_cons_zero, List.set_cons_succ, i64_w, i32_w]
        rfl
      refine pure_ (i := 44) (N := some 96) (v := ?_) (a' := ?_) #[true, true, true, true, true, true, true, true, true, true, true, true, true, true, true, true, true, true, true, true, true, true, true, true, true, true, true, true, true, true, true, true, true, true, true, true, true, true, true, true, true, true, true, true, true, false, false] rfl rfl (by kernel_rfl) (fun _ _ _ h => h) (Or.inl ⟨by rfl, ?_⟩) ?_ ?_
      rotate_left
      · intro w'
        go_simp
        with_reducible rfl
      rotate_left
      · simp only [Act.put, List.setIfInBounds_toArray, List.set_cons_zero, List.set_cons_succ, i64_w, i32_w]
        rfl
      refine pure_ (i := 45) (N := some 97) (v := ?_) (a' := ?_) #[true, true, true, true, true, true, true, true, true, true, true, true, true, true, true, true, true, true, true, true, true, true, true, true, true, true, true, true, true, true, true, true, true, true, true, true, true, true, true, true, true, true, true, true, true, true, false] rfl rfl (by kernel_rfl) (fun _ _ _ h => h) (Or.inl ⟨by rfl, ?_⟩) ?_ ?_
      rotate_left
      · intro w'
        go_simp
        with_reducible rfl
      rotate_left
      · simp only [Act.put, List.setIfInBounds_toArray, List.set_cons_zero, List.set_cons_succ, i64_w, i32_w]
        rfl
      refine pure_ (i := 46) (N := some 2) (v := ?_) (a' := ?_) #[true, true, true, true, true, true, true, true, true, true, true, true, true, true, true, true, true, true, true, true, true, true, true, true, true, true, true, true, true, true, true, true, true, true, true, true, true, true, true, true, true, true, true, true, true, true, true] rfl rfl (by kernel_rfl) (fun _ _ _ h => h) (Or.inl ⟨by rfl, ?_⟩) ?_ ?_
      rotate_left
      · intro w'
        go_simp
        with_reducible rfl
      rotate_left
      · simp only [Act.put, List.setIfInBounds_toArray, List.set_cons_zero, List.set_cons_succ, i64_w, i32_w]
        rfl
      refine done_ (by kernel_rfl) ?_
      go_wp2
      go_ret
      exact ⟨rfl, by repeat (first | exact hB_1 | apply below_alloc | apply pw_below_drewN | apply below_drew1)⟩
end Go.Proofs.Ytjnmhpldabbeiaa.Lasts
end
section
namespace Go.Proofs.Ytjnmhpldabbeiaa.Lasts
open Go.RowKit Go.Proofs.Ytjnmhpldabbeiaa.Q Go.Proofs.YtjnmhpldabbeiaaW.PrintWords Go.Proofs.YtjnmhpldabbeiaaW.PrintLast Go.Proofs.YtjnmhpldabbeiaaW.PrintMore Go.Proofs.Ytjnmhpldabbeiaa.L
open Go.ChangeShapes Go.WideShapes Go.ChangeAt Go.Proofs.Ytjnmhpldabbeiaa.M
theorem el_byte {H : Type} {enc : TypeId × Value → H} {w : World} {base : Nat} {spare : Nat → Bool} {held : Bool} {fuel : Nat} {cs : List Value} {x : DataW H × List MemPlace} (h : DataW.trod enc Try.prog w base spare held fuel 5 cs = some x) : ∃ y : Int, cs = [Value.int .u8 y] ∧ (Lit.int .u8 y).wf = true := by
  obtain ⟨a, ea, _, wa⟩ := DataW.trod_int Try.underlying5 h
  exact ⟨a, ea, wa⟩
set_option maxRecDepth 100000 in
theorem lifted (os : Os) (started : os.Started) (H : Type) (enc : TypeId × Value → H) :
    ReturnsInHanded {} Try.checked os 13 .any (Rows.fnLastsSpec.pre6 enc Try.prog Try.f13 Rows.fnLastsRow.domain false) (Rows.fnLastsSpec.post enc Try.prog Try.f13 false true false false) := by
  refine returnsInHanded_of_change (C := Try.checked) own_knob started (by kernel_rfl) Try.func13
    (ChangeSpec.witness6 (enc := enc) (C := Try.checked) false ⟨#[], #[.slice none 0 0], []⟩ 8 (by kernel_rfl) (by kernel_rfl) (by kernel_rfl) (by kernel_rfl)) ?_
  intro W base args ds gs before hval0 hW hcnd _
  have hval : ∀ (j : Nat) t v, (Try.f13).params[j]? = some t → args[j]? = some v → Value.okWide Try.prog W .any base t v := hval0
  have hW' := hW
  obtain ⟨p, q, hA0, hV, rfl, hfz, hnd⟩ := hW
  have hA : DataW.TrodAll enc Try.prog W 0 (fun _ => true) true (Try.f13).params.toList args.toList ds p := hA0
  rw [Try.params13] at hA hval
  obtain ⟨v0, vs0, d0, ds0, p0, q0, hargs, rfl, rfl, h0, r0⟩ := trodAll_cons hA
  obtain ⟨rfl, rfl, rfl⟩ := trodAll_nil r0
  obtain rfl : args = #[v0] := by cases args; simp_all
  obtain ⟨A, xs, c, rfl, hc, hm, hR, hG⟩ := open_row_v (encE := fun x : Int => [Value.int .u8 x]) Try.underlying101 cells_uint8 el_byte (hval 0 _ v0 rfl rfl) h0
  obtain ⟨rfl, rfl⟩ := trodVars_none hV
  refine (law_walk A c xs W hR (fun x hx => by obtain ⟨i, hi, e⟩ := List.getElem_of_mem hx; exact hG i x (by rw [← e]; exact List.getElem?_eq_getElem hi)) hc hm).mono fun e W' ⟨he, hb⟩ => ?_
  subst he
  exact ⟨_, rfl, law_post laid_out Try.underlying4 rfl rfl (by kernel_rfl) hW' hb ⟨rfl, rfl, rfl⟩⟩
theorem over : Rows.fnLastsRow.holds Try.pinned (OpenSpec.ofChange Rows.fnLastsSpec) :=
  OpenClaim.holds_of_wide 13 Try.f13 rfl rfl rfl rfl rfl rfl rfl ⟨rfl, rfl, rfl, rfl, rfl⟩ rfl rfl rfl rfl rfl (by kernel_rfl) Try.func13 (by kernel_rfl)
    (of_decide_eq_true (by kernel_rfl)) (by unfold Func.isWrapper; first | (rw [if_pos (by decide +kernel)]; kernel_rfl) | (rw [if_neg (by decide +kernel)]; exact ⟨rfl, rfl⟩))
    (fun os started H enc _ => lifted os started H enc)
theorem proved : Rows.FnLastsSaid := over
end Go.Proofs.Ytjnmhpldabbeiaa.Lasts
end
