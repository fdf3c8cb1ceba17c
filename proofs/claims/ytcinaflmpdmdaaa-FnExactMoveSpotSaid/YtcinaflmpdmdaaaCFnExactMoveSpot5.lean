/- For every input FnExactMoveSpot returns true: the program's MoveSpot tells what the reference's tells, and leaves its arguments as they were. No condition. -/
import Derived.Test.YtcinaflmpdmdaaaCFnExactMoveSpot1
import Derived.Test.YtcinaflmpdmdaaaCFnExactMoveSpot2
import Derived.Test.YtcinaflmpdmdaaaCFnExactMoveSpot4
import Derived.Test.YtcinaflmpdmdaaaRows
import Derived.Test.YtcinaflmpdmdaaaCFnExactMoveSpot3
set_option linter.unusedVariables false
set_option linter.unusedSimpArgs false
section
namespace Go.Proofs.Ytcinaflmpdmdaaa.Q
open Go.RowKit Go.Proofs.YtcinaflmpdmdaaaW.PrintWords Go.Proofs.YtcinaflmpdmdaaaW.PrintLast Go.Proofs.YtcinaflmpdmdaaaW.PrintMore
attribute [local go_sem] max2_int min2_int max_two min_two max_three min_three max_four min_four   -- for this text's walks alone
set_option linter.unusedVariables false
set_option linter.unusedSimpArgs false
/-! ### laws_FnExactMoveSpot: function 12 -/
def laws_FnExactMoveSpot.f (k : Nat) (l0_0 : List Int) (a1_0 : Int) (a1_1 : Bool) (a1_2 : Int) (a2_0 : Int) (a2_1 : Int) (a3 : Int) : Option (Bool):=(laws_szFile.f l0_0 1048576).bind fun t104 => (if t104 < 0 then (some true) else ((laws_toFile.f k l0_0).bind fun t105 => ((laws_toLayout.f a1_0 a1_1 a1_2).bind fun bt108 => ((laws_toSpot.f a2_0 a2_1).bind fun bt111 => ((spec_MoveSpot.f k t105 bt108.1 bt108.2.1 bt108.2.2 bt111.1 bt111.2 a3).bind fun bt113 => ((laws_toFile.f k l0_0).bind fun t117 => ((laws_toLayout.f a1_0 a1_1 a1_2).bind fun bt121 => ((laws_toSpot.f a2_0 a2_1).bind fun bt124 => ((impl_MoveSpot.f k t117 bt121.1 bt121.2.1 bt121.2.2 bt124.1 bt124.2 a3).bind fun bt126 => ((laws_eqSpotResult.f bt126.1 bt126.2.1 bt126.2.2 bt113.1 bt113.2.1 bt113.2.2).bind fun t130 => (if t130 = true then ((laws_toFile.f k l0_0).bind fun t131 => ((laws_eqFile.f k t117 t131).bind fun t134 => (if t134 = true then (some true) else (some false)))) else (some false))))))))))))
theorem laws_FnExactMoveSpot.mono : ∀ a0 a1 a2 a3 a4 a5 a6 k,LeO (laws_FnExactMoveSpot.f k a0 a1 a2 a3 a4 a5 a6) (laws_FnExactMoveSpot.f (k + 1) a0 a1 a2 a3 a4 a5 a6):=by
 intro a0 a1 a2 a3 a4 a5 a6 k
 unfold laws_FnExactMoveSpot.f
 repeat' first
  | (with_reducible exact impl_MoveSpot.mono _ _ _ _ _ _ _ _)
  | (with_reducible exact laws_eqFile.mono _ _ _)
  | (with_reducible exact laws_toFile.mono _ _)
  | (with_reducible exact spec_MoveSpot.mono _ _ _ _ _ _ _ _)
  | (with_reducible exact LeO.refl _)
  | (with_reducible exact LeO.none _)
  | (with_reducible refine LeO.ite ?_ ?_)
  | (with_reducible refine LeO.bind ?_ (fun _ => ?_))
  | exact impl_MoveSpot.mono _ _ _ _ _ _ _ _
  | exact laws_eqFile.mono _ _ _
  | exact laws_toFile.mono _ _
  | exact spec_MoveSpot.mono _ _ _ _ _ _ _ _
  | exact LeO.none _
  | refine LeO.ite ?_ ?_
  | refine LeO.bind ?_ (fun _ => ?_)
def laws_FnExactMoveSpot.T5 : Bool × List (List Nat × List Nat):=(true,[([],[]),([0],[0]),([],[]),([2,1],[2]),([],[]),([4,3],[4]),([],[]),([1,3,5,6,5],[1,3,5,6]),([],[]),([8,7,7,0,1,2,3,4,5,6,7,8],[7,8])])
def laws_FnExactMoveSpot.B5 : List Nat:=[0,1,0,7,0,31,0,127,0,511]
theorem laws_FnExactMoveSpot.tab5 : rtab .any (opsOf Try.f12 5) = laws_FnExactMoveSpot.T5:=by kernel_rfl
theorem laws_FnExactMoveSpot.bits5 : waitsOk laws_FnExactMoveSpot.T5.2 laws_FnExactMoveSpot.B5 = true:=by kernel_rfl
def laws_FnExactMoveSpot.T7 : Bool × List (List Nat × List Nat):=(true,[([],[]),([],[]),([1],[1]),([],[]),([3,2],[3]),([],[]),([0,2,4,5,4],[0,2,4,5]),([],[]),([7,6,6,0,1,2,3,4,5,6,7],[6,7])])
def laws_FnExactMoveSpot.B7 : List Nat:=[0,0,2,0,14,0,63,0,255]
theorem laws_FnExactMoveSpot.tab7 : rtab .any (opsOf Try.f12 7) = laws_FnExactMoveSpot.T7:=by kernel_rfl
theorem laws_FnExactMoveSpot.bits7 : waitsOk laws_FnExactMoveSpot.T7.2 laws_FnExactMoveSpot.B7 = true:=by kernel_rfl
set_option maxHeartbeats 8000000 in
set_option maxRecDepth 100000 in
theorem laws_FnExactMoveSpot.calls (k : Nat) (A0_0 : Option Addr) (c0_0 : Nat) (l0_0 : List Int) (a1_0 : Int) (a1_1 : Bool) (a1_2 : Int) (a2_0 : Int) (a2_1 : Int) (a3 : Int) (r : Bool) (w : World) (hr0_0 : Kd.C (Kd.int .u8) w A0_0 l0_0.length l0_0) (hc0_0 : l0_0.length ≤ c0_0) (h : laws_FnExactMoveSpot.f k l0_0 a1_0 a1_1 a1_2 a2_0 a2_1 a3 = some r) :
 Calls Try.prog 12 #[.agg #[.slice A0_0 l0_0.length c0_0],.agg #[.int .i64 a1_0,.bool a1_1,.int .i64 a1_2],.agg #[.int .i64 a2_0,.int .i64 a2_1],.int .i64 a3] w fun e w' => e = .returned (.bool r) ∧ Below w.heap.size w w':=by
 have hu56:=Try.underlying56
 have hu23:=Try.underlying23
 have hu58:=Try.underlying58
 have hu69:=Try.underlying69
 have hu61:=Try.underlying61
 have HR0_0:=Aside0.mk hr0_0
 have HC0_0:=Aside0.mk hc0_0
 clear hr0_0 hc0_0
 have HB:=Aside0.mk (Below.refl w.heap.size w)
 have H : ((laws_szFile.f l0_0 1048576).bind fun t104 => (if t104 < 0 then (some true) else ((laws_toFile.f k l0_0).bind fun t105 => ((laws_toLayout.f a1_0 a1_1 a1_2).bind fun bt108 => ((laws_toSpot.f a2_0 a2_1).bind fun bt111 => ((spec_MoveSpot.f k t105 bt108.1 bt108.2.1 bt108.2.2 bt111.1 bt111.2 a3).bind fun bt113 => ((laws_toFile.f k l0_0).bind fun t117 => ((laws_toLayout.f a1_0 a1_1 a1_2).bind fun bt121 => ((laws_toSpot.f a2_0 a2_1).bind fun bt124 => ((impl_MoveSpot.f k t117 bt121.1 bt121.2.1 bt121.2.2 bt124.1 bt124.2 a3).bind fun bt126 => ((laws_eqSpotResult.f bt126.1 bt126.2.1 bt126.2.2 bt113.1 bt113.2.1 bt113.2.2).bind fun t130 => (if t130 = true then ((laws_toFile.f k l0_0).bind fun t131 => ((laws_eqFile.f k t117 t131).bind fun t134 => (if t134 = true then (some true) else (some false)))) else (some false))))))))))))) = some r:=h
 clear h
 replace H:=Option.bind_eq_some_iff.mp H
 obtain ⟨t104,A50,H⟩:=H
 replace H : (if t104 < 0 then (some true) else ((laws_toFile.f k l0_0).bind fun t105 => ((laws_toLayout.f a1_0 a1_1 a1_2).bind fun bt108 => ((laws_toSpot.f a2_0 a2_1).bind fun bt111 => ((spec_MoveSpot.f k t105 bt108.1 bt108.2.1 bt108.2.2 bt111.1 bt111.2 a3).bind fun bt113 => ((laws_toFile.f k l0_0).bind fun t117 => ((laws_toLayout.f a1_0 a1_1 a1_2).bind fun bt121 => ((laws_toSpot.f a2_0 a2_1).bind fun bt124 => ((impl_MoveSpot.f k t117 bt121.1 bt121.2.1 bt121.2.2 bt124.1 bt124.2 a3).bind fun bt126 => ((laws_eqSpotResult.f bt126.1 bt126.2.1 bt126.2.2 bt113.1 bt113.2.1 bt113.2.2).bind fun t130 => (if t130 = true then ((laws_toFile.f k l0_0).bind fun t131 => ((laws_eqFile.f k t117 t131).bind fun t134 => (if t134 = true then (some true) else (some false)))) else (some false)))))))))))) = some r:=H
 have A5:=Aside0.mk A50
 clear A50
 have HC6:=Aside0.mk H
 clear H
 go_enter Try.func12,Try.ntmps12
 go_upto_if 17 with (first|((with_reducible refine gate_dst (N:=4) rfl ?_);refine box_event ?hg (N:=4) ?hd (cs:=#[.slice A0_0 l0_0.length c0_0]) (t:=56) ?hr ?_;(case hd => rfl);(case hg => rfl);(case hr => first|(go_simp;done)|(go_simp;rfl));intro gb101 hg w7 hbox hb;have n0_:=Aside0.mk (below_step (by repeat (first|(with_reducible first|exact HB.out|apply below_alloc|apply pw_below_drewN|apply below_drew1)|exact HB.out)) hb);have n1_:=Aside0.mk (hbox);have n2_:=Aside0.mk ((by rw [hg];exact (below_size (by repeat (first|(with_reducible first|exact HB.out|apply below_alloc|apply pw_below_drewN|apply below_drew1)|exact HB.out))) : w.heap.size ≤ gb101));have n3_:=Aside0.mk ((by rw [hg];exact (below_size (by repeat (first|(with_reducible first|exact HB.out|apply below_alloc|apply pw_below_drewN|apply below_drew1)|exact HB.out))) : w.heap.size ≤ gb101));clear HB;have HB:=n0_;have BK101:=n1_;have GW101:=n2_;have GE101:=n3_;clear n0_ n1_ n2_ n3_;clear hb hbox hg)|((with_reducible refine gate_dst (N:=5) rfl ?_);refine box_event ?hg (N:=5) ?hd (cs:=#[.int .i64 a1_0,.bool a1_1,.int .i64 a1_2]) (t:=23) ?hr ?_;(case hd => rfl);(case hg => rfl);(case hr => first|(go_simp;done)|(go_simp;rfl));intro gb102 hg w8 hbox hb;have n0_:=Aside0.mk (blk_below (g:=gb101) (o:=.cells #[.slice A0_0 l0_0.length c0_0] 56 (0,0)) (by (with_reducible repeat (first|refine blk_drewN ?_ _|refine blk_drew ?_|refine blk_alloc ?_ _));exact BK101.out) hb);have n1_:=Aside0.mk (below_step (by repeat (first|(with_reducible first|exact HB.out|apply below_alloc|apply pw_below_drewN|apply below_drew1|refine below_set ?_ GE101.out)|exact HB.out)) hb);have n2_:=Aside0.mk (hbox);have n3_:=Aside0.mk ((by rw [hg];exact (below_size (by repeat (first|(with_reducible first|exact HB.out|apply below_alloc|apply pw_below_drewN|apply below_drew1|refine below_set ?_ GE101.out)|exact HB.out))) : w.heap.size ≤ gb102));have n4_:=Aside0.mk ((by rw [hg];exact (below_size (by repeat (first|(with_reducible first|exact HB.out|apply below_alloc|apply pw_below_drewN|apply below_drew1|refine below_set ?_ GE101.out)|exact HB.out))) : w.heap.size ≤ gb102));have n5_:=Aside0.mk ((by rw [hg];exact Nat.ne_of_lt (blk_lt (g:=gb101) (o:=.cells #[.slice A0_0 l0_0.length c0_0] 56 (0,0)) (by (with_reducible repeat (first|refine blk_drewN ?_ _|refine blk_drew ?_|refine blk_alloc ?_ _));exact BK101.out)) : gb101 ≠ gb102));have n6_:=Aside0.mk ((by rw [hg];exact Nat.ne_of_gt (blk_lt (g:=gb101) (o:=.cells #[.slice A0_0 l0_0.length c0_0] 56 (0,0)) (by (with_reducible repeat (first|refine blk_drewN ?_ _|refine blk_drew ?_|refine blk_alloc ?_ _));exact BK101.out)) : gb102 ≠ gb101));clear BK101;clear HB;have BK101:=n0_;have HB:=n1_;have BK102:=n2_;have GW102:=n3_;have GE102:=n4_;have NB101_102:=n5_;have NB102_101:=n6_;clear n0_ n1_ n2_ n3_ n4_ n5_ n6_;clear hb hbox hg)|((with_reducible refine gate_dst (N:=6) rfl ?_);refine box_event ?hg (N:=6) ?hd (cs:=#[.int .i64 a2_0,.int .i64 a2_1]) (t:=58) ?hr ?_;(case hd => rfl);(case hg => rfl);(case hr => first|(go_simp;done)|(go_simp;rfl));intro gb103 hg w9 hbox hb;have n0_:=Aside0.mk (blk_below (g:=gb101) (o:=.cells #[.slice A0_0 l0_0.length c0_0] 56 (0,0)) (by (with_reducible repeat (first|refine blk_drewN ?_ _|refine blk_drew ?_|refine blk_alloc ?_ _));exact BK101.out) hb);have n1_:=Aside0.mk (blk_below (g:=gb102) (o:=.cells #[.int .i64 a1_0,.bool a1_1,.int .i64 a1_2] 23 (0,0)) (by (with_reducible repeat (first|refine blk_drewN ?_ _|refine blk_drew ?_|refine blk_alloc ?_ _));exact BK102.out) hb);have n2_:=Aside0.mk (below_step (by repeat (first|(with_reducible first|exact HB.out|apply below_alloc|apply pw_below_drewN|apply below_drew1|refine below_set ?_ GE101.out|refine below_set ?_ GE102.out)|exact HB.out)) hb);have n3_:=Aside0.mk (hbox);have n4_:=Aside0.mk ((by rw [hg];exact (below_size (by repeat (first|(with_reducible first|exact HB.out|apply below_alloc|apply pw_below_drewN|apply below_drew1|refine below_set ?_ GE101.out|refine below_set ?_ GE102.out)|exact HB.out))) : w.heap.size ≤ gb103));have n5_:=Aside0.mk ((by rw [hg];exact (below_size (by repeat (first|(with_reducible first|exact HB.out|apply below_alloc|apply pw_below_drewN|apply below_drew1|refine below_set ?_ GE101.out|refine below_set ?_ GE102.out)|exact HB.out))) : w.heap.size ≤ gb103));have n6_:=Aside0.mk ((by rw [hg];exact Nat.ne_of_lt (blk_lt (g:=gb101) (o:=.cells #[.slice A0_0 l0_0.length c0_0] 56 (0,0)) (by (with_reducible repeat (first|refine blk_drewN ?_ _|refine blk_drew ?_|refine blk_alloc ?_ _));exact BK101.out)) : gb101 ≠ gb103));have n7_:=Aside0.mk ((by rw [hg];exact Nat.ne_of_gt (blk_lt (g:=gb101) (o:=.cells #[.slice A0_0 l0_0.length c0_0] 56 (0,0)) (by (with_reducible repeat (first|refine blk_drewN ?_ _|refine blk_drew ?_|refine blk_alloc ?_ _));exact BK101.out)) : gb103 ≠ gb101));have n8_:=Aside0.mk ((by rw [hg];exact Nat.ne_of_lt (blk_lt (g:=gb102) (o:=.cells #[.int .i64 a1_0,.bool a1_1,.int .i64 a1_2] 23 (0,0)) (by (with_reducible repeat (first|refine blk_drewN ?_ _|refine blk_drew ?_|refine blk_alloc ?_ _));exact BK102.out)) : gb102 ≠ gb103));have n9_:=Aside0.mk ((by rw [hg];exact Nat.ne_of_gt (blk_lt (g:=gb102) (o:=.cells #[.int .i64 a1_0,.bool a1_1,.int .i64 a1_2] 23 (0,0)) (by (with_reducible repeat (first|refine blk_drewN ?_ _|refine blk_drew ?_|refine blk_alloc ?_ _));exact BK102.out)) : gb103 ≠ gb102));clear BK101;clear BK102;clear HB;have BK101:=n0_;have BK102:=n1_;have HB:=n2_;have BK103:=n3_;have GW103:=n4_;have GE103:=n5_;have NB101_103:=n6_;have NB103_101:=n7_;have NB102_103:=n8_;have NB103_102:=n9_;clear n0_ n1_ n2_ n3_ n4_ n5_ n6_ n7_ n8_ n9_;clear hb hbox hg;have hnb10:=NB101_102.out;have hnc10:=NB102_101.out;have hnb11:=NB101_103.out;have hnc11:=NB103_101.out;have hcz12_0 : w9.cell? ⟨gb101,0,none⟩ = some (.slice A0_0 l0_0.length c0_0):=(blk_cell BK101.out 0).trans rfl;have hfz12_0:=blk_frozen BK101.out 0)|((with_reducible refine gate_callee (f:=38) rfl ?_);refine goesL_ (some 15) rfl rfl Try.func38 (by kernel_rfl) rfl #[.agg #[.slice A0_0 l0_0.length c0_0],.int .i64 1048576] rfl (by (try simp only [List.map_toArray,List.map_cons,List.map_nil]);first|done|rfl|(simp only [List.length_drop,List.length_take];rfl)) ?_;(with_reducible refine (laws_szFile.calls _ _ l0_0 1048576 t104 _ ?side1 ?side2 A5.out).mono ?_);(case side1 => repeat (first|exact (Kd.C_below HR0_0.out HB.out)|(with_reducible refine Kd.C_alloc ?_ _)|(with_reducible refine Kd.C_drewN ?_ _)|(with_reducible refine Kd.C_drew ?_)));(case side2 => exact HC0_0.out);rintro e w13 ⟨rfl,hb⟩;refine ⟨_,rfl,?_⟩;have n0_:=Aside0.mk (blk_below (g:=gb101) (o:=.cells #[.slice A0_0 l0_0.length c0_0] 56 (0,0)) (by (with_reducible repeat (first|refine blk_drewN ?_ _|refine blk_drew ?_|refine blk_alloc ?_ _));exact BK101.out) hb);have n1_:=Aside0.mk (blk_below (g:=gb102) (o:=.cells #[.int .i64 a1_0,.bool a1_1,.int .i64 a1_2] 23 (0,0)) (by (with_reducible repeat (first|refine blk_drewN ?_ _|refine blk_drew ?_|refine blk_alloc ?_ _));exact BK102.out) hb);have n2_:=Aside0.mk (blk_below (g:=gb103) (o:=.cells #[.int .i64 a2_0,.int .i64 a2_1] 58 (0,0)) (by (with_reducible repeat (first|refine blk_drewN ?_ _|refine blk_drew ?_|refine blk_alloc ?_ _));exact BK103.out) hb);have n3_:=Aside0.mk (below_step (by repeat (first|(with_reducible first|exact HB.out|apply below_alloc|apply pw_below_drewN|apply below_drew1|refine below_set ?_ GE101.out|refine below_set ?_ GE102.out|refine below_set ?_ GE103.out)|exact HB.out)) hb);clear BK101;clear BK102;clear BK103;clear HB;have BK101:=n0_;have BK102:=n1_;have BK103:=n2_;have HB:=n3_;clear n0_ n1_ n2_ n3_;(try clear hb);(try clear hb2);(try clear hk);(try clear hi)))
 (try simp only [Act.put,List.setIfInBounds_toArray,List.set_cons_zero,List.set_cons_succ])
 have H:=HC6.out
 clear HC6
 by_cases c14 : t104 < 0
 · rw [if_pos c14] at H
   have c14b0 : decide (t104 < 0) = true:=decide_eq_true c14
   clear c14
   (first|rw [c14b0]|(simp only [i64_w,i32_w];rw [c14b0])|skip)
   obtain rfl:=Option.some.inj H
   go_wp2
   go_ret
   exact ⟨by first|rfl|(simp [errW_none,errW_some] <;> rfl)|(simp [*,errW_none,errW_some] <;> rfl),by repeat (first|(with_reducible first|exact HB.out|apply below_alloc|apply pw_below_drewN|apply below_drew1|refine below_set ?_ GE101.out|refine below_set ?_ GE102.out|refine below_set ?_ GE103.out)|exact HB.out)⟩
 · rw [if_neg c14] at H
   have c14b0 : decide (t104 < 0) = false:=decide_eq_false c14
   clear c14
   (first|rw [c14b0]|(simp only [i64_w,i32_w];rw [c14b0])|skip)
   replace H:=Option.bind_eq_some_iff.mp H
   obtain ⟨t105,A150,H⟩:=H
   replace H : ((laws_toLayout.f a1_0 a1_1 a1_2).bind fun bt108 => ((laws_toSpot.f a2_0 a2_1).bind fun bt111 => ((spec_MoveSpot.f k t105 bt108.1 bt108.2.1 bt108.2.2 bt111.1 bt111.2 a3).bind fun bt113 => ((laws_toFile.f k l0_0).bind fun t117 => ((laws_toLayout.f a1_0 a1_1 a1_2).bind fun bt121 => ((laws_toSpot.f a2_0 a2_1).bind fun bt124 => ((impl_MoveSpot.f k t117 bt121.1 bt121.2.1 bt121.2.2 bt124.1 bt124.2 a3).bind fun bt126 => ((laws_eqSpotResult.f bt126.1 bt126.2.1 bt126.2.2 bt113.1 bt113.2.1 bt113.2.2).bind fun t130 => (if t130 = true then ((laws_toFile.f k l0_0).bind fun t131 => ((laws_eqFile.f k t117 t131).bind fun t134 => (if t134 = true then (some true) else (some false)))) else (some false)))))))))) = some r:=H
   have A15:=Aside0.mk A150
   clear A150
   replace H:=Option.bind_eq_some_iff.mp H
   obtain ⟨⟨t108,t109,t110⟩,A160,H⟩:=H
   replace H : ((laws_toSpot.f a2_0 a2_1).bind fun bt111 => ((spec_MoveSpot.f k t105 t108 t109 t110 bt111.1 bt111.2 a3).bind fun bt113 => ((laws_toFile.f k l0_0).bind fun t117 => ((laws_toLayout.f a1_0 a1_1 a1_2).bind fun bt121 => ((laws_toSpot.f a2_0 a2_1).bind fun bt124 => ((impl_MoveSpot.f k t117 bt121.1 bt121.2.1 bt121.2.2 bt124.1 bt124.2 a3).bind fun bt126 => ((laws_eqSpotResult.f bt126.1 bt126.2.1 bt126.2.2 bt113.1 bt113.2.1 bt113.2.2).bind fun t130 => (if t130 = true then ((laws_toFile.f k l0_0).bind fun t131 => ((laws_eqFile.f k t117 t131).bind fun t134 => (if t134 = true then (some true) else (some false)))) else (some false))))))))) = some r:=H
   have A16:=Aside0.mk A160
   clear A160
   replace H:=Option.bind_eq_some_iff.mp H
   obtain ⟨⟨t111,t112⟩,A170,H⟩:=H
   replace H : ((spec_MoveSpot.f k t105 t108 t109 t110 t111 t112 a3).bind fun bt113 => ((laws_toFile.f k l0_0).bind fun t117 => ((laws_toLayout.f a1_0 a1_1 a1_2).bind fun bt121 => ((laws_toSpot.f a2_0 a2_1).bind fun bt124 => ((impl_MoveSpot.f k t117 bt121.1 bt121.2.1 bt121.2.2 bt124.1 bt124.2 a3).bind fun bt126 => ((laws_eqSpotResult.f bt126.1 bt126.2.1 bt126.2.2 bt113.1 bt113.2.1 bt113.2.2).bind fun t130 => (if t130 = true then ((laws_toFile.f k l0_0).bind fun t131 => ((laws_eqFile.f k t117 t131).bind fun t134 => (if t134 = true then (some true) else (some false)))) else (some false)))))))) = some r:=H
   have A17:=Aside0.mk A170
   clear A170
   replace H:=Option.bind_eq_some_iff.mp H
   obtain ⟨⟨t113,t114,t115⟩,A180,H⟩:=H
   replace H : ((laws_toFile.f k l0_0).bind fun t117 => ((laws_toLayout.f a1_0 a1_1 a1_2).bind fun bt121 => ((laws_toSpot.f a2_0 a2_1).bind fun bt124 => ((impl_MoveSpot.f k t117 bt121.1 bt121.2.1 bt121.2.2 bt124.1 bt124.2 a3).bind fun bt126 => ((laws_eqSpotResult.f bt126.1 bt126.2.1 bt126.2.2 t113 t114 t115).bind fun t130 => (if t130 = true then ((laws_toFile.f k l0_0).bind fun t131 => ((laws_eqFile.f k t117 t131).bind fun t134 => (if t134 = true then (some true) else (some false)))) else (some false))))))) = some r:=H
   have A18:=Aside0.mk A180
   clear A180
   replace H:=Option.bind_eq_some_iff.mp H
   obtain ⟨t117,A190,H⟩:=H
   replace H : ((laws_toLayout.f a1_0 a1_1 a1_2).bind fun bt121 => ((laws_toSpot.f a2_0 a2_1).bind fun bt124 => ((impl_MoveSpot.f k t117 bt121.1 bt121.2.1 bt121.2.2 bt124.1 bt124.2 a3).bind fun bt126 => ((laws_eqSpotResult.f bt126.1 bt126.2.1 bt126.2.2 t113 t114 t115).bind fun t130 => (if t130 = true then ((laws_toFile.f k l0_0).bind fun t131 => ((laws_eqFile.f k t117 t131).bind fun t134 => (if t134 = true then (some true) else (some false)))) else (some false)))))) = some r:=H
   have A19:=Aside0.mk A190
   clear A190
   replace H:=Option.bind_eq_some_iff.mp H
   obtain ⟨⟨t121,t122,t123⟩,A200,H⟩:=H
   replace H : ((laws_toSpot.f a2_0 a2_1).bind fun bt124 => ((impl_MoveSpot.f k t117 t121 t122 t123 bt124.1 bt124.2 a3).bind fun bt126 => ((laws_eqSpotResult.f bt126.1 bt126.2.1 bt126.2.2 t113 t114 t115).bind fun t130 => (if t130 = true then ((laws_toFile.f k l0_0).bind fun t131 => ((laws_eqFile.f k t117 t131).bind fun t134 => (if t134 = true then (some true) else (some false)))) else (some false))))) = some r:=H
   have A20:=Aside0.mk A200
   clear A200
   replace H:=Option.bind_eq_some_iff.mp H
   obtain ⟨⟨t124,t125⟩,A210,H⟩:=H
   replace H : ((impl_MoveSpot.f k t117 t121 t122 t123 t124 t125 a3).bind fun bt126 => ((laws_eqSpotResult.f bt126.1 bt126.2.1 bt126.2.2 t113 t114 t115).bind fun t130 => (if t130 = true then ((laws_toFile.f k l0_0).bind fun t131 => ((laws_eqFile.f k t117 t131).bind fun t134 => (if t134 = true then (some true) else (some false)))) else (some false)))) = some r:=H
   have A21:=Aside0.mk A210
   clear A210
   replace H:=Option.bind_eq_some_iff.mp H
   obtain ⟨⟨t126,t127,t128⟩,A220,H⟩:=H
   replace H : ((laws_eqSpotResult.f t126 t127 t128 t113 t114 t115).bind fun t130 => (if t130 = true then ((laws_toFile.f k l0_0).bind fun t131 => ((laws_eqFile.f k t117 t131).bind fun t134 => (if t134 = true then (some true) else (some false)))) else (some false))) = some r:=H
   have A22:=Aside0.mk A220
   clear A220
   replace H:=Option.bind_eq_some_iff.mp H
   obtain ⟨t130,A230,H⟩:=H
   replace H : (if t130 = true then ((laws_toFile.f k l0_0).bind fun t131 => ((laws_eqFile.f k t117 t131).bind fun t134 => (if t134 = true then (some true) else (some false)))) else (some false)) = some r:=H
   have A23:=Aside0.mk A230
   clear A230
   have HC24:=Aside0.mk H
   clear H
   try go_wp2
   have n0_:=Aside0.mk (blk_drew BK101.out)
   have n1_:=Aside0.mk (blk_drew BK102.out)
   have n2_:=Aside0.mk (blk_drew BK103.out)
   have n3_:=Aside0.mk (below_drew1 HB.out)
   clear BK101
   clear BK102
   clear BK103
   clear HB
   have BK101:=n0_
   have BK102:=n1_
   have BK103:=n2_
   have HB:=n3_
   clear n0_ n1_ n2_ n3_
   refine start_ (n:=10) (S:=fun w' => w'.cell? ⟨gb101,0,none⟩ = some (.slice A0_0 l0_0.length c0_0) ∧ w'.cell? ⟨gb102,0,none⟩ = some (.int .i64 a1_0) ∧ w'.cell? ⟨gb102,1,none⟩ = some (.bool a1_1) ∧ w'.cell? ⟨gb102,2,none⟩ = some (.int .i64 a1_2) ∧ w'.cell? ⟨gb103,0,none⟩ = some (.int .i64 a2_0) ∧ w'.cell? ⟨gb103,1,none⟩ = some (.int .i64 a2_1)) (ds:=[]) #[false,false,false,false,false,false,false,false,false,false] (by kernel_rfl) rfl rfl ⟨(blk_cell BK101.out 0).trans rfl,(blk_cell BK102.out 0).trans rfl,(blk_cell BK102.out 1).trans rfl,(blk_cell BK102.out 2).trans rfl,(blk_cell BK103.out 0).trans rfl,(blk_cell BK103.out 1).trans rfl⟩ (fun hHeld => ?_);refine with_tabW laws_FnExactMoveSpot.tab5 laws_FnExactMoveSpot.bits5 (fun HT_ HW_ => ?_)
   generalize w13.drew = w25 at BK101 BK102 BK103 HB hHeld ⊢
   refine pure_ (i:=6) (N:=some 24) (v:=?_) (a':=?_) #[false,false,false,false,false,false,true,false,false,false] rfl rfl (any_of HT_.out (by kernel_rfl)) (fun _ _ _ h => h) (Or.inl ⟨by rfl,?_⟩) ?_ ?_
   rotate_left
   · intro w'
     go_simp
     with_reducible rfl
   rotate_left
   · simp only [Act.put,List.setIfInBounds_toArray,List.set_cons_zero,List.set_cons_succ,i64_w,i32_w]
     rfl
   refine take_ (i:=0) (N:=some 18) (v:=?_) (a':=?_) #[true,false,false,false,false,false,true,false,false,false] rfl rfl (take_ofW HT_.out HW_.out (by kernel_rfl)) (fun _ _ _ h => h) (Or.inl ⟨by rfl,?_⟩) hHeld ?_ ?_
   rotate_left
   · rintro w' ⟨s0,s1,s2,s3,s4,s5⟩
     go_simp
     with_reducible rfl
   rotate_left
   · simp only [Act.put,List.setIfInBounds_toArray,List.set_cons_zero,List.set_cons_succ,i64_w,i32_w]
     rfl
   refine take_ (i:=2) (N:=some 20) (v:=?_) (a':=?_) #[true,false,true,false,false,false,true,false,false,false] rfl rfl (take_ofW HT_.out HW_.out (by kernel_rfl)) (fun _ _ _ h => h) (Or.inl ⟨by rfl,?_⟩) hHeld ?_ ?_
   rotate_left
   · rintro w' ⟨s0,s1,s2,s3,s4,s5⟩
     go_simp
     with_reducible rfl
   rotate_left
   · simp only [Act.put,List.setIfInBounds_toArray,List.set_cons_zero,List.set_cons_succ,i64_w,i32_w]
     rfl
   refine take_ (i:=4) (N:=some 22) (v:=?_) (a':=?_) #[true,false,true,false,true,false,true,false,false,false] rfl rfl (take_ofW HT_.out HW_.out (by kernel_rfl)) (fun _ _ _ h => h) (Or.inl ⟨by rfl,?_⟩) hHeld ?_ ?_
   rotate_left
   · rintro w' ⟨s0,s1,s2,s3,s4,s5⟩
     go_simp
     with_reducible rfl
   rotate_left
   · simp only [Act.put,List.setIfInBounds_toArray,List.set_cons_zero,List.set_cons_succ,i64_w,i32_w]
     rfl
   refine join_ (σ:=Value × Nat) 1 #[true,true,true,true,true,true,true,true,true,false] (fun s_ => [(19,.agg #[s_.1]),(21,.agg #[.int .i64 t108,.bool t109,.int .i64 t110]),(23,.agg #[.int .i64 t111,.int .i64 t112]),(25,.agg #[.int .i64 t113,.int .i64 t114,.int .i64 t115]),(10,.pointer (some ⟨s_.2,0,none⟩))]) (fun s_ w' => (w'.cell? ⟨gb101,0,none⟩ = some (.slice A0_0 l0_0.length c0_0) ∧ w'.cell? ⟨gb102,0,none⟩ = some (.int .i64 a1_0) ∧ w'.cell? ⟨gb102,1,none⟩ = some (.bool a1_1) ∧ w'.cell? ⟨gb102,2,none⟩ = some (.int .i64 a1_2) ∧ w'.cell? ⟨gb103,0,none⟩ = some (.int .i64 a2_0) ∧ w'.cell? ⟨gb103,1,none⟩ = some (.int .i64 a2_1)) ∧ (Kd.R (Kd.int .u8) 5 w' w.heap.size (fun _ => True) s_.1 t105) ∧ (w'.heap[gb101]? = some (.cells #[.slice A0_0 l0_0.length c0_0] 56 (0,0))) ∧ (w'.heap[gb102]? = some (.cells #[.int .i64 a1_0,.bool a1_1,.int .i64 a1_2] 23 (0,0))) ∧ (w'.heap[gb103]? = some (.cells #[.int .i64 a2_0,.int .i64 a2_1] 58 (0,0))) ∧ (w'.heap[s_.2]? = some (.cells #[.int .i64 0,.int .i64 0,.int .i64 0] 69 (0,0))) ∧ (w.heap.size ≤ s_.2) ∧ (w.heap.size ≤ s_.2) ∧ (gb101 ≠ s_.2) ∧ (s_.2 ≠ gb101) ∧ (gb102 ≠ s_.2) ∧ (s_.2 ≠ gb102) ∧ (gb103 ≠ s_.2) ∧ (s_.2 ≠ gb103) ∧ (Below w.heap.size w w')) ?_ ?_
   rotate_left
   · intro hJ1_3_5_7_8
     refine join_ (σ:=Value) 2 #[true,true,true,true,true,true,true,true,false,false] (fun s_ => [(19,.agg #[s_]),(21,.agg #[.int .i64 t108,.bool t109,.int .i64 t110]),(23,.agg #[.int .i64 t111,.int .i64 t112]),(25,.agg #[.int .i64 t113,.int .i64 t114,.int .i64 t115])]) (fun s_ w' => (w'.cell? ⟨gb101,0,none⟩ = some (.slice A0_0 l0_0.length c0_0) ∧ w'.cell? ⟨gb102,0,none⟩ = some (.int .i64 a1_0) ∧ w'.cell? ⟨gb102,1,none⟩ = some (.bool a1_1) ∧ w'.cell? ⟨gb102,2,none⟩ = some (.int .i64 a1_2) ∧ w'.cell? ⟨gb103,0,none⟩ = some (.int .i64 a2_0) ∧ w'.cell? ⟨gb103,1,none⟩ = some (.int .i64 a2_1)) ∧ (Kd.R (Kd.int .u8) 5 w' w.heap.size (fun _ => True) s_ t105) ∧ (w'.heap[gb101]? = some (.cells #[.slice A0_0 l0_0.length c0_0] 56 (0,0))) ∧ (w'.heap[gb102]? = some (.cells #[.int .i64 a1_0,.bool a1_1,.int .i64 a1_2] 23 (0,0))) ∧ (w'.heap[gb103]? = some (.cells #[.int .i64 a2_0,.int .i64 a2_1] 58 (0,0))) ∧ (Below w.heap.size w w')) ?_ ?_
     rotate_left
     · intro hJ1_3_5_7
       refine join_ (σ:=Value × Nat) 2 #[true,true,true,true,true,true,true,false,true,false] (fun s_ => [(19,.agg #[s_.1]),(21,.agg #[.int .i64 t108,.bool t109,.int .i64 t110]),(23,.agg #[.int .i64 t111,.int .i64 t112]),(10,.pointer (some ⟨s_.2,0,none⟩))]) (fun s_ w' => (w'.cell? ⟨gb101,0,none⟩ = some (.slice A0_0 l0_0.length c0_0) ∧ w'.cell? ⟨gb102,0,none⟩ = some (.int .i64 a1_0) ∧ w'.cell? ⟨gb102,1,none⟩ = some (.bool a1_1) ∧ w'.cell? ⟨gb102,2,none⟩ = some (.int .i64 a1_2) ∧ w'.cell? ⟨gb103,0,none⟩ = some (.int .i64 a2_0) ∧ w'.cell? ⟨gb103,1,none⟩ = some (.int .i64 a2_1)) ∧ (Kd.R (Kd.int .u8) 5 w' w.heap.size (fun _ => True) s_.1 t105) ∧ (w'.heap[gb101]? = some (.cells #[.slice A0_0 l0_0.length c0_0] 56 (0,0))) ∧ (w'.heap[gb102]? = some (.cells #[.int .i64 a1_0,.bool a1_1,.int .i64 a1_2] 23 (0,0))) ∧ (w'.heap[gb103]? = some (.cells #[.int .i64 a2_0,.int .i64 a2_1] 58 (0,0))) ∧ (w'.heap[s_.2]? = some (.cells #[.int .i64 0,.int .i64 0,.int .i64 0] 69 (0,0))) ∧ (w.heap.size ≤ s_.2) ∧ (w.heap.size ≤ s_.2) ∧ (gb101 ≠ s_.2) ∧ (s_.2 ≠ gb101) ∧ (gb102 ≠ s_.2) ∧ (s_.2 ≠ gb102) ∧ (gb103 ≠ s_.2) ∧ (s_.2 ≠ gb103) ∧ (Below w.heap.size w w')) ?_ ?_
       rotate_left
       · intro hJ1_3_5_8
         refine join_ (σ:=Value) 3 #[true,true,true,true,true,true,true,false,false,false] (fun s_ => [(19,.agg #[s_]),(21,.agg #[.int .i64 t108,.bool t109,.int .i64 t110]),(23,.agg #[.int .i64 t111,.int .i64 t112])]) (fun s_ w' => (w'.cell? ⟨gb101,0,none⟩ = some (.slice A0_0 l0_0.length c0_0) ∧ w'.cell? ⟨gb102,0,none⟩ = some (.int .i64 a1_0) ∧ w'.cell? ⟨gb102,1,none⟩ = some (.bool a1_1) ∧ w'.cell? ⟨gb102,2,none⟩ = some (.int .i64 a1_2) ∧ w'.cell? ⟨gb103,0,none⟩ = some (.int .i64 a2_0) ∧ w'.cell? ⟨gb103,1,none⟩ = some (.int .i64 a2_1)) ∧ (Kd.R (Kd.int .u8) 5 w' w.heap.size (fun _ => True) s_ t105) ∧ (w'.heap[gb101]? = some (.cells #[.slice A0_0 l0_0.length c0_0] 56 (0,0))) ∧ (w'.heap[gb102]? = some (.cells #[.int .i64 a1_0,.bool a1_1,.int .i64 a1_2] 23 (0,0))) ∧ (w'.heap[gb103]? = some (.cells #[.int .i64 a2_0,.int .i64 a2_1] 58 (0,0))) ∧ (Below w.heap.size w w')) ?_ ?_
         rotate_left
         · intro hJ1_3_5
           refine join_ (σ:=Value × Nat) 3 #[true,true,true,true,true,false,true,false,true,false] (fun s_ => [(19,.agg #[s_.1]),(21,.agg #[.int .i64 t108,.bool t109,.int .i64 t110]),(10,.pointer (some ⟨s_.2,0,none⟩))]) (fun s_ w' => (w'.cell? ⟨gb101,0,none⟩ = some (.slice A0_0 l0_0.length c0_0) ∧ w'.cell? ⟨gb102,0,none⟩ = some (.int .i64 a1_0) ∧ w'.cell? ⟨gb102,1,none⟩ = some (.bool a1_1) ∧ w'.cell? ⟨gb102,2,none⟩ = some (.int .i64 a1_2) ∧ w'.cell? ⟨gb103,0,none⟩ = some (.int .i64 a2_0) ∧ w'.cell? ⟨gb103,1,none⟩ = some (.int .i64 a2_1)) ∧ (Kd.R (Kd.int .u8) 5 w' w.heap.size (fun _ => True) s_.1 t105) ∧ (w'.heap[gb101]? = some (.cells #[.slice A0_0 l0_0.length c0_0] 56 (0,0))) ∧ (w'.heap[gb102]? = some (.cells #[.int .i64 a1_0,.bool a1_1,.int .i64 a1_2] 23 (0,0))) ∧ (w'.heap[gb103]? = some (.cells #[.int .i64 a2_0,.int .i64 a2_1] 58 (0,0))) ∧ (w'.heap[s_.2]? = some (.cells #[.int .i64 0,.int .i64 0,.int .i64 0] 69 (0,0))) ∧ (w.heap.size ≤ s_.2) ∧ (w.heap.size ≤ s_.2) ∧ (gb101 ≠ s_.2) ∧ (s_.2 ≠ gb101) ∧ (gb102 ≠ s_.2) ∧ (s_.2 ≠ gb102) ∧ (gb103 ≠ s_.2) ∧ (s_.2 ≠ gb103) ∧ (Below w.heap.size w w')) ?_ ?_
           rotate_left
           · intro hJ1_3_8
             refine join_ (σ:=Value) 4 #[true,true,true,true,true,false,true,false,false,false] (fun s_ => [(19,.agg #[s_]),(21,.agg #[.int .i64 t108,.bool t109,.int .i64 t110])]) (fun s_ w' => (w'.cell? ⟨gb101,0,none⟩ = some (.slice A0_0 l0_0.length c0_0) ∧ w'.cell? ⟨gb102,0,none⟩ = some (.int .i64 a1_0) ∧ w'.cell? ⟨gb102,1,none⟩ = some (.bool a1_1) ∧ w'.cell? ⟨gb102,2,none⟩ = some (.int .i64 a1_2) ∧ w'.cell? ⟨gb103,0,none⟩ = some (.int .i64 a2_0) ∧ w'.cell? ⟨gb103,1,none⟩ = some (.int .i64 a2_1)) ∧ (Kd.R (Kd.int .u8) 5 w' w.heap.size (fun _ => True) s_ t105) ∧ (w'.heap[gb101]? = some (.cells #[.slice A0_0 l0_0.length c0_0] 56 (0,0))) ∧ (w'.heap[gb102]? = some (.cells #[.int .i64 a1_0,.bool a1_1,.int .i64 a1_2] 23 (0,0))) ∧ (w'.heap[gb103]? = some (.cells #[.int .i64 a2_0,.int .i64 a2_1] 58 (0,0))) ∧ (Below w.heap.size w w')) ?_ ?_
             rotate_left
             · intro hJ1_3
               refine join_ (σ:=Value × Nat) 4 #[true,true,true,false,true,false,true,false,true,false] (fun s_ => [(19,.agg #[s_.1]),(10,.pointer (some ⟨s_.2,0,none⟩))]) (fun s_ w' => (w'.cell? ⟨gb101,0,none⟩ = some (.slice A0_0 l0_0.length c0_0) ∧ w'.cell? ⟨gb102,0,none⟩ = some (.int .i64 a1_0) ∧ w'.cell? ⟨gb102,1,none⟩ = some (.bool a1_1) ∧ w'.cell? ⟨gb102,2,none⟩ = some (.int .i64 a1_2) ∧ w'.cell? ⟨gb103,0,none⟩ = some (.int .i64 a2_0) ∧ w'.cell? ⟨gb103,1,none⟩ = some (.int .i64 a2_1)) ∧ (Kd.R (Kd.int .u8) 5 w' w.heap.size (fun _ => True) s_.1 t105) ∧ (w'.heap[gb101]? = some (.cells #[.slice A0_0 l0_0.length c0_0] 56 (0,0))) ∧ (w'.heap[gb102]? = some (.cells #[.int .i64 a1_0,.bool a1_1,.int .i64 a1_2] 23 (0,0))) ∧ (w'.heap[gb103]? = some (.cells #[.int .i64 a2_0,.int .i64 a2_1] 58 (0,0))) ∧ (w'.heap[s_.2]? = some (.cells #[.int .i64 0,.int .i64 0,.int .i64 0] 69 (0,0))) ∧ (w.heap.size ≤ s_.2) ∧ (w.heap.size ≤ s_.2) ∧ (gb101 ≠ s_.2) ∧ (s_.2 ≠ gb101) ∧ (gb102 ≠ s_.2) ∧ (s_.2 ≠ gb102) ∧ (gb103 ≠ s_.2) ∧ (s_.2 ≠ gb103) ∧ (Below w.heap.size w w')) ?_ ?_
               rotate_left
               · intro hJ1_8
                 refine join_ (σ:=Value) 5 #[true,true,true,false,true,false,true,false,false,false] (fun s_ => [(19,.agg #[s_])]) (fun s_ w' => (w'.cell? ⟨gb101,0,none⟩ = some (.slice A0_0 l0_0.length c0_0) ∧ w'.cell? ⟨gb102,0,none⟩ = some (.int .i64 a1_0) ∧ w'.cell? ⟨gb102,1,none⟩ = some (.bool a1_1) ∧ w'.cell? ⟨gb102,2,none⟩ = some (.int .i64 a1_2) ∧ w'.cell? ⟨gb103,0,none⟩ = some (.int .i64 a2_0) ∧ w'.cell? ⟨gb103,1,none⟩ = some (.int .i64 a2_1)) ∧ (Kd.R (Kd.int .u8) 5 w' w.heap.size (fun _ => True) s_ t105) ∧ (w'.heap[gb101]? = some (.cells #[.slice A0_0 l0_0.length c0_0] 56 (0,0))) ∧ (w'.heap[gb102]? = some (.cells #[.int .i64 a1_0,.bool a1_1,.int .i64 a1_2] 23 (0,0))) ∧ (w'.heap[gb103]? = some (.cells #[.int .i64 a2_0,.int .i64 a2_1] 58 (0,0))) ∧ (Below w.heap.size w w')) ?_ ?_
                 rotate_left
                 · intro hJ1
                   refine join_ (σ:=Nat) 5 #[true,false,true,false,true,false,true,false,true,false] (fun s_ => [(10,.pointer (some ⟨s_,0,none⟩))]) (fun s_ w' => (w'.cell? ⟨gb101,0,none⟩ = some (.slice A0_0 l0_0.length c0_0) ∧ w'.cell? ⟨gb102,0,none⟩ = some (.int .i64 a1_0) ∧ w'.cell? ⟨gb102,1,none⟩ = some (.bool a1_1) ∧ w'.cell? ⟨gb102,2,none⟩ = some (.int .i64 a1_2) ∧ w'.cell? ⟨gb103,0,none⟩ = some (.int .i64 a2_0) ∧ w'.cell? ⟨gb103,1,none⟩ = some (.int .i64 a2_1)) ∧ (w'.heap[gb101]? = some (.cells #[.slice A0_0 l0_0.length c0_0] 56 (0,0))) ∧ (w'.heap[gb102]? = some (.cells #[.int .i64 a1_0,.bool a1_1,.int .i64 a1_2] 23 (0,0))) ∧ (w'.heap[gb103]? = some (.cells #[.int .i64 a2_0,.int .i64 a2_1] 58 (0,0))) ∧ (w'.heap[s_]? = some (.cells #[.int .i64 0,.int .i64 0,.int .i64 0] 69 (0,0))) ∧ (w.heap.size ≤ s_) ∧ (w.heap.size ≤ s_) ∧ (gb101 ≠ s_) ∧ (s_ ≠ gb101) ∧ (gb102 ≠ s_) ∧ (s_ ≠ gb102) ∧ (gb103 ≠ s_) ∧ (s_ ≠ gb103) ∧ (Below w.heap.size w w')) ?_ ?_
                   rotate_left
                   · intro hJ8
                     refine two_ (i:=1) (j:=8) (Ni:=some 19) (Nj:=some 10) #[true,true,true,false,true,false,true,false,false,false] #[true,false,true,false,true,false,true,false,true,false] rfl rfl rfl rfl (two_of HT_.out (by kernel_rfl)) (by decide) (by decide) (fun K hK => ?_) (fun K hK => ?_)
                     · skip
                       refine goes_ Try.func40 (by kernel_rfl) rfl #[.agg #[.slice A0_0 l0_0.length c0_0]] (by rfl) rfl rfl (by (try simp only [List.map_toArray,List.map_cons,List.map_nil]);first|done|rfl|(simp only [List.length_drop,List.length_take];rfl)) ?_
                       with_reducible refine (laws_toFile.calls k _ _ l0_0 t105 _ ?side1 ?side2 A15.out).mono ?_
                       (case side1 => repeat (first|exact (Kd.C_below HR0_0.out HB.out)|(with_reducible refine Kd.C_alloc ?_ _)|(with_reducible refine Kd.C_drewN ?_ _)|(with_reducible refine Kd.C_drew ?_)))
                       (case side2 => exact HC0_0.out)
                       rintro e w26 ⟨v106,rfl,ho0,hb⟩
                       refine ⟨_,rfl,?_⟩
                       have n0_:=Aside0.mk (Kd.R_lower ho0 (below_size (by repeat (first|(with_reducible first|exact HB.out|apply below_alloc|apply pw_below_drewN|apply below_drew1|refine below_set ?_ GE101.out|refine below_set ?_ GE102.out|refine below_set ?_ GE103.out)|exact HB.out))))
                       have n1_:=Aside0.mk (blk_below (g:=gb101) (o:=.cells #[.slice A0_0 l0_0.length c0_0] 56 (0,0)) (by (with_reducible repeat (first|refine blk_drewN ?_ _|refine blk_drew ?_|refine blk_alloc ?_ _));exact BK101.out) hb)
                       have n2_:=Aside0.mk (blk_below (g:=gb102) (o:=.cells #[.int .i64 a1_0,.bool a1_1,.int .i64 a1_2] 23 (0,0)) (by (with_reducible repeat (first|refine blk_drewN ?_ _|refine blk_drew ?_|refine blk_alloc ?_ _));exact BK102.out) hb)
                       have n3_:=Aside0.mk (blk_below (g:=gb103) (o:=.cells #[.int .i64 a2_0,.int .i64 a2_1] 58 (0,0)) (by (with_reducible repeat (first|refine blk_drewN ?_ _|refine blk_drew ?_|refine blk_alloc ?_ _));exact BK103.out) hb)
                       have n4_:=Aside0.mk (below_step (by repeat (first|(with_reducible first|exact HB.out|apply below_alloc|apply pw_below_drewN|apply below_drew1|refine below_set ?_ GE101.out|refine below_set ?_ GE102.out|refine below_set ?_ GE103.out)|exact HB.out)) hb)
                       clear BK101
                       clear BK102
                       clear BK103
                       clear HB
                       have HO107:=n0_
                       have BK101:=n1_
                       have BK102:=n2_
                       have BK103:=n3_
                       have HB:=n4_
                       clear n0_ n1_ n2_ n3_ n4_
                       (try clear hb)
                       (try clear hb2)
                       (try clear hk)
                       (try clear hi)
                       (try clear ho0)
                       refine hK.out _ _ ⟨(blk_cell BK101.out 0).trans rfl,(blk_cell BK102.out 0).trans rfl,(blk_cell BK102.out 1).trans rfl,(blk_cell BK102.out 2).trans rfl,(blk_cell BK103.out 0).trans rfl,(blk_cell BK103.out 1).trans rfl⟩ (fun hHeld => ?_)
                       clear hK K
                       refine norm_ (a':=?_) ?_ ?_
                       rotate_left
                       · show Act.put _ (some 19) _ = _
                         simp only [Act.put,List.setIfInBounds_toArray,List.set_cons_zero,List.set_cons_succ,i64_w,i32_w]
                         rfl
                       exact norm_ (by first|(simp only [putAll,Act.put,List.setIfInBounds_toArray,List.set_cons_zero,List.set_cons_succ];done)|(simp only [putAll,Act.put,List.setIfInBounds_toArray,List.set_cons_zero,List.set_cons_succ];rfl)) (hJ1 (v106) _ ⟨hHeld,(by (with_reducible repeat (first|apply Kd.R_alloc|apply Kd.R_drewN|apply Kd.R_drew));exact HO107.out),(by (with_reducible repeat (first|refine blk_drewN ?_ _|refine blk_drew ?_|refine blk_alloc ?_ _));exact BK101.out),(by (with_reducible repeat (first|refine blk_drewN ?_ _|refine blk_drew ?_|refine blk_alloc ?_ _));exact BK102.out),(by (with_reducible repeat (first|refine blk_drewN ?_ _|refine blk_drew ?_|refine blk_alloc ?_ _));exact BK103.out),(by repeat (first|(with_reducible first|exact HB.out|apply below_alloc|apply pw_below_drewN|apply below_drew1|refine below_set ?_ GE101.out|refine below_set ?_ GE102.out|refine below_set ?_ GE103.out)|exact HB.out))⟩)
                     · skip
                       refine box_step ?hg (N:=10) ?hd (cs:=#[.int .i64 0,.int .i64 0,.int .i64 0]) (t:=69) ?hr ?_;(case hd => rfl);(case hg => rfl);(case hr => first|(go_simp;done)|(go_simp;rfl))
                       intro gb116 hg w26 hbox hb
                       have n0_:=Aside0.mk (blk_below (g:=gb101) (o:=.cells #[.slice A0_0 l0_0.length c0_0] 56 (0,0)) (by (with_reducible repeat (first|refine blk_drewN ?_ _|refine blk_drew ?_|refine blk_alloc ?_ _));exact BK101.out) hb)
                       have n1_:=Aside0.mk (blk_below (g:=gb102) (o:=.cells #[.int .i64 a1_0,.bool a1_1,.int .i64 a1_2] 23 (0,0)) (by (with_reducible repeat (first|refine blk_drewN ?_ _|refine blk_drew ?_|refine blk_alloc ?_ _));exact BK102.out) hb)
                       have n2_:=Aside0.mk (blk_below (g:=gb103) (o:=.cells #[.int .i64 a2_0,.int .i64 a2_1] 58 (0,0)) (by (with_reducible repeat (first|refine blk_drewN ?_ _|refine blk_drew ?_|refine blk_alloc ?_ _));exact BK103.out) hb)
                       have n3_:=Aside0.mk (below_step (by repeat (first|(with_reducible first|exact HB.out|apply below_alloc|apply pw_below_drewN|apply below_drew1|refine below_set ?_ GE101.out|refine below_set ?_ GE102.out|refine below_set ?_ GE103.out)|exact HB.out)) hb)
                       have n4_:=Aside0.mk (hbox)
                       have n5_:=Aside0.mk ((by rw [hg];exact (below_size (by repeat (first|(with_reducible first|exact HB.out|apply below_alloc|apply pw_below_drewN|apply below_drew1|refine below_set ?_ GE101.out|refine below_set ?_ GE102.out|refine below_set ?_ GE103.out)|exact HB.out))) : w.heap.size ≤ gb116))
                       have n6_:=Aside0.mk ((by rw [hg];exact (below_size (by repeat (first|(with_reducible first|exact HB.out|apply below_alloc|apply pw_below_drewN|apply below_drew1|refine below_set ?_ GE101.out|refine below_set ?_ GE102.out|refine below_set ?_ GE103.out)|exact HB.out))) : w.heap.size ≤ gb116))
                       have n7_:=Aside0.mk ((by rw [hg];exact Nat.ne_of_lt (blk_lt (g:=gb101) (o:=.cells #[.slice A0_0 l0_0.length c0_0] 56 (0,0)) (by (with_reducible repeat (first|refine blk_drewN ?_ _|refine blk_drew ?_|refine blk_alloc ?_ _));exact BK101.out)) : gb101 ≠ gb116))
                       have n8_:=Aside0.mk ((by rw [hg];exact Nat.ne_of_gt (blk_lt (g:=gb101) (o:=.cells #[.slice A0_0 l0_0.length c0_0] 56 (0,0)) (by (with_reducible repeat (first|refine blk_drewN ?_ _|refine blk_drew ?_|refine blk_alloc ?_ _));exact BK101.out)) : gb116 ≠ gb101))
                       have n9_:=Aside0.mk ((by rw [hg];exact Nat.ne_of_lt (blk_lt (g:=gb102) (o:=.cells #[.int .i64 a1_0,.bool a1_1,.int .i64 a1_2] 23 (0,0)) (by (with_reducible repeat (first|refine blk_drewN ?_ _|refine blk_drew ?_|refine blk_alloc ?_ _));exact BK102.out)) : gb102 ≠ gb116))
                       have n10_:=Aside0.mk ((by rw [hg];exact Nat.ne_of_gt (blk_lt (g:=gb102) (o:=.cells #[.int .i64 a1_0,.bool a1_1,.int .i64 a1_2] 23 (0,0)) (by (with_reducible repeat (first|refine blk_drewN ?_ _|refine blk_drew ?_|refine blk_alloc ?_ _));exact BK102.out)) : gb116 ≠ gb102))
                       have n11_:=Aside0.mk ((by rw [hg];exact Nat.ne_of_lt (blk_lt (g:=gb103) (o:=.cells #[.int .i64 a2_0,.int .i64 a2_1] 58 (0,0)) (by (with_reducible repeat (first|refine blk_drewN ?_ _|refine blk_drew ?_|refine blk_alloc ?_ _));exact BK103.out)) : gb103 ≠ gb116))
                       have n12_:=Aside0.mk ((by rw [hg];exact Nat.ne_of_gt (blk_lt (g:=gb103) (o:=.cells #[.int .i64 a2_0,.int .i64 a2_1] 58 (0,0)) (by (with_reducible repeat (first|refine blk_drewN ?_ _|refine blk_drew ?_|refine blk_alloc ?_ _));exact BK103.out)) : gb116 ≠ gb103))
                       clear BK101
                       clear BK102
                       clear BK103
                       clear HB
                       have BK101:=n0_
                       have BK102:=n1_
                       have BK103:=n2_
                       have HB:=n3_
                       have BK116:=n4_
                       have GW116:=n5_
                       have GE116:=n6_
                       have NB101_116:=n7_
                       have NB116_101:=n8_
                       have NB102_116:=n9_
                       have NB116_102:=n10_
                       have NB103_116:=n11_
                       have NB116_103:=n12_
                       clear n0_ n1_ n2_ n3_ n4_ n5_ n6_ n7_ n8_ n9_ n10_ n11_ n12_
                       clear hb hbox hg
                       refine hK.out _ _ ⟨(blk_cell BK101.out 0).trans rfl,(blk_cell BK102.out 0).trans rfl,(blk_cell BK102.out 1).trans rfl,(blk_cell BK102.out 2).trans rfl,(blk_cell BK103.out 0).trans rfl,(blk_cell BK103.out 1).trans rfl⟩ (fun hHeld => ?_)
                       clear hK K
                       refine norm_ (a':=?_) ?_ ?_
                       rotate_left
                       · show Act.put _ (some 10) _ = _
                         simp only [Act.put,List.setIfInBounds_toArray,List.set_cons_zero,List.set_cons_succ,i64_w,i32_w]
                         rfl
                       exact norm_ (by first|(simp only [putAll,Act.put,List.setIfInBounds_toArray,List.set_cons_zero,List.set_cons_succ];done)|(simp only [putAll,Act.put,List.setIfInBounds_toArray,List.set_cons_zero,List.set_cons_succ];rfl)) (hJ8 (gb116) _ ⟨hHeld,(by (with_reducible repeat (first|refine blk_drewN ?_ _|refine blk_drew ?_|refine blk_alloc ?_ _));exact BK101.out),(by (with_reducible repeat (first|refine blk_drewN ?_ _|refine blk_drew ?_|refine blk_alloc ?_ _));exact BK102.out),(by (with_reducible repeat (first|refine blk_drewN ?_ _|refine blk_drew ?_|refine blk_alloc ?_ _));exact BK103.out),(by (with_reducible repeat (first|refine blk_drewN ?_ _|refine blk_drew ?_|refine blk_alloc ?_ _));exact BK116.out),GW116.out,GE116.out,NB101_116.out,NB116_101.out,NB102_116.out,NB116_102.out,NB103_116.out,NB116_103.out,(by repeat (first|(with_reducible first|exact HB.out|apply below_alloc|apply pw_below_drewN|apply below_drew1|refine below_set ?_ GE101.out|refine below_set ?_ GE102.out|refine below_set ?_ GE103.out|refine below_set ?_ GE116.out)|exact HB.out))⟩)
                   · skip
                     rintro gb116 w27 ⟨hS_,h0_,h1_,h2_,h3_,h4_,h5_,h6_,h7_,h8_,h9_,h10_,h11_,h12_⟩
                     have n0_ : Aside0 (w27.heap[gb101]? = some (.cells #[.slice A0_0 l0_0.length c0_0] 56 (0,0))):=⟨h0_⟩
                     have n1_ : Aside0 (w27.heap[gb102]? = some (.cells #[.int .i64 a1_0,.bool a1_1,.int .i64 a1_2] 23 (0,0))):=⟨h1_⟩
                     have n2_ : Aside0 (w27.heap[gb103]? = some (.cells #[.int .i64 a2_0,.int .i64 a2_1] 58 (0,0))):=⟨h2_⟩
                     have n3_ : Aside0 (w27.heap[gb116]? = some (.cells #[.int .i64 0,.int .i64 0,.int .i64 0] 69 (0,0))):=⟨h3_⟩
                     have n4_ : Aside0 (w.heap.size ≤ gb116):=⟨h4_⟩
                     have n5_ : Aside0 (w.heap.size ≤ gb116):=⟨h5_⟩
                     have n6_ : Aside0 (gb101 ≠ gb116):=⟨h6_⟩
                     have n7_ : Aside0 (gb116 ≠ gb101):=⟨h7_⟩
                     have n8_ : Aside0 (gb102 ≠ gb116):=⟨h8_⟩
                     have n9_ : Aside0 (gb116 ≠ gb102):=⟨h9_⟩
                     have n10_ : Aside0 (gb103 ≠ gb116):=⟨h10_⟩
                     have n11_ : Aside0 (gb116 ≠ gb103):=⟨h11_⟩
                     have n12_ : Aside0 (Below w.heap.size w w27):=⟨h12_⟩
                     clear BK101
                     clear BK102
                     clear BK103
                     clear HB
                     clear h0_ h1_ h2_ h3_ h4_ h5_ h6_ h7_ h8_ h9_ h10_ h11_ h12_
                     have BK101:=n0_
                     have BK102:=n1_
                     have BK103:=n2_
                     have BK116:=n3_
                     have GW116:=n4_
                     have GE116:=n5_
                     have NB101_116:=n6_
                     have NB116_101:=n7_
                     have NB102_116:=n8_
                     have NB116_102:=n9_
                     have NB103_116:=n10_
                     have NB116_103:=n11_
                     have HB:=n12_
                     clear n0_ n1_ n2_ n3_ n4_ n5_ n6_ n7_ n8_ n9_ n10_ n11_ n12_
                     have hHeld : w27.cell? ⟨gb101,0,none⟩ = some (.slice A0_0 l0_0.length c0_0) ∧ w27.cell? ⟨gb102,0,none⟩ = some (.int .i64 a1_0) ∧ w27.cell? ⟨gb102,1,none⟩ = some (.bool a1_1) ∧ w27.cell? ⟨gb102,2,none⟩ = some (.int .i64 a1_2) ∧ w27.cell? ⟨gb103,0,none⟩ = some (.int .i64 a2_0) ∧ w27.cell? ⟨gb103,1,none⟩ = some (.int .i64 a2_1):=hS_
                     refine norm_ (a':=?_) ?_ ?_
                     rotate_left
                     · simp only [putAll,Act.put,List.setIfInBounds_toArray,List.set_cons_zero,List.set_cons_succ]
                       rfl
                     refine one_ (i:=1) (N:=some 19) #[true,true,true,false,true,false,true,false,true,false] rfl rfl (one_of HT_.out (by kernel_rfl)) (by decide) (fun K hK => ?_)
                     refine goes_ Try.func40 (by kernel_rfl) rfl #[.agg #[.slice A0_0 l0_0.length c0_0]] (by rfl) rfl rfl (by (try simp only [List.map_toArray,List.map_cons,List.map_nil]);first|done|rfl|(simp only [List.length_drop,List.length_take];rfl)) ?_
                     with_reducible refine (laws_toFile.calls k _ _ l0_0 t105 _ ?side1 ?side2 A15.out).mono ?_
                     (case side1 => repeat (first|exact (Kd.C_below HR0_0.out HB.out)|(with_reducible refine Kd.C_alloc ?_ _)|(with_reducible refine Kd.C_drewN ?_ _)|(with_reducible refine Kd.C_drew ?_)))
                     (case side2 => exact HC0_0.out)
                     rintro e w28 ⟨v106,rfl,ho0,hb⟩
                     refine ⟨_,rfl,?_⟩
                     have n0_:=Aside0.mk (Kd.R_lower ho0 (below_size (by repeat (first|(with_reducible first|exact HB.out|apply below_alloc|apply pw_below_drewN|apply below_drew1|refine below_set ?_ GE101.out|refine below_set ?_ GE102.out|refine below_set ?_ GE103.out|refine below_set ?_ GE116.out)|exact HB.out))))
                     have n1_:=Aside0.mk (blk_below (g:=gb101) (o:=.cells #[.slice A0_0 l0_0.length c0_0] 56 (0,0)) (by (with_reducible repeat (first|refine blk_drewN ?_ _|refine blk_drew ?_|refine blk_alloc ?_ _));exact BK101.out) hb)
                     have n2_:=Aside0.mk (blk_below (g:=gb102) (o:=.cells #[.int .i64 a1_0,.bool a1_1,.int .i64 a1_2] 23 (0,0)) (by (with_reducible repeat (first|refine blk_drewN ?_ _|refine blk_drew ?_|refine blk_alloc ?_ _));exact BK102.out) hb)
                     have n3_:=Aside0.mk (blk_below (g:=gb103) (o:=.cells #[.int .i64 a2_0,.int .i64 a2_1] 58 (0,0)) (by (with_reducible repeat (first|refine blk_drewN ?_ _|refine blk_drew ?_|refine blk_alloc ?_ _));exact BK103.out) hb)
                     have n4_:=Aside0.mk (blk_below (g:=gb116) (o:=.cells #[.int .i64 0,.int .i64 0,.int .i64 0] 69 (0,0)) (by (with_reducible repeat (first|refine blk_drewN ?_ _|refine blk_drew ?_|refine blk_alloc ?_ _));exact BK116.out) hb)
                     have n5_:=Aside0.mk (below_step (by repeat (first|(with_reducible first|exact HB.out|apply below_alloc|apply pw_below_drewN|apply below_drew1|refine below_set ?_ GE101.out|refine below_set ?_ GE102.out|refine below_set ?_ GE103.out|refine below_set ?_ GE116.out)|exact HB.out)) hb)
                     clear BK101
                     clear BK102
                     clear BK103
                     clear BK116
                     clear HB
                     have HO107:=n0_
                     have BK101:=n1_
                     have BK102:=n2_
                     have BK103:=n3_
                     have BK116:=n4_
                     have HB:=n5_
                     clear n0_ n1_ n2_ n3_ n4_ n5_
                     (try clear hb)
                     (try clear hb2)
                     (try clear hk)
                     (try clear hi)
                     (try clear ho0)
                     refine hK.out _ _ ⟨(blk_cell BK101.out 0).trans rfl,(blk_cell BK102.out 0).trans rfl,(blk_cell BK102.out 1).trans rfl,(blk_cell BK102.out 2).trans rfl,(blk_cell BK103.out 0).trans rfl,(blk_cell BK103.out 1).trans rfl⟩ (fun hHeld => ?_)
                     clear hK K
                     refine norm_ (a':=?_) ?_ ?_
                     rotate_left
                     · show Act.put _ (some 19) _ = _
                       simp only [Act.put,List.setIfInBounds_toArray,List.set_cons_zero,List.set_cons_succ,i64_w,i32_w]
                       rfl
                     exact norm_ (by first|(simp only [putAll,Act.put,List.setIfInBounds_toArray,List.set_cons_zero,List.set_cons_succ];done)|(simp only [putAll,Act.put,List.setIfInBounds_toArray,List.set_cons_zero,List.set_cons_succ];rfl)) (hJ1_8 (v106,gb116) _ ⟨hHeld,(by (with_reducible repeat (first|apply Kd.R_alloc|apply Kd.R_drewN|apply Kd.R_drew));exact HO107.out),(by (with_reducible repeat (first|refine blk_drewN ?_ _|refine blk_drew ?_|refine blk_alloc ?_ _));exact BK101.out),(by (with_reducible repeat (first|refine blk_drewN ?_ _|refine blk_drew ?_|refine blk_alloc ?_ _));exact BK102.out),(by (with_reducible repeat (first|refine blk_drewN ?_ _|refine blk_drew ?_|refine blk_alloc ?_ _));exact BK103.out),(by (with_reducible repeat (first|refine blk_drewN ?_ _|refine blk_drew ?_|refine blk_alloc ?_ _));exact BK116.out),GW116.out,GE116.out,NB101_116.out,NB116_101.out,NB102_116.out,NB116_102.out,NB103_116.out,NB116_103.out,(by repeat (first|(with_reducible first|exact HB.out|apply below_alloc|apply pw_below_drewN|apply below_drew1|refine below_set ?_ GE101.out|refine below_set ?_ GE102.out|refine below_set ?_ GE103.out|refine below_set ?_ GE116.out)|exact HB.out))⟩)
                 · skip
                   rintro v106 w27 ⟨hS_,h0_,h1_,h2_,h3_,h4_⟩
                   have n0_ : Aside0 (Kd.R (Kd.int .u8) 5 w27 w.heap.size (fun _ => True) v106 t105):=⟨h0_⟩
                   have n1_ : Aside0 (w27.heap[gb101]? = some (.cells #[.slice A0_0 l0_0.length c0_0] 56 (0,0))):=⟨h1_⟩
                   have n2_ : Aside0 (w27.heap[gb102]? = some (.cells #[.int .i64 a1_0,.bool a1_1,.int .i64 a1_2] 23 (0,0))):=⟨h2_⟩
                   have n3_ : Aside0 (w27.heap[gb103]? = some (.cells #[.int .i64 a2_0,.int .i64 a2_1] 58 (0,0))):=⟨h3_⟩
                   have n4_ : Aside0 (Below w.heap.size w w27):=⟨h4_⟩
                   clear BK101
                   clear BK102
                   clear BK103
                   clear HB
                   clear h0_ h1_ h2_ h3_ h4_
                   have HO107:=n0_
                   have BK101:=n1_
                   have BK102:=n2_
                   have BK103:=n3_
                   have HB:=n4_
                   clear n0_ n1_ n2_ n3_ n4_
                   have hHeld : w27.cell? ⟨gb101,0,none⟩ = some (.slice A0_0 l0_0.length c0_0) ∧ w27.cell? ⟨gb102,0,none⟩ = some (.int .i64 a1_0) ∧ w27.cell? ⟨gb102,1,none⟩ = some (.bool a1_1) ∧ w27.cell? ⟨gb102,2,none⟩ = some (.int .i64 a1_2) ∧ w27.cell? ⟨gb103,0,none⟩ = some (.int .i64 a2_0) ∧ w27.cell? ⟨gb103,1,none⟩ = some (.int .i64 a2_1):=hS_
                   refine norm_ (a':=?_) ?_ ?_
                   rotate_left
                   · simp only [putAll,Act.put,List.setIfInBounds_toArray,List.set_cons_zero,List.set_cons_succ]
                     rfl
                   refine two_ (i:=3) (j:=8) (Ni:=some 21) (Nj:=some 10) #[true,true,true,true,true,false,true,false,false,false] #[true,true,true,false,true,false,true,false,true,false] rfl rfl rfl rfl (two_of HT_.out (by kernel_rfl)) (by decide) (by decide) (fun K hK => ?_) (fun K hK => ?_)
                   · skip
                     refine goes_ Try.func15 (by kernel_rfl) rfl #[.agg #[.int .i64 a1_0,.bool a1_1,.int .i64 a1_2]] (by rfl) rfl rfl (by (try simp only [List.map_toArray,List.map_cons,List.map_nil]);first|done|rfl|(simp only [List.length_drop,List.length_take];rfl)) ?_
                     with_reducible refine (laws_toLayout.calls a1_0 a1_1 a1_2 t108 t109 t110 _ A16.out).mono ?_
                     rintro e w28 ⟨rfl,hb⟩
                     refine ⟨_,rfl,?_⟩
                     have n0_:=Aside0.mk (Kd.R_below (by (with_reducible repeat (first|apply Kd.R_alloc|apply Kd.R_drewN|apply Kd.R_drew));exact HO107.out) hb)
                     have n1_:=Aside0.mk (blk_below (g:=gb101) (o:=.cells #[.slice A0_0 l0_0.length c0_0] 56 (0,0)) (by (with_reducible repeat (first|refine blk_drewN ?_ _|refine blk_drew ?_|refine blk_alloc ?_ _));exact BK101.out) hb)
                     have n2_:=Aside0.mk (blk_below (g:=gb102) (o:=.cells #[.int .i64 a1_0,.bool a1_1,.int .i64 a1_2] 23 (0,0)) (by (with_reducible repeat (first|refine blk_drewN ?_ _|refine blk_drew ?_|refine blk_alloc ?_ _));exact BK102.out) hb)
                     have n3_:=Aside0.mk (blk_below (g:=gb103) (o:=.cells #[.int .i64 a2_0,.int .i64 a2_1] 58 (0,0)) (by (with_reducible repeat (first|refine blk_drewN ?_ _|refine blk_drew ?_|refine blk_alloc ?_ _));exact BK103.out) hb)
                     have n4_:=Aside0.mk (below_step (by repeat (first|(with_reducible first|exact HB.out|apply below_alloc|apply pw_below_drewN|apply below_drew1|refine below_set ?_ GE101.out|refine below_set ?_ GE102.out|refine below_set ?_ GE103.out)|exact HB.out)) hb)
                     clear HO107
                     clear BK101
                     clear BK102
                     clear BK103
                     clear HB
                     have HO107:=n0_
                     have BK101:=n1_
                     have BK102:=n2_
                     have BK103:=n3_
                     have HB:=n4_
                     clear n0_ n1_ n2_ n3_ n4_
                     (try clear hb)
                     (try clear hb2)
                     (try clear hk)
                     (try clear hi)
                     refine hK.out _ _ ⟨(blk_cell BK101.out 0).trans rfl,(blk_cell BK102.out 0).trans rfl,(blk_cell BK102.out 1).trans rfl,(blk_cell BK102.out 2).trans rfl,(blk_cell BK103.out 0).trans rfl,(blk_cell BK103.out 1).trans rfl⟩ (fun hHeld => ?_)
                     clear hK K
                     refine norm_ (a':=?_) ?_ ?_
                     rotate_left
                     · show Act.put _ (some 21) _ = _
                       simp only [Act.put,List.setIfInBounds_toArray,List.set_cons_zero,List.set_cons_succ,i64_w,i32_w]
                       rfl
                     exact norm_ (by first|(simp only [putAll,Act.put,List.setIfInBounds_toArray,List.set_cons_zero,List.set_cons_succ];done)|(simp only [putAll,Act.put,List.setIfInBounds_toArray,List.set_cons_zero,List.set_cons_succ];rfl)) (hJ1_3 (v106) _ ⟨hHeld,(by (with_reducible repeat (first|apply Kd.R_alloc|apply Kd.R_drewN|apply Kd.R_drew));exact HO107.out),(by (with_reducible repeat (first|refine blk_drewN ?_ _|refine blk_drew ?_|refine blk_alloc ?_ _));exact BK101.out),(by (with_reducible repeat (first|refine blk_drewN ?_ _|refine blk_drew ?_|refine blk_alloc ?_ _));exact BK102.out),(by (with_reducible repeat (first|refine blk_drewN ?_ _|refine blk_drew ?_|refine blk_alloc ?_ _));exact BK103.out),(by repeat (first|(with_reducible first|exact HB.out|apply below_alloc|apply pw_below_drewN|apply below_drew1|refine below_set ?_ GE101.out|refine below_set ?_ GE102.out|refine below_set ?_ GE103.out)|exact HB.out))⟩)
                   · skip
                     refine box_step ?hg (N:=10) ?hd (cs:=#[.int .i64 0,.int .i64 0,.int .i64 0]) (t:=69) ?hr ?_;(case hd => rfl);(case hg => rfl);(case hr => first|(go_simp;done)|(go_simp;rfl))
                     intro gb116 hg w28 hbox hb
                     have n0_:=Aside0.mk (Kd.R_below (by (with_reducible repeat (first|apply Kd.R_alloc|apply Kd.R_drewN|apply Kd.R_drew));exact HO107.out) hb)
                     have n1_:=Aside0.mk (blk_below (g:=gb101) (o:=.cells #[.slice A0_0 l0_0.length c0_0] 56 (0,0)) (by (with_reducible repeat (first|refine blk_drewN ?_ _|refine blk_drew ?_|refine blk_alloc ?_ _));exact BK101.out) hb)
                     have n2_:=Aside0.mk (blk_below (g:=gb102) (o:=.cells #[.int .i64 a1_0,.bool a1_1,.int .i64 a1_2] 23 (0,0)) (by (with_reducible repeat (first|refine blk_drewN ?_ _|refine blk_drew ?_|refine blk_alloc ?_ _));exact BK102.out) hb)
                     have n3_:=Aside0.mk (blk_below (g:=gb103) (o:=.cells #[.int .i64 a2_0,.int .i64 a2_1] 58 (0,0)) (by (with_reducible repeat (first|refine blk_drewN ?_ _|refine blk_drew ?_|refine blk_alloc ?_ _));exact BK103.out) hb)
                     have n4_:=Aside0.mk (below_step (by repeat (first|(with_reducible first|exact HB.out|apply below_alloc|apply pw_below_drewN|apply below_drew1|refine below_set ?_ GE101.out|refine below_set ?_ GE102.out|refine below_set ?_ GE103.out)|exact HB.out)) hb)
                     have n5_:=Aside0.mk (hbox)
                     have n6_:=Aside0.mk ((by rw [hg];exact (below_size (by repeat (first|(with_reducible first|exact HB.out|apply below_alloc|apply pw_below_drewN|apply below_drew1|refine below_set ?_ GE101.out|refine below_set ?_ GE102.out|refine below_set ?_ GE103.out)|exact HB.out))) : w.heap.size ≤ gb116))
                     have n7_:=Aside0.mk ((by rw [hg];exact (below_size (by repeat (first|(with_reducible first|exact HB.out|apply below_alloc|apply pw_below_drewN|apply below_drew1|refine below_set ?_ GE101.out|refine below_set ?_ GE102.out|refine below_set ?_ GE103.out)|exact HB.out))) : w.heap.size ≤ gb116))
                     have n8_:=Aside0.mk ((by rw [hg];exact Nat.ne_of_lt (blk_lt (g:=gb101) (o:=.cells #[.slice A0_0 l0_0.length c0_0] 56 (0,0)) (by (with_reducible repeat (first|refine blk_drewN ?_ _|refine blk_drew ?_|refine blk_alloc ?_ _));exact BK101.out)) : gb101 ≠ gb116))
                     have n9_:=Aside0.mk ((by rw [hg];exact Nat.ne_of_gt (blk_lt (g:=gb101) (o:=.cells #[.slice A0_0 l0_0.length c0_0] 56 (0,0)) (by (with_reducible repeat (first|refine blk_drewN ?_ _|refine blk_drew ?_|refine blk_alloc ?_ _));exact BK101.out)) : gb116 ≠ gb101))
                     have n10_:=Aside0.mk ((by rw [hg];exact Nat.ne_of_lt (blk_lt (g:=gb102) (o:=.cells #[.int .i64 a1_0,.bool a1_1,.int .i64 a1_2] 23 (0,0)) (by (with_reducible repeat (first|refine blk_drewN ?_ _|refine blk_drew ?_|refine blk_alloc ?_ _));exact BK102.out)) : gb102 ≠ gb116))
                     have n11_:=Aside0.mk ((by rw [hg];exact Nat.ne_of_gt (blk_lt (g:=gb102) (o:=.cells #[.int .i64 a1_0,.bool a1_1,.int .i64 a1_2] 23 (0,0)) (by (with_reducible repeat (first|refine blk_drewN ?_ _|refine blk_drew ?_|refine blk_alloc ?_ _));exact BK102.out)) : gb116 ≠ gb102))
                     have n12_:=Aside0.mk ((by rw [hg];exact Nat.ne_of_lt (blk_lt (g:=gb103) (o:=.cells #[.int .i64 a2_0,.int .i64 a2_1] 58 (0,0)) (by (with_reducible repeat (first|refine blk_drewN ?_ _|refine blk_drew ?_|refine blk_alloc ?_ _));exact BK103.out)) : gb103 ≠ gb116))
                     have n13_:=Aside0.mk ((by rw [hg];exact Nat.ne_of_gt (blk_lt (g:=gb103) (o:=.cells #[.int .i64 a2_0,.int .i64 a2_1] 58 (0,0)) (by (with_reducible repeat (first|refine blk_drewN ?_ _|refine blk_drew ?_|refine blk_alloc ?_ _));exact BK103.out)) : gb116 ≠ gb103))
                     clear HO107
                     clear BK101
                     clear BK102
                     clear BK103
                     clear HB
                     have HO107:=n0_
                     have BK101:=n1_
                     have BK102:=n2_
                     have BK103:=n3_
                     have HB:=n4_
                     have BK116:=n5_
                     have GW116:=n6_
                     have GE116:=n7_
                     have NB101_116:=n8_
                     have NB116_101:=n9_
                     have NB102_116:=n10_
                     have NB116_102:=n11_
                     have NB103_116:=n12_
                     have NB116_103:=n13_
                     clear n0_ n1_ n2_ n3_ n4_ n5_ n6_ n7_ n8_ n9_ n10_ n11_ n12_ n13_
                     clear hb hbox hg
                     refine hK.out _ _ ⟨(blk_cell BK101.out 0).trans rfl,(blk_cell BK102.out 0).trans rfl,(blk_cell BK102.out 1).trans rfl,(blk_cell BK102.out 2).trans rfl,(blk_cell BK103.out 0).trans rfl,(blk_cell BK103.out 1).trans rfl⟩ (fun hHeld => ?_)
                     clear hK K
                     refine norm_ (a':=?_) ?_ ?_
                     rotate_left
                     · show Act.put _ (some 10) _ = _
                       simp only [Act.put,List.setIfInBounds_toArray,List.set_cons_zero,List.set_cons_succ,i64_w,i32_w]
                       rfl
                     exact norm_ (by first|(simp only [putAll,Act.put,List.setIfInBounds_toArray,List.set_cons_zero,List.set_cons_succ];done)|(simp only [putAll,Act.put,List.setIfInBounds_toArray,List.set_cons_zero,List.set_cons_succ];rfl)) (hJ1_8 (v106,gb116) _ ⟨hHeld,(by (with_reducible repeat (first|apply Kd.R_alloc|apply Kd.R_drewN|apply Kd.R_drew));exact HO107.out),(by (with_reducible repeat (first|refine blk_drewN ?_ _|refine blk_drew ?_|refine blk_alloc ?_ _));exact BK101.out),(by (with_reducible repeat (first|refine blk_drewN ?_ _|refine blk_drew ?_|refine blk_alloc ?_ _));exact BK102.out),(by (with_reducible repeat (first|refine blk_drewN ?_ _|refine blk_drew ?_|refine blk_alloc ?_ _));exact BK103.out),(by (with_reducible repeat (first|refine blk_drewN ?_ _|refine blk_drew ?_|refine blk_alloc ?_ _));exact BK116.out),GW116.out,GE116.out,NB101_116.out,NB116_101.out,NB102_116.out,NB116_102.out,NB103_116.out,NB116_103.out,(by repeat (first|(with_reducible first|exact HB.out|apply below_alloc|apply pw_below_drewN|apply below_drew1|refine below_set ?_ GE101.out|refine below_set ?_ GE102.out|refine below_set ?_ GE103.out|refine below_set ?_ GE116.out)|exact HB.out))⟩)
               · skip
                 rintro ⟨v106,gb116⟩ w28 ⟨hS_,h0_,h1_,h2_,h3_,h4_,h5_,h6_,h7_,h8_,h9_,h10_,h11_,h12_,h13_⟩
                 have n0_ : Aside0 (Kd.R (Kd.int .u8) 5 w28 w.heap.size (fun _ => True) v106 t105):=⟨h0_⟩
                 have n1_ : Aside0 (w28.heap[gb101]? = some (.cells #[.slice A0_0 l0_0.length c0_0] 56 (0,0))):=⟨h1_⟩
                 have n2_ : Aside0 (w28.heap[gb102]? = some (.cells #[.int .i64 a1_0,.bool a1_1,.int .i64 a1_2] 23 (0,0))):=⟨h2_⟩
                 have n3_ : Aside0 (w28.heap[gb103]? = some (.cells #[.int .i64 a2_0,.int .i64 a2_1] 58 (0,0))):=⟨h3_⟩
                 have n4_ : Aside0 (w28.heap[gb116]? = some (.cells #[.int .i64 0,.int .i64 0,.int .i64 0] 69 (0,0))):=⟨h4_⟩
                 have n5_ : Aside0 (w.heap.size ≤ gb116):=⟨h5_⟩
                 have n6_ : Aside0 (w.heap.size ≤ gb116):=⟨h6_⟩
                 have n7_ : Aside0 (gb101 ≠ gb116):=⟨h7_⟩
                 have n8_ : Aside0 (gb116 ≠ gb101):=⟨h8_⟩
                 have n9_ : Aside0 (gb102 ≠ gb116):=⟨h9_⟩
                 have n10_ : Aside0 (gb116 ≠ gb102):=⟨h10_⟩
                 have n11_ : Aside0 (gb103 ≠ gb116):=⟨h11_⟩
                 have n12_ : Aside0 (gb116 ≠ gb103):=⟨h12_⟩
                 have n13_ : Aside0 (Below w.heap.size w w28):=⟨h13_⟩
                 clear BK101
                 clear BK102
                 clear BK103
                 clear HB
                 clear h0_ h1_ h2_ h3_ h4_ h5_ h6_ h7_ h8_ h9_ h10_ h11_ h12_ h13_
                 have HO107:=n0_
                 have BK101:=n1_
                 have BK102:=n2_
                 have BK103:=n3_
                 have BK116:=n4_
                 have GW116:=n5_
                 have GE116:=n6_
                 have NB101_116:=n7_
                 have NB116_101:=n8_
                 have NB102_116:=n9_
                 have NB116_102:=n10_
                 have NB103_116:=n11_
                 have NB116_103:=n12_
                 have HB:=n13_
                 clear n0_ n1_ n2_ n3_ n4_ n5_ n6_ n7_ n8_ n9_ n10_ n11_ n12_ n13_
                 have hHeld : w28.cell? ⟨gb101,0,none⟩ = some (.slice A0_0 l0_0.length c0_0) ∧ w28.cell? ⟨gb102,0,none⟩ = some (.int .i64 a1_0) ∧ w28.cell? ⟨gb102,1,none⟩ = some (.bool a1_1) ∧ w28.cell? ⟨gb102,2,none⟩ = some (.int .i64 a1_2) ∧ w28.cell? ⟨gb103,0,none⟩ = some (.int .i64 a2_0) ∧ w28.cell? ⟨gb103,1,none⟩ = some (.int .i64 a2_1):=hS_
                 refine norm_ (a':=?_) ?_ ?_
                 rotate_left
                 · simp only [putAll,Act.put,List.setIfInBounds_toArray,List.set_cons_zero,List.set_cons_succ]
                   rfl
                 refine one_ (i:=3) (N:=some 21) #[true,true,true,true,true,false,true,false,true,false] rfl rfl (one_of HT_.out (by kernel_rfl)) (by decide) (fun K hK => ?_)
                 refine goes_ Try.func15 (by kernel_rfl) rfl #[.agg #[.int .i64 a1_0,.bool a1_1,.int .i64 a1_2]] (by rfl) rfl rfl (by (try simp only [List.map_toArray,List.map_cons,List.map_nil]);first|done|rfl|(simp only [List.length_drop,List.length_take];rfl)) ?_
                 with_reducible refine (laws_toLayout.calls a1_0 a1_1 a1_2 t108 t109 t110 _ A16.out).mono ?_
                 rintro e w29 ⟨rfl,hb⟩
                 refine ⟨_,rfl,?_⟩
                 have n0_:=Aside0.mk (Kd.R_below (by (with_reducible repeat (first|apply Kd.R_alloc|apply Kd.R_drewN|apply Kd.R_drew));exact HO107.out) hb)
                 have n1_:=Aside0.mk (blk_below (g:=gb101) (o:=.cells #[.slice A0_0 l0_0.length c0_0] 56 (0,0)) (by (with_reducible repeat (first|refine blk_drewN ?_ _|refine blk_drew ?_|refine blk_alloc ?_ _));exact BK101.out) hb)
                 have n2_:=Aside0.mk (blk_below (g:=gb102) (o:=.cells #[.int .i64 a1_0,.bool a1_1,.int .i64 a1_2] 23 (0,0)) (by (with_reducible repeat (first|refine blk_drewN ?_ _|refine blk_drew ?_|refine blk_alloc ?_ _));exact BK102.out) hb)
                 have n3_:=Aside0.mk (blk_below (g:=gb103) (o:=.cells #[.int .i64 a2_0,.int .i64 a2_1] 58 (0,0)) (by (with_reducible repeat (first|refine blk_drewN ?_ _|refine blk_drew ?_|refine blk_alloc ?_ _));exact BK103.out) hb)
                 have n4_:=Aside0.mk (blk_below (g:=gb116) (o:=.cells #[.int .i64 0,.int .i64 0,.int .i64 0] 69 (0,0)) (by (with_reducible repeat (first|refine blk_drewN ?_ _|refine blk_drew ?_|refine blk_alloc ?_ _));exact BK116.out) hb)
                 have n5_:=Aside0.mk (below_step (by repeat (first|(with_reducible first|exact HB.out|apply below_alloc|apply pw_below_drewN|apply below_drew1|refine below_set ?_ GE101.out|refine below_set ?_ GE102.out|refine below_set ?_ GE103.out|refine below_set ?_ GE116.out)|exact HB.out)) hb)
                 clear HO107
                 clear BK101
                 clear BK102
                 clear BK103
                 clear BK116
                 clear HB
                 have HO107:=n0_
                 have BK101:=n1_
                 have BK102:=n2_
                 have BK103:=n3_
                 have BK116:=n4_
                 have HB:=n5_
                 clear n0_ n1_ n2_ n3_ n4_ n5_
                 (try clear hb)
                 (try clear hb2)
                 (try clear hk)
                 (try clear hi)
                 refine hK.out _ _ ⟨(blk_cell BK101.out 0).trans rfl,(blk_cell BK102.out 0).trans rfl,(blk_cell BK102.out 1).trans rfl,(blk_cell BK102.out 2).trans rfl,(blk_cell BK103.out 0).trans rfl,(blk_cell BK103.out 1).trans rfl⟩ (fun hHeld => ?_)
                 clear hK K
                 refine norm_ (a':=?_) ?_ ?_
                 rotate_left
                 · show Act.put _ (some 21) _ = _
                   simp only [Act.put,List.setIfInBounds_toArray,List.set_cons_zero,List.set_cons_succ,i64_w,i32_w]
                   rfl
                 exact norm_ (by first|(simp only [putAll,Act.put,List.setIfInBounds_toArray,List.set_cons_zero,List.set_cons_succ];done)|(simp only [putAll,Act.put,List.setIfInBounds_toArray,List.set_cons_zero,List.set_cons_succ];rfl)) (hJ1_3_8 (v106,gb116) _ ⟨hHeld,(by (with_reducible repeat (first|apply Kd.R_alloc|apply Kd.R_drewN|apply Kd.R_drew));exact HO107.out),(by (with_reducible repeat (first|refine blk_drewN ?_ _|refine blk_drew ?_|refine blk_alloc ?_ _));exact BK101.out),(by (with_reducible repeat (first|refine blk_drewN ?_ _|refine blk_drew ?_|refine blk_alloc ?_ _));exact BK102.out),(by (with_reducible repeat (first|refine blk_drewN ?_ _|refine blk_drew ?_|refine blk_alloc ?_ _));exact BK103.out),(by (with_reducible repeat (first|refine blk_drewN ?_ _|refine blk_drew ?_|refine blk_alloc ?_ _));exact BK116.out),GW116.out,GE116.out,NB101_116.out,NB116_101.out,NB102_116.out,NB116_102.out,NB103_116.out,NB116_103.out,(by repeat (first|(with_reducible first|exact HB.out|apply below_alloc|apply pw_below_drewN|apply below_drew1|refine below_set ?_ GE101.out|refine below_set ?_ GE102.out|refine below_set ?_ GE103.out|refine below_set ?_ GE116.out)|exact HB.out))⟩)
             · skip
               rintro v106 w28 ⟨hS_,h0_,h1_,h2_,h3_,h4_⟩
               have n0_ : Aside0 (Kd.R (Kd.int .u8) 5 w28 w.heap.size (fun _ => True) v106 t105):=⟨h0_⟩
               have n1_ : Aside0 (w28.heap[gb101]? = some (.cells #[.slice A0_0 l0_0.length c0_0] 56 (0,0))):=⟨h1_⟩
               have n2_ : Aside0 (w28.heap[gb102]? = some (.cells #[.int .i64 a1_0,.bool a1_1,.int .i64 a1_2] 23 (0,0))):=⟨h2_⟩
               have n3_ : Aside0 (w28.heap[gb103]? = some (.cells #[.int .i64 a2_0,.int .i64 a2_1] 58 (0,0))):=⟨h3_⟩
               have n4_ : Aside0 (Below w.heap.size w w28):=⟨h4_⟩
               clear BK101
               clear BK102
               clear BK103
               clear HB
               clear h0_ h1_ h2_ h3_ h4_
               have HO107:=n0_
               have BK101:=n1_
               have BK102:=n2_
               have BK103:=n3_
               have HB:=n4_
               clear n0_ n1_ n2_ n3_ n4_
               have hHeld : w28.cell? ⟨gb101,0,none⟩ = some (.slice A0_0 l0_0.length c0_0) ∧ w28.cell? ⟨gb102,0,none⟩ = some (.int .i64 a1_0) ∧ w28.cell? ⟨gb102,1,none⟩ = some (.bool a1_1) ∧ w28.cell? ⟨gb102,2,none⟩ = some (.int .i64 a1_2) ∧ w28.cell? ⟨gb103,0,none⟩ = some (.int .i64 a2_0) ∧ w28.cell? ⟨gb103,1,none⟩ = some (.int .i64 a2_1):=hS_
               refine norm_ (a':=?_) ?_ ?_
               rotate_left
               · simp only [putAll,Act.put,List.setIfInBounds_toArray,List.set_cons_zero,List.set_cons_succ]
                 rfl
               refine two_ (i:=5) (j:=8) (Ni:=some 23) (Nj:=some 10) #[true,true,true,true,true,true,true,false,false,false] #[true,true,true,true,true,false,true,false,true,false] rfl rfl rfl rfl (two_of HT_.out (by kernel_rfl)) (by decide) (by decide) (fun K hK => ?_) (fun K hK => ?_)
               · skip
                 refine goes_ Try.func41 (by kernel_rfl) rfl #[.agg #[.int .i64 a2_0,.int .i64 a2_1]] (by rfl) rfl rfl (by (try simp only [List.map_toArray,List.map_cons,List.map_nil]);first|done|rfl|(simp only [List.length_drop,List.length_take];rfl)) ?_
                 with_reducible refine (laws_toSpot.calls a2_0 a2_1 t111 t112 _ A17.out).mono ?_
                 rintro e w29 ⟨rfl,hb⟩
                 refine ⟨_,rfl,?_⟩
                 have n0_:=Aside0.mk (Kd.R_below (by (with_reducible repeat (first|apply Kd.R_alloc|apply Kd.R_drewN|apply Kd.R_drew));exact HO107.out) hb)
                 have n1_:=Aside0.mk (blk_below (g:=gb101) (o:=.cells #[.slice A0_0 l0_0.length c0_0] 56 (0,0)) (by (with_reducible repeat (first|refine blk_drewN ?_ _|refine blk_drew ?_|refine blk_alloc ?_ _));exact BK101.out) hb)
                 have n2_:=Aside0.mk (blk_below (g:=gb102) (o:=.cells #[.int .i64 a1_0,.bool a1_1,.int .i64 a1_2] 23 (0,0)) (by (with_reducible repeat (first|refine blk_drewN ?_ _|refine blk_drew ?_|refine blk_alloc ?_ _));exact BK102.out) hb)
                 have n3_:=Aside0.mk (blk_below (g:=gb103) (o:=.cells #[.int .i64 a2_0,.int .i64 a2_1] 58 (0,0)) (by (with_reducible repeat (first|refine blk_drewN ?_ _|refine blk_drew ?_|refine blk_alloc ?_ _));exact BK103.out) hb)
                 have n4_:=Aside0.mk (below_step (by repeat (first|(with_reducible first|exact HB.out|apply below_alloc|apply pw_below_drewN|apply below_drew1|refine below_set ?_ GE101.out|refine below_set ?_ GE102.out|refine below_set ?_ GE103.out)|exact HB.out)) hb)
                 clear HO107
                 clear BK101
                 clear BK102
                 clear BK103
                 clear HB
                 have HO107:=n0_
                 have BK101:=n1_
                 have BK102:=n2_
                 have BK103:=n3_
                 have HB:=n4_
                 clear n0_ n1_ n2_ n3_ n4_
                 (try clear hb)
                 (try clear hb2)
                 (try clear hk)
                 (try clear hi)
                 refine hK.out _ _ ⟨(blk_cell BK101.out 0).trans rfl,(blk_cell BK102.out 0).trans rfl,(blk_cell BK102.out 1).trans rfl,(blk_cell BK102.out 2).trans rfl,(blk_cell BK103.out 0).trans rfl,(blk_cell BK103.out 1).trans rfl⟩ (fun hHeld => ?_)
                 clear hK K
                 refine norm_ (a':=?_) ?_ ?_
                 rotate_left
                 · show Act.put _ (some 23) _ = _
                   simp only [Act.put,List.setIfInBounds_toArray,List.set_cons_zero,List.set_cons_succ,i64_w,i32_w]
                   rfl
                 exact norm_ (by first|(simp only [putAll,Act.put,List.setIfInBounds_toArray,List.set_cons_zero,List.set_cons_succ];done)|(simp only [putAll,Act.put,List.setIfInBounds_toArray,List.set_cons_zero,List.set_cons_succ];rfl)) (hJ1_3_5 (v106) _ ⟨hHeld,(by (with_reducible repeat (first|apply Kd.R_alloc|apply Kd.R_drewN|apply Kd.R_drew));exact HO107.out),(by (with_reducible repeat (first|refine blk_drewN ?_ _|refine blk_drew ?_|refine blk_alloc ?_ _));exact BK101.out),(by (with_reducible repeat (first|refine blk_drewN ?_ _|refine blk_drew ?_|refine blk_alloc ?_ _));exact BK102.out),(by (with_reducible repeat (first|refine blk_drewN ?_ _|refine blk_drew ?_|refine blk_alloc ?_ _));exact BK103.out),(by repeat (first|(with_reducible first|exact HB.out|apply below_alloc|apply pw_below_drewN|apply below_drew1|refine below_set ?_ GE101.out|refine below_set ?_ GE102.out|refine below_set ?_ GE103.out)|exact HB.out))⟩)
               · skip
                 refine box_step ?hg (N:=10) ?hd (cs:=#[.int .i64 0,.int .i64 0,.int .i64 0]) (t:=69) ?hr ?_;(case hd => rfl);(case hg => rfl);(case hr => first|(go_simp;done)|(go_simp;rfl))
                 intro gb116 hg w29 hbox hb
                 have n0_:=Aside0.mk (Kd.R_below (by (with_reducible repeat (first|apply Kd.R_alloc|apply Kd.R_drewN|apply Kd.R_drew));exact HO107.out) hb)
                 have n1_:=Aside0.mk (blk_below (g:=gb101) (o:=.cells #[.slice A0_0 l0_0.length c0_0] 56 (0,0)) (by (with_reducible repeat (first|refine blk_drewN ?_ _|refine blk_drew ?_|refine blk_alloc ?_ _));exact BK101.out) hb)
                 have n2_:=Aside0.mk (blk_below (g:=gb102) (o:=.cells #[.int .i64 a1_0,.bool a1_1,.int .i64 a1_2] 23 (0,0)) (by (with_reducible repeat (first|refine blk_drewN ?_ _|refine blk_drew ?_|refine blk_alloc ?_ _));exact BK102.out) hb)
                 have n3_:=Aside0.mk (blk_below (g:=gb103) (o:=.cells #[.int .i64 a2_0,.int .i64 a2_1] 58 (0,0)) (by (with_reducible repeat (first|refine blk_drewN ?_ _|refine blk_drew ?_|refine blk_alloc ?_ _));exact BK103.out) hb)
                 have n4_:=Aside0.mk (below_step (by repeat (first|(with_reducible first|exact HB.out|apply below_alloc|apply pw_below_drewN|apply below_drew1|refine below_set ?_ GE101.out|refine below_set ?_ GE102.out|refine below_set ?_ GE103.out)|exact HB.out)) hb)
                 have n5_:=Aside0.mk (hbox)
                 have n6_:=Aside0.mk ((by rw [hg];exact (below_size (by repeat (first|(with_reducible first|exact HB.out|apply below_alloc|apply pw_below_drewN|apply below_drew1|refine below_set ?_ GE101.out|refine below_set ?_ GE102.out|refine below_set ?_ GE103.out)|exact HB.out))) : w.heap.size ≤ gb116))
                 have n7_:=Aside0.mk ((by rw [hg];exact (below_size (by repeat (first|(with_reducible first|exact HB.out|apply below_alloc|apply pw_below_drewN|apply below_drew1|refine below_set ?_ GE101.out|refine below_set ?_ GE102.out|refine below_set ?_ GE103.out)|exact HB.out))) : w.heap.size ≤ gb116))
                 have n8_:=Aside0.mk ((by rw [hg];exact Nat.ne_of_lt (blk_lt (g:=gb101) (o:=.cells #[.slice A0_0 l0_0.length c0_0] 56 (0,0)) (by (with_reducible repeat (first|refine blk_drewN ?_ _|refine blk_drew ?_|refine blk_alloc ?_ _));exact BK101.out)) : gb101 ≠ gb116))
                 have n9_:=Aside0.mk ((by rw [hg];exact Nat.ne_of_gt (blk_lt (g:=gb101) (o:=.cells #[.slice A0_0 l0_0.length c0_0] 56 (0,0)) (by (with_reducible repeat (first|refine blk_drewN ?_ _|refine blk_drew ?_|refine blk_alloc ?_ _));exact BK101.out)) : gb116 ≠ gb101))
                 have n10_:=Aside0.mk ((by rw [hg];exact Nat.ne_of_lt (blk_lt (g:=gb102) (o:=.cells #[.int .i64 a1_0,.bool a1_1,.int .i64 a1_2] 23 (0,0)) (by (with_reducible repeat (first|refine blk_drewN ?_ _|refine blk_drew ?_|refine blk_alloc ?_ _));exact BK102.out)) : gb102 ≠ gb116))
                 have n11_:=Aside0.mk ((by rw [hg];exact Nat.ne_of_gt (blk_lt (g:=gb102) (o:=.cells #[.int .i64 a1_0,.bool a1_1,.int .i64 a1_2] 23 (0,0)) (by (with_reducible repeat (first|refine blk_drewN ?_ _|refine blk_drew ?_|refine blk_alloc ?_ _));exact BK102.out)) : gb116 ≠ gb102))
                 have n12_:=Aside0.mk ((by rw [hg];exact Nat.ne_of_lt (blk_lt (g:=gb103) (o:=.cells #[.int .i64 a2_0,.int .i64 a2_1] 58 (0,0)) (by (with_reducible repeat (first|refine blk_drewN ?_ _|refine blk_drew ?_|refine blk_alloc ?_ _));exact BK103.out)) : gb103 ≠ gb116))
                 have n13_:=Aside0.mk ((by rw [hg];exact Nat.ne_of_gt (blk_lt (g:=gb103) (o:=.cells #[.int .i64 a2_0,.int .i64 a2_1] 58 (0,0)) (by (with_reducible repeat (first|refine blk_drewN ?_ _|refine blk_drew ?_|refine blk_alloc ?_ _));exact BK103.out)) : gb116 ≠ gb103))
                 clear HO107
                 clear BK101
                 clear BK102
                 clear BK103
                 clear HB
                 have HO107:=n0_
                 have BK101:=n1_
                 have BK102:=n2_
                 have BK103:=n3_
                 have HB:=n4_
                 have BK116:=n5_
                 have GW116:=n6_
                 have GE116:=n7_
                 have NB101_116:=n8_
                 have NB116_101:=n9_
                 have NB102_116:=n10_
                 have NB116_102:=n11_
                 have NB103_116:=n12_
                 have NB116_103:=n13_
                 clear n0_ n1_ n2_ n3_ n4_ n5_ n6_ n7_ n8_ n9_ n10_ n11_ n12_ n13_
                 clear hb hbox hg
                 refine hK.out _ _ ⟨(blk_cell BK101.out 0).trans rfl,(blk_cell BK102.out 0).trans rfl,(blk_cell BK102.out 1).trans rfl,(blk_cell BK102.out 2).trans rfl,(blk_cell BK103.out 0).trans rfl,(blk_cell BK103.out 1).trans rfl⟩ (fun hHeld => ?_)
                 clear hK K
                 refine norm_ (a':=?_) ?_ ?_
                 rotate_left
                 · show Act.put _ (some 10) _ = _
                   simp only [Act.put,List.setIfInBounds_toArray,List.set_cons_zero,List.set_cons_succ,i64_w,i32_w]
                   rfl
                 exact norm_ (by first|(simp only [putAll,Act.put,List.setIfInBounds_toArray,List.set_cons_zero,List.set_cons_succ];done)|(simp only [putAll,Act.put,List.setIfInBounds_toArray,List.set_cons_zero,List.set_cons_succ];rfl)) (hJ1_3_8 (v106,gb116) _ ⟨hHeld,(by (with_reducible repeat (first|apply Kd.R_alloc|apply Kd.R_drewN|apply Kd.R_drew));exact HO107.out),(by (with_reducible repeat (first|refine blk_drewN ?_ _|refine blk_drew ?_|refine blk_alloc ?_ _));exact BK101.out),(by (with_reducible repeat (first|refine blk_drewN ?_ _|refine blk_drew ?_|refine blk_alloc ?_ _));exact BK102.out),(by (with_reducible repeat (first|refine blk_drewN ?_ _|refine blk_drew ?_|refine blk_alloc ?_ _));exact BK103.out),(by (with_reducible repeat (first|refine blk_drewN ?_ _|refine blk_drew ?_|refine blk_alloc ?_ _));exact BK116.out),GW116.out,GE116.out,NB101_116.out,NB116_101.out,NB102_116.out,NB116_102.out,NB103_116.out,NB116_103.out,(by repeat (first|(with_reducible first|exact HB.out|apply below_alloc|apply pw_below_drewN|apply below_drew1|refine below_set ?_ GE101.out|refine below_set ?_ GE102.out|refine below_set ?_ GE103.out|refine below_set ?_ GE116.out)|exact HB.out))⟩)
           · skip
             rintro ⟨v106,gb116⟩ w29 ⟨hS_,h0_,h1_,h2_,h3_,h4_,h5_,h6_,h7_,h8_,h9_,h10_,h11_,h12_,h13_⟩
             have n0_ : Aside0 (Kd.R (Kd.int .u8) 5 w29 w.heap.size (fun _ => True) v106 t105):=⟨h0_⟩
             have n1_ : Aside0 (w29.heap[gb101]? = some (.cells #[.slice A0_0 l0_0.length c0_0] 56 (0,0))):=⟨h1_⟩
             have n2_ : Aside0 (w29.heap[gb102]? = some (.cells #[.int .i64 a1_0,.bool a1_1,.int .i64 a1_2] 23 (0,0))):=⟨h2_⟩
             have n3_ : Aside0 (w29.heap[gb103]? = some (.cells #[.int .i64 a2_0,.int .i64 a2_1] 58 (0,0))):=⟨h3_⟩
             have n4_ : Aside0 (w29.heap[gb116]? = some (.cells #[.int .i64 0,.int .i64 0,.int .i64 0] 69 (0,0))):=⟨h4_⟩
             have n5_ : Aside0 (w.heap.size ≤ gb116):=⟨h5_⟩
             have n6_ : Aside0 (w.heap.size ≤ gb116):=⟨h6_⟩
             have n7_ : Aside0 (gb101 ≠ gb116):=⟨h7_⟩
             have n8_ : Aside0 (gb116 ≠ gb101):=⟨h8_⟩
             have n9_ : Aside0 (gb102 ≠ gb116):=⟨h9_⟩
             have n10_ : Aside0 (gb116 ≠ gb102):=⟨h10_⟩
             have n11_ : Aside0 (gb103 ≠ gb116):=⟨h11_⟩
             have n12_ : Aside0 (gb116 ≠ gb103):=⟨h12_⟩
             have n13_ : Aside0 (Below w.heap.size w w29):=⟨h13_⟩
             clear BK101
             clear BK102
             clear BK103
             clear HB
             clear h0_ h1_ h2_ h3_ h4_ h5_ h6_ h7_ h8_ h9_ h10_ h11_ h12_ h13_
             have HO107:=n0_
             have BK101:=n1_
             have BK102:=n2_
             have BK103:=n3_
             have BK116:=n4_
             have GW116:=n5_
             have GE116:=n6_
             have NB101_116:=n7_
             have NB116_101:=n8_
             have NB102_116:=n9_
             have NB116_102:=n10_
             have NB103_116:=n11_
             have NB116_103:=n12_
             have HB:=n13_
             clear n0_ n1_ n2_ n3_ n4_ n5_ n6_ n7_ n8_ n9_ n10_ n11_ n12_ n13_
             have hHeld : w29.cell? ⟨gb101,0,none⟩ = some (.slice A0_0 l0_0.length c0_0) ∧ w29.cell? ⟨gb102,0,none⟩ = some (.int .i64 a1_0) ∧ w29.cell? ⟨gb102,1,none⟩ = some (.bool a1_1) ∧ w29.cell? ⟨gb102,2,none⟩ = some (.int .i64 a1_2) ∧ w29.cell? ⟨gb103,0,none⟩ = some (.int .i64 a2_0) ∧ w29.cell? ⟨gb103,1,none⟩ = some (.int .i64 a2_1):=hS_
             refine norm_ (a':=?_) ?_ ?_
             rotate_left
             · simp only [putAll,Act.put,List.setIfInBounds_toArray,List.set_cons_zero,List.set_cons_succ]
               rfl
             refine one_ (i:=5) (N:=some 23) #[true,true,true,true,true,true,true,false,true,false] rfl rfl (one_of HT_.out (by kernel_rfl)) (by decide) (fun K hK => ?_)
             refine goes_ Try.func41 (by kernel_rfl) rfl #[.agg #[.int .i64 a2_0,.int .i64 a2_1]] (by rfl) rfl rfl (by (try simp only [List.map_toArray,List.map_cons,List.map_nil]);first|done|rfl|(simp only [List.length_drop,List.length_take];rfl)) ?_
             with_reducible refine (laws_toSpot.calls a2_0 a2_1 t111 t112 _ A17.out).mono ?_
             rintro e w30 ⟨rfl,hb⟩
             refine ⟨_,rfl,?_⟩
             have n0_:=Aside0.mk (Kd.R_below (by (with_reducible repeat (first|apply Kd.R_alloc|apply Kd.R_drewN|apply Kd.R_drew));exact HO107.out) hb)
             have n1_:=Aside0.mk (blk_below (g:=gb101) (o:=.cells #[.slice A0_0 l0_0.length c0_0] 56 (0,0)) (by (with_reducible repeat (first|refine blk_drewN ?_ _|refine blk_drew ?_|refine blk_alloc ?_ _));exact BK101.out) hb)
             have n2_:=Aside0.mk (blk_below (g:=gb102) (o:=.cells #[.int .i64 a1_0,.bool a1_1,.int .i64 a1_2] 23 (0,0)) (by (with_reducible repeat (first|refine blk_drewN ?_ _|refine blk_drew ?_|refine blk_alloc ?_ _));exact BK102.out) hb)
             have n3_:=Aside0.mk (blk_below (g:=gb103) (o:=.cells #[.int .i64 a2_0,.int .i64 a2_1] 58 (0,0)) (by (with_reducible repeat (first|refine blk_drewN ?_ _|refine blk_drew ?_|refine blk_alloc ?_ _));exact BK103.out) hb)
             have n4_:=Aside0.mk (blk_below (g:=gb116) (o:=.cells #[.int .i64 0,.int .i64 0,.int .i64 0] 69 (0,0)) (by (with_reducible repeat (first|refine blk_drewN ?_ _|refine blk_drew ?_|refine blk_alloc ?_ _));exact BK116.out) hb)
             have n5_:=Aside0.mk (below_step (by repeat (first|(with_reducible first|exact HB.out|apply below_alloc|apply pw_below_drewN|apply below_drew1|refine below_set ?_ GE101.out|refine below_set ?_ GE102.out|refine below_set ?_ GE103.out|refine below_set ?_ GE116.out)|exact HB.out)) hb)
             clear HO107
             clear BK101
             clear BK102
             clear BK103
             clear BK116
             clear HB
             have HO107:=n0_
             have BK101:=n1_
             have BK102:=n2_
             have BK103:=n3_
             have BK116:=n4_
             have HB:=n5_
             clear n0_ n1_ n2_ n3_ n4_ n5_
             (try clear hb)
             (try clear hb2)
             (try clear hk)
             (try clear hi)
             refine hK.out _ _ ⟨(blk_cell BK101.out 0).trans rfl,(blk_cell BK102.out 0).trans rfl,(blk_cell BK102.out 1).trans rfl,(blk_cell BK102.out 2).trans rfl,(blk_cell BK103.out 0).trans rfl,(blk_cell BK103.out 1).trans rfl⟩ (fun hHeld => ?_)
             clear hK K
             refine norm_ (a':=?_) ?_ ?_
             rotate_left
             · show Act.put _ (some 23) _ = _
               simp only [Act.put,List.setIfInBounds_toArray,List.set_cons_zero,List.set_cons_succ,i64_w,i32_w]
               rfl
             exact norm_ (by first|(simp only [putAll,Act.put,List.setIfInBounds_toArray,List.set_cons_zero,List.set_cons_succ];done)|(simp only [putAll,Act.put,List.setIfInBounds_toArray,List.set_cons_zero,List.set_cons_succ];rfl)) (hJ1_3_5_8 (v106,gb116) _ ⟨hHeld,(by (with_reducible repeat (first|apply Kd.R_alloc|apply Kd.R_drewN|apply Kd.R_drew));exact HO107.out),(by (with_reducible repeat (first|refine blk_drewN ?_ _|refine blk_drew ?_|refine blk_alloc ?_ _));exact BK101.out),(by (with_reducible repeat (first|refine blk_drewN ?_ _|refine blk_drew ?_|refine blk_alloc ?_ _));exact BK102.out),(by (with_reducible repeat (first|refine blk_drewN ?_ _|refine blk_drew ?_|refine blk_alloc ?_ _));exact BK103.out),(by (with_reducible repeat (first|refine blk_drewN ?_ _|refine blk_drew ?_|refine blk_alloc ?_ _));exact BK116.out),GW116.out,GE116.out,NB101_116.out,NB116_101.out,NB102_116.out,NB116_102.out,NB103_116.out,NB116_103.out,(by repeat (first|(with_reducible first|exact HB.out|apply below_alloc|apply pw_below_drewN|apply below_drew1|refine below_set ?_ GE101.out|refine below_set ?_ GE102.out|refine below_set ?_ GE103.out|refine below_set ?_ GE116.out)|exact HB.out))⟩)
         · skip
           rintro v106 w29 ⟨hS_,h0_,h1_,h2_,h3_,h4_⟩
           have n0_ : Aside0 (Kd.R (Kd.int .u8) 5 w29 w.heap.size (fun _ => True) v106 t105):=⟨h0_⟩
           have n1_ : Aside0 (w29.heap[gb101]? = some (.cells #[.slice A0_0 l0_0.length c0_0] 56 (0,0))):=⟨h1_⟩
           have n2_ : Aside0 (w29.heap[gb102]? = some (.cells #[.int .i64 a1_0,.bool a1_1,.int .i64 a1_2] 23 (0,0))):=⟨h2_⟩
           have n3_ : Aside0 (w29.heap[gb103]? = some (.cells #[.int .i64 a2_0,.int .i64 a2_1] 58 (0,0))):=⟨h3_⟩
           have n4_ : Aside0 (Below w.heap.size w w29):=⟨h4_⟩
           clear BK101
           clear BK102
           clear BK103
           clear HB
           clear h0_ h1_ h2_ h3_ h4_
           have HO107:=n0_
           have BK101:=n1_
           have BK102:=n2_
           have BK103:=n3_
           have HB:=n4_
           clear n0_ n1_ n2_ n3_ n4_
           have hHeld : w29.cell? ⟨gb101,0,none⟩ = some (.slice A0_0 l0_0.length c0_0) ∧ w29.cell? ⟨gb102,0,none⟩ = some (.int .i64 a1_0) ∧ w29.cell? ⟨gb102,1,none⟩ = some (.bool a1_1) ∧ w29.cell? ⟨gb102,2,none⟩ = some (.int .i64 a1_2) ∧ w29.cell? ⟨gb103,0,none⟩ = some (.int .i64 a2_0) ∧ w29.cell? ⟨gb103,1,none⟩ = some (.int .i64 a2_1):=hS_
           obtain ⟨Ao30,co30,eo30⟩:=Kd.R_slice HO107.out
           (first|subst eo30|(injection eo30 with f1_ f2_ f3_;have f4_:=f1_.symm;have f5_:=f3_.symm;clear f1_ f2_ f3_;subst f4_;subst f5_))
           refine norm_ (a':=?_) ?_ ?_
           rotate_left
           · simp only [putAll,Act.put,List.setIfInBounds_toArray,List.set_cons_zero,List.set_cons_succ]
             rfl
           refine two_ (i:=7) (j:=8) (Ni:=some 25) (Nj:=some 10) #[true,true,true,true,true,true,true,true,false,false] #[true,true,true,true,true,true,true,false,true,false] rfl rfl rfl rfl (two_of HT_.out (by kernel_rfl)) (by decide) (by decide) (fun K hK => ?_) (fun K hK => ?_)
           · skip
             refine goes_ Try.func48 (by kernel_rfl) rfl #[.agg #[.slice Ao30 t105.length co30],.agg #[.int .i64 t108,.bool t109,.int .i64 t110],.agg #[.int .i64 t111,.int .i64 t112],.int .i64 a3] (by rfl) rfl rfl (by (try simp only [List.map_toArray,List.map_cons,List.map_nil]);first|done|rfl|(simp only [List.length_drop,List.length_take];rfl)) ?_
             with_reducible refine (spec_MoveSpot.calls k _ _ t105 t108 t109 t110 t111 t112 a3 t113 t114 t115 _ ?side1 ?side2 A18.out).mono ?_
             (case side1 => repeat (first|exact (Kd.R_reads' HO107.out).2.2|(with_reducible refine Kd.C_alloc ?_ _)|(with_reducible refine Kd.C_drewN ?_ _)|(with_reducible refine Kd.C_drew ?_)))
             (case side2 => exact (Kd.R_reads' HO107.out).2.1)
             rintro e w31 ⟨rfl,hb⟩
             refine ⟨_,rfl,?_⟩
             have n0_:=Aside0.mk (Kd.R_below (by (with_reducible repeat (first|apply Kd.R_alloc|apply Kd.R_drewN|apply Kd.R_drew));exact HO107.out) hb)
             have n1_:=Aside0.mk (blk_below (g:=gb101) (o:=.cells #[.slice A0_0 l0_0.length c0_0] 56 (0,0)) (by (with_reducible repeat (first|refine blk_drewN ?_ _|refine blk_drew ?_|refine blk_alloc ?_ _));exact BK101.out) hb)
             have n2_:=Aside0.mk (blk_below (g:=gb102) (o:=.cells #[.int .i64 a1_0,.bool a1_1,.int .i64 a1_2] 23 (0,0)) (by (with_reducible repeat (first|refine blk_drewN ?_ _|refine blk_drew ?_|refine blk_alloc ?_ _));exact BK102.out) hb)
             have n3_:=Aside0.mk (blk_below (g:=gb103) (o:=.cells #[.int .i64 a2_0,.int .i64 a2_1] 58 (0,0)) (by (with_reducible repeat (first|refine blk_drewN ?_ _|refine blk_drew ?_|refine blk_alloc ?_ _));exact BK103.out) hb)
             have n4_:=Aside0.mk (below_step (by repeat (first|(with_reducible first|exact HB.out|apply below_alloc|apply pw_below_drewN|apply below_drew1|refine below_set ?_ GE101.out|refine below_set ?_ GE102.out|refine below_set ?_ GE103.out)|exact HB.out)) hb)
             clear HO107
             clear BK101
             clear BK102
             clear BK103
             clear HB
             have HO107:=n0_
             have BK101:=n1_
             have BK102:=n2_
             have BK103:=n3_
             have HB:=n4_
             clear n0_ n1_ n2_ n3_ n4_
             (try clear hb)
             (try clear hb2)
             (try clear hk)
             (try clear hi)
             refine hK.out _ _ ⟨(blk_cell BK101.out 0).trans rfl,(blk_cell BK102.out 0).trans rfl,(blk_cell BK102.out 1).trans rfl,(blk_cell BK102.out 2).trans rfl,(blk_cell BK103.out 0).trans rfl,(blk_cell BK103.out 1).trans rfl⟩ (fun hHeld => ?_)
             clear hK K
             refine norm_ (a':=?_) ?_ ?_
             rotate_left
             · show Act.put _ (some 25) _ = _
               simp only [Act.put,List.setIfInBounds_toArray,List.set_cons_zero,List.set_cons_succ,i64_w,i32_w]
               rfl
             exact norm_ (by first|(simp only [putAll,Act.put,List.setIfInBounds_toArray,List.set_cons_zero,List.set_cons_succ];done)|(simp only [putAll,Act.put,List.setIfInBounds_toArray,List.set_cons_zero,List.set_cons_succ];rfl)) (hJ1_3_5_7 (.slice Ao30 t105.length co30) _ ⟨hHeld,(by (with_reducible repeat (first|apply Kd.R_alloc|apply Kd.R_drewN|apply Kd.R_drew));exact HO107.out),(by (with_reducible repeat (first|refine blk_drewN ?_ _|refine blk_drew ?_|refine blk_alloc ?_ _));exact BK101.out),(by (with_reducible repeat (first|refine blk_drewN ?_ _|refine blk_drew ?_|refine blk_alloc ?_ _));exact BK102.out),(by (with_reducible repeat (first|refine blk_drewN ?_ _|refine blk_drew ?_|refine blk_alloc ?_ _));exact BK103.out),(by repeat (first|(with_reducible first|exact HB.out|apply below_alloc|apply pw_below_drewN|apply below_drew1|refine below_set ?_ GE101.out|refine below_set ?_ GE102.out|refine below_set ?_ GE103.out)|exact HB.out))⟩)
           · skip
             refine box_step ?hg (N:=10) ?hd (cs:=#[.int .i64 0,.int .i64 0,.int .i64 0]) (t:=69) ?hr ?_;(case hd => rfl);(case hg => rfl);(case hr => first|(go_simp;done)|(go_simp;rfl))
             intro gb116 hg w30 hbox hb
             have n0_:=Aside0.mk (Kd.R_below (by (with_reducible repeat (first|apply Kd.R_alloc|apply Kd.R_drewN|apply Kd.R_drew));exact HO107.out) hb)
             have n1_:=Aside0.mk (blk_below (g:=gb101) (o:=.cells #[.slice A0_0 l0_0.length c0_0] 56 (0,0)) (by (with_reducible repeat (first|refine blk_drewN ?_ _|refine blk_drew ?_|refine blk_alloc ?_ _));exact BK101.out) hb)
             have n2_:=Aside0.mk (blk_below (g:=gb102) (o:=.cells #[.int .i64 a1_0,.bool a1_1,.int .i64 a1_2] 23 (0,0)) (by (with_reducible repeat (first|refine blk_drewN ?_ _|refine blk_drew ?_|refine blk_alloc ?_ _));exact BK102.out) hb)
             have n3_:=Aside0.mk (blk_below (g:=gb103) (o:=.cells #[.int .i64 a2_0,.int .i64 a2_1] 58 (0,0)) (by (with_reducible repeat (first|refine blk_drewN ?_ _|refine blk_drew ?_|refine blk_alloc ?_ _));exact BK103.out) hb)
             have n4_:=Aside0.mk (below_step (by repeat (first|(with_reducible first|exact HB.out|apply below_alloc|apply pw_below_drewN|apply below_drew1|refine below_set ?_ GE101.out|refine below_set ?_ GE102.out|refine below_set ?_ GE103.out)|exact HB.out)) hb)
             have n5_:=Aside0.mk (hbox)
             have n6_:=Aside0.mk ((by rw [hg];exact (below_size (by repeat (first|(with_reducible first|exact HB.out|apply below_alloc|apply pw_below_drewN|apply below_drew1|refine below_set ?_ GE101.out|refine below_set ?_ GE102.out|refine below_set ?_ GE103.out)|exact HB.out))) : w.heap.size ≤ gb116))
             have n7_:=Aside0.mk ((by rw [hg];exact (below_size (by repeat (first|(with_reducible first|exact HB.out|apply below_alloc|apply pw_below_drewN|apply below_drew1|refine below_set ?_ GE101.out|refine below_set ?_ GE102.out|refine below_set ?_ GE103.out)|exact HB.out))) : w.heap.size ≤ gb116))
             have n8_:=Aside0.mk ((by rw [hg];exact Nat.ne_of_lt (blk_lt (g:=gb101) (o:=.cells #[.slice A0_0 l0_0.length c0_0] 56 (0,0)) (by (with_reducible repeat (first|refine blk_drewN ?_ _|refine blk_drew ?_|refine blk_alloc ?_ _));exact BK101.out)) : gb101 ≠ gb116))
             have n9_:=Aside0.mk ((by rw [hg];exact Nat.ne_of_gt (blk_lt (g:=gb101) (o:=.cells #[.slice A0_0 l0_0.length c0_0] 56 (0,0)) (by (with_reducible repeat (first|refine blk_drewN ?_ _|refine blk_drew ?_|refine blk_alloc ?_ _));exact BK101.out)) : gb116 ≠ gb101))
             have n10_:=Aside0.mk ((by rw [hg];exact Nat.ne_of_lt (blk_lt (g:=gb102) (o:=.cells #[.int .i64 a1_0,.bool a1_1,.int .i64 a1_2] 23 (0,0)) (by (with_reducible repeat (first|refine blk_drewN ?_ _|refine blk_drew ?_|refine blk_alloc ?_ _));exact BK102.out)) : gb102 ≠ gb116))
             have n11_:=Aside0.mk ((by rw [hg];exact Nat.ne_of_gt (blk_lt (g:=gb102) (o:=.cells #[.int .i64 a1_0,.bool a1_1,.int .i64 a1_2] 23 (0,0)) (by (with_reducible repeat (first|refine blk_drewN ?_ _|refine blk_drew ?_|refine blk_alloc ?_ _));exact BK102.out)) : gb116 ≠ gb102))
             have n12_:=Aside0.mk ((by rw [hg];exact Nat.ne_of_lt (blk_lt (g:=gb103) (o:=.cells #[.int .i64 a2_0,.int .i64 a2_1] 58 (0,0)) (by (with_reducible repeat (first|refine blk_drewN ?_ _|refine blk_drew ?_|refine blk_alloc ?_ _));exact BK103.out)) : gb103 ≠ gb116))
             have n13_:=Aside0.mk ((by rw [hg];exact Nat.ne_of_gt (blk_lt (g:=gb103) (o:=.cells #[.int .i64 a2_0,.int .i64 a2_1] 58 (0,0)) (by (with_reducible repeat (first|refine blk_drewN ?_ _|refine blk_drew ?_|refine blk_alloc ?_ _));exact BK103.out)) : gb116 ≠ gb103))
             clear HO107
             clear BK101
             clear BK102
             clear BK103
             clear HB
             have HO107:=n0_
             have BK101:=n1_
             have BK102:=n2_
             have BK103:=n3_
             have HB:=n4_
             have BK116:=n5_
             have GW116:=n6_
             have GE116:=n7_
             have NB101_116:=n8_
             have NB116_101:=n9_
             have NB102_116:=n10_
             have NB116_102:=n11_
             have NB103_116:=n12_
             have NB116_103:=n13_
             clear n0_ n1_ n2_ n3_ n4_ n5_ n6_ n7_ n8_ n9_ n10_ n11_ n12_ n13_
             clear hb hbox hg
             refine hK.out _ _ ⟨(blk_cell BK101.out 0).trans rfl,(blk_cell BK102.out 0).trans rfl,(blk_cell BK102.out 1).trans rfl,(blk_cell BK102.out 2).trans rfl,(blk_cell BK103.out 0).trans rfl,(blk_cell BK103.out 1).trans rfl⟩ (fun hHeld => ?_)
             clear hK K
             refine norm_ (a':=?_) ?_ ?_
             rotate_left
             · show Act.put _ (some 10) _ = _
               simp only [Act.put,List.setIfInBounds_toArray,List.set_cons_zero,List.set_cons_succ,i64_w,i32_w]
               rfl
             exact norm_ (by first|(simp only [putAll,Act.put,List.setIfInBounds_toArray,List.set_cons_zero,List.set_cons_succ];done)|(simp only [putAll,Act.put,List.setIfInBounds_toArray,List.set_cons_zero,List.set_cons_succ];rfl)) (hJ1_3_5_8 (.slice Ao30 t105.length co30,gb116) _ ⟨hHeld,(by (with_reducible repeat (first|apply Kd.R_alloc|apply Kd.R_drewN|apply Kd.R_drew));exact HO107.out),(by (with_reducible repeat (first|refine blk_drewN ?_ _|refine blk_drew ?_|refine blk_alloc ?_ _));exact BK101.out),(by (with_reducible repeat (first|refine blk_drewN ?_ _|refine blk_drew ?_|refine blk_alloc ?_ _));exact BK102.out),(by (with_reducible repeat (first|refine blk_drewN ?_ _|refine blk_drew ?_|refine blk_alloc ?_ _));exact BK103.out),(by (with_reducible repeat (first|refine blk_drewN ?_ _|refine blk_drew ?_|refine blk_alloc ?_ _));exact BK116.out),GW116.out,GE116.out,NB101_116.out,NB116_101.out,NB102_116.out,NB116_102.out,NB103_116.out,NB116_103.out,(by repeat (first|(with_reducible first|exact HB.out|apply below_alloc|apply pw_below_drewN|apply below_drew1|refine below_set ?_ GE101.out|refine below_set ?_ GE102.out|refine below_set ?_ GE103.out|refine below_set ?_ GE116.out)|exact HB.out))⟩)
       · skip
         rintro ⟨v106,gb116⟩ w30 ⟨hS_,h0_,h1_,h2_,h3_,h4_,h5_,h6_,h7_,h8_,h9_,h10_,h11_,h12_,h13_⟩
         have n0_ : Aside0 (Kd.R (Kd.int .u8) 5 w30 w.heap.size (fun _ => True) v106 t105):=⟨h0_⟩
         have n1_ : Aside0 (w30.heap[gb101]? = some (.cells #[.slice A0_0 l0_0.length c0_0] 56 (0,0))):=⟨h1_⟩
         have n2_ : Aside0 (w30.heap[gb102]? = some (.cells #[.int .i64 a1_0,.bool a1_1,.int .i64 a1_2] 23 (0,0))):=⟨h2_⟩
         have n3_ : Aside0 (w30.heap[gb103]? = some (.cells #[.int .i64 a2_0,.int .i64 a2_1] 58 (0,0))):=⟨h3_⟩
         have n4_ : Aside0 (w30.heap[gb116]? = some (.cells #[.int .i64 0,.int .i64 0,.int .i64 0] 69 (0,0))):=⟨h4_⟩
         have n5_ : Aside0 (w.heap.size ≤ gb116):=⟨h5_⟩
         have n6_ : Aside0 (w.heap.size ≤ gb116):=⟨h6_⟩
         have n7_ : Aside0 (gb101 ≠ gb116):=⟨h7_⟩
         have n8_ : Aside0 (gb116 ≠ gb101):=⟨h8_⟩
         have n9_ : Aside0 (gb102 ≠ gb116):=⟨h9_⟩
         have n10_ : Aside0 (gb116 ≠ gb102):=⟨h10_⟩
         have n11_ : Aside0 (gb103 ≠ gb116):=⟨h11_⟩
         have n12_ : Aside0 (gb116 ≠ gb103):=⟨h12_⟩
         have n13_ : Aside0 (Below w.heap.size w w30):=⟨h13_⟩
         clear BK101
         clear BK102
         clear BK103
         clear HB
         clear h0_ h1_ h2_ h3_ h4_ h5_ h6_ h7_ h8_ h9_ h10_ h11_ h12_ h13_
         have HO107:=n0_
         have BK101:=n1_
         have BK102:=n2_
         have BK103:=n3_
         have BK116:=n4_
         have GW116:=n5_
         have GE116:=n6_
         have NB101_116:=n7_
         have NB116_101:=n8_
         have NB102_116:=n9_
         have NB116_102:=n10_
         have NB103_116:=n11_
         have NB116_103:=n12_
         have HB:=n13_
         clear n0_ n1_ n2_ n3_ n4_ n5_ n6_ n7_ n8_ n9_ n10_ n11_ n12_ n13_
         have hHeld : w30.cell? ⟨gb101,0,none⟩ = some (.slice A0_0 l0_0.length c0_0) ∧ w30.cell? ⟨gb102,0,none⟩ = some (.int .i64 a1_0) ∧ w30.cell? ⟨gb102,1,none⟩ = some (.bool a1_1) ∧ w30.cell? ⟨gb102,2,none⟩ = some (.int .i64 a1_2) ∧ w30.cell? ⟨gb103,0,none⟩ = some (.int .i64 a2_0) ∧ w30.cell? ⟨gb103,1,none⟩ = some (.int .i64 a2_1):=hS_
         obtain ⟨Ao31,co31,eo31⟩:=Kd.R_slice HO107.out
         (first|subst eo31|(injection eo31 with f1_ f2_ f3_;have f4_:=f1_.symm;have f5_:=f3_.symm;clear f1_ f2_ f3_;subst f4_;subst f5_))
         refine norm_ (a':=?_) ?_ ?_
         rotate_left
         · simp only [putAll,Act.put,List.setIfInBounds_toArray,List.set_cons_zero,List.set_cons_succ]
           rfl
         refine one_ (i:=7) (N:=some 25) #[true,true,true,true,true,true,true,true,true,false] rfl rfl (one_of HT_.out (by kernel_rfl)) (by decide) (fun K hK => ?_)
         refine goes_ Try.func48 (by kernel_rfl) rfl #[.agg #[.slice Ao31 t105.length co31],.agg #[.int .i64 t108,.bool t109,.int .i64 t110],.agg #[.int .i64 t111,.int .i64 t112],.int .i64 a3] (by rfl) rfl rfl (by (try simp only [List.map_toArray,List.map_cons,List.map_nil]);first|done|rfl|(simp only [List.length_drop,List.length_take];rfl)) ?_
         with_reducible refine (spec_MoveSpot.calls k _ _ t105 t108 t109 t110 t111 t112 a3 t113 t114 t115 _ ?side1 ?side2 A18.out).mono ?_
         (case side1 => repeat (first|exact (Kd.R_reads' HO107.out).2.2|(with_reducible refine Kd.C_alloc ?_ _)|(with_reducible refine Kd.C_drewN ?_ _)|(with_reducible refine Kd.C_drew ?_)))
         (case side2 => exact (Kd.R_reads' HO107.out).2.1)
         rintro e w32 ⟨rfl,hb⟩
         refine ⟨_,rfl,?_⟩
         have n0_:=Aside0.mk (Kd.R_below (by (with_reducible repeat (first|apply Kd.R_alloc|apply Kd.R_drewN|apply Kd.R_drew));exact HO107.out) hb)
         have n1_:=Aside0.mk (blk_below (g:=gb101) (o:=.cells #[.slice A0_0 l0_0.length c0_0] 56 (0,0)) (by (with_reducible repeat (first|refine blk_drewN ?_ _|refine blk_drew ?_|refine blk_alloc ?_ _));exact BK101.out) hb)
         have n2_:=Aside0.mk (blk_below (g:=gb102) (o:=.cells #[.int .i64 a1_0,.bool a1_1,.int .i64 a1_2] 23 (0,0)) (by (with_reducible repeat (first|refine blk_drewN ?_ _|refine blk_drew ?_|refine blk_alloc ?_ _));exact BK102.out) hb)
         have n3_:=Aside0.mk (blk_below (g:=gb103) (o:=.cells #[.int .i64 a2_0,.int .i64 a2_1] 58 (0,0)) (by (with_reducible repeat (first|refine blk_drewN ?_ _|refine blk_drew ?_|refine blk_alloc ?_ _));exact BK103.out) hb)
         have n4_:=Aside0.mk (blk_below (g:=gb116) (o:=.cells #[.int .i64 0,.int .i64 0,.int .i64 0] 69 (0,0)) (by (with_reducible repeat (first|refine blk_drewN ?_ _|refine blk_drew ?_|refine blk_alloc ?_ _));exact BK116.out) hb)
         have n5_:=Aside0.mk (below_step (by repeat (first|(with_reducible first|exact HB.out|apply below_alloc|apply pw_below_drewN|apply below_drew1|refine below_set ?_ GE101.out|refine below_set ?_ GE102.out|refine below_set ?_ GE103.out|refine below_set ?_ GE116.out)|exact HB.out)) hb)
         clear HO107
         clear BK101
         clear BK102
         clear BK103
         clear BK116
         clear HB
         have HO107:=n0_
         have BK101:=n1_
         have BK102:=n2_
         have BK103:=n3_
         have BK116:=n4_
         have HB:=n5_
         clear n0_ n1_ n2_ n3_ n4_ n5_
         (try clear hb)
         (try clear hb2)
         (try clear hk)
         (try clear hi)
         refine hK.out _ _ ⟨(blk_cell BK101.out 0).trans rfl,(blk_cell BK102.out 0).trans rfl,(blk_cell BK102.out 1).trans rfl,(blk_cell BK102.out 2).trans rfl,(blk_cell BK103.out 0).trans rfl,(blk_cell BK103.out 1).trans rfl⟩ (fun hHeld => ?_)
         clear hK K
         refine norm_ (a':=?_) ?_ ?_
         rotate_left
         · show Act.put _ (some 25) _ = _
           simp only [Act.put,List.setIfInBounds_toArray,List.set_cons_zero,List.set_cons_succ,i64_w,i32_w]
           rfl
         exact norm_ (by first|(simp only [putAll,Act.put,List.setIfInBounds_toArray,List.set_cons_zero,List.set_cons_succ];done)|(simp only [putAll,Act.put,List.setIfInBounds_toArray,List.set_cons_zero,List.set_cons_succ];rfl)) (hJ1_3_5_7_8 (.slice Ao31 t105.length co31,gb116) _ ⟨hHeld,(by (with_reducible repeat (first|apply Kd.R_alloc|apply Kd.R_drewN|apply Kd.R_drew));exact HO107.out),(by (with_reducible repeat (first|refine blk_drewN ?_ _|refine blk_drew ?_|refine blk_alloc ?_ _));exact BK101.out),(by (with_reducible repeat (first|refine blk_drewN ?_ _|refine blk_drew ?_|refine blk_alloc ?_ _));exact BK102.out),(by (with_reducible repeat (first|refine blk_drewN ?_ _|refine blk_drew ?_|refine blk_alloc ?_ _));exact BK103.out),(by (with_reducible repeat (first|refine blk_drewN ?_ _|refine blk_drew ?_|refine blk_alloc ?_ _));exact BK116.out),GW116.out,GE116.out,NB101_116.out,NB116_101.out,NB102_116.out,NB116_102.out,NB103_116.out,NB116_103.out,(by repeat (first|(with_reducible first|exact HB.out|apply below_alloc|apply pw_below_drewN|apply below_drew1|refine below_set ?_ GE101.out|refine below_set ?_ GE102.out|refine below_set ?_ GE103.out|refine below_set ?_ GE116.out)|exact HB.out))⟩)
     · skip
       rintro v106 w31 ⟨hS_,h0_,h1_,h2_,h3_,h4_⟩
       have n0_ : Aside0 (Kd.R (Kd.int .u8) 5 w31 w.heap.size (fun _ => True) v106 t105):=⟨h0_⟩
       have n1_ : Aside0 (w31.heap[gb101]? = some (.cells #[.slice A0_0 l0_0.length c0_0] 56 (0,0))):=⟨h1_⟩
       have n2_ : Aside0 (w31.heap[gb102]? = some (.cells #[.int .i64 a1_0,.bool a1_1,.int .i64 a1_2] 23 (0,0))):=⟨h2_⟩
       have n3_ : Aside0 (w31.heap[gb103]? = some (.cells #[.int .i64 a2_0,.int .i64 a2_1] 58 (0,0))):=⟨h3_⟩
       have n4_ : Aside0 (Below w.heap.size w w31):=⟨h4_⟩
       clear BK101
       clear BK102
       clear BK103
       clear HB
       clear h0_ h1_ h2_ h3_ h4_
       have HO107:=n0_
       have BK101:=n1_
       have BK102:=n2_
       have BK103:=n3_
       have HB:=n4_
       clear n0_ n1_ n2_ n3_ n4_
       have hHeld : w31.cell? ⟨gb101,0,none⟩ = some (.slice A0_0 l0_0.length c0_0) ∧ w31.cell? ⟨gb102,0,none⟩ = some (.int .i64 a1_0) ∧ w31.cell? ⟨gb102,1,none⟩ = some (.bool a1_1) ∧ w31.cell? ⟨gb102,2,none⟩ = some (.int .i64 a1_2) ∧ w31.cell? ⟨gb103,0,none⟩ = some (.int .i64 a2_0) ∧ w31.cell? ⟨gb103,1,none⟩ = some (.int .i64 a2_1):=hS_
       refine norm_ (a':=?_) ?_ ?_
       rotate_left
       · simp only [putAll,Act.put,List.setIfInBounds_toArray,List.set_cons_zero,List.set_cons_succ]
         rfl
       refine one_ (i:=8) (N:=some 10) #[true,true,true,true,true,true,true,true,true,false] rfl rfl (one_of HT_.out (by kernel_rfl)) (by decide) (fun K hK => ?_)
       refine box_step ?hg (N:=10) ?hd (cs:=#[.int .i64 0,.int .i64 0,.int .i64 0]) (t:=69) ?hr ?_;(case hd => rfl);(case hg => rfl);(case hr => first|(go_simp;done)|(go_simp;rfl))
       intro gb116 hg w32 hbox hb
       have n0_:=Aside0.mk (Kd.R_below (by (with_reducible repeat (first|apply Kd.R_alloc|apply Kd.R_drewN|apply Kd.R_drew));exact HO107.out) hb)
       have n1_:=Aside0.mk (blk_below (g:=gb101) (o:=.cells #[.slice A0_0 l0_0.length c0_0] 56 (0,0)) (by (with_reducible repeat (first|refine blk_drewN ?_ _|refine blk_drew ?_|refine blk_alloc ?_ _));exact BK101.out) hb)
       have n2_:=Aside0.mk (blk_below (g:=gb102) (o:=.cells #[.int .i64 a1_0,.bool a1_1,.int .i64 a1_2] 23 (0,0)) (by (with_reducible repeat (first|refine blk_drewN ?_ _|refine blk_drew ?_|refine blk_alloc ?_ _));exact BK102.out) hb)
       have n3_:=Aside0.mk (blk_below (g:=gb103) (o:=.cells #[.int .i64 a2_0,.int .i64 a2_1] 58 (0,0)) (by (with_reducible repeat (first|refine blk_drewN ?_ _|refine blk_drew ?_|refine blk_alloc ?_ _));exact BK103.out) hb)
       have n4_:=Aside0.mk (below_step (by repeat (first|(with_reducible first|exact HB.out|apply below_alloc|apply pw_below_drewN|apply below_drew1|refine below_set ?_ GE101.out|refine below_set ?_ GE102.out|refine below_set ?_ GE103.out)|exact HB.out)) hb)
       have n5_:=Aside0.mk (hbox)
       have n6_:=Aside0.mk ((by rw [hg];exact (below_size (by repeat (first|(with_reducible first|exact HB.out|apply below_alloc|apply pw_below_drewN|apply below_drew1|refine below_set ?_ GE101.out|refine below_set ?_ GE102.out|refine below_set ?_ GE103.out)|exact HB.out))) : w.heap.size ≤ gb116))
       have n7_:=Aside0.mk ((by rw [hg];exact (below_size (by repeat (first|(with_reducible first|exact HB.out|apply below_alloc|apply pw_below_drewN|apply below_drew1|refine below_set ?_ GE101.out|refine below_set ?_ GE102.out|refine below_set ?_ GE103.out)|exact HB.out))) : w.heap.size ≤ gb116))
       have n8_:=Aside0.mk ((by rw [hg];exact Nat.ne_of_lt (blk_lt (g:=gb101) (o:=.cells #[.slice A0_0 l0_0.length c0_0] 56 (0,0)) (by (with_reducible repeat (first|refine blk_drewN ?_ _|refine blk_drew ?_|refine blk_alloc ?_ _));exact BK101.out)) : gb101 ≠ gb116))
       have n9_:=Aside0.mk ((by rw [hg];exact Nat.ne_of_gt (blk_lt (g:=gb101) (o:=.cells #[.slice A0_0 l0_0.length c0_0] 56 (0,0)) (by (with_reducible repeat (first|refine blk_drewN ?_ _|refine blk_drew ?_|refine blk_alloc ?_ _));exact BK101.out)) : gb116 ≠ gb101))
       have n10_:=Aside0.mk ((by rw [hg];exact Nat.ne_of_lt (blk_lt (g:=gb102) (o:=.cells #[.int .i64 a1_0,.bool a1_1,.int .i64 a1_2] 23 (0,0)) (by (with_reducible repeat (first|refine blk_drewN ?_ _|refine blk_drew ?_|refine blk_alloc ?_ _));exact BK102.out)) : gb102 ≠ gb116))
       have n11_:=Aside0.mk ((by rw [hg];exact Nat.ne_of_gt (blk_lt (g:=gb102) (o:=.cells #[.int .i64 a1_0,.bool a1_1,.int .i64 a1_2] 23 (0,0)) (by (with_reducible repeat (first|refine blk_drewN ?_ _|refine blk_drew ?_|refine blk_alloc ?_ _));exact BK102.out)) : gb116 ≠ gb102))
       have n12_:=Aside0.mk ((by rw [hg];exact Nat.ne_of_lt (blk_lt (g:=gb103) (o:=.cells #[.int .i64 a2_0,.int .i64 a2_1] 58 (0,0)) (by (with_reducible repeat (first|refine blk_drewN ?_ _|refine blk_drew ?_|refine blk_alloc ?_ _));exact BK103.out)) : gb103 ≠ gb116))
       have n13_:=Aside0.mk ((by rw [hg];exact Nat.ne_of_gt (blk_lt (g:=gb103) (o:=.cells #[.int .i64 a2_0,.int .i64 a2_1] 58 (0,0)) (by (with_reducible repeat (first|refine blk_drewN ?_ _|refine blk_drew ?_|refine blk_alloc ?_ _));exact BK103.out)) : gb116 ≠ gb103))
       clear HO107
       clear BK101
       clear BK102
       clear BK103
       clear HB
       have HO107:=n0_
       have BK101:=n1_
       have BK102:=n2_
       have BK103:=n3_
       have HB:=n4_
       have BK116:=n5_
       have GW116:=n6_
       have GE116:=n7_
       have NB101_116:=n8_
       have NB116_101:=n9_
       have NB102_116:=n10_
       have NB116_102:=n11_
       have NB103_116:=n12_
       have NB116_103:=n13_
       clear n0_ n1_ n2_ n3_ n4_ n5_ n6_ n7_ n8_ n9_ n10_ n11_ n12_ n13_
       clear hb hbox hg
       refine hK.out _ _ ⟨(blk_cell BK101.out 0).trans rfl,(blk_cell BK102.out 0).trans rfl,(blk_cell BK102.out 1).trans rfl,(blk_cell BK102.out 2).trans rfl,(blk_cell BK103.out 0).trans rfl,(blk_cell BK103.out 1).trans rfl⟩ (fun hHeld => ?_)
       clear hK K
       refine norm_ (a':=?_) ?_ ?_
       rotate_left
       · show Act.put _ (some 10) _ = _
         simp only [Act.put,List.setIfInBounds_toArray,List.set_cons_zero,List.set_cons_succ,i64_w,i32_w]
         rfl
       exact norm_ (by first|(simp only [putAll,Act.put,List.setIfInBounds_toArray,List.set_cons_zero,List.set_cons_succ];done)|(simp only [putAll,Act.put,List.setIfInBounds_toArray,List.set_cons_zero,List.set_cons_succ];rfl)) (hJ1_3_5_7_8 (v106,gb116) _ ⟨hHeld,(by (with_reducible repeat (first|apply Kd.R_alloc|apply Kd.R_drewN|apply Kd.R_drew));exact HO107.out),(by (with_reducible repeat (first|refine blk_drewN ?_ _|refine blk_drew ?_|refine blk_alloc ?_ _));exact BK101.out),(by (with_reducible repeat (first|refine blk_drewN ?_ _|refine blk_drew ?_|refine blk_alloc ?_ _));exact BK102.out),(by (with_reducible repeat (first|refine blk_drewN ?_ _|refine blk_drew ?_|refine blk_alloc ?_ _));exact BK103.out),(by (with_reducible repeat (first|refine blk_drewN ?_ _|refine blk_drew ?_|refine blk_alloc ?_ _));exact BK116.out),GW116.out,GE116.out,NB101_116.out,NB116_101.out,NB102_116.out,NB116_102.out,NB103_116.out,NB116_103.out,(by repeat (first|(with_reducible first|exact HB.out|apply below_alloc|apply pw_below_drewN|apply below_drew1|refine below_set ?_ GE101.out|refine below_set ?_ GE102.out|refine below_set ?_ GE103.out|refine below_set ?_ GE116.out)|exact HB.out))⟩)
   rintro ⟨v106,gb116⟩ w32 ⟨hS_,h0_,h1_,h2_,h3_,h4_,h5_,h6_,h7_,h8_,h9_,h10_,h11_,h12_,h13_⟩
   have n0_ : Aside0 (Kd.R (Kd.int .u8) 5 w32 w.heap.size (fun _ => True) v106 t105):=⟨h0_⟩
   have n1_ : Aside0 (w32.heap[gb101]? = some (.cells #[.slice A0_0 l0_0.length c0_0] 56 (0,0))):=⟨h1_⟩
   have n2_ : Aside0 (w32.heap[gb102]? = some (.cells #[.int .i64 a1_0,.bool a1_1,.int .i64 a1_2] 23 (0,0))):=⟨h2_⟩
   have n3_ : Aside0 (w32.heap[gb103]? = some (.cells #[.int .i64 a2_0,.int .i64 a2_1] 58 (0,0))):=⟨h3_⟩
   have n4_ : Aside0 (w32.heap[gb116]? = some (.cells #[.int .i64 0,.int .i64 0,.int .i64 0] 69 (0,0))):=⟨h4_⟩
   have n5_ : Aside0 (w.heap.size ≤ gb116):=⟨h5_⟩
   have n6_ : Aside0 (w.heap.size ≤ gb116):=⟨h6_⟩
   have n7_ : Aside0 (gb101 ≠ gb116):=⟨h7_⟩
   have n8_ : Aside0 (gb116 ≠ gb101):=⟨h8_⟩
   have n9_ : Aside0 (gb102 ≠ gb116):=⟨h9_⟩
   have n10_ : Aside0 (gb116 ≠ gb102):=⟨h10_⟩
   have n11_ : Aside0 (gb103 ≠ gb116):=⟨h11_⟩
   have n12_ : Aside0 (gb116 ≠ gb103):=⟨h12_⟩
   have n13_ : Aside0 (Below w.heap.size w w32):=⟨h13_⟩
   clear BK101
   clear BK102
   clear BK103
   clear HB
   clear h0_ h1_ h2_ h3_ h4_ h5_ h6_ h7_ h8_ h9_ h10_ h11_ h12_ h13_
   have HO107:=n0_
   have BK101:=n1_
   have BK102:=n2_
   have BK103:=n3_
   have BK116:=n4_
   have GW116:=n5_
   have GE116:=n6_
   have NB101_116:=n7_
   have NB116_101:=n8_
   have NB102_116:=n9_
   have NB116_102:=n10_
   have NB103_116:=n11_
   have NB116_103:=n12_
   have HB:=n13_
   clear n0_ n1_ n2_ n3_ n4_ n5_ n6_ n7_ n8_ n9_ n10_ n11_ n12_ n13_
   have hHeld : w32.cell? ⟨gb101,0,none⟩ = some (.slice A0_0 l0_0.length c0_0) ∧ w32.cell? ⟨gb102,0,none⟩ = some (.int .i64 a1_0) ∧ w32.cell? ⟨gb102,1,none⟩ = some (.bool a1_1) ∧ w32.cell? ⟨gb102,2,none⟩ = some (.int .i64 a1_2) ∧ w32.cell? ⟨gb103,0,none⟩ = some (.int .i64 a2_0) ∧ w32.cell? ⟨gb103,1,none⟩ = some (.int .i64 a2_1):=hS_
   refine norm_ (a':=?_) ?_ ?_
   rotate_left
   · simp only [putAll,Act.put,List.setIfInBounds_toArray,List.set_cons_zero,List.set_cons_succ]
     rfl
   refine one_ (i:=9) (N:=none) #[true,true,true,true,true,true,true,true,true,true] rfl rfl (one_of HT_.out (by kernel_rfl)) (by decide) (fun K hK => ?_)
   have hs33 : w32.cell? ⟨gb116,0,none⟩ = some (.int .i64 0):=(blk_cell BK116.out 0).trans rfl
   have hfs33:=blk_frozen BK116.out 0
   have hns33_0:=NB101_116.out
   have hns33_1:=NB102_116.out
   have hns33_2:=NB103_116.out
   have hms33_0:=NB116_101.out
   have hms33_1:=NB116_102.out
   have hms33_2:=NB116_103.out
   have hs34 : w32.cell? ⟨gb116,1,none⟩ = some (.int .i64 0):=(blk_cell BK116.out 1).trans rfl
   have hfs34:=blk_frozen BK116.out 1
   have hns34_0:=NB101_116.out
   have hns34_1:=NB102_116.out
   have hns34_2:=NB103_116.out
   have hms34_0:=NB116_101.out
   have hms34_1:=NB116_102.out
   have hms34_2:=NB116_103.out
   have hs35 : w32.cell? ⟨gb116,2,none⟩ = some (.int .i64 0):=(blk_cell BK116.out 2).trans rfl
   have hfs35:=blk_frozen BK116.out 2
   have hns35_0:=NB101_116.out
   have hns35_1:=NB102_116.out
   have hns35_2:=NB103_116.out
   have hms35_0:=NB116_101.out
   have hms35_1:=NB116_102.out
   have hms35_2:=NB116_103.out
   refine skip_ (w1:=?_) (by rfl) rfl ?_ ?_
   rotate_left
   · go_simp
     rfl
   refine hK.out _ _ ⟨((cell_far (p:=⟨gb116,_,none⟩) NB101_116.out _).trans (((cell_far (p:=⟨gb116,_,none⟩) NB101_116.out _).trans (((cell_far (p:=⟨gb116,_,none⟩) NB101_116.out _).trans (hHeld.1)))))),((cell_far (p:=⟨gb116,_,none⟩) NB102_116.out _).trans (((cell_far (p:=⟨gb116,_,none⟩) NB102_116.out _).trans (((cell_far (p:=⟨gb116,_,none⟩) NB102_116.out _).trans (hHeld.2.1)))))),((cell_far (p:=⟨gb116,_,none⟩) NB102_116.out _).trans (((cell_far (p:=⟨gb116,_,none⟩) NB102_116.out _).trans (((cell_far (p:=⟨gb116,_,none⟩) NB102_116.out _).trans (hHeld.2.2.1)))))),((cell_far (p:=⟨gb116,_,none⟩) NB102_116.out _).trans (((cell_far (p:=⟨gb116,_,none⟩) NB102_116.out _).trans (((cell_far (p:=⟨gb116,_,none⟩) NB102_116.out _).trans (hHeld.2.2.2.1)))))),((cell_far (p:=⟨gb116,_,none⟩) NB103_116.out _).trans (((cell_far (p:=⟨gb116,_,none⟩) NB103_116.out _).trans (((cell_far (p:=⟨gb116,_,none⟩) NB103_116.out _).trans (hHeld.2.2.2.2.1)))))),((cell_far (p:=⟨gb116,_,none⟩) NB103_116.out _).trans (((cell_far (p:=⟨gb116,_,none⟩) NB103_116.out _).trans (((cell_far (p:=⟨gb116,_,none⟩) NB103_116.out _).trans (hHeld.2.2.2.2.2))))))⟩ (fun hHeld => ?_)
   clear hK K
   refine done_ (done_of HT_.out (by kernel_rfl)) ?_
   have hnb36:=NB101_102.out
   have hnc36:=NB102_101.out
   have hnb37:=NB101_103.out
   have hnc37:=NB103_101.out
   have hnb38:=NB101_116.out
   have hnc38:=NB116_101.out
   have hcz39_0 : w32.cell? ⟨gb101,0,none⟩ = some (.slice A0_0 l0_0.length c0_0):=(blk_cell BK101.out 0).trans rfl
   have hfz39_0:=blk_frozen BK101.out 0
   try go_wp2_with (first|((with_reducible refine gate_callee (f:=40) rfl ?_);refine goesL_ (some 27) rfl rfl Try.func40 (by kernel_rfl) rfl #[.agg #[.slice A0_0 l0_0.length c0_0]] rfl (by (try simp only [List.map_toArray,List.map_cons,List.map_nil]);first|done|rfl|(simp only [List.length_drop,List.length_take];rfl)) ?_;(with_reducible refine (laws_toFile.calls k _ _ l0_0 t117 _ ?side1 ?side2 A19.out).mono ?_);(case side1 => exact Kd.C_below HR0_0.out (by repeat (first|(with_reducible first|exact HB.out|apply below_alloc|apply pw_below_drewN|apply below_drew1|refine below_set ?_ GE101.out|refine below_set ?_ GE102.out|refine below_set ?_ GE103.out|refine below_set ?_ GE116.out)|exact HB.out)));(case side2 => exact HC0_0.out);rintro e w40 ⟨v118,rfl,ho0,hb⟩;refine ⟨_,rfl,?_⟩;have n0_:=Aside0.mk (Kd.R_elder' (by (with_reducible repeat (first|apply Kd.R_alloc|apply Kd.R_drewN|apply Kd.R_drew));exact (Kd.R_mono (Kd.R_far (p:=⟨gb116,2,none⟩) (Kd.R_far (p:=⟨gb116,1,none⟩) (Kd.R_far (p:=⟨gb116,0,none⟩) (Kd.R_types HO107.out BK116.out (by decide)) (fun _ hk => hk.2) (.int .i64 t113)) (fun _ hk => hk.2) (.int .i64 t114)) (fun _ hk => hk.2) (.int .i64 t115)) (fun _ h_ => h_.1))) (Kd.R_base ho0) hb);have n1_:=Aside0.mk (Kd.R_lower (Kd.R_new' ho0 (Kd.R_lt (by (with_reducible repeat (first|apply Kd.R_alloc|apply Kd.R_drewN|apply Kd.R_drew));exact (Kd.R_mono (Kd.R_far (p:=⟨gb116,2,none⟩) (Kd.R_far (p:=⟨gb116,1,none⟩) (Kd.R_far (p:=⟨gb116,0,none⟩) (Kd.R_types HO107.out BK116.out (by decide)) (fun _ hk => hk.2) (.int .i64 t113)) (fun _ hk => hk.2) (.int .i64 t114)) (fun _ hk => hk.2) (.int .i64 t115)) (fun _ h_ => h_.1))))) (below_size (by repeat (first|(with_reducible first|exact HB.out|apply below_alloc|apply pw_below_drewN|apply below_drew1|refine below_set ?_ GE101.out|refine below_set ?_ GE102.out|refine below_set ?_ GE103.out|refine below_set ?_ GE116.out)|exact HB.out))));have n2_:=Aside0.mk (blk_below (g:=gb101) (o:=.cells #[.slice A0_0 l0_0.length c0_0] 56 (0,0)) (by (with_reducible repeat (first|refine blk_drewN ?_ _|refine blk_drew ?_|refine blk_alloc ?_ _));refine blk_far ?_ NB101_116.out _;(with_reducible repeat (first|refine blk_drewN ?_ _|refine blk_drew ?_|refine blk_alloc ?_ _));refine blk_far ?_ NB101_116.out _;(with_reducible repeat (first|refine blk_drewN ?_ _|refine blk_drew ?_|refine blk_alloc ?_ _));refine blk_far ?_ NB101_116.out _;(with_reducible repeat (first|refine blk_drewN ?_ _|refine blk_drew ?_|refine blk_alloc ?_ _));exact BK101.out) hb);have n3_:=Aside0.mk (blk_below (g:=gb102) (o:=.cells #[.int .i64 a1_0,.bool a1_1,.int .i64 a1_2] 23 (0,0)) (by (with_reducible repeat (first|refine blk_drewN ?_ _|refine blk_drew ?_|refine blk_alloc ?_ _));refine blk_far ?_ NB102_116.out _;(with_reducible repeat (first|refine blk_drewN ?_ _|refine blk_drew ?_|refine blk_alloc ?_ _));refine blk_far ?_ NB102_116.out _;(with_reducible repeat (first|refine blk_drewN ?_ _|refine blk_drew ?_|refine blk_alloc ?_ _));refine blk_far ?_ NB102_116.out _;(with_reducible repeat (first|refine blk_drewN ?_ _|refine blk_drew ?_|refine blk_alloc ?_ _));exact BK102.out) hb);have n4_:=Aside0.mk (blk_below (g:=gb103) (o:=.cells #[.int .i64 a2_0,.int .i64 a2_1] 58 (0,0)) (by (with_reducible repeat (first|refine blk_drewN ?_ _|refine blk_drew ?_|refine blk_alloc ?_ _));refine blk_far ?_ NB103_116.out _;(with_reducible repeat (first|refine blk_drewN ?_ _|refine blk_drew ?_|refine blk_alloc ?_ _));refine blk_far ?_ NB103_116.out _;(with_reducible repeat (first|refine blk_drewN ?_ _|refine blk_drew ?_|refine blk_alloc ?_ _));refine blk_far ?_ NB103_116.out _;(with_reducible repeat (first|refine blk_drewN ?_ _|refine blk_drew ?_|refine blk_alloc ?_ _));exact BK103.out) hb);have n5_:=Aside0.mk (blk_below (g:=gb116) (o:=.cells #[.int .i64 t113,.int .i64 t114,.int .i64 t115] 69 (0,0)) (by (with_reducible repeat (first|refine blk_drewN ?_ _|refine blk_drew ?_|refine blk_alloc ?_ _));refine blk_put (cs:=#[.int .i64 t113,.int .i64 t114,.int .i64 0]) ?_ 2 _ rfl;(with_reducible repeat (first|refine blk_drewN ?_ _|refine blk_drew ?_|refine blk_alloc ?_ _));refine blk_put (cs:=#[.int .i64 t113,.int .i64 0,.int .i64 0]) ?_ 1 _ rfl;(with_reducible repeat (first|refine blk_drewN ?_ _|refine blk_drew ?_|refine blk_alloc ?_ _));refine blk_put (cs:=#[.int .i64 0,.int .i64 0,.int .i64 0]) ?_ 0 _ rfl;(with_reducible repeat (first|refine blk_drewN ?_ _|refine blk_drew ?_|refine blk_alloc ?_ _));exact BK116.out) hb);have n6_:=Aside0.mk (below_step (by repeat (first|(with_reducible first|exact HB.out|apply below_alloc|apply pw_below_drewN|apply below_drew1|refine below_set ?_ GE101.out|refine below_set ?_ GE102.out|refine below_set ?_ GE103.out|refine below_set ?_ GE116.out)|exact HB.out)) hb);clear HO107;clear BK101;clear BK102;clear BK103;clear BK116;clear HB;have HO107:=n0_;have HO119:=n1_;have BK101:=n2_;have BK102:=n3_;have BK103:=n4_;have BK116:=n5_;have HB:=n6_;clear n0_ n1_ n2_ n3_ n4_ n5_ n6_;(try clear hb);(try clear hb2);(try clear hk);(try clear hi);(try clear ho0))|((with_reducible refine gate_dst (N:=11) rfl ?_);refine box_event ?hg (N:=11) ?hd (cs:=#[.slice none 0 0]) (t:=61) ?hr ?_;(case hd => rfl);(case hg => rfl);(case hr => first|(go_simp;done)|(go_simp;rfl));intro gb120 hg w41 hbox hb;have n0_:=Aside0.mk (Kd.R_below (by (with_reducible repeat (first|apply Kd.R_alloc|apply Kd.R_drewN|apply Kd.R_drew));exact HO107.out) hb);have n1_:=Aside0.mk (Kd.R_below (by (with_reducible repeat (first|apply Kd.R_alloc|apply Kd.R_drewN|apply Kd.R_drew));exact HO119.out) hb);have n2_:=Aside0.mk (blk_below (g:=gb101) (o:=.cells #[.slice A0_0 l0_0.length c0_0] 56 (0,0)) (by (with_reducible repeat (first|refine blk_drewN ?_ _|refine blk_drew ?_|refine blk_alloc ?_ _));exact BK101.out) hb);have n3_:=Aside0.mk (blk_below (g:=gb102) (o:=.cells #[.int .i64 a1_0,.bool a1_1,.int .i64 a1_2] 23 (0,0)) (by (with_reducible repeat (first|refine blk_drewN ?_ _|refine blk_drew ?_|refine blk_alloc ?_ _));exact BK102.out) hb);have n4_:=Aside0.mk (blk_below (g:=gb103) (o:=.cells #[.int .i64 a2_0,.int .i64 a2_1] 58 (0,0)) (by (with_reducible repeat (first|refine blk_drewN ?_ _|refine blk_drew ?_|refine blk_alloc ?_ _));exact BK103.out) hb);have n5_:=Aside0.mk (blk_below (g:=gb116) (o:=.cells #[.int .i64 t113,.int .i64 t114,.int .i64 t115] 69 (0,0)) (by (with_reducible repeat (first|refine blk_drewN ?_ _|refine blk_drew ?_|refine blk_alloc ?_ _));exact BK116.out) hb);have n6_:=Aside0.mk (below_step (by repeat (first|(with_reducible first|exact HB.out|apply below_alloc|apply pw_below_drewN|apply below_drew1|refine below_set ?_ GE101.out|refine below_set ?_ GE102.out|refine below_set ?_ GE103.out|refine below_set ?_ GE116.out)|exact HB.out)) hb);have n7_:=Aside0.mk (hbox);have n8_:=Aside0.mk ((by rw [hg];exact (below_size (by repeat (first|(with_reducible first|exact HB.out|apply below_alloc|apply pw_below_drewN|apply below_drew1|refine below_set ?_ GE101.out|refine below_set ?_ GE102.out|refine below_set ?_ GE103.out|refine below_set ?_ GE116.out)|exact HB.out))) : w.heap.size ≤ gb120));have n9_:=Aside0.mk ((by rw [hg];exact (below_size (by repeat (first|(with_reducible first|exact HB.out|apply below_alloc|apply pw_below_drewN|apply below_drew1|refine below_set ?_ GE101.out|refine below_set ?_ GE102.out|refine below_set ?_ GE103.out|refine below_set ?_ GE116.out)|exact HB.out))) : w.heap.size ≤ gb120));have n10_:=Aside0.mk ((by rw [hg];exact Nat.ne_of_lt (blk_lt (g:=gb101) (o:=.cells #[.slice A0_0 l0_0.length c0_0] 56 (0,0)) (by (with_reducible repeat (first|refine blk_drewN ?_ _|refine blk_drew ?_|refine blk_alloc ?_ _));exact BK101.out)) : gb101 ≠ gb120));have n11_:=Aside0.mk ((by rw [hg];exact Nat.ne_of_gt (blk_lt (g:=gb101) (o:=.cells #[.slice A0_0 l0_0.length c0_0] 56 (0,0)) (by (with_reducible repeat (first|refine blk_drewN ?_ _|refine blk_drew ?_|refine blk_alloc ?_ _));exact BK101.out)) : gb120 ≠ gb101));have n12_:=Aside0.mk ((by rw [hg];exact Nat.ne_of_lt (blk_lt (g:=gb102) (o:=.cells #[.int .i64 a1_0,.bool a1_1,.int .i64 a1_2] 23 (0,0)) (by (with_reducible repeat (first|refine blk_drewN ?_ _|refine blk_drew ?_|refine blk_alloc ?_ _));exact BK102.out)) : gb102 ≠ gb120));have n13_:=Aside0.mk ((by rw [hg];exact Nat.ne_of_gt (blk_lt (g:=gb102) (o:=.cells #[.int .i64 a1_0,.bool a1_1,.int .i64 a1_2] 23 (0,0)) (by (with_reducible repeat (first|refine blk_drewN ?_ _|refine blk_drew ?_|refine blk_alloc ?_ _));exact BK102.out)) : gb120 ≠ gb102));have n14_:=Aside0.mk ((by rw [hg];exact Nat.ne_of_lt (blk_lt (g:=gb103) (o:=.cells #[.int .i64 a2_0,.int .i64 a2_1] 58 (0,0)) (by (with_reducible repeat (first|refine blk_drewN ?_ _|refine blk_drew ?_|refine blk_alloc ?_ _));exact BK103.out)) : gb103 ≠ gb120));have n15_:=Aside0.mk ((by rw [hg];exact Nat.ne_of_gt (blk_lt (g:=gb103) (o:=.cells #[.int .i64 a2_0,.int .i64 a2_1] 58 (0,0)) (by (with_reducible repeat (first|refine blk_drewN ?_ _|refine blk_drew ?_|refine blk_alloc ?_ _));exact BK103.out)) : gb120 ≠ gb103));have n16_:=Aside0.mk ((by rw [hg];exact Nat.ne_of_lt (blk_lt (g:=gb116) (o:=.cells #[.int .i64 t113,.int .i64 t114,.int .i64 t115] 69 (0,0)) (by (with_reducible repeat (first|refine blk_drewN ?_ _|refine blk_drew ?_|refine blk_alloc ?_ _));exact BK116.out)) : gb116 ≠ gb120));have n17_:=Aside0.mk ((by rw [hg];exact Nat.ne_of_gt (blk_lt (g:=gb116) (o:=.cells #[.int .i64 t113,.int .i64 t114,.int .i64 t115] 69 (0,0)) (by (with_reducible repeat (first|refine blk_drewN ?_ _|refine blk_drew ?_|refine blk_alloc ?_ _));exact BK116.out)) : gb120 ≠ gb116));clear HO107;clear HO119;clear BK101;clear BK102;clear BK103;clear BK116;clear HB;have HO107:=n0_;have HO119:=n1_;have BK101:=n2_;have BK102:=n3_;have BK103:=n4_;have BK116:=n5_;have HB:=n6_;have BK120:=n7_;have GW120:=n8_;have GE120:=n9_;have NB101_120:=n10_;have NB120_101:=n11_;have NB102_120:=n12_;have NB120_102:=n13_;have NB103_120:=n14_;have NB120_103:=n15_;have NB116_120:=n16_;have NB120_116:=n17_;clear n0_ n1_ n2_ n3_ n4_ n5_ n6_ n7_ n8_ n9_ n10_ n11_ n12_ n13_ n14_ n15_ n16_ n17_;clear hb hbox hg;obtain ⟨Ao42,co42,eo42⟩:=Kd.R_slice HO119.out;subst eo42;have hnb43:=NB120_101.out;have hnc43:=NB101_120.out;have hnb44:=NB120_102.out;have hnc44:=NB102_120.out;have hnb45:=NB120_103.out;have hnc45:=NB103_120.out;have hnb46:=NB120_116.out;have hnc46:=NB116_120.out;have hcz47_0 : w41.cell? ⟨gb120,0,none⟩ = some (.slice none 0 0):=(blk_cell BK120.out 0).trans rfl;have hfz47_0:=blk_frozen BK120.out 0))
   have n0_ : Aside0 (Kd.R (Kd.int .u8) 5 (w41.setCell ⟨gb120,0,none⟩ (.slice Ao42 t117.length co42)) w.heap.size (fun k_ => some k_ ≠ (.slice Ao42 t117.length co42 : Value).ownBlock) v106 t105):=⟨by (with_reducible repeat (first|apply Kd.R_alloc|apply Kd.R_drewN|apply Kd.R_drew));exact Kd.R_mono (Kd.R_far (p:=⟨gb120,0,none⟩) (Kd.R_types HO107.out BK120.out (by decide)) (fun _ hk => hk.2) (.slice Ao42 t117.length co42)) (fun _ hk => hk.1.2)⟩
   have n1_ : Aside0 (Kd.R (Kd.int .u8) 5 (w41.setCell ⟨gb120,0,none⟩ (.slice Ao42 t117.length co42)) w.heap.size (fun k_ => some k_ ≠ (v106 : Value).ownBlock) (.slice Ao42 t117.length co42) t117):=⟨by (with_reducible repeat (first|apply Kd.R_alloc|apply Kd.R_drewN|apply Kd.R_drew));exact Kd.R_mono (Kd.R_far (p:=⟨gb120,0,none⟩) (Kd.R_types HO119.out BK120.out (by decide)) (fun _ hk => hk.2) (.slice Ao42 t117.length co42)) (fun _ hk => hk.1.2)⟩
   have n2_ : Aside0 ((w41.setCell ⟨gb120,0,none⟩ (.slice Ao42 t117.length co42)).heap[gb101]? = some (.cells #[.slice A0_0 l0_0.length c0_0] 56 (0,0))):=⟨by (with_reducible repeat (first|refine blk_drewN ?_ _|refine blk_drew ?_|refine blk_alloc ?_ _));refine blk_far ?_ NB101_120.out _;(with_reducible repeat (first|refine blk_drewN ?_ _|refine blk_drew ?_|refine blk_alloc ?_ _));exact BK101.out⟩
   have n3_ : Aside0 ((w41.setCell ⟨gb120,0,none⟩ (.slice Ao42 t117.length co42)).heap[gb102]? = some (.cells #[.int .i64 a1_0,.bool a1_1,.int .i64 a1_2] 23 (0,0))):=⟨by (with_reducible repeat (first|refine blk_drewN ?_ _|refine blk_drew ?_|refine blk_alloc ?_ _));refine blk_far ?_ NB102_120.out _;(with_reducible repeat (first|refine blk_drewN ?_ _|refine blk_drew ?_|refine blk_alloc ?_ _));exact BK102.out⟩
   have n4_ : Aside0 ((w41.setCell ⟨gb120,0,none⟩ (.slice Ao42 t117.length co42)).heap[gb103]? = some (.cells #[.int .i64 a2_0,.int .i64 a2_1] 58 (0,0))):=⟨by (with_reducible repeat (first|refine blk_drewN ?_ _|refine blk_drew ?_|refine blk_alloc ?_ _));refine blk_far ?_ NB103_120.out _;(with_reducible repeat (first|refine blk_drewN ?_ _|refine blk_drew ?_|refine blk_alloc ?_ _));exact BK103.out⟩
   have n5_ : Aside0 ((w41.setCell ⟨gb120,0,none⟩ (.slice Ao42 t117.length co42)).heap[gb116]? = some (.cells #[.int .i64 t113,.int .i64 t114,.int .i64 t115] 69 (0,0))):=⟨by (with_reducible repeat (first|refine blk_drewN ?_ _|refine blk_drew ?_|refine blk_alloc ?_ _));refine blk_far ?_ NB116_120.out _;(with_reducible repeat (first|refine blk_drewN ?_ _|refine blk_drew ?_|refine blk_alloc ?_ _));exact BK116.out⟩
   have n6_ : Aside0 ((w41.setCell ⟨gb120,0,none⟩ (.slice Ao42 t117.length co42)).heap[gb120]? = some (.cells #[.slice Ao42 t117.length co42] 61 (0,0))):=⟨by (with_reducible repeat (first|refine blk_drewN ?_ _|refine blk_drew ?_|refine blk_alloc ?_ _));refine blk_put (cs:=#[.slice none 0 0]) ?_ 0 _ rfl;(with_reducible repeat (first|refine blk_drewN ?_ _|refine blk_drew ?_|refine blk_alloc ?_ _));exact BK120.out⟩
   have n7_ : Aside0 (Below w.heap.size w (w41.setCell ⟨gb120,0,none⟩ (.slice Ao42 t117.length co42))):=⟨by repeat (first|(with_reducible first|exact HB.out|apply below_alloc|apply pw_below_drewN|apply below_drew1|refine below_set ?_ GE101.out|refine below_set ?_ GE102.out|refine below_set ?_ GE103.out|refine below_set ?_ GE116.out|refine below_set ?_ GE120.out)|exact HB.out)⟩
   (try clear HO107)
   (try clear HO119)
   (try clear BK101)
   (try clear BK102)
   (try clear BK103)
   (try clear BK116)
   (try clear BK120)
   (try clear HB)
   generalize (w41.setCell ⟨gb120,0,none⟩ (.slice Ao42 t117.length co42)) = w48 at n0_ n1_ n2_ n3_ n4_ n5_ n6_ n7_ ⊢
   have HO107:=n0_
   have HO119:=n1_
   have BK101:=n2_
   have BK102:=n3_
   have BK103:=n4_
   have BK116:=n5_
   have BK120:=n6_
   have HB:=n7_
   clear n0_ n1_ n2_ n3_ n4_ n5_ n6_ n7_
   have n0_:=Aside0.mk (Kd.R_drew HO107.out)
   have n1_:=Aside0.mk (Kd.R_drew HO119.out)
   have n2_:=Aside0.mk (blk_drew BK101.out)
   have n3_:=Aside0.mk (blk_drew BK102.out)
   have n4_:=Aside0.mk (blk_drew BK103.out)
   have n5_:=Aside0.mk (blk_drew BK116.out)
   have n6_:=Aside0.mk (blk_drew BK120.out)
   have n7_:=Aside0.mk (below_drew1 HB.out)
   clear HO107
   clear HO119
   clear BK101
   clear BK102
   clear BK103
   clear BK116
   clear BK120
   clear HB
   have HO107:=n0_
   have HO119:=n1_
   have BK101:=n2_
   have BK102:=n3_
   have BK103:=n4_
   have BK116:=n5_
   have BK120:=n6_
   have HB:=n7_
   clear n0_ n1_ n2_ n3_ n4_ n5_ n6_ n7_
   refine start_ (n:=9) (S:=fun w' => w'.cell? ⟨gb120,0,none⟩ = some (.slice Ao42 t117.length co42) ∧ w'.cell? ⟨gb102,0,none⟩ = some (.int .i64 a1_0) ∧ w'.cell? ⟨gb102,1,none⟩ = some (.bool a1_1) ∧ w'.cell? ⟨gb102,2,none⟩ = some (.int .i64 a1_2) ∧ w'.cell? ⟨gb103,0,none⟩ = some (.int .i64 a2_0) ∧ w'.cell? ⟨gb103,1,none⟩ = some (.int .i64 a2_1)) (ds:=[]) #[false,false,false,false,false,false,false,false,false] (by kernel_rfl) rfl rfl ⟨(blk_cell BK120.out 0).trans rfl,(blk_cell BK102.out 0).trans rfl,(blk_cell BK102.out 1).trans rfl,(blk_cell BK102.out 2).trans rfl,(blk_cell BK103.out 0).trans rfl,(blk_cell BK103.out 1).trans rfl⟩ (fun hHeld => ?_);refine with_tabW laws_FnExactMoveSpot.tab7 laws_FnExactMoveSpot.bits7 (fun HT_ HW_ => ?_)
   generalize w48.drew = w49 at HO107 HO119 BK101 BK102 BK103 BK116 BK120 HB hHeld ⊢
   refine pure_ (i:=5) (N:=some 33) (v:=?_) (a':=?_) #[false,false,false,false,false,true,false,false,false] rfl rfl (any_of HT_.out (by kernel_rfl)) (fun _ _ _ h => h) (Or.inl ⟨by rfl,?_⟩) ?_ ?_
   rotate_left
   · intro w'
     go_simp
     with_reducible rfl
   rotate_left
   · simp only [Act.put,List.setIfInBounds_toArray,List.set_cons_zero,List.set_cons_succ,i64_w,i32_w]
     rfl
   refine take_ (i:=0) (N:=some 28) (v:=?_) (a':=?_) #[true,false,false,false,false,true,false,false,false] rfl rfl (take_ofW HT_.out HW_.out (by kernel_rfl)) (fun _ _ _ h => h) (Or.inl ⟨by rfl,?_⟩) hHeld ?_ ?_
   rotate_left
   · rintro w' ⟨s0,s1,s2,s3,s4,s5⟩
     go_simp
     with_reducible rfl
   rotate_left
   · simp only [Act.put,List.setIfInBounds_toArray,List.set_cons_zero,List.set_cons_succ,i64_w,i32_w]
     rfl
   refine take_ (i:=1) (N:=some 29) (v:=?_) (a':=?_) #[true,true,false,false,false,true,false,false,false] rfl rfl (take_ofW HT_.out HW_.out (by kernel_rfl)) (fun _ _ _ h => h) (Or.inl ⟨by rfl,?_⟩) hHeld ?_ ?_
   rotate_left
   · rintro w' ⟨s0,s1,s2,s3,s4,s5⟩
     go_simp
     with_reducible rfl
   rotate_left
   · simp only [Act.put,List.setIfInBounds_toArray,List.set_cons_zero,List.set_cons_succ,i64_w,i32_w]
     rfl
   refine take_ (i:=3) (N:=some 31) (v:=?_) (a':=?_) #[true,true,false,true,false,true,false,false,false] rfl rfl (take_ofW HT_.out HW_.out (by kernel_rfl)) (fun _ _ _ h => h) (Or.inl ⟨by rfl,?_⟩) hHeld ?_ ?_
   rotate_left
   · rintro w' ⟨s0,s1,s2,s3,s4,s5⟩
     go_simp
     with_reducible rfl
   rotate_left
   · simp only [Act.put,List.setIfInBounds_toArray,List.set_cons_zero,List.set_cons_succ,i64_w,i32_w]
     rfl
   refine join_ (σ:=Nat) 1 #[true,true,true,true,true,true,true,true,false] (fun s_ => [(30,.agg #[.int .i64 t121,.bool t122,.int .i64 t123]),(32,.agg #[.int .i64 t124,.int .i64 t125]),(34,.agg #[.int .i64 t126,.int .i64 t127,.int .i64 t128]),(12,.pointer (some ⟨s_,0,none⟩))]) (fun s_ w' => (w'.cell? ⟨gb120,0,none⟩ = some (.slice Ao42 t117.length co42) ∧ w'.cell? ⟨gb102,0,none⟩ = some (.int .i64 a1_0) ∧ w'.cell? ⟨gb102,1,none⟩ = some (.bool a1_1) ∧ w'.cell? ⟨gb102,2,none⟩ = some (.int .i64 a1_2) ∧ w'.cell? ⟨gb103,0,none⟩ = some (.int .i64 a2_0) ∧ w'.cell? ⟨gb103,1,none⟩ = some (.int .i64 a2_1)) ∧ (Kd.R (Kd.int .u8) 5 w' w.heap.size (fun k_ => some k_ ≠ (.slice Ao42 t117.length co42 : Value).ownBlock) v106 t105) ∧ (Kd.R (Kd.int .u8) 5 w' w.heap.size (fun k_ => some k_ ≠ (v106 : Value).ownBlock) (.slice Ao42 t117.length co42) t117) ∧ (w'.heap[gb101]? = some (.cells #[.slice A0_0 l0_0.length c0_0] 56 (0,0))) ∧ (w'.heap[gb102]? = some (.cells #[.int .i64 a1_0,.bool a1_1,.int .i64 a1_2] 23 (0,0))) ∧ (w'.heap[gb103]? = some (.cells #[.int .i64 a2_0,.int .i64 a2_1] 58 (0,0))) ∧ (w'.heap[gb116]? = some (.cells #[.int .i64 t113,.int .i64 t114,.int .i64 t115] 69 (0,0))) ∧ (w'.heap[gb120]? = some (.cells #[.slice Ao42 t117.length co42] 61 (0,0))) ∧ (w'.heap[s_]? = some (.cells #[.int .i64 0,.int .i64 0,.int .i64 0] 69 (0,0))) ∧ (w.heap.size ≤ s_) ∧ (w.heap.size ≤ s_) ∧ (gb101 ≠ s_) ∧ (s_ ≠ gb101) ∧ (gb102 ≠ s_) ∧ (s_ ≠ gb102) ∧ (gb103 ≠ s_) ∧ (s_ ≠ gb103) ∧ (gb116 ≠ s_) ∧ (s_ ≠ gb116) ∧ (gb120 ≠ s_) ∧ (s_ ≠ gb120) ∧ (Below w.heap.size w w')) ?_ ?_
   rotate_left
   · intro hCont
     refine two_ (i:=2) (j:=7) (Ni:=some 30) (Nj:=some 12) #[true,true,true,true,false,true,false,false,false] #[true,true,false,true,false,true,false,true,false] rfl rfl rfl rfl (two_of HT_.out (by kernel_rfl)) (by decide) (by decide) (fun K hK => ?_) (fun K hK => ?_)
     · skip
       refine goes_ Try.func15 (by kernel_rfl) rfl #[.agg #[.int .i64 a1_0,.bool a1_1,.int .i64 a1_2]] (by rfl) rfl rfl (by (try simp only [List.map_toArray,List.map_cons,List.map_nil]);first|done|rfl|(simp only [List.length_drop,List.length_take];rfl)) ?_
       with_reducible refine (laws_toLayout.calls a1_0 a1_1 a1_2 t121 t122 t123 _ A20.out).mono ?_
       rintro e w50 ⟨rfl,hb⟩
       refine ⟨_,rfl,?_⟩
       have n0_:=Aside0.mk (Kd.R_below (by (with_reducible repeat (first|apply Kd.R_alloc|apply Kd.R_drewN|apply Kd.R_drew));exact HO107.out) hb)
       have n1_:=Aside0.mk (Kd.R_below (by (with_reducible repeat (first|apply Kd.R_alloc|apply Kd.R_drewN|apply Kd.R_drew));exact HO119.out) hb)
       have n2_:=Aside0.mk (blk_below (g:=gb101) (o:=.cells #[.slice A0_0 l0_0.length c0_0] 56 (0,0)) (by (with_reducible repeat (first|refine blk_drewN ?_ _|refine blk_drew ?_|refine blk_alloc ?_ _));exact BK101.out) hb)
       have n3_:=Aside0.mk (blk_below (g:=gb102) (o:=.cells #[.int .i64 a1_0,.bool a1_1,.int .i64 a1_2] 23 (0,0)) (by (with_reducible repeat (first|refine blk_drewN ?_ _|refine blk_drew ?_|refine blk_alloc ?_ _));exact BK102.out) hb)
       have n4_:=Aside0.mk (blk_below (g:=gb103) (o:=.cells #[.int .i64 a2_0,.int .i64 a2_1] 58 (0,0)) (by (with_reducible repeat (first|refine blk_drewN ?_ _|refine blk_drew ?_|refine blk_alloc ?_ _));exact BK103.out) hb)
       have n5_:=Aside0.mk (blk_below (g:=gb116) (o:=.cells #[.int .i64 t113,.int .i64 t114,.int .i64 t115] 69 (0,0)) (by (with_reducible repeat (first|refine blk_drewN ?_ _|refine blk_drew ?_|refine blk_alloc ?_ _));exact BK116.out) hb)
       have n6_:=Aside0.mk (blk_below (g:=gb120) (o:=.cells #[.slice Ao42 t117.length co42] 61 (0,0)) (by (with_reducible repeat (first|refine blk_drewN ?_ _|refine blk_drew ?_|refine blk_alloc ?_ _));exact BK120.out) hb)
       have n7_:=Aside0.mk (below_step (by repeat (first|(with_reducible first|exact HB.out|apply below_alloc|apply pw_below_drewN|apply below_drew1|refine below_set ?_ GE101.out|refine below_set ?_ GE102.out|refine below_set ?_ GE103.out|refine below_set ?_ GE116.out|refine below_set ?_ GE120.out)|exact HB.out)) hb)
       clear HO107
       clear HO119
       clear BK101
       clear BK102
       clear BK103
       clear BK116
       clear BK120
       clear HB
       have HO107:=n0_
       have HO119:=n1_
       have BK101:=n2_
       have BK102:=n3_
       have BK103:=n4_
       have BK116:=n5_
       have BK120:=n6_
       have HB:=n7_
       clear n0_ n1_ n2_ n3_ n4_ n5_ n6_ n7_
       (try clear hb)
       (try clear hb2)
       (try clear hk)
       (try clear hi)
       refine hK.out _ _ ⟨(blk_cell BK120.out 0).trans rfl,(blk_cell BK102.out 0).trans rfl,(blk_cell BK102.out 1).trans rfl,(blk_cell BK102.out 2).trans rfl,(blk_cell BK103.out 0).trans rfl,(blk_cell BK103.out 1).trans rfl⟩ (fun hHeld => ?_)
       clear hK K
       refine norm_ (a':=?_) ?_ ?_
       rotate_left
       · show Act.put _ (some 30) _ = _
         simp only [Act.put,List.setIfInBounds_toArray,List.set_cons_zero,List.set_cons_succ,i64_w,i32_w]
         rfl
       refine two_ (i:=4) (j:=7) (Ni:=some 32) (Nj:=some 12) #[true,true,true,true,true,true,false,false,false] #[true,true,true,true,false,true,false,true,false] rfl rfl rfl rfl (two_of HT_.out (by kernel_rfl)) (by decide) (by decide) (fun K hK => ?_) (fun K hK => ?_)
       · skip
         refine goes_ Try.func41 (by kernel_rfl) rfl #[.agg #[.int .i64 a2_0,.int .i64 a2_1]] (by rfl) rfl rfl (by (try simp only [List.map_toArray,List.map_cons,List.map_nil]);first|done|rfl|(simp only [List.length_drop,List.length_take];rfl)) ?_
         with_reducible refine (laws_toSpot.calls a2_0 a2_1 t124 t125 _ A21.out).mono ?_
         rintro e w51 ⟨rfl,hb⟩
         refine ⟨_,rfl,?_⟩
         have n0_:=Aside0.mk (Kd.R_below (by (with_reducible repeat (first|apply Kd.R_alloc|apply Kd.R_drewN|apply Kd.R_drew));exact HO107.out) hb)
         have n1_:=Aside0.mk (Kd.R_below (by (with_reducible repeat (first|apply Kd.R_alloc|apply Kd.R_drewN|apply Kd.R_drew));exact HO119.out) hb)
         have n2_:=Aside0.mk (blk_below (g:=gb101) (o:=.cells #[.slice A0_0 l0_0.length c0_0] 56 (0,0)) (by (with_reducible repeat (first|refine blk_drewN ?_ _|refine blk_drew ?_|refine blk_alloc ?_ _));exact BK101.out) hb)
         have n3_:=Aside0.mk (blk_below (g:=gb102) (o:=.cells #[.int .i64 a1_0,.bool a1_1,.int .i64 a1_2] 23 (0,0)) (by (with_reducible repeat (first|refine blk_drewN ?_ _|refine blk_drew ?_|refine blk_alloc ?_ _));exact BK102.out) hb)
         have n4_:=Aside0.mk (blk_below (g:=gb103) (o:=.cells #[.int .i64 a2_0,.int .i64 a2_1] 58 (0,0)) (by (with_reducible repeat (first|refine blk_drewN ?_ _|refine blk_drew ?_|refine blk_alloc ?_ _));exact BK103.out) hb)
         have n5_:=Aside0.mk (blk_below (g:=gb116) (o:=.cells #[.int .i64 t113,.int .i64 t114,.int .i64 t115] 69 (0,0)) (by (with_reducible repeat (first|refine blk_drewN ?_ _|refine blk_drew ?_|refine blk_alloc ?_ _));exact BK116.out) hb)
         have n6_:=Aside0.mk (blk_below (g:=gb120) (o:=.cells #[.slice Ao42 t117.length co42] 61 (0,0)) (by (with_reducible repeat (first|refine blk_drewN ?_ _|refine blk_drew ?_|refine blk_alloc ?_ _));exact BK120.out) hb)
         have n7_:=Aside0.mk (below_step (by repeat (first|(with_reducible first|exact HB.out|apply below_alloc|apply pw_below_drewN|apply below_drew1|refine below_set ?_ GE101.out|refine below_set ?_ GE102.out|refine below_set ?_ GE103.out|refine below_set ?_ GE116.out|refine below_set ?_ GE120.out)|exact HB.out)) hb)
         clear HO107
         clear HO119
         clear BK101
         clear BK102
         clear BK103
         clear BK116
         clear BK120
         clear HB
         have HO107:=n0_
         have HO119:=n1_
         have BK101:=n2_
         have BK102:=n3_
         have BK103:=n4_
         have BK116:=n5_
         have BK120:=n6_
         have HB:=n7_
         clear n0_ n1_ n2_ n3_ n4_ n5_ n6_ n7_
         (try clear hb)
         (try clear hb2)
         (try clear hk)
         (try clear hi)
         refine hK.out _ _ ⟨(blk_cell BK120.out 0).trans rfl,(blk_cell BK102.out 0).trans rfl,(blk_cell BK102.out 1).trans rfl,(blk_cell BK102.out 2).trans rfl,(blk_cell BK103.out 0).trans rfl,(blk_cell BK103.out 1).trans rfl⟩ (fun hHeld => ?_)
         clear hK K
         refine norm_ (a':=?_) ?_ ?_
         rotate_left
         · show Act.put _ (some 32) _ = _
           simp only [Act.put,List.setIfInBounds_toArray,List.set_cons_zero,List.set_cons_succ,i64_w,i32_w]
           rfl
         refine two_ (i:=6) (j:=7) (Ni:=some 34) (Nj:=some 12) #[true,true,true,true,true,true,true,false,false] #[true,true,true,true,true,true,false,true,false] rfl rfl rfl rfl (two_of HT_.out (by kernel_rfl)) (by decide) (by decide) (fun K hK => ?_) (fun K hK => ?_)
         · skip
           refine goes_ Try.func49 (by kernel_rfl) rfl #[.agg #[.slice Ao42 t117.length co42],.agg #[.int .i64 t121,.bool t122,.int .i64 t123],.agg #[.int .i64 t124,.int .i64 t125],.int .i64 a3] (by rfl) rfl rfl (by (try simp only [List.map_toArray,List.map_cons,List.map_nil]);first|done|rfl|(simp only [List.length_drop,List.length_take];rfl)) ?_
           with_reducible refine (impl_MoveSpot.calls k _ _ t117 t121 t122 t123 t124 t125 a3 t126 t127 t128 _ ?side1 ?side2 A22.out).mono ?_
           (case side1 => repeat (first|exact (Kd.R_reads' HO119.out).2.2|(with_reducible refine Kd.C_alloc ?_ _)|(with_reducible refine Kd.C_drewN ?_ _)|(with_reducible refine Kd.C_drew ?_)))
           (case side2 => exact (Kd.R_reads' HO119.out).2.1)
           rintro e w52 ⟨rfl,hb⟩
           refine ⟨_,rfl,?_⟩
           have n0_:=Aside0.mk (Kd.R_below (by (with_reducible repeat (first|apply Kd.R_alloc|apply Kd.R_drewN|apply Kd.R_drew));exact HO107.out) hb)
           have n1_:=Aside0.mk (Kd.R_below (by (with_reducible repeat (first|apply Kd.R_alloc|apply Kd.R_drewN|apply Kd.R_drew));exact HO119.out) hb)
           have n2_:=Aside0.mk (blk_below (g:=gb101) (o:=.cells #[.slice A0_0 l0_0.length c0_0] 56 (0,0)) (by (with_reducible repeat (first|refine blk_drewN ?_ _|refine blk_drew ?_|refine blk_alloc ?_ _));exact BK101.out) hb)
           have n3_:=Aside0.mk (blk_below (g:=gb102) (o:=.cells #[.int .i64 a1_0,.bool a1_1,.int .i64 a1_2] 23 (0,0)) (by (with_reducible repeat (first|refine blk_drewN ?_ _|refine blk_drew ?_|refine blk_alloc ?_ _));exact BK102.out) hb)
           have n4_:=Aside0.mk (blk_below (g:=gb103) (o:=.cells #[.int .i64 a2_0,.int .i64 a2_1] 58 (0,0)) (by (with_reducible repeat (first|refine blk_drewN ?_ _|refine blk_drew ?_|refine blk_alloc ?_ _));exact BK103.out) hb)
           have n5_:=Aside0.mk (blk_below (g:=gb116) (o:=.cells #[.int .i64 t113,.int .i64 t114,.int .i64 t115] 69 (0,0)) (by (with_reducible repeat (first|refine blk_drewN ?_ _|refine blk_drew ?_|refine blk_alloc ?_ _));exact BK116.out) hb)
           have n6_:=Aside0.mk (blk_below (g:=gb120) (o:=.cells #[.slice Ao42 t117.length co42] 61 (0,0)) (by (with_reducible repeat (first|refine blk_drewN ?_ _|refine blk_drew ?_|refine blk_alloc ?_ _));exact BK120.out) hb)
           have n7_:=Aside0.mk (below_step (by repeat (first|(with_reducible first|exact HB.out|apply below_alloc|apply pw_below_drewN|apply below_drew1|refine below_set ?_ GE101.out|refine below_set ?_ GE102.out|refine below_set ?_ GE103.out|refine below_set ?_ GE116.out|refine below_set ?_ GE120.out)|exact HB.out)) hb)
           clear HO107
           clear HO119
           clear BK101
           clear BK102
           clear BK103
           clear BK116
           clear BK120
           clear HB
           have HO107:=n0_
           have HO119:=n1_
           have BK101:=n2_
           have BK102:=n3_
           have BK103:=n4_
           have BK116:=n5_
           have BK120:=n6_
           have HB:=n7_
           clear n0_ n1_ n2_ n3_ n4_ n5_ n6_ n7_
           (try clear hb)
           (try clear hb2)
           (try clear hk)
           (try clear hi)
           refine hK.out _ _ ⟨(blk_cell BK120.out 0).trans rfl,(blk_cell BK102.out 0).trans rfl,(blk_cell BK102.out 1).trans rfl,(blk_cell BK102.out 2).trans rfl,(blk_cell BK103.out 0).trans rfl,(blk_cell BK103.out 1).trans rfl⟩ (fun hHeld => ?_)
           clear hK K
           refine norm_ (a':=?_) ?_ ?_
           rotate_left
           · show Act.put _ (some 34) _ = _
             simp only [Act.put,List.setIfInBounds_toArray,List.set_cons_zero,List.set_cons_succ,i64_w,i32_w]
             rfl
           refine one_ (i:=7) (N:=some 12) #[true,true,true,true,true,true,true,true,false] rfl rfl (one_of HT_.out (by kernel_rfl)) (by decide) (fun K hK => ?_)
           refine box_step ?hg (N:=12) ?hd (cs:=#[.int .i64 0,.int .i64 0,.int .i64 0]) (t:=69) ?hr ?_;(case hd => rfl);(case hg => rfl);(case hr => first|(go_simp;done)|(go_simp;rfl))
           intro gb129 hg w53 hbox hb
           have n0_:=Aside0.mk (Kd.R_below (by (with_reducible repeat (first|apply Kd.R_alloc|apply Kd.R_drewN|apply Kd.R_drew));exact HO107.out) hb)
           have n1_:=Aside0.mk (Kd.R_below (by (with_reducible repeat (first|apply Kd.R_alloc|apply Kd.R_drewN|apply Kd.R_drew));exact HO119.out) hb)
           have n2_:=Aside0.mk (blk_below (g:=gb101) (o:=.cells #[.slice A0_0 l0_0.length c0_0] 56 (0,0)) (by (with_reducible repeat (first|refine blk_drewN ?_ _|refine blk_drew ?_|refine blk_alloc ?_ _));exact BK101.out) hb)
           have n3_:=Aside0.mk (blk_below (g:=gb102) (o:=.cells #[.int .i64 a1_0,.bool a1_1,.int .i64 a1_2] 23 (0,0)) (by (with_reducible repeat (first|refine blk_drewN ?_ _|refine blk_drew ?_|refine blk_alloc ?_ _));exact BK102.out) hb)
           have n4_:=Aside0.mk (blk_below (g:=gb103) (o:=.cells #[.int .i64 a2_0,.int .i64 a2_1] 58 (0,0)) (by (with_reducible repeat (first|refine blk_drewN ?_ _|refine blk_drew ?_|refine blk_alloc ?_ _));exact BK103.out) hb)
           have n5_:=Aside0.mk (blk_below (g:=gb116) (o:=.cells #[.int .i64 t113,.int .i64 t114,.int .i64 t115] 69 (0,0)) (by (with_reducible repeat (first|refine blk_drewN ?_ _|refine blk_drew ?_|refine blk_alloc ?_ _));exact BK116.out) hb)
           have n6_:=Aside0.mk (blk_below (g:=gb120) (o:=.cells #[.slice Ao42 t117.length co42] 61 (0,0)) (by (with_reducible repeat (first|refine blk_drewN ?_ _|refine blk_drew ?_|refine blk_alloc ?_ _));exact BK120.out) hb)
           have n7_:=Aside0.mk (below_step (by repeat (first|(with_reducible first|exact HB.out|apply below_alloc|apply pw_below_drewN|apply below_drew1|refine below_set ?_ GE101.out|refine below_set ?_ GE102.out|refine below_set ?_ GE103.out|refine below_set ?_ GE116.out|refine below_set ?_ GE120.out)|exact HB.out)) hb)
           have n8_:=Aside0.mk (hbox)
           have n9_:=Aside0.mk ((by rw [hg];exact (below_size (by repeat (first|(with_reducible first|exact HB.out|apply below_alloc|apply pw_below_drewN|apply below_drew1|refine below_set ?_ GE101.out|refine below_set ?_ GE102.out|refine below_set ?_ GE103.out|refine below_set ?_ GE116.out|refine below_set ?_ GE120.out)|exact HB.out))) : w.heap.size ≤ gb129))
           have n10_:=Aside0.mk ((by rw [hg];exact (below_size (by repeat (first|(with_reducible first|exact HB.out|apply below_alloc|apply pw_below_drewN|apply below_drew1|refine below_set ?_ GE101.out|refine below_set ?_ GE102.out|refine below_set ?_ GE103.out|refine below_set ?_ GE116.out|refine below_set ?_ GE120.out)|exact HB.out))) : w.heap.size ≤ gb129))
           have n11_:=Aside0.mk ((by rw [hg];exact Nat.ne_of_lt (blk_lt (g:=gb101) (o:=.cells #[.slice A0_0 l0_0.length c0_0] 56 (0,0)) (by (with_reducible repeat (first|refine blk_drewN ?_ _|refine blk_drew ?_|refine blk_alloc ?_ _));exact BK101.out)) : gb101 ≠ gb129))
           have n12_:=Aside0.mk ((by rw [hg];exact Nat.ne_of_gt (blk_lt (g:=gb101) (o:=.cells #[.slice A0_0 l0_0.length c0_0] 56 (0,0)) (by (with_reducible repeat (first|refine blk_drewN ?_ _|refine blk_drew ?_|refine blk_alloc ?_ _));exact BK101.out)) : gb129 ≠ gb101))
           have n13_:=Aside0.mk ((by rw [hg];exact Nat.ne_of_lt (blk_lt (g:=gb102) (o:=.cells #[.int .i64 a1_0,.bool a1_1,.int .i64 a1_2] 23 (0,0)) (by (with_reducible repeat (first|refine blk_drewN ?_ _|refine blk_drew ?_|refine blk_alloc ?_ _));exact BK102.out)) : gb102 ≠ gb129))
           have n14_:=Aside0.mk ((by rw [hg];exact Nat.ne_of_gt (blk_lt (g:=gb102) (o:=.cells #[.int .i64 a1_0,.bool a1_1,.int .i64 a1_2] 23 (0,0)) (by (with_reducible repeat (first|refine blk_drewN ?_ _|refine blk_drew ?_|refine blk_alloc ?_ _));exact BK102.out)) : gb129 ≠ gb102))
           have n15_:=Aside0.mk ((by rw [hg];exact Nat.ne_of_lt (blk_lt (g:=gb103) (o:=.cells #[.int .i64 a2_0,.int .i64 a2_1] 58 (0,0)) (by (with_reducible repeat (first|refine blk_drewN ?_ _|refine blk_drew ?_|refine blk_alloc ?_ _));exact BK103.out)) : gb103 ≠ gb129))
           have n16_:=Aside0.mk ((by rw [hg];exact Nat.ne_of_gt (blk_lt (g:=gb103) (o:=.cells #[.int .i64 a2_0,.int .i64 a2_1] 58 (0,0)) (by (with_reducible repeat (first|refine blk_drewN ?_ _|refine blk_drew ?_|refine blk_alloc ?_ _));exact BK103.out)) : gb129 ≠ gb103))
           have n17_:=Aside0.mk ((by rw [hg];exact Nat.ne_of_lt (blk_lt (g:=gb116) (o:=.cells #[.int .i64 t113,.int .i64 t114,.int .i64 t115] 69 (0,0)) (by (with_reducible repeat (first|refine blk_drewN ?_ _|refine blk_drew ?_|refine blk_alloc ?_ _));exact BK116.out)) : gb116 ≠ gb129))
           have n18_:=Aside0.mk ((by rw [hg];exact Nat.ne_of_gt (blk_lt (g:=gb116) (o:=.cells #[.int .i64 t113,.int .i64 t114,.int .i64 t115] 69 (0,0)) (by (with_reducible repeat (first|refine blk_drewN ?_ _|refine blk_drew ?_|refine blk_alloc ?_ _));exact BK116.out)) : gb129 ≠ gb116))
           have n19_:=Aside0.mk ((by rw [hg];exact Nat.ne_of_lt (blk_lt (g:=gb120) (o:=.cells #[.slice Ao42 t117.length co42] 61 (0,0)) (by (with_reducible repeat (first|refine blk_drewN ?_ _|refine blk_drew ?_|refine blk_alloc ?_ _));exact BK120.out)) : gb120 ≠ gb129))
           have n20_:=Aside0.mk ((by rw [hg];exact Nat.ne_of_gt (blk_lt (g:=gb120) (o:=.cells #[.slice Ao42 t117.length co42] 61 (0,0)) (by (with_reducible repeat (first|refine blk_drewN ?_ _|refine blk_drew ?_|refine blk_alloc ?_ _));exact BK120.out)) : gb129 ≠ gb120))
           clear HO107
           clear HO119
           clear BK101
           clear BK102
           clear BK103
           clear BK116
           clear BK120
           clear HB
           have HO107:=n0_
           have HO119:=n1_
           have BK101:=n2_
           have BK102:=n3_
           have BK103:=n4_
           have BK116:=n5_
           have BK120:=n6_
           have HB:=n7_
           have BK129:=n8_
           have GW129:=n9_
           have GE129:=n10_
           have NB101_129:=n11_
           have NB129_101:=n12_
           have NB102_129:=n13_
           have NB129_102:=n14_
           have NB103_129:=n15_
           have NB129_103:=n16_
           have NB116_129:=n17_
           have NB129_116:=n18_
           have NB120_129:=n19_
           have NB129_120:=n20_
           clear n0_ n1_ n2_ n3_ n4_ n5_ n6_ n7_ n8_ n9_ n10_ n11_ n12_ n13_ n14_ n15_ n16_ n17_ n18_ n19_ n20_
           clear hb hbox hg
           refine hK.out _ _ ⟨(blk_cell BK120.out 0).trans rfl,(blk_cell BK102.out 0).trans rfl,(blk_cell BK102.out 1).trans rfl,(blk_cell BK102.out 2).trans rfl,(blk_cell BK103.out 0).trans rfl,(blk_cell BK103.out 1).trans rfl⟩ (fun hHeld => ?_)
           clear hK K
           refine norm_ (a':=?_) ?_ ?_
           rotate_left
           · show Act.put _ (some 12) _ = _
             simp only [Act.put,List.setIfInBounds_toArray,List.set_cons_zero,List.set_cons_succ,i64_w,i32_w]
             rfl
           exact norm_ (by simp only [putAll,Act.put,List.setIfInBounds_toArray,List.set_cons_zero,List.set_cons_succ]) (hCont (gb129) _ ⟨hHeld,(by (with_reducible repeat (first|apply Kd.R_alloc|apply Kd.R_drewN|apply Kd.R_drew));exact HO107.out),(by (with_reducible repeat (first|apply Kd.R_alloc|apply Kd.R_drewN|apply Kd.R_drew));exact HO119.out),(by (with_reducible repeat (first|refine blk_drewN ?_ _|refine blk_drew ?_|refine blk_alloc ?_ _));exact BK101.out),(by (with_reducible repeat (first|refine blk_drewN ?_ _|refine blk_drew ?_|refine blk_alloc ?_ _));exact BK102.out),(by (with_reducible repeat (first|refine blk_drewN ?_ _|refine blk_drew ?_|refine blk_alloc ?_ _));exact BK103.out),(by (with_reducible repeat (first|refine blk_drewN ?_ _|refine blk_drew ?_|refine blk_alloc ?_ _));exact BK116.out),(by (with_reducible repeat (first|refine blk_drewN ?_ _|refine blk_drew ?_|refine blk_alloc ?_ _));exact BK120.out),(by (with_reducible repeat (first|refine blk_drewN ?_ _|refine blk_drew ?_|refine blk_alloc ?_ _));exact BK129.out),GW129.out,GE129.out,NB101_129.out,NB129_101.out,NB102_129.out,NB129_102.out,NB103_129.out,NB129_103.out,NB116_129.out,NB129_116.out,NB120_129.out,NB129_120.out,(by repeat (first|(with_reducible first|exact HB.out|apply below_alloc|apply pw_below_drewN|apply below_drew1|refine below_set ?_ GE101.out|refine below_set ?_ GE102.out|refine below_set ?_ GE103.out|refine below_set ?_ GE116.out|refine below_set ?_ GE120.out|refine below_set ?_ GE129.out)|exact HB.out))⟩)
         · skip
           refine box_step ?hg (N:=12) ?hd (cs:=#[.int .i64 0,.int .i64 0,.int .i64 0]) (t:=69) ?hr ?_;(case hd => rfl);(case hg => rfl);(case hr => first|(go_simp;done)|(go_simp;rfl))
           intro gb129 hg w52 hbox hb
           have n0_:=Aside0.mk (Kd.R_below (by (with_reducible repeat (first|apply Kd.R_alloc|apply Kd.R_drewN|apply Kd.R_drew));exact HO107.out) hb)
           have n1_:=Aside0.mk (Kd.R_below (by (with_reducible repeat (first|apply Kd.R_alloc|apply Kd.R_drewN|apply Kd.R_drew));exact HO119.out) hb)
           have n2_:=Aside0.mk (blk_below (g:=gb101) (o:=.cells #[.slice A0_0 l0_0.length c0_0] 56 (0,0)) (by (with_reducible repeat (first|refine blk_drewN ?_ _|refine blk_drew ?_|refine blk_alloc ?_ _));exact BK101.out) hb)
           have n3_:=Aside0.mk (blk_below (g:=gb102) (o:=.cells #[.int .i64 a1_0,.bool a1_1,.int .i64 a1_2] 23 (0,0)) (by (with_reducible repeat (first|refine blk_drewN ?_ _|refine blk_drew ?_|refine blk_alloc ?_ _));exact BK102.out) hb)
           have n4_:=Aside0.mk (blk_below (g:=gb103) (o:=.cells #[.int .i64 a2_0,.int .i64 a2_1] 58 (0,0)) (by (with_reducible repeat (first|refine blk_drewN ?_ _|refine blk_drew ?_|refine blk_alloc ?_ _));exact BK103.out) hb)
           have n5_:=Aside0.mk (blk_below (g:=gb116) (o:=.cells #[.int .i64 t113,.int .i64 t114,.int .i64 t115] 69 (0,0)) (by (with_reducible repeat (first|refine blk_drewN ?_ _|refine blk_drew ?_|refine blk_alloc ?_ _));exact BK116.out) hb)
           have n6_:=Aside0.mk (blk_below (g:=gb120) (o:=.cells #[.slice Ao42 t117.length co42] 61 (0,0)) (by (with_reducible repeat (first|refine blk_drewN ?_ _|refine blk_drew ?_|refine blk_alloc ?_ _));exact BK120.out) hb)
           have n7_:=Aside0.mk (below_step (by repeat (first|(with_reducible first|exact HB.out|apply below_alloc|apply pw_below_drewN|apply below_drew1|refine below_set ?_ GE101.out|refine below_set ?_ GE102.out|refine below_set ?_ GE103.out|refine below_set ?_ GE116.out|refine below_set ?_ GE120.out)|exact HB.out)) hb)
           have n8_:=Aside0.mk (hbox)
           have n9_:=Aside0.mk ((by rw [hg];exact (below_size (by repeat (first|(with_reducible first|exact HB.out|apply below_alloc|apply pw_below_drewN|apply below_drew1|refine below_set ?_ GE101.out|refine below_set ?_ GE102.out|refine below_set ?_ GE103.out|refine below_set ?_ GE116.out|refine below_set ?_ GE120.out)|exact HB.out))) : w.heap.size ≤ gb129))
           have n10_:=Aside0.mk ((by rw [hg];exact (below_size (by repeat (first|(with_reducible first|exact HB.out|apply below_alloc|apply pw_below_drewN|apply below_drew1|refine below_set ?_ GE101.out|refine below_set ?_ GE102.out|refine below_set ?_ GE103.out|refine below_set ?_ GE116.out|refine below_set ?_ GE120.out)|exact HB.out))) : w.heap.size ≤ gb129))
           have n11_:=Aside0.mk ((by rw [hg];exact Nat.ne_of_lt (blk_lt (g:=gb101) (o:=.cells #[.slice A0_0 l0_0.length c0_0] 56 (0,0)) (by (with_reducible repeat (first|refine blk_drewN ?_ _|refine blk_drew ?_|refine blk_alloc ?_ _));exact BK101.out)) : gb101 ≠ gb129))
           have n12_:=Aside0.mk ((by rw [hg];exact Nat.ne_of_gt (blk_lt (g:=gb101) (o:=.cells #[.slice A0_0 l0_0.length c0_0] 56 (0,0)) (by (with_reducible repeat (first|refine blk_drewN ?_ _|refine blk_drew ?_|refine blk_alloc ?_ _));exact BK101.out)) : gb129 ≠ gb101))
           have n13_:=Aside0.mk ((by rw [hg];exact Nat.ne_of_lt (blk_lt (g:=gb102) (o:=.cells #[.int .i64 a1_0,.bool a1_1,.int .i64 a1_2] 23 (0,0)) (by (with_reducible repeat (first|refine blk_drewN ?_ _|refine blk_drew ?_|refine blk_alloc ?_ _));exact BK102.out)) : gb102 ≠ gb129))
           have n14_:=Aside0.mk ((by rw [hg];exact Nat.ne_of_gt (blk_lt (g:=gb102) (o:=.cells #[.int .i64 a1_0,.bool a1_1,.int .i64 a1_2] 23 (0,0)) (by (with_reducible repeat (first|refine blk_drewN ?_ _|refine blk_drew ?_|refine blk_alloc ?_ _));exact BK102.out)) : gb129 ≠ gb102))
           have n15_:=Aside0.mk ((by rw [hg];exact Nat.ne_of_lt (blk_lt (g:=gb103) (o:=.cells #[.int .i64 a2_0,.int .i64 a2_1] 58 (0,0)) (by (with_reducible repeat (first|refine blk_drewN ?_ _|refine blk_drew ?_|refine blk_alloc ?_ _));exact BK103.out)) : gb103 ≠ gb129))
           have n16_:=Aside0.mk ((by rw [hg];exact Nat.ne_of_gt (blk_lt (g:=gb103) (o:=.cells #[.int .i64 a2_0,.int .i64 a2_1] 58 (0,0)) (by (with_reducible repeat (first|refine blk_drewN ?_ _|refine blk_drew ?_|refine blk_alloc ?_ _));exact BK103.out)) : gb129 ≠ gb103))
           have n17_:=Aside0.mk ((by rw [hg];exact Nat.ne_of_lt (blk_lt (g:=gb116) (o:=.cells #[.int .i64 t113,.int .i64 t114,.int .i64 t115] 69 (0,0)) (by (with_reducible repeat (first|refine blk_drewN ?_ _|refine blk_drew ?_|refine blk_alloc ?_ _));exact BK116.out)) : gb116 ≠ gb129))
           have n18_:=Aside0.mk ((by rw [hg];exact Nat.ne_of_gt (blk_lt (g:=gb116) (o:=.cells #[.int .i64 t113,.int .i64 t114,.int .i64 t115] 69 (0,0)) (by (with_reducible repeat (first|refine blk_drewN ?_ _|refine blk_drew ?_|refine blk_alloc ?_ _));exact BK116.out)) : gb129 ≠ gb116))
           have n19_:=Aside0.mk ((by rw [hg];exact Nat.ne_of_lt (blk_lt (g:=gb120) (o:=.cells #[.slice Ao42 t117.length co42] 61 (0,0)) (by (with_reducible repeat (first|refine blk_drewN ?_ _|refine blk_drew ?_|refine blk_alloc ?_ _));exact BK120.out)) : gb120 ≠ gb129))
           have n20_:=Aside0.mk ((by rw [hg];exact Nat.ne_of_gt (blk_lt (g:=gb120) (o:=.cells #[.slice Ao42 t117.length co42] 61 (0,0)) (by (with_reducible repeat (first|refine blk_drewN ?_ _|refine blk_drew ?_|refine blk_alloc ?_ _));exact BK120.out)) : gb129 ≠ gb120))
           clear HO107
           clear HO119
           clear BK101
           clear BK102
           clear BK103
           clear BK116
           clear BK120
           clear HB
           have HO107:=n0_
           have HO119:=n1_
           have BK101:=n2_
           have BK102:=n3_
           have BK103:=n4_
           have BK116:=n5_
           have BK120:=n6_
           have HB:=n7_
           have BK129:=n8_
           have GW129:=n9_
           have GE129:=n10_
           have NB101_129:=n11_
           have NB129_101:=n12_
           have NB102_129:=n13_
           have NB129_102:=n14_
           have NB103_129:=n15_
           have NB129_103:=n16_
           have NB116_129:=n17_
           have NB129_116:=n18_
           have NB120_129:=n19_
           have NB129_120:=n20_
           clear n0_ n1_ n2_ n3_ n4_ n5_ n6_ n7_ n8_ n9_ n10_ n11_ n12_ n13_ n14_ n15_ n16_ n17_ n18_ n19_ n20_
           clear hb hbox hg
           refine hK.out _ _ ⟨(blk_cell BK120.out 0).trans rfl,(blk_cell BK102.out 0).trans rfl,(blk_cell BK102.out 1).trans rfl,(blk_cell BK102.out 2).trans rfl,(blk_cell BK103.out 0).trans rfl,(blk_cell BK103.out 1).trans rfl⟩ (fun hHeld => ?_)
           clear hK K
           refine norm_ (a':=?_) ?_ ?_
           rotate_left
           · show Act.put _ (some 12) _ = _
             simp only [Act.put,List.setIfInBounds_toArray,List.set_cons_zero,List.set_cons_succ,i64_w,i32_w]
             rfl
           refine one_ (i:=6) (N:=some 34) #[true,true,true,true,true,true,true,true,false] rfl rfl (one_of HT_.out (by kernel_rfl)) (by decide) (fun K hK => ?_)
           refine goes_ Try.func49 (by kernel_rfl) rfl #[.agg #[.slice Ao42 t117.length co42],.agg #[.int .i64 t121,.bool t122,.int .i64 t123],.agg #[.int .i64 t124,.int .i64 t125],.int .i64 a3] (by rfl) rfl rfl (by (try simp only [List.map_toArray,List.map_cons,List.map_nil]);first|done|rfl|(simp only [List.length_drop,List.length_take];rfl)) ?_
           with_reducible refine (impl_MoveSpot.calls k _ _ t117 t121 t122 t123 t124 t125 a3 t126 t127 t128 _ ?side1 ?side2 A22.out).mono ?_
           (case side1 => repeat (first|exact (Kd.R_reads' HO119.out).2.2|(with_reducible refine Kd.C_alloc ?_ _)|(with_reducible refine Kd.C_drewN ?_ _)|(with_reducible refine Kd.C_drew ?_)))
           (case side2 => exact (Kd.R_reads' HO119.out).2.1)
           rintro e w53 ⟨rfl,hb⟩
           refine ⟨_,rfl,?_⟩
           have n0_:=Aside0.mk (Kd.R_below (by (with_reducible repeat (first|apply Kd.R_alloc|apply Kd.R_drewN|apply Kd.R_drew));exact HO107.out) hb)
           have n1_:=Aside0.mk (Kd.R_below (by (with_reducible repeat (first|apply Kd.R_alloc|apply Kd.R_drewN|apply Kd.R_drew));exact HO119.out) hb)
           have n2_:=Aside0.mk (blk_below (g:=gb101) (o:=.cells #[.slice A0_0 l0_0.length c0_0] 56 (0,0)) (by (with_reducible repeat (first|refine blk_drewN ?_ _|refine blk_drew ?_|refine blk_alloc ?_ _));exact BK101.out) hb)
           have n3_:=Aside0.mk (blk_below (g:=gb102) (o:=.cells #[.int .i64 a1_0,.bool a1_1,.int .i64 a1_2] 23 (0,0)) (by (with_reducible repeat (first|refine blk_drewN ?_ _|refine blk_drew ?_|refine blk_alloc ?_ _));exact BK102.out) hb)
           have n4_:=Aside0.mk (blk_below (g:=gb103) (o:=.cells #[.int .i64 a2_0,.int .i64 a2_1] 58 (0,0)) (by (with_reducible repeat (first|refine blk_drewN ?_ _|refine blk_drew ?_|refine blk_alloc ?_ _));exact BK103.out) hb)
           have n5_:=Aside0.mk (blk_below (g:=gb116) (o:=.cells #[.int .i64 t113,.int .i64 t114,.int .i64 t115] 69 (0,0)) (by (with_reducible repeat (first|refine blk_drewN ?_ _|refine blk_drew ?_|refine blk_alloc ?_ _));exact BK116.out) hb)
           have n6_:=Aside0.mk (blk_below (g:=gb120) (o:=.cells #[.slice Ao42 t117.length co42] 61 (0,0)) (by (with_reducible repeat (first|refine blk_drewN ?_ _|refine blk_drew ?_|refine blk_alloc ?_ _));exact BK120.out) hb)
           have n7_:=Aside0.mk (blk_below (g:=gb129) (o:=.cells #[.int .i64 0,.int .i64 0,.int .i64 0] 69 (0,0)) (by (with_reducible repeat (first|refine blk_drewN ?_ _|refine blk_drew ?_|refine blk_alloc ?_ _));exact BK129.out) hb)
           have n8_:=Aside0.mk (below_step (by repeat (first|(with_reducible first|exact HB.out|apply below_alloc|apply pw_below_drewN|apply below_drew1|refine below_set ?_ GE101.out|refine below_set ?_ GE102.out|refine below_set ?_ GE103.out|refine below_set ?_ GE116.out|refine below_set ?_ GE120.out|refine below_set ?_ GE129.out)|exact HB.out)) hb)
           clear HO107
           clear HO119
           clear BK101
           clear BK102
           clear BK103
           clear BK116
           clear BK120
           clear BK129
           clear HB
           have HO107:=n0_
           have HO119:=n1_
           have BK101:=n2_
           have BK102:=n3_
           have BK103:=n4_
           have BK116:=n5_
           have BK120:=n6_
           have BK129:=n7_
           have HB:=n8_
           clear n0_ n1_ n2_ n3_ n4_ n5_ n6_ n7_ n8_
           (try clear hb)
           (try clear hb2)
           (try clear hk)
           (try clear hi)
           refine hK.out _ _ ⟨(blk_cell BK120.out 0).trans rfl,(blk_cell BK102.out 0).trans rfl,(blk_cell BK102.out 1).trans rfl,(blk_cell BK102.out 2).trans rfl,(blk_cell BK103.out 0).trans rfl,(blk_cell BK103.out 1).trans rfl⟩ (fun hHeld => ?_)
           clear hK K
           refine norm_ (a':=?_) ?_ ?_
           rotate_left
           · show Act.put _ (some 34) _ = _
             simp only [Act.put,List.setIfInBounds_toArray,List.set_cons_zero,List.set_cons_succ,i64_w,i32_w]
             rfl
           exact norm_ (by simp only [putAll,Act.put,List.setIfInBounds_toArray,List.set_cons_zero,List.set_cons_succ]) (hCont (gb129) _ ⟨hHeld,(by (with_reducible repeat (first|apply Kd.R_alloc|apply Kd.R_drewN|apply Kd.R_drew));exact HO107.out),(by (with_reducible repeat (first|apply Kd.R_alloc|apply Kd.R_drewN|apply Kd.R_drew));exact HO119.out),(by (with_reducible repeat (first|refine blk_drewN ?_ _|refine blk_drew ?_|refine blk_alloc ?_ _));exact BK101.out),(by (with_reducible repeat (first|refine blk_drewN ?_ _|refine blk_drew ?_|refine blk_alloc ?_ _));exact BK102.out),(by (with_reducible repeat (first|refine blk_drewN ?_ _|refine blk_drew ?_|refine blk_alloc ?_ _));exact BK103.out),(by (with_reducible repeat (first|refine blk_drewN ?_ _|refine blk_drew ?_|refine blk_alloc ?_ _));exact BK116.out),(by (with_reducible repeat (first|refine blk_drewN ?_ _|refine blk_drew ?_|refine blk_alloc ?_ _));exact BK120.out),(by (with_reducible repeat (first|refine blk_drewN ?_ _|refine blk_drew ?_|refine blk_alloc ?_ _));exact BK129.out),GW129.out,GE129.out,NB101_129.out,NB129_101.out,NB102_129.out,NB129_102.out,NB103_129.out,NB129_103.out,NB116_129.out,NB129_116.out,NB120_129.out,NB129_120.out,(by repeat (first|(with_reducible first|exact HB.out|apply below_alloc|apply pw_below_drewN|apply below_drew1|refine below_set ?_ GE101.out|refine below_set ?_ GE102.out|refine below_set ?_ GE103.out|refine below_set ?_ GE116.out|refine below_set ?_ GE120.out|refine below_set ?_ GE129.out)|exact HB.out))⟩)
       · skip
         refine box_step ?hg (N:=12) ?hd (cs:=#[.int .i64 0,.int .i64 0,.int .i64 0]) (t:=69) ?hr ?_;(case hd => rfl);(case hg => rfl);(case hr => first|(go_simp;done)|(go_simp;rfl))
         intro gb129 hg w51 hbox hb
         have n0_:=Aside0.mk (Kd.R_below (by (with_reducible repeat (first|apply Kd.R_alloc|apply Kd.R_drewN|apply Kd.R_drew));exact HO107.out) hb)
         have n1_:=Aside0.mk (Kd.R_below (by (with_reducible repeat (first|apply Kd.R_alloc|apply Kd.R_drewN|apply Kd.R_drew));exact HO119.out) hb)
         have n2_:=Aside0.mk (blk_below (g:=gb101) (o:=.cells #[.slice A0_0 l0_0.length c0_0] 56 (0,0)) (by (with_reducible repeat (first|refine blk_drewN ?_ _|refine blk_drew ?_|refine blk_alloc ?_ _));exact BK101.out) hb)
         have n3_:=Aside0.mk (blk_below (g:=gb102) (o:=.cells #[.int .i64 a1_0,.bool a1_1,.int .i64 a1_2] 23 (0,0)) (by (with_reducible repeat (first|refine blk_drewN ?_ _|refine blk_drew ?_|refine blk_alloc ?_ _));exact BK102.out) hb)
         have n4_:=Aside0.mk (blk_below (g:=gb103) (o:=.cells #[.int .i64 a2_0,.int .i64 a2_1] 58 (0,0)) (by (with_reducible repeat (first|refine blk_drewN ?_ _|refine blk_drew ?_|refine blk_alloc ?_ _));exact BK103.out) hb)
         have n5_:=Aside0.mk (blk_below (g:=gb116) (o:=.cells #[.int .i64 t113,.int .i64 t114,.int .i64 t115] 69 (0,0)) (by (with_reducible repeat (first|refine blk_drewN ?_ _|refine blk_drew ?_|refine blk_alloc ?_ _));exact BK116.out) hb)
         have n6_:=Aside0.mk (blk_below (g:=gb120) (o:=.cells #[.slice Ao42 t117.length co42] 61 (0,0)) (by (with_reducible repeat (first|refine blk_drewN ?_ _|refine blk_drew ?_|refine blk_alloc ?_ _));exact BK120.out) hb)
         have n7_:=Aside0.mk (below_step (by repeat (first|(with_reducible first|exact HB.out|apply below_alloc|apply pw_below_drewN|apply below_drew1|refine below_set ?_ GE101.out|refine below_set ?_ GE102.out|refine below_set ?_ GE103.out|refine below_set ?_ GE116.out|refine below_set ?_ GE120.out)|exact HB.out)) hb)
         have n8_:=Aside0.mk (hbox)
         have n9_:=Aside0.mk ((by rw [hg];exact (below_size (by repeat (first|(with_reducible first|exact HB.out|apply below_alloc|apply pw_below_drewN|apply below_drew1|refine below_set ?_ GE101.out|refine below_set ?_ GE102.out|refine below_set ?_ GE103.out|refine below_set ?_ GE116.out|refine below_set ?_ GE120.out)|exact HB.out))) : w.heap.size ≤ gb129))
         have n10_:=Aside0.mk ((by rw [hg];exact (below_size (by repeat (first|(with_reducible first|exact HB.out|apply below_alloc|apply pw_below_drewN|apply below_drew1|refine below_set ?_ GE101.out|refine below_set ?_ GE102.out|refine below_set ?_ GE103.out|refine below_set ?_ GE116.out|refine below_set ?_ GE120.out)|exact HB.out))) : w.heap.size ≤ gb129))
         have n11_:=Aside0.mk ((by rw [hg];exact Nat.ne_of_lt (blk_lt (g:=gb101) (o:=.cells #[.slice A0_0 l0_0.length c0_0] 56 (0,0)) (by (with_reducible repeat (first|refine blk_drewN ?_ _|refine blk_drew ?_|refine blk_alloc ?_ _));exact BK101.out)) : gb101 ≠ gb129))
         have n12_:=Aside0.mk ((by rw [hg];exact Nat.ne_of_gt (blk_lt (g:=gb101) (o:=.cells #[.slice A0_0 l0_0.length c0_0] 56 (0,0)) (by (with_reducible repeat (first|refine blk_drewN ?_ _|refine blk_drew ?_|refine blk_alloc ?_ _));exact BK101.out)) : gb129 ≠ gb101))
         have n13_:=Aside0.mk ((by rw [hg];exact Nat.ne_of_lt (blk_lt (g:=gb102) (o:=.cells #[.int .i64 a1_0,.bool a1_1,.int .i64 a1_2] 23 (0,0)) (by (with_reducible repeat (first|refine blk_drewN ?_ _|refine blk_drew ?_|refine blk_alloc ?_ _));exact BK102.out)) : gb102 ≠ gb129))
         have n14_:=Aside0.mk ((by rw [hg];exact Nat.ne_of_gt (blk_lt (g:=gb102) (o:=.cells #[.int .i64 a1_0,.bool a1_1,.int .i64 a1_2] 23 (0,0)) (by (with_reducible repeat (first|refine blk_drewN ?_ _|refine blk_drew ?_|refine blk_alloc ?_ _));exact BK102.out)) : gb129 ≠ gb102))
         have n15_:=Aside0.mk ((by rw [hg];exact Nat.ne_of_lt (blk_lt (g:=gb103) (o:=.cells #[.int .i64 a2_0,.int .i64 a2_1] 58 (0,0)) (by (with_reducible repeat (first|refine blk_drewN ?_ _|refine blk_drew ?_|refine blk_alloc ?_ _));exact BK103.out)) : gb103 ≠ gb129))
         have n16_:=Aside0.mk ((by rw [hg];exact Nat.ne_of_gt (blk_lt (g:=gb103) (o:=.cells #[.int .i64 a2_0,.int .i64 a2_1] 58 (0,0)) (by (with_reducible repeat (first|refine blk_drewN ?_ _|refine blk_drew ?_|refine blk_alloc ?_ _));exact BK103.out)) : gb129 ≠ gb103))
         have n17_:=Aside0.mk ((by rw [hg];exact Nat.ne_of_lt (blk_lt (g:=gb116) (o:=.cells #[.int .i64 t113,.int .i64 t114,.int .i64 t115] 69 (0,0)) (by (with_reducible repeat (first|refine blk_drewN ?_ _|refine blk_drew ?_|refine blk_alloc ?_ _));exact BK116.out)) : gb116 ≠ gb129))
         have n18_:=Aside0.mk ((by rw [hg];exact Nat.ne_of_gt (blk_lt (g:=gb116) (o:=.cells #[.int .i64 t113,.int .i64 t114,.int .i64 t115] 69 (0,0)) (by (with_reducible repeat (first|refine blk_drewN ?_ _|refine blk_drew ?_|refine blk_alloc ?_ _));exact BK116.out)) : gb129 ≠ gb116))
         have n19_:=Aside0.mk ((by rw [hg];exact Nat.ne_of_lt (blk_lt (g:=gb120) (o:=.cells #[.slice Ao42 t117.length co42] 61 (0,0)) (by (with_reducible repeat (first|refine blk_drewN ?_ _|refine blk_drew ?_|refine blk_alloc ?_ _));exact BK120.out)) : gb120 ≠ gb129))
         have n20_:=Aside0.mk ((by rw [hg];exact Nat.ne_of_gt (blk_lt (g:=gb120) (o:=.cells #[.slice Ao42 t117.length co42] 61 (0,0)) (by (with_reducible repeat (first|refine blk_drewN ?_ _|refine blk_drew ?_|refine blk_alloc ?_ _));exact BK120.out)) : gb129 ≠ gb120))
         clear HO107
         clear HO119
         clear BK101
         clear BK102
         clear BK103
         clear BK116
         clear BK120
         clear HB
         have HO107:=n0_
         have HO119:=n1_
         have BK101:=n2_
         have BK102:=n3_
         have BK103:=n4_
         have BK116:=n5_
         have BK120:=n6_
         have HB:=n7_
         have BK129:=n8_
         have GW129:=n9_
         have GE129:=n10_
         have NB101_129:=n11_
         have NB129_101:=n12_
         have NB102_129:=n13_
         have NB129_102:=n14_
         have NB103_129:=n15_
         have NB129_103:=n16_
         have NB116_129:=n17_
         have NB129_116:=n18_
         have NB120_129:=n19_
         have NB129_120:=n20_
         clear n0_ n1_ n2_ n3_ n4_ n5_ n6_ n7_ n8_ n9_ n10_ n11_ n12_ n13_ n14_ n15_ n16_ n17_ n18_ n19_ n20_
         clear hb hbox hg
         refine hK.out _ _ ⟨(blk_cell BK120.out 0).trans rfl,(blk_cell BK102.out 0).trans rfl,(blk_cell BK102.out 1).trans rfl,(blk_cell BK102.out 2).trans rfl,(blk_cell BK103.out 0).trans rfl,(blk_cell BK103.out 1).trans rfl⟩ (fun hHeld => ?_)
         clear hK K
         refine norm_ (a':=?_) ?_ ?_
         rotate_left
         · show Act.put _ (some 12) _ = _
           simp only [Act.put,List.setIfInBounds_toArray,List.set_cons_zero,List.set_cons_succ,i64_w,i32_w]
           rfl
         refine one_ (i:=4) (N:=some 32) #[true,true,true,true,true,true,false,true,false] rfl rfl (one_of HT_.out (by kernel_rfl)) (by decide) (fun K hK => ?_)
         refine goes_ Try.func41 (by kernel_rfl) rfl #[.agg #[.int .i64 a2_0,.int .i64 a2_1]] (by rfl) rfl rfl (by (try simp only [List.map_toArray,List.map_cons,List.map_nil]);first|done|rfl|(simp only [List.length_drop,List.length_take];rfl)) ?_
         with_reducible refine (laws_toSpot.calls a2_0 a2_1 t124 t125 _ A21.out).mono ?_
         rintro e w52 ⟨rfl,hb⟩
         refine ⟨_,rfl,?_⟩
         have n0_:=Aside0.mk (Kd.R_below (by (with_reducible repeat (first|apply Kd.R_alloc|apply Kd.R_drewN|apply Kd.R_drew));exact HO107.out) hb)
         have n1_:=Aside0.mk (Kd.R_below (by (with_reducible repeat (first|apply Kd.R_alloc|apply Kd.R_drewN|apply Kd.R_drew));exact HO119.out) hb)
         have n2_:=Aside0.mk (blk_below (g:=gb101) (o:=.cells #[.slice A0_0 l0_0.length c0_0] 56 (0,0)) (by (with_reducible repeat (first|refine blk_drewN ?_ _|refine blk_drew ?_|refine blk_alloc ?_ _));exact BK101.out) hb)
         have n3_:=Aside0.mk (blk_below (g:=gb102) (o:=.cells #[.int .i64 a1_0,.bool a1_1,.int .i64 a1_2] 23 (0,0)) (by (with_reducible repeat (first|refine blk_drewN ?_ _|refine blk_drew ?_|refine blk_alloc ?_ _));exact BK102.out) hb)
         have n4_:=Aside0.mk (blk_below (g:=gb103) (o:=.cells #[.int .i64 a2_0,.int .i64 a2_1] 58 (0,0)) (by (with_reducible repeat (first|refine blk_drewN ?_ _|refine blk_drew ?_|refine blk_alloc ?_ _));exact BK103.out) hb)
         have n5_:=Aside0.mk (blk_below (g:=gb116) (o:=.cells #[.int .i64 t113,.int .i64 t114,.int .i64 t115] 69 (0,0)) (by (with_reducible repeat (first|refine blk_drewN ?_ _|refine blk_drew ?_|refine blk_alloc ?_ _));exact BK116.out) hb)
         have n6_:=Aside0.mk (blk_below (g:=gb120) (o:=.cells #[.slice Ao42 t117.length co42] 61 (0,0)) (by (with_reducible repeat (first|refine blk_drewN ?_ _|refine blk_drew ?_|refine blk_alloc ?_ _));exact BK120.out) hb)
         have n7_:=Aside0.mk (blk_below (g:=gb129) (o:=.cells #[.int .i64 0,.int .i64 0,.int .i64 0] 69 (0,0)) (by (with_reducible repeat (first|refine blk_drewN ?_ _|refine blk_drew ?_|refine blk_alloc ?_ _));exact BK129.out) hb)
         have n8_:=Aside0.mk (below_step (by repeat (first|(with_reducible first|exact HB.out|apply below_alloc|apply pw_below_drewN|apply below_drew1|refine below_set ?_ GE101.out|refine below_set ?_ GE102.out|refine below_set ?_ GE103.out|refine below_set ?_ GE116.out|refine below_set ?_ GE120.out|refine below_set ?_ GE129.out)|exact HB.out)) hb)
         clear HO107
         clear HO119
         clear BK101
         clear BK102
         clear BK103
         clear BK116
         clear BK120
         clear BK129
         clear HB
         have HO107:=n0_
         have HO119:=n1_
         have BK101:=n2_
         have BK102:=n3_
         have BK103:=n4_
         have BK116:=n5_
         have BK120:=n6_
         have BK129:=n7_
         have HB:=n8_
         clear n0_ n1_ n2_ n3_ n4_ n5_ n6_ n7_ n8_
         (try clear hb)
         (try clear hb2)
         (try clear hk)
         (try clear hi)
         refine hK.out _ _ ⟨(blk_cell BK120.out 0).trans rfl,(blk_cell BK102.out 0).trans rfl,(blk_cell BK102.out 1).trans rfl,(blk_cell BK102.out 2).trans rfl,(blk_cell BK103.out 0).trans rfl,(blk_cell BK103.out 1).trans rfl⟩ (fun hHeld => ?_)
         clear hK K
         refine norm_ (a':=?_) ?_ ?_
         rotate_left
         · show Act.put _ (some 32) _ = _
           simp only [Act.put,List.setIfInBounds_toArray,List.set_cons_zero,List.set_cons_succ,i64_w,i32_w]
           rfl
         refine one_ (i:=6) (N:=some 34) #[true,true,true,true,true,true,true,true,false] rfl rfl (one_of HT_.out (by kernel_rfl)) (by decide) (fun K hK => ?_)
         refine goes_ Try.func49 (by kernel_rfl) rfl #[.agg #[.slice Ao42 t117.length co42],.agg #[.int .i64 t121,.bool t122,.int .i64 t123],.agg #[.int .i64 t124,.int .i64 t125],.int .i64 a3] (by rfl) rfl rfl (by (try simp only [List.map_toArray,List.map_cons,List.map_nil]);first|done|rfl|(simp only [List.length_drop,List.length_take];rfl)) ?_
         with_reducible refine (impl_MoveSpot.calls k _ _ t117 t121 t122 t123 t124 t125 a3 t126 t127 t128 _ ?side1 ?side2 A22.out).mono ?_
         (case side1 => repeat (first|exact (Kd.R_reads' HO119.out).2.2|(with_reducible refine Kd.C_alloc ?_ _)|(with_reducible refine Kd.C_drewN ?_ _)|(with_reducible refine Kd.C_drew ?_)))
         (case side2 => exact (Kd.R_reads' HO119.out).2.1)
         rintro e w53 ⟨rfl,hb⟩
         refine ⟨_,rfl,?_⟩
         have n0_:=Aside0.mk (Kd.R_below (by (with_reducible repeat (first|apply Kd.R_alloc|apply Kd.R_drewN|apply Kd.R_drew));exact HO107.out) hb)
         have n1_:=Aside0.mk (Kd.R_below (by (with_reducible repeat (first|apply Kd.R_alloc|apply Kd.R_drewN|apply Kd.R_drew));exact HO119.out) hb)
         have n2_:=Aside0.mk (blk_below (g:=gb101) (o:=.cells #[.slice A0_0 l0_0.length c0_0] 56 (0,0)) (by (with_reducible repeat (first|refine blk_drewN ?_ _|refine blk_drew ?_|refine blk_alloc ?_ _));exact BK101.out) hb)
         have n3_:=Aside0.mk (blk_below (g:=gb102) (o:=.cells #[.int .i64 a1_0,.bool a1_1,.int .i64 a1_2] 23 (0,0)) (by (with_reducible repeat (first|refine blk_drewN ?_ _|refine blk_drew ?_|refine blk_alloc ?_ _));exact BK102.out) hb)
         have n4_:=Aside0.mk (blk_below (g:=gb103) (o:=.cells #[.int .i64 a2_0,.int .i64 a2_1] 58 (0,0)) (by (with_reducible repeat (first|refine blk_drewN ?_ _|refine blk_drew ?_|refine blk_alloc ?_ _));exact BK103.out) hb)
         have n5_:=Aside0.mk (blk_below (g:=gb116) (o:=.cells #[.int .i64 t113,.int .i64 t114,.int .i64 t115] 69 (0,0)) (by (with_reducible repeat (first|refine blk_drewN ?_ _|refine blk_drew ?_|refine blk_alloc ?_ _));exact BK116.out) hb)
         have n6_:=Aside0.mk (blk_below (g:=gb120) (o:=.cells #[.slice Ao42 t117.length co42] 61 (0,0)) (by (with_reducible repeat (first|refine blk_drewN ?_ _|refine blk_drew ?_|refine blk_alloc ?_ _));exact BK120.out) hb)
         have n7_:=Aside0.mk (blk_below (g:=gb129) (o:=.cells #[.int .i64 0,.int .i64 0,.int .i64 0] 69 (0,0)) (by (with_reducible repeat (first|refine blk_drewN ?_ _|refine blk_drew ?_|refine blk_alloc ?_ _));exact BK129.out) hb)
         have n8_:=Aside0.mk (below_step (by repeat (first|(with_reducible first|exact HB.out|apply below_alloc|apply pw_below_drewN|apply below_drew1|refine below_set ?_ GE101.out|refine below_set ?_ GE102.out|refine below_set ?_ GE103.out|refine below_set ?_ GE116.out|refine below_set ?_ GE120.out|refine below_set ?_ GE129.out)|exact HB.out)) hb)
         clear HO107
         clear HO119
         clear BK101
         clear BK102
         clear BK103
         clear BK116
         clear BK120
         clear BK129
         clear HB
         have HO107:=n0_
         have HO119:=n1_
         have BK101:=n2_
         have BK102:=n3_
         have BK103:=n4_
         have BK116:=n5_
         have BK120:=n6_
         have BK129:=n7_
         have HB:=n8_
         clear n0_ n1_ n2_ n3_ n4_ n5_ n6_ n7_ n8_
         (try clear hb)
         (try clear hb2)
         (try clear hk)
         (try clear hi)
         refine hK.out _ _ ⟨(blk_cell BK120.out 0).trans rfl,(blk_cell BK102.out 0).trans rfl,(blk_cell BK102.out 1).trans rfl,(blk_cell BK102.out 2).trans rfl,(blk_cell BK103.out 0).trans rfl,(blk_cell BK103.out 1).trans rfl⟩ (fun hHeld => ?_)
         clear hK K
         refine norm_ (a':=?_) ?_ ?_
         rotate_left
         · show Act.put _ (some 34) _ = _
           simp only [Act.put,List.setIfInBounds_toArray,List.set_cons_zero,List.set_cons_succ,i64_w,i32_w]
           rfl
         exact norm_ (by simp only [putAll,Act.put,List.setIfInBounds_toArray,List.set_cons_zero,List.set_cons_succ]) (hCont (gb129) _ ⟨hHeld,(by (with_reducible repeat (first|apply Kd.R_alloc|apply Kd.R_drewN|apply Kd.R_drew));exact HO107.out),(by (with_reducible repeat (first|apply Kd.R_alloc|apply Kd.R_drewN|apply Kd.R_drew));exact HO119.out),(by (with_reducible repeat (first|refine blk_drewN ?_ _|refine blk_drew ?_|refine blk_alloc ?_ _));exact BK101.out),(by (with_reducible repeat (first|refine blk_drewN ?_ _|refine blk_drew ?_|refine blk_alloc ?_ _));exact BK102.out),(by (with_reducible repeat (first|refine blk_drewN ?_ _|refine blk_drew ?_|refine blk_alloc ?_ _));exact BK103.out),(by (with_reducible repeat (first|refine blk_drewN ?_ _|refine blk_drew ?_|refine blk_alloc ?_ _));exact BK116.out),(by (with_reducible repeat (first|refine blk_drewN ?_ _|refine blk_drew ?_|refine blk_alloc ?_ _));exact BK120.out),(by (with_reducible repeat (first|refine blk_drewN ?_ _|refine blk_drew ?_|refine blk_alloc ?_ _));exact BK129.out),GW129.out,GE129.out,NB101_129.out,NB129_101.out,NB102_129.out,NB129_102.out,NB103_129.out,NB129_103.out,NB116_129.out,NB129_116.out,NB120_129.out,NB129_120.out,(by repeat (first|(with_reducible first|exact HB.out|apply below_alloc|apply pw_below_drewN|apply below_drew1|refine below_set ?_ GE101.out|refine below_set ?_ GE102.out|refine below_set ?_ GE103.out|refine below_set ?_ GE116.out|refine below_set ?_ GE120.out|refine below_set ?_ GE129.out)|exact HB.out))⟩)
     · skip
       refine box_step ?hg (N:=12) ?hd (cs:=#[.int .i64 0,.int .i64 0,.int .i64 0]) (t:=69) ?hr ?_;(case hd => rfl);(case hg => rfl);(case hr => first|(go_simp;done)|(go_simp;rfl))
       intro gb129 hg w50 hbox hb
       have n0_:=Aside0.mk (Kd.R_below (by (with_reducible repeat (first|apply Kd.R_alloc|apply Kd.R_drewN|apply Kd.R_drew));exact HO107.out) hb)
       have n1_:=Aside0.mk (Kd.R_below (by (with_reducible repeat (first|apply Kd.R_alloc|apply Kd.R_drewN|apply Kd.R_drew));exact HO119.out) hb)
       have n2_:=Aside0.mk (blk_below (g:=gb101) (o:=.cells #[.slice A0_0 l0_0.length c0_0] 56 (0,0)) (by (with_reducible repeat (first|refine blk_drewN ?_ _|refine blk_drew ?_|refine blk_alloc ?_ _));exact BK101.out) hb)
       have n3_:=Aside0.mk (blk_below (g:=gb102) (o:=.cells #[.int .i64 a1_0,.bool a1_1,.int .i64 a1_2] 23 (0,0)) (by (with_reducible repeat (first|refine blk_drewN ?_ _|refine blk_drew ?_|refine blk_alloc ?_ _));exact BK102.out) hb)
       have n4_:=Aside0.mk (blk_below (g:=gb103) (o:=.cells #[.int .i64 a2_0,.int .i64 a2_1] 58 (0,0)) (by (with_reducible repeat (first|refine blk_drewN ?_ _|refine blk_drew ?_|refine blk_alloc ?_ _));exact BK103.out) hb)
       have n5_:=Aside0.mk (blk_below (g:=gb116) (o:=.cells #[.int .i64 t113,.int .i64 t114,.int .i64 t115] 69 (0,0)) (by (with_reducible repeat (first|refine blk_drewN ?_ _|refine blk_drew ?_|refine blk_alloc ?_ _));exact BK116.out) hb)
       have n6_:=Aside0.mk (blk_below (g:=gb120) (o:=.cells #[.slice Ao42 t117.length co42] 61 (0,0)) (by (with_reducible repeat (first|refine blk_drewN ?_ _|refine blk_drew ?_|refine blk_alloc ?_ _));exact BK120.out) hb)
       have n7_:=Aside0.mk (below_step (by repeat (first|(with_reducible first|exact HB.out|apply below_alloc|apply pw_below_drewN|apply below_drew1|refine below_set ?_ GE101.out|refine below_set ?_ GE102.out|refine below_set ?_ GE103.out|refine below_set ?_ GE116.out|refine below_set ?_ GE120.out)|exact HB.out)) hb)
       have n8_:=Aside0.mk (hbox)
       have n9_:=Aside0.mk ((by rw [hg];exact (below_size (by repeat (first|(with_reducible first|exact HB.out|apply below_alloc|apply pw_below_drewN|apply below_drew1|refine below_set ?_ GE101.out|refine below_set ?_ GE102.out|refine below_set ?_ GE103.out|refine below_set ?_ GE116.out|refine below_set ?_ GE120.out)|exact HB.out))) : w.heap.size ≤ gb129))
       have n10_:=Aside0.mk ((by rw [hg];exact (below_size (by repeat (first|(with_reducible first|exact HB.out|apply below_alloc|apply pw_below_drewN|apply below_drew1|refine below_set ?_ GE101.out|refine below_set ?_ GE102.out|refine below_set ?_ GE103.out|refine below_set ?_ GE116.out|refine below_set ?_ GE120.out)|exact HB.out))) : w.heap.size ≤ gb129))
       have n11_:=Aside0.mk ((by rw [hg];exact Nat.ne_of_lt (blk_lt (g:=gb101) (o:=.cells #[.slice A0_0 l0_0.length c0_0] 56 (0,0)) (by (with_reducible repeat (first|refine blk_drewN ?_ _|refine blk_drew ?_|refine blk_alloc ?_ _));exact BK101.out)) : gb101 ≠ gb129))
       have n12_:=Aside0.mk ((by rw [hg];exact Nat.ne_of_gt (blk_lt (g:=gb101) (o:=.cells #[.slice A0_0 l0_0.length c0_0] 56 (0,0)) (by (with_reducible repeat (first|refine blk_drewN ?_ _|refine blk_drew ?_|refine blk_alloc ?_ _));exact BK101.out)) : gb129 ≠ gb101))
       have n13_:=Aside0.mk ((by rw [hg];exact Nat.ne_of_lt (blk_lt (g:=gb102) (o:=.cells #[.int .i64 a1_0,.bool a1_1,.int .i64 a1_2] 23 (0,0)) (by (with_reducible repeat (first|refine blk_drewN ?_ _|refine blk_drew ?_|refine blk_alloc ?_ _));exact BK102.out)) : gb102 ≠ gb129))
       have n14_:=Aside0.mk ((by rw [hg];exact Nat.ne_of_gt (blk_lt (g:=gb102) (o:=.cells #[.int .i64 a1_0,.bool a1_1,.int .i64 a1_2] 23 (0,0)) (by (with_reducible repeat (first|refine blk_drewN ?_ _|refine blk_drew ?_|refine blk_alloc ?_ _));exact BK102.out)) : gb129 ≠ gb102))
       have n15_:=Aside0.mk ((by rw [hg];exact Nat.ne_of_lt (blk_lt (g:=gb103) (o:=.cells #[.int .i64 a2_0,.int .i64 a2_1] 58 (0,0)) (by (with_reducible repeat (first|refine blk_drewN ?_ _|refine blk_drew ?_|refine blk_alloc ?_ _));exact BK103.out)) : gb103 ≠ gb129))
       have n16_:=Aside0.mk ((by rw [hg];exact Nat.ne_of_gt (blk_lt (g:=gb103) (o:=.cells #[.int .i64 a2_0,.int .i64 a2_1] 58 (0,0)) (by (with_reducible repeat (first|refine blk_drewN ?_ _|refine blk_drew ?_|refine blk_alloc ?_ _));exact BK103.out)) : gb129 ≠ gb103))
       have n17_:=Aside0.mk ((by rw [hg];exact Nat.ne_of_lt (blk_lt (g:=gb116) (o:=.cells #[.int .i64 t113,.int .i64 t114,.int .i64 t115] 69 (0,0)) (by (with_reducible repeat (first|refine blk_drewN ?_ _|refine blk_drew ?_|refine blk_alloc ?_ _));exact BK116.out)) : gb116 ≠ gb129))
       have n18_:=Aside0.mk ((by rw [hg];exact Nat.ne_of_gt (blk_lt (g:=gb116) (o:=.cells #[.int .i64 t113,.int .i64 t114,.int .i64 t115] 69 (0,0)) (by (with_reducible repeat (first|refine blk_drewN ?_ _|refine blk_drew ?_|refine blk_alloc ?_ _));exact BK116.out)) : gb129 ≠ gb116))
       have n19_:=Aside0.mk ((by rw [hg];exact Nat.ne_of_lt (blk_lt (g:=gb120) (o:=.cells #[.slice Ao42 t117.length co42] 61 (0,0)) (by (with_reducible repeat (first|refine blk_drewN ?_ _|refine blk_drew ?_|refine blk_alloc ?_ _));exact BK120.out)) : gb120 ≠ gb129))
       have n20_:=Aside0.mk ((by rw [hg];exact Nat.ne_of_gt (blk_lt (g:=gb120) (o:=.cells #[.slice Ao42 t117.length co42] 61 (0,0)) (by (with_reducible repeat (first|refine blk_drewN ?_ _|refine blk_drew ?_|refine blk_alloc ?_ _));exact BK120.out)) : gb129 ≠ gb120))
       clear HO107
       clear HO119
       clear BK101
       clear BK102
       clear BK103
       clear BK116
       clear BK120
       clear HB
       have HO107:=n0_
       have HO119:=n1_
       have BK101:=n2_
       have BK102:=n3_
       have BK103:=n4_
       have BK116:=n5_
       have BK120:=n6_
       have HB:=n7_
       have BK129:=n8_
       have GW129:=n9_
       have GE129:=n10_
       have NB101_129:=n11_
       have NB129_101:=n12_
       have NB102_129:=n13_
       have NB129_102:=n14_
       have NB103_129:=n15_
       have NB129_103:=n16_
       have NB116_129:=n17_
       have NB129_116:=n18_
       have NB120_129:=n19_
       have NB129_120:=n20_
       clear n0_ n1_ n2_ n3_ n4_ n5_ n6_ n7_ n8_ n9_ n10_ n11_ n12_ n13_ n14_ n15_ n16_ n17_ n18_ n19_ n20_
       clear hb hbox hg
       refine hK.out _ _ ⟨(blk_cell BK120.out 0).trans rfl,(blk_cell BK102.out 0).trans rfl,(blk_cell BK102.out 1).trans rfl,(blk_cell BK102.out 2).trans rfl,(blk_cell BK103.out 0).trans rfl,(blk_cell BK103.out 1).trans rfl⟩ (fun hHeld => ?_)
       clear hK K
       refine norm_ (a':=?_) ?_ ?_
       rotate_left
       · show Act.put _ (some 12) _ = _
         simp only [Act.put,List.setIfInBounds_toArray,List.set_cons_zero,List.set_cons_succ,i64_w,i32_w]
         rfl
       refine one_ (i:=2) (N:=some 30) #[true,true,true,true,false,true,false,true,false] rfl rfl (one_of HT_.out (by kernel_rfl)) (by decide) (fun K hK => ?_)
       refine goes_ Try.func15 (by kernel_rfl) rfl #[.agg #[.int .i64 a1_0,.bool a1_1,.int .i64 a1_2]] (by rfl) rfl rfl (by (try simp only [List.map_toArray,List.map_cons,List.map_nil]);first|done|rfl|(simp only [List.length_drop,List.length_take];rfl)) ?_
       with_reducible refine (laws_toLayout.calls a1_0 a1_1 a1_2 t121 t122 t123 _ A20.out).mono ?_
       rintro e w51 ⟨rfl,hb⟩
       refine ⟨_,rfl,?_⟩
       have n0_:=Aside0.mk (Kd.R_below (by (with_reducible repeat (first|apply Kd.R_alloc|apply Kd.R_drewN|apply Kd.R_drew));exact HO107.out) hb)
       have n1_:=Aside0.mk (Kd.R_below (by (with_reducible repeat (first|apply Kd.R_alloc|apply Kd.R_drewN|apply Kd.R_drew));exact HO119.out) hb)
       have n2_:=Aside0.mk (blk_below (g:=gb101) (o:=.cells #[.slice A0_0 l0_0.length c0_0] 56 (0,0)) (by (with_reducible repeat (first|refine blk_drewN ?_ _|refine blk_drew ?_|refine blk_alloc ?_ _));exact BK101.out) hb)
       have n3_:=Aside0.mk (blk_below (g:=gb102) (o:=.cells #[.int .i64 a1_0,.bool a1_1,.int .i64 a1_2] 23 (0,0)) (by (with_reducible repeat (first|refine blk_drewN ?_ _|refine blk_drew ?_|refine blk_alloc ?_ _));exact BK102.out) hb)
       have n4_:=Aside0.mk (blk_below (g:=gb103) (o:=.cells #[.int .i64 a2_0,.int .i64 a2_1] 58 (0,0)) (by (with_reducible repeat (first|refine blk_drewN ?_ _|refine blk_drew ?_|refine blk_alloc ?_ _));exact BK103.out) hb)
       have n5_:=Aside0.mk (blk_below (g:=gb116) (o:=.cells #[.int .i64 t113,.int .i64 t114,.int .i64 t115] 69 (0,0)) (by (with_reducible repeat (first|refine blk_drewN ?_ _|refine blk_drew ?_|refine blk_alloc ?_ _));exact BK116.out) hb)
       have n6_:=Aside0.mk (blk_below (g:=gb120) (o:=.cells #[.slice Ao42 t117.length co42] 61 (0,0)) (by (with_reducible repeat (first|refine blk_drewN ?_ _|refine blk_drew ?_|refine blk_alloc ?_ _));exact BK120.out) hb)
       have n7_:=Aside0.mk (blk_below (g:=gb129) (o:=.cells #[.int .i64 0,.int .i64 0,.int .i64 0] 69 (0,0)) (by (with_reducible repeat (first|refine blk_drewN ?_ _|refine blk_drew ?_|refine blk_alloc ?_ _));exact BK129.out) hb)
       have n8_:=Aside0.mk (below_step (by repeat (first|(with_reducible first|exact HB.out|apply below_alloc|apply pw_below_drewN|apply below_drew1|refine below_set ?_ GE101.out|refine below_set ?_ GE102.out|refine below_set ?_ GE103.out|refine below_set ?_ GE116.out|refine below_set ?_ GE120.out|refine below_set ?_ GE129.out)|exact HB.out)) hb)
       clear HO107
       clear HO119
       clear BK101
       clear BK102
       clear BK103
       clear BK116
       clear BK120
       clear BK129
       clear HB
       have HO107:=n0_
       have HO119:=n1_
       have BK101:=n2_
       have BK102:=n3_
       have BK103:=n4_
       have BK116:=n5_
       have BK120:=n6_
       have BK129:=n7_
       have HB:=n8_
       clear n0_ n1_ n2_ n3_ n4_ n5_ n6_ n7_ n8_
       (try clear hb)
       (try clear hb2)
       (try clear hk)
       (try clear hi)
       refine hK.out _ _ ⟨(blk_cell BK120.out 0).trans rfl,(blk_cell BK102.out 0).trans rfl,(blk_cell BK102.out 1).trans rfl,(blk_cell BK102.out 2).trans rfl,(blk_cell BK103.out 0).trans rfl,(blk_cell BK103.out 1).trans rfl⟩ (fun hHeld => ?_)
       clear hK K
       refine norm_ (a':=?_) ?_ ?_
       rotate_left
       · show Act.put _ (some 30) _ = _
         simp only [Act.put,List.setIfInBounds_toArray,List.set_cons_zero,List.set_cons_succ,i64_w,i32_w]
         rfl
       refine one_ (i:=4) (N:=some 32) #[true,true,true,true,true,true,false,true,false] rfl rfl (one_of HT_.out (by kernel_rfl)) (by decide) (fun K hK => ?_)
       refine goes_ Try.func41 (by kernel_rfl) rfl #[.agg #[.int .i64 a2_0,.int .i64 a2_1]] (by rfl) rfl rfl (by (try simp only [List.map_toArray,List.map_cons,List.map_nil]);first|done|rfl|(simp only [List.length_drop,List.length_take];rfl)) ?_
       with_reducible refine (laws_toSpot.calls a2_0 a2_1 t124 t125 _ A21.out).mono ?_
       rintro e w52 ⟨rfl,hb⟩
       refine ⟨_,rfl,?_⟩
       have n0_:=Aside0.mk (Kd.R_below (by (with_reducible repeat (first|apply Kd.R_alloc|apply Kd.R_drewN|apply Kd.R_drew));exact HO107.out) hb)
       have n1_:=Aside0.mk (Kd.R_below (by (with_reducible repeat (first|apply Kd.R_alloc|apply Kd.R_drewN|apply Kd.R_drew));exact HO119.out) hb)
       have n2_:=Aside0.mk (blk_below (g:=gb101) (o:=.cells #[.slice A0_0 l0_0.length c0_0] 56 (0,0)) (by (with_reducible repeat (first|refine blk_drewN ?_ _|refine blk_drew ?_|refine blk_alloc ?_ _));exact BK101.out) hb)
       have n3_:=Aside0.mk (blk_below (g:=gb102) (o:=.cells #[.int .i64 a1_0,.bool a1_1,.int .i64 a1_2] 23 (0,0)) (by (with_reducible repeat (first|refine blk_drewN ?_ _|refine blk_drew ?_|refine blk_alloc ?_ _));exact BK102.out) hb)
       have n4_:=Aside0.mk (blk_below (g:=gb103) (o:=.cells #[.int .i64 a2_0,.int .i64 a2_1] 58 (0,0)) (by (with_reducible repeat (first|refine blk_drewN ?_ _|refine blk_drew ?_|refine blk_alloc ?_ _));exact BK103.out) hb)
       have n5_:=Aside0.mk (blk_below (g:=gb116) (o:=.cells #[.int .i64 t113,.int .i64 t114,.int .i64 t115] 69 (0,0)) (by (with_reducible repeat (first|refine blk_drewN ?_ _|refine blk_drew ?_|refine blk_alloc ?_ _));exact BK116.out) hb)
       have n6_:=Aside0.mk (blk_below (g:=gb120) (o:=.cells #[.slice Ao42 t117.length co42] 61 (0,0)) (by (with_reducible repeat (first|refine blk_drewN ?_ _|refine blk_drew ?_|refine blk_alloc ?_ _));exact BK120.out) hb)
       have n7_:=Aside0.mk (blk_below (g:=gb129) (o:=.cells #[.int .i64 0,.int .i64 0,.int .i64 0] 69 (0,0)) (by (with_reducible repeat (first|refine blk_drewN ?_ _|refine blk_drew ?_|refine blk_alloc ?_ _));exact BK129.out) hb)
       have n8_:=Aside0.mk (below_step (by repeat (first|(with_reducible first|exact HB.out|apply below_alloc|apply pw_below_drewN|apply below_drew1|refine below_set ?_ GE101.out|refine below_set ?_ GE102.out|refine below_set ?_ GE103.out|refine below_set ?_ GE116.out|refine below_set ?_ GE120.out|refine below_set ?_ GE129.out)|exact HB.out)) hb)
       clear HO107
       clear HO119
       clear BK101
       clear BK102
       clear BK103
       clear BK116
       clear BK120
       clear BK129
       clear HB
       have HO107:=n0_
       have HO119:=n1_
       have BK101:=n2_
       have BK102:=n3_
       have BK103:=n4_
       have BK116:=n5_
       have BK120:=n6_
       have BK129:=n7_
       have HB:=n8_
       clear n0_ n1_ n2_ n3_ n4_ n5_ n6_ n7_ n8_
       (try clear hb)
       (try clear hb2)
       (try clear hk)
       (try clear hi)
       refine hK.out _ _ ⟨(blk_cell BK120.out 0).trans rfl,(blk_cell BK102.out 0).trans rfl,(blk_cell BK102.out 1).trans rfl,(blk_cell BK102.out 2).trans rfl,(blk_cell BK103.out 0).trans rfl,(blk_cell BK103.out 1).trans rfl⟩ (fun hHeld => ?_)
       clear hK K
       refine norm_ (a':=?_) ?_ ?_
       rotate_left
       · show Act.put _ (some 32) _ = _
         simp only [Act.put,List.setIfInBounds_toArray,List.set_cons_zero,List.set_cons_succ,i64_w,i32_w]
         rfl
       refine one_ (i:=6) (N:=some 34) #[true,true,true,true,true,true,true,true,false] rfl rfl (one_of HT_.out (by kernel_rfl)) (by decide) (fun K hK => ?_)
       refine goes_ Try.func49 (by kernel_rfl) rfl #[.agg #[.slice Ao42 t117.length co42],.agg #[.int .i64 t121,.bool t122,.int .i64 t123],.agg #[.int .i64 t124,.int .i64 t125],.int .i64 a3] (by rfl) rfl rfl (by (try simp only [List.map_toArray,List.map_cons,List.map_nil]);first|done|rfl|(simp only [List.length_drop,List.length_take];rfl)) ?_
       with_reducible refine (impl_MoveSpot.calls k _ _ t117 t121 t122 t123 t124 t125 a3 t126 t127 t128 _ ?side1 ?side2 A22.out).mono ?_
       (case side1 => repeat (first|exact (Kd.R_reads' HO119.out).2.2|(with_reducible refine Kd.C_alloc ?_ _)|(with_reducible refine Kd.C_drewN ?_ _)|(with_reducible refine Kd.C_drew ?_)))
       (case side2 => exact (Kd.R_reads' HO119.out).2.1)
       rintro e w53 ⟨rfl,hb⟩
       refine ⟨_,rfl,?_⟩
       have n0_:=Aside0.mk (Kd.R_below (by (with_reducible repeat (first|apply Kd.R_alloc|apply Kd.R_drewN|apply Kd.R_drew));exact HO107.out) hb)
       have n1_:=Aside0.mk (Kd.R_below (by (with_reducible repeat (first|apply Kd.R_alloc|apply Kd.R_drewN|apply Kd.R_drew));exact HO119.out) hb)
       have n2_:=Aside0.mk (blk_below (g:=gb101) (o:=.cells #[.slice A0_0 l0_0.length c0_0] 56 (0,0)) (by (with_reducible repeat (first|refine blk_drewN ?_ _|refine blk_drew ?_|refine blk_alloc ?_ _));exact BK101.out) hb)
       have n3_:=Aside0.mk (blk_below (g:=gb102) (o:=.cells #[.int .i64 a1_0,.bool a1_1,.int .i64 a1_2] 23 (0,0)) (by (with_reducible repeat (first|refine blk_drewN ?_ _|refine blk_drew ?_|refine blk_alloc ?_ _));exact BK102.out) hb)
       have n4_:=Aside0.mk (blk_below (g:=gb103) (o:=.cells #[.int .i64 a2_0,.int .i64 a2_1] 58 (0,0)) (by (with_reducible repeat (first|refine blk_drewN ?_ _|refine blk_drew ?_|refine blk_alloc ?_ _));exact BK103.out) hb)
       have n5_:=Aside0.mk (blk_below (g:=gb116) (o:=.cells #[.int .i64 t113,.int .i64 t114,.int .i64 t115] 69 (0,0)) (by (with_reducible repeat (first|refine blk_drewN ?_ _|refine blk_drew ?_|refine blk_alloc ?_ _));exact BK116.out) hb)
       have n6_:=Aside0.mk (blk_below (g:=gb120) (o:=.cells #[.slice Ao42 t117.length co42] 61 (0,0)) (by (with_reducible repeat (first|refine blk_drewN ?_ _|refine blk_drew ?_|refine blk_alloc ?_ _));exact BK120.out) hb)
       have n7_:=Aside0.mk (blk_below (g:=gb129) (o:=.cells #[.int .i64 0,.int .i64 0,.int .i64 0] 69 (0,0)) (by (with_reducible repeat (first|refine blk_drewN ?_ _|refine blk_drew ?_|refine blk_alloc ?_ _));exact BK129.out) hb)
       have n8_:=Aside0.mk (below_step (by repeat (first|(with_reducible first|exact HB.out|apply below_alloc|apply pw_below_drewN|apply below_drew1|refine below_set ?_ GE101.out|refine below_set ?_ GE102.out|refine below_set ?_ GE103.out|refine below_set ?_ GE116.out|refine below_set ?_ GE120.out|refine below_set ?_ GE129.out)|exact HB.out)) hb)
       clear HO107
       clear HO119
       clear BK101
       clear BK102
       clear BK103
       clear BK116
       clear BK120
       clear BK129
       clear HB
       have HO107:=n0_
       have HO119:=n1_
       have BK101:=n2_
       have BK102:=n3_
       have BK103:=n4_
       have BK116:=n5_
       have BK120:=n6_
       have BK129:=n7_
       have HB:=n8_
       clear n0_ n1_ n2_ n3_ n4_ n5_ n6_ n7_ n8_
       (try clear hb)
       (try clear hb2)
       (try clear hk)
       (try clear hi)
       refine hK.out _ _ ⟨(blk_cell BK120.out 0).trans rfl,(blk_cell BK102.out 0).trans rfl,(blk_cell BK102.out 1).trans rfl,(blk_cell BK102.out 2).trans rfl,(blk_cell BK103.out 0).trans rfl,(blk_cell BK103.out 1).trans rfl⟩ (fun hHeld => ?_)
       clear hK K
       refine norm_ (a':=?_) ?_ ?_
       rotate_left
       · show Act.put _ (some 34) _ = _
         simp only [Act.put,List.setIfInBounds_toArray,List.set_cons_zero,List.set_cons_succ,i64_w,i32_w]
         rfl
       exact norm_ (by simp only [putAll,Act.put,List.setIfInBounds_toArray,List.set_cons_zero,List.set_cons_succ]) (hCont (gb129) _ ⟨hHeld,(by (with_reducible repeat (first|apply Kd.R_alloc|apply Kd.R_drewN|apply Kd.R_drew));exact HO107.out),(by (with_reducible repeat (first|apply Kd.R_alloc|apply Kd.R_drewN|apply Kd.R_drew));exact HO119.out),(by (with_reducible repeat (first|refine blk_drewN ?_ _|refine blk_drew ?_|refine blk_alloc ?_ _));exact BK101.out),(by (with_reducible repeat (first|refine blk_drewN ?_ _|refine blk_drew ?_|refine blk_alloc ?_ _));exact BK102.out),(by (with_reducible repeat (first|refine blk_drewN ?_ _|refine blk_drew ?_|refine blk_alloc ?_ _));exact BK103.out),(by (with_reducible repeat (first|refine blk_drewN ?_ _|refine blk_drew ?_|refine blk_alloc ?_ _));exact BK116.out),(by (with_reducible repeat (first|refine blk_drewN ?_ _|refine blk_drew ?_|refine blk_alloc ?_ _));exact BK120.out),(by (with_reducible repeat (first|refine blk_drewN ?_ _|refine blk_drew ?_|refine blk_alloc ?_ _));exact BK129.out),GW129.out,GE129.out,NB101_129.out,NB129_101.out,NB102_129.out,NB129_102.out,NB103_129.out,NB129_103.out,NB116_129.out,NB129_116.out,NB120_129.out,NB129_120.out,(by repeat (first|(with_reducible first|exact HB.out|apply below_alloc|apply pw_below_drewN|apply below_drew1|refine below_set ?_ GE101.out|refine below_set ?_ GE102.out|refine below_set ?_ GE103.out|refine below_set ?_ GE116.out|refine below_set ?_ GE120.out|refine below_set ?_ GE129.out)|exact HB.out))⟩)
   rintro gb129 w54 ⟨hS_,h0_,h1_,h2_,h3_,h4_,h5_,h6_,h7_,h8_,h9_,h10_,h11_,h12_,h13_,h14_,h15_,h16_,h17_,h18_,h19_,h20_⟩
   have n0_ : Aside0 (Kd.R (Kd.int .u8) 5 w54 w.heap.size (fun k_ => some k_ ≠ (.slice Ao42 t117.length co42 : Value).ownBlock) v106 t105):=⟨h0_⟩
   have n1_ : Aside0 (Kd.R (Kd.int .u8) 5 w54 w.heap.size (fun k_ => some k_ ≠ (v106 : Value).ownBlock) (.slice Ao42 t117.length co42) t117):=⟨h1_⟩
   have n2_ : Aside0 (w54.heap[gb101]? = some (.cells #[.slice A0_0 l0_0.length c0_0] 56 (0,0))):=⟨h2_⟩
   have n3_ : Aside0 (w54.heap[gb102]? = some (.cells #[.int .i64 a1_0,.bool a1_1,.int .i64 a1_2] 23 (0,0))):=⟨h3_⟩
   have n4_ : Aside0 (w54.heap[gb103]? = some (.cells #[.int .i64 a2_0,.int .i64 a2_1] 58 (0,0))):=⟨h4_⟩
   have n5_ : Aside0 (w54.heap[gb116]? = some (.cells #[.int .i64 t113,.int .i64 t114,.int .i64 t115] 69 (0,0))):=⟨h5_⟩
   have n6_ : Aside0 (w54.heap[gb120]? = some (.cells #[.slice Ao42 t117.length co42] 61 (0,0))):=⟨h6_⟩
   have n7_ : Aside0 (w54.heap[gb129]? = some (.cells #[.int .i64 0,.int .i64 0,.int .i64 0] 69 (0,0))):=⟨h7_⟩
   have n8_ : Aside0 (w.heap.size ≤ gb129):=⟨h8_⟩
   have n9_ : Aside0 (w.heap.size ≤ gb129):=⟨h9_⟩
   have n10_ : Aside0 (gb101 ≠ gb129):=⟨h10_⟩
   have n11_ : Aside0 (gb129 ≠ gb101):=⟨h11_⟩
   have n12_ : Aside0 (gb102 ≠ gb129):=⟨h12_⟩
   have n13_ : Aside0 (gb129 ≠ gb102):=⟨h13_⟩
   have n14_ : Aside0 (gb103 ≠ gb129):=⟨h14_⟩
   have n15_ : Aside0 (gb129 ≠ gb103):=⟨h15_⟩
   have n16_ : Aside0 (gb116 ≠ gb129):=⟨h16_⟩
   have n17_ : Aside0 (gb129 ≠ gb116):=⟨h17_⟩
   have n18_ : Aside0 (gb120 ≠ gb129):=⟨h18_⟩
   have n19_ : Aside0 (gb129 ≠ gb120):=⟨h19_⟩
   have n20_ : Aside0 (Below w.heap.size w w54):=⟨h20_⟩
   clear HO107
   clear HO119
   clear BK101
   clear BK102
   clear BK103
   clear BK116
   clear BK120
   clear HB
   clear h0_ h1_ h2_ h3_ h4_ h5_ h6_ h7_ h8_ h9_ h10_ h11_ h12_ h13_ h14_ h15_ h16_ h17_ h18_ h19_ h20_
   have HO107:=n0_
   have HO119:=n1_
   have BK101:=n2_
   have BK102:=n3_
   have BK103:=n4_
   have BK116:=n5_
   have BK120:=n6_
   have BK129:=n7_
   have GW129:=n8_
   have GE129:=n9_
   have NB101_129:=n10_
   have NB129_101:=n11_
   have NB102_129:=n12_
   have NB129_102:=n13_
   have NB103_129:=n14_
   have NB129_103:=n15_
   have NB116_129:=n16_
   have NB129_116:=n17_
   have NB120_129:=n18_
   have NB129_120:=n19_
   have HB:=n20_
   clear n0_ n1_ n2_ n3_ n4_ n5_ n6_ n7_ n8_ n9_ n10_ n11_ n12_ n13_ n14_ n15_ n16_ n17_ n18_ n19_ n20_
   have hHeld : w54.cell? ⟨gb120,0,none⟩ = some (.slice Ao42 t117.length co42) ∧ w54.cell? ⟨gb102,0,none⟩ = some (.int .i64 a1_0) ∧ w54.cell? ⟨gb102,1,none⟩ = some (.bool a1_1) ∧ w54.cell? ⟨gb102,2,none⟩ = some (.int .i64 a1_2) ∧ w54.cell? ⟨gb103,0,none⟩ = some (.int .i64 a2_0) ∧ w54.cell? ⟨gb103,1,none⟩ = some (.int .i64 a2_1):=hS_
   refine norm_ (a':=?_) ?_ ?_
   rotate_left
   · simp only [putAll,Act.put,List.setIfInBounds_toArray,List.set_cons_zero,List.set_cons_succ]
     rfl
   refine one_ (i:=8) (N:=none) #[true,true,true,true,true,true,true,true,true] rfl rfl (one_of HT_.out (by kernel_rfl)) (by decide) (fun K hK => ?_)
   have hs55 : w54.cell? ⟨gb129,0,none⟩ = some (.int .i64 0):=(blk_cell BK129.out 0).trans rfl
   have hfs55:=blk_frozen BK129.out 0
   have hns55_0:=NB101_129.out
   have hns55_1:=NB102_129.out
   have hns55_2:=NB103_129.out
   have hns55_3:=NB116_129.out
   have hns55_4:=NB120_129.out
   have hms55_0:=NB129_101.out
   have hms55_1:=NB129_102.out
   have hms55_2:=NB129_103.out
   have hms55_3:=NB129_116.out
   have hms55_4:=NB129_120.out
   have hs56 : w54.cell? ⟨gb129,1,none⟩ = some (.int .i64 0):=(blk_cell BK129.out 1).trans rfl
   have hfs56:=blk_frozen BK129.out 1
   have hns56_0:=NB101_129.out
   have hns56_1:=NB102_129.out
   have hns56_2:=NB103_129.out
   have hns56_3:=NB116_129.out
   have hns56_4:=NB120_129.out
   have hms56_0:=NB129_101.out
   have hms56_1:=NB129_102.out
   have hms56_2:=NB129_103.out
   have hms56_3:=NB129_116.out
   have hms56_4:=NB129_120.out
   have hs57 : w54.cell? ⟨gb129,2,none⟩ = some (.int .i64 0):=(blk_cell BK129.out 2).trans rfl
   have hfs57:=blk_frozen BK129.out 2
   have hns57_0:=NB101_129.out
   have hns57_1:=NB102_129.out
   have hns57_2:=NB103_129.out
   have hns57_3:=NB116_129.out
   have hns57_4:=NB120_129.out
   have hms57_0:=NB129_101.out
   have hms57_1:=NB129_102.out
   have hms57_2:=NB129_103.out
   have hms57_3:=NB129_116.out
   have hms57_4:=NB129_120.out
   refine skip_ (w1:=?_) (by rfl) rfl ?_ ?_
   rotate_left
   · go_simp
     rfl
   refine hK.out _ _ ⟨((cell_far (p:=⟨gb129,_,none⟩) NB120_129.out _).trans (((cell_far (p:=⟨gb129,_,none⟩) NB120_129.out _).trans (((cell_far (p:=⟨gb129,_,none⟩) NB120_129.out _).trans (hHeld.1)))))),((cell_far (p:=⟨gb129,_,none⟩) NB102_129.out _).trans (((cell_far (p:=⟨gb129,_,none⟩) NB102_129.out _).trans (((cell_far (p:=⟨gb129,_,none⟩) NB102_129.out _).trans (hHeld.2.1)))))),((cell_far (p:=⟨gb129,_,none⟩) NB102_129.out _).trans (((cell_far (p:=⟨gb129,_,none⟩) NB102_129.out _).trans (((cell_far (p:=⟨gb129,_,none⟩) NB102_129.out _).trans (hHeld.2.2.1)))))),((cell_far (p:=⟨gb129,_,none⟩) NB102_129.out _).trans (((cell_far (p:=⟨gb129,_,none⟩) NB102_129.out _).trans (((cell_far (p:=⟨gb129,_,none⟩) NB102_129.out _).trans (hHeld.2.2.2.1)))))),((cell_far (p:=⟨gb129,_,none⟩) NB103_129.out _).trans (((cell_far (p:=⟨gb129,_,none⟩) NB103_129.out _).trans (((cell_far (p:=⟨gb129,_,none⟩) NB103_129.out _).trans (hHeld.2.2.2.2.1)))))),((cell_far (p:=⟨gb129,_,none⟩) NB103_129.out _).trans (((cell_far (p:=⟨gb129,_,none⟩) NB103_129.out _).trans (((cell_far (p:=⟨gb129,_,none⟩) NB103_129.out _).trans (hHeld.2.2.2.2.2))))))⟩ (fun hHeld => ?_)
   clear hK K
   refine done_ (done_of HT_.out (by kernel_rfl)) ?_
   have hnb58:=NB129_101.out
   have hnc58:=NB101_129.out
   have hnb59:=NB129_102.out
   have hnc59:=NB102_129.out
   have hnb60:=NB129_103.out
   have hnc60:=NB103_129.out
   have hnb61:=NB129_116.out
   have hnc61:=NB116_129.out
   have hnb62:=NB129_120.out
   have hnc62:=NB120_129.out
   have hcz63_0 : w54.cell? ⟨gb129,0,none⟩ = some (.int .i64 0):=(blk_cell BK129.out 0).trans rfl
   have hcz63_1 : w54.cell? ⟨gb129,1,none⟩ = some (.int .i64 0):=(blk_cell BK129.out 1).trans rfl
   have hcz63_2 : w54.cell? ⟨gb129,2,none⟩ = some (.int .i64 0):=(blk_cell BK129.out 2).trans rfl
   have hfz63_0:=blk_frozen BK129.out 0
   have hfz63_1:=blk_frozen BK129.out 1
   have hfz63_2:=blk_frozen BK129.out 2
   have hnb64:=NB116_102.out
   have hnc64:=NB102_116.out
   have hnb65:=NB116_103.out
   have hnc65:=NB103_116.out
   have hcz66_0 : w54.cell? ⟨gb116,0,none⟩ = some (.int .i64 t113):=(blk_cell BK116.out 0).trans rfl
   have hcz66_1 : w54.cell? ⟨gb116,1,none⟩ = some (.int .i64 t114):=(blk_cell BK116.out 1).trans rfl
   have hcz66_2 : w54.cell? ⟨gb116,2,none⟩ = some (.int .i64 t115):=(blk_cell BK116.out 2).trans rfl
   have hfz66_0:=blk_frozen BK116.out 0
   have hfz66_1:=blk_frozen BK116.out 1
   have hfz66_2:=blk_frozen BK116.out 2
   go_upto_if 38 with (first|((with_reducible refine gate_callee (f:=47) rfl ?_);refine goesL_ (some 37) rfl rfl Try.func47 (by kernel_rfl) rfl #[.agg #[.int .i64 t126,.int .i64 t127,.int .i64 t128],.agg #[.int .i64 t113,.int .i64 t114,.int .i64 t115]] rfl (by (try simp only [List.map_toArray,List.map_cons,List.map_nil]);first|done|rfl|(simp only [List.length_drop,List.length_take];rfl)) ?_;(with_reducible refine (laws_eqSpotResult.calls t126 t127 t128 t113 t114 t115 t130 _ A23.out).mono ?_);rintro e w67 ⟨rfl,hb⟩;refine ⟨_,rfl,?_⟩;have n0_:=Aside0.mk (Kd.R_below (by (with_reducible repeat (first|apply Kd.R_alloc|apply Kd.R_drewN|apply Kd.R_drew));exact (Kd.R_mono (Kd.R_far (p:=⟨gb129,2,none⟩) (Kd.R_far (p:=⟨gb129,1,none⟩) (Kd.R_far (p:=⟨gb129,0,none⟩) (Kd.R_types HO107.out BK129.out (by decide)) (fun _ hk => hk.2) (.int .i64 t126)) (fun _ hk => hk.2) (.int .i64 t127)) (fun _ hk => hk.2) (.int .i64 t128)) (fun _ h_ => h_.1))) hb);have n1_:=Aside0.mk (Kd.R_below (by (with_reducible repeat (first|apply Kd.R_alloc|apply Kd.R_drewN|apply Kd.R_drew));exact (Kd.R_mono (Kd.R_far (p:=⟨gb129,2,none⟩) (Kd.R_far (p:=⟨gb129,1,none⟩) (Kd.R_far (p:=⟨gb129,0,none⟩) (Kd.R_types HO119.out BK129.out (by decide)) (fun _ hk => hk.2) (.int .i64 t126)) (fun _ hk => hk.2) (.int .i64 t127)) (fun _ hk => hk.2) (.int .i64 t128)) (fun _ h_ => h_.1))) hb);have n2_:=Aside0.mk (blk_below (g:=gb101) (o:=.cells #[.slice A0_0 l0_0.length c0_0] 56 (0,0)) (by (with_reducible repeat (first|refine blk_drewN ?_ _|refine blk_drew ?_|refine blk_alloc ?_ _));refine blk_far ?_ NB101_129.out _;(with_reducible repeat (first|refine blk_drewN ?_ _|refine blk_drew ?_|refine blk_alloc ?_ _));refine blk_far ?_ NB101_129.out _;(with_reducible repeat (first|refine blk_drewN ?_ _|refine blk_drew ?_|refine blk_alloc ?_ _));refine blk_far ?_ NB101_129.out _;(with_reducible repeat (first|refine blk_drewN ?_ _|refine blk_drew ?_|refine blk_alloc ?_ _));exact BK101.out) hb);have n3_:=Aside0.mk (blk_below (g:=gb102) (o:=.cells #[.int .i64 a1_0,.bool a1_1,.int .i64 a1_2] 23 (0,0)) (by (with_reducible repeat (first|refine blk_drewN ?_ _|refine blk_drew ?_|refine blk_alloc ?_ _));refine blk_far ?_ NB102_129.out _;(with_reducible repeat (first|refine blk_drewN ?_ _|refine blk_drew ?_|refine blk_alloc ?_ _));refine blk_far ?_ NB102_129.out _;(with_reducible repeat (first|refine blk_drewN ?_ _|refine blk_drew ?_|refine blk_alloc ?_ _));refine blk_far ?_ NB102_129.out _;(with_reducible repeat (first|refine blk_drewN ?_ _|refine blk_drew ?_|refine blk_alloc ?_ _));exact BK102.out) hb);have n4_:=Aside0.mk (blk_below (g:=gb103) (o:=.cells #[.int .i64 a2_0,.int .i64 a2_1] 58 (0,0)) (by (with_reducible repeat (first|refine blk_drewN ?_ _|refine blk_drew ?_|refine blk_alloc ?_ _));refine blk_far ?_ NB103_129.out _;(with_reducible repeat (first|refine blk_drewN ?_ _|refine blk_drew ?_|refine blk_alloc ?_ _));refine blk_far ?_ NB103_129.out _;(with_reducible repeat (first|refine blk_drewN ?_ _|refine blk_drew ?_|refine blk_alloc ?_ _));refine blk_far ?_ NB103_129.out _;(with_reducible repeat (first|refine blk_drewN ?_ _|refine blk_drew ?_|refine blk_alloc ?_ _));exact BK103.out) hb);have n5_:=Aside0.mk (blk_below (g:=gb116) (o:=.cells #[.int .i64 t113,.int .i64 t114,.int .i64 t115] 69 (0,0)) (by (with_reducible repeat (first|refine blk_drewN ?_ _|refine blk_drew ?_|refine blk_alloc ?_ _));refine blk_far ?_ NB116_129.out _;(with_reducible repeat (first|refine blk_drewN ?_ _|refine blk_drew ?_|refine blk_alloc ?_ _));refine blk_far ?_ NB116_129.out _;(with_reducible repeat (first|refine blk_drewN ?_ _|refine blk_drew ?_|refine blk_alloc ?_ _));refine blk_far ?_ NB116_129.out _;(with_reducible repeat (first|refine blk_drewN ?_ _|refine blk_drew ?_|refine blk_alloc ?_ _));exact BK116.out) hb);have n6_:=Aside0.mk (blk_below (g:=gb120) (o:=.cells #[.slice Ao42 t117.length co42] 61 (0,0)) (by (with_reducible repeat (first|refine blk_drewN ?_ _|refine blk_drew ?_|refine blk_alloc ?_ _));refine blk_far ?_ NB120_129.out _;(with_reducible repeat (first|refine blk_drewN ?_ _|refine blk_drew ?_|refine blk_alloc ?_ _));refine blk_far ?_ NB120_129.out _;(with_reducible repeat (first|refine blk_drewN ?_ _|refine blk_drew ?_|refine blk_alloc ?_ _));refine blk_far ?_ NB120_129.out _;(with_reducible repeat (first|refine blk_drewN ?_ _|refine blk_drew ?_|refine blk_alloc ?_ _));exact BK120.out) hb);have n7_:=Aside0.mk (blk_below (g:=gb129) (o:=.cells #[.int .i64 t126,.int .i64 t127,.int .i64 t128] 69 (0,0)) (by (with_reducible repeat (first|refine blk_drewN ?_ _|refine blk_drew ?_|refine blk_alloc ?_ _));refine blk_put (cs:=#[.int .i64 t126,.int .i64 t127,.int .i64 0]) ?_ 2 _ rfl;(with_reducible repeat (first|refine blk_drewN ?_ _|refine blk_drew ?_|refine blk_alloc ?_ _));refine blk_put (cs:=#[.int .i64 t126,.int .i64 0,.int .i64 0]) ?_ 1 _ rfl;(with_reducible repeat (first|refine blk_drewN ?_ _|refine blk_drew ?_|refine blk_alloc ?_ _));refine blk_put (cs:=#[.int .i64 0,.int .i64 0,.int .i64 0]) ?_ 0 _ rfl;(with_reducible repeat (first|refine blk_drewN ?_ _|refine blk_drew ?_|refine blk_alloc ?_ _));exact BK129.out) hb);have n8_:=Aside0.mk (below_step (by repeat (first|(with_reducible first|exact HB.out|apply below_alloc|apply pw_below_drewN|apply below_drew1|refine below_set ?_ GE101.out|refine below_set ?_ GE102.out|refine below_set ?_ GE103.out|refine below_set ?_ GE116.out|refine below_set ?_ GE120.out|refine below_set ?_ GE129.out)|exact HB.out)) hb);clear HO107;clear HO119;clear BK101;clear BK102;clear BK103;clear BK116;clear BK120;clear BK129;clear HB;have HO107:=n0_;have HO119:=n1_;have BK101:=n2_;have BK102:=n3_;have BK103:=n4_;have BK116:=n5_;have BK120:=n6_;have BK129:=n7_;have HB:=n8_;clear n0_ n1_ n2_ n3_ n4_ n5_ n6_ n7_ n8_;(try clear hb);(try clear hb2);(try clear hk);(try clear hi)))
   (try simp only [Act.put,List.setIfInBounds_toArray,List.set_cons_zero,List.set_cons_succ])
   have H:=HC24.out
   clear HC24
   by_cases c68 : t130 = true
   · subst c68
     have H1 : ((laws_toFile.f k l0_0).bind fun t131 => ((laws_eqFile.f k t117 t131).bind fun t134 => (if t134 = true then (some true) else (some false)))) = some r:=by rw [if_pos rfl] at H;exact H
     clear H
     have H:=H1
     clear H1
     replace H:=Option.bind_eq_some_iff.mp H
     obtain ⟨t131,A690,H⟩:=H
     replace H : ((laws_eqFile.f k t117 t131).bind fun t134 => (if t134 = true then (some true) else (some false))) = some r:=H
     have A69:=Aside0.mk A690
     clear A690
     replace H:=Option.bind_eq_some_iff.mp H
     obtain ⟨t134,A700,H⟩:=H
     replace H : (if t134 = true then (some true) else (some false)) = some r:=H
     have A70:=Aside0.mk A700
     clear A700
     have HC71:=Aside0.mk H
     clear H
     try go_wp2
     have n0_:=Aside0.mk (Kd.R_drew HO107.out)
     have n1_:=Aside0.mk (Kd.R_drew HO119.out)
     have n2_:=Aside0.mk (blk_drew BK101.out)
     have n3_:=Aside0.mk (blk_drew BK102.out)
     have n4_:=Aside0.mk (blk_drew BK103.out)
     have n5_:=Aside0.mk (blk_drew BK116.out)
     have n6_:=Aside0.mk (blk_drew BK120.out)
     have n7_:=Aside0.mk (blk_drew BK129.out)
     have n8_:=Aside0.mk (below_drew1 HB.out)
     clear HO107
     clear HO119
     clear BK101
     clear BK102
     clear BK103
     clear BK116
     clear BK120
     clear BK129
     clear HB
     have HO107:=n0_
     have HO119:=n1_
     have BK101:=n2_
     have BK102:=n3_
     have BK103:=n4_
     have BK116:=n5_
     have BK120:=n6_
     have BK129:=n7_
     have HB:=n8_
     clear n0_ n1_ n2_ n3_ n4_ n5_ n6_ n7_ n8_
     refine start_ (n:=5) (S:=fun w' => w'.cell? ⟨gb120,0,none⟩ = some (.slice Ao42 t117.length co42) ∧ w'.cell? ⟨gb101,0,none⟩ = some (.slice A0_0 l0_0.length c0_0)) (ds:=[]) #[false,false,false,false,false] (by kernel_rfl) rfl rfl ⟨(blk_cell BK120.out 0).trans rfl,(blk_cell BK101.out 0).trans rfl⟩ (fun hHeld => ?_)
     generalize w67.drew = w72 at HO107 HO119 BK101 BK102 BK103 BK116 BK120 BK129 HB hHeld ⊢
     refine take_ (i:=0) (N:=some 39) (v:=?_) (a':=?_) #[true,false,false,false,false] rfl rfl (by kernel_rfl) (fun _ _ _ h => h) (Or.inl ⟨by rfl,?_⟩) hHeld ?_ ?_
     rotate_left
     · rintro w' ⟨s0,s1⟩
       go_simp
       with_reducible rfl
     rotate_left
     · simp only [Act.put,List.setIfInBounds_toArray,List.set_cons_zero,List.set_cons_succ,i64_w,i32_w]
       rfl
     refine take_ (i:=1) (N:=some 40) (v:=?_) (a':=?_) #[true,true,false,false,false] rfl rfl (by kernel_rfl) (fun _ _ _ h => h) (Or.inl ⟨by rfl,?_⟩) hHeld ?_ ?_
     rotate_left
     · rintro w' ⟨s0,s1⟩
       go_simp
       with_reducible rfl
     rotate_left
     · simp only [Act.put,List.setIfInBounds_toArray,List.set_cons_zero,List.set_cons_succ,i64_w,i32_w]
       rfl
     refine one_ (i:=2) (N:=some 41) #[true,true,true,false,false] rfl rfl (by kernel_rfl) (by decide) (fun K hK => ?_)
     refine goes_ Try.func40 (by kernel_rfl) rfl #[.agg #[.slice A0_0 l0_0.length c0_0]] (by rfl) rfl rfl (by (try simp only [List.map_toArray,List.map_cons,List.map_nil]);first|done|rfl|(simp only [List.length_drop,List.length_take];rfl)) ?_
     with_reducible refine (laws_toFile.calls k _ _ l0_0 t131 _ ?side1 ?side2 A69.out).mono ?_
     (case side1 => repeat (first|exact (Kd.C_below HR0_0.out HB.out)|(with_reducible refine Kd.C_alloc ?_ _)|(with_reducible refine Kd.C_drewN ?_ _)|(with_reducible refine Kd.C_drew ?_)))
     (case side2 => exact HC0_0.out)
     rintro e w73 ⟨v132,rfl,ho0,hb⟩
     refine ⟨_,rfl,?_⟩
     have n0_:=Aside0.mk (Kd.R_elder' (by (with_reducible repeat (first|apply Kd.R_alloc|apply Kd.R_drewN|apply Kd.R_drew));exact HO107.out) (Kd.R_base ho0) hb)
     have n1_:=Aside0.mk (Kd.R_elder' (by (with_reducible repeat (first|apply Kd.R_alloc|apply Kd.R_drewN|apply Kd.R_drew));exact HO119.out) (Kd.R_base ho0) hb)
     have n2_:=Aside0.mk (Kd.R_lower (Kd.R_new' (Kd.R_new' ho0 (Kd.R_lt (by (with_reducible repeat (first|apply Kd.R_alloc|apply Kd.R_drewN|apply Kd.R_drew));exact HO107.out))) (Kd.R_lt (by (with_reducible repeat (first|apply Kd.R_alloc|apply Kd.R_drewN|apply Kd.R_drew));exact HO119.out))) (below_size (by repeat (first|(with_reducible first|exact HB.out|apply below_alloc|apply pw_below_drewN|apply below_drew1|refine below_set ?_ GE101.out|refine below_set ?_ GE102.out|refine below_set ?_ GE103.out|refine below_set ?_ GE116.out|refine below_set ?_ GE120.out|refine below_set ?_ GE129.out)|exact HB.out))))
     have n3_:=Aside0.mk (blk_below (g:=gb101) (o:=.cells #[.slice A0_0 l0_0.length c0_0] 56 (0,0)) (by (with_reducible repeat (first|refine blk_drewN ?_ _|refine blk_drew ?_|refine blk_alloc ?_ _));exact BK101.out) hb)
     have n4_:=Aside0.mk (blk_below (g:=gb102) (o:=.cells #[.int .i64 a1_0,.bool a1_1,.int .i64 a1_2] 23 (0,0)) (by (with_reducible repeat (first|refine blk_drewN ?_ _|refine blk_drew ?_|refine blk_alloc ?_ _));exact BK102.out) hb)
     have n5_:=Aside0.mk (blk_below (g:=gb103) (o:=.cells #[.int .i64 a2_0,.int .i64 a2_1] 58 (0,0)) (by (with_reducible repeat (first|refine blk_drewN ?_ _|refine blk_drew ?_|refine blk_alloc ?_ _));exact BK103.out) hb)
     have n6_:=Aside0.mk (blk_below (g:=gb116) (o:=.cells #[.int .i64 t113,.int .i64 t114,.int .i64 t115] 69 (0,0)) (by (with_reducible repeat (first|refine blk_drewN ?_ _|refine blk_drew ?_|refine blk_alloc ?_ _));exact BK116.out) hb)
     have n7_:=Aside0.mk (blk_below (g:=gb120) (o:=.cells #[.slice Ao42 t117.length co42] 61 (0,0)) (by (with_reducible repeat (first|refine blk_drewN ?_ _|refine blk_drew ?_|refine blk_alloc ?_ _));exact BK120.out) hb)
     have n8_:=Aside0.mk (blk_below (g:=gb129) (o:=.cells #[.int .i64 t126,.int .i64 t127,.int .i64 t128] 69 (0,0)) (by (with_reducible repeat (first|refine blk_drewN ?_ _|refine blk_drew ?_|refine blk_alloc ?_ _));exact BK129.out) hb)
     have n9_:=Aside0.mk (below_step (by repeat (first|(with_reducible first|exact HB.out|apply below_alloc|apply pw_below_drewN|apply below_drew1|refine below_set ?_ GE101.out|refine below_set ?_ GE102.out|refine below_set ?_ GE103.out|refine below_set ?_ GE116.out|refine below_set ?_ GE120.out|refine below_set ?_ GE129.out)|exact HB.out)) hb)
     clear HO107
     clear HO119
     clear BK101
     clear BK102
     clear BK103
     clear BK116
     clear BK120
     clear BK129
     clear HB
     have HO107:=n0_
     have HO119:=n1_
     have HO133:=n2_
     have BK101:=n3_
     have BK102:=n4_
     have BK103:=n5_
     have BK116:=n6_
     have BK120:=n7_
     have BK129:=n8_
     have HB:=n9_
     clear n0_ n1_ n2_ n3_ n4_ n5_ n6_ n7_ n8_ n9_
     (try clear hb)
     (try clear hb2)
     (try clear hk)
     (try clear hi)
     (try clear ho0)
     obtain ⟨Ao74,co74,eo74⟩:=Kd.R_slice HO133.out
     (first|subst eo74|(injection eo74 with f1_ f2_ f3_;have f4_:=f1_.symm;have f5_:=f3_.symm;clear f1_ f2_ f3_;subst f4_;subst f5_))
     refine hK.out _ _ ⟨(blk_cell BK120.out 0).trans rfl,(blk_cell BK101.out 0).trans rfl⟩ (fun hHeld => ?_)
     clear hK K
     refine norm_ (a':=?_) ?_ ?_
     rotate_left
     · show Act.put _ (some 41) _ = _
       simp only [Act.put,List.setIfInBounds_toArray,List.set_cons_zero,List.set_cons_succ,i64_w,i32_w]
       rfl
     refine one_ (i:=3) (N:=some 42) #[true,true,true,true,false] rfl rfl (by kernel_rfl) (by decide) (fun K hK => ?_)
     refine goes_ Try.func43 (by kernel_rfl) rfl #[.agg #[.slice Ao42 t117.length co42],.agg #[.slice Ao74 t131.length co74]] (by rfl) rfl rfl (by (try simp only [List.map_toArray,List.map_cons,List.map_nil]);first|done|rfl|(simp only [List.length_drop,List.length_take];rfl)) ?_
     with_reducible refine (laws_eqFile.calls k _ _ t117 _ _ t131 t134 _ ?side1 ?side2 ?side3 ?side4 A70.out).mono ?_
     (case side1 => repeat (first|exact (Kd.R_reads' HO119.out).2.2|(with_reducible refine Kd.C_alloc ?_ _)|(with_reducible refine Kd.C_drewN ?_ _)|(with_reducible refine Kd.C_drew ?_)))
     (case side2 => exact (Kd.R_reads' HO119.out).2.1)
     (case side3 => repeat (first|exact (Kd.R_reads' HO133.out).2.2|(with_reducible refine Kd.C_alloc ?_ _)|(with_reducible refine Kd.C_drewN ?_ _)|(with_reducible refine Kd.C_drew ?_)))
     (case side4 => exact (Kd.R_reads' HO133.out).2.1)
     rintro e w75 ⟨rfl,hb⟩
     refine ⟨_,rfl,?_⟩
     have n0_:=Aside0.mk (Kd.R_below (by (with_reducible repeat (first|apply Kd.R_alloc|apply Kd.R_drewN|apply Kd.R_drew));exact HO107.out) hb)
     have n1_:=Aside0.mk (Kd.R_below (by (with_reducible repeat (first|apply Kd.R_alloc|apply Kd.R_drewN|apply Kd.R_drew));exact HO119.out) hb)
     have n2_:=Aside0.mk (Kd.R_below (by (with_reducible repeat (first|apply Kd.R_alloc|apply Kd.R_drewN|apply Kd.R_drew));exact HO133.out) hb)
     have n3_:=Aside0.mk (blk_below (g:=gb101) (o:=.cells #[.slice A0_0 l0_0.length c0_0] 56 (0,0)) (by (with_reducible repeat (first|refine blk_drewN ?_ _|refine blk_drew ?_|refine blk_alloc ?_ _));exact BK101.out) hb)
     have n4_:=Aside0.mk (blk_below (g:=gb102) (o:=.cells #[.int .i64 a1_0,.bool a1_1,.int .i64 a1_2] 23 (0,0)) (by (with_reducible repeat (first|refine blk_drewN ?_ _|refine blk_drew ?_|refine blk_alloc ?_ _));exact BK102.out) hb)
     have n5_:=Aside0.mk (blk_below (g:=gb103) (o:=.cells #[.int .i64 a2_0,.int .i64 a2_1] 58 (0,0)) (by (with_reducible repeat (first|refine blk_drewN ?_ _|refine blk_drew ?_|refine blk_alloc ?_ _));exact BK103.out) hb)
     have n6_:=Aside0.mk (blk_below (g:=gb116) (o:=.cells #[.int .i64 t113,.int .i64 t114,.int .i64 t115] 69 (0,0)) (by (with_reducible repeat (first|refine blk_drewN ?_ _|refine blk_drew ?_|refine blk_alloc ?_ _));exact BK116.out) hb)
     have n7_:=Aside0.mk (blk_below (g:=gb120) (o:=.cells #[.slice Ao42 t117.length co42] 61 (0,0)) (by (with_reducible repeat (first|refine blk_drewN ?_ _|refine blk_drew ?_|refine blk_alloc ?_ _));exact BK120.out) hb)
     have n8_:=Aside0.mk (blk_below (g:=gb129) (o:=.cells #[.int .i64 t126,.int .i64 t127,.int .i64 t128] 69 (0,0)) (by (with_reducible repeat (first|refine blk_drewN ?_ _|refine blk_drew ?_|refine blk_alloc ?_ _));exact BK129.out) hb)
     have n9_:=Aside0.mk (below_step (by repeat (first|(with_reducible first|exact HB.out|apply below_alloc|apply pw_below_drewN|apply below_drew1|refine below_set ?_ GE101.out|refine below_set ?_ GE102.out|refine below_set ?_ GE103.out|refine below_set ?_ GE116.out|refine below_set ?_ GE120.out|refine below_set ?_ GE129.out)|exact HB.out)) hb)
     clear HO107
     clear HO119
     clear HO133
     clear BK101
     clear BK102
     clear BK103
     clear BK116
     clear BK120
     clear BK129
     clear HB
     have HO107:=n0_
     have HO119:=n1_
     have HO133:=n2_
     have BK101:=n3_
     have BK102:=n4_
     have BK103:=n5_
     have BK116:=n6_
     have BK120:=n7_
     have BK129:=n8_
     have HB:=n9_
     clear n0_ n1_ n2_ n3_ n4_ n5_ n6_ n7_ n8_ n9_
     (try clear hb)
     (try clear hb2)
     (try clear hk)
     (try clear hi)
     refine hK.out _ _ ⟨(blk_cell BK120.out 0).trans rfl,(blk_cell BK101.out 0).trans rfl⟩ (fun hHeld => ?_)
     clear hK K
     refine norm_ (a':=?_) ?_ ?_
     rotate_left
     · show Act.put _ (some 42) _ = _
       simp only [Act.put,List.setIfInBounds_toArray,List.set_cons_zero,List.set_cons_succ,i64_w,i32_w]
       rfl
     refine pure_ (i:=4) (N:=some 43) (v:=?_) (a':=?_) #[true,true,true,true,true] rfl rfl (by kernel_rfl) (fun _ _ _ h => h) (Or.inl ⟨by rfl,?_⟩) ?_ ?_
     rotate_left
     · intro w'
       go_simp
       with_reducible rfl
     rotate_left
     · simp only [Act.put,List.setIfInBounds_toArray,List.set_cons_zero,List.set_cons_succ,i64_w,i32_w]
       rfl
     refine done_ (by kernel_rfl) ?_
     go_upto_if 43 with (fail)
     have H:=HC71.out
     clear HC71
     by_cases c76 : t134 = true
     · subst c76
       have H1 : (some true) = some r:=by rw [if_pos rfl] at H;exact H
       clear H
       have H:=H1
       clear H1
       obtain rfl:=Option.some.inj H
       go_wp2
       go_ret
       exact ⟨by first|rfl|(simp [errW_none,errW_some] <;> rfl)|(simp [*,errW_none,errW_some] <;> rfl),by repeat (first|(with_reducible first|exact HB.out|apply below_alloc|apply pw_below_drewN|apply below_drew1|refine below_set ?_ GE101.out|refine below_set ?_ GE102.out|refine below_set ?_ GE103.out|refine below_set ?_ GE116.out|refine below_set ?_ GE120.out|refine below_set ?_ GE129.out)|exact HB.out)⟩
     · replace c76:=Bool.eq_false_iff.mpr c76
       subst c76
       have H1 : (some false) = some r:=by rw [if_neg (show ¬ (false = true) by decide)] at H;exact H
       clear H
       have H:=H1
       clear H1
       obtain rfl:=Option.some.inj H
       go_wp2
       go_ret
       exact ⟨by first|rfl|(simp [errW_none,errW_some] <;> rfl)|(simp [*,errW_none,errW_some] <;> rfl),by repeat (first|(with_reducible first|exact HB.out|apply below_alloc|apply pw_below_drewN|apply below_drew1|refine below_set ?_ GE101.out|refine below_set ?_ GE102.out|refine below_set ?_ GE103.out|refine below_set ?_ GE116.out|refine below_set ?_ GE120.out|refine below_set ?_ GE129.out)|exact HB.out)⟩
   · replace c68:=Bool.eq_false_iff.mpr c68
     subst c68
     have H1 : (some false) = some r:=by rw [if_neg (show ¬ (false = true) by decide)] at H;exact H
     clear H
     have H:=H1
     clear H1
     obtain rfl:=Option.some.inj H
     go_wp2
     go_ret
     exact ⟨by first|rfl|(simp [errW_none,errW_some] <;> rfl)|(simp [*,errW_none,errW_some] <;> rfl),by repeat (first|(with_reducible first|exact HB.out|apply below_alloc|apply pw_below_drewN|apply below_drew1|refine below_set ?_ GE101.out|refine below_set ?_ GE102.out|refine below_set ?_ GE103.out|refine below_set ?_ GE116.out|refine below_set ?_ GE120.out|refine below_set ?_ GE129.out)|exact HB.out)⟩
end Go.Proofs.Ytcinaflmpdmdaaa.Q
end
section
namespace Go.Proofs.Ytcinaflmpdmdaaa.MoveSpot
open Go.RowKit Go.Proofs.Ytcinaflmpdmdaaa.Q Go.Proofs.YtcinaflmpdmdaaaW.PrintWords Go.Proofs.YtcinaflmpdmdaaaW.PrintLast Go.Proofs.YtcinaflmpdmdaaaW.PrintMore Go.Proofs.Ytcinaflmpdmdaaa.L
theorem pure_law (l : List Int) (hm : l.length ≤ 9223372036854775807) (hw : ∀ x ∈ l, (Lit.int .u8 x).wf = true) (wd : Int) (ch : Bool) (sh a b t : Int) : ∃ k, laws_FnExactMoveSpot.f k l wd ch sh a b t = some true := by
  refine Ev.rounds ?_
  unfold laws_FnExactMoveSpot.f
  by_cases hl : 1048576 < l.length
  · exact Ev.bind0 (szFile_big l hm hl) (Ev.pos (by decide) (Ev.now _))
  have hn : l.length ≤ 1048576 := by omega
  refine Ev.bind0 (szFile_fit l hn) (Ev.neg (by omega) ?_)
  have hS := s_moveSpot (M.lineOk_of hn hw) wd ch sh a b t
  have hI := i_moveSpot (M.lineOk_of hn hw) wd ch sh a b t
  generalize (if M.spotF l wd ch sh a b = 0 then (if -9999 ≤ t ∧ t ≤ 9999 then ((0 : Int), movF (M.cntL l wd ch) a b t) else (3, 0, 0)) else (M.spotF l wd ch sh a b, 0, 0)) = r at hS hI
  obtain ⟨p, q, s⟩ := r
  have hq : laws_eqSpotResult.f p q s p q s = some true := by unfold laws_eqSpotResult.f laws_eqSpot.f; simp
  simp only [laws_toLayout.f, laws_toSpot.f, Option.bind_some]
  exact Ev.bind (laws_toFile.ev l hn) (Ev.bind hS (Ev.bind (laws_toFile.ev l hn) (Ev.bind hI (Ev.bind0 hq (Ev.pos rfl (Ev.bind (laws_toFile.ev l hn) (Ev.bind (laws_eqFile.ev l hn) (Ev.pos rfl (Ev.now _)))))))))
theorem law_walk (A : Option Addr) (c : Nat) (l : List Int) (wd : Int) (ch : Bool) (sh a b t : Int) (w : World) (hR : M.Row (fun x => [Value.int .u8 x]) 1 w A l) (hw : ∀ x ∈ l, (Lit.int .u8 x).wf = true) (hc : l.length ≤ c) (hm : c ≤ maxLen) :
    Calls Try.prog 12 #[.agg #[.slice A l.length c], .agg #[.int .i64 wd, .bool ch, .int .i64 sh], .agg #[.int .i64 a, .int .i64 b], .int .i64 t] w fun e w' => e = .returned (.bool true) ∧ Below w.heap.size w w' := by
  obtain ⟨k, h⟩ := pure_law l (by unfold maxLen at hm; omega) hw wd ch sh a b t
  exact laws_FnExactMoveSpot.calls k A c l wd ch sh a b t true w (M.C_ints (by unfold maxLen at hm; omega) hR) hc h
open Go.ChangeShapes Go.WideShapes Go.ChangeAt Go.Proofs.Ytcinaflmpdmdaaa.M
set_option maxRecDepth 100000 in
theorem lifted (os : Os) (started : os.Started) (H : Type) (enc : TypeId × Value → H) :
    ReturnsInHanded {} Try.checked os 12 .any (Rows.fnExactMoveSpotSpec.pre6 enc Try.prog Try.f12 Rows.fnExactMoveSpotRow.domain false) (Rows.fnExactMoveSpotSpec.post enc Try.prog Try.f12 false true false false) := by
  refine returnsInHanded_of_change (C := Try.checked) own_knob started (by kernel_rfl) Try.func12
    (ChangeSpec.witness6 (enc := enc) (C := Try.checked) false ⟨#[], #[.agg #[.slice none 0 0], .agg #[.int .i64 0, .bool false, .int .i64 0], .agg #[.int .i64 0, .int .i64 0], .int .i64 0], []⟩ 8 (by kernel_rfl) (by kernel_rfl) (by kernel_rfl) (by kernel_rfl)) ?_
  intro W base args ds gs before hval0 hW hcnd _
  have hval : ∀ (j : Nat) t v, (Try.f12).params[j]? = some t → args[j]? = some v → Value.okWide Try.prog W .any base t v := hval0
  have hW' := hW
  obtain ⟨p, q, hA0, hV, rfl, hfz, hnd⟩ := hW
  have hA : DataW.TrodAll enc Try.prog W 0 (fun _ => true) true (Try.f12).params.toList args.toList ds p := hA0
  rw [Try.params12] at hA hval
  obtain ⟨v0, vs0, d0, ds0, p0, q0, hargs, rfl, rfl, h0, r0⟩ := trodAll_cons hA
  obtain ⟨v1, vs1, d1, ds1, p1, q1, rfl, rfl, rfl, h1, r1⟩ := trodAll_cons r0
  obtain ⟨v2, vs2, d2, ds2, p2, q2, rfl, rfl, rfl, h2, r2⟩ := trodAll_cons r1
  obtain ⟨v3, vs3, d3, ds3, p3, q3, rfl, rfl, rfl, h3, r3⟩ := trodAll_cons r2
  obtain ⟨rfl, rfl, rfl⟩ := trodAll_nil r3
  obtain rfl : args = #[v0, v1, v2, v3] := by cases args; simp_all
  obtain ⟨cs0, _, _, rfl, hx0⟩ := open_struct_v Try.underlying56 (hval 0 _ v0 rfl rfl) h0
  obtain ⟨A, l, c, rfl, hc, hm, hR, hG⟩ := el_File hx0
  obtain ⟨cs1, _, _, rfl, hx1⟩ := open_struct_v Try.underlying23 (hval 1 _ v1 rfl rfl) h1
  obtain ⟨wd, ch, sh, rfl⟩ := el_Layout hx1
  obtain ⟨cs2, _, _, rfl, hx2⟩ := open_struct_v Try.underlying58 (hval 2 _ v2 rfl rfl) h2
  obtain ⟨a, b, rfl, _, _⟩ := el_Spot hx2
  obtain ⟨t, rfl, _, _⟩ := open_int Try.underlying2 (hval 3 _ v3 rfl rfl) h3
  obtain ⟨rfl, rfl⟩ := trodVars_none hV
  refine (law_walk A c l wd ch sh a b t W hR hG hc hm).mono fun e W' ⟨he, hb⟩ => ?_
  subst he
  exact ⟨_, rfl, law_post laid_out Try.underlying4 rfl rfl (by kernel_rfl) hW' hb ⟨rfl, rfl, rfl⟩⟩
theorem over : Rows.fnExactMoveSpotRow.holds Try.pinned (OpenSpec.ofChange Rows.fnExactMoveSpotSpec) :=
  OpenClaim.holds_of_wide 12 Try.f12 rfl rfl rfl rfl rfl rfl rfl ⟨rfl, rfl, rfl, rfl, rfl⟩ rfl rfl rfl rfl rfl (by kernel_rfl) Try.func12 (by kernel_rfl)
    (of_decide_eq_true (by kernel_rfl)) (by unfold Func.isWrapper; first | (rw [if_pos (by decide +kernel)]; kernel_rfl) | (rw [if_neg (by decide +kernel)]; exact ⟨rfl, rfl⟩))
    (fun os started H enc _ => lifted os started H enc)
theorem proved : Rows.FnExactMoveSpotSaid := over
end Go.Proofs.Ytcinaflmpdmdaaa.MoveSpot
end
