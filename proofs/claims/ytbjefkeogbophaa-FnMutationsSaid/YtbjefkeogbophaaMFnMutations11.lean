/- Part 11 of what the law FnMutations stands on; the last part ends with the law's row. No condition of mine. -/
import Derived.Test.YtbjefkeogbophaaMFnMutations1
import Derived.Test.YtbjefkeogbophaaMFnMutations10
namespace Go.Proofs.Ytbjefkeogbophaa.P
open Go.RowKit Go.Proofs.YtbjefkeogbophaaW.PrintWords Go.Proofs.YtbjefkeogbophaaW.PrintLast Go.Proofs.YtbjefkeogbophaaW.PrintMore
attribute [local go_sem] max2_int min2_int max_two min_two max_three min_three max_four min_four   -- for this text's walks alone
set_option linter.unusedVariables false
set_option linter.unusedSimpArgs false

/-! ### z28_: function 28 -/
mutual
def z28_.l0:Nat→Int→Int→ByteArray→Bool→Int→Int→Int→Int→ByteArray→List (S54)→Option (Int × Int × Int × Int × ByteArray × (List (S54)) × Bool)
 | 0,_,_,_,_,_,_,_,_,_,_=>none
 | k+1,x6,x8,x103000,x103001,x113000,x113001,x113002,x113003,x113004,x113005=>if x8 < x6 then(z28_.j1 k x6 x8 (!x103001) x103000 x103001 x113000 x113001 x113002 x113003 x113004 x113005)else(z28_.j1 k x6 x8 false x103000 x103001 x113000 x113001 x113002 x113003 x113004 x113005)
def z28_.j1:Nat→Int→Int→Bool→ByteArray→Bool→Int→Int→Int→Int→ByteArray→List (S54)→Option (Int × Int × Int × Int × ByteArray × (List (S54)) × Bool)
 | 0,_,_,_,_,_,_,_,_,_,_,_=>none
 | k+1,x6,x8,x35,x103000,x103001,x113000,x113001,x113002,x113003,x113004,x113005=>if x35=true then((z51_.f k x103000 x103001 2).bind fun bt126=>((z51_.f k bt126.2.1 bt126.2.2 2).bind fun bt129=>((z52_.f bt129.2.1 bt129.2.2 bt126.1).bind fun bt132=>((z52_.f bt132.2.1 bt132.2.2 bt129.1).bind fun bt135=>(if x113005.length < 4398046511104 then(z28_.l0 k x6 (wrap64 (x8+1)) bt135.2.1 bt135.2.2 x113000 x113001 x113002 x113003 x113004 (x113005 ++ [(⟨bt132.1,bt135.1⟩:S54)]))else(none))))))else(if x103001=true then(some (x113000,x113001,x113002,x113003,x113004,x113005,false))else(if x103000.toList=([]:List UInt8)then((z17_.f k x113000 x113001 x113002 x113003 x113004 x113005).bind fun t125=>(some (x113000,x113001,x113002,x113003,x113004,x113005,t125)))else(some (x113000,x113001,x113002,x113003,x113004,x113005,false))))
end
def z28_.f (k:Nat) (a0:ByteArray):Option (Int × Int × Int × Int × ByteArray × (List (S54)) × Bool):=if(a0.size:Int) > 20000 then(some (0,0,0,0,(⟨#[]⟩:ByteArray),([]:List (S54)),false))else((z51_.f k a0 false 1).bind fun bt103=>((z51_.f k bt103.2.1 bt103.2.2 1).bind fun bt106=>((z51_.f k bt106.2.1 bt106.2.2 1).bind fun bt109=>((z51_.f k bt109.2.1 bt109.2.2 1).bind fun bt113=>((z51_.f k bt113.2.1 bt113.2.2 1).bind fun bt116=>((z51_.f k bt116.2.1 bt116.2.2 2).bind fun bt119=>((z52_.f bt119.2.1 bt119.2.2 bt116.1).bind fun bt122=>(z28_.l0 k bt113.1 0 bt122.2.1 bt122.2.2 bt103.1 bt119.1 bt106.1 bt109.1 bt122.1 ([]:List (S54))))))))))
theorem z28_.mono_l:∀ k,(∀ y0 y1 y2 y3 y4 y5 y6 y7 y8 y9,LeO (z28_.l0 k y0 y1 y2 y3 y4 y5 y6 y7 y8 y9) (z28_.l0 (k+1) y0 y1 y2 y3 y4 y5 y6 y7 y8 y9))∧(∀ y0 y1 y2 y3 y4 y5 y6 y7 y8 y9 y10,LeO (z28_.j1 k y0 y1 y2 y3 y4 y5 y6 y7 y8 y9 y10) (z28_.j1 (k+1) y0 y1 y2 y3 y4 y5 y6 y7 y8 y9 y10))
 | 0=>⟨fun _ _ _ _ _ _ _ _ _ _ r h=>by simp[z28_.l0]at h,fun _ _ _ _ _ _ _ _ _ _ _ r h=>by simp[z28_.j1]at h⟩
 | k+1=>by
  obtain⟨ih0,ih1⟩:=z28_.mono_l k;refine⟨?_,?_⟩
  ·intro y0 y1 y2 y3 y4 y5 y6 y7 y8 y9
   unfold z28_.l0
   repeat' first
   | (with_reducible exact ih0 _ _ _ _ _ _ _ _ _ _)
   | (with_reducible exact ih1 _ _ _ _ _ _ _ _ _ _ _)
   | (with_reducible exact z17_.mono _ _ _ _ _ _ _)
   | (with_reducible exact z51_.mono _ _ _ _)
   | (with_reducible exact LeO.refl _)
   | (with_reducible exact LeO.none _)
   | (with_reducible refine LeO.ite ?_ ?_)
   | (with_reducible refine LeO.bind ?_ (fun _=> ?_))
   | exact ih0 _ _ _ _ _ _ _ _ _ _
   | exact ih1 _ _ _ _ _ _ _ _ _ _ _
   | exact z17_.mono _ _ _ _ _ _ _
   | exact z51_.mono _ _ _ _
   | exact LeO.none _
   | refine LeO.ite ?_ ?_
   | refine LeO.bind ?_ (fun _=> ?_)
  ·intro y0 y1 y2 y3 y4 y5 y6 y7 y8 y9 y10
   unfold z28_.j1
   repeat' first
   | (with_reducible exact ih0 _ _ _ _ _ _ _ _ _ _)
   | (with_reducible exact ih1 _ _ _ _ _ _ _ _ _ _ _)
   | (with_reducible exact z17_.mono _ _ _ _ _ _ _)
   | (with_reducible exact z51_.mono _ _ _ _)
   | (with_reducible exact LeO.refl _)
   | (with_reducible exact LeO.none _)
   | (with_reducible refine LeO.ite ?_ ?_)
   | (with_reducible refine LeO.bind ?_ (fun _=> ?_))
   | exact ih0 _ _ _ _ _ _ _ _ _ _
   | exact ih1 _ _ _ _ _ _ _ _ _ _ _
   | exact z17_.mono _ _ _ _ _ _ _
   | exact z51_.mono _ _ _ _
   | exact LeO.none _
   | refine LeO.ite ?_ ?_
   | refine LeO.bind ?_ (fun _=> ?_)
theorem z28_.mono:∀ a0 k,LeO (z28_.f k a0) (z28_.f (k+1) a0):=by
 intro a0 k
 obtain⟨ih0,ih1⟩:=z28_.mono_l k
 unfold z28_.f
 repeat' first
   | (with_reducible exact ih0 _ _ _ _ _ _ _ _ _ _)
   | (with_reducible exact ih1 _ _ _ _ _ _ _ _ _ _ _)
   | (with_reducible exact z17_.mono _ _ _ _ _ _ _)
   | (with_reducible exact z51_.mono _ _ _ _)
   | (with_reducible exact LeO.refl _)
   | (with_reducible exact LeO.none _)
   | (with_reducible refine LeO.ite ?_ ?_)
   | (with_reducible refine LeO.bind ?_ (fun _=> ?_))
   | exact ih0 _ _ _ _ _ _ _ _ _ _
   | exact ih1 _ _ _ _ _ _ _ _ _ _ _
   | exact z17_.mono _ _ _ _ _ _ _
   | exact z51_.mono _ _ _ _
   | exact LeO.none _
   | refine LeO.ite ?_ ?_
   | refine LeO.bind ?_ (fun _=> ?_)
def z28_.T12:Bool × List (List Nat × List Nat):=(true,[([],[]),([0],[0]),([],[]),([2],[2]),([],[]),([4,3],[4]),([3,5],[3,5]),([6],[6]),([1,7,5],[1,7]),([0,1,2,3,4,5,6,7,8],[]),([9,8,8,0,1,2,3,4,5,6,7,8],[8,9])])
def z28_.B12:List Nat:=[0,1,0,4,0,28,60,124,255,511,1023]
theorem z28_.tab12:rtab .any (opsOf Try.f28 12)=z28_.T12:=by kernel_rfl
theorem z28_.bits12:waitsOk z28_.T12.2 z28_.B12=true:=by kernel_rfl
def z28_.T13:Bool × List (List Nat × List Nat):=(true,[([],[]),([],[]),([1],[1]),([2],[2]),([3],[3]),([4],[4]),([5,4],[4,5]),([6,4],[4,6]),([4,7],[4,7]),([8,4],[8]),([9],[9]),([10,9,9],[9,10]),([9,11],[9,11]),([0,11,0],[0]),([12,13,0,1,2,3,4,5,6,7,8,9,10,11,12,13],[12])])
def z28_.B13:List Nat:=[0,0,2,6,14,30,62,126,254,510,1022,2046,4094,4095,16383]
theorem z28_.tab13:rtab .any (opsOf Try.f28 13)=z28_.T13:=by kernel_rfl
theorem z28_.bits13:waitsOk z28_.T13.2 z28_.B13=true:=by kernel_rfl
abbrev z28_.b0:Array Value:=#[.int .i64 0,.int .i64 0,.int .i64 0,.int .i64 0,.string (⟨#[]⟩:ByteArray),.slice none 0 0]
set_option maxHeartbeats 8000000 in
set_option maxRecDepth 100000 in
theorem z28_.calls (k:Nat) (a0:ByteArray) (r1:Int) (r2:Int) (r3:Int) (r4:Int) (r5:ByteArray) (r6:List (S54)) (r7:Bool) (w:World) (h:z28_.f k a0=some (r1,r2,r3,r4,r5,r6,r7)) :
  Calls Try.prog 28 #[.string a0] w fun e w' => ∃ v5_:Value,e= .returned (.tuple #[.agg #[.int .i64 r1,.int .i64 r2,.int .i64 r3,.int .i64 r4,.string r5,v5_],.bool r7])∧Kd.R k54 54 w' w.heap.size (fun _=>True) v5_ r6∧Below w.heap.size w w' := by
 have hu31:=Try.underlying31
 have hu84:=Try.underlying84
 have hu54:=Try.underlying54
 have HB:=qM_ (Below.refl w.heap.size w)
 have H:(if(a0.size:Int) > 20000 then(some (0,0,0,0,(⟨#[]⟩:BA_),([]:List (S54)),false))else((z51_.f k a0 false 1).bind fun bt103=>((z51_.f k bt103.2.1 bt103.2.2 1).bind fun bt106=>((z51_.f k bt106.2.1 bt106.2.2 1).bind fun bt109=>((z51_.f k bt109.2.1 bt109.2.2 1).bind fun bt113=>((z51_.f k bt113.2.1 bt113.2.2 1).bind fun bt116=>((z51_.f k bt116.2.1 bt116.2.2 2).bind fun bt119=>((z52_.f bt119.2.1 bt119.2.2 bt116.1).bind fun bt122=>(z28_.l0 k bt113.1 0 bt122.2.1 bt122.2.2 bt103.1 bt119.1 bt106.1 bt109.1 bt122.1 ([]:List (S54)))))))))))=some (r1,r2,r3,r4,r5,r6,r7):=h
 clear h
 by_cases c2:(a0.size:Int) > 20000
 ·rw[if_pos c2]at H
  have c2b0:decide (20000 < (a0.size:Int))=true:=decide_eq_true c2;have c2b1:decide (20000 < a0.size)=true:=decide_eq_true (by omega);clear c2;simp only[Option.some.injEq,Prod.mk.injEq]at H;obtain⟨rfl,rfl,rfl,rfl,rfl,rfl,rfl⟩:=H;go_enter Try.func28,Try.ntmps28
  go_wp2_with (first|((with_reducible refine gate_dst (N:=2) rfl ?_);refine box_event ?hg (N:=2) ?hd (cs:=z28_.b0) (t:=31) ?hr ?_;(case hd=>rfl);(case hg=>rfl);(case hr=>first|(go_simp;done)|(go_simp;rfl));intro gb101 hg w3 hbox hb;have BK101:=qM_ (hbox);have GW101:=qM_ ((by rw[hg];exact(below_size qBHB):w.heap.size≤gb101));have GE101:=qM_ ((by rw[hg];exact(below_size qBHB):w.heap.size≤gb101));replace HB:=qM_ (below_step qBHB hb);clear hb hbox hg;obtain⟨hcz4_0,hcz4_1,hcz4_2,hcz4_3,hcz4_4,hcz4_5,hfz4_0⟩:=qc6_ BK101))
  refine bodyPost_ret (results_ct rfl _ _ gb101 31 z28_.b0 (0,0) _ rfl (by(with_reducible repeat(first|refine blk_drewN ?_ _|refine blk_drew ?_|refine blk_alloc ?_ _));refine blk_put (cs:=z28_.b0) ?_ 5 _ rfl;(with_reducible repeat(first|refine blk_drewN ?_ _|refine blk_drew ?_|refine blk_alloc ?_ _));refine blk_put (cs:=z28_.b0) ?_ 4 _ rfl;(with_reducible repeat(first|refine blk_drewN ?_ _|refine blk_drew ?_|refine blk_alloc ?_ _));refine blk_put (cs:=z28_.b0) ?_ 3 _ rfl;(with_reducible repeat(first|refine blk_drewN ?_ _|refine blk_drew ?_|refine blk_alloc ?_ _));refine blk_put (cs:=z28_.b0) ?_ 2 _ rfl;(with_reducible repeat(first|refine blk_drewN ?_ _|refine blk_drew ?_|refine blk_alloc ?_ _));refine blk_put (cs:=z28_.b0) ?_ 1 _ rfl;(with_reducible repeat(first|refine blk_drewN ?_ _|refine blk_drew ?_|refine blk_alloc ?_ _));refine blk_put (cs:=z28_.b0) ?_ 0 _ rfl;(with_reducible repeat(first|refine blk_drewN ?_ _|refine blk_drew ?_|refine blk_alloc ?_ _));exact BK101.out) Try.underlying31 rfl qK) rfl ?_;exact⟨_,qee_,by first|exact Kd.R_nil _ _ _ _ _|exact Kd.N_nil _ _ _ _ _|exact Kd.V_nil _ _ _ _ _|exact Kd.Q_nil _ _ _ _ _|exact Kd.S_nil _ _ _ _ _,qBHB⟩
 ·rw[if_neg c2]at H
  have c2b0:decide (20000 < (a0.size:Int))=false:=decide_eq_false c2;have c2b1:decide (20000 < a0.size)=false:=decide_eq_false (by omega);clear c2;replace H:=Option.bind_eq_some_iff.mp H;obtain⟨⟨t103,t104,t105⟩,A50,H⟩:=H;dsimp only at H;have A5:=qM_ A50;clear A50;replace H:=Option.bind_eq_some_iff.mp H;obtain⟨⟨t106,t107,t108⟩,A60,H⟩:=H;dsimp only at H;have A6:=qM_ A60;clear A60;replace H:=Option.bind_eq_some_iff.mp H;obtain⟨⟨t109,t110,t111⟩,A70,H⟩:=H;dsimp only at H;have A7:=qM_ A70;clear A70;replace H:=Option.bind_eq_some_iff.mp H;obtain⟨⟨t113,t114,t115⟩,A80,H⟩:=H;dsimp only at H;have A8:=qM_ A80;clear A80;replace H:=Option.bind_eq_some_iff.mp H;obtain⟨⟨t116,t117,t118⟩,A90,H⟩:=H;dsimp only at H;have A9:=qM_ A90;clear A90;replace H:=Option.bind_eq_some_iff.mp H;obtain⟨⟨t119,t120,t121⟩,A100,H⟩:=H;dsimp only at H;have A10:=qM_ A100;clear A100;replace H:=Option.bind_eq_some_iff.mp H;obtain⟨⟨t122,t123,t124⟩,A110,H⟩:=H;dsimp only at H;have A11:=qM_ A110;clear A110;have H' := qM_ H;clear H;go_enter Try.func28,Try.ntmps28
  go_wp2_with (first|((with_reducible refine gate_dst (N:=2) rfl ?_);refine box_event ?hg (N:=2) ?hd (cs:=z28_.b0) (t:=31) ?hr ?_;(case hd=>rfl);(case hg=>rfl);(case hr=>first|(go_simp;done)|(go_simp;rfl));intro gb101 hg w12 hbox hb;have BK101:=qM_ (hbox);have GW101:=qM_ ((by rw[hg];exact(below_size qBHB):w.heap.size≤gb101));have GE101:=qM_ ((by rw[hg];exact(below_size qBHB):w.heap.size≤gb101));replace HB:=qM_ (below_step qBHB hb);clear hb hbox hg)|((with_reducible refine gate_dst (N:=4) rfl ?_);refine box_event ?hg (N:=4) ?hd (cs:=#[.string (⟨#[]⟩:BA_),.bool false]) (t:=84) ?hr ?_;(case hd=>rfl);(case hg=>rfl);(case hr=>first|(go_simp;done)|(go_simp;rfl));intro gb102 hg w13 hbox hb;have BK102:=qM_ (hbox);have GW102:=qM_ ((by rw[hg];exact(below_size qBHB):w.heap.size≤gb102));have GE102:=qM_ ((by rw[hg];exact(below_size qBHB):w.heap.size≤gb102));replace HB:=qM_ (below_step qBHB hb);have NB101_102:=qM_ ((by rw[hg];exact Nat.ne_of_lt (blk_lt (qk_ BK101)):gb101≠gb102));have NB102_101:=qM_ ((by rw[hg];exact Nat.ne_of_gt (blk_lt (qk_ BK101)):gb102≠gb101));replace BK101:=qM_ (blk_below (qk_ BK101) hb);clear hb hbox hg;have hnb14:=NB102_101.out;have hnc14:=NB101_102.out;obtain⟨hcz15_0,hcz15_1,hfz15_0⟩:=qc2_ BK102)|((with_reducible refine gate_callee (f:=51) rfl ?_);refine goesL_ (some 17) rfl rfl Try.func51 qK rfl #[.pointer (some ⟨gb102,0,none⟩),.int .i64 1] rfl qll_ ?_;(with_reducible refine(z51_.calls k gb102 a0 false 1 t103 t104 t105 w _ ?side1 ?side2 A5.out).mono ?_);(case side1=>exact⟨qp_ BK102,GE102.out⟩);(case side2=>exact qBHB);rintro e w16 ⟨rfl,hi,hb,hk⟩;refine⟨_,rfl,?_⟩;replace BK101:=qM_ (KeepBut.blk hk (g' := gb101) (o:= .cells z28_.b0 31 (0,0)) (qp_ BK101) NB101_102.out (by simp));replace HB:=qM_ (hb);replace BK102:=qM_ (hi.1);(try clear hb);(try clear hb2);(try clear hk);(try clear hi))|((with_reducible refine gate_callee (f:=51) rfl ?_);refine goesL_ (some 18) rfl rfl Try.func51 qK rfl #[.pointer (some ⟨gb102,0,none⟩),.int .i64 1] rfl qll_ ?_;(with_reducible refine(z51_.calls k gb102 t104 t105 1 t106 t107 t108 w _ ?side1 ?side2 A6.out).mono ?_);(case side1=>exact⟨qk_ BK102,GE102.out⟩);(case side2=>exact qBHB);rintro e w17 ⟨rfl,hi,hb,hk⟩;refine⟨_,rfl,?_⟩;replace BK101:=qM_ (KeepBut.blk hk (qk_ BK101) NB101_102.out (by simp));replace HB:=qM_ (hb);replace BK102:=qM_ (hi.1);(try clear hb);(try clear hb2);(try clear hk);(try clear hi))|((with_reducible refine gate_callee (f:=51) rfl ?_);refine goesL_ (some 19) rfl rfl Try.func51 qK rfl #[.pointer (some ⟨gb102,0,none⟩),.int .i64 1] rfl qll_ ?_;(with_reducible refine(z51_.calls k gb102 t107 t108 1 t109 t110 t111 w _ ?side1 ?side2 A7.out).mono ?_);(case side1=>exact⟨qk_ BK102,GE102.out⟩);(case side2=>exact qBHB);rintro e w18 ⟨rfl,hi,hb,hk⟩;refine⟨_,rfl,?_⟩;replace BK101:=qM_ (KeepBut.blk hk (qk_ BK101) NB101_102.out (by simp));replace HB:=qM_ (hb);replace BK102:=qM_ (hi.1);(try clear hb);(try clear hb2);(try clear hk);(try clear hi))|((with_reducible refine gate_dst (N:=5) rfl ?_);refine box_event ?hg (N:=5) ?hd (cs:=z28_.b0) (t:=31) ?hr ?_;(case hd=>rfl);(case hg=>rfl);(case hr=>first|(go_simp;done)|(go_simp;rfl));intro gb112 hg w19 hbox hb;have BK112:=qM_ (hbox);have GW112:=qM_ ((by rw[hg];exact(below_size qBHB):w.heap.size≤gb112));have GE112:=qM_ ((by rw[hg];exact(below_size qBHB):w.heap.size≤gb112));replace HB:=qM_ (below_step qBHB hb);have NB101_112:=qM_ ((by rw[hg];exact Nat.ne_of_lt (blk_lt (qk_ BK101)):gb101≠gb112));have NB112_101:=qM_ ((by rw[hg];exact Nat.ne_of_gt (blk_lt (qk_ BK101)):gb112≠gb101));replace BK101:=qM_ (blk_below (qk_ BK101) hb);have NB102_112:=qM_ ((by rw[hg];exact Nat.ne_of_lt (blk_lt (qk_ BK102)):gb102≠gb112));have NB112_102:=qM_ ((by rw[hg];exact Nat.ne_of_gt (blk_lt (qk_ BK102)):gb112≠gb102));replace BK102:=qM_ (blk_below (qk_ BK102) hb);clear hb hbox hg;have hnb20:=NB112_101.out;have hnc20:=NB101_112.out;have hnb21:=NB112_102.out;have hnc21:=NB102_112.out;obtain⟨hcz22_0,hcz22_1,hcz22_2,hcz22_3,hcz22_4,hcz22_5,hfz22_0⟩:=qc6_ BK112)|((with_reducible refine gate_callee (f:=51) rfl ?_);refine goesL_ (some 21) rfl rfl Try.func51 qK rfl #[.pointer (some ⟨gb102,0,none⟩),.int .i64 1] rfl qll_ ?_;(with_reducible refine(z51_.calls k gb102 t110 t111 1 t113 t114 t115 w _ ?side1 ?side2 A8.out).mono ?_);(case side1=>exact⟨qp_ BK102,GE102.out⟩);(case side2=>exact qBHB);rintro e w23 ⟨rfl,hi,hb,hk⟩;refine⟨_,rfl,?_⟩;replace BK101:=qM_ (KeepBut.blk hk (g' := gb101) (o:= .cells z28_.b0 31 (0,0)) (qp_ BK101) NB101_102.out (by simp));replace BK112:=qM_ (KeepBut.blk hk (g' := gb112) (o:= .cells #[.int .i64 t103,.int .i64 0,.int .i64 t106,.int .i64 t109,.string (⟨#[]⟩:BA_),.slice none 0 0] 31 (0,0)) (qp_ BK112) NB112_102.out (by simp));replace HB:=qM_ (hb);replace BK102:=qM_ (hi.1);(try clear hb);(try clear hb2);(try clear hk);(try clear hi))|((with_reducible refine gate_callee (f:=51) rfl ?_);refine goesL_ (some 22) rfl rfl Try.func51 qK rfl #[.pointer (some ⟨gb102,0,none⟩),.int .i64 1] rfl qll_ ?_;(with_reducible refine(z51_.calls k gb102 t114 t115 1 t116 t117 t118 w _ ?side1 ?side2 A9.out).mono ?_);(case side1=>exact⟨qk_ BK102,GE102.out⟩);(case side2=>exact qBHB);rintro e w24 ⟨rfl,hi,hb,hk⟩;refine⟨_,rfl,?_⟩;replace BK101:=qM_ (KeepBut.blk hk (qk_ BK101) NB101_102.out (by simp));replace BK112:=qM_ (KeepBut.blk hk (qk_ BK112) NB112_102.out (by simp));replace HB:=qM_ (hb);replace BK102:=qM_ (hi.1);(try clear hb);(try clear hb2);(try clear hk);(try clear hi))|((with_reducible refine gate_callee (f:=51) rfl ?_);refine goesL_ (some 23) rfl rfl Try.func51 qK rfl #[.pointer (some ⟨gb102,0,none⟩),.int .i64 2] rfl qll_ ?_;(with_reducible refine(z51_.calls k gb102 t117 t118 2 t119 t120 t121 w _ ?side1 ?side2 A10.out).mono ?_);(case side1=>exact⟨qk_ BK102,GE102.out⟩);(case side2=>exact qBHB);rintro e w25 ⟨rfl,hi,hb,hk⟩;refine⟨_,rfl,?_⟩;replace BK101:=qM_ (KeepBut.blk hk (qk_ BK101) NB101_102.out (by simp));replace BK112:=qM_ (KeepBut.blk hk (qk_ BK112) NB112_102.out (by simp));replace HB:=qM_ (hb);replace BK102:=qM_ (hi.1);(try clear hb);(try clear hb2);(try clear hk);(try clear hi);obtain⟨hcz26_0,hcz26_1,hcz26_2,hcz26_3,hcz26_4,hcz26_5,hfz26_0⟩:=qc6_ BK112)|((with_reducible refine gate_callee (f:=52) rfl ?_);refine goesL_ (some 26) rfl rfl Try.func52 qK rfl #[.pointer (some ⟨gb102,0,none⟩),.int .i64 t116] rfl qll_ ?_;(with_reducible refine(z52_.calls gb102 t120 t121 t116 t122 t123 t124 w _ ?side1 ?side2 A11.out).mono ?_);(case side1=>exact⟨qp_ BK102,GE102.out⟩);(case side2=>exact qBHB);rintro e w27 ⟨rfl,hi,hb,hk⟩;refine⟨_,rfl,?_⟩;replace BK101:=qM_ (KeepBut.blk hk (g' := gb101) (o:= .cells z28_.b0 31 (0,0)) (qp_ BK101) NB101_102.out (by simp));replace BK112:=qM_ (KeepBut.blk hk (g' := gb112) (o:= .cells #[.int .i64 t103,.int .i64 t119,.int .i64 t106,.int .i64 t109,.string (⟨#[]⟩:BA_),.slice none 0 0] 31 (0,0)) (qp_ BK112) NB112_102.out (by simp));replace HB:=qM_ (hb);replace BK102:=qM_ (hi.1);(try clear hb);(try clear hb2);(try clear hk);(try clear hi);obtain⟨hcz28_0,hcz28_1,hcz28_2,hcz28_3,hcz28_4,hcz28_5,hfz28_0⟩:=qc6_ BK112))
  go_loopg [8] k (fun kq v8 w' => ∃(x8_1:Int) (x103000_1:ByteArray) (x103001_1:Bool) (x113005_1:List (S54)) (u113005:Value),v8= .int .i64 x8_1∧Aside0 (z28_.l0 kq t113 x8_1 x103000_1 x103001_1 t103 t119 t106 t109 t122 x113005_1=some (r1,r2,r3,r4,r5,r6,r7))∧Aside0 (kq≤k)∧Aside0 (Kd.R k54 54 w' w.heap.size (fun _=>True) u113005 x113005_1)∧Aside0 (w'.heap[gb101]? = some (.cells #[.int .i64 0,.int .i64 0,.int .i64 0,.int .i64 0,.string (⟨#[]⟩:BA_),(.slice none 0 0)] 31 (0,0)))∧Aside0 (w'.heap[gb102]? = some (.cells #[.string x103000_1,.bool x103001_1] 84 (0,0)))∧Aside0 (w'.heap[gb112]? = some (.cells #[.int .i64 t103,.int .i64 t119,.int .i64 t106,.int .i64 t109,.string t122,u113005] 31 (0,0)))∧Aside0 (Below w.heap.size w w'))
  case atStart=>exact⟨(0),(t123),(t124),(([]:List (S54))),(.slice none 0 0),qff_,H', ⟨Nat.le_refl _⟩,⟨by first|exact Kd.R_nil _ _ _ _ _|exact Kd.N_nil _ _ _ _ _|exact Kd.V_nil _ _ _ _ _|exact Kd.Q_nil _ _ _ _ _|exact Kd.S_nil _ _ _ _ _⟩,⟨qp_ BK101⟩,⟨qp_ BK102⟩,⟨qp_ BK112⟩,⟨qBHB⟩⟩
  case round =>
   clear H'
   try clear c1
   try clear c2
   try clear c2b0
   try clear c2b1
   try clear p2
   try clear c5
   try clear c14
   try clear c20
   try clear c21
   try clear c28
   try clear hcz15_0 hcz15_1
   try clear hcz22_0 hcz22_1 hcz22_2 hcz22_3 hcz22_4 hcz22_5
   try clear hcz26_0 hcz26_1 hcz26_2 hcz26_3 hcz26_4 hcz26_5
   try clear hcz28_0 hcz28_1 hcz28_2 hcz28_3 hcz28_4 hcz28_5
   try clear hcz4_0 hcz4_1 hcz4_2 hcz4_3 hcz4_4 hcz4_5
   try clear hfz15_0
   try clear hfz22_0
   try clear hfz26_0
   try clear hfz28_0
   try clear hfz4_0
   obtain⟨x8_1,x103000_1,x103001_1,x113005_1,u113005,rfl,HA,HK1,HO_113005,BK101,BK102,BK112,HB⟩:=hrel
   cases gk with
   | zero=>exact absurd HA.out (by simp[z28_.l0])
   | succ k1 =>
    have H:=HA.out;clear HA;simp only[z28_.l0]at H;have HC29:=qM_ H;clear H
    go_upto_region 9 with (fail)
    go_cut [35] (fun v35 wc=>∃(kq:Nat) (x35_28:Bool),v35= .bool x35_28∧Aside0 (z28_.j1 kq t113 x8_1 x35_28 x103000_1 x103001_1 t103 t119 t106 t109 t122 x113005_1=some (r1,r2,r3,r4,r5,r6,r7))∧Aside0 (kq≤k1)∧Aside0 (Kd.R k54 54 wc w.heap.size (fun _=>True) u113005 x113005_1)∧Aside0 (wc.heap[gb101]? = some (.cells #[.int .i64 0,.int .i64 0,.int .i64 0,.int .i64 0,.string (⟨#[]⟩:BA_),(.slice none 0 0)] 31 (0,0)))∧Aside0 (wc.heap[gb102]? = some (.cells #[.string x103000_1,.bool x103001_1] 84 (0,0)))∧Aside0 (wc.heap[gb112]? = some (.cells #[.int .i64 t103,.int .i64 t119,.int .i64 t106,.int .i64 t109,.string t122,u113005] 31 (0,0)))∧Aside0 (Below w.heap.size w wc))
    case first =>
     have H:=HC29.out;clear HC29;by_cases c30:x8_1 < t113
     ·rw[if_pos c30]at H
      have c30b0:decide (x8_1 < t113)=true:=decide_eq_true c30;clear c30
      (first|rw[c30b0]|(simp only[i64_w,i32_w];rw[c30b0])|skip)
      have H' := qM_ H;clear H;have hnb31:=NB102_101.out;have hnc31:=NB101_102.out;have hnb32:=NB102_112.out;have hnc32:=NB112_102.out;obtain⟨hcz33_0,hcz33_1,hfz33_0⟩:=qc2_ BK102
      go_wp2
      go_meet
      case rel=>exact⟨_,(!x103001_1),qff_,H', ⟨by have:=HK1.out;first|omega|exact Nat.le_refl _⟩,⟨qr_ HO_113005⟩,⟨qk_ BK101⟩,⟨qk_ BK102⟩,⟨qk_ BK112⟩,⟨qBHB⟩⟩
     ·rw[if_neg c30]at H
      have c30b0:decide (x8_1 < t113)=false:=decide_eq_false c30;clear c30
      (first|rw[c30b0]|(simp only[i64_w,i32_w];rw[c30b0])|skip)
      have H' := qM_ H;clear H
      go_wp2
      go_meet
      case rel=>exact⟨_,(false),qff_,H', ⟨by have:=HK1.out;first|omega|exact Nat.le_refl _⟩,⟨qr_ HO_113005⟩,⟨qk_ BK101⟩,⟨qk_ BK102⟩,⟨qk_ BK112⟩,⟨qBHB⟩⟩
    case rest =>
     clear HC29
     try clear c1
     try clear c2
     try clear c2b0
     try clear c2b1
     try clear p2
     try clear c3
     try clear c5
     try clear c14
     try clear c20
     try clear c21
     try clear c28
     try clear c30
     try clear c30b0
     try clear c31
     try clear c32
     try clear hcz15_0 hcz15_1
     try clear hcz22_0 hcz22_1 hcz22_2 hcz22_3 hcz22_4 hcz22_5
     try clear hcz26_0 hcz26_1 hcz26_2 hcz26_3 hcz26_4 hcz26_5
     try clear hcz28_0 hcz28_1 hcz28_2 hcz28_3 hcz28_4 hcz28_5
     try clear hcz33_0 hcz33_1
     try clear hcz4_0 hcz4_1 hcz4_2 hcz4_3 hcz4_4 hcz4_5
     try clear hfz15_0
     try clear hfz22_0
     try clear hfz26_0
     try clear hfz28_0
     try clear hfz33_0
     try clear hfz4_0
     try clear p2
     obtain⟨kq,x35_28,rfl,HA,HJ28,HO_113005,BK101,BK102,BK112,HB⟩:=hcut
     cases kq with
     | zero=>exact absurd HA.out (by simp[z28_.j1])
     | succ kj28 =>
      have H:=HA.out;clear HA;simp only[z28_.j1]at H;by_cases c34:x35_28=true
      ·subst c34
       have H1:((z51_.f kj28 x103000_1 x103001_1 2).bind fun bt126=>((z51_.f kj28 bt126.2.1 bt126.2.2 2).bind fun bt129=>((z52_.f bt129.2.1 bt129.2.2 bt126.1).bind fun bt132=>((z52_.f bt132.2.1 bt132.2.2 bt129.1).bind fun bt135=>(if x113005_1.length < 4398046511104 then(z28_.l0 kj28 t113 (wrap64 (x8_1+1)) bt135.2.1 bt135.2.2 t103 t119 t106 t109 t122 (x113005_1 ++ [(⟨bt132.1,bt135.1⟩:S54)]))else(none))))))=some (r1,r2,r3,r4,r5,r6,r7):=by rw[if_pos rfl]at H;exact H
       clear H;have H:=H1;clear H1;replace H:=Option.bind_eq_some_iff.mp H;obtain⟨⟨t126,t127,t128⟩,A350,H⟩:=H;dsimp only at H;have A35:=qM_ A350;clear A350;replace H:=Option.bind_eq_some_iff.mp H;obtain⟨⟨t129,t130,t131⟩,A360,H⟩:=H;dsimp only at H;have A36:=qM_ A360;clear A360;replace H:=Option.bind_eq_some_iff.mp H;obtain⟨⟨t132,t133,t134⟩,A370,H⟩:=H;dsimp only at H;have A37:=qM_ A370;clear A370;replace H:=Option.bind_eq_some_iff.mp H;obtain⟨⟨t135,t136,t137⟩,A380,H⟩:=H;dsimp only at H;have A38:=qM_ A380;clear A380;by_cases c39:x113005_1.length < 4398046511104
       ·rw[if_pos c39]at H
        have LMc39:=qM_ c39;clear c39
        obtain⟨y138,hy138⟩:∃ y_:List (S54),y_=(x113005_1 ++ [(⟨t132,t135⟩:S54)]):=⟨_,rfl⟩
        replace H:(z28_.l0 kj28 t113 (wrap64 (x8_1+1)) t136 t137 t103 t119 t106 t109 t122 y138)=some (r1,r2,r3,r4,r5,r6,r7):=qh_ hy138 H;have Ny138:=qM_ hy138;clear hy138;have H' := qM_ H;clear H
        try go_wp2_with (first|((with_reducible refine gate_callee (f:=51) rfl ?_);refine goesL_ (some 38) rfl rfl Try.func51 qK rfl #[.pointer (some ⟨gb102,0,none⟩),.int .i64 2] rfl qll_ ?_;(with_reducible refine(z51_.calls kj28 gb102 x103000_1 x103001_1 2 t126 t127 t128 w _ ?side1 ?side2 A35.out).mono ?_);(case side1=>exact⟨qk_ BK102,GE102.out⟩);(case side2=>exact qBHB);rintro e w40 ⟨rfl,hi,hb,hk⟩;refine⟨_,rfl,?_⟩;replace HO_113005:=qM_ (Kd.R_mono (Kd.R_keep (IsS84.apart (show IsS84 w _ gb102 x103000_1 x103001_1 from(⟨qk_ BK102,GE102.out⟩:IsS84 w _ gb102 x103000_1 x103001_1)) (qr_ HO_113005) (by decide)) hk (fun _ h=>h.2)) (fun _ h=>h.1));replace BK101:=qM_ (KeepBut.blk hk (qk_ BK101) NB101_102.out (by simp));replace BK112:=qM_ (KeepBut.blk hk (qk_ BK112) NB112_102.out (by simp));replace HB:=qM_ (hb);replace BK102:=qM_ (hi.1);(try clear hb);(try clear hb2);(try clear hk);(try clear hi))|((with_reducible refine gate_callee (f:=51) rfl ?_);refine goesL_ (some 39) rfl rfl Try.func51 qK rfl #[.pointer (some ⟨gb102,0,none⟩),.int .i64 2] rfl qll_ ?_;(with_reducible refine(z51_.calls kj28 gb102 t127 t128 2 t129 t130 t131 w _ ?side1 ?side2 A36.out).mono ?_);(case side1=>exact⟨qk_ BK102,GE102.out⟩);(case side2=>exact qBHB);rintro e w41 ⟨rfl,hi,hb,hk⟩;refine⟨_,rfl,?_⟩;replace HO_113005:=qM_ (Kd.R_mono (Kd.R_keep (IsS84.apart (show IsS84 w _ gb102 t127 t128 from(⟨qk_ BK102,GE102.out⟩:IsS84 w _ gb102 t127 t128)) (qr_ HO_113005) (by decide)) hk (fun _ h=>h.2)) (fun _ h=>h.1));replace BK101:=qM_ (KeepBut.blk hk (qk_ BK101) NB101_102.out (by simp));replace BK112:=qM_ (KeepBut.blk hk (qk_ BK112) NB112_102.out (by simp));replace HB:=qM_ (hb);replace BK102:=qM_ (hi.1);(try clear hb);(try clear hb2);(try clear hk);(try clear hi)))
        replace HO_113005:=qM_ (Kd.R_drew HO_113005.out);replace BK101:=qM_ (blk_drew BK101.out);replace BK102:=qM_ (blk_drew BK102.out);replace BK112:=qM_ (blk_drew BK112.out);replace HB:=qM_ (qE_ HB.out)
        refine start_ (n:=11) (S:=fun w' => w'.cell? ⟨gb112,0,none⟩=some (.int .i64 t103)∧w'.cell? ⟨gb112,1,none⟩=some (.int .i64 t119)∧w'.cell? ⟨gb112,2,none⟩=some (.int .i64 t106)∧w'.cell? ⟨gb112,3,none⟩=some (.int .i64 t109)∧w'.cell? ⟨gb112,4,none⟩=some (.string t122)∧w'.cell? ⟨gb112,5,none⟩=some (u113005)) (ds:=[10]) #[qF,qF,qF,qF,qF,qF,qF,qF,qF,qF,qF] qK rfl rfl ⟨(qC_ BK112.out 0).trans rfl,(qC_ BK112.out 1).trans rfl,(qC_ BK112.out 2).trans rfl,(qC_ BK112.out 3).trans rfl,(qC_ BK112.out 4).trans rfl,(qC_ BK112.out 5).trans rfl⟩ (fun hHeld=> ?_);refine with_tabW z28_.tab12 z28_.bits12 (fun HT_ HW_=> ?_)
        generalize w41.drew=w42 at HO_113005 BK101 BK102 BK112 HB hHeld ⊢;refine pure_ (i:=0) (N:=some 40) (v:= ?_) (a' := ?_) #[qT,qF,qF,qF,qF,qF,qF,qF,qF,qF,qF] rfl rfl (any_of HT_.out qK) (fun _ _ _ h=>h) (Or.inl ⟨by rfl,?_⟩) ?_ ?_;rotate_left
        ·intro w'
         go_simp;with_reducible rfl
        rotate_left
        ·simp only[Act.put,qS_,qW_]
         rfl
        refine pure_ (i:=2) (N:=some 42) (v:= ?_) (a' := ?_) #[qT,qF,qT,qF,qF,qF,qF,qF,qF,qF,qF] rfl rfl (any_of HT_.out qK) (fun _ _ _ h=>h) (Or.inl ⟨by rfl,?_⟩) ?_ ?_;rotate_left
        ·intro w'
         go_simp;with_reducible rfl
        rotate_left
        ·simp only[Act.put,qS_,qW_]
         rfl
        refine pure_ (i:=4) (N:=some 44) (v:= ?_) (a' := ?_) #[qT,qF,qT,qF,qT,qF,qF,qF,qF,qF,qF] rfl rfl (any_of HT_.out qK) (fun _ _ _ h=>h) (Or.inl ⟨by rfl,?_⟩) ?_ ?_;rotate_left
        ·intro w'
         go_simp;with_reducible rfl
        rotate_left
        ·simp only[Act.put,qS_,qW_]
         rfl
        refine take_ (i:=1) (N:=some 41) (v:= ?_) (a' := ?_) #[qT,qT,qT,qF,qT,qF,qF,qF,qF,qF,qF] rfl rfl (take_ofW HT_.out HW_.out qK) (fun _ _ _ h=>h) (Or.inl ⟨by rfl,?_⟩) hHeld ?_ ?_;rotate_left
        ·rintro w' ⟨s0,s1,s2,s3,s4,s5⟩
         go_simp;with_reducible rfl
        rotate_left
        ·simp only[Act.put,qS_,qW_]
         rfl
        refine one_ (i:=3) (N:=some 43) #[qT,qT,qT,qT,qT,qF,qF,qF,qF,qF,qF] rfl rfl (one_of HT_.out qK) (by decide) (fun K hK=> ?_);refine goes_ Try.func52 qK rfl #[.pointer (some ⟨gb102,0,none⟩),.int .i64 t126] (by rfl) rfl rfl qll_ ?_
        with_reducible refine(z52_.calls gb102 t130 t131 t126 t132 t133 t134 w _ ?side1 ?side2 A37.out).mono ?_
        (case side1=>exact⟨qk_ BK102,GE102.out⟩)
        (case side2=>exact qBHB)
        rintro e w43 ⟨rfl,hi,hb,hk⟩
        refine⟨_,rfl,?_⟩;replace HO_113005:=qM_ (Kd.R_mono (Kd.R_keep (IsS84.apart (show IsS84 w _ gb102 t130 t131 from(⟨qk_ BK102,GE102.out⟩:IsS84 w _ gb102 t130 t131)) (qr_ HO_113005) (by decide)) hk (fun _ h=>h.2)) (fun _ h=>h.1));replace BK101:=qM_ (KeepBut.blk hk (qk_ BK101) NB101_102.out (by simp));replace BK112:=qM_ (KeepBut.blk hk (qk_ BK112) NB112_102.out (by simp));replace HB:=qM_ (hb);replace BK102:=qM_ (hi.1)
        (try clear hb)
        (try clear hb2)
        (try clear hk)
        (try clear hi)
        refine hK.out _ _ ⟨(qC_ BK112.out 0).trans rfl,(qC_ BK112.out 1).trans rfl,(qC_ BK112.out 2).trans rfl,(qC_ BK112.out 3).trans rfl,(qC_ BK112.out 4).trans rfl,(qC_ BK112.out 5).trans rfl⟩ (fun hHeld=> ?_);clear hK K;refine norm_ (a' := ?_) ?_ ?_;rotate_left
        ·show Act.put _ (some 43) _=_
         simp only[Act.put,qS_,qW_];rfl
        refine one_ (i:=5) (N:=some 45) #[qT,qT,qT,qT,qT,qT,qF,qF,qF,qF,qF] rfl rfl (one_of HT_.out qK) (by decide) (fun K hK=> ?_);refine goes_ Try.func52 qK rfl #[.pointer (some ⟨gb102,0,none⟩),.int .i64 t129] (by rfl) rfl rfl qll_ ?_
        with_reducible refine(z52_.calls gb102 t133 t134 t129 t135 t136 t137 w _ ?side1 ?side2 A38.out).mono ?_
        (case side1=>exact⟨qk_ BK102,GE102.out⟩)
        (case side2=>exact qBHB)
        rintro e w44 ⟨rfl,hi,hb,hk⟩
        refine⟨_,rfl,?_⟩;replace HO_113005:=qM_ (Kd.R_mono (Kd.R_keep (IsS84.apart (show IsS84 w _ gb102 t133 t134 from(⟨qk_ BK102,GE102.out⟩:IsS84 w _ gb102 t133 t134)) (qr_ HO_113005) (by decide)) hk (fun _ h=>h.2)) (fun _ h=>h.1));replace BK101:=qM_ (KeepBut.blk hk (qk_ BK101) NB101_102.out (by simp));replace BK112:=qM_ (KeepBut.blk hk (qk_ BK112) NB112_102.out (by simp));replace HB:=qM_ (hb);replace BK102:=qM_ (hi.1)
        (try clear hb)
        (try clear hb2)
        (try clear hk)
        (try clear hi)
        refine hK.out _ _ ⟨(qC_ BK112.out 0).trans rfl,(qC_ BK112.out 1).trans rfl,(qC_ BK112.out 2).trans rfl,(qC_ BK112.out 3).trans rfl,(qC_ BK112.out 4).trans rfl,(qC_ BK112.out 5).trans rfl⟩ (fun hHeld=> ?_);clear hK K;refine norm_ (a' := ?_) ?_ ?_;rotate_left
        ·show Act.put _ (some 45) _=_
         simp only[Act.put,qS_,qW_];rfl
        refine pure_ (i:=6) (N:=some 46) (v:= ?_) (a' := ?_) #[qT,qT,qT,qT,qT,qT,qT,qF,qF,qF,qF] rfl rfl (any_of HT_.out qK) (fun _ _ _ h=>h) (Or.inl ⟨by rfl,?_⟩) ?_ ?_;rotate_left
        ·intro w'
         go_simp;with_reducible rfl
        rotate_left
        ·simp only[Act.put,qS_,qW_]
         rfl
        refine one_ (i:=7) (N:=some 47) #[qT,qT,qT,qT,qT,qT,qT,qT,qF,qF,qF] rfl rfl (one_of HT_.out qK) (by decide) (fun K hK=> ?_);refine value_ (w1:= ?_) (v:= ?_) (by rfl) rfl ?_ ?_;rotate_left 2
        ·go_simp
         constructor
         ·rfl
         ·rfl
        refine hK.out _ _ ⟨(qC_ (blk_alloc BK112.out _) 0).trans rfl,(qC_ (blk_alloc BK112.out _) 1).trans rfl,(qC_ (blk_alloc BK112.out _) 2).trans rfl,(qC_ (blk_alloc BK112.out _) 3).trans rfl,(qC_ (blk_alloc BK112.out _) 4).trans rfl,(qC_ (blk_alloc BK112.out _) 5).trans rfl⟩ (fun hHeld=> ?_);clear hK K;refine norm_ (a' := ?_) ?_ ?_;rotate_left
        ·show Act.put _ (some 47) _=_
         simp only[Act.put,qS_,qW_];rfl
        refine one_ (i:=8) (N:=some 48) #[qT,qT,qT,qT,qT,qT,qT,qT,qT,qF,qF] rfl rfl (one_of HT_.out qK) (by decide) (fun K hK=> ?_);refine Kd.R_append_step k54 (w0:=w) w.heap.size (by rfl) (.tmp 41) (.tmp 47) 29 54 (.agg #[(.string ⟨#[]⟩),(.string ⟨#[]⟩)]) 32 rfl Try.underlying29 info54 rfl (by decide) (by omega) u113005 x113005_1 (⟨t132,t135⟩:S54) [.string t132,.string t135] (fun _=>True) (fun _=>False) rfl rfl ?aP (fun _ hk=>hk.elim) ?aF ?aO ?aB ?aS ?aL ?_
        (case aP=>exact k54_mkM _ _ _ (⟨t132,t135⟩:S54))
        (case aB=>exact qBHB)
        (case aF=>exact(fun _ _=>trivial))
        (case aO=>exact(qr_ HO_113005))
        (case aS=>exact(below_size qBHB))
        (case aL=>have:=LMc39.out;omega)
        intro v139 w45 ho hb hg hat
        rw[← Ny138.out]at ho;replace BK101:=qM_ (blk_grown (qk_ BK101) hg (Kd.R_ne HO_113005.out BK101.out (by decide)));replace BK102:=qM_ (blk_grown (qk_ BK102) hg (Kd.R_ne HO_113005.out BK102.out (by decide)));replace BK112:=qM_ (blk_grown (qk_ BK112) hg (Kd.R_ne HO_113005.out BK112.out (by decide)));replace HB:=qM_ (hb);have HO140:=qM_ (ho);clear HO_113005;clear ho hb hg hat;obtain⟨Ao46,co46,eo46⟩:=Kd.R_slice HO140.out
        (first|subst eo46|(injection eo46 with f1_ f2_ f3_;have f4_:=f1_.symm;have f5_:=f3_.symm;clear f1_ f2_ f3_;subst f4_;subst f5_))
        refine hK.out _ _ ⟨(qC_ BK112.out 0).trans rfl,(qC_ BK112.out 1).trans rfl,(qC_ BK112.out 2).trans rfl,(qC_ BK112.out 3).trans rfl,(qC_ BK112.out 4).trans rfl,(qC_ BK112.out 5).trans rfl⟩ (fun hHeld=> ?_);clear hK K;refine norm_ (a' := ?_) ?_ ?_;rotate_left
        ·show Act.put _ (some 48) _=_
         simp only[Act.put,qS_,qW_];rfl
        refine pure_ (i:=9) (N:=some 49) (v:= ?_) (a' := ?_) #[qT,qT,qT,qT,qT,qT,qT,qT,qT,qT,qF] rfl rfl (any_of HT_.out qK) (fun _ _ _ h=>h) (Or.inl ⟨by rfl,?_⟩) ?_ ?_;rotate_left
        ·intro w'
         go_simp;with_reducible rfl
        rotate_left
        ·simp only[Act.put,qS_,qW_]
         rfl
        refine last_ (i:=10) (N:=none) #[qT,qT,qT,qT,qT,qT,qT,qT,qT,qT,qT] rfl rfl (one_of HT_.out qK) (by decide) (fun K hK=> ?_);have hs47:w45.cell? ⟨gb112,5,none⟩=some (u113005):=(qC_ BK112.out 5).trans rfl;have hfs47:=qF_ BK112.out 5;have hns47_0:=NB101_112.out;have hns47_1:=NB102_112.out;have hms47_0:=NB112_101.out;have hms47_1:=NB112_102.out;refine skip_ (w1:= ?_) (by rfl) rfl ?_ ?_;rotate_left
        ·go_simp
         rfl
        refine hK.out _ _ ?_;clear hK K;refine done_ (done_of HT_.out qK) ?_
        try go_wp2
        go_roundg kj28
        case measure=>have:=HK1.out;have:=HJ28.out;omega
        case rel=>exact⟨(wrap64 (x8_1+1)),(t136),(t137),(y138),(.slice Ao46 y138.length co46),qff_,H', ⟨by have:=HK1.out;have:=HJ28.out;omega⟩,⟨by(with_reducible repeat(first|apply Kd.R_alloc|apply Kd.R_drewN|apply Kd.R_drew));exact Kd.R_mono (qf1_ HO140 BK112) (fun _ hk=>trivial)⟩,⟨qp_ BK101⟩,⟨qp_ BK102⟩,⟨qp_ BK112⟩,⟨qBHB⟩⟩
       ·rw[if_neg c39]at H
        exact absurd H (by simp)
      ·replace c34:=Bool.eq_false_iff.mpr c34
       subst c34
       have H1:(if x103001_1=true then(some (t103,t119,t106,t109,t122,x113005_1,false))else(if x103000_1.toList=([]:List UInt8)then((z17_.f kj28 t103 t119 t106 t109 t122 x113005_1).bind fun t125=>(some (t103,t119,t106,t109,t122,x113005_1,t125)))else(some (t103,t119,t106,t109,t122,x113005_1,false))))=some (r1,r2,r3,r4,r5,r6,r7):=by rw[if_neg (show ¬(false=true)by decide)]at H;exact H
       clear H;have H:=H1;clear H1;by_cases c48:x103001_1=true
       ·subst c48
        have H1:(some (t103,t119,t106,t109,t122,x113005_1,false))=some (r1,r2,r3,r4,r5,r6,r7):=by rw[if_pos rfl]at H;exact H
        clear H;have H:=H1;clear H1;simp only[Option.some.injEq,Prod.mk.injEq]at H;obtain⟨rfl,rfl,rfl,rfl,rfl,rfl,rfl⟩:=H
        try go_wp2
        replace HO_113005:=qM_ (Kd.R_drew HO_113005.out);replace BK101:=qM_ (blk_drew BK101.out);replace BK102:=qM_ (blk_drew BK102.out);replace BK112:=qM_ (blk_drew BK112.out);replace HB:=qM_ (qE_ HB.out);obtain⟨Ao55,co55,eo55⟩:=Kd.R_slice HO_113005.out
        (first|subst eo55|(injection eo55 with f1_ f2_ f3_;have f4_:=f1_.symm;have f5_:=f3_.symm;clear f1_ f2_ f3_;subst f4_;subst f5_))
        refine start_ (n:=15) (S:=fun w' => w'.cell? ⟨gb112,0,none⟩=some (.int .i64 t103)∧w'.cell? ⟨gb112,1,none⟩=some (.int .i64 t119)∧w'.cell? ⟨gb112,2,none⟩=some (.int .i64 t106)∧w'.cell? ⟨gb112,3,none⟩=some (.int .i64 t109)∧w'.cell? ⟨gb112,4,none⟩=some (.string t122)∧w'.cell? ⟨gb112,5,none⟩=some (.slice Ao55 x113005_1.length co55)∧w'.cell? ⟨gb102,0,none⟩=some (.string x103000_1)∧w'.cell? ⟨gb102,1,none⟩=some (.bool true)) (ds:=[]) #[qF,qF,qF,qF,qF,qF,qF,qF,qF,qF,qF,qF,qF,qF,qF] qK rfl rfl ⟨(qC_ BK112.out 0).trans rfl,(qC_ BK112.out 1).trans rfl,(qC_ BK112.out 2).trans rfl,(qC_ BK112.out 3).trans rfl,(qC_ BK112.out 4).trans rfl,(qC_ BK112.out 5).trans rfl,(qC_ BK102.out 0).trans rfl,(qC_ BK102.out 1).trans rfl⟩ (fun hHeld=> ?_);refine with_tabW z28_.tab13 z28_.bits13 (fun HT_ HW_=> ?_)
        generalize wc.drew=w49 at HO_113005 BK101 BK102 BK112 HB hHeld ⊢;refine pure_ (i:=1) (N:=some 51) (v:= ?_) (a' := ?_) #[qF,qT,qF,qF,qF,qF,qF,qF,qF,qF,qF,qF,qF,qF,qF] rfl rfl (any_of HT_.out qK) (fun _ _ _ h=>h) (Or.inl ⟨by rfl,?_⟩) ?_ ?_;rotate_left
        ·intro w'
         go_simp;with_reducible rfl
        rotate_left
        ·simp only[Act.put,qS_,qW_]
         rfl
        refine take_ (i:=0) (N:=some 50) (v:= ?_) (a' := ?_) #[qT,qT,qF,qF,qF,qF,qF,qF,qF,qF,qF,qF,qF,qF,qF] rfl rfl (take_ofW HT_.out HW_.out qK) (fun _ _ _ h=>h) (Or.inl ⟨by rfl,?_⟩) hHeld ?_ ?_;rotate_left
        ·rintro w' ⟨s0,s1,s2,s3,s4,s5,s6,s7⟩
         go_simp;with_reducible rfl
        rotate_left
        ·simp only[Act.put,qS_,qW_]
         rfl
        refine take_ (i:=2) (N:=some 52) (v:= ?_) (a' := ?_) #[qT,qT,qT,qF,qF,qF,qF,qF,qF,qF,qF,qF,qF,qF,qF] rfl rfl (take_ofW HT_.out HW_.out qK) (fun _ _ _ h=>h) (Or.inl ⟨by rfl,?_⟩) hHeld ?_ ?_;rotate_left
        ·rintro w' ⟨s0,s1,s2,s3,s4,s5,s6,s7⟩
         go_simp;with_reducible rfl
        rotate_left
        ·simp only[Act.put,qS_,qW_]
         rfl
        refine pure_ (i:=3) (N:=some 53) (v:= ?_) (a' := ?_) #[qT,qT,qT,qT,qF,qF,qF,qF,qF,qF,qF,qF,qF,qF,qF] rfl rfl (any_of HT_.out qK) (fun _ _ _ h=>h) (Or.inl ⟨by rfl,?_⟩) ?_ ?_;rotate_left
        ·intro w'
         go_simp;with_reducible rfl
        rotate_left
        ·simp only[Act.put,qS_,qW_]
         rfl
        refine pure_ (i:=4) (N:=some 54) (v:= ?_) (a' := ?_) #[qT,qT,qT,qT,qT,qF,qF,qF,qF,qF,qF,qF,qF,qF,qF] rfl rfl (any_of HT_.out qK) (fun _ _ _ h=>h) (Or.inl ⟨by rfl,?_⟩) ?_ ?_;rotate_left
        ·intro w'
         go_simp;with_reducible rfl
        rotate_left
        ·simp only[Act.put,qS_,qW_]
         rfl
        refine pure_ (i:=5) (N:=some 55) (v:=undef) (a' := ?_) #[qT,qT,qT,qT,qT,qT,qF,qF,qF,qF,qF,qF,qF,qF,qF] rfl rfl (any_of HT_.out qK) (fun _ _ _ h=>h) (Or.inr ⟨by rfl,rfl⟩) ?_ ?_;rotate_left
        ·simp only[Act.put,qS_,qW_]
         rfl
        refine pure_ (i:=6) (N:=some 56) (v:=undef) (a' := ?_) #[qT,qT,qT,qT,qT,qT,qT,qF,qF,qF,qF,qF,qF,qF,qF] rfl rfl (any_of HT_.out qK) (fun _ _ _ h=>h) (Or.inr ⟨by rfl,rfl⟩) ?_ ?_;rotate_left
        ·simp only[Act.put,qS_,qW_]
         rfl
        refine pure_ (i:=7) (N:=some 57) (v:=undef) (a' := ?_) #[qT,qT,qT,qT,qT,qT,qT,qT,qF,qF,qF,qF,qF,qF,qF] rfl rfl (any_of HT_.out qK) (fun _ _ _ h=>h) (Or.inr ⟨by rfl,rfl⟩) ?_ ?_;rotate_left
        ·simp only[Act.put,qS_,qW_]
         rfl
        refine pure_ (i:=8) (N:=some 58) (v:= ?_) (a' := ?_) #[qT,qT,qT,qT,qT,qT,qT,qT,qT,qF,qF,qF,qF,qF,qF] rfl rfl (any_of HT_.out qK) (fun _ _ _ h=>h) (Or.inl ⟨by rfl,?_⟩) ?_ ?_;rotate_left
        ·intro w'
         go_simp;with_reducible rfl
        rotate_left
        ·simp only[Act.put,qS_,qW_]
         rfl
        refine pure_ (i:=9) (N:=some 59) (v:= ?_) (a' := ?_) #[qT,qT,qT,qT,qT,qT,qT,qT,qT,qT,qF,qF,qF,qF,qF] rfl rfl (any_of HT_.out qK) (fun _ _ _ h=>h) (Or.inl ⟨by rfl,?_⟩) ?_ ?_;rotate_left
        ·intro w'
         go_simp;with_reducible rfl
        rotate_left
        ·simp only[Act.put,qS_,qW_]
         rfl
        refine pure_ (i:=10) (N:=some 60) (v:=undef) (a' := ?_) #[qT,qT,qT,qT,qT,qT,qT,qT,qT,qT,qT,qF,qF,qF,qF] rfl rfl (any_of HT_.out qK) (fun _ _ _ h=>h) (Or.inr ⟨by rfl,rfl⟩) ?_ ?_;rotate_left
        ·simp only[Act.put,qS_,qW_]
         rfl
        refine pure_ (i:=11) (N:=some 61) (v:=undef) (a' := ?_) #[qT,qT,qT,qT,qT,qT,qT,qT,qT,qT,qT,qT,qF,qF,qF] rfl rfl (any_of HT_.out qK) (fun _ _ _ h=>h) (Or.inr ⟨by rfl,rfl⟩) ?_ ?_;rotate_left
        ·simp only[Act.put,qS_,qW_]
         rfl
        refine pure_ (i:=12) (N:=some 62) (v:= ?_) (a' := ?_) #[qT,qT,qT,qT,qT,qT,qT,qT,qT,qT,qT,qT,qT,qF,qF] rfl rfl (any_of HT_.out qK) (fun _ _ _ h=>h) (Or.inl ⟨by rfl,?_⟩) ?_ ?_;rotate_left
        ·intro w'
         go_simp;with_reducible rfl
        rotate_left
        ·simp only[Act.put,qS_,qW_]
         rfl
        refine one_ (i:=13) (N:=none) #[qT,qT,qT,qT,qT,qT,qT,qT,qT,qT,qT,qT,qT,qT,qF] rfl rfl (one_of HT_.out qK) (by decide) (fun K hK=> ?_);have hs50:w49.cell? ⟨gb101,0,none⟩=some (.int .i64 0):=(qC_ BK101.out 0).trans rfl;have hfs50:=qF_ BK101.out 0;have hns50_1:=NB102_101.out;have hns50_2:=NB112_101.out;have hms50_1:=NB101_102.out;have hms50_2:=NB101_112.out;have hs51:w49.cell? ⟨gb101,1,none⟩=some (.int .i64 0):=(qC_ BK101.out 1).trans rfl;have hfs51:=qF_ BK101.out 1;have hns51_1:=NB102_101.out;have hns51_2:=NB112_101.out;have hms51_1:=NB101_102.out;have hms51_2:=NB101_112.out;have hs52:w49.cell? ⟨gb101,2,none⟩=some (.int .i64 0):=(qC_ BK101.out 2).trans rfl;have hfs52:=qF_ BK101.out 2;have hns52_1:=NB102_101.out;have hns52_2:=NB112_101.out;have hms52_1:=NB101_102.out;have hms52_2:=NB101_112.out;have hs53:w49.cell? ⟨gb101,3,none⟩=some (.int .i64 0):=(qC_ BK101.out 3).trans rfl;have hfs53:=qF_ BK101.out 3;have hns53_1:=NB102_101.out;have hns53_2:=NB112_101.out;have hms53_1:=NB101_102.out;have hms53_2:=NB101_112.out;have hs54:w49.cell? ⟨gb101,4,none⟩=some (.string (⟨#[]⟩:BA_)):=(qC_ BK101.out 4).trans rfl;have hfs54:=qF_ BK101.out 4;have hns54_1:=NB102_101.out;have hns54_2:=NB112_101.out;have hms54_1:=NB101_102.out;have hms54_2:=NB101_112.out;have hs56:w49.cell? ⟨gb101,5,none⟩=some (.slice none 0 0):=(qC_ BK101.out 5).trans rfl;have hfs56:=qF_ BK101.out 5;have hns56_1:=NB102_101.out;have hns56_2:=NB112_101.out;have hms56_1:=NB101_102.out;have hms56_2:=NB101_112.out;refine skip_ (w1:= ?_) (by rfl) rfl ?_ ?_;rotate_left
        ·go_simp
         rfl
        refine hK.out _ _ ⟨(qcf_ hHeld.1),(qcf_ hHeld.2.1),(qcf_ hHeld.2.2.1),(qcf_ hHeld.2.2.2.1),(qcf_ hHeld.2.2.2.2.1),(qcf_ hHeld.2.2.2.2.2.1),(qcf_ hHeld.2.2.2.2.2.2.1),(qcf_ hHeld.2.2.2.2.2.2.2)⟩ (fun hHeld=> ?_);clear hK K;refine pure_ (i:=14) (N:=some 3) (v:= ?_) (a' := ?_) #[qT,qT,qT,qT,qT,qT,qT,qT,qT,qT,qT,qT,qT,qT,qT] rfl rfl (any_of HT_.out qK) (fun _ _ _ h=>h) (Or.inl ⟨by rfl,?_⟩) ?_ ?_;rotate_left
        ·intro w'
         go_simp;with_reducible rfl
        rotate_left
        ·simp only[Act.put,qS_,qW_]
         rfl
        refine done_ (done_of HT_.out qK) ?_
        try go_wp2
        refine bodyPost_ret (results_ct rfl _ _ gb101 31 #[.int .i64 t103,.int .i64 t119,.int .i64 t106,.int .i64 t109,.string t122,.slice Ao55 x113005_1.length co55] (0,0) _ rfl (by(with_reducible repeat(first|refine blk_drewN ?_ _|refine blk_drew ?_|refine blk_alloc ?_ _));refine blk_put (cs:=#[.int .i64 t103,.int .i64 t119,.int .i64 t106,.int .i64 t109,.string t122,.slice none 0 0]) ?_ 5 _ rfl;(with_reducible repeat(first|refine blk_drewN ?_ _|refine blk_drew ?_|refine blk_alloc ?_ _));refine blk_put (cs:=#[.int .i64 t103,.int .i64 t119,.int .i64 t106,.int .i64 t109,.string (⟨#[]⟩:BA_),.slice none 0 0]) ?_ 4 _ rfl;(with_reducible repeat(first|refine blk_drewN ?_ _|refine blk_drew ?_|refine blk_alloc ?_ _));refine blk_put (cs:=#[.int .i64 t103,.int .i64 t119,.int .i64 t106,.int .i64 0,.string (⟨#[]⟩:BA_),.slice none 0 0]) ?_ 3 _ rfl;(with_reducible repeat(first|refine blk_drewN ?_ _|refine blk_drew ?_|refine blk_alloc ?_ _));refine blk_put (cs:=#[.int .i64 t103,.int .i64 t119,.int .i64 0,.int .i64 0,.string (⟨#[]⟩:BA_),.slice none 0 0]) ?_ 2 _ rfl;(with_reducible repeat(first|refine blk_drewN ?_ _|refine blk_drew ?_|refine blk_alloc ?_ _));refine blk_put (cs:=#[.int .i64 t103,.int .i64 0,.int .i64 0,.int .i64 0,.string (⟨#[]⟩:BA_),.slice none 0 0]) ?_ 1 _ rfl;(with_reducible repeat(first|refine blk_drewN ?_ _|refine blk_drew ?_|refine blk_alloc ?_ _));refine blk_put (cs:=z28_.b0) ?_ 0 _ rfl;(with_reducible repeat(first|refine blk_drewN ?_ _|refine blk_drew ?_|refine blk_alloc ?_ _));exact BK101.out) Try.underlying31 rfl qK) rfl ?_;exact⟨_,qee_,by(with_reducible repeat(first|apply Kd.R_alloc|apply Kd.R_drewN|apply Kd.R_drew));exact Kd.R_mono (qf6_ HO_113005 BK101) (fun _ hk=>trivial),qBHB⟩
       ·replace c48:=Bool.eq_false_iff.mpr c48
        subst c48
        have H1:(if x103000_1.toList=([]:List UInt8)then((z17_.f kj28 t103 t119 t106 t109 t122 x113005_1).bind fun t125=>(some (t103,t119,t106,t109,t122,x113005_1,t125)))else(some (t103,t119,t106,t109,t122,x113005_1,false)))=some (r1,r2,r3,r4,r5,r6,r7):=by rw[if_neg (show ¬(false=true)by decide)]at H;exact H
        clear H;have H:=H1;clear H1;by_cases c57:x103000_1.toList=([]:List UInt8)
        ·rw[if_pos c57]at H
         have c57b0:(x103000_1.toList == ([]:List UInt8))=true:=beq_iff_eq.mpr c57;have c57b1:(x103000_1.toList != ([]:List UInt8))=false:=bne_eq_false_iff_eq.mpr c57;clear c57;replace H:=Option.bind_eq_some_iff.mp H;obtain⟨t125,A580,H⟩:=H;have A58:=qM_ A580;clear A580;simp only[Option.some.injEq,Prod.mk.injEq]at H;obtain⟨rfl,rfl,rfl,rfl,rfl,rfl,rfl⟩:=H
         try go_wp2
         replace HO_113005:=qM_ (Kd.R_drew HO_113005.out);replace BK101:=qM_ (blk_drew BK101.out);replace BK102:=qM_ (blk_drew BK102.out);replace BK112:=qM_ (blk_drew BK112.out);replace HB:=qM_ (qE_ HB.out);obtain⟨Ao60,co60,eo60⟩:=Kd.R_slice HO_113005.out
         (first|subst eo60|(injection eo60 with f1_ f2_ f3_;have f4_:=f1_.symm;have f5_:=f3_.symm;clear f1_ f2_ f3_;subst f4_;subst f5_))
         refine start_ (n:=15) (S:=fun w' => w'.cell? ⟨gb112,0,none⟩=some (.int .i64 t103)∧w'.cell? ⟨gb112,1,none⟩=some (.int .i64 t119)∧w'.cell? ⟨gb112,2,none⟩=some (.int .i64 t106)∧w'.cell? ⟨gb112,3,none⟩=some (.int .i64 t109)∧w'.cell? ⟨gb112,4,none⟩=some (.string t122)∧w'.cell? ⟨gb112,5,none⟩=some (.slice Ao60 x113005_1.length co60)∧w'.cell? ⟨gb102,0,none⟩=some (.string x103000_1)∧w'.cell? ⟨gb102,1,none⟩=some (.bool false)) (ds:=[]) #[qF,qF,qF,qF,qF,qF,qF,qF,qF,qF,qF,qF,qF,qF,qF] qK rfl rfl ⟨(qC_ BK112.out 0).trans rfl,(qC_ BK112.out 1).trans rfl,(qC_ BK112.out 2).trans rfl,(qC_ BK112.out 3).trans rfl,(qC_ BK112.out 4).trans rfl,(qC_ BK112.out 5).trans rfl,(qC_ BK102.out 0).trans rfl,(qC_ BK102.out 1).trans rfl⟩ (fun hHeld=> ?_);refine with_tabW z28_.tab13 z28_.bits13 (fun HT_ HW_=> ?_)
         generalize wc.drew=w59 at HO_113005 BK101 BK102 BK112 HB hHeld ⊢;refine pure_ (i:=1) (N:=some 51) (v:= ?_) (a' := ?_) #[qF,qT,qF,qF,qF,qF,qF,qF,qF,qF,qF,qF,qF,qF,qF] rfl rfl (any_of HT_.out qK) (fun _ _ _ h=>h) (Or.inl ⟨by rfl,?_⟩) ?_ ?_;rotate_left
         ·intro w'
          go_simp;with_reducible rfl
         rotate_left
         ·simp only[Act.put,qS_,qW_]
          rfl
         refine take_ (i:=0) (N:=some 50) (v:= ?_) (a' := ?_) #[qT,qT,qF,qF,qF,qF,qF,qF,qF,qF,qF,qF,qF,qF,qF] rfl rfl (take_ofW HT_.out HW_.out qK) (fun _ _ _ h=>h) (Or.inl ⟨by rfl,?_⟩) hHeld ?_ ?_;rotate_left
         ·rintro w' ⟨s0,s1,s2,s3,s4,s5,s6,s7⟩
          go_simp;with_reducible rfl
         rotate_left
         ·simp only[Act.put,qS_,qW_]
          rfl
         refine take_ (i:=2) (N:=some 52) (v:= ?_) (a' := ?_) #[qT,qT,qT,qF,qF,qF,qF,qF,qF,qF,qF,qF,qF,qF,qF] rfl rfl (take_ofW HT_.out HW_.out qK) (fun _ _ _ h=>h) (Or.inl ⟨by rfl,?_⟩) hHeld ?_ ?_;rotate_left
         ·rintro w' ⟨s0,s1,s2,s3,s4,s5,s6,s7⟩
          go_simp;with_reducible rfl
         rotate_left
         ·simp only[Act.put,qS_,qW_]
          rfl
         refine pure_ (i:=3) (N:=some 53) (v:= ?_) (a' := ?_) #[qT,qT,qT,qT,qF,qF,qF,qF,qF,qF,qF,qF,qF,qF,qF] rfl rfl (any_of HT_.out qK) (fun _ _ _ h=>h) (Or.inl ⟨by rfl,?_⟩) ?_ ?_;rotate_left
         ·intro w'
          go_simp;with_reducible rfl
         rotate_left
         ·simp only[Act.put,qS_,qW_]
          rfl
         refine pure_ (i:=4) (N:=some 54) (v:= ?_) (a' := ?_) #[qT,qT,qT,qT,qT,qF,qF,qF,qF,qF,qF,qF,qF,qF,qF] rfl rfl (any_of HT_.out qK) (fun _ _ _ h=>h) (Or.inl ⟨by rfl,?_⟩) ?_ ?_;rotate_left
         ·intro w'
          go_simp;with_reducible rfl
         rotate_left
         ·simp only[Act.put,qS_,qW_]
          rfl
         refine pure_ (i:=5) (N:=some 55) (v:= ?_) (a' := ?_) #[qT,qT,qT,qT,qT,qT,qF,qF,qF,qF,qF,qF,qF,qF,qF] rfl rfl (any_of HT_.out qK) (fun _ _ _ h=>h) (Or.inl ⟨by rfl,?_⟩) ?_ ?_;rotate_left
         ·intro w'
          go_simp;with_reducible rfl
         rotate_left
         ·simp only[Act.put,qS_,qW_]
          rfl
         refine take_ (i:=6) (N:=some 56) (v:= ?_) (a' := ?_) #[qT,qT,qT,qT,qT,qT,qT,qF,qF,qF,qF,qF,qF,qF,qF] rfl rfl (take_ofW HT_.out HW_.out qK) (fun _ _ _ h=>h) (Or.inl ⟨by rfl,?_⟩) hHeld ?_ ?_;rotate_left
         ·rintro w' ⟨s0,s1,s2,s3,s4,s5,s6,s7⟩
          go_simp;with_reducible rfl
         rotate_left
         ·simp only[Act.put,qS_,qW_]
          rfl
         refine pure_ (i:=7) (N:=some 57) (v:= ?_) (a' := ?_) #[qT,qT,qT,qT,qT,qT,qT,qT,qF,qF,qF,qF,qF,qF,qF] rfl rfl (any_of HT_.out qK) (fun _ _ _ h=>h) (Or.inl ⟨by rfl,?_⟩) ?_ ?_;rotate_left
         ·intro w'
          go_simp;with_reducible rfl
         rotate_left
         ·simp only[Act.put,qS_,qW_]
          rfl
         refine pure_ (i:=8) (N:=some 58) (v:= ?_) (a' := ?_) #[qT,qT,qT,qT,qT,qT,qT,qT,qT,qF,qF,qF,qF,qF,qF] rfl rfl (any_of HT_.out qK) (fun _ _ _ h=>h) (Or.inl ⟨by rfl,?_⟩) ?_ ?_;rotate_left
         ·intro w'
          go_simp;with_reducible rfl
         rotate_left
         ·simp only[Act.put,qS_,qW_]
          rfl
         refine pure_ (i:=9) (N:=some 59) (v:= ?_) (a' := ?_) #[qT,qT,qT,qT,qT,qT,qT,qT,qT,qT,qF,qF,qF,qF,qF] rfl rfl (any_of HT_.out qK) (fun _ _ _ h=>h) (Or.inl ⟨by rfl,?_⟩) ?_ ?_;rotate_left
         ·intro w'
          go_simp;with_reducible rfl
         rotate_left
         ·simp only[Act.put,qS_,qW_]
          rfl
         refine take_ (i:=10) (N:=some 60) (v:= ?_) (a' := ?_) #[qT,qT,qT,qT,qT,qT,qT,qT,qT,qT,qT,qF,qF,qF,qF] rfl rfl (take_ofW HT_.out HW_.out qK) (fun _ _ _ h=>h) (Or.inl ⟨by rfl,?_⟩) hHeld ?_ ?_;rotate_left
         ·rintro w' ⟨s0,s1,s2,s3,s4,s5,s6,s7⟩
          go_simp;with_reducible rfl
         rotate_left
         ·simp only[Act.put,qS_,qW_]
          rfl
         refine one_ (i:=11) (N:=some 61) #[qT,qT,qT,qT,qT,qT,qT,qT,qT,qT,qT,qT,qF,qF,qF] rfl rfl (one_of HT_.out qK) (by decide) (fun K hK=> ?_);refine goes_ Try.func17 qK rfl #[.agg #[.int .i64 t103,.int .i64 t119,.int .i64 t106,.int .i64 t109,.string t122,.slice Ao60 x113005_1.length co60]] (by rfl) rfl rfl qll_ ?_
         with_reducible refine(z17_.calls kj28 t103 t119 t106 t109 t122 _ _ x113005_1 t125 _ ?side1 ?side2 A58.out).mono ?_
         (case side1=>exact qcc_ (Kd.R_reads' HO_113005.out).2.2)
         (case side2=>exact(Kd.R_reads' HO_113005.out).2.1)
         rintro e w61 ⟨rfl,hb⟩
         refine⟨_,rfl,?_⟩;replace HO_113005:=qM_ (Kd.R_below (qr_ HO_113005) hb);replace BK101:=qM_ (blk_below (qk_ BK101) hb);replace BK102:=qM_ (blk_below (qk_ BK102) hb);replace BK112:=qM_ (blk_below (qk_ BK112) hb);replace HB:=qM_ (below_step qBHB hb)
         (try clear hb)
         (try clear hb2)
         (try clear hk)
         (try clear hi)
         refine hK.out _ _ ⟨(qC_ BK112.out 0).trans rfl,(qC_ BK112.out 1).trans rfl,(qC_ BK112.out 2).trans rfl,(qC_ BK112.out 3).trans rfl,(qC_ BK112.out 4).trans rfl,(qC_ BK112.out 5).trans rfl,(qC_ BK102.out 0).trans rfl,(qC_ BK102.out 1).trans rfl⟩ (fun hHeld=> ?_);clear hK K;refine norm_ (a' := ?_) ?_ ?_;rotate_left
         ·show Act.put _ (some 61) _=_
          simp only[Act.put,qS_,qW_];rfl
         refine pure_ (i:=12) (N:=some 62) (v:= ?_) (a' := ?_) #[qT,qT,qT,qT,qT,qT,qT,qT,qT,qT,qT,qT,qT,qF,qF] rfl rfl (any_of HT_.out qK) (fun _ _ _ h=>h) (Or.inl ⟨by rfl,?_⟩) ?_ ?_;rotate_left
         ·intro w'
          go_simp;with_reducible rfl
         rotate_left
         ·simp only[Act.put,qS_,qW_]
          rfl
         refine one_ (i:=13) (N:=none) #[qT,qT,qT,qT,qT,qT,qT,qT,qT,qT,qT,qT,qT,qT,qF] rfl rfl (one_of HT_.out qK) (by decide) (fun K hK=> ?_);have hs62:w61.cell? ⟨gb101,0,none⟩=some (.int .i64 0):=(qC_ BK101.out 0).trans rfl;have hfs62:=qF_ BK101.out 0;have hns62_1:=NB102_101.out;have hns62_2:=NB112_101.out;have hms62_1:=NB101_102.out;have hms62_2:=NB101_112.out;have hs63:w61.cell? ⟨gb101,1,none⟩=some (.int .i64 0):=(qC_ BK101.out 1).trans rfl;have hfs63:=qF_ BK101.out 1;have hns63_1:=NB102_101.out;have hns63_2:=NB112_101.out;have hms63_1:=NB101_102.out;have hms63_2:=NB101_112.out;have hs64:w61.cell? ⟨gb101,2,none⟩=some (.int .i64 0):=(qC_ BK101.out 2).trans rfl;have hfs64:=qF_ BK101.out 2;have hns64_1:=NB102_101.out;have hns64_2:=NB112_101.out;have hms64_1:=NB101_102.out;have hms64_2:=NB101_112.out;have hs65:w61.cell? ⟨gb101,3,none⟩=some (.int .i64 0):=(qC_ BK101.out 3).trans rfl;have hfs65:=qF_ BK101.out 3;have hns65_1:=NB102_101.out;have hns65_2:=NB112_101.out;have hms65_1:=NB101_102.out;have hms65_2:=NB101_112.out;have hs66:w61.cell? ⟨gb101,4,none⟩=some (.string (⟨#[]⟩:BA_)):=(qC_ BK101.out 4).trans rfl;have hfs66:=qF_ BK101.out 4;have hns66_1:=NB102_101.out;have hns66_2:=NB112_101.out;have hms66_1:=NB101_102.out;have hms66_2:=NB101_112.out;have hs67:w61.cell? ⟨gb101,5,none⟩=some (.slice none 0 0):=(qC_ BK101.out 5).trans rfl;have hfs67:=qF_ BK101.out 5;have hns67_1:=NB102_101.out;have hns67_2:=NB112_101.out;have hms67_1:=NB101_102.out;have hms67_2:=NB101_112.out;refine skip_ (w1:= ?_) (by rfl) rfl ?_ ?_;rotate_left
         ·go_simp
          rfl
         refine hK.out _ _ ⟨(qcf_ hHeld.1),(qcf_ hHeld.2.1),(qcf_ hHeld.2.2.1),(qcf_ hHeld.2.2.2.1),(qcf_ hHeld.2.2.2.2.1),(qcf_ hHeld.2.2.2.2.2.1),(qcf_ hHeld.2.2.2.2.2.2.1),(qcf_ hHeld.2.2.2.2.2.2.2)⟩ (fun hHeld=> ?_);clear hK K;refine pure_ (i:=14) (N:=some 3) (v:= ?_) (a' := ?_) #[qT,qT,qT,qT,qT,qT,qT,qT,qT,qT,qT,qT,qT,qT,qT] rfl rfl (any_of HT_.out qK) (fun _ _ _ h=>h) (Or.inl ⟨by rfl,?_⟩) ?_ ?_;rotate_left
         ·intro w'
          go_simp;with_reducible rfl
         rotate_left
         ·simp only[Act.put,qS_,qW_]
          rfl
         refine done_ (done_of HT_.out qK) ?_
         try go_wp2
         refine bodyPost_ret (results_ct rfl _ _ gb101 31 #[.int .i64 t103,.int .i64 t119,.int .i64 t106,.int .i64 t109,.string t122,.slice Ao60 x113005_1.length co60] (0,0) _ rfl (by(with_reducible repeat(first|refine blk_drewN ?_ _|refine blk_drew ?_|refine blk_alloc ?_ _));refine blk_put (cs:=#[.int .i64 t103,.int .i64 t119,.int .i64 t106,.int .i64 t109,.string t122,.slice none 0 0]) ?_ 5 _ rfl;(with_reducible repeat(first|refine blk_drewN ?_ _|refine blk_drew ?_|refine blk_alloc ?_ _));refine blk_put (cs:=#[.int .i64 t103,.int .i64 t119,.int .i64 t106,.int .i64 t109,.string (⟨#[]⟩:BA_),.slice none 0 0]) ?_ 4 _ rfl;(with_reducible repeat(first|refine blk_drewN ?_ _|refine blk_drew ?_|refine blk_alloc ?_ _));refine blk_put (cs:=#[.int .i64 t103,.int .i64 t119,.int .i64 t106,.int .i64 0,.string (⟨#[]⟩:BA_),.slice none 0 0]) ?_ 3 _ rfl;(with_reducible repeat(first|refine blk_drewN ?_ _|refine blk_drew ?_|refine blk_alloc ?_ _));refine blk_put (cs:=#[.int .i64 t103,.int .i64 t119,.int .i64 0,.int .i64 0,.string (⟨#[]⟩:BA_),.slice none 0 0]) ?_ 2 _ rfl;(with_reducible repeat(first|refine blk_drewN ?_ _|refine blk_drew ?_|refine blk_alloc ?_ _));refine blk_put (cs:=#[.int .i64 t103,.int .i64 0,.int .i64 0,.int .i64 0,.string (⟨#[]⟩:BA_),.slice none 0 0]) ?_ 1 _ rfl;(with_reducible repeat(first|refine blk_drewN ?_ _|refine blk_drew ?_|refine blk_alloc ?_ _));refine blk_put (cs:=z28_.b0) ?_ 0 _ rfl;(with_reducible repeat(first|refine blk_drewN ?_ _|refine blk_drew ?_|refine blk_alloc ?_ _));exact BK101.out) Try.underlying31 rfl qK) rfl ?_;exact⟨_,qee_,by(with_reducible repeat(first|apply Kd.R_alloc|apply Kd.R_drewN|apply Kd.R_drew));exact Kd.R_mono (qf6_ HO_113005 BK101) (fun _ hk=>trivial),qBHB⟩
        ·rw[if_neg c57]at H
         have c57b0:(x103000_1.toList == ([]:List UInt8))=false:=beq_eq_false_iff_ne.mpr c57;have c57b1:(x103000_1.toList != ([]:List UInt8))=true:=bne_iff_ne.mpr c57;simp only[Option.some.injEq,Prod.mk.injEq]at H;obtain⟨rfl,rfl,rfl,rfl,rfl,rfl,rfl⟩:=H
         try go_wp2
         replace HO_113005:=qM_ (Kd.R_drew HO_113005.out);replace BK101:=qM_ (blk_drew BK101.out);replace BK102:=qM_ (blk_drew BK102.out);replace BK112:=qM_ (blk_drew BK112.out);replace HB:=qM_ (qE_ HB.out);obtain⟨Ao74,co74,eo74⟩:=Kd.R_slice HO_113005.out
         (first|subst eo74|(injection eo74 with f1_ f2_ f3_;have f4_:=f1_.symm;have f5_:=f3_.symm;clear f1_ f2_ f3_;subst f4_;subst f5_))
         refine start_ (n:=15) (S:=fun w' => w'.cell? ⟨gb112,0,none⟩=some (.int .i64 t103)∧w'.cell? ⟨gb112,1,none⟩=some (.int .i64 t119)∧w'.cell? ⟨gb112,2,none⟩=some (.int .i64 t106)∧w'.cell? ⟨gb112,3,none⟩=some (.int .i64 t109)∧w'.cell? ⟨gb112,4,none⟩=some (.string t122)∧w'.cell? ⟨gb112,5,none⟩=some (.slice Ao74 x113005_1.length co74)∧w'.cell? ⟨gb102,0,none⟩=some (.string x103000_1)∧w'.cell? ⟨gb102,1,none⟩=some (.bool false)) (ds:=[]) #[qF,qF,qF,qF,qF,qF,qF,qF,qF,qF,qF,qF,qF,qF,qF] qK rfl rfl ⟨(qC_ BK112.out 0).trans rfl,(qC_ BK112.out 1).trans rfl,(qC_ BK112.out 2).trans rfl,(qC_ BK112.out 3).trans rfl,(qC_ BK112.out 4).trans rfl,(qC_ BK112.out 5).trans rfl,(qC_ BK102.out 0).trans rfl,(qC_ BK102.out 1).trans rfl⟩ (fun hHeld=> ?_);refine with_tabW z28_.tab13 z28_.bits13 (fun HT_ HW_=> ?_)
         generalize wc.drew=w68 at HO_113005 BK101 BK102 BK112 HB hHeld ⊢;refine pure_ (i:=1) (N:=some 51) (v:= ?_) (a' := ?_) #[qF,qT,qF,qF,qF,qF,qF,qF,qF,qF,qF,qF,qF,qF,qF] rfl rfl (any_of HT_.out qK) (fun _ _ _ h=>h) (Or.inl ⟨by rfl,?_⟩) ?_ ?_;rotate_left
         ·intro w'
          go_simp;with_reducible rfl
         rotate_left
         ·simp only[Act.put,qS_,qW_]
          rfl
         refine take_ (i:=0) (N:=some 50) (v:= ?_) (a' := ?_) #[qT,qT,qF,qF,qF,qF,qF,qF,qF,qF,qF,qF,qF,qF,qF] rfl rfl (take_ofW HT_.out HW_.out qK) (fun _ _ _ h=>h) (Or.inl ⟨by rfl,?_⟩) hHeld ?_ ?_;rotate_left
         ·rintro w' ⟨s0,s1,s2,s3,s4,s5,s6,s7⟩
          go_simp;with_reducible rfl
         rotate_left
         ·simp only[Act.put,qS_,qW_]
          rfl
         refine take_ (i:=2) (N:=some 52) (v:= ?_) (a' := ?_) #[qT,qT,qT,qF,qF,qF,qF,qF,qF,qF,qF,qF,qF,qF,qF] rfl rfl (take_ofW HT_.out HW_.out qK) (fun _ _ _ h=>h) (Or.inl ⟨by rfl,?_⟩) hHeld ?_ ?_;rotate_left
         ·rintro w' ⟨s0,s1,s2,s3,s4,s5,s6,s7⟩
          go_simp;with_reducible rfl
         rotate_left
         ·simp only[Act.put,qS_,qW_]
          rfl
         refine pure_ (i:=3) (N:=some 53) (v:= ?_) (a' := ?_) #[qT,qT,qT,qT,qF,qF,qF,qF,qF,qF,qF,qF,qF,qF,qF] rfl rfl (any_of HT_.out qK) (fun _ _ _ h=>h) (Or.inl ⟨by rfl,?_⟩) ?_ ?_;rotate_left
         ·intro w'
          go_simp;with_reducible rfl
         rotate_left
         ·simp only[Act.put,qS_,qW_]
          rfl
         refine pure_ (i:=4) (N:=some 54) (v:= ?_) (a' := ?_) #[qT,qT,qT,qT,qT,qF,qF,qF,qF,qF,qF,qF,qF,qF,qF] rfl rfl (any_of HT_.out qK) (fun _ _ _ h=>h) (Or.inl ⟨by rfl,?_⟩) ?_ ?_;rotate_left
         ·intro w'
          go_simp;with_reducible rfl
         rotate_left
         ·simp only[Act.put,qS_,qW_]
          rfl
         refine pure_ (i:=5) (N:=some 55) (v:= ?_) (a' := ?_) #[qT,qT,qT,qT,qT,qT,qF,qF,qF,qF,qF,qF,qF,qF,qF] rfl rfl (any_of HT_.out qK) (fun _ _ _ h=>h) (Or.inl ⟨by rfl,?_⟩) ?_ ?_;rotate_left
         ·intro w'
          go_simp;with_reducible rfl
         rotate_left
         ·simp only[Act.put,qS_,qW_]
          rfl
         refine take_ (i:=6) (N:=some 56) (v:= ?_) (a' := ?_) #[qT,qT,qT,qT,qT,qT,qT,qF,qF,qF,qF,qF,qF,qF,qF] rfl rfl (take_ofW HT_.out HW_.out qK) (fun _ _ _ h=>h) (Or.inl ⟨by rfl,?_⟩) hHeld ?_ ?_;rotate_left
         ·rintro w' ⟨s0,s1,s2,s3,s4,s5,s6,s7⟩
          go_simp;with_reducible rfl
         rotate_left
         ·simp only[Act.put,qS_,qW_]
          rfl
         refine pure_ (i:=7) (N:=some 57) (v:= ?_) (a' := ?_) #[qT,qT,qT,qT,qT,qT,qT,qT,qF,qF,qF,qF,qF,qF,qF] rfl rfl (any_of HT_.out qK) (fun _ _ _ h=>h) (Or.inl ⟨by rfl,?_⟩) ?_ ?_;rotate_left
         ·intro w'
          go_simp;with_reducible rfl
         rotate_left
         ·simp only[Act.put,qS_,qW_]
          rfl
         refine pure_ (i:=8) (N:=some 58) (v:= ?_) (a' := ?_) #[qT,qT,qT,qT,qT,qT,qT,qT,qT,qF,qF,qF,qF,qF,qF] rfl rfl (any_of HT_.out qK) (fun _ _ _ h=>h) (Or.inl ⟨by rfl,?_⟩) ?_ ?_;rotate_left
         ·intro w'
          go_simp;with_reducible rfl
         rotate_left
         ·simp only[Act.put,qS_,qW_]
          rfl
         refine pure_ (i:=9) (N:=some 59) (v:= ?_) (a' := ?_) #[qT,qT,qT,qT,qT,qT,qT,qT,qT,qT,qF,qF,qF,qF,qF] rfl rfl (any_of HT_.out qK) (fun _ _ _ h=>h) (Or.inl ⟨by rfl,?_⟩) ?_ ?_;rotate_left
         ·intro w'
          go_simp;with_reducible rfl
         rotate_left
         ·simp only[Act.put,qS_,qW_]
          rfl
         refine pure_ (i:=10) (N:=some 60) (v:=undef) (a' := ?_) #[qT,qT,qT,qT,qT,qT,qT,qT,qT,qT,qT,qF,qF,qF,qF] rfl rfl (any_of HT_.out qK) (fun _ _ _ h=>h) (Or.inr ⟨by rfl,rfl⟩) ?_ ?_;rotate_left
         ·simp only[Act.put,qS_,qW_]
          rfl
         refine pure_ (i:=11) (N:=some 61) (v:=undef) (a' := ?_) #[qT,qT,qT,qT,qT,qT,qT,qT,qT,qT,qT,qT,qF,qF,qF] rfl rfl (any_of HT_.out qK) (fun _ _ _ h=>h) (Or.inr ⟨by rfl,rfl⟩) ?_ ?_;rotate_left
         ·simp only[Act.put,qS_,qW_]
          rfl
         refine pure_ (i:=12) (N:=some 62) (v:= ?_) (a' := ?_) #[qT,qT,qT,qT,qT,qT,qT,qT,qT,qT,qT,qT,qT,qF,qF] rfl rfl (any_of HT_.out qK) (fun _ _ _ h=>h) (Or.inl ⟨by rfl,?_⟩) ?_ ?_;rotate_left
         ·intro w'
          go_simp;with_reducible rfl
         rotate_left
         ·simp only[Act.put,qS_,qW_]
          rfl
         refine one_ (i:=13) (N:=none) #[qT,qT,qT,qT,qT,qT,qT,qT,qT,qT,qT,qT,qT,qT,qF] rfl rfl (one_of HT_.out qK) (by decide) (fun K hK=> ?_);have hs69:w68.cell? ⟨gb101,0,none⟩=some (.int .i64 0):=(qC_ BK101.out 0).trans rfl;have hfs69:=qF_ BK101.out 0;have hns69_1:=NB102_101.out;have hns69_2:=NB112_101.out;have hms69_1:=NB101_102.out;have hms69_2:=NB101_112.out;have hs70:w68.cell? ⟨gb101,1,none⟩=some (.int .i64 0):=(qC_ BK101.out 1).trans rfl;have hfs70:=qF_ BK101.out 1;have hns70_1:=NB102_101.out;have hns70_2:=NB112_101.out;have hms70_1:=NB101_102.out;have hms70_2:=NB101_112.out;have hs71:w68.cell? ⟨gb101,2,none⟩=some (.int .i64 0):=(qC_ BK101.out 2).trans rfl;have hfs71:=qF_ BK101.out 2;have hns71_1:=NB102_101.out;have hns71_2:=NB112_101.out;have hms71_1:=NB101_102.out;have hms71_2:=NB101_112.out;have hs72:w68.cell? ⟨gb101,3,none⟩=some (.int .i64 0):=(qC_ BK101.out 3).trans rfl;have hfs72:=qF_ BK101.out 3;have hns72_1:=NB102_101.out;have hns72_2:=NB112_101.out;have hms72_1:=NB101_102.out;have hms72_2:=NB101_112.out;have hs73:w68.cell? ⟨gb101,4,none⟩=some (.string (⟨#[]⟩:BA_)):=(qC_ BK101.out 4).trans rfl;have hfs73:=qF_ BK101.out 4;have hns73_1:=NB102_101.out;have hns73_2:=NB112_101.out;have hms73_1:=NB101_102.out;have hms73_2:=NB101_112.out;have hs75:w68.cell? ⟨gb101,5,none⟩=some (.slice none 0 0):=(qC_ BK101.out 5).trans rfl;have hfs75:=qF_ BK101.out 5;have hns75_1:=NB102_101.out;have hns75_2:=NB112_101.out;have hms75_1:=NB101_102.out;have hms75_2:=NB101_112.out;refine skip_ (w1:= ?_) (by rfl) rfl ?_ ?_;rotate_left
         ·go_simp
          rfl
         refine hK.out _ _ ⟨(qcf_ hHeld.1),(qcf_ hHeld.2.1),(qcf_ hHeld.2.2.1),(qcf_ hHeld.2.2.2.1),(qcf_ hHeld.2.2.2.2.1),(qcf_ hHeld.2.2.2.2.2.1),(qcf_ hHeld.2.2.2.2.2.2.1),(qcf_ hHeld.2.2.2.2.2.2.2)⟩ (fun hHeld=> ?_);clear hK K;refine pure_ (i:=14) (N:=some 3) (v:= ?_) (a' := ?_) #[qT,qT,qT,qT,qT,qT,qT,qT,qT,qT,qT,qT,qT,qT,qT] rfl rfl (any_of HT_.out qK) (fun _ _ _ h=>h) (Or.inl ⟨by rfl,?_⟩) ?_ ?_;rotate_left
         ·intro w'
          go_simp;with_reducible rfl
         rotate_left
         ·simp only[Act.put,qS_,qW_]
          rfl
         refine done_ (done_of HT_.out qK) ?_
         try go_wp2
         refine bodyPost_ret (results_ct rfl _ _ gb101 31 #[.int .i64 t103,.int .i64 t119,.int .i64 t106,.int .i64 t109,.string t122,.slice Ao74 x113005_1.length co74] (0,0) _ rfl (by(with_reducible repeat(first|refine blk_drewN ?_ _|refine blk_drew ?_|refine blk_alloc ?_ _));refine blk_put (cs:=#[.int .i64 t103,.int .i64 t119,.int .i64 t106,.int .i64 t109,.string t122,.slice none 0 0]) ?_ 5 _ rfl;(with_reducible repeat(first|refine blk_drewN ?_ _|refine blk_drew ?_|refine blk_alloc ?_ _));refine blk_put (cs:=#[.int .i64 t103,.int .i64 t119,.int .i64 t106,.int .i64 t109,.string (⟨#[]⟩:BA_),.slice none 0 0]) ?_ 4 _ rfl;(with_reducible repeat(first|refine blk_drewN ?_ _|refine blk_drew ?_|refine blk_alloc ?_ _));refine blk_put (cs:=#[.int .i64 t103,.int .i64 t119,.int .i64 t106,.int .i64 0,.string (⟨#[]⟩:BA_),.slice none 0 0]) ?_ 3 _ rfl;(with_reducible repeat(first|refine blk_drewN ?_ _|refine blk_drew ?_|refine blk_alloc ?_ _));refine blk_put (cs:=#[.int .i64 t103,.int .i64 t119,.int .i64 0,.int .i64 0,.string (⟨#[]⟩:BA_),.slice none 0 0]) ?_ 2 _ rfl;(with_reducible repeat(first|refine blk_drewN ?_ _|refine blk_drew ?_|refine blk_alloc ?_ _));refine blk_put (cs:=#[.int .i64 t103,.int .i64 0,.int .i64 0,.int .i64 0,.string (⟨#[]⟩:BA_),.slice none 0 0]) ?_ 1 _ rfl;(with_reducible repeat(first|refine blk_drewN ?_ _|refine blk_drew ?_|refine blk_alloc ?_ _));refine blk_put (cs:=z28_.b0) ?_ 0 _ rfl;(with_reducible repeat(first|refine blk_drewN ?_ _|refine blk_drew ?_|refine blk_alloc ?_ _));exact BK101.out) Try.underlying31 rfl qK) rfl ?_;exact⟨_,qee_,by(with_reducible repeat(first|apply Kd.R_alloc|apply Kd.R_drewN|apply Kd.R_drew));exact Kd.R_mono (qf6_ HO_113005 BK101) (fun _ hk=>trivial),qBHB⟩


/-! ### z15_: function 15 -/
def z15_.f (k:Nat) (l0:List Int):Option (Int × Int × Int × Int × ByteArray × (List (S54)) × Int):=if(l0.length:Int) > 65536 then(some (0,0,0,0,(⟨#[]⟩:ByteArray),([]:List (S54)),2))else((z28_.f k (strOfNums l0)).bind fun bt102=>(if bt102.2.2.2.2.2.2=true then(some (bt102.1,bt102.2.1,bt102.2.2.1,bt102.2.2.2.1,bt102.2.2.2.2.1,bt102.2.2.2.2.2.1,0))else(some (0,0,0,0,(⟨#[]⟩:ByteArray),([]:List (S54)),3))))
theorem z15_.mono:∀ a0 k,LeO (z15_.f k a0) (z15_.f (k+1) a0):=by
 intro a0 k
 unfold z15_.f
 repeat' first
   | (with_reducible exact z28_.mono _ _)
   | (with_reducible exact LeO.refl _)
   | (with_reducible exact LeO.none _)
   | (with_reducible refine LeO.ite ?_ ?_)
   | (with_reducible refine LeO.bind ?_ (fun _=> ?_))
   | exact z28_.mono _ _
   | exact LeO.none _
   | refine LeO.ite ?_ ?_
   | refine LeO.bind ?_ (fun _=> ?_)
abbrev z15_.b0:Array Value:=#[.int .i64 0,.int .i64 0,.int .i64 0,.int .i64 0,.string (⟨#[]⟩:ByteArray),.slice none 0 0]
set_option maxHeartbeats 8000000 in
set_option maxRecDepth 100000 in
theorem z15_.calls (k:Nat) (A0:Option Addr) (c0:Nat) (l0:List Int) (r1:Int) (r2:Int) (r3:Int) (r4:Int) (r5:ByteArray) (r6:List (S54)) (r7:Int) (w:World) (hr0:Kd.C (Kd.int .u8) w A0 l0.length l0) (hc0:l0.length≤c0) (h:z15_.f k l0=some (r1,r2,r3,r4,r5,r6,r7)) :
  Calls Try.prog 15 #[.slice A0 l0.length c0] w fun e w' => ∃ v5_:Value,e= .returned (.tuple #[.agg #[.int .i64 r1,.int .i64 r2,.int .i64 r3,.int .i64 r4,.string r5,v5_],.int .i64 r7])∧Kd.R k54 54 w' w.heap.size (fun _=>True) v5_ r6∧Below w.heap.size w w' := by
 have hu31:=Try.underlying31
 have HR0:=qM_ hr0
 have HC0:=qM_ hc0
 clear hr0 hc0
 have HB:=qM_ (Below.refl w.heap.size w)
 have H:(if(l0.length:Int) > 65536 then(some (0,0,0,0,(⟨#[]⟩:BA_),([]:List (S54)),2))else((z28_.f k (strOfNums l0)).bind fun bt102=>(if bt102.2.2.2.2.2.2=true then(some (bt102.1,bt102.2.1,bt102.2.2.1,bt102.2.2.2.1,bt102.2.2.2.2.1,bt102.2.2.2.2.2.1,0))else(some (0,0,0,0,(⟨#[]⟩:BA_),([]:List (S54)),3)))))=some (r1,r2,r3,r4,r5,r6,r7):=h
 clear h
 by_cases c2:(l0.length:Int) > 65536
 ·rw[if_pos c2]at H
  have c2b0:decide (65536 < (l0.length:Int))=true:=decide_eq_true c2;have c2b1:decide (65536 < l0.length)=true:=decide_eq_true (by omega);clear c2;simp only[Option.some.injEq,Prod.mk.injEq]at H;obtain⟨rfl,rfl,rfl,rfl,rfl,rfl,rfl⟩:=H;go_enter Try.func15,Try.ntmps15
  go_wp2_with (first|((with_reducible refine gate_dst (N:=2) rfl ?_);refine box_event ?hg (N:=2) ?hd (cs:=z15_.b0) (t:=31) ?hr ?_;(case hd=>rfl);(case hg=>rfl);(case hr=>first|(go_simp;done)|(go_simp;rfl));intro gb101 hg w3 hbox hb;have BK101:=qM_ (hbox);have GW101:=qM_ ((by rw[hg];exact(below_size qBHB):w.heap.size≤gb101));have GE101:=qM_ ((by rw[hg];exact(below_size qBHB):w.heap.size≤gb101));replace HB:=qM_ (below_step qBHB hb);clear hb hbox hg;obtain⟨hcz4_0,hcz4_1,hcz4_2,hcz4_3,hcz4_4,hcz4_5,hfz4_0⟩:=qc6_ BK101))
  refine bodyPost_ret (results_ct rfl _ _ gb101 31 z15_.b0 (0,0) _ rfl (by(with_reducible repeat(first|refine blk_drewN ?_ _|refine blk_drew ?_|refine blk_alloc ?_ _));refine blk_put (cs:=z15_.b0) ?_ 5 _ rfl;(with_reducible repeat(first|refine blk_drewN ?_ _|refine blk_drew ?_|refine blk_alloc ?_ _));refine blk_put (cs:=z15_.b0) ?_ 4 _ rfl;(with_reducible repeat(first|refine blk_drewN ?_ _|refine blk_drew ?_|refine blk_alloc ?_ _));refine blk_put (cs:=z15_.b0) ?_ 3 _ rfl;(with_reducible repeat(first|refine blk_drewN ?_ _|refine blk_drew ?_|refine blk_alloc ?_ _));refine blk_put (cs:=z15_.b0) ?_ 2 _ rfl;(with_reducible repeat(first|refine blk_drewN ?_ _|refine blk_drew ?_|refine blk_alloc ?_ _));refine blk_put (cs:=z15_.b0) ?_ 1 _ rfl;(with_reducible repeat(first|refine blk_drewN ?_ _|refine blk_drew ?_|refine blk_alloc ?_ _));refine blk_put (cs:=z15_.b0) ?_ 0 _ rfl;(with_reducible repeat(first|refine blk_drewN ?_ _|refine blk_drew ?_|refine blk_alloc ?_ _));exact BK101.out) Try.underlying31 rfl qK) rfl ?_;exact⟨_,qee_,by first|exact Kd.R_nil _ _ _ _ _|exact Kd.N_nil _ _ _ _ _|exact Kd.V_nil _ _ _ _ _|exact Kd.Q_nil _ _ _ _ _|exact Kd.S_nil _ _ _ _ _,qBHB⟩
 ·rw[if_neg c2]at H
  have c2b0:decide (65536 < (l0.length:Int))=false:=decide_eq_false c2;have c2b1:decide (65536 < l0.length)=false:=decide_eq_false (by omega);clear c2;replace H:=Option.bind_eq_some_iff.mp H;obtain⟨⟨t102,t103,t104,t105,t106,t107,t110⟩,A50,H⟩:=H;dsimp only at H;have A5:=qM_ A50;clear A50;by_cases c6:t110=true
  ·subst c6
   have H1:(some (t102,t103,t104,t105,t106,t107,0))=some (r1,r2,r3,r4,r5,r6,r7):=by rw[if_pos rfl]at H;exact H
   clear H;have H:=H1;clear H1;simp only[Option.some.injEq,Prod.mk.injEq]at H;obtain⟨rfl,rfl,rfl,rfl,rfl,rfl,rfl⟩:=H;go_enter Try.func15,Try.ntmps15
   go_wp2_with (first|((with_reducible refine gate_dst (N:=2) rfl ?_);refine box_event ?hg (N:=2) ?hd (cs:=z15_.b0) (t:=31) ?hr ?_;(case hd=>rfl);(case hg=>rfl);(case hr=>first|(go_simp;done)|(go_simp;rfl));intro gb101 hg w7 hbox hb;have BK101:=qM_ (hbox);have GW101:=qM_ ((by rw[hg];exact(below_size qBHB):w.heap.size≤gb101));have GE101:=qM_ ((by rw[hg];exact(below_size qBHB):w.heap.size≤gb101));replace HB:=qM_ (below_step qBHB hb);clear hb hbox hg;have hcv8:=Kd.C_string (P:=Try.prog) (A:=A0) (c:=c0) Try.underlying26 Try.underlying5 Try.underlying9 (Kd.C_below HR0.out HB.out))|((with_reducible refine gate_callee (f:=28) rfl ?_);refine goesL_ (some 13) rfl rfl Try.func28 qK rfl #[.string (strOfNums l0)] rfl qll_ ?_;(with_reducible refine(z28_.calls k (strOfNums l0) t102 t103 t104 t105 t106 t107 true _ A5.out).mono ?_);rintro e w9 ⟨v108,rfl,ho0,hb⟩;refine⟨_,rfl,?_⟩;have HO109:=qM_ (Kd.R_lower ho0 (below_size qBHB));replace BK101:=qM_ (blk_below (qk_ BK101) hb);replace HB:=qM_ (below_step qBHB hb);(try clear hb);(try clear hb2);(try clear hk);(try clear hi);(try clear ho0))|((with_reducible refine gate_dst (N:=4) rfl ?_);refine box_event ?hg (N:=4) ?hd (cs:=z15_.b0) (t:=31) ?hr ?_;(case hd=>rfl);(case hg=>rfl);(case hr=>first|(go_simp;done)|(go_simp;rfl));intro gb111 hg w10 hbox hb;replace HO109:=qM_ (Kd.R_below (qr_ HO109) hb);have BK111:=qM_ (hbox);have GW111:=qM_ ((by rw[hg];exact(below_size qBHB):w.heap.size≤gb111));have GE111:=qM_ ((by rw[hg];exact(below_size qBHB):w.heap.size≤gb111));replace HB:=qM_ (below_step qBHB hb);have NB101_111:=qM_ ((by rw[hg];exact Nat.ne_of_lt (blk_lt (qk_ BK101)):gb101≠gb111));have NB111_101:=qM_ ((by rw[hg];exact Nat.ne_of_gt (blk_lt (qk_ BK101)):gb111≠gb101));replace BK101:=qM_ (blk_below (qk_ BK101) hb);clear hb hbox hg;have hnb11:=NB111_101.out;have hnc11:=NB101_111.out;obtain⟨hcz12_0,hcz12_1,hcz12_2,hcz12_3,hcz12_4,hcz12_5,hfz12_0⟩:=qc6_ BK111;obtain⟨Ao13,co13,eo13⟩:=Kd.R_slice HO109.out;subst eo13;obtain⟨hcz14_0,hcz14_1,hcz14_2,hcz14_3,hcz14_4,hcz14_5,hfz14_0⟩:=qc6_ BK101))
   refine bodyPost_ret (results_ct rfl _ _ gb101 31 #[.int .i64 t102,.int .i64 t103,.int .i64 t104,.int .i64 t105,.string t106,.slice Ao13 t107.length co13] (0,0) _ rfl (by(with_reducible repeat(first|refine blk_drewN ?_ _|refine blk_drew ?_|refine blk_alloc ?_ _));refine blk_put (cs:=#[.int .i64 t102,.int .i64 t103,.int .i64 t104,.int .i64 t105,.string t106,.slice none 0 0]) ?_ 5 _ rfl;(with_reducible repeat(first|refine blk_drewN ?_ _|refine blk_drew ?_|refine blk_alloc ?_ _));refine blk_put (cs:=#[.int .i64 t102,.int .i64 t103,.int .i64 t104,.int .i64 t105,.string (⟨#[]⟩:BA_),.slice none 0 0]) ?_ 4 _ rfl;(with_reducible repeat(first|refine blk_drewN ?_ _|refine blk_drew ?_|refine blk_alloc ?_ _));refine blk_put (cs:=#[.int .i64 t102,.int .i64 t103,.int .i64 t104,.int .i64 0,.string (⟨#[]⟩:BA_),.slice none 0 0]) ?_ 3 _ rfl;(with_reducible repeat(first|refine blk_drewN ?_ _|refine blk_drew ?_|refine blk_alloc ?_ _));refine blk_put (cs:=#[.int .i64 t102,.int .i64 t103,.int .i64 0,.int .i64 0,.string (⟨#[]⟩:BA_),.slice none 0 0]) ?_ 2 _ rfl;(with_reducible repeat(first|refine blk_drewN ?_ _|refine blk_drew ?_|refine blk_alloc ?_ _));refine blk_put (cs:=#[.int .i64 t102,.int .i64 0,.int .i64 0,.int .i64 0,.string (⟨#[]⟩:BA_),.slice none 0 0]) ?_ 1 _ rfl;(with_reducible repeat(first|refine blk_drewN ?_ _|refine blk_drew ?_|refine blk_alloc ?_ _));refine blk_put (cs:=z15_.b0) ?_ 0 _ rfl;(with_reducible repeat(first|refine blk_drewN ?_ _|refine blk_drew ?_|refine blk_alloc ?_ _));refine blk_far ?_ NB101_111.out _;(with_reducible repeat(first|refine blk_drewN ?_ _|refine blk_drew ?_|refine blk_alloc ?_ _));refine blk_far ?_ NB101_111.out _;(with_reducible repeat(first|refine blk_drewN ?_ _|refine blk_drew ?_|refine blk_alloc ?_ _));refine blk_far ?_ NB101_111.out _;(with_reducible repeat(first|refine blk_drewN ?_ _|refine blk_drew ?_|refine blk_alloc ?_ _));refine blk_far ?_ NB101_111.out _;(with_reducible repeat(first|refine blk_drewN ?_ _|refine blk_drew ?_|refine blk_alloc ?_ _));refine blk_far ?_ NB101_111.out _;(with_reducible repeat(first|refine blk_drewN ?_ _|refine blk_drew ?_|refine blk_alloc ?_ _));refine blk_far ?_ NB101_111.out _;(with_reducible repeat(first|refine blk_drewN ?_ _|refine blk_drew ?_|refine blk_alloc ?_ _));exact BK101.out) Try.underlying31 rfl qK) rfl ?_
   exact⟨_,qee_,by(with_reducible repeat(first|apply Kd.R_alloc|apply Kd.R_drewN|apply Kd.R_drew));exact Kd.R_mono (Kd.R_far (p:=⟨gb101,5,none⟩) (Kd.R_far (p:=⟨gb101,4,none⟩) (Kd.R_far (p:=⟨gb101,3,none⟩) (Kd.R_far (p:=⟨gb101,2,none⟩) (Kd.R_far (p:=⟨gb101,1,none⟩) (Kd.R_far (p:=⟨gb101,0,none⟩) (Kd.R_far (p:=⟨gb111,5,none⟩) (Kd.R_far (p:=⟨gb111,4,none⟩) (Kd.R_far (p:=⟨gb111,3,none⟩) (Kd.R_far (p:=⟨gb111,2,none⟩) (Kd.R_far (p:=⟨gb111,1,none⟩) (Kd.R_far (p:=⟨gb111,0,none⟩) (Kd.R_types (Kd.R_types HO109.out BK111.out (by decide)) BK101.out (by decide)) (fun _ hk=>hk.1.2) (.int .i64 t102)) (fun _ hk=>hk.1.2) (.int .i64 t103)) (fun _ hk=>hk.1.2) (.int .i64 t104)) (fun _ hk=>hk.1.2) (.int .i64 t105)) (fun _ hk=>hk.1.2) (.string t106)) (fun _ hk=>hk.1.2) (.slice Ao13 t107.length co13)) (fun _ hk=>hk.2) (.int .i64 t102)) (fun _ hk=>hk.2) (.int .i64 t103)) (fun _ hk=>hk.2) (.int .i64 t104)) (fun _ hk=>hk.2) (.int .i64 t105)) (fun _ hk=>hk.2) (.string t106)) (fun _ hk=>hk.2) (.slice Ao13 t107.length co13)) (fun _ hk=>trivial),qBHB⟩
  ·replace c6:=Bool.eq_false_iff.mpr c6
   subst c6
   have H1:(some (0,0,0,0,(⟨#[]⟩:BA_),([]:List (S54)),3))=some (r1,r2,r3,r4,r5,r6,r7):=by rw[if_neg (show ¬(false=true)by decide)]at H;exact H
   clear H;have H:=H1;clear H1;simp only[Option.some.injEq,Prod.mk.injEq]at H;obtain⟨rfl,rfl,rfl,rfl,rfl,rfl,rfl⟩:=H;go_enter Try.func15,Try.ntmps15
   go_wp2_with (first|((with_reducible refine gate_dst (N:=2) rfl ?_);refine box_event ?hg (N:=2) ?hd (cs:=z15_.b0) (t:=31) ?hr ?_;(case hd=>rfl);(case hg=>rfl);(case hr=>first|(go_simp;done)|(go_simp;rfl));intro gb101 hg w15 hbox hb;have BK101:=qM_ (hbox);have GW101:=qM_ ((by rw[hg];exact(below_size qBHB):w.heap.size≤gb101));have GE101:=qM_ ((by rw[hg];exact(below_size qBHB):w.heap.size≤gb101));replace HB:=qM_ (below_step qBHB hb);clear hb hbox hg;have hcv16:=Kd.C_string (P:=Try.prog) (A:=A0) (c:=c0) Try.underlying26 Try.underlying5 Try.underlying9 (Kd.C_below HR0.out HB.out))|((with_reducible refine gate_callee (f:=28) rfl ?_);refine goesL_ (some 13) rfl rfl Try.func28 qK rfl #[.string (strOfNums l0)] rfl qll_ ?_;(with_reducible refine(z28_.calls k (strOfNums l0) t102 t103 t104 t105 t106 t107 false _ A5.out).mono ?_);rintro e w17 ⟨v108,rfl,ho0,hb⟩;refine⟨_,rfl,?_⟩;have HO109:=qM_ (Kd.R_lower ho0 (below_size qBHB));replace BK101:=qM_ (blk_below (qk_ BK101) hb);replace HB:=qM_ (below_step qBHB hb);(try clear hb);(try clear hb2);(try clear hk);(try clear hi);(try clear ho0))|((with_reducible refine gate_dst (N:=4) rfl ?_);refine box_event ?hg (N:=4) ?hd (cs:=z15_.b0) (t:=31) ?hr ?_;(case hd=>rfl);(case hg=>rfl);(case hr=>first|(go_simp;done)|(go_simp;rfl));intro gb111 hg w18 hbox hb;replace HO109:=qM_ (Kd.R_below (qr_ HO109) hb);have BK111:=qM_ (hbox);have GW111:=qM_ ((by rw[hg];exact(below_size qBHB):w.heap.size≤gb111));have GE111:=qM_ ((by rw[hg];exact(below_size qBHB):w.heap.size≤gb111));replace HB:=qM_ (below_step qBHB hb);have NB101_111:=qM_ ((by rw[hg];exact Nat.ne_of_lt (blk_lt (qk_ BK101)):gb101≠gb111));have NB111_101:=qM_ ((by rw[hg];exact Nat.ne_of_gt (blk_lt (qk_ BK101)):gb111≠gb101));replace BK101:=qM_ (blk_below (qk_ BK101) hb);clear hb hbox hg;have hnb19:=NB111_101.out;have hnc19:=NB101_111.out;obtain⟨hcz20_0,hcz20_1,hcz20_2,hcz20_3,hcz20_4,hcz20_5,hfz20_0⟩:=qc6_ BK111;obtain⟨Ao21,co21,eo21⟩:=Kd.R_slice HO109.out;subst eo21;obtain⟨hcz22_0,hcz22_1,hcz22_2,hcz22_3,hcz22_4,hcz22_5,hfz22_0⟩:=qc6_ BK101))
   refine bodyPost_ret (results_ct rfl _ _ gb101 31 z15_.b0 (0,0) _ rfl (by(with_reducible repeat(first|refine blk_drewN ?_ _|refine blk_drew ?_|refine blk_alloc ?_ _));refine blk_put (cs:=z15_.b0) ?_ 5 _ rfl;(with_reducible repeat(first|refine blk_drewN ?_ _|refine blk_drew ?_|refine blk_alloc ?_ _));refine blk_put (cs:=z15_.b0) ?_ 4 _ rfl;(with_reducible repeat(first|refine blk_drewN ?_ _|refine blk_drew ?_|refine blk_alloc ?_ _));refine blk_put (cs:=z15_.b0) ?_ 3 _ rfl;(with_reducible repeat(first|refine blk_drewN ?_ _|refine blk_drew ?_|refine blk_alloc ?_ _));refine blk_put (cs:=z15_.b0) ?_ 2 _ rfl;(with_reducible repeat(first|refine blk_drewN ?_ _|refine blk_drew ?_|refine blk_alloc ?_ _));refine blk_put (cs:=z15_.b0) ?_ 1 _ rfl;(with_reducible repeat(first|refine blk_drewN ?_ _|refine blk_drew ?_|refine blk_alloc ?_ _));refine blk_put (cs:=z15_.b0) ?_ 0 _ rfl;(with_reducible repeat(first|refine blk_drewN ?_ _|refine blk_drew ?_|refine blk_alloc ?_ _));refine blk_far ?_ NB101_111.out _;(with_reducible repeat(first|refine blk_drewN ?_ _|refine blk_drew ?_|refine blk_alloc ?_ _));refine blk_far ?_ NB101_111.out _;(with_reducible repeat(first|refine blk_drewN ?_ _|refine blk_drew ?_|refine blk_alloc ?_ _));refine blk_far ?_ NB101_111.out _;(with_reducible repeat(first|refine blk_drewN ?_ _|refine blk_drew ?_|refine blk_alloc ?_ _));refine blk_far ?_ NB101_111.out _;(with_reducible repeat(first|refine blk_drewN ?_ _|refine blk_drew ?_|refine blk_alloc ?_ _));refine blk_far ?_ NB101_111.out _;(with_reducible repeat(first|refine blk_drewN ?_ _|refine blk_drew ?_|refine blk_alloc ?_ _));refine blk_far ?_ NB101_111.out _;(with_reducible repeat(first|refine blk_drewN ?_ _|refine blk_drew ?_|refine blk_alloc ?_ _));exact BK101.out) Try.underlying31 rfl qK) rfl ?_;exact⟨_,qee_,by first|exact Kd.R_nil _ _ _ _ _|exact Kd.N_nil _ _ _ _ _|exact Kd.V_nil _ _ _ _ _|exact Kd.Q_nil _ _ _ _ _|exact Kd.S_nil _ _ _ _ _,qBHB⟩

end Go.Proofs.Ytbjefkeogbophaa.P
namespace Go.Proofs.Ytbjefkeogbophaa.P
open Go.RowKit Go.Proofs.YtbjefkeogbophaaW.PrintWords Go.Proofs.YtbjefkeogbophaaW.PrintLast Go.Proofs.YtbjefkeogbophaaW.PrintMore
attribute [local go_sem] max2_int min2_int max_two min_two max_three min_three max_four min_four   -- for this text's walks alone
set_option linter.unusedVariables false
set_option linter.unusedSimpArgs false

theorem eqA54 (d:Nat) (w:World) (x0 y0:ByteArray) (x1 y1:ByteArray) :
    (Op.equalIn (d+2) 54 (.agg #[.string x0,.string x1]) (.agg #[.string y0,.string y1])).run Try.prog w= .ok (x0.toList == y0.toList && (x1.toList == y1.toList)) w:=by
  refine eqA_of Try.underlying54 (by kernel_rfl) ?_
  refine eqf_cons (by rfl) (by go_simp;rfl) (by go_simp;rfl) (by go_simp) ?_
  exact eqf_last (by rfl) (by go_simp;rfl) (by go_simp;rfl) (by go_simp)
end Go.Proofs.Ytbjefkeogbophaa.P
namespace Go.Proofs.Ytbjefkeogbophaa.P
open Go.RowKit Go.Proofs.YtbjefkeogbophaaW.PrintWords Go.Proofs.YtbjefkeogbophaaW.PrintLast Go.Proofs.YtbjefkeogbophaaW.PrintMore
attribute [local go_sem] max2_int min2_int max_two min_two max_three min_three max_four min_four   -- for this text's walks alone
set_option linter.unusedVariables false
set_option linter.unusedSimpArgs false

attribute [local go_sem high] eqA54
/-! ### z16_: function 16 -/
mutual
def z16_.j0:Nat→Bool→Int→Int→Int→Int→ByteArray→List (S54)→Int→Int→Int→Int→ByteArray→List (S54)→Option (Bool)
 | 0,_,_,_,_,_,_,_,_,_,_,_,_,_=>none
 | k+1,x47,x102000,x102001,x102002,x102003,x102004,x102005,x103000,x103001,x103002,x103003,x103004,x103005=>if x47=true then(some false)else(z16_.l0 k 0 x102000 x102001 x102002 x102003 x102004 x102005 x103000 x103001 x103002 x103003 x103004 x103005)
def z16_.l0:Nat→Int→Int→Int→Int→Int→ByteArray→List (S54)→Int→Int→Int→Int→ByteArray→List (S54)→Option (Bool)
 | 0,_,_,_,_,_,_,_,_,_,_,_,_,_=>none
 | k+1,x5,x102000,x102001,x102002,x102003,x102004,x102005,x103000,x103001,x103002,x103003,x103004,x103005=>if x5 < (x102005.length:Int)then(if 0≤x5 then(if x5 < (x103005.length:Int)then(if(!((((rd_T54 x102005 x5).f0).toList) == (((rd_T54 x103005 x5).f0).toList)) || (!((((rd_T54 x102005 x5).f1).toList) == (((rd_T54 x103005 x5).f1).toList))))=true then(some false)else(z16_.l0 k (wrap64 (x5+1)) x102000 x102001 x102002 x102003 x102004 x102005 x103000 x103001 x103002 x103003 x103004 x103005))else(none))else(none))else(some true)
end
def z16_.f (k:Nat) (a0_0:Int) (a0_1:Int) (a0_2:Int) (a0_3:Int) (a0_4:ByteArray) (l0_5:List (S54)) (a1_0:Int) (a1_1:Int) (a1_2:Int) (a1_3:Int) (a1_4:ByteArray) (l1_5:List (S54)):Option (Bool):=if a0_0=a1_0 then(if a0_1=a1_1 then(if a0_2=a1_2 then(if a0_3=a1_3 then(if a0_4.toList=a1_4.toList then(z16_.j0 k ((l0_5.length:Int) != (l1_5.length:Int)) a0_0 a0_1 a0_2 a0_3 a0_4 l0_5 a1_0 a1_1 a1_2 a1_3 a1_4 l1_5)else(z16_.j0 k true a0_0 a0_1 a0_2 a0_3 a0_4 l0_5 a1_0 a1_1 a1_2 a1_3 a1_4 l1_5))else(z16_.j0 k true a0_0 a0_1 a0_2 a0_3 a0_4 l0_5 a1_0 a1_1 a1_2 a1_3 a1_4 l1_5))else(z16_.j0 k true a0_0 a0_1 a0_2 a0_3 a0_4 l0_5 a1_0 a1_1 a1_2 a1_3 a1_4 l1_5))else(z16_.j0 k true a0_0 a0_1 a0_2 a0_3 a0_4 l0_5 a1_0 a1_1 a1_2 a1_3 a1_4 l1_5))else(z16_.j0 k true a0_0 a0_1 a0_2 a0_3 a0_4 l0_5 a1_0 a1_1 a1_2 a1_3 a1_4 l1_5)
theorem z16_.mono_l:∀ k,(∀ y0 y1 y2 y3 y4 y5 y6 y7 y8 y9 y10 y11 y12,LeO (z16_.j0 k y0 y1 y2 y3 y4 y5 y6 y7 y8 y9 y10 y11 y12) (z16_.j0 (k+1) y0 y1 y2 y3 y4 y5 y6 y7 y8 y9 y10 y11 y12))∧(∀ y0 y1 y2 y3 y4 y5 y6 y7 y8 y9 y10 y11 y12,LeO (z16_.l0 k y0 y1 y2 y3 y4 y5 y6 y7 y8 y9 y10 y11 y12) (z16_.l0 (k+1) y0 y1 y2 y3 y4 y5 y6 y7 y8 y9 y10 y11 y12))
 | 0=>⟨fun _ _ _ _ _ _ _ _ _ _ _ _ _ r h=>by simp[z16_.j0]at h,fun _ _ _ _ _ _ _ _ _ _ _ _ _ r h=>by simp[z16_.l0]at h⟩
 | k+1=>by
  obtain⟨ih0,ih1⟩:=z16_.mono_l k;refine⟨?_,?_⟩
  ·intro y0 y1 y2 y3 y4 y5 y6 y7 y8 y9 y10 y11 y12
   unfold z16_.j0
   repeat' first
   | (with_reducible exact ih0 _ _ _ _ _ _ _ _ _ _ _ _ _)
   | (with_reducible exact ih1 _ _ _ _ _ _ _ _ _ _ _ _ _)
   | (with_reducible exact LeO.refl _)
   | (with_reducible exact LeO.none _)
   | (with_reducible refine LeO.ite ?_ ?_)
   | (with_reducible refine LeO.bind ?_ (fun _=> ?_))
   | exact ih0 _ _ _ _ _ _ _ _ _ _ _ _ _
   | exact ih1 _ _ _ _ _ _ _ _ _ _ _ _ _
   | exact LeO.none _
   | refine LeO.ite ?_ ?_
   | refine LeO.bind ?_ (fun _=> ?_)
  ·intro y0 y1 y2 y3 y4 y5 y6 y7 y8 y9 y10 y11 y12
   unfold z16_.l0
   repeat' first
   | (with_reducible exact ih0 _ _ _ _ _ _ _ _ _ _ _ _ _)
   | (with_reducible exact ih1 _ _ _ _ _ _ _ _ _ _ _ _ _)
   | (with_reducible exact LeO.refl _)
   | (with_reducible exact LeO.none _)
   | (with_reducible refine LeO.ite ?_ ?_)
   | (with_reducible refine LeO.bind ?_ (fun _=> ?_))
   | exact ih0 _ _ _ _ _ _ _ _ _ _ _ _ _
   | exact ih1 _ _ _ _ _ _ _ _ _ _ _ _ _
   | exact LeO.none _
   | refine LeO.ite ?_ ?_
   | refine LeO.bind ?_ (fun _=> ?_)
theorem z16_.mono:∀ a0 a1 a2 a3 a4 a5 a6 a7 a8 a9 a10 a11 k,LeO (z16_.f k a0 a1 a2 a3 a4 a5 a6 a7 a8 a9 a10 a11) (z16_.f (k+1) a0 a1 a2 a3 a4 a5 a6 a7 a8 a9 a10 a11):=by
 intro a0 a1 a2 a3 a4 a5 a6 a7 a8 a9 a10 a11 k
 obtain⟨ih0,ih1⟩:=z16_.mono_l k
 unfold z16_.f
 repeat' first
   | (with_reducible exact ih0 _ _ _ _ _ _ _ _ _ _ _ _ _)
   | (with_reducible exact ih1 _ _ _ _ _ _ _ _ _ _ _ _ _)
   | (with_reducible exact LeO.refl _)
   | (with_reducible exact LeO.none _)
   | (with_reducible refine LeO.ite ?_ ?_)
   | (with_reducible refine LeO.bind ?_ (fun _=> ?_))
   | exact ih0 _ _ _ _ _ _ _ _ _ _ _ _ _
   | exact ih1 _ _ _ _ _ _ _ _ _ _ _ _ _
   | exact LeO.none _
   | refine LeO.ite ?_ ?_
   | refine LeO.bind ?_ (fun _=> ?_)
set_option maxHeartbeats 8000000 in
set_option maxRecDepth 100000 in
theorem z16_.calls (k:Nat) (a0_0:Int) (a0_1:Int) (a0_2:Int) (a0_3:Int) (a0_4:ByteArray) (A0_5:Option Addr) (c0_5:Nat) (l0_5:List (S54)) (a1_0:Int) (a1_1:Int) (a1_2:Int) (a1_3:Int) (a1_4:ByteArray) (A1_5:Option Addr) (c1_5:Nat) (l1_5:List (S54)) (r:Bool) (w:World) (hr0_5:Kd.C k54 w A0_5 l0_5.length l0_5) (hc0_5:l0_5.length≤c0_5) (hr1_5:Kd.C k54 w A1_5 l1_5.length l1_5) (hc1_5:l1_5.length≤c1_5) (h:z16_.f k a0_0 a0_1 a0_2 a0_3 a0_4 l0_5 a1_0 a1_1 a1_2 a1_3 a1_4 l1_5=some r) :
  Calls Try.prog 16 #[.agg #[.int .i64 a0_0,.int .i64 a0_1,.int .i64 a0_2,.int .i64 a0_3,.string a0_4,.slice A0_5 l0_5.length c0_5],.agg #[.int .i64 a1_0,.int .i64 a1_1,.int .i64 a1_2,.int .i64 a1_3,.string a1_4,.slice A1_5 l1_5.length c1_5]] w fun e w' => e= .returned (.bool r)∧Below w.heap.size w w' := by
 have hu31:=Try.underlying31
 have hu54:=Try.underlying54
 have HR0_5:=qM_ hr0_5
 have HC0_5:=qM_ hc0_5
 clear hr0_5 hc0_5
 have HR1_5:=qM_ hr1_5
 have HC1_5:=qM_ hc1_5
 clear hr1_5 hc1_5
 have HB:=qM_ (Below.refl w.heap.size w)
 have H:(if a0_0=a1_0 then(if a0_1=a1_1 then(if a0_2=a1_2 then(if a0_3=a1_3 then(if a0_4.toList=a1_4.toList then(z16_.j0 k ((l0_5.length:Int) != (l1_5.length:Int)) a0_0 a0_1 a0_2 a0_3 a0_4 l0_5 a1_0 a1_1 a1_2 a1_3 a1_4 l1_5)else(z16_.j0 k true a0_0 a0_1 a0_2 a0_3 a0_4 l0_5 a1_0 a1_1 a1_2 a1_3 a1_4 l1_5))else(z16_.j0 k true a0_0 a0_1 a0_2 a0_3 a0_4 l0_5 a1_0 a1_1 a1_2 a1_3 a1_4 l1_5))else(z16_.j0 k true a0_0 a0_1 a0_2 a0_3 a0_4 l0_5 a1_0 a1_1 a1_2 a1_3 a1_4 l1_5))else(z16_.j0 k true a0_0 a0_1 a0_2 a0_3 a0_4 l0_5 a1_0 a1_1 a1_2 a1_3 a1_4 l1_5))else(z16_.j0 k true a0_0 a0_1 a0_2 a0_3 a0_4 l0_5 a1_0 a1_1 a1_2 a1_3 a1_4 l1_5))=some r:=h
 clear h
 have HC3:=qM_ H
 clear H
 go_enter Try.func16,Try.ntmps16
 go_upto_region 1 with (first|((with_reducible refine gate_dst (N:=2) rfl ?_);(try(refine gate_guard (by rfl) ?_;dsimp only));refine box_event ?hg (N:=2) ?hd (cs:=#[.int .i64 a0_0,.int .i64 a0_1,.int .i64 a0_2,.int .i64 a0_3,.string a0_4,.slice A0_5 l0_5.length c0_5]) (t:=31) ?hr ?_;(case hd=>rfl);(case hg=>rfl);(case hr=>first|(go_simp;done)|(go_simp;rfl));intro gb101 hg w4 hbox hb;have BK101:=qM_ (hbox);have GW101:=qM_ ((by rw[hg];exact(below_size qBHB):w.heap.size≤gb101));have GE101:=qM_ ((by rw[hg];exact(below_size qBHB):w.heap.size≤gb101));replace HB:=qM_ (below_step qBHB hb);clear hb hbox hg)|((with_reducible refine gate_dst (N:=3) rfl ?_);(try(refine gate_guard (by rfl) ?_;dsimp only));refine box_event ?hg (N:=3) ?hd (cs:=#[.int .i64 a1_0,.int .i64 a1_1,.int .i64 a1_2,.int .i64 a1_3,.string a1_4,.slice A1_5 l1_5.length c1_5]) (t:=31) ?hr ?_;(case hd=>rfl);(case hg=>rfl);(case hr=>first|(go_simp;done)|(go_simp;rfl));intro gb102 hg w5 hbox hb;have BK102:=qM_ (hbox);have GW102:=qM_ ((by rw[hg];exact(below_size qBHB):w.heap.size≤gb102));have GE102:=qM_ ((by rw[hg];exact(below_size qBHB):w.heap.size≤gb102));replace HB:=qM_ (below_step qBHB hb);have NB101_102:=qM_ ((by rw[hg];exact Nat.ne_of_lt (blk_lt (qk_ BK101)):gb101≠gb102));have NB102_101:=qM_ ((by rw[hg];exact Nat.ne_of_gt (blk_lt (qk_ BK101)):gb102≠gb101));replace BK101:=qM_ (blk_below (qk_ BK101) hb);clear hb hbox hg))
 repeat(go_quiet (first|((with_reducible refine gate_dst (N:=2) rfl ?_);(try(refine gate_guard (by rfl) ?_;dsimp only));refine box_event ?hg (N:=2) ?hd (cs:=#[.int .i64 a0_0,.int .i64 a0_1,.int .i64 a0_2,.int .i64 a0_3,.string a0_4,.slice A0_5 l0_5.length c0_5]) (t:=31) ?hr ?_;(case hd=>rfl);(case hg=>rfl);(case hr=>first|(go_simp;done)|(go_simp;rfl));intro gb101 hg w4 hbox hb;have BK101:=qM_ (hbox);have GW101:=qM_ ((by rw[hg];exact(below_size qBHB):w.heap.size≤gb101));have GE101:=qM_ ((by rw[hg];exact(below_size qBHB):w.heap.size≤gb101));replace HB:=qM_ (below_step qBHB hb);clear hb hbox hg)|((with_reducible refine gate_dst (N:=3) rfl ?_);(try(refine gate_guard (by rfl) ?_;dsimp only));refine box_event ?hg (N:=3) ?hd (cs:=#[.int .i64 a1_0,.int .i64 a1_1,.int .i64 a1_2,.int .i64 a1_3,.string a1_4,.slice A1_5 l1_5.length c1_5]) (t:=31) ?hr ?_;(case hd=>rfl);(case hg=>rfl);(case hr=>first|(go_simp;done)|(go_simp;rfl));intro gb102 hg w5 hbox hb;have BK102:=qM_ (hbox);have GW102:=qM_ ((by rw[hg];exact(below_size qBHB):w.heap.size≤gb102));have GE102:=qM_ ((by rw[hg];exact(below_size qBHB):w.heap.size≤gb102));replace HB:=qM_ (below_step qBHB hb);have NB101_102:=qM_ ((by rw[hg];exact Nat.ne_of_lt (blk_lt (qk_ BK101)):gb101≠gb102));have NB102_101:=qM_ ((by rw[hg];exact Nat.ne_of_gt (blk_lt (qk_ BK101)):gb102≠gb101));replace BK101:=qM_ (blk_below (qk_ BK101) hb);clear hb hbox hg));go_upto_region 1 with (first|((with_reducible refine gate_dst (N:=2) rfl ?_);(try(refine gate_guard (by rfl) ?_;dsimp only));refine box_event ?hg (N:=2) ?hd (cs:=#[.int .i64 a0_0,.int .i64 a0_1,.int .i64 a0_2,.int .i64 a0_3,.string a0_4,.slice A0_5 l0_5.length c0_5]) (t:=31) ?hr ?_;(case hd=>rfl);(case hg=>rfl);(case hr=>first|(go_simp;done)|(go_simp;rfl));intro gb101 hg w4 hbox hb;have BK101:=qM_ (hbox);have GW101:=qM_ ((by rw[hg];exact(below_size qBHB):w.heap.size≤gb101));have GE101:=qM_ ((by rw[hg];exact(below_size qBHB):w.heap.size≤gb101));replace HB:=qM_ (below_step qBHB hb);clear hb hbox hg)|((with_reducible refine gate_dst (N:=3) rfl ?_);(try(refine gate_guard (by rfl) ?_;dsimp only));refine box_event ?hg (N:=3) ?hd (cs:=#[.int .i64 a1_0,.int .i64 a1_1,.int .i64 a1_2,.int .i64 a1_3,.string a1_4,.slice A1_5 l1_5.length c1_5]) (t:=31) ?hr ?_;(case hd=>rfl);(case hg=>rfl);(case hr=>first|(go_simp;done)|(go_simp;rfl));intro gb102 hg w5 hbox hb;have BK102:=qM_ (hbox);have GW102:=qM_ ((by rw[hg];exact(below_size qBHB):w.heap.size≤gb102));have GE102:=qM_ ((by rw[hg];exact(below_size qBHB):w.heap.size≤gb102));replace HB:=qM_ (below_step qBHB hb);have NB101_102:=qM_ ((by rw[hg];exact Nat.ne_of_lt (blk_lt (qk_ BK101)):gb101≠gb102));have NB102_101:=qM_ ((by rw[hg];exact Nat.ne_of_gt (blk_lt (qk_ BK101)):gb102≠gb101));replace BK101:=qM_ (blk_below (qk_ BK101) hb);clear hb hbox hg)))
 (try simp only[Act.put,List.setIfInBounds_toArray,List.set_cons_zero,List.set_cons_succ])
 go_cut [47] (fun v47 wc=>∃(kq:Nat) (x47_2:Bool),v47= .bool x47_2∧Aside0 (z16_.j0 kq x47_2 a0_0 a0_1 a0_2 a0_3 a0_4 l0_5 a1_0 a1_1 a1_2 a1_3 a1_4 l1_5=some r)∧Aside0 (kq≤k)∧Aside0 (wc.heap[gb101]? = some (.cells #[.int .i64 a0_0,.int .i64 a0_1,.int .i64 a0_2,.int .i64 a0_3,.string a0_4,(.slice A0_5 l0_5.length c0_5)] 31 (0,0)))∧Aside0 (wc.heap[gb102]? = some (.cells #[.int .i64 a1_0,.int .i64 a1_1,.int .i64 a1_2,.int .i64 a1_3,.string a1_4,(.slice A1_5 l1_5.length c1_5)] 31 (0,0)))∧Aside0 (Below w.heap.size w wc))
 case first =>
  have H:=HC3.out;clear HC3;by_cases c6:a0_0=a1_0
  ·rw[if_pos c6]at H
   have c6b0:(a0_0 == a1_0)=true:=beq_iff_eq.mpr c6;have c6b1:(a0_0 != a1_0)=false:=bne_eq_false_iff_eq.mpr c6;clear c6
   (first|rw[c6b0]|(simp only[i64_w,i32_w];rw[c6b0])|skip)
   by_cases c7:a0_1=a1_1
   ·rw[if_pos c7]at H
    have c7b0:(a0_1 == a1_1)=true:=beq_iff_eq.mpr c7;have c7b1:(a0_1 != a1_1)=false:=bne_eq_false_iff_eq.mpr c7;clear c7;by_cases c8:a0_2=a1_2
    ·rw[if_pos c8]at H
     have c8b0:(a0_2 == a1_2)=true:=beq_iff_eq.mpr c8;have c8b1:(a0_2 != a1_2)=false:=bne_eq_false_iff_eq.mpr c8;clear c8;by_cases c9:a0_3=a1_3
     ·rw[if_pos c9]at H
      have c9b0:(a0_3 == a1_3)=true:=beq_iff_eq.mpr c9;have c9b1:(a0_3 != a1_3)=false:=bne_eq_false_iff_eq.mpr c9;clear c9;by_cases c10:a0_4.toList=a1_4.toList
      ·rw[if_pos c10]at H
       have c10b0:(a0_4.toList == a1_4.toList)=true:=beq_iff_eq.mpr c10;have c10b1:(a0_4.toList != a1_4.toList)=false:=bne_eq_false_iff_eq.mpr c10;clear c10;have H' := qM_ H;clear H;have hnb11:=NB101_102.out;have hnc11:=NB102_101.out;obtain⟨hcz12_0,hcz12_1,hcz12_2,hcz12_3,hcz12_4,hcz12_5,hfz12_0⟩:=qc6_ BK101;obtain⟨hcz13_0,hcz13_1,hcz13_2,hcz13_3,hcz13_4,hcz13_5,hfz13_0⟩:=qc6_ BK102
       go_wp2
       repeat(go_quiet (fail);try go_wp2)
       go_meet
       case rel=>exact⟨_,(((l0_5.length:Int) != (l1_5.length:Int))),qff_,H', ⟨by first|omega|exact Nat.le_refl _⟩,⟨qk_ BK101⟩,⟨qk_ BK102⟩,⟨qBHB⟩⟩
      ·rw[if_neg c10]at H
       have c10b0:(a0_4.toList == a1_4.toList)=false:=beq_eq_false_iff_ne.mpr c10;have c10b1:(a0_4.toList != a1_4.toList)=true:=bne_iff_ne.mpr c10;have H' := qM_ H;clear H;have hnb14:=NB101_102.out;have hnc14:=NB102_101.out;obtain⟨hcz15_0,hcz15_1,hcz15_2,hcz15_3,hcz15_4,hcz15_5,hfz15_0⟩:=qc6_ BK101;obtain⟨hcz16_0,hcz16_1,hcz16_2,hcz16_3,hcz16_4,hcz16_5,hfz16_0⟩:=qc6_ BK102
       go_wp2
       repeat(go_quiet (fail);try go_wp2)
       go_meet
       case rel=>exact⟨_,(true),qff_,H', ⟨by first|omega|exact Nat.le_refl _⟩,⟨qk_ BK101⟩,⟨qk_ BK102⟩,⟨qBHB⟩⟩
     ·rw[if_neg c9]at H
      have c9b0:(a0_3 == a1_3)=false:=beq_eq_false_iff_ne.mpr c9;have c9b1:(a0_3 != a1_3)=true:=bne_iff_ne.mpr c9;have H' := qM_ H;clear H;have hnb17:=NB101_102.out;have hnc17:=NB102_101.out;obtain⟨hcz18_0,hcz18_1,hcz18_2,hcz18_3,hcz18_4,hcz18_5,hfz18_0⟩:=qc6_ BK101;obtain⟨hcz19_0,hcz19_1,hcz19_2,hcz19_3,hcz19_4,hcz19_5,hfz19_0⟩:=qc6_ BK102
      go_wp2
      repeat(go_quiet (fail);try go_wp2)
      go_meet
      case rel=>exact⟨_,(true),qff_,H', ⟨by first|omega|exact Nat.le_refl _⟩,⟨qk_ BK101⟩,⟨qk_ BK102⟩,⟨qBHB⟩⟩
    ·rw[if_neg c8]at H
     have c8b0:(a0_2 == a1_2)=false:=beq_eq_false_iff_ne.mpr c8;have c8b1:(a0_2 != a1_2)=true:=bne_iff_ne.mpr c8;have H' := qM_ H;clear H;have hnb20:=NB101_102.out;have hnc20:=NB102_101.out;obtain⟨hcz21_0,hcz21_1,hcz21_2,hcz21_3,hcz21_4,hcz21_5,hfz21_0⟩:=qc6_ BK101;obtain⟨hcz22_0,hcz22_1,hcz22_2,hcz22_3,hcz22_4,hcz22_5,hfz22_0⟩:=qc6_ BK102
     go_wp2
     repeat(go_quiet (fail);try go_wp2)
     go_meet
     case rel=>exact⟨_,(true),qff_,H', ⟨by first|omega|exact Nat.le_refl _⟩,⟨qk_ BK101⟩,⟨qk_ BK102⟩,⟨qBHB⟩⟩
   ·rw[if_neg c7]at H
    have c7b0:(a0_1 == a1_1)=false:=beq_eq_false_iff_ne.mpr c7;have c7b1:(a0_1 != a1_1)=true:=bne_iff_ne.mpr c7;have H' := qM_ H;clear H;have hnb23:=NB101_102.out;have hnc23:=NB102_101.out;obtain⟨hcz24_0,hcz24_1,hcz24_2,hcz24_3,hcz24_4,hcz24_5,hfz24_0⟩:=qc6_ BK101;obtain⟨hcz25_0,hcz25_1,hcz25_2,hcz25_3,hcz25_4,hcz25_5,hfz25_0⟩:=qc6_ BK102
    go_wp2
    repeat(go_quiet (fail);try go_wp2)
    go_meet
    case rel=>exact⟨_,(true),qff_,H', ⟨by first|omega|exact Nat.le_refl _⟩,⟨qk_ BK101⟩,⟨qk_ BK102⟩,⟨qBHB⟩⟩
  ·rw[if_neg c6]at H
   have c6b0:(a0_0 == a1_0)=false:=beq_eq_false_iff_ne.mpr c6;have c6b1:(a0_0 != a1_0)=true:=bne_iff_ne.mpr c6
   (first|rw[c6b0]|(simp only[i64_w,i32_w];rw[c6b0])|skip)
   have H' := qM_ H;clear H;have hnb26:=NB101_102.out;have hnc26:=NB102_101.out;obtain⟨hcz27_0,hcz27_1,hcz27_2,hcz27_3,hcz27_4,hcz27_5,hfz27_0⟩:=qc6_ BK101;obtain⟨hcz28_0,hcz28_1,hcz28_2,hcz28_3,hcz28_4,hcz28_5,hfz28_0⟩:=qc6_ BK102
   go_wp2
   repeat(go_quiet (fail);try go_wp2)
   go_meet
   case rel=>exact⟨_,(true),qff_,H', ⟨by first|omega|exact Nat.le_refl _⟩,⟨qk_ BK101⟩,⟨qk_ BK102⟩,⟨qBHB⟩⟩
 case rest =>
  clear HC3
  try clear c1
  try clear c2
  try clear p2
  try clear c6
  try clear c6b0
  try clear c6b1
  try clear c7
  try clear c7b0
  try clear c7b1
  try clear c8
  try clear c8b0
  try clear c8b1
  try clear c9
  try clear c9b0
  try clear c9b1
  try clear c10
  try clear c10b0
  try clear c10b1
  try clear c11
  try clear c14
  try clear c16
  try clear c17
  try clear c20
  try clear c23
  try clear c26
  try clear hcz12_0 hcz12_1 hcz12_2 hcz12_3 hcz12_4 hcz12_5
  try clear hcz13_0 hcz13_1 hcz13_2 hcz13_3 hcz13_4 hcz13_5
  try clear hcz15_0 hcz15_1 hcz15_2 hcz15_3 hcz15_4 hcz15_5
  try clear hcz16_0 hcz16_1 hcz16_2 hcz16_3 hcz16_4 hcz16_5
  try clear hcz18_0 hcz18_1 hcz18_2 hcz18_3 hcz18_4 hcz18_5
  try clear hcz19_0 hcz19_1 hcz19_2 hcz19_3 hcz19_4 hcz19_5
  try clear hcz21_0 hcz21_1 hcz21_2 hcz21_3 hcz21_4 hcz21_5
  try clear hcz22_0 hcz22_1 hcz22_2 hcz22_3 hcz22_4 hcz22_5
  try clear hcz24_0 hcz24_1 hcz24_2 hcz24_3 hcz24_4 hcz24_5
  try clear hcz25_0 hcz25_1 hcz25_2 hcz25_3 hcz25_4 hcz25_5
  try clear hcz27_0 hcz27_1 hcz27_2 hcz27_3 hcz27_4 hcz27_5
  try clear hcz28_0 hcz28_1 hcz28_2 hcz28_3 hcz28_4 hcz28_5
  try clear hfz12_0
  try clear hfz13_0
  try clear hfz15_0
  try clear hfz16_0
  try clear hfz18_0
  try clear hfz19_0
  try clear hfz21_0
  try clear hfz22_0
  try clear hfz24_0
  try clear hfz25_0
  try clear hfz27_0
  try clear hfz28_0
  obtain⟨kq,x47_2,rfl,HA,HJ2,BK101,BK102,HB⟩:=hcut
  cases kq with
  | zero=>exact absurd HA.out (by simp[z16_.j0])
  | succ kj2 =>
   have H:=HA.out;clear HA;simp only[z16_.j0]at H;by_cases c29:x47_2=true
   ·subst c29
    have H1:(some false)=some r:=by rw[if_pos rfl]at H;exact H
    clear H;have H:=H1;clear H1;obtain rfl:=Option.some.inj H
    go_wp2
    repeat(go_quiet (fail);try go_wp2)
    go_ret;exact⟨qee_,qBHB⟩
   ·replace c29:=Bool.eq_false_iff.mpr c29
    subst c29
    have H1:(z16_.l0 kj2 0 a0_0 a0_1 a0_2 a0_3 a0_4 l0_5 a1_0 a1_1 a1_2 a1_3 a1_4 l1_5)=some r:=by rw[if_neg (show ¬(false=true)by decide)]at H;exact H
    clear H;have H:=H1;clear H1;have H' := qM_ H;clear H
    go_wp2
    repeat(go_quiet (fail);try go_wp2)
    go_loopg [5] kj2 (fun kq v5 w' => ∃(x5_2:Int),v5= .int .i64 x5_2∧Aside0 (z16_.l0 kq x5_2 a0_0 a0_1 a0_2 a0_3 a0_4 l0_5 a1_0 a1_1 a1_2 a1_3 a1_4 l1_5=some r)∧Aside0 (kq≤kj2)∧Aside0 (w'.heap[gb101]? = some (.cells #[.int .i64 a0_0,.int .i64 a0_1,.int .i64 a0_2,.int .i64 a0_3,.string a0_4,(.slice A0_5 l0_5.length c0_5)] 31 (0,0)))∧Aside0 (w'.heap[gb102]? = some (.cells #[.int .i64 a1_0,.int .i64 a1_1,.int .i64 a1_2,.int .i64 a1_3,.string a1_4,(.slice A1_5 l1_5.length c1_5)] 31 (0,0)))∧Aside0 (Below w.heap.size w w'))
    case atStart=>exact⟨(0),qff_,H', ⟨Nat.le_refl _⟩,⟨qk_ BK101⟩,⟨qk_ BK102⟩,⟨qBHB⟩⟩
    case round =>
     clear H'
     try clear c1
     try clear c2
     try clear p2
     try clear c6
     try clear c6b0
     try clear c6b1
     try clear c7
     try clear c7b0
     try clear c7b1
     try clear c8
     try clear c8b0
     try clear c8b1
     try clear c9
     try clear c9b0
     try clear c9b1
     try clear c10
     try clear c10b0
     try clear c10b1
     try clear c11
     try clear c14
     try clear c16
     try clear c17
     try clear c20
     try clear c23
     try clear c26
     try clear c29
     try clear hcz12_0 hcz12_1 hcz12_2 hcz12_3 hcz12_4 hcz12_5
     try clear hcz13_0 hcz13_1 hcz13_2 hcz13_3 hcz13_4 hcz13_5
     try clear hcz15_0 hcz15_1 hcz15_2 hcz15_3 hcz15_4 hcz15_5
     try clear hcz16_0 hcz16_1 hcz16_2 hcz16_3 hcz16_4 hcz16_5
     try clear hcz18_0 hcz18_1 hcz18_2 hcz18_3 hcz18_4 hcz18_5
     try clear hcz19_0 hcz19_1 hcz19_2 hcz19_3 hcz19_4 hcz19_5
     try clear hcz21_0 hcz21_1 hcz21_2 hcz21_3 hcz21_4 hcz21_5
     try clear hcz22_0 hcz22_1 hcz22_2 hcz22_3 hcz22_4 hcz22_5
     try clear hcz24_0 hcz24_1 hcz24_2 hcz24_3 hcz24_4 hcz24_5
     try clear hcz25_0 hcz25_1 hcz25_2 hcz25_3 hcz25_4 hcz25_5
     try clear hcz27_0 hcz27_1 hcz27_2 hcz27_3 hcz27_4 hcz27_5
     try clear hcz28_0 hcz28_1 hcz28_2 hcz28_3 hcz28_4 hcz28_5
     try clear hfz12_0
     try clear hfz13_0
     try clear hfz15_0
     try clear hfz16_0
     try clear hfz18_0
     try clear hfz19_0
     try clear hfz21_0
     try clear hfz22_0
     try clear hfz24_0
     try clear hfz25_0
     try clear hfz27_0
     try clear hfz28_0
     try clear p2
     obtain⟨x5_2,rfl,HA,HK2,BK101,BK102,HB⟩:=hrel
     cases gk with
     | zero=>exact absurd HA.out (by simp[z16_.l0])
     | succ k2 =>
      have H:=HA.out;clear HA;simp only[z16_.l0]at H;by_cases c30:x5_2 < (l0_5.length:Int)
      ·rw[if_pos c30]at H
       have c30b0:decide (x5_2 < (l0_5.length:Int))=true:=decide_eq_true c30;clear c30;by_cases c31:0≤x5_2
       ·rw[if_pos c31]at H
        have c31b0:decide (0≤x5_2)=true:=decide_eq_true c31;clear c31;by_cases c32:x5_2 < (l1_5.length:Int)
        ·rw[if_pos c32]at H
         have c32b0:decide (x5_2 < (l1_5.length:Int))=true:=decide_eq_true c32;clear c32;by_cases c33:(!((((rd_T54 l0_5 x5_2).f0).toList) == (((rd_T54 l1_5 x5_2).f0).toList)) || (!((((rd_T54 l0_5 x5_2).f1).toList) == (((rd_T54 l1_5 x5_2).f1).toList))))=true
         ·rw[if_pos c33]at H
          have c33b0:(!((((rd_T54 l0_5 x5_2).f0).toList) == (((rd_T54 l1_5 x5_2).f0).toList)) || (!((((rd_T54 l0_5 x5_2).f1).toList) == (((rd_T54 l1_5 x5_2).f1).toList))))=true:=c33;clear c33;obtain rfl:=Option.some.inj H;have hnb34:=NB101_102.out;have hnc34:=NB102_101.out;obtain⟨hcz35_0,hcz35_1,hcz35_2,hcz35_3,hcz35_4,hcz35_5,hfz35_0⟩:=qc6_ BK101;have p103:0≤(x5_2:Int):=qd_;have q103:x5_2 < (l0_5.length:Int):=qd_;obtain⟨ad103,e103,hx103_0,hx103_1⟩:=at_T54 HR0_5.out x5_2 p103 q103;cases e103;replace hx103_0:=(HB.out.cell (qL_ w _ hx103_0)).trans hx103_0;replace hx103_1:=(HB.out.cell (qL_ w _ hx103_1)).trans hx103_1;replace p103:=eq_true p103;replace q103:=eq_true q103;obtain⟨hcz36_0,hcz36_1,hcz36_2,hcz36_3,hcz36_4,hcz36_5,hfz36_0⟩:=qc6_ BK102;have p104:0≤(x5_2:Int):=qd_;have q104:x5_2 < (l1_5.length:Int):=qd_;obtain⟨ad104,e104,hx104_0,hx104_1⟩:=at_T54 HR1_5.out x5_2 p104 q104;cases e104;replace hx104_0:=(HB.out.cell (qL_ w _ hx104_0)).trans hx104_0;replace hx104_1:=(HB.out.cell (qL_ w _ hx104_1)).trans hx104_1;replace p104:=eq_true p104;replace q104:=eq_true q104
          go_wp2
          repeat(go_quiet (fail);try go_wp2)
          go_ret;exact⟨qee_,qBHB⟩
         ·rw[if_neg c33]at H
          have c33b0:(!((((rd_T54 l0_5 x5_2).f0).toList) == (((rd_T54 l1_5 x5_2).f0).toList)) || (!((((rd_T54 l0_5 x5_2).f1).toList) == (((rd_T54 l1_5 x5_2).f1).toList))))=false:=by simpa using c33
          clear c33;have H' := qM_ H;clear H;have hnb37:=NB101_102.out;have hnc37:=NB102_101.out;obtain⟨hcz38_0,hcz38_1,hcz38_2,hcz38_3,hcz38_4,hcz38_5,hfz38_0⟩:=qc6_ BK101;have p103:0≤(x5_2:Int):=qd_;have q103:x5_2 < (l0_5.length:Int):=qd_;obtain⟨ad103,e103,hx103_0,hx103_1⟩:=at_T54 HR0_5.out x5_2 p103 q103;cases e103;replace hx103_0:=(HB.out.cell (qL_ w _ hx103_0)).trans hx103_0;replace hx103_1:=(HB.out.cell (qL_ w _ hx103_1)).trans hx103_1;replace p103:=eq_true p103;replace q103:=eq_true q103;obtain⟨hcz39_0,hcz39_1,hcz39_2,hcz39_3,hcz39_4,hcz39_5,hfz39_0⟩:=qc6_ BK102;have p104:0≤(x5_2:Int):=qd_;have q104:x5_2 < (l1_5.length:Int):=qd_;obtain⟨ad104,e104,hx104_0,hx104_1⟩:=at_T54 HR1_5.out x5_2 p104 q104;cases e104;replace hx104_0:=(HB.out.cell (qL_ w _ hx104_0)).trans hx104_0;replace hx104_1:=(HB.out.cell (qL_ w _ hx104_1)).trans hx104_1;replace p104:=eq_true p104;replace q104:=eq_true q104
          go_wp2
          repeat(go_quiet (fail);try go_wp2)
          go_roundg k2
          case measure=>have:=HJ2.out;have:=HK2.out;omega
          case rel=>exact⟨(wrap64 (x5_2+1)),qff_,H', ⟨by have:=HJ2.out;have:=HK2.out;omega⟩,⟨qk_ BK101⟩,⟨qk_ BK102⟩,⟨qBHB⟩⟩
        ·rw[if_neg c32]at H
         exact absurd H (by simp)
       ·rw[if_neg c31]at H
        exact absurd H (by simp)
      ·rw[if_neg c30]at H
       have c30b0:decide (x5_2 < (l0_5.length:Int))=false:=decide_eq_false c30;clear c30;obtain rfl:=Option.some.inj H;have hnb40:=NB101_102.out;have hnc40:=NB102_101.out;obtain⟨hcz41_0,hcz41_1,hcz41_2,hcz41_3,hcz41_4,hcz41_5,hfz41_0⟩:=qc6_ BK101
       go_wp2
       repeat(go_quiet (fail);try go_wp2)
       go_ret;exact⟨qee_,qBHB⟩

end Go.Proofs.Ytbjefkeogbophaa.P
