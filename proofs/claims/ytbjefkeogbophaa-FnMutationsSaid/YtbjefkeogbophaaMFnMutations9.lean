/- Part 9 of what the law FnMutations stands on; the last part ends with the law's row. No condition of mine. -/
import Derived.Test.YtbjefkeogbophaaMFnMutations1
import Derived.Test.YtbjefkeogbophaaMFnMutations2
import Derived.Test.YtbjefkeogbophaaMFnMutations8
import Derived.Shelf.Abstract
namespace Go.Proofs.Ytbjefkeogbophaa.P
open Go.RowKit Go.Proofs.YtbjefkeogbophaaW.PrintWords Go.Proofs.YtbjefkeogbophaaW.PrintLast Go.Proofs.YtbjefkeogbophaaW.PrintMore
attribute [local go_sem] max2_int min2_int max_two min_two max_three min_three max_four min_four   -- for this text's walks alone
set_option linter.unusedVariables false
set_option linter.unusedSimpArgs false

/-! ### z27_: function 27 -/
mutual
def z27_.j0:Nat→Int→Bool→List Int→Int→Int→Int→Int→Int→Int→ByteArray→List (S54)→Option (Int × Int × Int × Int × ByteArray × (List (S54)) × Int × Int)
 | 0,_,_,_,_,_,_,_,_,_,_,_=>none
 | k+1,x19,x26,x1000,x1001,x1002,x118000,x118001,x118002,x118003,x118004,x118005=>if x26=true then((z46_.f x1000 x1001 x1002).bind fun bt127=>((z47_.f x1000 bt127.2.1 bt127.2.2 3).bind fun bt133=>(z27_.l0 k (wrap64 (1+bt133.1)) x1000 bt133.2.1 bt133.2.2 2 0 0 0 bt127.1 (([]:List (S54))))))else(if x19=3 then((z46_.f x1000 x1001 x1002).bind fun bt153=>(some (4,0,0,0,bt153.1,(([]:List (S54))),bt153.2.1,bt153.2.2)))else(some (x118000,x118001,x118002,x118003,x118004,x118005,x1001,x1002)))
def z27_.l0:Nat→Int→List Int→Int→Int→Int→Int→Int→Int→ByteArray→List (S54)→Option (Int × Int × Int × Int × ByteArray × (List (S54)) × Int × Int)
 | 0,_,_,_,_,_,_,_,_,_,_=>none
 | k+1,x4,x1000,x1001,x1002,x118000,x118001,x118002,x118003,x118004,x118005=>if x4 > 0 then((z48_.f x1000 x1001 x1002).bind fun bt136=>((z47_.f x1000 bt136.2.2.2.2.2.2.1 bt136.2.2.2.2.2.2.2 3).bind fun bt145=>((z49_.f k bt145.1).bind fun t148=>(if bt136.1.size+t148.size≤9223372036854775807 then((z50_.f k bt136.1 bt136.2.1 bt136.2.2.1 bt136.2.2.2.1 bt136.2.2.2.2.1 bt136.2.2.2.2.2.1 x118004).bind fun t149=>(if x118005.length < 4398046511104 then(z27_.l0 k (wrap64 (x4 - 1)) x1000 bt145.2.1 bt145.2.2 x118000 x118001 x118002 x118003 x118004 (x118005 ++ [(⟨bt136.1 ++ t148,t149⟩:S54)]))else(none)))else(none)))))else(some (x118000,x118001,x118002,x118003,x118004,x118005,x1001,x1002))
end
def z27_.f (k:Nat) (s0_0:List Int) (s0_1:Int) (s0_2:Int):Option (Int × Int × Int × Int × ByteArray × (List (S54)) × Int × Int):=(z46_.f s0_0 s0_1 s0_2).bind fun bt102=>((z47_.f s0_0 bt102.2.1 bt102.2.2 6).bind fun bt105=>((z47_.f s0_0 bt105.2.1 bt105.2.2 3).bind fun bt108=>((z47_.f s0_0 bt108.2.1 bt108.2.2 32).bind fun bt111=>((some (([]:List (S54)):List (S54))).bind fun y114=>((z47_.f s0_0 bt111.2.1 bt111.2.2 6).bind fun bt118=>(if bt118.1=0 then((z46_.f s0_0 bt118.2.1 bt118.2.2).bind fun bt121=>(some (1,0,0,0,bt121.1,(([]:List (S54))),bt121.2.1,bt121.2.2)))else(if bt118.1=1 then(z27_.j0 k bt118.1 (bt118.1 == 1) s0_0 bt118.2.1 bt118.2.2 3 (wrap64 (1+bt105.1)) (wrap64 (1+bt108.1)) bt111.1 bt102.1 y114)else(z27_.j0 k bt118.1 (bt118.1 == 2) s0_0 bt118.2.1 bt118.2.2 3 (wrap64 (1+bt105.1)) (wrap64 (1+bt108.1)) bt111.1 bt102.1 y114))))))))
theorem z27_.mono_l:∀ k,(∀ y0 y1 y2 y3 y4 y5 y6 y7 y8 y9 y10,LeO (z27_.j0 k y0 y1 y2 y3 y4 y5 y6 y7 y8 y9 y10) (z27_.j0 (k+1) y0 y1 y2 y3 y4 y5 y6 y7 y8 y9 y10))∧(∀ y0 y1 y2 y3 y4 y5 y6 y7 y8 y9,LeO (z27_.l0 k y0 y1 y2 y3 y4 y5 y6 y7 y8 y9) (z27_.l0 (k+1) y0 y1 y2 y3 y4 y5 y6 y7 y8 y9))
 | 0=>⟨fun _ _ _ _ _ _ _ _ _ _ _ r h=>by simp[z27_.j0]at h,fun _ _ _ _ _ _ _ _ _ _ r h=>by simp[z27_.l0]at h⟩
 | k+1=>by
  obtain⟨ih0,ih1⟩:=z27_.mono_l k;refine⟨?_,?_⟩
  ·intro y0 y1 y2 y3 y4 y5 y6 y7 y8 y9 y10
   unfold z27_.j0
   repeat' first
   | (with_reducible exact ih0 _ _ _ _ _ _ _ _ _ _ _)
   | (with_reducible exact ih1 _ _ _ _ _ _ _ _ _ _)
   | (with_reducible exact z49_.mono _ _)
   | (with_reducible exact z50_.mono _ _ _ _ _ _ _ _)
   | (with_reducible exact LeO.refl _)
   | (with_reducible exact LeO.none _)
   | (with_reducible refine LeO.ite ?_ ?_)
   | (with_reducible refine LeO.bind ?_ (fun _=> ?_))
   | exact ih0 _ _ _ _ _ _ _ _ _ _ _
   | exact ih1 _ _ _ _ _ _ _ _ _ _
   | exact z49_.mono _ _
   | exact z50_.mono _ _ _ _ _ _ _ _
   | exact LeO.none _
   | refine LeO.ite ?_ ?_
   | refine LeO.bind ?_ (fun _=> ?_)
  ·intro y0 y1 y2 y3 y4 y5 y6 y7 y8 y9
   unfold z27_.l0
   repeat' first
   | (with_reducible exact ih0 _ _ _ _ _ _ _ _ _ _ _)
   | (with_reducible exact ih1 _ _ _ _ _ _ _ _ _ _)
   | (with_reducible exact z49_.mono _ _)
   | (with_reducible exact z50_.mono _ _ _ _ _ _ _ _)
   | (with_reducible exact LeO.refl _)
   | (with_reducible exact LeO.none _)
   | (with_reducible refine LeO.ite ?_ ?_)
   | (with_reducible refine LeO.bind ?_ (fun _=> ?_))
   | exact ih0 _ _ _ _ _ _ _ _ _ _ _
   | exact ih1 _ _ _ _ _ _ _ _ _ _
   | exact z49_.mono _ _
   | exact z50_.mono _ _ _ _ _ _ _ _
   | exact LeO.none _
   | refine LeO.ite ?_ ?_
   | refine LeO.bind ?_ (fun _=> ?_)
theorem z27_.mono:∀ a0 a1 a2 k,LeO (z27_.f k a0 a1 a2) (z27_.f (k+1) a0 a1 a2):=by
 intro a0 a1 a2 k
 obtain⟨ih0,ih1⟩:=z27_.mono_l k
 unfold z27_.f
 repeat' first
   | (with_reducible exact ih0 _ _ _ _ _ _ _ _ _ _ _)
   | (with_reducible exact ih1 _ _ _ _ _ _ _ _ _ _)
   | (with_reducible exact z49_.mono _ _)
   | (with_reducible exact z50_.mono _ _ _ _ _ _ _ _)
   | (with_reducible exact LeO.refl _)
   | (with_reducible exact LeO.none _)
   | (with_reducible refine LeO.ite ?_ ?_)
   | (with_reducible refine LeO.bind ?_ (fun _=> ?_))
   | exact ih0 _ _ _ _ _ _ _ _ _ _ _
   | exact ih1 _ _ _ _ _ _ _ _ _ _
   | exact z49_.mono _ _
   | exact z50_.mono _ _ _ _ _ _ _ _
   | exact LeO.none _
   | refine LeO.ite ?_ ?_
   | refine LeO.bind ?_ (fun _=> ?_)
def z27_.T12:Bool × List (List Nat × List Nat):=(true,[([],[]),([0],[0]),([],[]),([2],[2]),([],[]),([4],[4]),([5,5],[5]),([3,6],[3,6]),([],[]),([],[]),([9],[9]),([8,10,6],[8,10]),([7,11],[7,11]),([12],[12]),([1,13,11],[1,13]),([0,1,2,3,4,5,6,7,8,9,10,11,12,13,14],[]),([15,14,14,0,1,2,3,4,5,6,7,8,9,10,11,12,13,14],[14,15])])
def z27_.B12:List Nat:=[0,1,0,4,0,16,48,124,0,0,512,1904,4092,8188,16383,32767,65535]
theorem z27_.tab12:rtab .any (opsOf Try.f27 12)=z27_.T12:=by kernel_rfl
theorem z27_.bits12:waitsOk z27_.T12.2 z27_.B12=true:=by kernel_rfl
abbrev z27_.b0:Array Value:=#[.int .i64 0,.int .i64 0,.int .i64 0,.int .i64 0,.string (⟨#[]⟩:ByteArray),.slice none 0 0]
set_option maxHeartbeats 8000000 in
set_option maxRecDepth 100000 in
theorem z27_.calls (k:Nat) (g:Nat) (s0_0:List Int) (s0_1:Int) (s0_2:Int) (r1:Int) (r2:Int) (r3:Int) (r4:Int) (r5:ByteArray) (r6:List (S54)) (r7:Int) (r8:Int) (w0 w:World) (hI:IsS77 w0 w g s0_0 s0_1 s0_2) (hB:Below w0.heap.size w0 w) (h:z27_.f k s0_0 s0_1 s0_2=some (r1,r2,r3,r4,r5,r6,r7,r8)) :
  Calls Try.prog 27 #[.pointer (some ⟨g,0,none⟩)] w fun e w' => ∃ v5_:Value,e= .returned (.agg #[.int .i64 r1,.int .i64 r2,.int .i64 r3,.int .i64 r4,.string r5,v5_])∧Kd.R k54 54 w' w.heap.size (fun _=>True) v5_ r6∧IsS77 w0 w' g s0_0 r7 r8∧Below w0.heap.size w0 w' ∧ KeepBut w w' g none:=by
 have hu31:=Try.underlying31
 have hu80:=Try.underlying80
 have hu54:=Try.underlying54
 have HI0:=qM_ hI
 have HK:=qM_ (KeepBut.refl w g none)
 have HL:=qM_ hB.size
 clear hI
 have HW0:=qM_ hB.size
 have HB:=qM_ hB
 clear hB
 have H:((z46_.f s0_0 s0_1 s0_2).bind fun bt102=>((z47_.f s0_0 bt102.2.1 bt102.2.2 6).bind fun bt105=>((z47_.f s0_0 bt105.2.1 bt105.2.2 3).bind fun bt108=>((z47_.f s0_0 bt108.2.1 bt108.2.2 32).bind fun bt111=>((some (([]:List (S54)):List (S54))).bind fun y114=>((z47_.f s0_0 bt111.2.1 bt111.2.2 6).bind fun bt118=>(if bt118.1=0 then((z46_.f s0_0 bt118.2.1 bt118.2.2).bind fun bt121=>(some (1,0,0,0,bt121.1,(([]:List (S54))),bt121.2.1,bt121.2.2)))else(if bt118.1=1 then(z27_.j0 k bt118.1 (bt118.1 == 1) s0_0 bt118.2.1 bt118.2.2 3 (wrap64 (1+bt105.1)) (wrap64 (1+bt108.1)) bt111.1 bt102.1 y114)else(z27_.j0 k bt118.1 (bt118.1 == 2) s0_0 bt118.2.1 bt118.2.2 3 (wrap64 (1+bt105.1)) (wrap64 (1+bt108.1)) bt111.1 bt102.1 y114)))))))))=some (r1,r2,r3,r4,r5,r6,r7,r8):=h
 clear h
 replace H:=Option.bind_eq_some_iff.mp H
 obtain⟨⟨t102,t103,t104⟩,A20,H⟩:=H
 dsimp only at H
 have A2:=qM_ A20
 clear A20
 replace H:=Option.bind_eq_some_iff.mp H
 obtain⟨⟨t105,t106,t107⟩,A30,H⟩:=H
 dsimp only at H
 have A3:=qM_ A30
 clear A30
 replace H:=Option.bind_eq_some_iff.mp H
 obtain⟨⟨t108,t109,t110⟩,A40,H⟩:=H
 dsimp only at H
 have A4:=qM_ A40
 clear A40
 replace H:=Option.bind_eq_some_iff.mp H
 obtain⟨⟨t111,t112,t113⟩,A50,H⟩:=H
 dsimp only at H
 have A5:=qM_ A50
 clear A50
 obtain⟨y114,hy114⟩:∃ y_:List (S54),y_=(([]:List (S54))):=⟨_,rfl⟩
 replace H:((z47_.f s0_0 t112 t113 6).bind fun bt118=>(if bt118.1=0 then((z46_.f s0_0 bt118.2.1 bt118.2.2).bind fun bt121=>(some (1,0,0,0,bt121.1,(([]:List (S54))),bt121.2.1,bt121.2.2)))else(if bt118.1=1 then(z27_.j0 k bt118.1 (bt118.1 == 1) s0_0 bt118.2.1 bt118.2.2 3 (wrap64 (1+t105)) (wrap64 (1+t108)) t111 t102 y114)else(z27_.j0 k bt118.1 (bt118.1 == 2) s0_0 bt118.2.1 bt118.2.2 3 (wrap64 (1+t105)) (wrap64 (1+t108)) t111 t102 y114))))=some (r1,r2,r3,r4,r5,r6,r7,r8):=qh_ hy114 H
 have Ny114:=qM_ hy114
 clear hy114
 replace H:=Option.bind_eq_some_iff.mp H
 obtain⟨⟨t118,t119,t120⟩,A60,H⟩:=H
 dsimp only at H
 have A6:=qM_ A60
 clear A60
 by_cases c7:t118=0
 ·rw[if_pos c7]at H
  have c7b0:(t118 == 0)=true:=beq_iff_eq.mpr c7;have c7b1:(t118 != 0)=false:=bne_eq_false_iff_eq.mpr c7;clear c7;replace H:=Option.bind_eq_some_iff.mp H;obtain⟨⟨t121,t122,t123⟩,A80,H⟩:=H;dsimp only at H;have A8:=qM_ A80;clear A80
  obtain⟨y124,hy124⟩:∃ y_:List (S54),y_=(([]:List (S54))):=⟨_,rfl⟩
  replace H:(some (1,0,0,0,t121,y124,t122,t123))=some (r1,r2,r3,r4,r5,r6,r7,r8):=qh_ hy124 H;have Ny124:=qM_ hy124;clear hy124;simp only[Option.some.injEq,Prod.mk.injEq]at H;obtain⟨rfl,rfl,rfl,rfl,rfl,rfl,rfl,rfl⟩:=H;go_enter Try.func27,Try.ntmps27
  go_wp2_with (first|((with_reducible refine gate_dst (N:=2) rfl ?_);refine box_event ?hg (N:=2) ?hd (cs:=z27_.b0) (t:=31) ?hr ?_;(case hd=>rfl);(case hg=>rfl);(case hr=>first|(go_simp;done)|(go_simp;rfl));intro gb101 hg w9 hbox hb;replace HB:=qM_ (below_step qBHB hb);have BK101:=qM_ (hbox);have GW101:=qM_ ((by rw[hg];exact(keep_size (w:=w) (g:=g) (row:=none) qKHK):w.heap.size≤gb101));have GE101:=qM_ ((Nat.le_trans HW0.out (by rw[hg];exact(keep_size (w:=w) (g:=g) (row:=none) qKHK):w.heap.size≤gb101):w0.heap.size≤gb101));replace HK:=qM_ (KeepBut.trans qKHK (KeepBut.of_below hb g none) (.inl rfl));have NB0_101:=qM_ ((by rw[hg];exact Nat.ne_of_lt (IsS77.lt (show IsS77 w0 _ g s0_0 s0_1 s0_2 from qI77HI0)):g≠gb101));have NB101_0:=qM_ ((by rw[hg];exact Nat.ne_of_gt (IsS77.lt (show IsS77 w0 _ g s0_0 s0_1 s0_2 from qI77HI0)):gb101≠g));replace HI0:=qM_ (IsS77.below qI77HI0 hb);clear hb hbox hg)|((with_reducible refine gate_callee (f:=46) rfl ?_);refine goesL_ (some 7) rfl rfl Try.func46 qK rfl #[.pointer (some ⟨g,0,none⟩)] rfl qll_ ?_;(with_reducible refine(z46_.calls g s0_0 s0_1 s0_2 t102 t103 t104 w0 _ ?side1 ?side2 A2.out).mono ?_);(case side1=>exact qI77HI0);(case side2=>exact qBHB);rintro e w10 ⟨rfl,hi,hb,hk⟩;refine⟨_,rfl,?_⟩;replace BK101:=qM_ (KeepBut.blk hk (qk_ BK101) NB101_0.out (by simp));replace HK:=qM_ (KeepBut.trans qKHK hk (.inl rfl));replace HB:=qM_ (hb);replace HI0:=qM_ (hi);(try clear hb);(try clear hb2);(try clear hk);(try clear hi))|((with_reducible refine gate_callee (f:=47) rfl ?_);refine goesL_ (some 9) rfl rfl Try.func47 qK rfl #[.pointer (some ⟨g,0,none⟩),.int .i64 6] rfl qll_ ?_;(with_reducible refine(z47_.calls g s0_0 t103 t104 6 t105 t106 t107 w0 _ ?side1 ?side2 A3.out).mono ?_);(case side1=>exact qI77HI0);(case side2=>exact qBHB);rintro e w11 ⟨rfl,hi,hb,hk⟩;refine⟨_,rfl,?_⟩;replace BK101:=qM_ (KeepBut.blk hk (qk_ BK101) NB101_0.out (by simp));replace HK:=qM_ (KeepBut.trans qKHK hk (.inl rfl));replace HB:=qM_ (hb);replace HI0:=qM_ (hi);(try clear hb);(try clear hb2);(try clear hk);(try clear hi))|((with_reducible refine gate_callee (f:=47) rfl ?_);refine goesL_ (some 12) rfl rfl Try.func47 qK rfl #[.pointer (some ⟨g,0,none⟩),.int .i64 3] rfl qll_ ?_;(with_reducible refine(z47_.calls g s0_0 t106 t107 3 t108 t109 t110 w0 _ ?side1 ?side2 A4.out).mono ?_);(case side1=>exact qI77HI0);(case side2=>exact qBHB);rintro e w12 ⟨rfl,hi,hb,hk⟩;refine⟨_,rfl,?_⟩;replace BK101:=qM_ (KeepBut.blk hk (qk_ BK101) NB101_0.out (by simp));replace HK:=qM_ (KeepBut.trans qKHK hk (.inl rfl));replace HB:=qM_ (hb);replace HI0:=qM_ (hi);(try clear hb);(try clear hb2);(try clear hk);(try clear hi))|((with_reducible refine gate_callee (f:=47) rfl ?_);refine goesL_ (some 15) rfl rfl Try.func47 qK rfl #[.pointer (some ⟨g,0,none⟩),.int .i64 32] rfl qll_ ?_;(with_reducible refine(z47_.calls g s0_0 t109 t110 32 t111 t112 t113 w0 _ ?side1 ?side2 A5.out).mono ?_);(case side1=>exact qI77HI0);(case side2=>exact qBHB);rintro e w13 ⟨rfl,hi,hb,hk⟩;refine⟨_,rfl,?_⟩;replace BK101:=qM_ (KeepBut.blk hk (qk_ BK101) NB101_0.out (by simp));replace HK:=qM_ (KeepBut.trans qKHK hk (.inl rfl));replace HB:=qM_ (hb);replace HI0:=qM_ (hi);(try clear hb);(try clear hb2);(try clear hk);(try clear hi))|((with_reducible refine gate_dst (N:=16) rfl ?_);refine Kd.R_lit k54 _ 54 ?hg (N:=16) ?hd (xs:=([]:List (S54))) (inner:=[]) (ok:=fun _=>True) (okp:=fun _=>True) ?hr ?hp (fun _ hk=>hk) trivial (Below.refl _ _) (Nat.le_refl _) (by simp) ?_;(case hd=>rfl);(case hg=>rfl);(case hr=>first|(go_simp;done)|(go_simp;rfl));(case hp=>exact(Reps.none _ _));intro v115 w14 ho15 hb hg_ hnew_;clear hg_ hnew_;(first|rw[← Ny114.out]at ho15|(simp only[Int.reduceToNat]at ho15;rw[← Ny114.out]at ho15));have HO116:=qM_ (Kd.R_lower ho15 (keep_size (w:=w) (g:=g) (row:=none) qKHK));replace BK101:=qM_ (blk_below (qk_ BK101) hb);replace HK:=qM_ (KeepBut.trans qKHK (KeepBut.of_below hb g none) (.inl rfl));replace HB:=qM_ (below_step qBHB hb);replace HI0:=qM_ (IsS77.below qI77HI0 hb);clear hb ho15;obtain⟨Ao16,co16,eo16⟩:=Kd.R_slice HO116.out;subst eo16)|((with_reducible refine gate_dst (N:=3) rfl ?_);refine box_event ?hg (N:=3) ?hd (cs:=z27_.b0) (t:=31) ?hr ?_;(case hd=>rfl);(case hg=>rfl);(case hr=>first|(go_simp;done)|(go_simp;rfl));intro gb117 hg w17 hbox hb;replace HO116:=qM_ (Kd.R_below (qr_ HO116) hb);replace HB:=qM_ (below_step qBHB hb);have BK117:=qM_ (hbox);have GW117:=qM_ ((by rw[hg];exact(keep_size (w:=w) (g:=g) (row:=none) qKHK):w.heap.size≤gb117));have GE117:=qM_ ((Nat.le_trans HW0.out (by rw[hg];exact(keep_size (w:=w) (g:=g) (row:=none) qKHK):w.heap.size≤gb117):w0.heap.size≤gb117));replace HK:=qM_ (KeepBut.trans qKHK (KeepBut.of_below hb g none) (.inl rfl));have NB101_117:=qM_ ((by rw[hg];exact Nat.ne_of_lt (blk_lt (qk_ BK101)):gb101≠gb117));have NB117_101:=qM_ ((by rw[hg];exact Nat.ne_of_gt (blk_lt (qk_ BK101)):gb117≠gb101));replace BK101:=qM_ (blk_below (qk_ BK101) hb);have NB0_117:=qM_ ((by rw[hg];exact Nat.ne_of_lt (IsS77.lt (show IsS77 w0 _ g s0_0 t112 t113 from qI77HI0)):g≠gb117));have NB117_0:=qM_ ((by rw[hg];exact Nat.ne_of_gt (IsS77.lt (show IsS77 w0 _ g s0_0 t112 t113 from qI77HI0)):gb117≠g));replace HI0:=qM_ (IsS77.below qI77HI0 hb);clear hb hbox hg;have hnb18:=NB117_101.out;have hnc18:=NB101_117.out;have hnb19:=NB117_0.out;have hnc19:=NB0_117.out;obtain⟨hcz20_0,hcz20_1,hcz20_2,hcz20_3,hcz20_4,hcz20_5,hfz20_0⟩:=qc6_ BK117)|((with_reducible refine gate_callee (f:=47) rfl ?_);refine goesL_ (some 19) rfl rfl Try.func47 qK rfl #[.pointer (some ⟨g,0,none⟩),.int .i64 6] rfl qll_ ?_;(with_reducible refine(z47_.calls g s0_0 t112 t113 6 t118 t119 t120 w0 _ ?side1 ?side2 A6.out).mono ?_);(case side1=>exact qI77HI0);(case side2=>exact qBHB);rintro e w21 ⟨rfl,hi,hb,hk⟩;refine⟨_,rfl,?_⟩;replace BK101:=qM_ (KeepBut.blk hk (g' := gb101) (o:= .cells z27_.b0 31 (0,0)) (qp_ BK101) NB101_0.out (by simp));replace HO116:=qM_ (Kd.R_mono (Kd.R_keep (IsS77.apart (show IsS77 w0 _ g s0_0 t112 t113 from qI77HI0) (by(with_reducible repeat(first|apply Kd.R_alloc|apply Kd.R_drewN|apply Kd.R_drew));exact(Kd.R_mono (qf6_ HO116 BK117) (fun _ h_=>h_.1))) (by decide)) hk (fun _ h=>h.2)) (fun _ h=>h.1));replace BK117:=qM_ (KeepBut.blk hk (g' := gb117) (o:= .cells #[.int .i64 3,.int .i64 (wrap64 (1+t105)),.int .i64 (wrap64 (1+t108)),.int .i64 t111,.string t102,.slice Ao16 y114.length co16] 31 (0,0)) (qp_ BK117) NB117_0.out (by simp));replace HK:=qM_ (KeepBut.trans qKHK hk (.inl rfl));replace HB:=qM_ (hb);replace HI0:=qM_ (hi);(try clear hb);(try clear hb2);(try clear hk);(try clear hi))|((with_reducible refine gate_callee (f:=46) rfl ?_);refine goesL_ (some 23) rfl rfl Try.func46 qK rfl #[.pointer (some ⟨g,0,none⟩)] rfl qll_ ?_;(with_reducible refine(z46_.calls g s0_0 t119 t120 t121 t122 t123 w0 _ ?side1 ?side2 A8.out).mono ?_);(case side1=>exact qI77HI0);(case side2=>exact qBHB);rintro e w22 ⟨rfl,hi,hb,hk⟩;refine⟨_,rfl,?_⟩;replace BK101:=qM_ (KeepBut.blk hk (qk_ BK101) NB101_0.out (by simp));replace HO116:=qM_ (Kd.R_mono (Kd.R_keep (IsS77.apart (show IsS77 w0 _ g s0_0 t119 t120 from qI77HI0) (qr_ HO116) (by decide)) hk (fun _ h=>h.2)) (fun _ h=>h.1));replace BK117:=qM_ (KeepBut.blk hk (qk_ BK117) NB117_0.out (by simp));replace HK:=qM_ (KeepBut.trans qKHK hk (.inl rfl));replace HB:=qM_ (hb);replace HI0:=qM_ (hi);(try clear hb);(try clear hb2);(try clear hk);(try clear hi))|((with_reducible refine gate_dst (N:=24) rfl ?_);refine Kd.R_lit k54 _ 54 ?hg (N:=24) ?hd (xs:=([]:List (S54))) (inner:=[]) (ok:=fun _=>True) (okp:=fun _=>True) ?hr ?hp (fun _ hk=>hk) trivial (Below.refl _ _) (Nat.le_refl _) (by simp) ?_;(case hd=>rfl);(case hg=>rfl);(case hr=>first|(go_simp;done)|(go_simp;rfl));(case hp=>exact(Reps.none _ _));intro v125 w23 ho24 hb hg_ hnew_;clear hg_ hnew_;(first|rw[← Ny124.out]at ho24|(simp only[Int.reduceToNat]at ho24;rw[← Ny124.out]at ho24));have HO126:=qM_ (Kd.R_lower (Kd.R_new' ho24 (Kd.R_lt (qr_ HO116))) (keep_size (w:=w) (g:=g) (row:=none) qKHK));replace HO116:=qM_ (Kd.R_elder' (qr_ HO116) (Kd.R_base ho24) hb);replace BK101:=qM_ (blk_below (qk_ BK101) hb);replace BK117:=qM_ (blk_below (qk_ BK117) hb);replace HK:=qM_ (KeepBut.trans qKHK (KeepBut.of_below hb g none) (.inl rfl));replace HB:=qM_ (below_step qBHB hb);replace HI0:=qM_ (IsS77.below qI77HI0 hb);clear hb ho24;obtain⟨Ao25,co25,eo25⟩:=Kd.R_slice HO126.out;subst eo25;obtain⟨hcz26_0,hcz26_1,hcz26_2,hcz26_3,hcz26_4,hcz26_5,hfz26_0⟩:=qc6_ BK117;have hnb27:=NB101_0.out;have hnc27:=NB0_101.out;obtain⟨hcz28_0,hcz28_1,hcz28_2,hcz28_3,hcz28_4,hcz28_5,hfz28_0⟩:=qc6_ BK101))
  refine bodyPost_ret (results_cell_row rfl _ _ gb101 31 #[.int .i64 1,.int .i64 0,.int .i64 0,.int .i64 0,.string t121,.slice Ao25 y124.length co25] (0,0) _ rfl (by(with_reducible repeat(first|refine blk_drewN ?_ _|refine blk_drew ?_|refine blk_alloc ?_ _));refine blk_put (cs:=#[.int .i64 1,.int .i64 0,.int .i64 0,.int .i64 0,.string t121,.slice none 0 0]) ?_ 5 _ rfl;(with_reducible repeat(first|refine blk_drewN ?_ _|refine blk_drew ?_|refine blk_alloc ?_ _));refine blk_put (cs:=#[.int .i64 1,.int .i64 0,.int .i64 0,.int .i64 0,.string (⟨#[]⟩:BA_),.slice none 0 0]) ?_ 4 _ rfl;(with_reducible repeat(first|refine blk_drewN ?_ _|refine blk_drew ?_|refine blk_alloc ?_ _));refine blk_put (cs:=#[.int .i64 1,.int .i64 0,.int .i64 0,.int .i64 0,.string (⟨#[]⟩:BA_),.slice none 0 0]) ?_ 3 _ rfl;(with_reducible repeat(first|refine blk_drewN ?_ _|refine blk_drew ?_|refine blk_alloc ?_ _));refine blk_put (cs:=#[.int .i64 1,.int .i64 0,.int .i64 0,.int .i64 0,.string (⟨#[]⟩:BA_),.slice none 0 0]) ?_ 2 _ rfl;(with_reducible repeat(first|refine blk_drewN ?_ _|refine blk_drew ?_|refine blk_alloc ?_ _));refine blk_put (cs:=#[.int .i64 1,.int .i64 0,.int .i64 0,.int .i64 0,.string (⟨#[]⟩:BA_),.slice none 0 0]) ?_ 1 _ rfl;(with_reducible repeat(first|refine blk_drewN ?_ _|refine blk_drew ?_|refine blk_alloc ?_ _));refine blk_put (cs:=z27_.b0) ?_ 0 _ rfl;(with_reducible repeat(first|refine blk_drewN ?_ _|refine blk_drew ?_|refine blk_alloc ?_ _));refine blk_far ?_ NB101_117.out _;(with_reducible repeat(first|refine blk_drewN ?_ _|refine blk_drew ?_|refine blk_alloc ?_ _));refine blk_far ?_ NB101_117.out _;(with_reducible repeat(first|refine blk_drewN ?_ _|refine blk_drew ?_|refine blk_alloc ?_ _));refine blk_far ?_ NB101_117.out _;(with_reducible repeat(first|refine blk_drewN ?_ _|refine blk_drew ?_|refine blk_alloc ?_ _));refine blk_far ?_ NB101_117.out _;(with_reducible repeat(first|refine blk_drewN ?_ _|refine blk_drew ?_|refine blk_alloc ?_ _));refine blk_far ?_ NB101_117.out _;(with_reducible repeat(first|refine blk_drewN ?_ _|refine blk_drew ?_|refine blk_alloc ?_ _));refine blk_far ?_ NB101_117.out _;(with_reducible repeat(first|refine blk_drewN ?_ _|refine blk_drew ?_|refine blk_alloc ?_ _));exact BK101.out) Try.underlying31 rfl qK) rfl ?_;exact⟨_,qee_,by(with_reducible repeat(first|apply Kd.R_alloc|apply Kd.R_drewN|apply Kd.R_drew));exact Kd.R_mono (Kd.R_far (p:=⟨gb101,5,none⟩) (Kd.R_far (p:=⟨gb101,4,none⟩) (Kd.R_far (p:=⟨gb101,3,none⟩) (Kd.R_far (p:=⟨gb101,2,none⟩) (Kd.R_far (p:=⟨gb101,1,none⟩) (Kd.R_far (p:=⟨gb101,0,none⟩) (Kd.R_far (p:=⟨gb117,5,none⟩) (Kd.R_far (p:=⟨gb117,4,none⟩) (Kd.R_far (p:=⟨gb117,3,none⟩) (Kd.R_far (p:=⟨gb117,2,none⟩) (Kd.R_far (p:=⟨gb117,1,none⟩) (Kd.R_far (p:=⟨gb117,0,none⟩) (Kd.R_types (Kd.R_types HO126.out BK117.out (by decide)) BK101.out (by decide)) (fun _ hk=>hk.1.2) (.int .i64 1)) (fun _ hk=>hk.1.2) (.int .i64 0)) (fun _ hk=>hk.1.2) (.int .i64 0)) (fun _ hk=>hk.1.2) (.int .i64 0)) (fun _ hk=>hk.1.2) (.string t121)) (fun _ hk=>hk.1.2) (.slice Ao25 y124.length co25)) (fun _ hk=>hk.2) (.int .i64 1)) (fun _ hk=>hk.2) (.int .i64 0)) (fun _ hk=>hk.2) (.int .i64 0)) (fun _ hk=>hk.2) (.int .i64 0)) (fun _ hk=>hk.2) (.string t121)) (fun _ hk=>hk.2) (.slice Ao25 y124.length co25)) (fun _ hk=>trivial),qI77HI0,qBHB,qKHK⟩
 ·rw[if_neg c7]at H
  have c7b0:(t118 == 0)=false:=beq_eq_false_iff_ne.mpr c7;have c7b1:(t118 != 0)=true:=bne_iff_ne.mpr c7;have HC29:=qM_ H;clear H;go_enter Try.func27,Try.ntmps27
  go_upto_if 26 with (first|((with_reducible refine gate_dst (N:=2) rfl ?_);refine box_event ?hg (N:=2) ?hd (cs:=z27_.b0) (t:=31) ?hr ?_;(case hd=>rfl);(case hg=>rfl);(case hr=>first|(go_simp;done)|(go_simp;rfl));intro gb101 hg w30 hbox hb;replace HB:=qM_ (below_step qBHB hb);have BK101:=qM_ (hbox);have GW101:=qM_ ((by rw[hg];exact(keep_size (w:=w) (g:=g) (row:=none) qKHK):w.heap.size≤gb101));have GE101:=qM_ ((Nat.le_trans HW0.out (by rw[hg];exact(keep_size (w:=w) (g:=g) (row:=none) qKHK):w.heap.size≤gb101):w0.heap.size≤gb101));replace HK:=qM_ (KeepBut.trans qKHK (KeepBut.of_below hb g none) (.inl rfl));have NB0_101:=qM_ ((by rw[hg];exact Nat.ne_of_lt (IsS77.lt (show IsS77 w0 _ g s0_0 s0_1 s0_2 from qI77HI0)):g≠gb101));have NB101_0:=qM_ ((by rw[hg];exact Nat.ne_of_gt (IsS77.lt (show IsS77 w0 _ g s0_0 s0_1 s0_2 from qI77HI0)):gb101≠g));replace HI0:=qM_ (IsS77.below qI77HI0 hb);clear hb hbox hg)|((with_reducible refine gate_callee (f:=46) rfl ?_);refine goesL_ (some 7) rfl rfl Try.func46 qK rfl #[.pointer (some ⟨g,0,none⟩)] rfl qll_ ?_;(with_reducible refine(z46_.calls g s0_0 s0_1 s0_2 t102 t103 t104 w0 _ ?side1 ?side2 A2.out).mono ?_);(case side1=>exact qI77HI0);(case side2=>exact qBHB);rintro e w31 ⟨rfl,hi,hb,hk⟩;refine⟨_,rfl,?_⟩;replace BK101:=qM_ (KeepBut.blk hk (qk_ BK101) NB101_0.out (by simp));replace HK:=qM_ (KeepBut.trans qKHK hk (.inl rfl));replace HB:=qM_ (hb);replace HI0:=qM_ (hi);(try clear hb);(try clear hb2);(try clear hk);(try clear hi))|((with_reducible refine gate_callee (f:=47) rfl ?_);refine goesL_ (some 9) rfl rfl Try.func47 qK rfl #[.pointer (some ⟨g,0,none⟩),.int .i64 6] rfl qll_ ?_;(with_reducible refine(z47_.calls g s0_0 t103 t104 6 t105 t106 t107 w0 _ ?side1 ?side2 A3.out).mono ?_);(case side1=>exact qI77HI0);(case side2=>exact qBHB);rintro e w32 ⟨rfl,hi,hb,hk⟩;refine⟨_,rfl,?_⟩;replace BK101:=qM_ (KeepBut.blk hk (qk_ BK101) NB101_0.out (by simp));replace HK:=qM_ (KeepBut.trans qKHK hk (.inl rfl));replace HB:=qM_ (hb);replace HI0:=qM_ (hi);(try clear hb);(try clear hb2);(try clear hk);(try clear hi))|((with_reducible refine gate_callee (f:=47) rfl ?_);refine goesL_ (some 12) rfl rfl Try.func47 qK rfl #[.pointer (some ⟨g,0,none⟩),.int .i64 3] rfl qll_ ?_;(with_reducible refine(z47_.calls g s0_0 t106 t107 3 t108 t109 t110 w0 _ ?side1 ?side2 A4.out).mono ?_);(case side1=>exact qI77HI0);(case side2=>exact qBHB);rintro e w33 ⟨rfl,hi,hb,hk⟩;refine⟨_,rfl,?_⟩;replace BK101:=qM_ (KeepBut.blk hk (qk_ BK101) NB101_0.out (by simp));replace HK:=qM_ (KeepBut.trans qKHK hk (.inl rfl));replace HB:=qM_ (hb);replace HI0:=qM_ (hi);(try clear hb);(try clear hb2);(try clear hk);(try clear hi))|((with_reducible refine gate_callee (f:=47) rfl ?_);refine goesL_ (some 15) rfl rfl Try.func47 qK rfl #[.pointer (some ⟨g,0,none⟩),.int .i64 32] rfl qll_ ?_;(with_reducible refine(z47_.calls g s0_0 t109 t110 32 t111 t112 t113 w0 _ ?side1 ?side2 A5.out).mono ?_);(case side1=>exact qI77HI0);(case side2=>exact qBHB);rintro e w34 ⟨rfl,hi,hb,hk⟩;refine⟨_,rfl,?_⟩;replace BK101:=qM_ (KeepBut.blk hk (qk_ BK101) NB101_0.out (by simp));replace HK:=qM_ (KeepBut.trans qKHK hk (.inl rfl));replace HB:=qM_ (hb);replace HI0:=qM_ (hi);(try clear hb);(try clear hb2);(try clear hk);(try clear hi))|((with_reducible refine gate_dst (N:=16) rfl ?_);refine Kd.R_lit k54 _ 54 ?hg (N:=16) ?hd (xs:=([]:List (S54))) (inner:=[]) (ok:=fun _=>True) (okp:=fun _=>True) ?hr ?hp (fun _ hk=>hk) trivial (Below.refl _ _) (Nat.le_refl _) (by simp) ?_;(case hd=>rfl);(case hg=>rfl);(case hr=>first|(go_simp;done)|(go_simp;rfl));(case hp=>exact(Reps.none _ _));intro v115 w35 ho36 hb hg_ hnew_;clear hg_ hnew_;(first|rw[← Ny114.out]at ho36|(simp only[Int.reduceToNat]at ho36;rw[← Ny114.out]at ho36));have HO116:=qM_ (Kd.R_lower ho36 (keep_size (w:=w) (g:=g) (row:=none) qKHK));replace BK101:=qM_ (blk_below (qk_ BK101) hb);replace HK:=qM_ (KeepBut.trans qKHK (KeepBut.of_below hb g none) (.inl rfl));replace HB:=qM_ (below_step qBHB hb);replace HI0:=qM_ (IsS77.below qI77HI0 hb);clear hb ho36;obtain⟨Ao37,co37,eo37⟩:=Kd.R_slice HO116.out;subst eo37)|((with_reducible refine gate_dst (N:=3) rfl ?_);refine box_event ?hg (N:=3) ?hd (cs:=z27_.b0) (t:=31) ?hr ?_;(case hd=>rfl);(case hg=>rfl);(case hr=>first|(go_simp;done)|(go_simp;rfl));intro gb117 hg w38 hbox hb;replace HO116:=qM_ (Kd.R_below (qr_ HO116) hb);replace HB:=qM_ (below_step qBHB hb);have BK117:=qM_ (hbox);have GW117:=qM_ ((by rw[hg];exact(keep_size (w:=w) (g:=g) (row:=none) qKHK):w.heap.size≤gb117));have GE117:=qM_ ((Nat.le_trans HW0.out (by rw[hg];exact(keep_size (w:=w) (g:=g) (row:=none) qKHK):w.heap.size≤gb117):w0.heap.size≤gb117));replace HK:=qM_ (KeepBut.trans qKHK (KeepBut.of_below hb g none) (.inl rfl));have NB101_117:=qM_ ((by rw[hg];exact Nat.ne_of_lt (blk_lt (qk_ BK101)):gb101≠gb117));have NB117_101:=qM_ ((by rw[hg];exact Nat.ne_of_gt (blk_lt (qk_ BK101)):gb117≠gb101));replace BK101:=qM_ (blk_below (qk_ BK101) hb);have NB0_117:=qM_ ((by rw[hg];exact Nat.ne_of_lt (IsS77.lt (show IsS77 w0 _ g s0_0 t112 t113 from qI77HI0)):g≠gb117));have NB117_0:=qM_ ((by rw[hg];exact Nat.ne_of_gt (IsS77.lt (show IsS77 w0 _ g s0_0 t112 t113 from qI77HI0)):gb117≠g));replace HI0:=qM_ (IsS77.below qI77HI0 hb);clear hb hbox hg;have hnb39:=NB117_101.out;have hnc39:=NB101_117.out;have hnb40:=NB117_0.out;have hnc40:=NB0_117.out;obtain⟨hcz41_0,hcz41_1,hcz41_2,hcz41_3,hcz41_4,hcz41_5,hfz41_0⟩:=qc6_ BK117)|((with_reducible refine gate_callee (f:=47) rfl ?_);refine goesL_ (some 19) rfl rfl Try.func47 qK rfl #[.pointer (some ⟨g,0,none⟩),.int .i64 6] rfl qll_ ?_;(with_reducible refine(z47_.calls g s0_0 t112 t113 6 t118 t119 t120 w0 _ ?side1 ?side2 A6.out).mono ?_);(case side1=>exact qI77HI0);(case side2=>exact qBHB);rintro e w42 ⟨rfl,hi,hb,hk⟩;refine⟨_,rfl,?_⟩;replace BK101:=qM_ (KeepBut.blk hk (g' := gb101) (o:= .cells z27_.b0 31 (0,0)) (qp_ BK101) NB101_0.out (by simp));replace HO116:=qM_ (Kd.R_mono (Kd.R_keep (IsS77.apart (show IsS77 w0 _ g s0_0 t112 t113 from qI77HI0) (by(with_reducible repeat(first|apply Kd.R_alloc|apply Kd.R_drewN|apply Kd.R_drew));exact(Kd.R_mono (qf6_ HO116 BK117) (fun _ h_=>h_.1))) (by decide)) hk (fun _ h=>h.2)) (fun _ h=>h.1));replace BK117:=qM_ (KeepBut.blk hk (g' := gb117) (o:= .cells #[.int .i64 3,.int .i64 (wrap64 (1+t105)),.int .i64 (wrap64 (1+t108)),.int .i64 t111,.string t102,.slice Ao37 y114.length co37] 31 (0,0)) (qp_ BK117) NB117_0.out (by simp));replace HK:=qM_ (KeepBut.trans qKHK hk (.inl rfl));replace HB:=qM_ (hb);replace HI0:=qM_ (hi);(try clear hb);(try clear hb2);(try clear hk);(try clear hi)))
  (try simp only[Act.put,List.setIfInBounds_toArray,List.set_cons_zero,List.set_cons_succ])
  go_cut [26] (fun v26 wc=>∃(kq:Nat) (x26_28:Bool),v26= .bool x26_28∧Aside0 (z27_.j0 kq t118 x26_28 s0_0 t119 t120 3 (wrap64 (1+t105)) (wrap64 (1+t108)) t111 t102 y114=some (r1,r2,r3,r4,r5,r6,r7,r8))∧Aside0 (kq≤k)∧Aside0 (Kd.R k54 54 wc w.heap.size (fun _=>True) (.slice Ao37 y114.length co37) y114)∧Aside0 (wc.heap[gb101]? = some (.cells #[.int .i64 0,.int .i64 0,.int .i64 0,.int .i64 0,.string (⟨#[]⟩:BA_),(.slice none 0 0)] 31 (0,0)))∧Aside0 (wc.heap[gb117]? = some (.cells #[.int .i64 3,.int .i64 (wrap64 (1+t105)),.int .i64 (wrap64 (1+t108)),.int .i64 t111,.string t102,(.slice Ao37 y114.length co37)] 31 (0,0)))∧Aside0 (IsS77 w0 wc g s0_0 t119 t120)∧Aside0 (KeepBut w wc g none)∧Aside0 (Below w0.heap.size w0 wc))
  case first =>
   have H:=HC29.out;clear HC29;by_cases c43:t118=1
   ·rw[if_pos c43]at H
    have c43b0:(t118 == 1)=true:=beq_iff_eq.mpr c43;have c43b1:(t118 != 1)=false:=bne_eq_false_iff_eq.mpr c43;clear c43
    (first|rw[c43b0]|(simp only[i64_w,i32_w];rw[c43b0])|skip)
    have H' := qM_ H;clear H
    go_wp2
    go_meet
    case rel=>exact⟨_,((t118 == 1)),qff_,H', ⟨by first|omega|exact Nat.le_refl _⟩,⟨qr_ HO116⟩,⟨qk_ BK101⟩,⟨qk_ BK117⟩,⟨qI77HI0⟩,⟨qKHK⟩,⟨qBHB⟩⟩
   ·rw[if_neg c43]at H
    have c43b0:(t118 == 1)=false:=beq_eq_false_iff_ne.mpr c43;have c43b1:(t118 != 1)=true:=bne_iff_ne.mpr c43
    (first|rw[c43b0]|(simp only[i64_w,i32_w];rw[c43b0])|skip)
    have H' := qM_ H;clear H
    go_wp2
    go_meet
    case rel=>exact⟨_,((t118 == 2)),qff_,H', ⟨by first|omega|exact Nat.le_refl _⟩,⟨qr_ HO116⟩,⟨qk_ BK101⟩,⟨qk_ BK117⟩,⟨qI77HI0⟩,⟨qKHK⟩,⟨qBHB⟩⟩
  case rest =>
   clear HC29
   try clear c1
   try clear c2
   try clear p2
   try clear c3
   try clear c4
   try clear p6
   try clear c7
   try clear c7b0
   try clear c7b1
   try clear c18
   try clear c19
   try clear c27
   try clear c39
   try clear c40
   try clear c43
   try clear c43b0
   try clear c43b1
   try clear hcz20_0 hcz20_1 hcz20_2 hcz20_3 hcz20_4 hcz20_5
   try clear hcz26_0 hcz26_1 hcz26_2 hcz26_3 hcz26_4 hcz26_5
   try clear hcz28_0 hcz28_1 hcz28_2 hcz28_3 hcz28_4 hcz28_5
   try clear hcz41_0 hcz41_1 hcz41_2 hcz41_3 hcz41_4 hcz41_5
   try clear hfz20_0
   try clear hfz26_0
   try clear hfz28_0
   try clear hfz41_0
   obtain⟨kq,x26_28,rfl,HA,HJ28,HO_118005,BK101,BK117,HI0,HK,HB⟩:=hcut
   cases kq with
   | zero=>exact absurd HA.out (by simp[z27_.j0])
   | succ kj28 =>
    have H:=HA.out;clear HA;simp only[z27_.j0]at H;by_cases c44:x26_28=true
    ·subst c44
     have H1:((z46_.f s0_0 t119 t120).bind fun bt127=>((z47_.f s0_0 bt127.2.1 bt127.2.2 3).bind fun bt133=>(z27_.l0 kj28 (wrap64 (1+bt133.1)) s0_0 bt133.2.1 bt133.2.2 2 0 0 0 bt127.1 (([]:List (S54))))))=some (r1,r2,r3,r4,r5,r6,r7,r8):=by rw[if_pos rfl]at H;exact H
     clear H;have H:=H1;clear H1;replace H:=Option.bind_eq_some_iff.mp H;obtain⟨⟨t127,t128,t129⟩,A450,H⟩:=H;dsimp only at H;have A45:=qM_ A450;clear A450
     obtain⟨y130,hy130⟩:∃ y_:List (S54),y_=(([]:List (S54))):=⟨_,rfl⟩
     replace H:((z47_.f s0_0 t128 t129 3).bind fun bt133=>(z27_.l0 kj28 (wrap64 (1+bt133.1)) s0_0 bt133.2.1 bt133.2.2 2 0 0 0 t127 y130))=some (r1,r2,r3,r4,r5,r6,r7,r8):=qh_ hy130 H;have Ny130:=qM_ hy130;clear hy130;replace H:=Option.bind_eq_some_iff.mp H;obtain⟨⟨t133,t134,t135⟩,A460,H⟩:=H;dsimp only at H;have A46:=qM_ A460;clear A460;have H' := qM_ H;clear H
     go_wp2_with (first|((with_reducible refine gate_callee (f:=46) rfl ?_);refine goesL_ (some 30) rfl rfl Try.func46 qK rfl #[.pointer (some ⟨g,0,none⟩)] rfl qll_ ?_;(with_reducible refine(z46_.calls g s0_0 t119 t120 t127 t128 t129 w0 _ ?side1 ?side2 A45.out).mono ?_);(case side1=>exact qI77HI0);(case side2=>exact qBHB);rintro e w47 ⟨rfl,hi,hb,hk⟩;refine⟨_,rfl,?_⟩;replace HO_118005:=qM_ (Kd.R_mono (Kd.R_keep (IsS77.apart (show IsS77 w0 _ g s0_0 t119 t120 from qI77HI0) (qr_ HO_118005) (by decide)) hk (fun _ h=>h.2)) (fun _ h=>h.1));replace BK101:=qM_ (KeepBut.blk hk (qk_ BK101) NB101_0.out (by simp));replace BK117:=qM_ (KeepBut.blk hk (qk_ BK117) NB117_0.out (by simp));replace HK:=qM_ (KeepBut.trans qKHK hk (.inl rfl));replace HB:=qM_ (hb);replace HI0:=qM_ (hi);(try clear hb);(try clear hb2);(try clear hk);(try clear hi))|((with_reducible refine gate_dst (N:=31) rfl ?_);refine Kd.R_lit k54 _ 54 ?hg (N:=31) ?hd (xs:=([]:List (S54))) (inner:=[]) (ok:=fun _=>True) (okp:=fun _=>True) ?hr ?hp (fun _ hk=>hk) trivial (Below.refl _ _) (Nat.le_refl _) (by simp) ?_;(case hd=>rfl);(case hg=>rfl);(case hr=>first|(go_simp;done)|(go_simp;rfl));(case hp=>exact(Reps.none _ _));intro v131 w48 ho49 hb hg_ hnew_;clear hg_ hnew_;(first|rw[← Ny130.out]at ho49|(simp only[Int.reduceToNat]at ho49;rw[← Ny130.out]at ho49));have HO132:=qM_ (Kd.R_lower (Kd.R_new' ho49 (Kd.R_lt (qr_ HO_118005))) (keep_size (w:=w) (g:=g) (row:=none) qKHK));replace HO_118005:=qM_ (Kd.R_elder' (qr_ HO_118005) (Kd.R_base ho49) hb);replace BK101:=qM_ (blk_below (qk_ BK101) hb);replace BK117:=qM_ (blk_below (qk_ BK117) hb);replace HK:=qM_ (KeepBut.trans qKHK (KeepBut.of_below hb g none) (.inl rfl));replace HB:=qM_ (below_step qBHB hb);replace HI0:=qM_ (IsS77.below qI77HI0 hb);clear hb ho49;obtain⟨Ao50,co50,eo50⟩:=Kd.R_slice HO132.out;subst eo50;have hnb51:=NB117_101.out;have hnc51:=NB101_117.out;have hnb52:=NB117_0.out;have hnc52:=NB0_117.out;obtain⟨hcz53_0,hcz53_1,hcz53_2,hcz53_3,hcz53_4,hcz53_5,hfz53_0⟩:=qc6_ BK117)|((with_reducible refine gate_callee (f:=47) rfl ?_);refine goesL_ (some 34) rfl rfl Try.func47 qK rfl #[.pointer (some ⟨g,0,none⟩),.int .i64 3] rfl qll_ ?_;(with_reducible refine(z47_.calls g s0_0 t128 t129 3 t133 t134 t135 w0 _ ?side1 ?side2 A46.out).mono ?_);(case side1=>exact qI77HI0);(case side2=>exact qBHB);rintro e w54 ⟨rfl,hi,hb,hk⟩;refine⟨_,rfl,?_⟩;replace HO_118005:=qM_ (Kd.R_mono (Kd.R_keep (IsS77.apart (show IsS77 w0 _ g s0_0 t128 t129 from qI77HI0) (by(with_reducible repeat(first|apply Kd.R_alloc|apply Kd.R_drewN|apply Kd.R_drew));exact(Kd.R_mono (qf6_ HO_118005 BK117) (fun _ h_=>h_.1))) (by decide)) hk (fun _ h=>h.2)) (fun _ h=>h.1));replace BK101:=qM_ (KeepBut.blk hk (g' := gb101) (o:= .cells z27_.b0 31 (0,0)) (qp_ BK101) NB101_0.out (by simp));replace HO132:=qM_ (Kd.R_mono (Kd.R_keep (IsS77.apart (show IsS77 w0 _ g s0_0 t128 t129 from qI77HI0) (by(with_reducible repeat(first|apply Kd.R_alloc|apply Kd.R_drewN|apply Kd.R_drew));exact(Kd.R_mono (qf6_ HO132 BK117) (fun _ h_=>h_.1))) (by decide)) hk (fun _ h=>h.2)) (fun _ h=>h.1));replace BK117:=qM_ (KeepBut.blk hk (g' := gb117) (o:= .cells #[.int .i64 2,.int .i64 0,.int .i64 0,.int .i64 0,.string t127,.slice Ao50 y130.length co50] 31 (0,0)) (qp_ BK117) NB117_0.out (by simp));replace HK:=qM_ (KeepBut.trans qKHK hk (.inl rfl));replace HB:=qM_ (hb);replace HI0:=qM_ (hi);(try clear hb);(try clear hb2);(try clear hk);(try clear hi)))
     go_loopg [4] kj28 (fun kq v4 w' => ∃(x4_2:Int) (x1001_2:Int) (x1002_2:Int) (x118005_2:List (S54)) (u118005:Value),v4= .int .i64 x4_2∧Aside0 (z27_.l0 kq x4_2 s0_0 x1001_2 x1002_2 2 0 0 0 t127 x118005_2=some (r1,r2,r3,r4,r5,r6,r7,r8))∧Aside0 (kq≤kj28)∧Aside0 (Kd.R k54 54 w' w.heap.size (fun _=>True) u118005 x118005_2)∧Aside0 (w'.heap[gb101]? = some (.cells #[.int .i64 0,.int .i64 0,.int .i64 0,.int .i64 0,.string (⟨#[]⟩:BA_),(.slice none 0 0)] 31 (0,0)))∧Aside0 (w'.heap[gb117]? = some (.cells #[.int .i64 2,.int .i64 0,.int .i64 0,.int .i64 0,.string t127,u118005] 31 (0,0)))∧Aside0 (IsS77 w0 w' g s0_0 x1001_2 x1002_2)∧Aside0 (KeepBut w w' g none)∧Aside0 (Below w0.heap.size w0 w'))
     case atStart=>exact⟨(wrap64 (1+t133)),(t134),(t135),(y130),(.slice Ao50 y130.length co50),qff_,H', ⟨Nat.le_refl _⟩,⟨by(with_reducible repeat(first|apply Kd.R_alloc|apply Kd.R_drewN|apply Kd.R_drew));exact Kd.R_mono HO132.out (fun _ hk=>trivial)⟩,⟨qk_ BK101⟩,⟨qk_ BK117⟩,⟨qI77HI0⟩,⟨qKHK⟩,⟨qBHB⟩⟩
     case round =>
      clear H'
      try clear c1
      try clear c2
      try clear p2
      try clear c3
      try clear c4
      try clear c5
      try clear p6
      try clear c7
      try clear c7b0
      try clear c7b1
      try clear c18
      try clear c19
      try clear c27
      try clear c39
      try clear c40
      try clear c43
      try clear c43b0
      try clear c43b1
      try clear c44
      try clear c46
      try clear c47
      try clear c51
      try clear c52
      try clear hcz20_0 hcz20_1 hcz20_2 hcz20_3 hcz20_4 hcz20_5
      try clear hcz26_0 hcz26_1 hcz26_2 hcz26_3 hcz26_4 hcz26_5
      try clear hcz28_0 hcz28_1 hcz28_2 hcz28_3 hcz28_4 hcz28_5
      try clear hcz41_0 hcz41_1 hcz41_2 hcz41_3 hcz41_4 hcz41_5
      try clear hcz53_0 hcz53_1 hcz53_2 hcz53_3 hcz53_4 hcz53_5
      try clear hfz20_0
      try clear hfz26_0
      try clear hfz28_0
      try clear hfz41_0
      try clear hfz53_0
      try clear p2
      try clear p6
      obtain⟨x4_2,x1001_2,x1002_2,x118005_2,u118005,rfl,HA,HK2,HO_118005,BK101,BK117,HI0,HK,HB⟩:=hrel
      cases gk with
      | zero=>exact absurd HA.out (by simp[z27_.l0])
      | succ k2 =>
       have H:=HA.out;clear HA;simp only[z27_.l0]at H;by_cases c55:x4_2 > 0
       ·rw[if_pos c55]at H
        have c55b0:decide (0 < x4_2)=true:=decide_eq_true c55;clear c55;replace H:=Option.bind_eq_some_iff.mp H;obtain⟨⟨t136,t137,t138,t139,t140,t141,t142,t143⟩,A560,H⟩:=H;dsimp only at H;have A56:=qM_ A560;clear A560;replace H:=Option.bind_eq_some_iff.mp H;obtain⟨⟨t145,t146,t147⟩,A570,H⟩:=H;dsimp only at H;have A57:=qM_ A570;clear A570;replace H:=Option.bind_eq_some_iff.mp H;obtain⟨t148,A580,H⟩:=H;have A58:=qM_ A580;clear A580;by_cases c59:t136.size+t148.size≤9223372036854775807
        ·rw[if_pos c59]at H
         have c59b0:=eq_true c59;have c59b1:decide (t136.size+t148.size≤9223372036854775807)=true:=decide_eq_true c59
         try have c59b2:(9223372036854775807 < t136.size+t148.size)=False:=eq_false (Nat.not_lt.2 c59)
         replace H:=Option.bind_eq_some_iff.mp H;obtain⟨t149,A600,H⟩:=H;have A60:=qM_ A600;clear A600;by_cases c61:x118005_2.length < 4398046511104
         ·rw[if_pos c61]at H
          have LMc61:=qM_ c61;clear c61
          obtain⟨y150,hy150⟩:∃ y_:List (S54),y_=(x118005_2 ++ [(⟨t136 ++ t148,t149⟩:S54)]):=⟨_,rfl⟩
          replace H:(z27_.l0 k2 (wrap64 (x4_2 - 1)) s0_0 t146 t147 2 0 0 0 t127 y150)=some (r1,r2,r3,r4,r5,r6,r7,r8):=qh_ hy150 H;have Ny150:=qM_ hy150;clear hy150;have H' := qM_ H;clear H
          try go_wp2_with (first|((with_reducible refine gate_callee (f:=48) rfl ?_);refine goesL_ (some 41) rfl rfl Try.func48 qK rfl #[.pointer (some ⟨g,0,none⟩)] rfl qll_ ?_;(with_reducible refine(z48_.calls g s0_0 x1001_2 x1002_2 t136 t137 t138 t139 t140 t141 t142 t143 w0 _ ?side1 ?side2 A56.out).mono ?_);(case side1=>exact qI77HI0);(case side2=>exact qBHB);rintro e w62 ⟨rfl,hi,hb,hk⟩;refine⟨_,rfl,?_⟩;replace HO_118005:=qM_ (Kd.R_mono (Kd.R_keep (IsS77.apart (show IsS77 w0 _ g s0_0 x1001_2 x1002_2 from qI77HI0) (qr_ HO_118005) (by decide)) hk (fun _ h=>h.2)) (fun _ h=>h.1));replace BK101:=qM_ (KeepBut.blk hk (qk_ BK101) NB101_0.out (by simp));replace BK117:=qM_ (KeepBut.blk hk (qk_ BK117) NB117_0.out (by simp));replace HK:=qM_ (KeepBut.trans qKHK hk (.inl rfl));replace HB:=qM_ (hb);replace HI0:=qM_ (hi);(try clear hb);(try clear hb2);(try clear hk);(try clear hi))|((with_reducible refine gate_dst (N:=5) rfl ?_);refine box_event ?hg (N:=5) ?hd (cs:=#[.string (⟨#[]⟩:BA_),.string (⟨#[]⟩:BA_),.string (⟨#[]⟩:BA_),.string (⟨#[]⟩:BA_),.int .i64 0,.string (⟨#[]⟩:BA_)]) (t:=80) ?hr ?_;(case hd=>rfl);(case hg=>rfl);(case hr=>first|(go_simp;done)|(go_simp;rfl));intro gb144 hg w63 hbox hb;replace HO_118005:=qM_ (Kd.R_below (qr_ HO_118005) hb);replace HB:=qM_ (below_step qBHB hb);have BK144:=qM_ (hbox);have GW144:=qM_ ((by rw[hg];exact(keep_size (w:=w) (g:=g) (row:=none) qKHK):w.heap.size≤gb144));have GE144:=qM_ ((Nat.le_trans HW0.out (by rw[hg];exact(keep_size (w:=w) (g:=g) (row:=none) qKHK):w.heap.size≤gb144):w0.heap.size≤gb144));replace HK:=qM_ (KeepBut.trans qKHK (KeepBut.of_below hb g none) (.inl rfl));have NB101_144:=qM_ ((by rw[hg];exact Nat.ne_of_lt (blk_lt (qk_ BK101)):gb101≠gb144));have NB144_101:=qM_ ((by rw[hg];exact Nat.ne_of_gt (blk_lt (qk_ BK101)):gb144≠gb101));replace BK101:=qM_ (blk_below (qk_ BK101) hb);have NB117_144:=qM_ ((by rw[hg];exact Nat.ne_of_lt (blk_lt (qk_ BK117)):gb117≠gb144));have NB144_117:=qM_ ((by rw[hg];exact Nat.ne_of_gt (blk_lt (qk_ BK117)):gb144≠gb117));replace BK117:=qM_ (blk_below (qk_ BK117) hb);have NB0_144:=qM_ ((by rw[hg];exact Nat.ne_of_lt (IsS77.lt (show IsS77 w0 _ g s0_0 t142 t143 from qI77HI0)):g≠gb144));have NB144_0:=qM_ ((by rw[hg];exact Nat.ne_of_gt (IsS77.lt (show IsS77 w0 _ g s0_0 t142 t143 from qI77HI0)):gb144≠g));replace HI0:=qM_ (IsS77.below qI77HI0 hb);clear hb hbox hg;have hnb64:=NB144_101.out;have hnc64:=NB101_144.out;have hnb65:=NB144_117.out;have hnc65:=NB117_144.out;have hnb66:=NB144_0.out;have hnc66:=NB0_144.out;obtain⟨hcz67_0,hcz67_1,hcz67_2,hcz67_3,hcz67_4,hcz67_5,hfz67_0⟩:=qc6_ BK144))
          have n0_:Aside0 (Kd.R k54 54 ((((((w63.setCell ⟨gb144,0,none⟩ (.string t136)).setCell ⟨gb144,1,none⟩ (.string t137)).setCell ⟨gb144,2,none⟩ (.string t138)).setCell ⟨gb144,3,none⟩ (.string t139)).setCell ⟨gb144,4,none⟩ (.int .i64 t140)).setCell ⟨gb144,5,none⟩ (.string t141)) w.heap.size (fun _=>True) u118005 x118005_2):=⟨by(with_reducible repeat(first|apply Kd.R_alloc|apply Kd.R_drewN|apply Kd.R_drew));exact Kd.R_mono (qf6_ HO_118005 BK144) (fun _ hk=>trivial)⟩;have n1_:Aside0 (((((((w63.setCell ⟨gb144,0,none⟩ (.string t136)).setCell ⟨gb144,1,none⟩ (.string t137)).setCell ⟨gb144,2,none⟩ (.string t138)).setCell ⟨gb144,3,none⟩ (.string t139)).setCell ⟨gb144,4,none⟩ (.int .i64 t140)).setCell ⟨gb144,5,none⟩ (.string t141)).heap[gb101]? = some (.cells z27_.b0 31 (0,0))):=⟨qp_ BK101⟩;have n2_:Aside0 (((((((w63.setCell ⟨gb144,0,none⟩ (.string t136)).setCell ⟨gb144,1,none⟩ (.string t137)).setCell ⟨gb144,2,none⟩ (.string t138)).setCell ⟨gb144,3,none⟩ (.string t139)).setCell ⟨gb144,4,none⟩ (.int .i64 t140)).setCell ⟨gb144,5,none⟩ (.string t141)).heap[gb117]? = some (.cells #[.int .i64 2,.int .i64 0,.int .i64 0,.int .i64 0,.string t127,u118005] 31 (0,0))):=⟨qp_ BK117⟩;have n3_:Aside0 (((((((w63.setCell ⟨gb144,0,none⟩ (.string t136)).setCell ⟨gb144,1,none⟩ (.string t137)).setCell ⟨gb144,2,none⟩ (.string t138)).setCell ⟨gb144,3,none⟩ (.string t139)).setCell ⟨gb144,4,none⟩ (.int .i64 t140)).setCell ⟨gb144,5,none⟩ (.string t141)).heap[gb144]? = some (.cells #[.string t136,.string t137,.string t138,.string t139,.int .i64 t140,.string t141] 80 (0,0))):=⟨qp_ BK144⟩;have n4_:Aside0 (IsS77 w0 ((((((w63.setCell ⟨gb144,0,none⟩ (.string t136)).setCell ⟨gb144,1,none⟩ (.string t137)).setCell ⟨gb144,2,none⟩ (.string t138)).setCell ⟨gb144,3,none⟩ (.string t139)).setCell ⟨gb144,4,none⟩ (.int .i64 t140)).setCell ⟨gb144,5,none⟩ (.string t141)) g s0_0 t142 t143):=⟨qI77HI0⟩;have n5_:Aside0 (KeepBut w ((((((w63.setCell ⟨gb144,0,none⟩ (.string t136)).setCell ⟨gb144,1,none⟩ (.string t137)).setCell ⟨gb144,2,none⟩ (.string t138)).setCell ⟨gb144,3,none⟩ (.string t139)).setCell ⟨gb144,4,none⟩ (.int .i64 t140)).setCell ⟨gb144,5,none⟩ (.string t141)) g none):=⟨qKHK⟩;have n6_:Aside0 (Below w0.heap.size w0 ((((((w63.setCell ⟨gb144,0,none⟩ (.string t136)).setCell ⟨gb144,1,none⟩ (.string t137)).setCell ⟨gb144,2,none⟩ (.string t138)).setCell ⟨gb144,3,none⟩ (.string t139)).setCell ⟨gb144,4,none⟩ (.int .i64 t140)).setCell ⟨gb144,5,none⟩ (.string t141))):=⟨qBHB⟩
          (try clear HO_118005)
          (try clear BK101)
          (try clear BK117)
          (try clear BK144)
          (try clear HI0)
          (try clear HK)
          (try clear HB)
          generalize ((((((w63.setCell ⟨gb144,0,none⟩ (.string t136)).setCell ⟨gb144,1,none⟩ (.string t137)).setCell ⟨gb144,2,none⟩ (.string t138)).setCell ⟨gb144,3,none⟩ (.string t139)).setCell ⟨gb144,4,none⟩ (.int .i64 t140)).setCell ⟨gb144,5,none⟩ (.string t141))=w68 at n0_ n1_ n2_ n3_ n4_ n5_ n6_ ⊢;have HO_118005:=n0_;have BK101:=n1_;have BK117:=n2_;have BK144:=n3_;have HI0:=n4_;have HK:=n5_;have HB:=n6_;clear n0_ n1_ n2_ n3_ n4_ n5_ n6_;replace HO_118005:=qM_ (Kd.R_drew HO_118005.out);replace BK101:=qM_ (blk_drew BK101.out);replace BK117:=qM_ (blk_drew BK117.out);replace BK144:=qM_ (blk_drew BK144.out);replace HI0:=qM_ (IsS77.drew HI0.out);replace HK:=qM_ (keep_drew HK.out);replace HB:=qM_ (qE_ HB.out)
          refine start_ (n:=17) (S:=fun w' => w'.cell? ⟨gb117,0,none⟩=some (.int .i64 2)∧w'.cell? ⟨gb117,1,none⟩=some (.int .i64 0)∧w'.cell? ⟨gb117,2,none⟩=some (.int .i64 0)∧w'.cell? ⟨gb117,3,none⟩=some (.int .i64 0)∧w'.cell? ⟨gb117,4,none⟩=some (.string t127)∧w'.cell? ⟨gb117,5,none⟩=some (u118005)∧w'.cell? ⟨gb144,0,none⟩=some (.string t136)∧w'.cell? ⟨gb144,1,none⟩=some (.string t137)∧w'.cell? ⟨gb144,2,none⟩=some (.string t138)∧w'.cell? ⟨gb144,3,none⟩=some (.string t139)∧w'.cell? ⟨gb144,4,none⟩=some (.int .i64 t140)∧w'.cell? ⟨gb144,5,none⟩=some (.string t141)) (ds:=[16]) #[qF,qF,qF,qF,qF,qF,qF,qF,qF,qF,qF,qF,qF,qF,qF,qF,qF] qK rfl rfl ⟨(qC_ BK117.out 0).trans rfl,(qC_ BK117.out 1).trans rfl,(qC_ BK117.out 2).trans rfl,(qC_ BK117.out 3).trans rfl,(qC_ BK117.out 4).trans rfl,(qC_ BK117.out 5).trans rfl,(qC_ BK144.out 0).trans rfl,(qC_ BK144.out 1).trans rfl,(qC_ BK144.out 2).trans rfl,(qC_ BK144.out 3).trans rfl,(qC_ BK144.out 4).trans rfl,(qC_ BK144.out 5).trans rfl⟩ (fun hHeld=> ?_);refine with_tabW z27_.tab12 z27_.bits12 (fun HT_ HW_=> ?_)
          generalize w68.drew=w69 at HO_118005 BK101 BK117 BK144 HI0 HK HB hHeld ⊢;refine pure_ (i:=0) (N:=some 42) (v:= ?_) (a' := ?_) #[qT,qF,qF,qF,qF,qF,qF,qF,qF,qF,qF,qF,qF,qF,qF,qF,qF] rfl rfl (any_of HT_.out qK) (fun _ _ _ h=>h) (Or.inl ⟨by rfl,?_⟩) ?_ ?_;rotate_left
          ·intro w'
           go_simp;with_reducible rfl
          rotate_left
          ·simp only[Act.put,qS_,qW_]
           rfl
          refine pure_ (i:=2) (N:=some 44) (v:= ?_) (a' := ?_) #[qT,qF,qT,qF,qF,qF,qF,qF,qF,qF,qF,qF,qF,qF,qF,qF,qF] rfl rfl (any_of HT_.out qK) (fun _ _ _ h=>h) (Or.inl ⟨by rfl,?_⟩) ?_ ?_;rotate_left
          ·intro w'
           go_simp;with_reducible rfl
          rotate_left
          ·simp only[Act.put,qS_,qW_]
           rfl
          refine pure_ (i:=4) (N:=some 46) (v:= ?_) (a' := ?_) #[qT,qF,qT,qF,qT,qF,qF,qF,qF,qF,qF,qF,qF,qF,qF,qF,qF] rfl rfl (any_of HT_.out qK) (fun _ _ _ h=>h) (Or.inl ⟨by rfl,?_⟩) ?_ ?_;rotate_left
          ·intro w'
           go_simp;with_reducible rfl
          rotate_left
          ·simp only[Act.put,qS_,qW_]
           rfl
          refine pure_ (i:=9) (N:=some 51) (v:= ?_) (a' := ?_) #[qT,qF,qT,qF,qT,qF,qF,qF,qF,qT,qF,qF,qF,qF,qF,qF,qF] rfl rfl (any_of HT_.out qK) (fun _ _ _ h=>h) (Or.inl ⟨by rfl,?_⟩) ?_ ?_;rotate_left
          ·intro w'
           go_simp;with_reducible rfl
          rotate_left
          ·simp only[Act.put,qS_,qW_]
           rfl
          refine take_ (i:=1) (N:=some 43) (v:= ?_) (a' := ?_) #[qT,qT,qT,qF,qT,qF,qF,qF,qF,qT,qF,qF,qF,qF,qF,qF,qF] rfl rfl (take_ofW HT_.out HW_.out qK) (fun _ _ _ h=>h) (Or.inl ⟨by rfl,?_⟩) hHeld ?_ ?_;rotate_left
          ·rintro w' ⟨s0,s1,s2,s3,s4,s5,s6,s7,s8,s9,s10,s11⟩
           go_simp;with_reducible rfl
          rotate_left
          ·simp only[Act.put,qS_,qW_]
           rfl
          refine take_ (i:=3) (N:=some 45) (v:= ?_) (a' := ?_) #[qT,qT,qT,qT,qT,qF,qF,qF,qF,qT,qF,qF,qF,qF,qF,qF,qF] rfl rfl (take_ofW HT_.out HW_.out qK) (fun _ _ _ h=>h) (Or.inl ⟨by rfl,?_⟩) hHeld ?_ ?_;rotate_left
          ·rintro w' ⟨s0,s1,s2,s3,s4,s5,s6,s7,s8,s9,s10,s11⟩
           go_simp;with_reducible rfl
          rotate_left
          ·simp only[Act.put,qS_,qW_]
           rfl
          refine take_ (i:=8) (N:=some 50) (v:= ?_) (a' := ?_) #[qT,qT,qT,qT,qT,qF,qF,qF,qT,qT,qF,qF,qF,qF,qF,qF,qF] rfl rfl (take_ofW HT_.out HW_.out qK) (fun _ _ _ h=>h) (Or.inl ⟨by rfl,?_⟩) hHeld ?_ ?_;rotate_left
          ·rintro w' ⟨s0,s1,s2,s3,s4,s5,s6,s7,s8,s9,s10,s11⟩
           go_simp;with_reducible rfl
          rotate_left
          ·simp only[Act.put,qS_,qW_]
           rfl
          refine take_ (i:=10) (N:=some 52) (v:= ?_) (a' := ?_) #[qT,qT,qT,qT,qT,qF,qF,qF,qT,qT,qT,qF,qF,qF,qF,qF,qF] rfl rfl (take_ofW HT_.out HW_.out qK) (fun _ _ _ h=>h) (Or.inl ⟨by rfl,?_⟩) hHeld ?_ ?_;rotate_left
          ·rintro w' ⟨s0,s1,s2,s3,s4,s5,s6,s7,s8,s9,s10,s11⟩
           go_simp;with_reducible rfl
          rotate_left
          ·simp only[Act.put,qS_,qW_]
           rfl
          refine one_ (i:=5) (N:=some 47) #[qT,qT,qT,qT,qT,qT,qF,qF,qT,qT,qT,qF,qF,qF,qF,qF,qF] rfl rfl (one_of HT_.out qK) (by decide) (fun K hK=> ?_);refine goes_ Try.func47 qK rfl #[.pointer (some ⟨g,0,none⟩),.int .i64 3] (by rfl) rfl rfl qll_ ?_
          with_reducible refine(z47_.calls g s0_0 t142 t143 3 t145 t146 t147 w0 _ ?side1 ?side2 A57.out).mono ?_
          (case side1=>exact qI77HI0)
          (case side2=>exact qBHB)
          rintro e w70 ⟨rfl,hi,hb,hk⟩
          refine⟨_,rfl,?_⟩;replace HO_118005:=qM_ (Kd.R_mono (Kd.R_keep (IsS77.apart (show IsS77 w0 _ g s0_0 t142 t143 from qI77HI0) (qr_ HO_118005) (by decide)) hk (fun _ h=>h.2)) (fun _ h=>h.1));replace BK101:=qM_ (KeepBut.blk hk (qk_ BK101) NB101_0.out (by simp));replace BK117:=qM_ (KeepBut.blk hk (qk_ BK117) NB117_0.out (by simp));replace BK144:=qM_ (KeepBut.blk hk (qk_ BK144) NB144_0.out (by simp));replace HK:=qM_ (KeepBut.trans qKHK hk (.inl rfl));replace HB:=qM_ (hb);replace HI0:=qM_ (hi)
          (try clear hb)
          (try clear hb2)
          (try clear hk)
          (try clear hi)
          refine hK.out _ _ ⟨(qC_ BK117.out 0).trans rfl,(qC_ BK117.out 1).trans rfl,(qC_ BK117.out 2).trans rfl,(qC_ BK117.out 3).trans rfl,(qC_ BK117.out 4).trans rfl,(qC_ BK117.out 5).trans rfl,(qC_ BK144.out 0).trans rfl,(qC_ BK144.out 1).trans rfl,(qC_ BK144.out 2).trans rfl,(qC_ BK144.out 3).trans rfl,(qC_ BK144.out 4).trans rfl,(qC_ BK144.out 5).trans rfl⟩ (fun hHeld=> ?_);clear hK K;refine norm_ (a' := ?_) ?_ ?_;rotate_left
          ·show Act.put _ (some 47) _=_
           simp only[Act.put,qS_,qW_];rfl
          refine one_ (i:=6) (N:=some 48) #[qT,qT,qT,qT,qT,qT,qT,qF,qT,qT,qT,qF,qF,qF,qF,qF,qF] rfl rfl (one_of HT_.out qK) (by decide) (fun K hK=> ?_);refine goes_ Try.func49 qK rfl #[.int .i64 t145] (by rfl) rfl rfl qll_ ?_
          with_reducible refine(z49_.calls k2 t145 t148 _ A58.out).mono ?_
          rintro e w71 ⟨rfl,hb⟩
          refine⟨_,rfl,?_⟩;replace HO_118005:=qM_ (Kd.R_below (qr_ HO_118005) hb);replace BK101:=qM_ (blk_below (qk_ BK101) hb);replace BK117:=qM_ (blk_below (qk_ BK117) hb);replace BK144:=qM_ (blk_below (qk_ BK144) hb);replace HK:=qM_ (KeepBut.trans qKHK (KeepBut.of_below hb g none) (.inl rfl));replace HB:=qM_ (below_step qBHB hb);replace HI0:=qM_ (IsS77.below qI77HI0 hb)
          (try clear hb)
          (try clear hb2)
          (try clear hk)
          (try clear hi)
          refine hK.out _ _ ⟨(qC_ BK117.out 0).trans rfl,(qC_ BK117.out 1).trans rfl,(qC_ BK117.out 2).trans rfl,(qC_ BK117.out 3).trans rfl,(qC_ BK117.out 4).trans rfl,(qC_ BK117.out 5).trans rfl,(qC_ BK144.out 0).trans rfl,(qC_ BK144.out 1).trans rfl,(qC_ BK144.out 2).trans rfl,(qC_ BK144.out 3).trans rfl,(qC_ BK144.out 4).trans rfl,(qC_ BK144.out 5).trans rfl⟩ (fun hHeld=> ?_);clear hK K;refine norm_ (a' := ?_) ?_ ?_;rotate_left
          ·show Act.put _ (some 48) _=_
           simp only[Act.put,qS_,qW_];rfl
          refine pure_ (i:=7) (N:=some 49) (v:= ?_) (a' := ?_) #[qT,qT,qT,qT,qT,qT,qT,qT,qT,qT,qT,qF,qF,qF,qF,qF,qF] rfl rfl (any_of HT_.out qK) (fun _ _ _ h=>h) (Or.inl ⟨by rfl,?_⟩) ?_ ?_;rotate_left
          ·intro w'
           go_simp;with_reducible rfl
          rotate_left
          ·simp only[Act.put,qS_,qW_]
           rfl
          refine one_ (i:=11) (N:=some 53) #[qT,qT,qT,qT,qT,qT,qT,qT,qT,qT,qT,qT,qF,qF,qF,qF,qF] rfl rfl (one_of HT_.out qK) (by decide) (fun K hK=> ?_);refine goes_ Try.func50 qK rfl #[.agg #[.string t136,.string t137,.string t138,.string t139,.int .i64 t140,.string t141],.string t127] (by rfl) rfl rfl qll_ ?_
          with_reducible refine(z50_.calls k2 t136 t137 t138 t139 t140 t141 t127 t149 _ A60.out).mono ?_
          rintro e w72 ⟨rfl,hb⟩
          refine⟨_,rfl,?_⟩;replace HO_118005:=qM_ (Kd.R_below (qr_ HO_118005) hb);replace BK101:=qM_ (blk_below (qk_ BK101) hb);replace BK117:=qM_ (blk_below (qk_ BK117) hb);replace BK144:=qM_ (blk_below (qk_ BK144) hb);replace HK:=qM_ (KeepBut.trans qKHK (KeepBut.of_below hb g none) (.inl rfl));replace HB:=qM_ (below_step qBHB hb);replace HI0:=qM_ (IsS77.below qI77HI0 hb)
          (try clear hb)
          (try clear hb2)
          (try clear hk)
          (try clear hi)
          refine hK.out _ _ ⟨(qC_ BK117.out 0).trans rfl,(qC_ BK117.out 1).trans rfl,(qC_ BK117.out 2).trans rfl,(qC_ BK117.out 3).trans rfl,(qC_ BK117.out 4).trans rfl,(qC_ BK117.out 5).trans rfl,(qC_ BK144.out 0).trans rfl,(qC_ BK144.out 1).trans rfl,(qC_ BK144.out 2).trans rfl,(qC_ BK144.out 3).trans rfl,(qC_ BK144.out 4).trans rfl,(qC_ BK144.out 5).trans rfl⟩ (fun hHeld=> ?_);clear hK K;refine norm_ (a' := ?_) ?_ ?_;rotate_left
          ·show Act.put _ (some 53) _=_
           simp only[Act.put,qS_,qW_];rfl
          refine pure_ (i:=12) (N:=some 54) (v:= ?_) (a' := ?_) #[qT,qT,qT,qT,qT,qT,qT,qT,qT,qT,qT,qT,qT,qF,qF,qF,qF] rfl rfl (any_of HT_.out qK) (fun _ _ _ h=>h) (Or.inl ⟨by rfl,?_⟩) ?_ ?_;rotate_left
          ·intro w'
           go_simp;with_reducible rfl
          rotate_left
          ·simp only[Act.put,qS_,qW_]
           rfl
          refine one_ (i:=13) (N:=some 55) #[qT,qT,qT,qT,qT,qT,qT,qT,qT,qT,qT,qT,qT,qT,qF,qF,qF] rfl rfl (one_of HT_.out qK) (by decide) (fun K hK=> ?_);refine value_ (w1:= ?_) (v:= ?_) (by rfl) rfl ?_ ?_;rotate_left 2
          ·go_simp
           constructor
           ·rfl
           ·rfl
          refine hK.out _ _ ⟨(qC_ (blk_alloc BK117.out _) 0).trans rfl,(qC_ (blk_alloc BK117.out _) 1).trans rfl,(qC_ (blk_alloc BK117.out _) 2).trans rfl,(qC_ (blk_alloc BK117.out _) 3).trans rfl,(qC_ (blk_alloc BK117.out _) 4).trans rfl,(qC_ (blk_alloc BK117.out _) 5).trans rfl,(qC_ (blk_alloc BK144.out _) 0).trans rfl,(qC_ (blk_alloc BK144.out _) 1).trans rfl,(qC_ (blk_alloc BK144.out _) 2).trans rfl,(qC_ (blk_alloc BK144.out _) 3).trans rfl,(qC_ (blk_alloc BK144.out _) 4).trans rfl,(qC_ (blk_alloc BK144.out _) 5).trans rfl⟩ (fun hHeld=> ?_);clear hK K;refine norm_ (a' := ?_) ?_ ?_;rotate_left
          ·show Act.put _ (some 55) _=_
           simp only[Act.put,qS_,qW_];rfl
          refine one_ (i:=14) (N:=some 56) #[qT,qT,qT,qT,qT,qT,qT,qT,qT,qT,qT,qT,qT,qT,qT,qF,qF] rfl rfl (one_of HT_.out qK) (by decide) (fun K hK=> ?_);refine Kd.R_append_step k54 w.heap.size (by rfl) (.tmp 43) (.tmp 55) 29 54 (.agg #[(.string ⟨#[]⟩),(.string ⟨#[]⟩)]) 32 rfl Try.underlying29 info54 rfl (by decide) (by omega) u118005 x118005_2 (⟨t136 ++ t148,t149⟩:S54) [.string (t136 ++ t148),.string t149] (fun _=>True) (fun _=>False) rfl rfl ?aP (fun _ hk=>hk.elim) ?aF ?aO (Below.refl _ _) ?aS ?aL ?_
          (case aP=>exact k54_mkM _ _ _ (⟨t136 ++ t148,t149⟩:S54))
          (case aF=>exact(fun _ _=>trivial))
          (case aO=>exact(qr_ HO_118005))
          (case aS=>exact(keep_size (w:=w) (g:=g) (row:=none) qKHK))
          (case aL=>have:=LMc61.out;omega)
          intro v151 w73 ho hb hg hat
          rw[← Ny150.out]at ho;replace BK101:=qM_ (blk_grown (qk_ BK101) hg (Kd.R_ne HO_118005.out BK101.out (by decide)));replace BK117:=qM_ (blk_grown (qk_ BK117) hg (Kd.R_ne HO_118005.out BK117.out (by decide)));replace BK144:=qM_ (blk_grown (qk_ BK144) hg (Kd.R_ne HO_118005.out BK144.out (by decide)));replace HB:=qM_ (below_weaken qBHB HL.out hb);replace HI0:=qM_ (IsS77.grown qI77HI0 hg (IsS77.own_ne HI0.out HO_118005.out (by decide)));replace HK:=qM_ (KeepBut.trans qKHK (KeepBut.of_grown hg g) (Kd.R_base2 HO_118005.out));have HO152:=qM_ (ho);clear HO_118005;clear ho hb hg hat;obtain⟨Ao74,co74,eo74⟩:=Kd.R_slice HO152.out
          (first|subst eo74|(injection eo74 with f1_ f2_ f3_;have f4_:=f1_.symm;have f5_:=f3_.symm;clear f1_ f2_ f3_;subst f4_;subst f5_))
          refine hK.out _ _ ⟨(qC_ BK117.out 0).trans rfl,(qC_ BK117.out 1).trans rfl,(qC_ BK117.out 2).trans rfl,(qC_ BK117.out 3).trans rfl,(qC_ BK117.out 4).trans rfl,(qC_ BK117.out 5).trans rfl,(qC_ BK144.out 0).trans rfl,(qC_ BK144.out 1).trans rfl,(qC_ BK144.out 2).trans rfl,(qC_ BK144.out 3).trans rfl,(qC_ BK144.out 4).trans rfl,(qC_ BK144.out 5).trans rfl⟩ (fun hHeld=> ?_);clear hK K;refine norm_ (a' := ?_) ?_ ?_;rotate_left
          ·show Act.put _ (some 56) _=_
           simp only[Act.put,qS_,qW_];rfl
          refine pure_ (i:=15) (N:=some 57) (v:= ?_) (a' := ?_) #[qT,qT,qT,qT,qT,qT,qT,qT,qT,qT,qT,qT,qT,qT,qT,qT,qF] rfl rfl (any_of HT_.out qK) (fun _ _ _ h=>h) (Or.inl ⟨by rfl,?_⟩) ?_ ?_;rotate_left
          ·intro w'
           go_simp;with_reducible rfl
          rotate_left
          ·simp only[Act.put,qS_,qW_]
           rfl
          refine last_ (i:=16) (N:=none) #[qT,qT,qT,qT,qT,qT,qT,qT,qT,qT,qT,qT,qT,qT,qT,qT,qT] rfl rfl (one_of HT_.out qK) (by decide) (fun K hK=> ?_);have hs75:w73.cell? ⟨gb117,5,none⟩=some (u118005):=(qC_ BK117.out 5).trans rfl;have hfs75:=qF_ BK117.out 5;have hns75_0:=NB101_117.out;have hns75_2:=NB144_117.out;have hms75_0:=NB117_101.out;have hms75_2:=NB117_144.out;refine skip_ (w1:= ?_) (by rfl) rfl ?_ ?_;rotate_left
          ·go_simp
           rfl
          refine hK.out _ _ ?_;clear hK K;refine done_ (done_of HT_.out qK) ?_
          try go_wp2
          go_roundg k2
          case measure=>have:=HJ28.out;have:=HK2.out;omega
          case rel=>exact⟨(wrap64 (x4_2 - 1)),(t146),(t147),(y150),(.slice Ao74 y150.length co74),qff_,H', ⟨by have:=HJ28.out;have:=HK2.out;omega⟩,⟨by(with_reducible repeat(first|apply Kd.R_alloc|apply Kd.R_drewN|apply Kd.R_drew));exact Kd.R_mono (qf1_ HO152 BK117) (fun _ hk=>trivial)⟩,⟨qp_ BK101⟩,⟨qp_ BK117⟩,⟨qI77HI0⟩,⟨qKHK⟩,⟨qBHB⟩⟩
         ·rw[if_neg c61]at H
          exact absurd H (by simp)
        ·rw[if_neg c59]at H
         exact absurd H (by simp)
       ·rw[if_neg c55]at H
        have c55b0:decide (0 < x4_2)=false:=decide_eq_false c55;clear c55;simp only[Option.some.injEq,Prod.mk.injEq]at H;obtain⟨rfl,rfl,rfl,rfl,rfl,rfl,rfl,rfl⟩:=H;have hnb76:=NB117_101.out;have hnc76:=NB101_117.out;have hnb77:=NB117_0.out;have hnc77:=NB0_117.out;obtain⟨hcz78_0,hcz78_1,hcz78_2,hcz78_3,hcz78_4,hcz78_5,hfz78_0⟩:=qc6_ BK117;have hnb79:=NB101_0.out;have hnc79:=NB0_101.out;obtain⟨hcz80_0,hcz80_1,hcz80_2,hcz80_3,hcz80_4,hcz80_5,hfz80_0⟩:=qc6_ BK101;obtain⟨Ao81,co81,eo81⟩:=Kd.R_slice HO_118005.out;subst eo81
        go_wp2
        refine bodyPost_ret (results_cell_row rfl _ _ gb101 31 #[.int .i64 2,.int .i64 0,.int .i64 0,.int .i64 0,.string t127,.slice Ao81 x118005_2.length co81] (0,0) _ rfl (by(with_reducible repeat(first|refine blk_drewN ?_ _|refine blk_drew ?_|refine blk_alloc ?_ _));refine blk_put (cs:=#[.int .i64 2,.int .i64 0,.int .i64 0,.int .i64 0,.string t127,.slice none 0 0]) ?_ 5 _ rfl;(with_reducible repeat(first|refine blk_drewN ?_ _|refine blk_drew ?_|refine blk_alloc ?_ _));refine blk_put (cs:=#[.int .i64 2,.int .i64 0,.int .i64 0,.int .i64 0,.string (⟨#[]⟩:BA_),.slice none 0 0]) ?_ 4 _ rfl;(with_reducible repeat(first|refine blk_drewN ?_ _|refine blk_drew ?_|refine blk_alloc ?_ _));refine blk_put (cs:=#[.int .i64 2,.int .i64 0,.int .i64 0,.int .i64 0,.string (⟨#[]⟩:BA_),.slice none 0 0]) ?_ 3 _ rfl;(with_reducible repeat(first|refine blk_drewN ?_ _|refine blk_drew ?_|refine blk_alloc ?_ _));refine blk_put (cs:=#[.int .i64 2,.int .i64 0,.int .i64 0,.int .i64 0,.string (⟨#[]⟩:BA_),.slice none 0 0]) ?_ 2 _ rfl;(with_reducible repeat(first|refine blk_drewN ?_ _|refine blk_drew ?_|refine blk_alloc ?_ _));refine blk_put (cs:=#[.int .i64 2,.int .i64 0,.int .i64 0,.int .i64 0,.string (⟨#[]⟩:BA_),.slice none 0 0]) ?_ 1 _ rfl;(with_reducible repeat(first|refine blk_drewN ?_ _|refine blk_drew ?_|refine blk_alloc ?_ _));refine blk_put (cs:=z27_.b0) ?_ 0 _ rfl;(with_reducible repeat(first|refine blk_drewN ?_ _|refine blk_drew ?_|refine blk_alloc ?_ _));exact BK101.out) Try.underlying31 rfl qK) rfl ?_;exact⟨_,qee_,by(with_reducible repeat(first|apply Kd.R_alloc|apply Kd.R_drewN|apply Kd.R_drew));exact Kd.R_mono (qf6_ HO_118005 BK101) (fun _ hk=>trivial),qI77HI0,qBHB,qKHK⟩
    ·replace c44:=Bool.eq_false_iff.mpr c44
     subst c44
     have H1:(if t118=3 then((z46_.f s0_0 t119 t120).bind fun bt153=>(some (4,0,0,0,bt153.1,(([]:List (S54))),bt153.2.1,bt153.2.2)))else(some (3,(wrap64 (1+t105)),(wrap64 (1+t108)),t111,t102,y114,t119,t120)))=some (r1,r2,r3,r4,r5,r6,r7,r8):=by rw[if_neg (show ¬(false=true)by decide)]at H;exact H
     clear H;have H:=H1;clear H1;by_cases c82:t118=3
     ·rw[if_pos c82]at H
      have c82b0:(t118 == 3)=true:=beq_iff_eq.mpr c82;have c82b1:(t118 != 3)=false:=bne_eq_false_iff_eq.mpr c82;clear c82;replace H:=Option.bind_eq_some_iff.mp H;obtain⟨⟨t153,t154,t155⟩,A830,H⟩:=H;dsimp only at H;have A83:=qM_ A830;clear A830
      obtain⟨y156,hy156⟩:∃ y_:List (S54),y_=(([]:List (S54))):=⟨_,rfl⟩
      replace H:(some (4,0,0,0,t153,y156,t154,t155))=some (r1,r2,r3,r4,r5,r6,r7,r8):=qh_ hy156 H;have Ny156:=qM_ hy156;clear hy156;simp only[Option.some.injEq,Prod.mk.injEq]at H;obtain⟨rfl,rfl,rfl,rfl,rfl,rfl,rfl,rfl⟩:=H
      go_wp2_with (first|((with_reducible refine gate_callee (f:=46) rfl ?_);refine goesL_ (some 61) rfl rfl Try.func46 qK rfl #[.pointer (some ⟨g,0,none⟩)] rfl qll_ ?_;(with_reducible refine(z46_.calls g s0_0 t119 t120 t153 t154 t155 w0 _ ?side1 ?side2 A83.out).mono ?_);(case side1=>exact qI77HI0);(case side2=>exact qBHB);rintro e w84 ⟨rfl,hi,hb,hk⟩;refine⟨_,rfl,?_⟩;replace HO_118005:=qM_ (Kd.R_mono (Kd.R_keep (IsS77.apart (show IsS77 w0 _ g s0_0 t119 t120 from qI77HI0) (qr_ HO_118005) (by decide)) hk (fun _ h=>h.2)) (fun _ h=>h.1));replace BK101:=qM_ (KeepBut.blk hk (qk_ BK101) NB101_0.out (by simp));replace BK117:=qM_ (KeepBut.blk hk (qk_ BK117) NB117_0.out (by simp));replace HK:=qM_ (KeepBut.trans qKHK hk (.inl rfl));replace HB:=qM_ (hb);replace HI0:=qM_ (hi);(try clear hb);(try clear hb2);(try clear hk);(try clear hi))|((with_reducible refine gate_dst (N:=62) rfl ?_);refine Kd.R_lit k54 _ 54 ?hg (N:=62) ?hd (xs:=([]:List (S54))) (inner:=[]) (ok:=fun _=>True) (okp:=fun _=>True) ?hr ?hp (fun _ hk=>hk) trivial (Below.refl _ _) (Nat.le_refl _) (by simp) ?_;(case hd=>rfl);(case hg=>rfl);(case hr=>first|(go_simp;done)|(go_simp;rfl));(case hp=>exact(Reps.none _ _));intro v157 w85 ho86 hb hg_ hnew_;clear hg_ hnew_;(first|rw[← Ny156.out]at ho86|(simp only[Int.reduceToNat]at ho86;rw[← Ny156.out]at ho86));have HO158:=qM_ (Kd.R_lower (Kd.R_new' ho86 (Kd.R_lt (qr_ HO_118005))) (keep_size (w:=w) (g:=g) (row:=none) qKHK));replace HO_118005:=qM_ (Kd.R_elder' (qr_ HO_118005) (Kd.R_base ho86) hb);replace BK101:=qM_ (blk_below (qk_ BK101) hb);replace BK117:=qM_ (blk_below (qk_ BK117) hb);replace HK:=qM_ (KeepBut.trans qKHK (KeepBut.of_below hb g none) (.inl rfl));replace HB:=qM_ (below_step qBHB hb);replace HI0:=qM_ (IsS77.below qI77HI0 hb);clear hb ho86;obtain⟨Ao87,co87,eo87⟩:=Kd.R_slice HO158.out;subst eo87;have hnb88:=NB117_101.out;have hnc88:=NB101_117.out;have hnb89:=NB117_0.out;have hnc89:=NB0_117.out;obtain⟨hcz90_0,hcz90_1,hcz90_2,hcz90_3,hcz90_4,hcz90_5,hfz90_0⟩:=qc6_ BK117;have hnb91:=NB101_0.out;have hnc91:=NB0_101.out;obtain⟨hcz92_0,hcz92_1,hcz92_2,hcz92_3,hcz92_4,hcz92_5,hfz92_0⟩:=qc6_ BK101))
      refine bodyPost_ret (results_cell_row rfl _ _ gb101 31 #[.int .i64 4,.int .i64 0,.int .i64 0,.int .i64 0,.string t153,.slice Ao87 y156.length co87] (0,0) _ rfl (by(with_reducible repeat(first|refine blk_drewN ?_ _|refine blk_drew ?_|refine blk_alloc ?_ _));refine blk_put (cs:=#[.int .i64 4,.int .i64 0,.int .i64 0,.int .i64 0,.string t153,.slice none 0 0]) ?_ 5 _ rfl;(with_reducible repeat(first|refine blk_drewN ?_ _|refine blk_drew ?_|refine blk_alloc ?_ _));refine blk_put (cs:=#[.int .i64 4,.int .i64 0,.int .i64 0,.int .i64 0,.string (⟨#[]⟩:BA_),.slice none 0 0]) ?_ 4 _ rfl;(with_reducible repeat(first|refine blk_drewN ?_ _|refine blk_drew ?_|refine blk_alloc ?_ _));refine blk_put (cs:=#[.int .i64 4,.int .i64 0,.int .i64 0,.int .i64 0,.string (⟨#[]⟩:BA_),.slice none 0 0]) ?_ 3 _ rfl;(with_reducible repeat(first|refine blk_drewN ?_ _|refine blk_drew ?_|refine blk_alloc ?_ _));refine blk_put (cs:=#[.int .i64 4,.int .i64 0,.int .i64 0,.int .i64 0,.string (⟨#[]⟩:BA_),.slice none 0 0]) ?_ 2 _ rfl;(with_reducible repeat(first|refine blk_drewN ?_ _|refine blk_drew ?_|refine blk_alloc ?_ _));refine blk_put (cs:=#[.int .i64 4,.int .i64 0,.int .i64 0,.int .i64 0,.string (⟨#[]⟩:BA_),.slice none 0 0]) ?_ 1 _ rfl;(with_reducible repeat(first|refine blk_drewN ?_ _|refine blk_drew ?_|refine blk_alloc ?_ _));refine blk_put (cs:=z27_.b0) ?_ 0 _ rfl;(with_reducible repeat(first|refine blk_drewN ?_ _|refine blk_drew ?_|refine blk_alloc ?_ _));refine blk_far ?_ NB101_117.out _;(with_reducible repeat(first|refine blk_drewN ?_ _|refine blk_drew ?_|refine blk_alloc ?_ _));refine blk_far ?_ NB101_117.out _;(with_reducible repeat(first|refine blk_drewN ?_ _|refine blk_drew ?_|refine blk_alloc ?_ _));refine blk_far ?_ NB101_117.out _;(with_reducible repeat(first|refine blk_drewN ?_ _|refine blk_drew ?_|refine blk_alloc ?_ _));refine blk_far ?_ NB101_117.out _;(with_reducible repeat(first|refine blk_drewN ?_ _|refine blk_drew ?_|refine blk_alloc ?_ _));refine blk_far ?_ NB101_117.out _;(with_reducible repeat(first|refine blk_drewN ?_ _|refine blk_drew ?_|refine blk_alloc ?_ _));refine blk_far ?_ NB101_117.out _;(with_reducible repeat(first|refine blk_drewN ?_ _|refine blk_drew ?_|refine blk_alloc ?_ _));exact BK101.out) Try.underlying31 rfl qK) rfl ?_;exact⟨_,qee_,by(with_reducible repeat(first|apply Kd.R_alloc|apply Kd.R_drewN|apply Kd.R_drew));exact Kd.R_mono (Kd.R_far (p:=⟨gb101,5,none⟩) (Kd.R_far (p:=⟨gb101,4,none⟩) (Kd.R_far (p:=⟨gb101,3,none⟩) (Kd.R_far (p:=⟨gb101,2,none⟩) (Kd.R_far (p:=⟨gb101,1,none⟩) (Kd.R_far (p:=⟨gb101,0,none⟩) (Kd.R_far (p:=⟨gb117,5,none⟩) (Kd.R_far (p:=⟨gb117,4,none⟩) (Kd.R_far (p:=⟨gb117,3,none⟩) (Kd.R_far (p:=⟨gb117,2,none⟩) (Kd.R_far (p:=⟨gb117,1,none⟩) (Kd.R_far (p:=⟨gb117,0,none⟩) (Kd.R_types (Kd.R_types HO158.out BK117.out (by decide)) BK101.out (by decide)) (fun _ hk=>hk.1.2) (.int .i64 4)) (fun _ hk=>hk.1.2) (.int .i64 0)) (fun _ hk=>hk.1.2) (.int .i64 0)) (fun _ hk=>hk.1.2) (.int .i64 0)) (fun _ hk=>hk.1.2) (.string t153)) (fun _ hk=>hk.1.2) (.slice Ao87 y156.length co87)) (fun _ hk=>hk.2) (.int .i64 4)) (fun _ hk=>hk.2) (.int .i64 0)) (fun _ hk=>hk.2) (.int .i64 0)) (fun _ hk=>hk.2) (.int .i64 0)) (fun _ hk=>hk.2) (.string t153)) (fun _ hk=>hk.2) (.slice Ao87 y156.length co87)) (fun _ hk=>trivial),qI77HI0,qBHB,qKHK⟩
     ·rw[if_neg c82]at H
      have c82b0:(t118 == 3)=false:=beq_eq_false_iff_ne.mpr c82;have c82b1:(t118 != 3)=true:=bne_iff_ne.mpr c82;simp only[Option.some.injEq,Prod.mk.injEq]at H;obtain⟨rfl,rfl,rfl,rfl,rfl,rfl,rfl,rfl⟩:=H;have hnb93:=NB117_101.out;have hnc93:=NB101_117.out;have hnb94:=NB117_0.out;have hnc94:=NB0_117.out;obtain⟨hcz95_0,hcz95_1,hcz95_2,hcz95_3,hcz95_4,hcz95_5,hfz95_0⟩:=qc6_ BK117;have hnb96:=NB101_0.out;have hnc96:=NB0_101.out;obtain⟨hcz97_0,hcz97_1,hcz97_2,hcz97_3,hcz97_4,hcz97_5,hfz97_0⟩:=qc6_ BK101
      go_wp2
      refine bodyPost_ret (results_cell_row rfl _ _ gb101 31 #[.int .i64 3,.int .i64 (wrap64 (1+t105)),.int .i64 (wrap64 (1+t108)),.int .i64 t111,.string t102,.slice Ao37 y114.length co37] (0,0) _ rfl (by(with_reducible repeat(first|refine blk_drewN ?_ _|refine blk_drew ?_|refine blk_alloc ?_ _));refine blk_put (cs:=#[.int .i64 3,.int .i64 (wrap64 (1+t105)),.int .i64 (wrap64 (1+t108)),.int .i64 t111,.string t102,.slice none 0 0]) ?_ 5 _ rfl;(with_reducible repeat(first|refine blk_drewN ?_ _|refine blk_drew ?_|refine blk_alloc ?_ _));refine blk_put (cs:=#[.int .i64 3,.int .i64 (wrap64 (1+t105)),.int .i64 (wrap64 (1+t108)),.int .i64 t111,.string (⟨#[]⟩:BA_),.slice none 0 0]) ?_ 4 _ rfl;(with_reducible repeat(first|refine blk_drewN ?_ _|refine blk_drew ?_|refine blk_alloc ?_ _));refine blk_put (cs:=#[.int .i64 3,.int .i64 (wrap64 (1+t105)),.int .i64 (wrap64 (1+t108)),.int .i64 0,.string (⟨#[]⟩:BA_),.slice none 0 0]) ?_ 3 _ rfl;(with_reducible repeat(first|refine blk_drewN ?_ _|refine blk_drew ?_|refine blk_alloc ?_ _));refine blk_put (cs:=#[.int .i64 3,.int .i64 (wrap64 (1+t105)),.int .i64 0,.int .i64 0,.string (⟨#[]⟩:BA_),.slice none 0 0]) ?_ 2 _ rfl;(with_reducible repeat(first|refine blk_drewN ?_ _|refine blk_drew ?_|refine blk_alloc ?_ _));refine blk_put (cs:=#[.int .i64 3,.int .i64 0,.int .i64 0,.int .i64 0,.string (⟨#[]⟩:BA_),.slice none 0 0]) ?_ 1 _ rfl;(with_reducible repeat(first|refine blk_drewN ?_ _|refine blk_drew ?_|refine blk_alloc ?_ _));refine blk_put (cs:=z27_.b0) ?_ 0 _ rfl;(with_reducible repeat(first|refine blk_drewN ?_ _|refine blk_drew ?_|refine blk_alloc ?_ _));exact BK101.out) Try.underlying31 rfl qK) rfl ?_;exact⟨_,qee_,by(with_reducible repeat(first|apply Kd.R_alloc|apply Kd.R_drewN|apply Kd.R_drew));exact Kd.R_mono (qf6_ HO_118005 BK101) (fun _ hk=>trivial),qI77HI0,qBHB,qKHK⟩


/-! ### z14_: function 14 -/
def z14_.f (k:Nat) (l0:List Int):Option (Int × Int × Int × Int × ByteArray × (List (S54))):=(z26_.f l0).bind fun bt102=>((z27_.f k bt102.1 bt102.2.1 bt102.2.2).bind fun bt106=>(some (bt106.1,bt106.2.1,bt106.2.2.1,bt106.2.2.2.1,bt106.2.2.2.2.1,bt106.2.2.2.2.2.1)))
theorem z14_.mono:∀ a0 k,LeO (z14_.f k a0) (z14_.f (k+1) a0):=by
 intro a0 k
 unfold z14_.f
 repeat' first
   | (with_reducible exact z27_.mono _ _ _ _)
   | (with_reducible exact LeO.refl _)
   | (with_reducible exact LeO.none _)
   | (with_reducible refine LeO.ite ?_ ?_)
   | (with_reducible refine LeO.bind ?_ (fun _=> ?_))
   | exact z27_.mono _ _ _ _
   | exact LeO.none _
   | refine LeO.ite ?_ ?_
   | refine LeO.bind ?_ (fun _=> ?_)
set_option maxHeartbeats 8000000 in
set_option maxRecDepth 100000 in
theorem z14_.calls (k:Nat) (A0:Option Addr) (c0:Nat) (l0:List Int) (r1:Int) (r2:Int) (r3:Int) (r4:Int) (r5:ByteArray) (r6:List (S54)) (w:World) (hr0:Kd.C (Kd.int .u8) w A0 l0.length l0) (hc0:l0.length≤c0) (h:z14_.f k l0=some (r1,r2,r3,r4,r5,r6)) :
  Calls Try.prog 14 #[.slice A0 l0.length c0] w fun e w' => ∃ v5_:Value,e= .returned (.agg #[.int .i64 r1,.int .i64 r2,.int .i64 r3,.int .i64 r4,.string r5,v5_])∧Kd.R k54 54 w' w.heap.size (fun _=>True) v5_ r6∧Below w.heap.size w w' := by
 have hu31:=Try.underlying31
 have HR0:=qM_ hr0
 have HC0:=qM_ hc0
 clear hr0 hc0
 have HB:=qM_ (Below.refl w.heap.size w)
 have H:((z26_.f l0).bind fun bt102=>((z27_.f k bt102.1 bt102.2.1 bt102.2.2).bind fun bt106=>(some (bt106.1,bt106.2.1,bt106.2.2.1,bt106.2.2.2.1,bt106.2.2.2.2.1,bt106.2.2.2.2.2.1))))=some (r1,r2,r3,r4,r5,r6):=h
 clear h
 replace H:=Option.bind_eq_some_iff.mp H
 obtain⟨⟨t102,t103,t104⟩,A20,H⟩:=H
 dsimp only at H
 have A2:=qM_ A20
 clear A20
 replace H:=Option.bind_eq_some_iff.mp H
 obtain⟨⟨t106,t107,t108,t109,t110,t111,t114,t115⟩,A30,H⟩:=H
 dsimp only at H
 have A3:=qM_ A30
 clear A30
 simp only[Option.some.injEq,Prod.mk.injEq]at H
 obtain⟨rfl,rfl,rfl,rfl,rfl,rfl⟩:=H
 go_enter Try.func14,Try.ntmps14
 go_wp2_with (first|((with_reducible refine gate_dst (N:=2) rfl ?_);refine box_event ?hg (N:=2) ?hd (cs:=#[.int .i64 0,.int .i64 0,.int .i64 0,.int .i64 0,.string (⟨#[]⟩:BA_),.slice none 0 0]) (t:=31) ?hr ?_;(case hd=>rfl);(case hg=>rfl);(case hr=>first|(go_simp;done)|(go_simp;rfl));intro gb101 hg w4 hbox hb;have BK101:=qM_ (hbox);have GW101:=qM_ ((by rw[hg];exact(below_size qBHB):w.heap.size≤gb101));have GE101:=qM_ ((by rw[hg];exact(below_size qBHB):w.heap.size≤gb101));replace HB:=qM_ (below_step qBHB hb);clear hb hbox hg)|((with_reducible refine gate_callee (f:=26) rfl ?_);refine goesL_ (some 4) rfl rfl Try.func26 qK rfl #[.slice A0 l0.length c0] rfl qll_ ?_;(with_reducible refine(z26_.calls _ _ l0 t102 t103 t104 w _ ?side1 ?side2 ?side3 A2.out).mono ?_);(case side1=>exact qBHB);(case side2=>exact HR0.out);(case side3=>exact HC0.out);rintro e w5 ⟨g105,rfl,hi,hb,hb2⟩;refine⟨_,rfl,?_⟩;replace HB:=qM_ (hb);have HI105:=qM_ (hi);have NB105_101:=qM_ (IsS77.ne_blk hi (blk_below (qk_ BK101) hb2) (by decide));have NB101_105:=qM_ (Ne.symm (IsS77.ne_blk hi (blk_below (qk_ BK101) hb2) (by decide)));replace BK101:=qM_ (blk_below (qk_ BK101) hb2);(try clear hb);(try clear hb2);(try clear hk);(try clear hi))|((with_reducible refine gate_callee (f:=27) rfl ?_);refine goesL_ (some 5) rfl rfl Try.func27 qK rfl #[.pointer (some ⟨g105,0,none⟩)] rfl qll_ ?_;(with_reducible refine(z27_.calls k g105 t102 t103 t104 t106 t107 t108 t109 t110 t111 t114 t115 w _ ?side1 ?side2 A3.out).mono ?_);(case side1=>exact qI77HI105);(case side2=>exact qBHB);rintro e w6 ⟨v112,rfl,ho0,hi,hb,hk⟩;refine⟨_,rfl,?_⟩;replace BK101:=qM_ (KeepBut.blk hk (qk_ BK101) NB101_105.out (by simp));have HO113:=qM_ (Kd.R_lower ho0 (below_size qBHB));replace HB:=qM_ (hb);replace HI105:=qM_ (hi);(try clear hb);(try clear hb2);(try clear hk);(try clear hi);(try clear ho0);have hnb7:=NB101_105.out;have hnc7:=NB105_101.out;obtain⟨hcz8_0,hcz8_1,hcz8_2,hcz8_3,hcz8_4,hcz8_5,hfz8_0⟩:=qc6_ BK101;obtain⟨Ao9,co9,eo9⟩:=Kd.R_slice HO113.out;subst eo9))
 refine bodyPost_ret (results_cell_row rfl _ _ gb101 31 #[.int .i64 t106,.int .i64 t107,.int .i64 t108,.int .i64 t109,.string t110,.slice Ao9 t111.length co9] (0,0) _ rfl (by(with_reducible repeat(first|refine blk_drewN ?_ _|refine blk_drew ?_|refine blk_alloc ?_ _));refine blk_put (cs:=#[.int .i64 t106,.int .i64 t107,.int .i64 t108,.int .i64 t109,.string t110,.slice none 0 0]) ?_ 5 _ rfl;(with_reducible repeat(first|refine blk_drewN ?_ _|refine blk_drew ?_|refine blk_alloc ?_ _));refine blk_put (cs:=#[.int .i64 t106,.int .i64 t107,.int .i64 t108,.int .i64 t109,.string (⟨#[]⟩:BA_),.slice none 0 0]) ?_ 4 _ rfl;(with_reducible repeat(first|refine blk_drewN ?_ _|refine blk_drew ?_|refine blk_alloc ?_ _));refine blk_put (cs:=#[.int .i64 t106,.int .i64 t107,.int .i64 t108,.int .i64 0,.string (⟨#[]⟩:BA_),.slice none 0 0]) ?_ 3 _ rfl;(with_reducible repeat(first|refine blk_drewN ?_ _|refine blk_drew ?_|refine blk_alloc ?_ _));refine blk_put (cs:=#[.int .i64 t106,.int .i64 t107,.int .i64 0,.int .i64 0,.string (⟨#[]⟩:BA_),.slice none 0 0]) ?_ 2 _ rfl;(with_reducible repeat(first|refine blk_drewN ?_ _|refine blk_drew ?_|refine blk_alloc ?_ _));refine blk_put (cs:=#[.int .i64 t106,.int .i64 0,.int .i64 0,.int .i64 0,.string (⟨#[]⟩:BA_),.slice none 0 0]) ?_ 1 _ rfl;(with_reducible repeat(first|refine blk_drewN ?_ _|refine blk_drew ?_|refine blk_alloc ?_ _));refine blk_put (cs:=#[.int .i64 0,.int .i64 0,.int .i64 0,.int .i64 0,.string (⟨#[]⟩:BA_),.slice none 0 0]) ?_ 0 _ rfl;(with_reducible repeat(first|refine blk_drewN ?_ _|refine blk_drew ?_|refine blk_alloc ?_ _));exact BK101.out) Try.underlying31 rfl qK) rfl ?_
 exact⟨_,qee_,by(with_reducible repeat(first|apply Kd.R_alloc|apply Kd.R_drewN|apply Kd.R_drew));exact Kd.R_mono (qf6_ HO113 BK101) (fun _ hk=>trivial),qBHB⟩


/-! ### z33_: function 33 -/
def z33_.f (a0:Int) (a1:Int) (a2:Int):Option (Bool):=if a0≥a1 then(some (decide (a0≤a2)))else(some false)
set_option maxHeartbeats 8000000 in
set_option maxRecDepth 100000 in
theorem z33_.calls (a0:Int) (a1:Int) (a2:Int) (r:Bool) (w:World) (h:z33_.f a0 a1 a2=some r) :
  Calls Try.prog 33 #[.int .i64 a0,.int .i64 a1,.int .i64 a2] w fun e w' => e= .returned (.bool r)∧Drawn0 w w' := by
 have H:(if a0≥a1 then(some (decide (a0≤a2)))else(some false))=some r:=h
 clear h
 by_cases c4:a0≥a1
 ·rw[if_pos c4]at H
  have c4b0:decide (a1≤a0)=true:=decide_eq_true c4;clear c4;obtain rfl:=Option.some.inj H;go_enter Try.func33,Try.ntmps33
  go_wp2
  go_ret;exact⟨by first|rfl|(simp;done)|(simp[*];done),by repeat(first|exact Drawn0.refl _|apply Drawn0.step)⟩
 ·rw[if_neg c4]at H
  have c4b0:decide (a1≤a0)=false:=decide_eq_false c4;clear c4;obtain rfl:=Option.some.inj H;go_enter Try.func33,Try.ntmps33
  go_wp2
  go_ret;exact⟨by first|rfl|(simp;done)|(simp[*];done),by repeat(first|exact Drawn0.refl _|apply Drawn0.step)⟩


/-! ### z53_: function 53 -/
def z53_.f (a0:Int):Option (Bool):=if a0≥48 then(some (decide (a0≤57)))else(some false)
set_option maxHeartbeats 8000000 in
set_option maxRecDepth 100000 in
theorem z53_.calls (a0:Int) (r:Bool) (w:World) (h:z53_.f a0=some r) :
  Calls Try.prog 53 #[.int .u8 a0] w fun e w' => e= .returned (.bool r)∧Drawn0 w w' := by
 have H:(if a0≥48 then(some (decide (a0≤57)))else(some false))=some r:=h
 clear h
 by_cases c2:a0≥48
 ·rw[if_pos c2]at H
  have c2b0:decide (48≤a0)=true:=decide_eq_true c2;clear c2;obtain rfl:=Option.some.inj H;go_enter Try.func53,Try.ntmps53
  go_wp2
  go_ret;exact⟨by first|rfl|(simp;done)|(simp[*];done),by repeat(first|exact Drawn0.refl _|apply Drawn0.step)⟩
 ·rw[if_neg c2]at H
  have c2b0:decide (48≤a0)=false:=decide_eq_false c2;clear c2;obtain rfl:=Option.some.inj H;go_enter Try.func53,Try.ntmps53
  go_wp2
  go_ret;exact⟨by first|rfl|(simp;done)|(simp[*];done),by repeat(first|exact Drawn0.refl _|apply Drawn0.step)⟩


/-! ### z54_: function 54 -/
def z54_.f (a0:Int):Option (Bool):=if a0≥97 then(if a0≤122 then(some true)else(if a0≥65 then(some (decide (a0≤90)))else(some false)))else(if a0≥65 then(some (decide (a0≤90)))else(some false))
set_option maxHeartbeats 8000000 in
set_option maxRecDepth 100000 in
theorem z54_.calls (a0:Int) (r:Bool) (w:World) (h:z54_.f a0=some r) :
  Calls Try.prog 54 #[.int .u8 a0] w fun e w' => e= .returned (.bool r)∧Drawn0 w w' := by
 have H:(if a0≥97 then(if a0≤122 then(some true)else(if a0≥65 then(some (decide (a0≤90)))else(some false)))else(if a0≥65 then(some (decide (a0≤90)))else(some false)))=some r:=h
 clear h
 by_cases c2:a0≥97
 ·rw[if_pos c2]at H
  have c2b0:decide (97≤a0)=true:=decide_eq_true c2;clear c2;by_cases c3:a0≤122
  ·rw[if_pos c3]at H
   have c3b0:decide (a0≤122)=true:=decide_eq_true c3;clear c3;obtain rfl:=Option.some.inj H;go_enter Try.func54,Try.ntmps54
   go_wp2
   go_ret;exact⟨by first|rfl|(simp;done)|(simp[*];done),by repeat(first|exact Drawn0.refl _|apply Drawn0.step)⟩
  ·rw[if_neg c3]at H
   have c3b0:decide (a0≤122)=false:=decide_eq_false c3;clear c3;by_cases c4:a0≥65
   ·rw[if_pos c4]at H
    have c4b0:decide (65≤a0)=true:=decide_eq_true c4;clear c4;obtain rfl:=Option.some.inj H;go_enter Try.func54,Try.ntmps54
    go_wp2
    go_ret;exact⟨by first|rfl|(simp;done)|(simp[*];done),by repeat(first|exact Drawn0.refl _|apply Drawn0.step)⟩
   ·rw[if_neg c4]at H
    have c4b0:decide (65≤a0)=false:=decide_eq_false c4;clear c4;obtain rfl:=Option.some.inj H;go_enter Try.func54,Try.ntmps54
    go_wp2
    go_ret;exact⟨by first|rfl|(simp;done)|(simp[*];done),by repeat(first|exact Drawn0.refl _|apply Drawn0.step)⟩
 ·rw[if_neg c2]at H
  have c2b0:decide (97≤a0)=false:=decide_eq_false c2;clear c2;by_cases c5:a0≥65
  ·rw[if_pos c5]at H
   have c5b0:decide (65≤a0)=true:=decide_eq_true c5;clear c5;obtain rfl:=Option.some.inj H;go_enter Try.func54,Try.ntmps54
   go_wp2
   go_ret;exact⟨by first|rfl|(simp;done)|(simp[*];done),by repeat(first|exact Drawn0.refl _|apply Drawn0.step)⟩
  ·rw[if_neg c5]at H
   have c5b0:decide (65≤a0)=false:=decide_eq_false c5;clear c5;obtain rfl:=Option.some.inj H;go_enter Try.func54,Try.ntmps54
   go_wp2
   go_ret;exact⟨by first|rfl|(simp;done)|(simp[*];done),by repeat(first|exact Drawn0.refl _|apply Drawn0.step)⟩


/-! ### z29_: function 29 -/
mutual
def z29_.j0:Nat→ByteArray→Bool→Option (Bool)
 | 0,_,_=>none
 | k+1,x0,x12=>if x12=true then(some false)else(z29_.l0 k x0 (x0.size:Int) 0)
def z29_.l0:Nat→ByteArray→Int→Int→Option (Bool)
 | 0,_,_,_=>none
 | k+1,x0,x14,x15=>if x15 < x14 then(if 0≤x15 then(if x15 < (x0.size:Int)then((z54_.f (bt x0 x15)).bind fun t103=>(if t103=true then(z29_.l0 k x0 x14 (wrap64 (x15+1)))else((z53_.f (bt x0 x15)).bind fun t104=>(if t104=true then(z29_.l0 k x0 x14 (wrap64 (x15+1)))else(if(bt x0 x15)=95 then(z29_.l0 k x0 x14 (wrap64 (x15+1)))else(some false))))))else(none))else(none))else(some true)
end
def z29_.f (k:Nat) (a0:ByteArray):Option (Bool):=(z33_.f (a0.size:Int) 1 40).bind fun t101=>(if t101=true then(if 0 < (a0.size:Int)then((z53_.f (bt a0 0)).bind fun t102=>(z29_.j0 k a0 t102))else(none))else(z29_.j0 k a0 true))
theorem z29_.mono_l:∀ k,(∀ y0 y1,LeO (z29_.j0 k y0 y1) (z29_.j0 (k+1) y0 y1))∧(∀ y0 y1 y2,LeO (z29_.l0 k y0 y1 y2) (z29_.l0 (k+1) y0 y1 y2))
 | 0=>⟨fun _ _ r h=>by simp[z29_.j0]at h,fun _ _ _ r h=>by simp[z29_.l0]at h⟩
 | k+1=>by
  obtain⟨ih0,ih1⟩:=z29_.mono_l k;refine⟨?_,?_⟩
  ·intro y0 y1
   unfold z29_.j0
   repeat' first
   | (with_reducible exact ih0 _ _)
   | (with_reducible exact ih1 _ _ _)
   | (with_reducible exact LeO.refl _)
   | (with_reducible exact LeO.none _)
   | (with_reducible refine LeO.ite ?_ ?_)
   | (with_reducible refine LeO.bind ?_ (fun _=> ?_))
   | exact ih0 _ _
   | exact ih1 _ _ _
   | exact LeO.none _
   | refine LeO.ite ?_ ?_
   | refine LeO.bind ?_ (fun _=> ?_)
  ·intro y0 y1 y2
   unfold z29_.l0
   repeat' first
   | (with_reducible exact ih0 _ _)
   | (with_reducible exact ih1 _ _ _)
   | (with_reducible exact LeO.refl _)
   | (with_reducible exact LeO.none _)
   | (with_reducible refine LeO.ite ?_ ?_)
   | (with_reducible refine LeO.bind ?_ (fun _=> ?_))
   | exact ih0 _ _
   | exact ih1 _ _ _
   | exact LeO.none _
   | refine LeO.ite ?_ ?_
   | refine LeO.bind ?_ (fun _=> ?_)
theorem z29_.mono:∀ a0 k,LeO (z29_.f k a0) (z29_.f (k+1) a0):=by
 intro a0 k
 obtain⟨ih0,ih1⟩:=z29_.mono_l k
 unfold z29_.f
 repeat' first
   | (with_reducible exact ih0 _ _)
   | (with_reducible exact ih1 _ _ _)
   | (with_reducible exact LeO.refl _)
   | (with_reducible exact LeO.none _)
   | (with_reducible refine LeO.ite ?_ ?_)
   | (with_reducible refine LeO.bind ?_ (fun _=> ?_))
   | exact ih0 _ _
   | exact ih1 _ _ _
   | exact LeO.none _
   | refine LeO.ite ?_ ?_
   | refine LeO.bind ?_ (fun _=> ?_)
set_option maxHeartbeats 8000000 in
set_option maxRecDepth 100000 in
theorem z29_.calls (k:Nat) (a0:ByteArray) (r:Bool) (w:World) (h:z29_.f k a0=some r) :
  Calls Try.prog 29 #[.string a0] w fun e w' => e= .returned (.bool r)∧Drawn0 w w' := by
 have H:((z33_.f (a0.size:Int) 1 40).bind fun t101=>(if t101=true then(if 0 < (a0.size:Int)then((z53_.f (bt a0 0)).bind fun t102=>(z29_.j0 k a0 t102))else(none))else(z29_.j0 k a0 true)))=some r:=h
 clear h
 have HC2:=qM_ H
 clear H
 go_enter Try.func29,Try.ntmps29
 go_upto_region 1 with (fail)
 go_cut [12] (fun v12 wc=>∃(kq:Nat) (x12_1:Bool),v12= .bool x12_1∧Aside0 (z29_.j0 kq a0 x12_1=some r)∧Aside0 (kq≤k)∧Drawn0 w wc)
 case first =>
  have H:=HC2.out;clear HC2;replace H:=Option.bind_eq_some_iff.mp H;obtain⟨t101,A30,H⟩:=H;have A3:=qM_ A30;clear A30;by_cases c4:t101=true
  ·subst c4
   have H1:(if 0 < (a0.size:Int)then((z53_.f (bt a0 0)).bind fun t102=>(z29_.j0 k a0 t102))else(none))=some r:=by rw[if_pos rfl]at H;exact H
   clear H;have H:=H1;clear H1;by_cases c5:0 < (a0.size:Int)
   ·rw[if_pos c5]at H
    have c5b0:decide (0 < (a0.size:Int))=true:=decide_eq_true c5;have c5b1:decide (0 < a0.size)=true:=decide_eq_true (by omega);clear c5
    (first|rw[c5b0]|(simp only[i64_w,i32_w];rw[c5b0])|skip)
    replace H:=Option.bind_eq_some_iff.mp H;obtain⟨t102,A70,H⟩:=H;have A7:=qM_ A70;clear A70;have H' := qM_ H;clear H
    go_wp2_with (first|((with_reducible refine gate_callee (f:=33) rfl ?_);refine goesL_ (some 6) rfl rfl Try.func33 qK rfl #[.int .i64 (a0.size:Int),.int .i64 1,.int .i64 40] rfl qll_ ?_;(with_reducible refine(z33_.calls (a0.size:Int) 1 40 true _ A3.out).mono ?_);rintro e w' ⟨rfl,⟨nd,rfl⟩⟩;refine⟨_,rfl,?_⟩;have p6:0≤(0:Int):=(by omega);have q6:0 < a0.size:=(by have:(0:Int) < (a0.size:Int):=qd_;omega);have hx6:∀ h:0 < a0.size,((a0[0]'h).toNat:Int)=bt a0 0:=bt_at a0 0;clear p6;have qi6:(0 < (a0.size:Int))=True:=eq_true (qd_);replace q6:=eq_true q6)|(go_at_call 53;(with_reducible refine(z53_.calls (bt a0 0) t102 _ A7.out).mono ?_);rintro e w' ⟨rfl,⟨nd,rfl⟩⟩))
    go_meet
    case rel=>exact⟨_,(t102),qff_,H', ⟨by first|omega|exact Nat.le_refl _⟩,by repeat(first|exact Drawn0.refl _|apply Drawn0.step)⟩
   ·rw[if_neg c5]at H
    exact absurd H (by simp)
  ·replace c4:=Bool.eq_false_iff.mpr c4
   subst c4
   have H1:(z29_.j0 k a0 true)=some r:=by rw[if_neg (show ¬(false=true)by decide)]at H;exact H
   clear H;have H:=H1;clear H1;have H' := qM_ H;clear H
   go_wp2_with (first|((with_reducible refine gate_callee (f:=33) rfl ?_);refine goesL_ (some 6) rfl rfl Try.func33 qK rfl #[.int .i64 (a0.size:Int),.int .i64 1,.int .i64 40] rfl qll_ ?_;(with_reducible refine(z33_.calls (a0.size:Int) 1 40 false _ A3.out).mono ?_);rintro e w' ⟨rfl,⟨nd,rfl⟩⟩;refine⟨_,rfl,?_⟩))
   go_meet
   case rel=>exact⟨_,(true),qff_,H', ⟨by first|omega|exact Nat.le_refl _⟩,by repeat(first|exact Drawn0.refl _|apply Drawn0.step)⟩
 case rest =>
  clear HC2
  try clear c2
  try clear p2
  try clear c3
  try clear c4
  try clear c5
  try clear c5b0
  try clear c5b1
  try clear p6
  try clear q6
  try clear hx6
  try clear qi6
  try clear p6
  try clear q6
  obtain⟨kq,x12_1,rfl,HA,HJ1,⟨mc1,rfl⟩⟩:=hcut
  cases kq with
  | zero=>exact absurd HA.out (by simp[z29_.j0])
  | succ kj1 =>
   have H:=HA.out;clear HA;simp only[z29_.j0]at H;by_cases c8:x12_1=true
   ·subst c8
    have H1:(some false)=some r:=by rw[if_pos rfl]at H;exact H
    clear H;have H:=H1;clear H1;obtain rfl:=Option.some.inj H
    go_wp2
    go_ret;exact⟨by first|rfl|(simp;done)|(simp[*];done),by repeat(first|exact Drawn0.refl _|apply Drawn0.step)⟩
   ·replace c8:=Bool.eq_false_iff.mpr c8
    subst c8
    have H1:(z29_.l0 kj1 a0 (a0.size:Int) 0)=some r:=by rw[if_neg (show ¬(false=true)by decide)]at H;exact H
    clear H;have H:=H1;clear H1;have H' := qM_ H;clear H
    go_wp2
    go_loopg [15] kj1 (fun kq v15 w' => ∃(x15_2:Int),v15= .int .i64 x15_2∧Aside0 (z29_.l0 kq a0 (a0.size:Int) x15_2=some r)∧Aside0 (kq≤kj1)∧Drawn0 w w')
    case atStart=>exact⟨(0),qff_,H', ⟨Nat.le_refl _⟩,by repeat(first|exact Drawn0.refl _|apply Drawn0.step)⟩
    case round =>
     clear H'
     try clear c1
     try clear c2
     try clear p2
     try clear c3
     try clear c4
     try clear c5
     try clear c5b0
     try clear c5b1
     try clear p6
     try clear q6
     try clear hx6
     try clear qi6
     try clear c8
     try clear p2
     try clear p6
     try clear q6
     obtain⟨x15_2,rfl,HA,HK2,⟨m2,rfl⟩⟩:=hrel
     cases gk with
     | zero=>exact absurd HA.out (by simp[z29_.l0])
     | succ k2 =>
      have H:=HA.out;clear HA;simp only[z29_.l0]at H;by_cases c9:x15_2 < (a0.size:Int)
      ·rw[if_pos c9]at H
       have c9b0:decide (x15_2 < (a0.size:Int))=true:=decide_eq_true c9;clear c9;by_cases c10:0≤x15_2
       ·rw[if_pos c10]at H
        have c10b0:decide (0≤x15_2)=true:=decide_eq_true c10;clear c10;by_cases c11:x15_2 < (a0.size:Int)
        ·rw[if_pos c11]at H
         have c11b0:decide (x15_2 < (a0.size:Int))=true:=decide_eq_true c11;clear c11;replace H:=Option.bind_eq_some_iff.mp H;obtain⟨t103,A130,H⟩:=H;have A13:=qM_ A130;clear A130;by_cases c14:t103=true
         ·subst c14
          have H1:(z29_.l0 k2 a0 (a0.size:Int) (wrap64 (x15_2+1)))=some r:=by rw[if_pos rfl]at H;exact H
          clear H;have H:=H1;clear H1;have H' := qM_ H;clear H;have p12:0≤(x15_2:Int):=qd_;have q12:x15_2 < (a0.size:Int):=qd_;have hx12:=bt_at a0 x15_2;replace p12:=eq_true p12;replace q12:=eq_true q12
          go_wp2_with (first|((with_reducible refine gate_callee (f:=54) rfl ?_);refine goesL_ (some 21) rfl rfl Try.func54 qK rfl #[.int .u8 (bt a0 x15_2)] rfl qll_ ?_;(with_reducible refine(z54_.calls (bt a0 x15_2) true _ A13.out).mono ?_);rintro e w' ⟨rfl,⟨nd,rfl⟩⟩;refine⟨_,rfl,?_⟩))
          go_roundg k2
          case measure=>have:=HJ1.out;have:=HK2.out;omega
          case rel=>exact⟨(wrap64 (x15_2+1)),qff_,H', ⟨by have:=HJ1.out;have:=HK2.out;omega⟩,by repeat(first|exact Drawn0.refl _|apply Drawn0.step)⟩
         ·replace c14:=Bool.eq_false_iff.mpr c14
          subst c14
          have H1:((z53_.f (bt a0 x15_2)).bind fun t104=>(if t104=true then(z29_.l0 k2 a0 (a0.size:Int) (wrap64 (x15_2+1)))else(if(bt a0 x15_2)=95 then(z29_.l0 k2 a0 (a0.size:Int) (wrap64 (x15_2+1)))else(some false))))=some r:=by rw[if_neg (show ¬(false=true)by decide)]at H;exact H
          clear H;have H:=H1;clear H1;replace H:=Option.bind_eq_some_iff.mp H;obtain⟨t104,A160,H⟩:=H;have A16:=qM_ A160;clear A160;by_cases c17:t104=true
          ·subst c17
           have H1:(z29_.l0 k2 a0 (a0.size:Int) (wrap64 (x15_2+1)))=some r:=by rw[if_pos rfl]at H;exact H
           clear H;have H:=H1;clear H1;have H' := qM_ H;clear H;have p12:0≤(x15_2:Int):=qd_;have q12:x15_2 < (a0.size:Int):=qd_;have hx12:=bt_at a0 x15_2;replace p12:=eq_true p12;replace q12:=eq_true q12
           go_wp2_with (first|((with_reducible refine gate_callee (f:=54) rfl ?_);refine goesL_ (some 21) rfl rfl Try.func54 qK rfl #[.int .u8 (bt a0 x15_2)] rfl qll_ ?_;(with_reducible refine(z54_.calls (bt a0 x15_2) false _ A13.out).mono ?_);rintro e w' ⟨rfl,⟨nd,rfl⟩⟩;refine⟨_,rfl,?_⟩;have p15:0≤(x15_2:Int):=qd_;have q15:x15_2 < (a0.size:Int):=qd_;have hx15:=bt_at a0 x15_2;replace p15:=eq_true p15;replace q15:=eq_true q15)|(go_at_call 53;(with_reducible refine(z53_.calls (bt a0 x15_2) true _ A16.out).mono ?_);rintro e w' ⟨rfl,⟨nd,rfl⟩⟩))
           go_roundg k2
           case measure=>have:=HJ1.out;have:=HK2.out;omega
           case rel=>exact⟨(wrap64 (x15_2+1)),qff_,H', ⟨by have:=HJ1.out;have:=HK2.out;omega⟩,by repeat(first|exact Drawn0.refl _|apply Drawn0.step)⟩
          ·replace c17:=Bool.eq_false_iff.mpr c17
           subst c17
           have H1:(if(bt a0 x15_2)=95 then(z29_.l0 k2 a0 (a0.size:Int) (wrap64 (x15_2+1)))else(some false))=some r:=by rw[if_neg (show ¬(false=true)by decide)]at H;exact H
           clear H;have H:=H1;clear H1;by_cases c19:(bt a0 x15_2)=95
           ·rw[if_pos c19]at H
            have c19b0:((bt a0 x15_2) == 95)=true:=beq_iff_eq.mpr c19;have c19b1:((bt a0 x15_2) != 95)=false:=bne_eq_false_iff_eq.mpr c19;clear c19;have H' := qM_ H;clear H;have p12:0≤(x15_2:Int):=qd_;have q12:x15_2 < (a0.size:Int):=qd_;have hx12:=bt_at a0 x15_2;replace p12:=eq_true p12;replace q12:=eq_true q12
            go_wp2_with (first|((with_reducible refine gate_callee (f:=54) rfl ?_);refine goesL_ (some 21) rfl rfl Try.func54 qK rfl #[.int .u8 (bt a0 x15_2)] rfl qll_ ?_;(with_reducible refine(z54_.calls (bt a0 x15_2) false _ A13.out).mono ?_);rintro e w' ⟨rfl,⟨nd,rfl⟩⟩;refine⟨_,rfl,?_⟩;have p15:0≤(x15_2:Int):=qd_;have q15:x15_2 < (a0.size:Int):=qd_;have hx15:=bt_at a0 x15_2;replace p15:=eq_true p15;replace q15:=eq_true q15)|(go_at_call 53;(with_reducible refine(z53_.calls (bt a0 x15_2) false _ A16.out).mono ?_);rintro e w' ⟨rfl,⟨nd,rfl⟩⟩;have p18:0≤(x15_2:Int):=qd_;have q18:x15_2 < (a0.size:Int):=qd_;have hx18:=bt_at a0 x15_2;replace p18:=eq_true p18;replace q18:=eq_true q18))
            go_roundg k2
            case measure=>have:=HJ1.out;have:=HK2.out;omega
            case rel=>exact⟨(wrap64 (x15_2+1)),qff_,H', ⟨by have:=HJ1.out;have:=HK2.out;omega⟩,by repeat(first|exact Drawn0.refl _|apply Drawn0.step)⟩
           ·rw[if_neg c19]at H
            have c19b0:((bt a0 x15_2) == 95)=false:=beq_eq_false_iff_ne.mpr c19;have c19b1:((bt a0 x15_2) != 95)=true:=bne_iff_ne.mpr c19;obtain rfl:=Option.some.inj H;have p12:0≤(x15_2:Int):=qd_;have q12:x15_2 < (a0.size:Int):=qd_;have hx12:=bt_at a0 x15_2;replace p12:=eq_true p12;replace q12:=eq_true q12
            go_wp2_with (first|((with_reducible refine gate_callee (f:=54) rfl ?_);refine goesL_ (some 21) rfl rfl Try.func54 qK rfl #[.int .u8 (bt a0 x15_2)] rfl qll_ ?_;(with_reducible refine(z54_.calls (bt a0 x15_2) false _ A13.out).mono ?_);rintro e w' ⟨rfl,⟨nd,rfl⟩⟩;refine⟨_,rfl,?_⟩;have p15:0≤(x15_2:Int):=qd_;have q15:x15_2 < (a0.size:Int):=qd_;have hx15:=bt_at a0 x15_2;replace p15:=eq_true p15;replace q15:=eq_true q15)|(go_at_call 53;(with_reducible refine(z53_.calls (bt a0 x15_2) false _ A16.out).mono ?_);rintro e w' ⟨rfl,⟨nd,rfl⟩⟩;have p18:0≤(x15_2:Int):=qd_;have q18:x15_2 < (a0.size:Int):=qd_;have hx18:=bt_at a0 x15_2;replace p18:=eq_true p18;replace q18:=eq_true q18))
            go_ret;exact⟨by first|rfl|(simp;done)|(simp[*];done),by repeat(first|exact Drawn0.refl _|apply Drawn0.step)⟩
        ·rw[if_neg c11]at H
         exact absurd H (by simp)
       ·rw[if_neg c10]at H
        exact absurd H (by simp)
      ·rw[if_neg c9]at H
       have c9b0:decide (x15_2 < (a0.size:Int))=false:=decide_eq_false c9;clear c9;obtain rfl:=Option.some.inj H
       go_wp2
       go_ret;exact⟨by first|rfl|(simp;done)|(simp[*];done),by repeat(first|exact Drawn0.refl _|apply Drawn0.step)⟩


/-! ### z55_: function 55 (a text of mine) -/
def z55_.f (p:S54→Bool) (l0:List S54):Option Int:=if l0.length≤9223372036854775807 then some (idxOf p l0)else none
set_option maxHeartbeats 8000000 in
set_option maxRecDepth 100000 in
theorem z55_.calls0 (p:S54→Bool) (g:Nat) (lb:Array Value) (eg:∀ args w,(callFunc g args).run Try.prog w= .ok (.enter g args) w) (A0:Option Addr) (c0:Nat) (l0:List S54) (w:World)
  (hp:∀(W:World) (i_:Int),0≤i_→i_ < (l0.length:Int)→Below w.heap.size w W→Calls Try.prog g (#[.agg #[.string ((rd_T54 l0 i_).f0),.string ((rd_T54 l0 i_).f1)]] ++ lb) W fun e w' => e= .returned (.bool (p (rd_T54 l0 i_)))∧Below w.heap.size w w')
  (hr0:Kd.C k54 w A0 l0.length l0) (hn0:l0.length≤9223372036854775807) :
  Calls Try.prog 55 #[.slice A0 l0.length c0,.func (.func g) #[] lb] w fun e w' => e= .returned (.int .i64 (idxOf p l0))∧Below w.heap.size w w' := by
 have hu54:=Try.underlying54
 have HR0:=qM_ hr0
 have HN0:=qM_ hn0
 have HP0:=qM_ hp
 clear hr0 hn0 hp
 go_enter Try.func55,Try.ntmps55
 go_wp2
 go_loopg [5,8] l0.length (fun gg _ s8 wr=>∃ x5:Int,s8= .int .i64 x5∧Aside0 (0≤x5∧x5≤l0.length∧l0.length - x5.toNat≤gg)∧Aside0 (Below w.heap.size w wr)∧Aside0 (∀ j,j < x5.toNat→p (l0.getD j z54)=false))
 case atStart=>exact⟨0,rfl,⟨by omega,by omega,by omega⟩,⟨Below.refl _ w⟩,⟨fun j hj=>absurd hj (Nat.not_lt_zero _)⟩⟩
 case round =>
  obtain⟨x5,rfl,HK,HB,HA⟩:=hrel;by_cases hlt:x5 < (l0.length:Int)
  ·have p101:0≤(x5:Int):=HK.out.1
   have q101:x5 < (l0.length:Int):=hlt
   have hb5:wrap64 (x5+1)=x5+1:=by have:=HN0.out;unfold wrap64;omega
   have HW:=qM_ hb5;clear hb5;obtain⟨ad101,e101,hx101_0,hx101_1⟩:=at_T54 HR0.out x5 p101 q101;cases e101;replace hx101_0:=(HB.out.cell (qL_ w _ hx101_0)).trans hx101_0;replace hx101_1:=(HB.out.cell (qL_ w _ hx101_1)).trans hx101_1;have hcall:=HP0.out _ x5 p101 q101 HB.out;have hlt' : decide (x5 < (l0.length:Int))=true:=decide_eq_true hlt;have H1:=qM_ hlt;clear hlt;replace p101:=eq_true p101;replace q101:=eq_true q101
   cases hq:p (rd_T54 l0 x5)with
   | true =>
    rw[hq]at hcall;have HQ:=qM_ hq;clear hq
    go_wp2_with (go_at_fn g;refine hcall.mono ?_;rintro e w' ⟨rfl,hb'⟩)
    go_ret;refine⟨?_,hb'⟩;rw[idxOf_hit p l0 z54 x5.toNat (by have:=HK.out;have:=H1.out;omega) HQ.out HA.out,Int.toNat_of_nonneg HK.out.1]
    rfl
   | false =>
    rw[hq]at hcall;have HQ:=qM_ hq;clear hq
    go_wp2_with (go_at_fn g;refine hcall.mono ?_;rintro e w' ⟨rfl,hb'⟩)
    go_roundg (l0.length - (x5.toNat+1))
    case measure=>have:=HK.out;have:=H1.out;omega
    case rel =>
     refine⟨x5+1,(by first|rfl|(rw[HW.out];done)|(simp[HW.out];done)),⟨⟨by have:=HK.out;omega,by have:=H1.out;omega,by have:=HK.out;omega⟩⟩,⟨hb'⟩,⟨fun j hj=> ?_⟩⟩;by_cases e:j=x5.toNat
     ·subst e;exact HQ.out
     ·exact HA.out j (by have:=HK.out;omega)
  ·have hlt' : decide (x5 < (l0.length:Int))=false:=decide_eq_false hlt
   have H1:=qM_ hlt;clear hlt
   go_wp2
   go_ret;refine⟨?_,HB.out⟩;rw[idxOf_miss p l0 z54 (fun j hj=>HA.out j (by have:=HK.out;have:=H1.out;omega))]
   rfl
theorem z55_.calls (p:S54→Bool) (g:Nat) (lb:Array Value) (eg:∀ args w,(callFunc g args).run Try.prog w= .ok (.enter g args) w) (A0:Option Addr) (c0:Nat) (l0:List S54) (w:World)
  (hp:∀(W:World) (i_:Int),0≤i_→i_ < (l0.length:Int)→Below w.heap.size w W→Calls Try.prog g (#[.agg #[.string ((rd_T54 l0 i_).f0),.string ((rd_T54 l0 i_).f1)]] ++ lb) W fun e w' => e= .returned (.bool (p (rd_T54 l0 i_)))∧Below w.heap.size w w')
  (hr0:Kd.C k54 w A0 l0.length l0) (hc0:l0.length≤c0) (hn0:l0.length≤9223372036854775807) :
  Calls Try.prog 55 #[.slice A0 l0.length c0,.func (.func g) #[] lb] w fun e w' => e= .returned (.int .i64 (idxOf p l0))∧Below w.heap.size w w' :=
 z55_.calls0 p g lb eg A0 c0 l0 w hp hr0 hn0


/-! ### z30_: function 30 (a text of mine) -/
def z30_.f (p:S54→Bool) (l0:List S54):Option Bool:=if l0.length≤9223372036854775807 then some (l0.any p)else none
set_option maxHeartbeats 8000000 in
set_option maxRecDepth 100000 in
theorem z30_.calls (p:S54→Bool) (g:Nat) (lb:Array Value) (eg:∀ args w,(callFunc g args).run Try.prog w= .ok (.enter g args) w) (A0:Option Addr) (c0:Nat) (l0:List S54) (w:World)
  (hp:∀(W:World) (i_:Int),0≤i_→i_ < (l0.length:Int)→Below w.heap.size w W→Calls Try.prog g (#[.agg #[.string ((rd_T54 l0 i_).f0),.string ((rd_T54 l0 i_).f1)]] ++ lb) W fun e w' => e= .returned (.bool (p (rd_T54 l0 i_)))∧Below w.heap.size w w')
  (hr0:Kd.C k54 w A0 l0.length l0) (hc0:l0.length≤c0) (hn0:l0.length≤9223372036854775807) :
  Calls Try.prog 30 #[.slice A0 l0.length c0,.func (.func g) #[] lb] w fun e w' => e= .returned (.bool (l0.any p))∧Below w.heap.size w w' := by
 have HC:=qM_ (z55_.calls p g lb eg A0 c0 l0 w hp hr0 hc0 hn0)
 clear hp hr0 hc0 hn0
 rw[← idxOf_any]
 have e6:∀ args w,(callFunc 55 args).run Try.prog w= .ok (.enter 55 args) w:=enters_ Try.func55 qK rfl
 go_enter Try.func30,Try.ntmps30
 go_wp2_with (go_at_fn 55;refine HC.out.mono ?_;rintro e w' ⟨rfl,hb'⟩)
 go_ret
 exact⟨rfl,hb'⟩


/-! ### z56_: function 56 -/
def z56_.f (a0:ByteArray):Option (Bool):=(z33_.f (a0.size:Int) 1 200).bind fun t101=>(some t101)
set_option maxHeartbeats 8000000 in
set_option maxRecDepth 100000 in
theorem z56_.calls (a0:ByteArray) (r:Bool) (w:World) (h:z56_.f a0=some r) :
  Calls Try.prog 56 #[.string a0] w fun e w' => e= .returned (.bool r)∧Drawn0 w w' := by
 have H:((z33_.f (a0.size:Int) 1 200).bind fun t101=>(some t101))=some r:=h
 clear h
 replace H:=Option.bind_eq_some_iff.mp H
 obtain⟨t101,A20,H⟩:=H
 have A2:=qM_ A20
 clear A20
 obtain rfl:=Option.some.inj H
 go_enter Try.func56,Try.ntmps56
 go_wp2_with (first|((with_reducible refine gate_callee (f:=33) rfl ?_);refine goesL_ (some 5) rfl rfl Try.func33 qK rfl #[.int .i64 (a0.size:Int),.int .i64 1,.int .i64 200] rfl qll_ ?_;(with_reducible refine(z33_.calls (a0.size:Int) 1 200 t101 _ A2.out).mono ?_);rintro e w' ⟨rfl,⟨nd,rfl⟩⟩;refine⟨_,rfl,?_⟩))
 go_ret
 exact⟨by first|rfl|(simp;done)|(simp[*];done),by repeat(first|exact Drawn0.refl _|apply Drawn0.step)⟩


/-! ### z32_: function 32 -/
def z32_.f (a0_0:ByteArray) (a0_1:ByteArray):Option (Bool):=(z56_.f a0_0).bind fun t102=>(if t102=true then(some (decide ((a0_1.size:Int)≤4000)))else(some false))
set_option maxHeartbeats 8000000 in
set_option maxRecDepth 100000 in
theorem z32_.calls (a0_0:ByteArray) (a0_1:ByteArray) (r:Bool) (w:World) (h:z32_.f a0_0 a0_1=some r) :
  Calls Try.prog 32 #[.agg #[.string a0_0,.string a0_1]] w fun e w' => e= .returned (.bool r)∧Below w.heap.size w w' := by
 have hu54:=Try.underlying54
 have HB:=qM_ (Below.refl w.heap.size w)
 have H:((z56_.f a0_0).bind fun t102=>(if t102=true then(some (decide ((a0_1.size:Int)≤4000)))else(some false)))=some r:=h
 clear h
 replace H:=Option.bind_eq_some_iff.mp H
 obtain⟨t102,A20,H⟩:=H
 have A2:=qM_ A20
 clear A20
 by_cases c3:t102=true
 ·subst c3
  have H1:(some (decide ((a0_1.size:Int)≤4000)))=some r:=by rw[if_pos rfl]at H;exact H
  clear H;have H:=H1;clear H1;obtain rfl:=Option.some.inj H;go_enter Try.func32,Try.ntmps32
  go_wp2_with (first|((with_reducible refine gate_dst (N:=1) rfl ?_);(try(refine gate_guard (by rfl) ?_;dsimp only));refine box_event ?hg (N:=1) ?hd (cs:=#[.string a0_0,.string a0_1]) (t:=54) ?hr ?_;(case hd=>rfl);(case hg=>rfl);(case hr=>first|(go_simp;done)|(go_simp;rfl));intro gb101 hg w4 hbox hb;have BK101:=qM_ (hbox);have GW101:=qM_ ((by rw[hg];exact(below_size qBHB):w.heap.size≤gb101));have GE101:=qM_ ((by rw[hg];exact(below_size qBHB):w.heap.size≤gb101));replace HB:=qM_ (below_step qBHB hb);clear hb hbox hg;obtain⟨hcz5_0,hcz5_1,hfz5_0⟩:=qc2_ BK101)|((with_reducible refine gate_callee (f:=56) rfl ?_);refine goesL_ (some 5) rfl rfl Try.func56 qK rfl #[.string a0_0] rfl qll_ ?_;(with_reducible refine(z56_.calls a0_0 true _ A2.out).mono ?_);rintro e w' ⟨rfl,⟨nd,rfl⟩⟩;refine⟨_,rfl,?_⟩))
  go_ret;exact⟨qee_,qBHB⟩
 ·replace c3:=Bool.eq_false_iff.mpr c3
  subst c3
  have H1:(some false)=some r:=by rw[if_neg (show ¬(false=true)by decide)]at H;exact H
  clear H;have H:=H1;clear H1;obtain rfl:=Option.some.inj H;go_enter Try.func32,Try.ntmps32
  go_wp2_with (first|((with_reducible refine gate_dst (N:=1) rfl ?_);(try(refine gate_guard (by rfl) ?_;dsimp only));refine box_event ?hg (N:=1) ?hd (cs:=#[.string a0_0,.string a0_1]) (t:=54) ?hr ?_;(case hd=>rfl);(case hg=>rfl);(case hr=>first|(go_simp;done)|(go_simp;rfl));intro gb101 hg w6 hbox hb;have BK101:=qM_ (hbox);have GW101:=qM_ ((by rw[hg];exact(below_size qBHB):w.heap.size≤gb101));have GE101:=qM_ ((by rw[hg];exact(below_size qBHB):w.heap.size≤gb101));replace HB:=qM_ (below_step qBHB hb);clear hb hbox hg;obtain⟨hcz7_0,hcz7_1,hfz7_0⟩:=qc2_ BK101)|((with_reducible refine gate_callee (f:=56) rfl ?_);refine goesL_ (some 5) rfl rfl Try.func56 qK rfl #[.string a0_0] rfl qll_ ?_;(with_reducible refine(z56_.calls a0_0 false _ A2.out).mono ?_);rintro e w' ⟨rfl,⟨nd,rfl⟩⟩;refine⟨_,rfl,?_⟩))
  go_ret;exact⟨qee_,qBHB⟩

end Go.Proofs.Ytbjefkeogbophaa.P
