/- Part 16 of what the law FnMutations stands on; the last part ends with the law's row. No condition of mine. -/
import Derived.Test.YtbjefkeogbophaaMFnMutations1
import Derived.Test.YtbjefkeogbophaaMFnMutations9
import Derived.Test.YtbjefkeogbophaaMFnMutations11
import Derived.Test.YtbjefkeogbophaaMFnMutations10
import Derived.Test.YtbjefkeogbophaaMFnMutations14
import Derived.Test.YtbjefkeogbophaaMFnMutations15
import Derived.Lib.Strings
import Derived.Lib.IndexBytes
import Derived.Laws.BitsLemmas
import Derived.IntWalk
import Derived.Test.YtbjefkeogbophaaMFnMutations2
import Derived.Lib.ItoaNum
import Derived.Test.YtbjefkeogbophaaMFnMutations5
import Derived.Test.YtbjefkeogbophaaMFnMutations6
import Derived.Test.YtbjefkeogbophaaMFnMutations8
import Derived.Test.YtbjefkeogbophaaMFnMutations7
namespace Go.Proofs.Ytbjefkeogbophaa.P
open Go.RowKit Go.Proofs.YtbjefkeogbophaaW.PrintWords Go.Proofs.YtbjefkeogbophaaW.PrintLast Go.Proofs.YtbjefkeogbophaaW.PrintMore
attribute [local go_sem] max2_int min2_int max_two min_two max_three min_three max_four min_four   -- for this text's walks alone
set_option linter.unusedVariables false
set_option linter.unusedSimpArgs false

/-! ### z4_: function 4 -/
theorem V_string {P:Program} {W:World} {base:Nat} {ok:Nat→Prop} {src dst e:TypeId} {v:Value} {xs:List Int} (hs:P.underlying src=some (.slice e)) (he:P.underlying e=some (.int .u8)) (hd:P.underlying dst=some .string)
  (h:(Kd.int .u8).V e W base ok v xs):(convert src dst v).run P W= .ok (.string (strOfNums xs)) W:=by
 obtain⟨A,c,rfl⟩:=Kd.V_slice h
 exact Kd.C_string hs he hd (Kd.V_reads' h).2.2
mutual
def z4_.j0:Nat→List Int→List Int→Bool→Option (Bool)
 | 0,_,_,_=>none
 | k+1,x0,x1,x25=>if x25=true then(some true)else((z14_.f k x0).bind fun bt101=>((z8_.f k bt101.1 bt101.2.1 bt101.2.2.1 bt101.2.2.2.1 bt101.2.2.2.2.1 bt101.2.2.2.2.2).bind fun bt110=>((z6_.f k bt101.1 bt101.2.1 bt101.2.2.1 bt101.2.2.2.1 bt101.2.2.2.2.1 bt101.2.2.2.2.2).bind fun bt114=>((z15_.f k bt110.1).bind fun bt118=>(if bt110.2=0 then(if(strOfNums bt110.1).toList=(strOfNums bt114.1).toList then(if bt118.2.2.2.2.2.2=0 then((z16_.f k bt118.1 bt118.2.1 bt118.2.2.1 bt118.2.2.2.1 bt118.2.2.2.2.1 bt118.2.2.2.2.2.1 bt101.1 bt101.2.1 bt101.2.2.1 bt101.2.2.2.1 bt101.2.2.2.2.1 bt101.2.2.2.2.2).bind fun t128=>(if t128=true then((z17_.f k bt101.1 bt101.2.1 bt101.2.2.1 bt101.2.2.2.1 bt101.2.2.2.2.1 bt101.2.2.2.2.2).bind fun t129=>(z4_.j1 k x1 (!t129)))else(z4_.j1 k x1 true)))else(z4_.j1 k x1 true))else(z4_.j1 k x1 true))else(z4_.j1 k x1 true))))))
def z4_.j1:Nat→List Int→Bool→Option (Bool)
 | 0,_,_=>none
 | k+1,x1,x66=>if x66=true then(some false)else((z15_.f k x1).bind fun bt130=>((z18_.f k x1).bind fun bt140=>(if bt130.2.2.2.2.2.2=bt140.2.2.2.2.2.2 then(if bt130.2.2.2.2.2.2=0 then((z8_.f k bt130.1 bt130.2.1 bt130.2.2.1 bt130.2.2.2.1 bt130.2.2.2.2.1 bt130.2.2.2.2.2.1).bind fun bt150=>(if bt150.2=0 then(some ((strOfNums bt150.1).toList == (strOfNums x1).toList))else(some false)))else(some true))else(some false))))
end
def z4_.f (k:Nat) (l0:List Int) (l1:List Int):Option (Bool):=if(l0.length:Int) > 1048576 then(z4_.j0 k l0 l1 true)else(z4_.j0 k l0 l1 (decide ((l1.length:Int) > 1048576)))
theorem z4_.mono_l:∀ k,(∀ y0 y1 y2,LeO (z4_.j0 k y0 y1 y2) (z4_.j0 (k+1) y0 y1 y2))∧(∀ y0 y1,LeO (z4_.j1 k y0 y1) (z4_.j1 (k+1) y0 y1))
 | 0=>⟨fun _ _ _ r h=>by simp[z4_.j0]at h,fun _ _ r h=>by simp[z4_.j1]at h⟩
 | k+1=>by
  obtain⟨ih0,ih1⟩:=z4_.mono_l k;refine⟨?_,?_⟩
  ·intro y0 y1 y2
   unfold z4_.j0
   repeat' first
   | (with_reducible exact ih0 _ _ _)
   | (with_reducible exact ih1 _ _)
   | (with_reducible exact z8_.mono _ _ _ _ _ _ _)
   | (with_reducible exact z17_.mono _ _ _ _ _ _ _)
   | (with_reducible exact z15_.mono _ _)
   | (with_reducible exact z16_.mono _ _ _ _ _ _ _ _ _ _ _ _ _)
   | (with_reducible exact z6_.mono _ _ _ _ _ _ _)
   | (with_reducible exact z14_.mono _ _)
   | (with_reducible exact z18_.mono _ _)
   | (with_reducible exact LeO.refl _)
   | (with_reducible exact LeO.none _)
   | (with_reducible refine LeO.ite ?_ ?_)
   | (with_reducible refine LeO.bind ?_ (fun _=> ?_))
   | exact ih0 _ _ _
   | exact ih1 _ _
   | exact z8_.mono _ _ _ _ _ _ _
   | exact z17_.mono _ _ _ _ _ _ _
   | exact z15_.mono _ _
   | exact z16_.mono _ _ _ _ _ _ _ _ _ _ _ _ _
   | exact z6_.mono _ _ _ _ _ _ _
   | exact z14_.mono _ _
   | exact z18_.mono _ _
   | exact LeO.none _
   | refine LeO.ite ?_ ?_
   | refine LeO.bind ?_ (fun _=> ?_)
  ·intro y0 y1
   unfold z4_.j1
   repeat' first
   | (with_reducible exact ih0 _ _ _)
   | (with_reducible exact ih1 _ _)
   | (with_reducible exact z8_.mono _ _ _ _ _ _ _)
   | (with_reducible exact z17_.mono _ _ _ _ _ _ _)
   | (with_reducible exact z15_.mono _ _)
   | (with_reducible exact z16_.mono _ _ _ _ _ _ _ _ _ _ _ _ _)
   | (with_reducible exact z6_.mono _ _ _ _ _ _ _)
   | (with_reducible exact z14_.mono _ _)
   | (with_reducible exact z18_.mono _ _)
   | (with_reducible exact LeO.refl _)
   | (with_reducible exact LeO.none _)
   | (with_reducible refine LeO.ite ?_ ?_)
   | (with_reducible refine LeO.bind ?_ (fun _=> ?_))
   | exact ih0 _ _ _
   | exact ih1 _ _
   | exact z8_.mono _ _ _ _ _ _ _
   | exact z17_.mono _ _ _ _ _ _ _
   | exact z15_.mono _ _
   | exact z16_.mono _ _ _ _ _ _ _ _ _ _ _ _ _
   | exact z6_.mono _ _ _ _ _ _ _
   | exact z14_.mono _ _
   | exact z18_.mono _ _
   | exact LeO.none _
   | refine LeO.ite ?_ ?_
   | refine LeO.bind ?_ (fun _=> ?_)
theorem z4_.mono:∀ a0 a1 k,LeO (z4_.f k a0 a1) (z4_.f (k+1) a0 a1):=by
 intro a0 a1 k
 obtain⟨ih0,ih1⟩:=z4_.mono_l k
 unfold z4_.f
 repeat' first
   | (with_reducible exact ih0 _ _ _)
   | (with_reducible exact ih1 _ _)
   | (with_reducible exact z8_.mono _ _ _ _ _ _ _)
   | (with_reducible exact z17_.mono _ _ _ _ _ _ _)
   | (with_reducible exact z15_.mono _ _)
   | (with_reducible exact z16_.mono _ _ _ _ _ _ _ _ _ _ _ _ _)
   | (with_reducible exact z6_.mono _ _ _ _ _ _ _)
   | (with_reducible exact z14_.mono _ _)
   | (with_reducible exact z18_.mono _ _)
   | (with_reducible exact LeO.refl _)
   | (with_reducible exact LeO.none _)
   | (with_reducible refine LeO.ite ?_ ?_)
   | (with_reducible refine LeO.bind ?_ (fun _=> ?_))
   | exact ih0 _ _ _
   | exact ih1 _ _
   | exact z8_.mono _ _ _ _ _ _ _
   | exact z17_.mono _ _ _ _ _ _ _
   | exact z15_.mono _ _
   | exact z16_.mono _ _ _ _ _ _ _ _ _ _ _ _ _
   | exact z6_.mono _ _ _ _ _ _ _
   | exact z14_.mono _ _
   | exact z18_.mono _ _
   | exact LeO.none _
   | refine LeO.ite ?_ ?_
   | refine LeO.bind ?_ (fun _=> ?_)
abbrev z4_.b0:Array Value:=#[.int .i64 0,.int .i64 0,.int .i64 0,.int .i64 0,.string (⟨#[]⟩:ByteArray),.slice none 0 0]
set_option maxHeartbeats 8000000 in
set_option maxRecDepth 100000 in
theorem z4_.calls (k:Nat) (A0:Option Addr) (c0:Nat) (l0:List Int) (A1:Option Addr) (c1:Nat) (l1:List Int) (r:Bool) (w:World) (hr0:Kd.C (Kd.int .u8) w A0 l0.length l0) (hc0:l0.length≤c0) (hr1:Kd.C (Kd.int .u8) w A1 l1.length l1) (hc1:l1.length≤c1) (h:z4_.f k l0 l1=some r) :
  Calls Try.prog 4 #[.slice A0 l0.length c0,.slice A1 l1.length c1] w fun e w' => e= .returned (.bool r)∧Below w.heap.size w w' := by
 have hu31:=Try.underlying31
 have HR0:=qM_ hr0
 have HC0:=qM_ hc0
 clear hr0 hc0
 have HR1:=qM_ hr1
 have HC1:=qM_ hc1
 clear hr1 hc1
 have HB:=qM_ (Below.refl w.heap.size w)
 have H:(if(l0.length:Int) > 1048576 then(z4_.j0 k l0 l1 true)else(z4_.j0 k l0 l1 (decide ((l1.length:Int) > 1048576))))=some r:=h
 clear h
 have HC3:=qM_ H
 clear H
 go_enter Try.func4,Try.ntmps4
 go_upto_region 1 with (fail)
 go_cut [25] (fun v25 wc=>∃(kq:Nat) (x25_2:Bool),v25= .bool x25_2∧Aside0 (z4_.j0 kq l0 l1 x25_2=some r)∧Aside0 (kq≤k)∧Aside0 (Below w.heap.size w wc))
 case first =>
  have H:=HC3.out;clear HC3;by_cases c4:(l0.length:Int) > 1048576
  ·rw[if_pos c4]at H
   have c4b0:decide (1048576 < (l0.length:Int))=true:=decide_eq_true c4;have c4b1:decide (1048576 < l0.length)=true:=decide_eq_true (by omega);clear c4
   (first|rw[c4b0]|(simp only[i64_w,i32_w];rw[c4b0])|skip)
   have H' := qM_ H;clear H
   go_wp2
   go_meet
   case rel=>exact⟨_,(true),qff_,H', ⟨by first|omega|exact Nat.le_refl _⟩,⟨qBHB⟩⟩
  ·rw[if_neg c4]at H
   have c4b0:decide (1048576 < (l0.length:Int))=false:=decide_eq_false c4;have c4b1:decide (1048576 < l0.length)=false:=decide_eq_false (by omega);clear c4
   (first|rw[c4b0]|(simp only[i64_w,i32_w];rw[c4b0])|skip)
   have H' := qM_ H;clear H
   go_wp2
   go_meet
   case rel=>exact⟨_,(decide ((l1.length:Int) > 1048576)),qff_,H', ⟨by first|omega|exact Nat.le_refl _⟩,⟨qBHB⟩⟩
 case rest =>
  clear HC3
  try clear c1
  try clear p2
  try clear c4
  try clear c4b0
  try clear c4b1
  obtain⟨kq,x25_2,rfl,HA,HJ2,HB⟩:=hcut
  cases kq with
  | zero=>exact absurd HA.out (by simp[z4_.j0])
  | succ kj2 =>
   have H:=HA.out;clear HA;simp only[z4_.j0]at H;by_cases c5:x25_2=true
   ·subst c5
    have H1:(some true)=some r:=by rw[if_pos rfl]at H;exact H
    clear H;have H:=H1;clear H1;obtain rfl:=Option.some.inj H
    go_wp2
    go_ret;exact⟨qee_,qBHB⟩
   ·replace c5:=Bool.eq_false_iff.mpr c5
    subst c5
    have H1:((z14_.f kj2 l0).bind fun bt101=>((z8_.f kj2 bt101.1 bt101.2.1 bt101.2.2.1 bt101.2.2.2.1 bt101.2.2.2.2.1 bt101.2.2.2.2.2).bind fun bt110=>((z6_.f kj2 bt101.1 bt101.2.1 bt101.2.2.1 bt101.2.2.2.1 bt101.2.2.2.2.1 bt101.2.2.2.2.2).bind fun bt114=>((z15_.f kj2 bt110.1).bind fun bt118=>(if bt110.2=0 then(if(strOfNums bt110.1).toList=(strOfNums bt114.1).toList then(if bt118.2.2.2.2.2.2=0 then((z16_.f kj2 bt118.1 bt118.2.1 bt118.2.2.1 bt118.2.2.2.1 bt118.2.2.2.2.1 bt118.2.2.2.2.2.1 bt101.1 bt101.2.1 bt101.2.2.1 bt101.2.2.2.1 bt101.2.2.2.2.1 bt101.2.2.2.2.2).bind fun t128=>(if t128=true then((z17_.f kj2 bt101.1 bt101.2.1 bt101.2.2.1 bt101.2.2.2.1 bt101.2.2.2.2.1 bt101.2.2.2.2.2).bind fun t129=>(z4_.j1 kj2 l1 (!t129)))else(z4_.j1 kj2 l1 true)))else(z4_.j1 kj2 l1 true))else(z4_.j1 kj2 l1 true))else(z4_.j1 kj2 l1 true))))))=some r:=by rw[if_neg (show ¬(false=true)by decide)]at H;exact H
    clear H;have H:=H1;clear H1;replace H:=Option.bind_eq_some_iff.mp H;obtain⟨⟨t101,t102,t103,t104,t105,t106⟩,A60,H⟩:=H;dsimp only at H;have A6:=qM_ A60;clear A60;replace H:=Option.bind_eq_some_iff.mp H;obtain⟨⟨t110,t113⟩,A70,H⟩:=H;dsimp only at H;have A7:=qM_ A70;clear A70;replace H:=Option.bind_eq_some_iff.mp H;obtain⟨⟨t114,t117⟩,A80,H⟩:=H;dsimp only at H;have A8:=qM_ A80;clear A80;replace H:=Option.bind_eq_some_iff.mp H;obtain⟨⟨t118,t119,t120,t121,t122,t123,t126⟩,A90,H⟩:=H;dsimp only at H;have A9:=qM_ A90;clear A90;have HC10:=qM_ H;clear H
    go_upto_region 7 with (first|((with_reducible refine gate_callee (f:=14) rfl ?_);refine goesL_ (some 27) rfl rfl Try.func14 qK rfl #[.slice A0 l0.length c0] rfl qll_ ?_;(with_reducible refine(z14_.calls kj2 _ _ l0 t101 t102 t103 t104 t105 t106 _ ?side1 ?side2 A6.out).mono ?_);(case side1=>exact qcc_ (Kd.C_below HR0.out HB.out));(case side2=>exact HC0.out);rintro e w11 ⟨v107,rfl,ho0,hb⟩;refine⟨_,rfl,?_⟩;have HO108:=qM_ (Kd.R_lower ho0 (below_size qBHB));replace HB:=qM_ (below_step qBHB hb);(try clear hb);(try clear hb2);(try clear hk);(try clear hi);(try clear ho0))|((with_reducible refine gate_dst (N:=5) rfl ?_);(try(refine gate_guard (by rfl) ?_;dsimp only));refine box_event ?hg (N:=5) ?hd (cs:=z4_.b0) (t:=31) ?hr ?_;(case hd=>rfl);(case hg=>rfl);(case hr=>first|(go_simp;done)|(go_simp;rfl));intro gb109 hg w12 hbox hb;replace HO108:=qM_ (Kd.R_below (qr_ HO108) hb);have BK109:=qM_ (hbox);have GW109:=qM_ ((by rw[hg];exact(below_size qBHB):w.heap.size≤gb109));have GE109:=qM_ ((by rw[hg];exact(below_size qBHB):w.heap.size≤gb109));replace HB:=qM_ (below_step qBHB hb);clear hb hbox hg;obtain⟨hcz13_0,hcz13_1,hcz13_2,hcz13_3,hcz13_4,hcz13_5,hfz13_0⟩:=qc6_ BK109;obtain⟨Ao14,co14,eo14⟩:=Kd.R_slice HO108.out;subst eo14)|((with_reducible refine gate_callee (f:=8) rfl ?_);refine goesL_ (some 30) rfl rfl Try.func8 qK rfl #[.agg #[.int .i64 t101,.int .i64 t102,.int .i64 t103,.int .i64 t104,.string t105,.slice Ao14 t106.length co14]] rfl qll_ ?_;(with_reducible refine(z8_.calls kj2 t101 t102 t103 t104 t105 _ _ t106 t110 t113 _ ?side1 ?side2 A7.out).mono ?_);(case side1=>refine(Kd.R_reads' (e:=54) (base:=w.heap.size) (ok:=fun k_=>True) (n:=t106.length) (c:=co14) ?_).2.2;exact(by(with_reducible repeat(first|apply Kd.R_alloc|apply Kd.R_drewN|apply Kd.R_drew));exact(Kd.R_mono (qf6_ HO108 BK109) (fun _ h_=>h_.1))));(case side2=>exact(Kd.R_reads' HO108.out).2.1);rintro e w15 ⟨v111,rfl,ho0,hb⟩;refine⟨_,rfl,?_⟩;have HO112:=qM_ (Kd.V_lower (Kd.V_mono (ok' := fun k_=>some k_≠(.slice Ao14 t106.length co14:Value).ownBlock∧k_≠gb109) ho0 (fun k_ hk_=>⟨(Kd.fresh' (Kd.R_lt (by(with_reducible repeat(first|apply Kd.R_alloc|apply Kd.R_drewN|apply Kd.R_drew));exact(Kd.R_mono (qf6_ HO108 BK109) (fun _ h_=>h_.1)))) k_ hk_),(Kd.freshB (g:=gb109) (o:= .cells #[.int .i64 t101,.int .i64 t102,.int .i64 t103,.int .i64 t104,.string t105,.slice Ao14 t106.length co14] 31 (0,0)) (qp_ BK109) k_ hk_)⟩)) (below_size qBHB));replace HO108:=qM_ (Kd.R_below (by(with_reducible repeat(first|apply Kd.R_alloc|apply Kd.R_drewN|apply Kd.R_drew));exact(Kd.R_mono (qf6_ HO108 BK109) (fun _ h_=>h_.1))) hb);replace BK109:=qM_ (blk_below (g:=gb109) (o:= .cells #[.int .i64 t101,.int .i64 t102,.int .i64 t103,.int .i64 t104,.string t105,.slice Ao14 t106.length co14] 31 (0,0)) (qp_ BK109) hb);replace HB:=qM_ (below_step qBHB hb);(try clear hb);(try clear hb2);(try clear hk);(try clear hi);(try clear ho0);obtain⟨hcz16_0,hcz16_1,hcz16_2,hcz16_3,hcz16_4,hcz16_5,hfz16_0⟩:=qc6_ BK109)|((with_reducible refine gate_callee (f:=6) rfl ?_);refine goesL_ (some 35) rfl rfl Try.func6 qK rfl #[.agg #[.int .i64 t101,.int .i64 t102,.int .i64 t103,.int .i64 t104,.string t105,.slice Ao14 t106.length co14]] rfl qll_ ?_;(with_reducible refine(z6_.calls kj2 t101 t102 t103 t104 t105 _ _ t106 t114 t117 _ ?side1 ?side2 A8.out).mono ?_);(case side1=>exact qcc_ (Kd.R_reads' HO108.out).2.2);(case side2=>exact(Kd.R_reads' HO108.out).2.1);rintro e w17 ⟨v115,rfl,ho0,hb⟩;refine⟨_,rfl,?_⟩;replace HO108:=qM_ (Kd.R_below (qr_ HO108) hb);replace HO112:=qM_ (Kd.V_elder' (qv_ HO112) (Kd.R_base ho0) hb);have HO116:=qM_ (Kd.R_lower ho0 (below_size qBHB));replace BK109:=qM_ (blk_below (qk_ BK109) hb);replace HB:=qM_ (below_step qBHB hb);(try clear hb);(try clear hb2);(try clear hk);(try clear hi);(try clear ho0);obtain⟨Ao18,co18,eo18⟩:=Kd.V_slice HO112.out;subst eo18)|((with_reducible refine gate_callee (f:=15) rfl ?_);refine goesL_ (some 40) rfl rfl Try.func15 qK rfl #[.slice Ao18 t110.length co18] rfl qll_ ?_;(with_reducible refine(z15_.calls kj2 _ _ t110 t118 t119 t120 t121 t122 t123 t126 _ ?side1 ?side2 A9.out).mono ?_);(case side1=>exact qcc_ (Kd.V_reads' HO112.out).2.2);(case side2=>exact(Kd.V_reads' HO112.out).2.1);rintro e w19 ⟨v124,rfl,ho0,hb⟩;refine⟨_,rfl,?_⟩;replace HO112:=qM_ (Kd.V_elder' (qv_ HO112) (Kd.R_base ho0) hb);replace HO116:=qM_ (Kd.R_below (qr_ HO116) hb);have HO125:=qM_ (Kd.R_lower (Kd.R_new' ho0 (Kd.R_lt (qr_ HO108))) (below_size qBHB));replace HO108:=qM_ (Kd.R_elder' (qr_ HO108) (Kd.R_base ho0) hb);replace BK109:=qM_ (blk_below (qk_ BK109) hb);replace HB:=qM_ (below_step qBHB hb);(try clear hb);(try clear hb2);(try clear hk);(try clear hi);(try clear ho0))|((with_reducible refine gate_dst (N:=10) rfl ?_);(try(refine gate_guard (by rfl) ?_;dsimp only));refine box_event ?hg (N:=10) ?hd (cs:=z4_.b0) (t:=31) ?hr ?_;(case hd=>rfl);(case hg=>rfl);(case hr=>first|(go_simp;done)|(go_simp;rfl));intro gb127 hg w20 hbox hb;replace HO108:=qM_ (Kd.R_below (qr_ HO108) hb);replace HO112:=qM_ (Kd.V_below (Kd.V_elderB (qv_ HO112) gb127 (Nat.le_of_eq hg.symm)) hb);replace HO116:=qM_ (Kd.R_below (qr_ HO116) hb);replace HO125:=qM_ (Kd.R_below (qr_ HO125) hb);have BK127:=qM_ (hbox);have GW127:=qM_ ((by rw[hg];exact(below_size qBHB):w.heap.size≤gb127));have GE127:=qM_ ((by rw[hg];exact(below_size qBHB):w.heap.size≤gb127));replace HB:=qM_ (below_step qBHB hb);have NB109_127:=qM_ ((by rw[hg];exact Nat.ne_of_lt (blk_lt (qk_ BK109)):gb109≠gb127));have NB127_109:=qM_ ((by rw[hg];exact Nat.ne_of_gt (blk_lt (qk_ BK109)):gb127≠gb109));replace BK109:=qM_ (blk_below (qk_ BK109) hb);clear hb hbox hg;have hnb21:=NB127_109.out;have hnc21:=NB109_127.out;obtain⟨hcz22_0,hcz22_1,hcz22_2,hcz22_3,hcz22_4,hcz22_5,hfz22_0⟩:=qc6_ BK127;obtain⟨Ao23,co23,eo23⟩:=Kd.R_slice HO125.out;subst eo23))
    (try simp only[Act.put,List.setIfInBounds_toArray,List.set_cons_zero,List.set_cons_succ])
    go_cut [66] (fun v66 wc=>∃(kq:Nat) (x66_9:Bool),v66= .bool x66_9∧Aside0 (z4_.j1 kq l1 x66_9=some r)∧Aside0 (kq≤kj2)∧Aside0 (Kd.R k54 54 wc w.heap.size (fun k_=>some k_≠((.slice Ao23 t123.length co23):Value).ownBlock) (.slice Ao14 t106.length co14) t106)∧Aside0 (Kd.R k54 54 wc w.heap.size (fun k_=>some k_≠((.slice Ao14 t106.length co14):Value).ownBlock) (.slice Ao23 t123.length co23) t123)∧Aside0 (wc.heap[gb109]? = some (.cells #[.int .i64 t101,.int .i64 t102,.int .i64 t103,.int .i64 t104,.string t105,(.slice Ao14 t106.length co14)] 31 (0,0)))∧Aside0 (wc.heap[gb127]? = some (.cells #[.int .i64 t118,.int .i64 t119,.int .i64 t120,.int .i64 t121,.string t122,(.slice Ao23 t123.length co23)] 31 (0,0)))∧Aside0 (Below w.heap.size w wc))
    case first =>
     have H:=HC10.out;clear HC10;by_cases c24:t113=0
     ·rw[if_pos c24]at H
      have c24b0:(t113 == 0)=true:=beq_iff_eq.mpr c24;have c24b1:(t113 != 0)=false:=bne_eq_false_iff_eq.mpr c24;clear c24
      (first|rw[c24b0]|(simp only[i64_w,i32_w];rw[c24b0])|skip)
      by_cases c25:(strOfNums t110).toList=(strOfNums t114).toList
      ·rw[if_pos c25]at H
       have c25b0:((strOfNums t110).toList == (strOfNums t114).toList)=true:=beq_iff_eq.mpr c25;have c25b1:((strOfNums t110).toList != (strOfNums t114).toList)=false:=bne_eq_false_iff_eq.mpr c25;clear c25;by_cases c26:t126=0
       ·rw[if_pos c26]at H
        have c26b0:(t126 == 0)=true:=beq_iff_eq.mpr c26;have c26b1:(t126 != 0)=false:=bne_eq_false_iff_eq.mpr c26;clear c26;replace H:=Option.bind_eq_some_iff.mp H;obtain⟨t128,A270,H⟩:=H;have A27:=qM_ A270;clear A270;by_cases c28:t128=true
        ·subst c28
         have H1:((z17_.f kj2 t101 t102 t103 t104 t105 t106).bind fun t129=>(z4_.j1 kj2 l1 (!t129)))=some r:=by rw[if_pos rfl]at H;exact H
         clear H;have H:=H1;clear H1;replace H:=Option.bind_eq_some_iff.mp H;obtain⟨t129,A290,H⟩:=H;have A29:=qM_ A290;clear A290;have H' := qM_ H;clear H;have hcv30:=V_string (P:=Try.prog) Try.underlying26 Try.underlying5 Try.underlying9 HO112.out
         have hcv30b:=fun(u0 u1 u2 u3 u4 u5:Value)=>V_string (P:=Try.prog) Try.underlying26 Try.underlying5 Try.underlying9 (Kd.V_far (p:=⟨gb127,5,none⟩) (Kd.V_far (p:=⟨gb127,4,none⟩) (Kd.V_far (p:=⟨gb127,3,none⟩) (Kd.V_far (p:=⟨gb127,2,none⟩) (Kd.V_far (p:=⟨gb127,1,none⟩) (Kd.V_far (p:=⟨gb127,0,none⟩) (Kd.V_mono HO112.out (fun k_ hk=>(⟨hk,hk.2⟩:_∧k_≠gb127))) (fun _ hk=>hk.2) u0) (fun _ hk=>hk.2) u1) (fun _ hk=>hk.2) u2) (fun _ hk=>hk.2) u3) (fun _ hk=>hk.2) u4) (fun _ hk=>hk.2) u5)
         have hcv31:=own_string (P:=Try.prog) Try.underlying26 Try.underlying5 Try.underlying9 (Kd.own_of_R HO116.out)
         have hcv31b:=fun(u0 u1 u2 u3 u4 u5:Value)=>own_string (P:=Try.prog) Try.underlying26 Try.underlying5 Try.underlying9 (Kd.own_of_R (Kd.R_far (p:=⟨gb127,5,none⟩) (Kd.R_far (p:=⟨gb127,4,none⟩) (Kd.R_far (p:=⟨gb127,3,none⟩) (Kd.R_far (p:=⟨gb127,2,none⟩) (Kd.R_far (p:=⟨gb127,1,none⟩) (Kd.R_far (p:=⟨gb127,0,none⟩) (Kd.R_types HO116.out BK127.out (by decide)) (fun _ hk=>hk.2) u0) (fun _ hk=>hk.2) u1) (fun _ hk=>hk.2) u2) (fun _ hk=>hk.2) u3) (fun _ hk=>hk.2) u4) (fun _ hk=>hk.2) u5))
         have hnb32:=NB127_109.out;have hnc32:=NB109_127.out;obtain⟨hcz33_0,hcz33_1,hcz33_2,hcz33_3,hcz33_4,hcz33_5,hfz33_0⟩:=qc6_ BK127;obtain⟨hcz34_0,hcz34_1,hcz34_2,hcz34_3,hcz34_4,hcz34_5,hfz34_0⟩:=qc6_ BK109
         go_wp2_with (first|(go_at_call 16;(with_reducible refine(z16_.calls kj2 t118 t119 t120 t121 t122 _ _ t123 t101 t102 t103 t104 t105 _ _ t106 true _ ?side1 ?side2 ?side3 ?side4 A27.out).mono ?_);(case side1=>refine(Kd.R_reads' (e:=54) (base:=w.heap.size) (ok:=fun k_=>(True∧some k_≠(.slice Ao14 t106.length co14:Value).ownBlock)) (n:=t123.length) (c:=co23) ?_).2.2;exact(by(with_reducible repeat(first|apply Kd.R_alloc|apply Kd.R_drewN|apply Kd.R_drew));exact(Kd.R_mono (qf6_ HO125 BK127) (fun _ h_=>h_.1))));(case side2=>exact(Kd.R_reads' HO125.out).2.1);(case side3=>refine(Kd.R_reads' (e:=54) (base:=w.heap.size) (ok:=fun k_=>(True∧some k_≠(.slice Ao23 t123.length co23:Value).ownBlock)) (n:=t106.length) (c:=co14) ?_).2.2;exact(by(with_reducible repeat(first|apply Kd.R_alloc|apply Kd.R_drewN|apply Kd.R_drew));exact(Kd.R_mono (qf6_ HO108 BK127) (fun _ h_=>h_.1))));(case side4=>exact(Kd.R_reads' HO108.out).2.1);rintro e w35 ⟨rfl,hb⟩;replace HO108:=qM_ (Kd.R_below (by(with_reducible repeat(first|apply Kd.R_alloc|apply Kd.R_drewN|apply Kd.R_drew));exact(Kd.R_mono (qf6_ HO108 BK127) (fun _ h_=>h_.1))) hb);replace HO112:=qM_ (Kd.V_below (by(with_reducible repeat(first|apply Kd.V_alloc|apply Kd.V_drewN|apply Kd.V_drew));exact(Kd.V_mono (Kd.V_far (p:=⟨gb127,5,none⟩) (Kd.V_far (p:=⟨gb127,4,none⟩) (Kd.V_far (p:=⟨gb127,3,none⟩) (Kd.V_far (p:=⟨gb127,2,none⟩) (Kd.V_far (p:=⟨gb127,1,none⟩) (Kd.V_far (p:=⟨gb127,0,none⟩) (Kd.V_mono HO112.out (fun k_ hk=>(⟨hk,hk.2⟩:_∧k_≠gb127))) (fun _ hk=>hk.2) (.int .i64 t118)) (fun _ hk=>hk.2) (.int .i64 t119)) (fun _ hk=>hk.2) (.int .i64 t120)) (fun _ hk=>hk.2) (.int .i64 t121)) (fun _ hk=>hk.2) (.string t122)) (fun _ hk=>hk.2) (.slice Ao23 t123.length co23)) (fun _ h_=>h_.1))) hb);replace HO116:=qM_ (Kd.R_below (by(with_reducible repeat(first|apply Kd.R_alloc|apply Kd.R_drewN|apply Kd.R_drew));exact(Kd.R_mono (qf6_ HO116 BK127) (fun _ h_=>h_.1))) hb);replace HO125:=qM_ (Kd.R_below (by(with_reducible repeat(first|apply Kd.R_alloc|apply Kd.R_drewN|apply Kd.R_drew));exact(Kd.R_mono (qf6_ HO125 BK127) (fun _ h_=>h_.1))) hb);replace BK109:=qM_ (blk_below (g:=gb109) (o:= .cells #[.int .i64 t101,.int .i64 t102,.int .i64 t103,.int .i64 t104,.string t105,.slice Ao14 t106.length co14] 31 (0,0)) (qp_ BK109) hb);replace BK127:=qM_ (blk_below (g:=gb127) (o:= .cells #[.int .i64 t118,.int .i64 t119,.int .i64 t120,.int .i64 t121,.string t122,.slice Ao23 t123.length co23] 31 (0,0)) (qp_ BK127) hb);replace HB:=qM_ (below_step qBHB hb);(try clear hb);(try clear hb2);(try clear hk);(try clear hi);obtain⟨hcz36_0,hcz36_1,hcz36_2,hcz36_3,hcz36_4,hcz36_5,hfz36_0⟩:=qc6_ BK109)|(go_at_call 17;(with_reducible refine(z17_.calls kj2 t101 t102 t103 t104 t105 _ _ t106 t129 _ ?side1 ?side2 A29.out).mono ?_);(case side1=>exact qcc_ (Kd.R_reads' HO108.out).2.2);(case side2=>exact(Kd.R_reads' HO108.out).2.1);rintro e w37 ⟨rfl,hb⟩;replace HO108:=qM_ (Kd.R_below (qr_ HO108) hb);replace HO112:=qM_ (Kd.V_below (qv_ HO112) hb);replace HO116:=qM_ (Kd.R_below (qr_ HO116) hb);replace HO125:=qM_ (Kd.R_below (qr_ HO125) hb);replace BK109:=qM_ (blk_below (qk_ BK109) hb);replace BK127:=qM_ (blk_below (qk_ BK127) hb);replace HB:=qM_ (below_step qBHB hb);(try clear hb);(try clear hb2);(try clear hk);(try clear hi)))
         go_meet
         case rel=>exact⟨_,(!t129),qff_,H', ⟨by have:=HJ2.out;first|omega|exact Nat.le_refl _⟩,⟨by(with_reducible repeat(first|apply Kd.R_alloc|apply Kd.R_drewN|apply Kd.R_drew));exact Kd.R_mono HO108.out (fun _ hk=>hk.2)⟩,⟨by(with_reducible repeat(first|apply Kd.R_alloc|apply Kd.R_drewN|apply Kd.R_drew));exact Kd.R_mono HO125.out (fun _ hk=>hk.2)⟩,⟨qk_ BK109⟩,⟨qk_ BK127⟩,⟨qBHB⟩⟩
        ·replace c28:=Bool.eq_false_iff.mpr c28
         subst c28
         have H1:(z4_.j1 kj2 l1 true)=some r:=by rw[if_neg (show ¬(false=true)by decide)]at H;exact H
         clear H;have H:=H1;clear H1;have H' := qM_ H;clear H;have hcv38:=V_string (P:=Try.prog) Try.underlying26 Try.underlying5 Try.underlying9 HO112.out
         have hcv38b:=fun(u0 u1 u2 u3 u4 u5:Value)=>V_string (P:=Try.prog) Try.underlying26 Try.underlying5 Try.underlying9 (Kd.V_far (p:=⟨gb127,5,none⟩) (Kd.V_far (p:=⟨gb127,4,none⟩) (Kd.V_far (p:=⟨gb127,3,none⟩) (Kd.V_far (p:=⟨gb127,2,none⟩) (Kd.V_far (p:=⟨gb127,1,none⟩) (Kd.V_far (p:=⟨gb127,0,none⟩) (Kd.V_mono HO112.out (fun k_ hk=>(⟨hk,hk.2⟩:_∧k_≠gb127))) (fun _ hk=>hk.2) u0) (fun _ hk=>hk.2) u1) (fun _ hk=>hk.2) u2) (fun _ hk=>hk.2) u3) (fun _ hk=>hk.2) u4) (fun _ hk=>hk.2) u5)
         have hcv39:=own_string (P:=Try.prog) Try.underlying26 Try.underlying5 Try.underlying9 (Kd.own_of_R HO116.out)
         have hcv39b:=fun(u0 u1 u2 u3 u4 u5:Value)=>own_string (P:=Try.prog) Try.underlying26 Try.underlying5 Try.underlying9 (Kd.own_of_R (Kd.R_far (p:=⟨gb127,5,none⟩) (Kd.R_far (p:=⟨gb127,4,none⟩) (Kd.R_far (p:=⟨gb127,3,none⟩) (Kd.R_far (p:=⟨gb127,2,none⟩) (Kd.R_far (p:=⟨gb127,1,none⟩) (Kd.R_far (p:=⟨gb127,0,none⟩) (Kd.R_types HO116.out BK127.out (by decide)) (fun _ hk=>hk.2) u0) (fun _ hk=>hk.2) u1) (fun _ hk=>hk.2) u2) (fun _ hk=>hk.2) u3) (fun _ hk=>hk.2) u4) (fun _ hk=>hk.2) u5))
         have hnb40:=NB127_109.out;have hnc40:=NB109_127.out;obtain⟨hcz41_0,hcz41_1,hcz41_2,hcz41_3,hcz41_4,hcz41_5,hfz41_0⟩:=qc6_ BK127;obtain⟨hcz42_0,hcz42_1,hcz42_2,hcz42_3,hcz42_4,hcz42_5,hfz42_0⟩:=qc6_ BK109
         go_wp2_with (first|(go_at_call 16;(with_reducible refine(z16_.calls kj2 t118 t119 t120 t121 t122 _ _ t123 t101 t102 t103 t104 t105 _ _ t106 false _ ?side1 ?side2 ?side3 ?side4 A27.out).mono ?_);(case side1=>refine(Kd.R_reads' (e:=54) (base:=w.heap.size) (ok:=fun k_=>(True∧some k_≠(.slice Ao14 t106.length co14:Value).ownBlock)) (n:=t123.length) (c:=co23) ?_).2.2;exact(by(with_reducible repeat(first|apply Kd.R_alloc|apply Kd.R_drewN|apply Kd.R_drew));exact(Kd.R_mono (qf6_ HO125 BK127) (fun _ h_=>h_.1))));(case side2=>exact(Kd.R_reads' HO125.out).2.1);(case side3=>refine(Kd.R_reads' (e:=54) (base:=w.heap.size) (ok:=fun k_=>(True∧some k_≠(.slice Ao23 t123.length co23:Value).ownBlock)) (n:=t106.length) (c:=co14) ?_).2.2;exact(by(with_reducible repeat(first|apply Kd.R_alloc|apply Kd.R_drewN|apply Kd.R_drew));exact(Kd.R_mono (qf6_ HO108 BK127) (fun _ h_=>h_.1))));(case side4=>exact(Kd.R_reads' HO108.out).2.1);rintro e w43 ⟨rfl,hb⟩;replace HO108:=qM_ (Kd.R_below (by(with_reducible repeat(first|apply Kd.R_alloc|apply Kd.R_drewN|apply Kd.R_drew));exact(Kd.R_mono (qf6_ HO108 BK127) (fun _ h_=>h_.1))) hb);replace HO112:=qM_ (Kd.V_below (by(with_reducible repeat(first|apply Kd.V_alloc|apply Kd.V_drewN|apply Kd.V_drew));exact(Kd.V_mono (Kd.V_far (p:=⟨gb127,5,none⟩) (Kd.V_far (p:=⟨gb127,4,none⟩) (Kd.V_far (p:=⟨gb127,3,none⟩) (Kd.V_far (p:=⟨gb127,2,none⟩) (Kd.V_far (p:=⟨gb127,1,none⟩) (Kd.V_far (p:=⟨gb127,0,none⟩) (Kd.V_mono HO112.out (fun k_ hk=>(⟨hk,hk.2⟩:_∧k_≠gb127))) (fun _ hk=>hk.2) (.int .i64 t118)) (fun _ hk=>hk.2) (.int .i64 t119)) (fun _ hk=>hk.2) (.int .i64 t120)) (fun _ hk=>hk.2) (.int .i64 t121)) (fun _ hk=>hk.2) (.string t122)) (fun _ hk=>hk.2) (.slice Ao23 t123.length co23)) (fun _ h_=>h_.1))) hb);replace HO116:=qM_ (Kd.R_below (by(with_reducible repeat(first|apply Kd.R_alloc|apply Kd.R_drewN|apply Kd.R_drew));exact(Kd.R_mono (qf6_ HO116 BK127) (fun _ h_=>h_.1))) hb);replace HO125:=qM_ (Kd.R_below (by(with_reducible repeat(first|apply Kd.R_alloc|apply Kd.R_drewN|apply Kd.R_drew));exact(Kd.R_mono (qf6_ HO125 BK127) (fun _ h_=>h_.1))) hb);replace BK109:=qM_ (blk_below (g:=gb109) (o:= .cells #[.int .i64 t101,.int .i64 t102,.int .i64 t103,.int .i64 t104,.string t105,.slice Ao14 t106.length co14] 31 (0,0)) (qp_ BK109) hb);replace BK127:=qM_ (blk_below (g:=gb127) (o:= .cells #[.int .i64 t118,.int .i64 t119,.int .i64 t120,.int .i64 t121,.string t122,.slice Ao23 t123.length co23] 31 (0,0)) (qp_ BK127) hb);replace HB:=qM_ (below_step qBHB hb);(try clear hb);(try clear hb2);(try clear hk);(try clear hi)))
         go_meet
         case rel=>exact⟨_,(true),qff_,H', ⟨by have:=HJ2.out;first|omega|exact Nat.le_refl _⟩,⟨by(with_reducible repeat(first|apply Kd.R_alloc|apply Kd.R_drewN|apply Kd.R_drew));exact Kd.R_mono HO108.out (fun _ hk=>hk.2)⟩,⟨by(with_reducible repeat(first|apply Kd.R_alloc|apply Kd.R_drewN|apply Kd.R_drew));exact Kd.R_mono HO125.out (fun _ hk=>hk.2)⟩,⟨qk_ BK109⟩,⟨qk_ BK127⟩,⟨qBHB⟩⟩
       ·rw[if_neg c26]at H
        have c26b0:(t126 == 0)=false:=beq_eq_false_iff_ne.mpr c26;have c26b1:(t126 != 0)=true:=bne_iff_ne.mpr c26;have H' := qM_ H;clear H;have hcv44:=V_string (P:=Try.prog) Try.underlying26 Try.underlying5 Try.underlying9 HO112.out
        have hcv44b:=fun(u0 u1 u2 u3 u4 u5:Value)=>V_string (P:=Try.prog) Try.underlying26 Try.underlying5 Try.underlying9 (Kd.V_far (p:=⟨gb127,5,none⟩) (Kd.V_far (p:=⟨gb127,4,none⟩) (Kd.V_far (p:=⟨gb127,3,none⟩) (Kd.V_far (p:=⟨gb127,2,none⟩) (Kd.V_far (p:=⟨gb127,1,none⟩) (Kd.V_far (p:=⟨gb127,0,none⟩) (Kd.V_mono HO112.out (fun k_ hk=>(⟨hk,hk.2⟩:_∧k_≠gb127))) (fun _ hk=>hk.2) u0) (fun _ hk=>hk.2) u1) (fun _ hk=>hk.2) u2) (fun _ hk=>hk.2) u3) (fun _ hk=>hk.2) u4) (fun _ hk=>hk.2) u5)
        have hcv45:=own_string (P:=Try.prog) Try.underlying26 Try.underlying5 Try.underlying9 (Kd.own_of_R HO116.out)
        have hcv45b:=fun(u0 u1 u2 u3 u4 u5:Value)=>own_string (P:=Try.prog) Try.underlying26 Try.underlying5 Try.underlying9 (Kd.own_of_R (Kd.R_far (p:=⟨gb127,5,none⟩) (Kd.R_far (p:=⟨gb127,4,none⟩) (Kd.R_far (p:=⟨gb127,3,none⟩) (Kd.R_far (p:=⟨gb127,2,none⟩) (Kd.R_far (p:=⟨gb127,1,none⟩) (Kd.R_far (p:=⟨gb127,0,none⟩) (Kd.R_types HO116.out BK127.out (by decide)) (fun _ hk=>hk.2) u0) (fun _ hk=>hk.2) u1) (fun _ hk=>hk.2) u2) (fun _ hk=>hk.2) u3) (fun _ hk=>hk.2) u4) (fun _ hk=>hk.2) u5))
        go_wp2
        go_meet
        case rel=>exact⟨_,(true),qff_,H', ⟨by have:=HJ2.out;first|omega|exact Nat.le_refl _⟩,⟨by(with_reducible repeat(first|apply Kd.R_alloc|apply Kd.R_drewN|apply Kd.R_drew));exact Kd.R_mono (qf6_ HO108 BK127) (fun _ hk=>hk.1.2)⟩,⟨by(with_reducible repeat(first|apply Kd.R_alloc|apply Kd.R_drewN|apply Kd.R_drew));exact Kd.R_mono (qf6_ HO125 BK127) (fun _ hk=>hk.1.2)⟩,⟨qp_ BK109⟩,⟨qp_ BK127⟩,⟨qBHB⟩⟩
      ·rw[if_neg c25]at H
       have c25b0:((strOfNums t110).toList == (strOfNums t114).toList)=false:=beq_eq_false_iff_ne.mpr c25;have c25b1:((strOfNums t110).toList != (strOfNums t114).toList)=true:=bne_iff_ne.mpr c25;have H' := qM_ H;clear H;have hcv46:=V_string (P:=Try.prog) Try.underlying26 Try.underlying5 Try.underlying9 HO112.out
       have hcv46b:=fun(u0 u1 u2 u3 u4 u5:Value)=>V_string (P:=Try.prog) Try.underlying26 Try.underlying5 Try.underlying9 (Kd.V_far (p:=⟨gb127,5,none⟩) (Kd.V_far (p:=⟨gb127,4,none⟩) (Kd.V_far (p:=⟨gb127,3,none⟩) (Kd.V_far (p:=⟨gb127,2,none⟩) (Kd.V_far (p:=⟨gb127,1,none⟩) (Kd.V_far (p:=⟨gb127,0,none⟩) (Kd.V_mono HO112.out (fun k_ hk=>(⟨hk,hk.2⟩:_∧k_≠gb127))) (fun _ hk=>hk.2) u0) (fun _ hk=>hk.2) u1) (fun _ hk=>hk.2) u2) (fun _ hk=>hk.2) u3) (fun _ hk=>hk.2) u4) (fun _ hk=>hk.2) u5)
       have hcv47:=own_string (P:=Try.prog) Try.underlying26 Try.underlying5 Try.underlying9 (Kd.own_of_R HO116.out)
       have hcv47b:=fun(u0 u1 u2 u3 u4 u5:Value)=>own_string (P:=Try.prog) Try.underlying26 Try.underlying5 Try.underlying9 (Kd.own_of_R (Kd.R_far (p:=⟨gb127,5,none⟩) (Kd.R_far (p:=⟨gb127,4,none⟩) (Kd.R_far (p:=⟨gb127,3,none⟩) (Kd.R_far (p:=⟨gb127,2,none⟩) (Kd.R_far (p:=⟨gb127,1,none⟩) (Kd.R_far (p:=⟨gb127,0,none⟩) (Kd.R_types HO116.out BK127.out (by decide)) (fun _ hk=>hk.2) u0) (fun _ hk=>hk.2) u1) (fun _ hk=>hk.2) u2) (fun _ hk=>hk.2) u3) (fun _ hk=>hk.2) u4) (fun _ hk=>hk.2) u5))
       go_wp2
       go_meet
       case rel=>exact⟨_,(true),qff_,H', ⟨by have:=HJ2.out;first|omega|exact Nat.le_refl _⟩,⟨by(with_reducible repeat(first|apply Kd.R_alloc|apply Kd.R_drewN|apply Kd.R_drew));exact Kd.R_mono (qf6_ HO108 BK127) (fun _ hk=>hk.1.2)⟩,⟨by(with_reducible repeat(first|apply Kd.R_alloc|apply Kd.R_drewN|apply Kd.R_drew));exact Kd.R_mono (qf6_ HO125 BK127) (fun _ hk=>hk.1.2)⟩,⟨qp_ BK109⟩,⟨qp_ BK127⟩,⟨qBHB⟩⟩
     ·rw[if_neg c24]at H
      have c24b0:(t113 == 0)=false:=beq_eq_false_iff_ne.mpr c24;have c24b1:(t113 != 0)=true:=bne_iff_ne.mpr c24
      (first|rw[c24b0]|(simp only[i64_w,i32_w];rw[c24b0])|skip)
      have H' := qM_ H;clear H
      go_wp2
      go_meet
      case rel=>exact⟨_,(true),qff_,H', ⟨by have:=HJ2.out;first|omega|exact Nat.le_refl _⟩,⟨by(with_reducible repeat(first|apply Kd.R_alloc|apply Kd.R_drewN|apply Kd.R_drew));exact Kd.R_mono (qf6_ HO108 BK127) (fun _ hk=>hk.1.2)⟩,⟨by(with_reducible repeat(first|apply Kd.R_alloc|apply Kd.R_drewN|apply Kd.R_drew));exact Kd.R_mono (qf6_ HO125 BK127) (fun _ hk=>hk.1.2)⟩,⟨qp_ BK109⟩,⟨qp_ BK127⟩,⟨qBHB⟩⟩
    case rest =>
     clear HC10
     try clear c1
     try clear c2
     try clear p2
     try clear c3
     try clear hcv3
     try clear c4
     try clear c4b0
     try clear c4b1
     try clear hcv4
     try clear c5
     try clear c6
     try clear c8
     try clear c14
     try clear c15
     try clear c21
     try clear c24
     try clear c24b0
     try clear c24b1
     try clear c25
     try clear c25b0
     try clear c25b1
     try clear c26
     try clear c26b0
     try clear c26b1
     try clear c28
     try clear hcv30
     try clear hcv31
     try clear c32
     try clear hcv38
     try clear hcv39
     try clear c40
     try clear hcv44
     try clear hcv45
     try clear hcv46
     try clear hcv47
     try clear hcz13_0 hcz13_1 hcz13_2 hcz13_3 hcz13_4 hcz13_5
     try clear hcz16_0 hcz16_1 hcz16_2 hcz16_3 hcz16_4 hcz16_5
     try clear hcz22_0 hcz22_1 hcz22_2 hcz22_3 hcz22_4 hcz22_5
     try clear hcz33_0 hcz33_1 hcz33_2 hcz33_3 hcz33_4 hcz33_5
     try clear hcz34_0 hcz34_1 hcz34_2 hcz34_3 hcz34_4 hcz34_5
     try clear hcz36_0 hcz36_1 hcz36_2 hcz36_3 hcz36_4 hcz36_5
     try clear hcz41_0 hcz41_1 hcz41_2 hcz41_3 hcz41_4 hcz41_5
     try clear hcz42_0 hcz42_1 hcz42_2 hcz42_3 hcz42_4 hcz42_5
     try clear hfz13_0
     try clear hfz16_0
     try clear hfz22_0
     try clear hfz33_0
     try clear hfz34_0
     try clear hfz36_0
     try clear hfz41_0
     try clear hfz42_0
     try clear p2
     obtain⟨kq,x66_9,rfl,HA,HJ9,HO_110005,HO_128005,BK109,BK127,HB⟩:=hcut
     cases kq with
     | zero=>exact absurd HA.out (by simp[z4_.j1])
     | succ kj9 =>
      have H:=HA.out;clear HA;simp only[z4_.j1]at H;by_cases c48:x66_9=true
      ·subst c48
       have H1:(some false)=some r:=by rw[if_pos rfl]at H;exact H
       clear H;have H:=H1;clear H1;obtain rfl:=Option.some.inj H
       go_wp2
       go_ret;exact⟨qee_,qBHB⟩
      ·replace c48:=Bool.eq_false_iff.mpr c48
       subst c48
       have H1:((z15_.f kj9 l1).bind fun bt130=>((z18_.f kj9 l1).bind fun bt140=>(if bt130.2.2.2.2.2.2=bt140.2.2.2.2.2.2 then(if bt130.2.2.2.2.2.2=0 then((z8_.f kj9 bt130.1 bt130.2.1 bt130.2.2.1 bt130.2.2.2.1 bt130.2.2.2.2.1 bt130.2.2.2.2.2.1).bind fun bt150=>(if bt150.2=0 then(some ((strOfNums bt150.1).toList == (strOfNums l1).toList))else(some false)))else(some true))else(some false))))=some r:=by rw[if_neg (show ¬(false=true)by decide)]at H;exact H
       clear H;have H:=H1;clear H1;replace H:=Option.bind_eq_some_iff.mp H;obtain⟨⟨t130,t131,t132,t133,t134,t135,t138⟩,A490,H⟩:=H;dsimp only at H;have A49:=qM_ A490;clear A490;replace H:=Option.bind_eq_some_iff.mp H;obtain⟨⟨t140,t141,t142,t143,t144,t145,t148⟩,A500,H⟩:=H;dsimp only at H;have A50:=qM_ A500;clear A500;by_cases c51:t138=t148
       ·rw[if_pos c51]at H
        have c51b0:(t138 == t148)=true:=beq_iff_eq.mpr c51;have c51b1:(t138 != t148)=false:=bne_eq_false_iff_eq.mpr c51;clear c51;by_cases c52:t138=0
        ·rw[if_pos c52]at H
         have c52b0:(t138 == 0)=true:=beq_iff_eq.mpr c52;have c52b1:(t138 != 0)=false:=bne_eq_false_iff_eq.mpr c52;clear c52;replace H:=Option.bind_eq_some_iff.mp H;obtain⟨⟨t150,t153⟩,A530,H⟩:=H;dsimp only at H;have A53:=qM_ A530;clear A530;by_cases c54:t153=0
         ·rw[if_pos c54]at H
          have c54b0:(t153 == 0)=true:=beq_iff_eq.mpr c54;have c54b1:(t153 != 0)=false:=bne_eq_false_iff_eq.mpr c54;clear c54;obtain rfl:=Option.some.inj H
          go_wp2_with (first|((with_reducible refine gate_callee (f:=15) rfl ?_);refine goesL_ (some 69) rfl rfl Try.func15 qK rfl #[.slice A1 l1.length c1] rfl qll_ ?_;(with_reducible refine(z15_.calls kj9 _ _ l1 t130 t131 t132 t133 t134 t135 t138 _ ?side1 ?side2 A49.out).mono ?_);(case side1=>exact qcc_ (Kd.C_below HR1.out HB.out));(case side2=>exact HC1.out);rintro e w55 ⟨v136,rfl,ho0,hb⟩;refine⟨_,rfl,?_⟩;have HO137:=qM_ (Kd.R_lower (Kd.R_new' (Kd.R_new' ho0 (Kd.R_lt (qr_ HO_110005))) (Kd.R_lt (qr_ HO_128005))) (below_size qBHB));replace HO_110005:=qM_ (Kd.R_elder' (qr_ HO_110005) (Kd.R_base ho0) hb);replace HO_128005:=qM_ (Kd.R_elder' (qr_ HO_128005) (Kd.R_base ho0) hb);replace BK109:=qM_ (blk_below (qk_ BK109) hb);replace BK127:=qM_ (blk_below (qk_ BK127) hb);replace HB:=qM_ (below_step qBHB hb);(try clear hb);(try clear hb2);(try clear hk);(try clear hi);(try clear ho0))|((with_reducible refine gate_dst (N:=12) rfl ?_);(try(refine gate_guard (by rfl) ?_;dsimp only));refine box_event ?hg (N:=12) ?hd (cs:=z4_.b0) (t:=31) ?hr ?_;(case hd=>rfl);(case hg=>rfl);(case hr=>first|(go_simp;done)|(go_simp;rfl));intro gb139 hg w56 hbox hb;replace HO_110005:=qM_ (Kd.R_below (qr_ HO_110005) hb);replace HO_128005:=qM_ (Kd.R_below (qr_ HO_128005) hb);replace HO137:=qM_ (Kd.R_below (qr_ HO137) hb);have BK139:=qM_ (hbox);have GW139:=qM_ ((by rw[hg];exact(below_size qBHB):w.heap.size≤gb139));have GE139:=qM_ ((by rw[hg];exact(below_size qBHB):w.heap.size≤gb139));replace HB:=qM_ (below_step qBHB hb);have NB109_139:=qM_ ((by rw[hg];exact Nat.ne_of_lt (blk_lt (qk_ BK109)):gb109≠gb139));have NB139_109:=qM_ ((by rw[hg];exact Nat.ne_of_gt (blk_lt (qk_ BK109)):gb139≠gb109));replace BK109:=qM_ (blk_below (qk_ BK109) hb);have NB127_139:=qM_ ((by rw[hg];exact Nat.ne_of_lt (blk_lt (qk_ BK127)):gb127≠gb139));have NB139_127:=qM_ ((by rw[hg];exact Nat.ne_of_gt (blk_lt (qk_ BK127)):gb139≠gb127));replace BK127:=qM_ (blk_below (qk_ BK127) hb);clear hb hbox hg;have hnb57:=NB139_109.out;have hnc57:=NB109_139.out;have hnb58:=NB139_127.out;have hnc58:=NB127_139.out;obtain⟨hcz59_0,hcz59_1,hcz59_2,hcz59_3,hcz59_4,hcz59_5,hfz59_0⟩:=qc6_ BK139;obtain⟨Ao60,co60,eo60⟩:=Kd.R_slice HO137.out;subst eo60)|((with_reducible refine gate_callee (f:=18) rfl ?_);refine goesL_ (some 74) rfl rfl Try.func18 qK rfl #[.slice A1 l1.length c1] rfl qll_ ?_;(with_reducible refine(z18_.calls kj9 _ _ l1 t140 t141 t142 t143 t144 t145 t148 _ ?side1 ?side2 A50.out).mono ?_);(case side1=>exact Kd.C_below HR1.out qBHB);(case side2=>exact HC1.out);rintro e w61 ⟨v146,rfl,ho0,hb⟩;refine⟨_,rfl,?_⟩;have HO147:=qM_ (Kd.R_lower (Kd.R_new' (Kd.R_new' (Kd.R_new' ho0 (Kd.R_lt (by(with_reducible repeat(first|apply Kd.R_alloc|apply Kd.R_drewN|apply Kd.R_drew));exact(Kd.R_mono (qf6_ HO_110005 BK139) (fun _ h_=>h_.1))))) (Kd.R_lt (by(with_reducible repeat(first|apply Kd.R_alloc|apply Kd.R_drewN|apply Kd.R_drew));exact(Kd.R_mono (qf6_ HO_128005 BK139) (fun _ h_=>h_.1))))) (Kd.R_lt (by(with_reducible repeat(first|apply Kd.R_alloc|apply Kd.R_drewN|apply Kd.R_drew));exact(Kd.R_mono (qf6_ HO137 BK139) (fun _ h_=>h_.1))))) (below_size qBHB));replace HO_110005:=qM_ (Kd.R_elder' (by(with_reducible repeat(first|apply Kd.R_alloc|apply Kd.R_drewN|apply Kd.R_drew));exact(Kd.R_mono (qf6_ HO_110005 BK139) (fun _ h_=>h_.1))) (Kd.R_base ho0) hb);replace HO_128005:=qM_ (Kd.R_elder' (by(with_reducible repeat(first|apply Kd.R_alloc|apply Kd.R_drewN|apply Kd.R_drew));exact(Kd.R_mono (qf6_ HO_128005 BK139) (fun _ h_=>h_.1))) (Kd.R_base ho0) hb);replace HO137:=qM_ (Kd.R_elder' (by(with_reducible repeat(first|apply Kd.R_alloc|apply Kd.R_drewN|apply Kd.R_drew));exact(Kd.R_mono (qf6_ HO137 BK139) (fun _ h_=>h_.1))) (Kd.R_base ho0) hb);replace BK109:=qM_ (blk_below (g:=gb109) (o:= .cells #[.int .i64 t101,.int .i64 t102,.int .i64 t103,.int .i64 t104,.string t105,.slice Ao14 t106.length co14] 31 (0,0)) (qp_ BK109) hb);replace BK127:=qM_ (blk_below (g:=gb127) (o:= .cells #[.int .i64 t118,.int .i64 t119,.int .i64 t120,.int .i64 t121,.string t122,.slice Ao23 t123.length co23] 31 (0,0)) (qp_ BK127) hb);replace BK139:=qM_ (blk_below (g:=gb139) (o:= .cells #[.int .i64 t130,.int .i64 t131,.int .i64 t132,.int .i64 t133,.string t134,.slice Ao60 t135.length co60] 31 (0,0)) (qp_ BK139) hb);replace HB:=qM_ (below_step qBHB hb);(try clear hb);(try clear hb2);(try clear hk);(try clear hi);(try clear ho0))|((with_reducible refine gate_dst (N:=14) rfl ?_);(try(refine gate_guard (by rfl) ?_;dsimp only));refine box_event ?hg (N:=14) ?hd (cs:=z4_.b0) (t:=31) ?hr ?_;(case hd=>rfl);(case hg=>rfl);(case hr=>first|(go_simp;done)|(go_simp;rfl));intro gb149 hg w62 hbox hb;replace HO_110005:=qM_ (Kd.R_below (qr_ HO_110005) hb);replace HO_128005:=qM_ (Kd.R_below (qr_ HO_128005) hb);replace HO137:=qM_ (Kd.R_below (qr_ HO137) hb);replace HO147:=qM_ (Kd.R_below (qr_ HO147) hb);have BK149:=qM_ (hbox);have GW149:=qM_ ((by rw[hg];exact(below_size qBHB):w.heap.size≤gb149));have GE149:=qM_ ((by rw[hg];exact(below_size qBHB):w.heap.size≤gb149));replace HB:=qM_ (below_step qBHB hb);have NB109_149:=qM_ ((by rw[hg];exact Nat.ne_of_lt (blk_lt (qk_ BK109)):gb109≠gb149));have NB149_109:=qM_ ((by rw[hg];exact Nat.ne_of_gt (blk_lt (qk_ BK109)):gb149≠gb109));replace BK109:=qM_ (blk_below (qk_ BK109) hb);have NB127_149:=qM_ ((by rw[hg];exact Nat.ne_of_lt (blk_lt (qk_ BK127)):gb127≠gb149));have NB149_127:=qM_ ((by rw[hg];exact Nat.ne_of_gt (blk_lt (qk_ BK127)):gb149≠gb127));replace BK127:=qM_ (blk_below (qk_ BK127) hb);have NB139_149:=qM_ ((by rw[hg];exact Nat.ne_of_lt (blk_lt (qk_ BK139)):gb139≠gb149));have NB149_139:=qM_ ((by rw[hg];exact Nat.ne_of_gt (blk_lt (qk_ BK139)):gb149≠gb139));replace BK139:=qM_ (blk_below (qk_ BK139) hb);clear hb hbox hg;have hnb63:=NB149_109.out;have hnc63:=NB109_149.out;have hnb64:=NB149_127.out;have hnc64:=NB127_149.out;have hnb65:=NB149_139.out;have hnc65:=NB139_149.out;obtain⟨hcz66_0,hcz66_1,hcz66_2,hcz66_3,hcz66_4,hcz66_5,hfz66_0⟩:=qc6_ BK149;obtain⟨Ao67,co67,eo67⟩:=Kd.R_slice HO147.out;subst eo67;obtain⟨hcz68_0,hcz68_1,hcz68_2,hcz68_3,hcz68_4,hcz68_5,hfz68_0⟩:=qc6_ BK139)|((with_reducible refine gate_callee (f:=8) rfl ?_);refine goesL_ (some 84) rfl rfl Try.func8 qK rfl #[.agg #[.int .i64 t130,.int .i64 t131,.int .i64 t132,.int .i64 t133,.string t134,.slice Ao60 t135.length co60]] rfl qll_ ?_;(with_reducible refine(z8_.calls kj9 t130 t131 t132 t133 t134 _ _ t135 t150 t153 _ ?side1 ?side2 A53.out).mono ?_);(case side1=>refine(Kd.R_reads' (e:=54) (base:=w.heap.size) (ok:=fun k_=>(((True∧some k_≠(.slice Ao14 t106.length co14:Value).ownBlock)∧some k_≠(.slice Ao23 t123.length co23:Value).ownBlock)∧some k_≠(.slice Ao67 t145.length co67:Value).ownBlock)) (n:=t135.length) (c:=co60) ?_).2.2;exact(by(with_reducible repeat(first|apply Kd.R_alloc|apply Kd.R_drewN|apply Kd.R_drew));exact(Kd.R_mono (qf6_ HO137 BK149) (fun _ h_=>h_.1))));(case side2=>exact(Kd.R_reads' HO137.out).2.1);rintro e w69 ⟨v151,rfl,ho0,hb⟩;refine⟨_,rfl,?_⟩;have HO152:=qM_ (Kd.V_lower (Kd.V_mono (ok' := fun k_=>some k_≠(.slice Ao14 t106.length co14:Value).ownBlock∧some k_≠(.slice Ao23 t123.length co23:Value).ownBlock∧some k_≠(.slice Ao60 t135.length co60:Value).ownBlock∧some k_≠(.slice Ao67 t145.length co67:Value).ownBlock∧k_≠gb109∧k_≠gb127∧k_≠gb139∧k_≠gb149) ho0 (fun k_ hk_=>⟨(Kd.fresh' (Kd.R_lt (by(with_reducible repeat(first|apply Kd.R_alloc|apply Kd.R_drewN|apply Kd.R_drew));exact(Kd.R_mono (qf6_ HO_110005 BK149) (fun _ h_=>h_.1)))) k_ hk_),(Kd.fresh' (Kd.R_lt (by(with_reducible repeat(first|apply Kd.R_alloc|apply Kd.R_drewN|apply Kd.R_drew));exact(Kd.R_mono (qf6_ HO_128005 BK149) (fun _ h_=>h_.1)))) k_ hk_),(Kd.fresh' (Kd.R_lt (by(with_reducible repeat(first|apply Kd.R_alloc|apply Kd.R_drewN|apply Kd.R_drew));exact(Kd.R_mono (qf6_ HO137 BK149) (fun _ h_=>h_.1)))) k_ hk_),(Kd.fresh' (Kd.R_lt (by(with_reducible repeat(first|apply Kd.R_alloc|apply Kd.R_drewN|apply Kd.R_drew));exact(Kd.R_mono (qf6_ HO147 BK149) (fun _ h_=>h_.1)))) k_ hk_),(Kd.freshB (g:=gb109) (o:= .cells #[.int .i64 t101,.int .i64 t102,.int .i64 t103,.int .i64 t104,.string t105,.slice Ao14 t106.length co14] 31 (0,0)) (qp_ BK109) k_ hk_),(Kd.freshB (g:=gb127) (o:= .cells #[.int .i64 t118,.int .i64 t119,.int .i64 t120,.int .i64 t121,.string t122,.slice Ao23 t123.length co23] 31 (0,0)) (qp_ BK127) k_ hk_),(Kd.freshB (g:=gb139) (o:= .cells #[.int .i64 t130,.int .i64 t131,.int .i64 t132,.int .i64 t133,.string t134,.slice Ao60 t135.length co60] 31 (0,0)) (qp_ BK139) k_ hk_),(Kd.freshB (g:=gb149) (o:= .cells #[.int .i64 t140,.int .i64 t141,.int .i64 t142,.int .i64 t143,.string t144,.slice Ao67 t145.length co67] 31 (0,0)) (qp_ BK149) k_ hk_)⟩)) (below_size qBHB));replace HO_110005:=qM_ (Kd.R_below (by(with_reducible repeat(first|apply Kd.R_alloc|apply Kd.R_drewN|apply Kd.R_drew));exact(Kd.R_mono (qf6_ HO_110005 BK149) (fun _ h_=>h_.1))) hb);replace HO_128005:=qM_ (Kd.R_below (by(with_reducible repeat(first|apply Kd.R_alloc|apply Kd.R_drewN|apply Kd.R_drew));exact(Kd.R_mono (qf6_ HO_128005 BK149) (fun _ h_=>h_.1))) hb);replace HO137:=qM_ (Kd.R_below (by(with_reducible repeat(first|apply Kd.R_alloc|apply Kd.R_drewN|apply Kd.R_drew));exact(Kd.R_mono (qf6_ HO137 BK149) (fun _ h_=>h_.1))) hb);replace HO147:=qM_ (Kd.R_below (by(with_reducible repeat(first|apply Kd.R_alloc|apply Kd.R_drewN|apply Kd.R_drew));exact(Kd.R_mono (qf6_ HO147 BK149) (fun _ h_=>h_.1))) hb);replace BK109:=qM_ (blk_below (g:=gb109) (o:= .cells #[.int .i64 t101,.int .i64 t102,.int .i64 t103,.int .i64 t104,.string t105,.slice Ao14 t106.length co14] 31 (0,0)) (qp_ BK109) hb);replace BK127:=qM_ (blk_below (g:=gb127) (o:= .cells #[.int .i64 t118,.int .i64 t119,.int .i64 t120,.int .i64 t121,.string t122,.slice Ao23 t123.length co23] 31 (0,0)) (qp_ BK127) hb);replace BK139:=qM_ (blk_below (g:=gb139) (o:= .cells #[.int .i64 t130,.int .i64 t131,.int .i64 t132,.int .i64 t133,.string t134,.slice Ao60 t135.length co60] 31 (0,0)) (qp_ BK139) hb);replace BK149:=qM_ (blk_below (g:=gb149) (o:= .cells #[.int .i64 t140,.int .i64 t141,.int .i64 t142,.int .i64 t143,.string t144,.slice Ao67 t145.length co67] 31 (0,0)) (qp_ BK149) hb);replace HB:=qM_ (below_step qBHB hb);(try clear hb);(try clear hb2);(try clear hk);(try clear hi);(try clear ho0);have hcv70:=V_string (P:=Try.prog) Try.underlying26 Try.underlying5 Try.underlying9 HO152.out;have hcv71:=Kd.C_string (P:=Try.prog) (A:=A1) (c:=c1) Try.underlying26 Try.underlying5 Try.underlying9 (Kd.C_below HR1.out HB.out)))
          go_ret;exact⟨qee_,qBHB⟩
         ·rw[if_neg c54]at H
          have c54b0:(t153 == 0)=false:=beq_eq_false_iff_ne.mpr c54;have c54b1:(t153 != 0)=true:=bne_iff_ne.mpr c54;obtain rfl:=Option.some.inj H
          go_wp2_with (first|((with_reducible refine gate_callee (f:=15) rfl ?_);refine goesL_ (some 69) rfl rfl Try.func15 qK rfl #[.slice A1 l1.length c1] rfl qll_ ?_;(with_reducible refine(z15_.calls kj9 _ _ l1 t130 t131 t132 t133 t134 t135 t138 _ ?side1 ?side2 A49.out).mono ?_);(case side1=>exact qcc_ (Kd.C_below HR1.out HB.out));(case side2=>exact HC1.out);rintro e w72 ⟨v136,rfl,ho0,hb⟩;refine⟨_,rfl,?_⟩;have HO137:=qM_ (Kd.R_lower (Kd.R_new' (Kd.R_new' ho0 (Kd.R_lt (qr_ HO_110005))) (Kd.R_lt (qr_ HO_128005))) (below_size qBHB));replace HO_110005:=qM_ (Kd.R_elder' (qr_ HO_110005) (Kd.R_base ho0) hb);replace HO_128005:=qM_ (Kd.R_elder' (qr_ HO_128005) (Kd.R_base ho0) hb);replace BK109:=qM_ (blk_below (qk_ BK109) hb);replace BK127:=qM_ (blk_below (qk_ BK127) hb);replace HB:=qM_ (below_step qBHB hb);(try clear hb);(try clear hb2);(try clear hk);(try clear hi);(try clear ho0))|((with_reducible refine gate_dst (N:=12) rfl ?_);(try(refine gate_guard (by rfl) ?_;dsimp only));refine box_event ?hg (N:=12) ?hd (cs:=z4_.b0) (t:=31) ?hr ?_;(case hd=>rfl);(case hg=>rfl);(case hr=>first|(go_simp;done)|(go_simp;rfl));intro gb139 hg w73 hbox hb;replace HO_110005:=qM_ (Kd.R_below (qr_ HO_110005) hb);replace HO_128005:=qM_ (Kd.R_below (qr_ HO_128005) hb);replace HO137:=qM_ (Kd.R_below (qr_ HO137) hb);have BK139:=qM_ (hbox);have GW139:=qM_ ((by rw[hg];exact(below_size qBHB):w.heap.size≤gb139));have GE139:=qM_ ((by rw[hg];exact(below_size qBHB):w.heap.size≤gb139));replace HB:=qM_ (below_step qBHB hb);have NB109_139:=qM_ ((by rw[hg];exact Nat.ne_of_lt (blk_lt (qk_ BK109)):gb109≠gb139));have NB139_109:=qM_ ((by rw[hg];exact Nat.ne_of_gt (blk_lt (qk_ BK109)):gb139≠gb109));replace BK109:=qM_ (blk_below (qk_ BK109) hb);have NB127_139:=qM_ ((by rw[hg];exact Nat.ne_of_lt (blk_lt (qk_ BK127)):gb127≠gb139));have NB139_127:=qM_ ((by rw[hg];exact Nat.ne_of_gt (blk_lt (qk_ BK127)):gb139≠gb127));replace BK127:=qM_ (blk_below (qk_ BK127) hb);clear hb hbox hg;have hnb74:=NB139_109.out;have hnc74:=NB109_139.out;have hnb75:=NB139_127.out;have hnc75:=NB127_139.out;obtain⟨hcz76_0,hcz76_1,hcz76_2,hcz76_3,hcz76_4,hcz76_5,hfz76_0⟩:=qc6_ BK139;obtain⟨Ao77,co77,eo77⟩:=Kd.R_slice HO137.out;subst eo77)|((with_reducible refine gate_callee (f:=18) rfl ?_);refine goesL_ (some 74) rfl rfl Try.func18 qK rfl #[.slice A1 l1.length c1] rfl qll_ ?_;(with_reducible refine(z18_.calls kj9 _ _ l1 t140 t141 t142 t143 t144 t145 t148 _ ?side1 ?side2 A50.out).mono ?_);(case side1=>exact Kd.C_below HR1.out qBHB);(case side2=>exact HC1.out);rintro e w78 ⟨v146,rfl,ho0,hb⟩;refine⟨_,rfl,?_⟩;have HO147:=qM_ (Kd.R_lower (Kd.R_new' (Kd.R_new' (Kd.R_new' ho0 (Kd.R_lt (by(with_reducible repeat(first|apply Kd.R_alloc|apply Kd.R_drewN|apply Kd.R_drew));exact(Kd.R_mono (qf6_ HO_110005 BK139) (fun _ h_=>h_.1))))) (Kd.R_lt (by(with_reducible repeat(first|apply Kd.R_alloc|apply Kd.R_drewN|apply Kd.R_drew));exact(Kd.R_mono (qf6_ HO_128005 BK139) (fun _ h_=>h_.1))))) (Kd.R_lt (by(with_reducible repeat(first|apply Kd.R_alloc|apply Kd.R_drewN|apply Kd.R_drew));exact(Kd.R_mono (qf6_ HO137 BK139) (fun _ h_=>h_.1))))) (below_size qBHB));replace HO_110005:=qM_ (Kd.R_elder' (by(with_reducible repeat(first|apply Kd.R_alloc|apply Kd.R_drewN|apply Kd.R_drew));exact(Kd.R_mono (qf6_ HO_110005 BK139) (fun _ h_=>h_.1))) (Kd.R_base ho0) hb);replace HO_128005:=qM_ (Kd.R_elder' (by(with_reducible repeat(first|apply Kd.R_alloc|apply Kd.R_drewN|apply Kd.R_drew));exact(Kd.R_mono (qf6_ HO_128005 BK139) (fun _ h_=>h_.1))) (Kd.R_base ho0) hb);replace HO137:=qM_ (Kd.R_elder' (by(with_reducible repeat(first|apply Kd.R_alloc|apply Kd.R_drewN|apply Kd.R_drew));exact(Kd.R_mono (qf6_ HO137 BK139) (fun _ h_=>h_.1))) (Kd.R_base ho0) hb);replace BK109:=qM_ (blk_below (g:=gb109) (o:= .cells #[.int .i64 t101,.int .i64 t102,.int .i64 t103,.int .i64 t104,.string t105,.slice Ao14 t106.length co14] 31 (0,0)) (qp_ BK109) hb);replace BK127:=qM_ (blk_below (g:=gb127) (o:= .cells #[.int .i64 t118,.int .i64 t119,.int .i64 t120,.int .i64 t121,.string t122,.slice Ao23 t123.length co23] 31 (0,0)) (qp_ BK127) hb);replace BK139:=qM_ (blk_below (g:=gb139) (o:= .cells #[.int .i64 t130,.int .i64 t131,.int .i64 t132,.int .i64 t133,.string t134,.slice Ao77 t135.length co77] 31 (0,0)) (qp_ BK139) hb);replace HB:=qM_ (below_step qBHB hb);(try clear hb);(try clear hb2);(try clear hk);(try clear hi);(try clear ho0))|((with_reducible refine gate_dst (N:=14) rfl ?_);(try(refine gate_guard (by rfl) ?_;dsimp only));refine box_event ?hg (N:=14) ?hd (cs:=z4_.b0) (t:=31) ?hr ?_;(case hd=>rfl);(case hg=>rfl);(case hr=>first|(go_simp;done)|(go_simp;rfl));intro gb149 hg w79 hbox hb;replace HO_110005:=qM_ (Kd.R_below (qr_ HO_110005) hb);replace HO_128005:=qM_ (Kd.R_below (qr_ HO_128005) hb);replace HO137:=qM_ (Kd.R_below (qr_ HO137) hb);replace HO147:=qM_ (Kd.R_below (qr_ HO147) hb);have BK149:=qM_ (hbox);have GW149:=qM_ ((by rw[hg];exact(below_size qBHB):w.heap.size≤gb149));have GE149:=qM_ ((by rw[hg];exact(below_size qBHB):w.heap.size≤gb149));replace HB:=qM_ (below_step qBHB hb);have NB109_149:=qM_ ((by rw[hg];exact Nat.ne_of_lt (blk_lt (qk_ BK109)):gb109≠gb149));have NB149_109:=qM_ ((by rw[hg];exact Nat.ne_of_gt (blk_lt (qk_ BK109)):gb149≠gb109));replace BK109:=qM_ (blk_below (qk_ BK109) hb);have NB127_149:=qM_ ((by rw[hg];exact Nat.ne_of_lt (blk_lt (qk_ BK127)):gb127≠gb149));have NB149_127:=qM_ ((by rw[hg];exact Nat.ne_of_gt (blk_lt (qk_ BK127)):gb149≠gb127));replace BK127:=qM_ (blk_below (qk_ BK127) hb);have NB139_149:=qM_ ((by rw[hg];exact Nat.ne_of_lt (blk_lt (qk_ BK139)):gb139≠gb149));have NB149_139:=qM_ ((by rw[hg];exact Nat.ne_of_gt (blk_lt (qk_ BK139)):gb149≠gb139));replace BK139:=qM_ (blk_below (qk_ BK139) hb);clear hb hbox hg;have hnb80:=NB149_109.out;have hnc80:=NB109_149.out;have hnb81:=NB149_127.out;have hnc81:=NB127_149.out;have hnb82:=NB149_139.out;have hnc82:=NB139_149.out;obtain⟨hcz83_0,hcz83_1,hcz83_2,hcz83_3,hcz83_4,hcz83_5,hfz83_0⟩:=qc6_ BK149;obtain⟨Ao84,co84,eo84⟩:=Kd.R_slice HO147.out;subst eo84;obtain⟨hcz85_0,hcz85_1,hcz85_2,hcz85_3,hcz85_4,hcz85_5,hfz85_0⟩:=qc6_ BK139)|((with_reducible refine gate_callee (f:=8) rfl ?_);refine goesL_ (some 84) rfl rfl Try.func8 qK rfl #[.agg #[.int .i64 t130,.int .i64 t131,.int .i64 t132,.int .i64 t133,.string t134,.slice Ao77 t135.length co77]] rfl qll_ ?_;(with_reducible refine(z8_.calls kj9 t130 t131 t132 t133 t134 _ _ t135 t150 t153 _ ?side1 ?side2 A53.out).mono ?_);(case side1=>refine(Kd.R_reads' (e:=54) (base:=w.heap.size) (ok:=fun k_=>(((True∧some k_≠(.slice Ao14 t106.length co14:Value).ownBlock)∧some k_≠(.slice Ao23 t123.length co23:Value).ownBlock)∧some k_≠(.slice Ao84 t145.length co84:Value).ownBlock)) (n:=t135.length) (c:=co77) ?_).2.2;exact(by(with_reducible repeat(first|apply Kd.R_alloc|apply Kd.R_drewN|apply Kd.R_drew));exact(Kd.R_mono (qf6_ HO137 BK149) (fun _ h_=>h_.1))));(case side2=>exact(Kd.R_reads' HO137.out).2.1);rintro e w86 ⟨v151,rfl,ho0,hb⟩;refine⟨_,rfl,?_⟩;have HO152:=qM_ (Kd.V_lower (Kd.V_mono (ok' := fun k_=>some k_≠(.slice Ao14 t106.length co14:Value).ownBlock∧some k_≠(.slice Ao23 t123.length co23:Value).ownBlock∧some k_≠(.slice Ao77 t135.length co77:Value).ownBlock∧some k_≠(.slice Ao84 t145.length co84:Value).ownBlock∧k_≠gb109∧k_≠gb127∧k_≠gb139∧k_≠gb149) ho0 (fun k_ hk_=>⟨(Kd.fresh' (Kd.R_lt (by(with_reducible repeat(first|apply Kd.R_alloc|apply Kd.R_drewN|apply Kd.R_drew));exact(Kd.R_mono (qf6_ HO_110005 BK149) (fun _ h_=>h_.1)))) k_ hk_),(Kd.fresh' (Kd.R_lt (by(with_reducible repeat(first|apply Kd.R_alloc|apply Kd.R_drewN|apply Kd.R_drew));exact(Kd.R_mono (qf6_ HO_128005 BK149) (fun _ h_=>h_.1)))) k_ hk_),(Kd.fresh' (Kd.R_lt (by(with_reducible repeat(first|apply Kd.R_alloc|apply Kd.R_drewN|apply Kd.R_drew));exact(Kd.R_mono (qf6_ HO137 BK149) (fun _ h_=>h_.1)))) k_ hk_),(Kd.fresh' (Kd.R_lt (by(with_reducible repeat(first|apply Kd.R_alloc|apply Kd.R_drewN|apply Kd.R_drew));exact(Kd.R_mono (qf6_ HO147 BK149) (fun _ h_=>h_.1)))) k_ hk_),(Kd.freshB (g:=gb109) (o:= .cells #[.int .i64 t101,.int .i64 t102,.int .i64 t103,.int .i64 t104,.string t105,.slice Ao14 t106.length co14] 31 (0,0)) (qp_ BK109) k_ hk_),(Kd.freshB (g:=gb127) (o:= .cells #[.int .i64 t118,.int .i64 t119,.int .i64 t120,.int .i64 t121,.string t122,.slice Ao23 t123.length co23] 31 (0,0)) (qp_ BK127) k_ hk_),(Kd.freshB (g:=gb139) (o:= .cells #[.int .i64 t130,.int .i64 t131,.int .i64 t132,.int .i64 t133,.string t134,.slice Ao77 t135.length co77] 31 (0,0)) (qp_ BK139) k_ hk_),(Kd.freshB (g:=gb149) (o:= .cells #[.int .i64 t140,.int .i64 t141,.int .i64 t142,.int .i64 t143,.string t144,.slice Ao84 t145.length co84] 31 (0,0)) (qp_ BK149) k_ hk_)⟩)) (below_size qBHB));replace HO_110005:=qM_ (Kd.R_below (by(with_reducible repeat(first|apply Kd.R_alloc|apply Kd.R_drewN|apply Kd.R_drew));exact(Kd.R_mono (qf6_ HO_110005 BK149) (fun _ h_=>h_.1))) hb);replace HO_128005:=qM_ (Kd.R_below (by(with_reducible repeat(first|apply Kd.R_alloc|apply Kd.R_drewN|apply Kd.R_drew));exact(Kd.R_mono (qf6_ HO_128005 BK149) (fun _ h_=>h_.1))) hb);replace HO137:=qM_ (Kd.R_below (by(with_reducible repeat(first|apply Kd.R_alloc|apply Kd.R_drewN|apply Kd.R_drew));exact(Kd.R_mono (qf6_ HO137 BK149) (fun _ h_=>h_.1))) hb);replace HO147:=qM_ (Kd.R_below (by(with_reducible repeat(first|apply Kd.R_alloc|apply Kd.R_drewN|apply Kd.R_drew));exact(Kd.R_mono (qf6_ HO147 BK149) (fun _ h_=>h_.1))) hb);replace BK109:=qM_ (blk_below (g:=gb109) (o:= .cells #[.int .i64 t101,.int .i64 t102,.int .i64 t103,.int .i64 t104,.string t105,.slice Ao14 t106.length co14] 31 (0,0)) (qp_ BK109) hb);replace BK127:=qM_ (blk_below (g:=gb127) (o:= .cells #[.int .i64 t118,.int .i64 t119,.int .i64 t120,.int .i64 t121,.string t122,.slice Ao23 t123.length co23] 31 (0,0)) (qp_ BK127) hb);replace BK139:=qM_ (blk_below (g:=gb139) (o:= .cells #[.int .i64 t130,.int .i64 t131,.int .i64 t132,.int .i64 t133,.string t134,.slice Ao77 t135.length co77] 31 (0,0)) (qp_ BK139) hb);replace BK149:=qM_ (blk_below (g:=gb149) (o:= .cells #[.int .i64 t140,.int .i64 t141,.int .i64 t142,.int .i64 t143,.string t144,.slice Ao84 t145.length co84] 31 (0,0)) (qp_ BK149) hb);replace HB:=qM_ (below_step qBHB hb);(try clear hb);(try clear hb2);(try clear hk);(try clear hi);(try clear ho0)))
          go_ret;exact⟨qee_,qBHB⟩
        ·rw[if_neg c52]at H
         have c52b0:(t138 == 0)=false:=beq_eq_false_iff_ne.mpr c52;have c52b1:(t138 != 0)=true:=bne_iff_ne.mpr c52;obtain rfl:=Option.some.inj H
         go_wp2_with (first|((with_reducible refine gate_callee (f:=15) rfl ?_);refine goesL_ (some 69) rfl rfl Try.func15 qK rfl #[.slice A1 l1.length c1] rfl qll_ ?_;(with_reducible refine(z15_.calls kj9 _ _ l1 t130 t131 t132 t133 t134 t135 t138 _ ?side1 ?side2 A49.out).mono ?_);(case side1=>exact qcc_ (Kd.C_below HR1.out HB.out));(case side2=>exact HC1.out);rintro e w87 ⟨v136,rfl,ho0,hb⟩;refine⟨_,rfl,?_⟩;have HO137:=qM_ (Kd.R_lower (Kd.R_new' (Kd.R_new' ho0 (Kd.R_lt (qr_ HO_110005))) (Kd.R_lt (qr_ HO_128005))) (below_size qBHB));replace HO_110005:=qM_ (Kd.R_elder' (qr_ HO_110005) (Kd.R_base ho0) hb);replace HO_128005:=qM_ (Kd.R_elder' (qr_ HO_128005) (Kd.R_base ho0) hb);replace BK109:=qM_ (blk_below (qk_ BK109) hb);replace BK127:=qM_ (blk_below (qk_ BK127) hb);replace HB:=qM_ (below_step qBHB hb);(try clear hb);(try clear hb2);(try clear hk);(try clear hi);(try clear ho0))|((with_reducible refine gate_dst (N:=12) rfl ?_);(try(refine gate_guard (by rfl) ?_;dsimp only));refine box_event ?hg (N:=12) ?hd (cs:=z4_.b0) (t:=31) ?hr ?_;(case hd=>rfl);(case hg=>rfl);(case hr=>first|(go_simp;done)|(go_simp;rfl));intro gb139 hg w88 hbox hb;replace HO_110005:=qM_ (Kd.R_below (qr_ HO_110005) hb);replace HO_128005:=qM_ (Kd.R_below (qr_ HO_128005) hb);replace HO137:=qM_ (Kd.R_below (qr_ HO137) hb);have BK139:=qM_ (hbox);have GW139:=qM_ ((by rw[hg];exact(below_size qBHB):w.heap.size≤gb139));have GE139:=qM_ ((by rw[hg];exact(below_size qBHB):w.heap.size≤gb139));replace HB:=qM_ (below_step qBHB hb);have NB109_139:=qM_ ((by rw[hg];exact Nat.ne_of_lt (blk_lt (qk_ BK109)):gb109≠gb139));have NB139_109:=qM_ ((by rw[hg];exact Nat.ne_of_gt (blk_lt (qk_ BK109)):gb139≠gb109));replace BK109:=qM_ (blk_below (qk_ BK109) hb);have NB127_139:=qM_ ((by rw[hg];exact Nat.ne_of_lt (blk_lt (qk_ BK127)):gb127≠gb139));have NB139_127:=qM_ ((by rw[hg];exact Nat.ne_of_gt (blk_lt (qk_ BK127)):gb139≠gb127));replace BK127:=qM_ (blk_below (qk_ BK127) hb);clear hb hbox hg;have hnb89:=NB139_109.out;have hnc89:=NB109_139.out;have hnb90:=NB139_127.out;have hnc90:=NB127_139.out;obtain⟨hcz91_0,hcz91_1,hcz91_2,hcz91_3,hcz91_4,hcz91_5,hfz91_0⟩:=qc6_ BK139;obtain⟨Ao92,co92,eo92⟩:=Kd.R_slice HO137.out;subst eo92)|((with_reducible refine gate_callee (f:=18) rfl ?_);refine goesL_ (some 74) rfl rfl Try.func18 qK rfl #[.slice A1 l1.length c1] rfl qll_ ?_;(with_reducible refine(z18_.calls kj9 _ _ l1 t140 t141 t142 t143 t144 t145 t148 _ ?side1 ?side2 A50.out).mono ?_);(case side1=>exact Kd.C_below HR1.out qBHB);(case side2=>exact HC1.out);rintro e w93 ⟨v146,rfl,ho0,hb⟩;refine⟨_,rfl,?_⟩;have HO147:=qM_ (Kd.R_lower (Kd.R_new' (Kd.R_new' (Kd.R_new' ho0 (Kd.R_lt (by(with_reducible repeat(first|apply Kd.R_alloc|apply Kd.R_drewN|apply Kd.R_drew));exact(Kd.R_mono (qf6_ HO_110005 BK139) (fun _ h_=>h_.1))))) (Kd.R_lt (by(with_reducible repeat(first|apply Kd.R_alloc|apply Kd.R_drewN|apply Kd.R_drew));exact(Kd.R_mono (qf6_ HO_128005 BK139) (fun _ h_=>h_.1))))) (Kd.R_lt (by(with_reducible repeat(first|apply Kd.R_alloc|apply Kd.R_drewN|apply Kd.R_drew));exact(Kd.R_mono (qf6_ HO137 BK139) (fun _ h_=>h_.1))))) (below_size qBHB));replace HO_110005:=qM_ (Kd.R_elder' (by(with_reducible repeat(first|apply Kd.R_alloc|apply Kd.R_drewN|apply Kd.R_drew));exact(Kd.R_mono (qf6_ HO_110005 BK139) (fun _ h_=>h_.1))) (Kd.R_base ho0) hb);replace HO_128005:=qM_ (Kd.R_elder' (by(with_reducible repeat(first|apply Kd.R_alloc|apply Kd.R_drewN|apply Kd.R_drew));exact(Kd.R_mono (qf6_ HO_128005 BK139) (fun _ h_=>h_.1))) (Kd.R_base ho0) hb);replace HO137:=qM_ (Kd.R_elder' (by(with_reducible repeat(first|apply Kd.R_alloc|apply Kd.R_drewN|apply Kd.R_drew));exact(Kd.R_mono (qf6_ HO137 BK139) (fun _ h_=>h_.1))) (Kd.R_base ho0) hb);replace BK109:=qM_ (blk_below (g:=gb109) (o:= .cells #[.int .i64 t101,.int .i64 t102,.int .i64 t103,.int .i64 t104,.string t105,.slice Ao14 t106.length co14] 31 (0,0)) (qp_ BK109) hb);replace BK127:=qM_ (blk_below (g:=gb127) (o:= .cells #[.int .i64 t118,.int .i64 t119,.int .i64 t120,.int .i64 t121,.string t122,.slice Ao23 t123.length co23] 31 (0,0)) (qp_ BK127) hb);replace BK139:=qM_ (blk_below (g:=gb139) (o:= .cells #[.int .i64 t130,.int .i64 t131,.int .i64 t132,.int .i64 t133,.string t134,.slice Ao92 t135.length co92] 31 (0,0)) (qp_ BK139) hb);replace HB:=qM_ (below_step qBHB hb);(try clear hb);(try clear hb2);(try clear hk);(try clear hi);(try clear ho0))|((with_reducible refine gate_dst (N:=14) rfl ?_);(try(refine gate_guard (by rfl) ?_;dsimp only));refine box_event ?hg (N:=14) ?hd (cs:=z4_.b0) (t:=31) ?hr ?_;(case hd=>rfl);(case hg=>rfl);(case hr=>first|(go_simp;done)|(go_simp;rfl));intro gb149 hg w94 hbox hb;replace HO_110005:=qM_ (Kd.R_below (qr_ HO_110005) hb);replace HO_128005:=qM_ (Kd.R_below (qr_ HO_128005) hb);replace HO137:=qM_ (Kd.R_below (qr_ HO137) hb);replace HO147:=qM_ (Kd.R_below (qr_ HO147) hb);have BK149:=qM_ (hbox);have GW149:=qM_ ((by rw[hg];exact(below_size qBHB):w.heap.size≤gb149));have GE149:=qM_ ((by rw[hg];exact(below_size qBHB):w.heap.size≤gb149));replace HB:=qM_ (below_step qBHB hb);have NB109_149:=qM_ ((by rw[hg];exact Nat.ne_of_lt (blk_lt (qk_ BK109)):gb109≠gb149));have NB149_109:=qM_ ((by rw[hg];exact Nat.ne_of_gt (blk_lt (qk_ BK109)):gb149≠gb109));replace BK109:=qM_ (blk_below (qk_ BK109) hb);have NB127_149:=qM_ ((by rw[hg];exact Nat.ne_of_lt (blk_lt (qk_ BK127)):gb127≠gb149));have NB149_127:=qM_ ((by rw[hg];exact Nat.ne_of_gt (blk_lt (qk_ BK127)):gb149≠gb127));replace BK127:=qM_ (blk_below (qk_ BK127) hb);have NB139_149:=qM_ ((by rw[hg];exact Nat.ne_of_lt (blk_lt (qk_ BK139)):gb139≠gb149));have NB149_139:=qM_ ((by rw[hg];exact Nat.ne_of_gt (blk_lt (qk_ BK139)):gb149≠gb139));replace BK139:=qM_ (blk_below (qk_ BK139) hb);clear hb hbox hg;have hnb95:=NB149_109.out;have hnc95:=NB109_149.out;have hnb96:=NB149_127.out;have hnc96:=NB127_149.out;have hnb97:=NB149_139.out;have hnc97:=NB139_149.out;obtain⟨hcz98_0,hcz98_1,hcz98_2,hcz98_3,hcz98_4,hcz98_5,hfz98_0⟩:=qc6_ BK149;obtain⟨Ao99,co99,eo99⟩:=Kd.R_slice HO147.out;subst eo99))
         go_ret;exact⟨qee_,qBHB⟩
       ·rw[if_neg c51]at H
        have c51b0:(t138 == t148)=false:=beq_eq_false_iff_ne.mpr c51;have c51b1:(t138 != t148)=true:=bne_iff_ne.mpr c51;obtain rfl:=Option.some.inj H
        go_wp2_with (first|((with_reducible refine gate_callee (f:=15) rfl ?_);refine goesL_ (some 69) rfl rfl Try.func15 qK rfl #[.slice A1 l1.length c1] rfl qll_ ?_;(with_reducible refine(z15_.calls kj9 _ _ l1 t130 t131 t132 t133 t134 t135 t138 _ ?side1 ?side2 A49.out).mono ?_);(case side1=>exact qcc_ (Kd.C_below HR1.out HB.out));(case side2=>exact HC1.out);rintro e w100 ⟨v136,rfl,ho0,hb⟩;refine⟨_,rfl,?_⟩;have HO137:=qM_ (Kd.R_lower (Kd.R_new' (Kd.R_new' ho0 (Kd.R_lt (qr_ HO_110005))) (Kd.R_lt (qr_ HO_128005))) (below_size qBHB));replace HO_110005:=qM_ (Kd.R_elder' (qr_ HO_110005) (Kd.R_base ho0) hb);replace HO_128005:=qM_ (Kd.R_elder' (qr_ HO_128005) (Kd.R_base ho0) hb);replace BK109:=qM_ (blk_below (qk_ BK109) hb);replace BK127:=qM_ (blk_below (qk_ BK127) hb);replace HB:=qM_ (below_step qBHB hb);(try clear hb);(try clear hb2);(try clear hk);(try clear hi);(try clear ho0))|((with_reducible refine gate_dst (N:=12) rfl ?_);(try(refine gate_guard (by rfl) ?_;dsimp only));refine box_event ?hg (N:=12) ?hd (cs:=z4_.b0) (t:=31) ?hr ?_;(case hd=>rfl);(case hg=>rfl);(case hr=>first|(go_simp;done)|(go_simp;rfl));intro gb139 hg w101 hbox hb;replace HO_110005:=qM_ (Kd.R_below (qr_ HO_110005) hb);replace HO_128005:=qM_ (Kd.R_below (qr_ HO_128005) hb);replace HO137:=qM_ (Kd.R_below (qr_ HO137) hb);have BK139:=qM_ (hbox);have GW139:=qM_ ((by rw[hg];exact(below_size qBHB):w.heap.size≤gb139));have GE139:=qM_ ((by rw[hg];exact(below_size qBHB):w.heap.size≤gb139));replace HB:=qM_ (below_step qBHB hb);have NB109_139:=qM_ ((by rw[hg];exact Nat.ne_of_lt (blk_lt (qk_ BK109)):gb109≠gb139));have NB139_109:=qM_ ((by rw[hg];exact Nat.ne_of_gt (blk_lt (qk_ BK109)):gb139≠gb109));replace BK109:=qM_ (blk_below (qk_ BK109) hb);have NB127_139:=qM_ ((by rw[hg];exact Nat.ne_of_lt (blk_lt (qk_ BK127)):gb127≠gb139));have NB139_127:=qM_ ((by rw[hg];exact Nat.ne_of_gt (blk_lt (qk_ BK127)):gb139≠gb127));replace BK127:=qM_ (blk_below (qk_ BK127) hb);clear hb hbox hg;have hnb102:=NB139_109.out;have hnc102:=NB109_139.out;have hnb103:=NB139_127.out;have hnc103:=NB127_139.out;obtain⟨hcz104_0,hcz104_1,hcz104_2,hcz104_3,hcz104_4,hcz104_5,hfz104_0⟩:=qc6_ BK139;obtain⟨Ao105,co105,eo105⟩:=Kd.R_slice HO137.out;subst eo105)|((with_reducible refine gate_callee (f:=18) rfl ?_);refine goesL_ (some 74) rfl rfl Try.func18 qK rfl #[.slice A1 l1.length c1] rfl qll_ ?_;(with_reducible refine(z18_.calls kj9 _ _ l1 t140 t141 t142 t143 t144 t145 t148 _ ?side1 ?side2 A50.out).mono ?_);(case side1=>exact Kd.C_below HR1.out qBHB);(case side2=>exact HC1.out);rintro e w106 ⟨v146,rfl,ho0,hb⟩;refine⟨_,rfl,?_⟩;have HO147:=qM_ (Kd.R_lower (Kd.R_new' (Kd.R_new' (Kd.R_new' ho0 (Kd.R_lt (by(with_reducible repeat(first|apply Kd.R_alloc|apply Kd.R_drewN|apply Kd.R_drew));exact(Kd.R_mono (qf6_ HO_110005 BK139) (fun _ h_=>h_.1))))) (Kd.R_lt (by(with_reducible repeat(first|apply Kd.R_alloc|apply Kd.R_drewN|apply Kd.R_drew));exact(Kd.R_mono (qf6_ HO_128005 BK139) (fun _ h_=>h_.1))))) (Kd.R_lt (by(with_reducible repeat(first|apply Kd.R_alloc|apply Kd.R_drewN|apply Kd.R_drew));exact(Kd.R_mono (qf6_ HO137 BK139) (fun _ h_=>h_.1))))) (below_size qBHB));replace HO_110005:=qM_ (Kd.R_elder' (by(with_reducible repeat(first|apply Kd.R_alloc|apply Kd.R_drewN|apply Kd.R_drew));exact(Kd.R_mono (qf6_ HO_110005 BK139) (fun _ h_=>h_.1))) (Kd.R_base ho0) hb);replace HO_128005:=qM_ (Kd.R_elder' (by(with_reducible repeat(first|apply Kd.R_alloc|apply Kd.R_drewN|apply Kd.R_drew));exact(Kd.R_mono (qf6_ HO_128005 BK139) (fun _ h_=>h_.1))) (Kd.R_base ho0) hb);replace HO137:=qM_ (Kd.R_elder' (by(with_reducible repeat(first|apply Kd.R_alloc|apply Kd.R_drewN|apply Kd.R_drew));exact(Kd.R_mono (qf6_ HO137 BK139) (fun _ h_=>h_.1))) (Kd.R_base ho0) hb);replace BK109:=qM_ (blk_below (g:=gb109) (o:= .cells #[.int .i64 t101,.int .i64 t102,.int .i64 t103,.int .i64 t104,.string t105,.slice Ao14 t106.length co14] 31 (0,0)) (qp_ BK109) hb);replace BK127:=qM_ (blk_below (g:=gb127) (o:= .cells #[.int .i64 t118,.int .i64 t119,.int .i64 t120,.int .i64 t121,.string t122,.slice Ao23 t123.length co23] 31 (0,0)) (qp_ BK127) hb);replace BK139:=qM_ (blk_below (g:=gb139) (o:= .cells #[.int .i64 t130,.int .i64 t131,.int .i64 t132,.int .i64 t133,.string t134,.slice Ao105 t135.length co105] 31 (0,0)) (qp_ BK139) hb);replace HB:=qM_ (below_step qBHB hb);(try clear hb);(try clear hb2);(try clear hk);(try clear hi);(try clear ho0))|((with_reducible refine gate_dst (N:=14) rfl ?_);(try(refine gate_guard (by rfl) ?_;dsimp only));refine box_event ?hg (N:=14) ?hd (cs:=z4_.b0) (t:=31) ?hr ?_;(case hd=>rfl);(case hg=>rfl);(case hr=>first|(go_simp;done)|(go_simp;rfl));intro gb149 hg w107 hbox hb;replace HO_110005:=qM_ (Kd.R_below (qr_ HO_110005) hb);replace HO_128005:=qM_ (Kd.R_below (qr_ HO_128005) hb);replace HO137:=qM_ (Kd.R_below (qr_ HO137) hb);replace HO147:=qM_ (Kd.R_below (qr_ HO147) hb);have BK149:=qM_ (hbox);have GW149:=qM_ ((by rw[hg];exact(below_size qBHB):w.heap.size≤gb149));have GE149:=qM_ ((by rw[hg];exact(below_size qBHB):w.heap.size≤gb149));replace HB:=qM_ (below_step qBHB hb);have NB109_149:=qM_ ((by rw[hg];exact Nat.ne_of_lt (blk_lt (qk_ BK109)):gb109≠gb149));have NB149_109:=qM_ ((by rw[hg];exact Nat.ne_of_gt (blk_lt (qk_ BK109)):gb149≠gb109));replace BK109:=qM_ (blk_below (qk_ BK109) hb);have NB127_149:=qM_ ((by rw[hg];exact Nat.ne_of_lt (blk_lt (qk_ BK127)):gb127≠gb149));have NB149_127:=qM_ ((by rw[hg];exact Nat.ne_of_gt (blk_lt (qk_ BK127)):gb149≠gb127));replace BK127:=qM_ (blk_below (qk_ BK127) hb);have NB139_149:=qM_ ((by rw[hg];exact Nat.ne_of_lt (blk_lt (qk_ BK139)):gb139≠gb149));have NB149_139:=qM_ ((by rw[hg];exact Nat.ne_of_gt (blk_lt (qk_ BK139)):gb149≠gb139));replace BK139:=qM_ (blk_below (qk_ BK139) hb);clear hb hbox hg;have hnb108:=NB149_109.out;have hnc108:=NB109_149.out;have hnb109:=NB149_127.out;have hnc109:=NB127_149.out;have hnb110:=NB149_139.out;have hnc110:=NB139_149.out;obtain⟨hcz111_0,hcz111_1,hcz111_2,hcz111_3,hcz111_4,hcz111_5,hfz111_0⟩:=qc6_ BK149;obtain⟨Ao112,co112,eo112⟩:=Kd.R_slice HO147.out;subst eo112))
        go_ret;exact⟨qee_,qBHB⟩

end Go.Proofs.Ytbjefkeogbophaa.P
namespace Go.Proofs.Ytbjefkeogbophaa.P
open Go.RowKit Go.ChangeShapes Go.WideShapes Go.Proofs.YtbjefkeogbophaaW.PrintWords

def ok60 (x:S60):Prop:=x.f0.size≤140737488351232∧x.f1.size≤140737488351232
theorem tells60 {H:Type} {enc:TypeId × Value→H} {W:World}:Tells enc Try.prog W 60 k60 ok60:=Tells.struct (fun y=>⟨y.1,y.2⟩) (fun _=>rfl) Try.underlying60 (by kernel_rfl) (TellsF.cons (by kernel_rfl) (Tells.string Try.underlying9) rfl (TellsF.one (by kernel_rfl) (Tells.string Try.underlying9)))
def ok24 (x:S24):Prop:=(Lit.int .i64 x.f0).wf=true∧(Lit.int .i64 x.f1).wf=true∧(Lit.int .i64 x.f2).wf=true∧(Lit.int .i64 x.f3).wf=true∧x.f4.size≤140737488351232∧(x.f5.length≤maxLen∧x.f5.length*32≤140737488351232∧∀ y ∈ x.f5,ok60 y)
theorem tells24 {H:Type} {enc:TypeId × Value→H} {W:World}:Tells enc Try.prog W 24 k24 ok24:=Tells.struct (fun y=>⟨y.1,y.2.1,y.2.2.1,y.2.2.2.1,y.2.2.2.2.1,y.2.2.2.2.2⟩) (fun _=>rfl) Try.underlying24 (by kernel_rfl) (TellsF.cons (by kernel_rfl) (Tells.int Try.underlying3) rfl (TellsF.cons (by kernel_rfl) (Tells.int Try.underlying3) rfl (TellsF.cons (by kernel_rfl) (Tells.int Try.underlying3) rfl (TellsF.cons (by kernel_rfl) (Tells.int Try.underlying3) rfl (TellsF.cons (by kernel_rfl) (Tells.string Try.underlying9) rfl (TellsF.one (by kernel_rfl) (Tells.slice (b:=32) Try.underlying22 (by kernel_rfl) (by kernel_rfl) tells60)))))))
end Go.Proofs.Ytbjefkeogbophaa.P
/- Lemmas of mine: strings as lists of bytes; whole numbers of 64 bits; rounds. Plain. -/
set_option linter.unusedVariables false
set_option linter.unusedSimpArgs false
namespace Go.Proofs.Ytbjefkeogbophaa.P
open Go.RowKit Go.Proofs.YtbjefkeogbophaaW.PrintWords
/-- As Option.bind_some, but no equation by computing: for terms that are not to be computed by the kernel. -/
theorem bS {α β:Type} (a:α) (f:α→Option β):(some a).bind f=f a:=Eq.trans (Option.bind_some a f) (Eq.refl (f a))
/-- A string's bytes. -/
def bl (s:ByteArray):List UInt8:=s.data.toList
/-- Bytes as numbers. -/
def nb (l:List UInt8):List Int:=l.map fun b=>(b.toNat:Int)
theorem bl_inj {a b:ByteArray} (h:bl a=bl b):a=b:=WideShapes.bytes_inj h
theorem toList_bl (s:ByteArray):s.toList=bl s:=Lib.toList_data s
theorem toList_iff {a b:ByteArray}:a.toList=b.toList↔a=b:=⟨fun h=>bl_inj (by rw[← toList_bl,← toList_bl,h]),fun h=>by rw[h]⟩
theorem bl_size (s:ByteArray):s.size=(bl s).length:=Lib.size_eq s
theorem bl_append (a b:ByteArray):bl (a ++ b)=bl a ++ bl b:=by simp[bl]
theorem bl_extract (s:ByteArray) (i j:Nat):bl (s.extract i j)=((bl s).drop i).take (j - i):=Lib.extract_data s i j
theorem bl_mk (l:List UInt8):bl ⟨l.toArray⟩=l:=by simp[bl]
theorem bl_empty:bl (⟨#[]⟩:ByteArray)=[]:=rfl
theorem mk_bl (s:ByteArray):(⟨(bl s).toArray⟩:ByteArray)=s:=bl_inj (bl_mk _)
theorem bytesOf_bl (s:ByteArray):bytesOf s=nb (bl s):=rfl
theorem nb_length (l:List UInt8):(nb l).length=l.length:=by simp[nb]
theorem nb_append (l m:List UInt8):nb (l ++ m)=nb l ++ nb m:=by simp[nb]
theorem strOf_nb (l:List UInt8):strOfNums (nb l)=⟨l.toArray⟩:=by
 simp[strOfNums,nb,Function.comp_def]
theorem bl_strOf_nb (l:List UInt8):bl (strOfNums (nb l))=l:=by rw[strOf_nb,bl_mk]
theorem bt_eq (s:ByteArray) (i:Nat) (h:i < (bl s).length):bt s (i:Int)=(((bl s)[i]'h).toNat:Int):=by
 have hs:i < s.size:=by rw[bl_size];exact h
 unfold bt
 rw[dif_pos (by simpa using hs)]
 have h1:=Lib.data_getElem? s i hs
 have h2:(bl s)[i]? = some ((bl s)[i]'h):=List.getElem?_eq_getElem h
 have h3:s[i]'hs=(bl s)[i]'h:=Option.some.inj (h1.symm.trans h2)
 simp only[Int.toNat_natCast]
 rw[← h3]
theorem rd_nb (l:List UInt8) (i:Nat) (h:i < l.length):rd (nb l) (i:Int)=((l[i]'h).toNat:Int):=by
 simp[rd,nb,List.getD_eq_getElem?_getD,List.getElem?_map,List.getElem?_eq_getElem h]
theorem byte_lt (b:UInt8):b.toNat < 256:=b.toNat_lt
/-- No wrap within the bounds. -/
theorem w64 {n:Int} (h0: -9223372036854775808≤n) (h1:n≤9223372036854775807):wrap64 n=n:=by unfold wrap64;omega
theorem w64n (n:Nat) (h1:n≤9223372036854775807):wrap64 (n:Int)=n:=w64 (by omega) (by omega)
theorem w64s (n:Nat) (h1:n+1≤9223372036854775807):wrap64 ((n:Int)+1)=((n+1:Nat):Int):=by rw[w64 (by omega) (by omega)];rfl
theorem w64add (a b:Nat) (h:a+b≤9223372036854775807):wrap64 ((a:Int)+(b:Int))=((a+b:Nat):Int):=by rw[w64 (by omega) (by omega)];rfl
theorem w64lit (a b:Nat) (h:a+b≤9223372036854775807):wrap64 ((a:Int)+wrap64 ((b:Int)))=((a+b:Nat):Int):=by rw[w64n b (by omega),w64add a b h]
theorem w64sub (a b:Nat) (h:b≤a) (h2:a≤9223372036854775807):wrap64 ((a:Int) - (b:Int))=((a - b:Nat):Int):=by rw[w64 (by omega) (by omega)];omega
theorem bits_xor_nat (k:IntKind) (j:Nat) (hj:j≤k.bits) (hk:∀ n:Int,0≤n→n < 2 ^ j→k.wrap n=n) (a b:Nat) (ha:a < 2 ^ j) (hb:b < 2 ^ j):bits .xor k a b=((a ^^^ b:Nat):Int):=by
 have hp:2 ^ j≤2 ^ k.bits:=Nat.pow_le_pow_right (by decide) hj
 have ha' : a % 2 ^ k.bits=a:=Nat.mod_eq_of_lt (Nat.lt_of_lt_of_le ha hp)
 have hb' : b % 2 ^ k.bits=b:=Nat.mod_eq_of_lt (Nat.lt_of_lt_of_le hb hp)
 simp only[bits,BitVec.ofInt_natCast,BitVec.toNat_xor,BitVec.toNat_ofNat,ha', hb']
 exact hk _ (Int.natCast_nonneg _) (by exact_mod_cast Nat.xor_lt_two_pow ha hb)
theorem u32_in (n:Int) (h0:0≤n) (h1:n < 2 ^ 32):IntKind.u32.wrap n=n:=by rw[IntKind.wrap_u32];omega
theorem i64_in32 (n:Int) (h0:0≤n) (h1:n < 2 ^ 32):IntKind.i64.wrap n=n:=by rw[IntKind.wrap_i64];omega
theorem xor_u32 (a b:Nat) (ha:a < 4294967296) (hb:b < 4294967296):bits .xor .u32 a b=((a ^^^ b:Nat):Int):=bits_xor_nat .u32 32 (by decide) u32_in a b ha hb
theorem xor_i64 (a b:Nat) (ha:a < 4294967296) (hb:b < 4294967296):bits .xor .i64 a b=((a ^^^ b:Nat):Int):=bits_xor_nat .i64 32 (by decide) i64_in32 a b ha hb
/-- Rounds: what is told for all numbers of rounds from some on. -/
theorem Ev.k {α:Type} {g:Nat→Option α} {r:α} (h:Ev g r):∃ k,g k=some r:=h.rounds
theorem Ev.and {α β:Type} {g:Nat→Option α} {f:Nat→Option β} {r:α} {q:β} (h:Ev g r) (h' : Ev f q):∃ K,∀ k,K≤k→g k=some r∧f k=some q:=by
 obtain⟨K,h⟩:=h
 obtain⟨K', h'⟩:=h'
 exact⟨max K K', fun k hk=>⟨h k (by omega),h' k (by omega)⟩⟩
theorem Ev.uniq {α:Type} {g:Nat→Option α} {r q:α} (h:Ev g r) (h' : Ev g q):r=q:=by
 obtain⟨K,hk⟩:=Ev.and h h'
 have h1:=hk K (Nat.le_refl _)
 exact Option.some.inj (h1.1.symm.trans h1.2)
end Go.Proofs.Ytbjefkeogbophaa.P
/- Lemmas of mine: a number's digits. Plain. -/
set_option linter.unusedVariables false
set_option linter.unusedSimpArgs false
namespace Go.Proofs.Ytbjefkeogbophaa.P
open Go.RowKit Go.Proofs.YtbjefkeogbophaaW.PrintWords
def mkT (l:List UInt8):ByteArray:=⟨l.toArray⟩
theorem bl_mkT (l:List UInt8):bl (mkT l)=l:=bl_mk l
theorem mkT_app (a b:List UInt8):mkT a ++ mkT b=mkT (a ++ b):=bl_inj (by rw[bl_append,bl_mkT,bl_mkT,bl_mkT])
theorem mkT_size (l:List UInt8):(mkT l).size=l.length:=by rw[bl_size,bl_mkT]
theorem decDigits_len:∀(n:Nat),(Lib.decDigits n).length≤n+1:=by
 intro n
 induction n using Nat.strongRecOn with
 | _ n ih =>
  unfold Lib.decDigits
  split
  ·simp
  ·rename_i h
   have:=ih (n / 10) (by omega)
   rw[List.length_append]
   simp only[List.length_cons,List.length_nil]
   omega
theorem dig1 (d:Nat) (h:d < 10):strOfNums ([(wrap64 (48+(d:Int))) % 256]:List Int)=mkT [UInt8.ofNat (48+d)]:=by
 have e:(wrap64 (48+(d:Int))) % 256=((48+d:Nat):Int):=by rw[w64 (by omega) (by omega)];omega
 have e2:([((48+d:Nat):Int)]:List Int)=nb [UInt8.ofNat (48+d)]:=by
  show _=[((UInt8.ofNat (48+d)).toNat:Int)]
  rw[UInt8.toNat_ofNat_of_lt' (by show 48+d < 256;omega)]
 rw[e,e2,strOf_nb]
 rfl
theorem digits_ev:∀(n:Nat),n≤4611686018427387904→Ev (fun k=>z49_.f k (n:Int)) (mkT (Lib.decDigits n)):=by
 intro n
 induction n using Nat.strongRecOn with
 | _ n ih =>
  intro hn
  by_cases h:n < 10
  ·refine Ev.step (f:=fun _=>some _) (fun k=> ?_) (Ev.now _)
   unfold Lib.decDigits
   simp only[z49_.f]
   rw[if_neg (by omega),if_neg (by omega),if_pos (by omega),dig1 n h,dif_pos h]
  ·obtain⟨K,hK⟩:=ih (n / 10) (by omega) (by omega)
   refine⟨K+1,fun k hk=> ?_⟩
   obtain⟨m,rfl⟩:∃ m,k=m+1:=⟨k - 1,by omega⟩
   have e:=hK m (by omega)
   simp only at e ⊢
   have e1:Aside0 (wrap64 (Int.tdiv (n:Int) 10)=((n / 10:Nat):Int)):=⟨by
    rw[Int.tdiv_eq_ediv_of_nonneg (by omega),w64 (by omega) (by omega)];omega⟩
   have e2:Aside0 (Int.tmod (n:Int) 10=((n % 10:Nat):Int)):=⟨by
    rw[Int.tmod_eq_emod_of_nonneg (by omega)];omega⟩
   have hd:=dig1 (n % 10) (by omega)
   have hlen:=decDigits_len (n / 10)
   simp only[z49_.f]
   rw[if_neg (by omega),if_neg (by omega),if_neg (by omega),e1.out,e2.out,e,bS,bS,hd,mkT_size,mkT_size]
   simp only[List.length_cons,List.length_nil]
   rw[if_pos (by omega),mkT_app]
   congr 2
   conv=>rhs;unfold Lib.decDigits
   rw[dif_neg h]
end Go.Proofs.Ytbjefkeogbophaa.P
/- Lemmas of mine: what the drawn entries' parts are encoded as. Plain. -/
set_option linter.unusedVariables false
set_option linter.unusedSimpArgs false
namespace Go.Proofs.Ytbjefkeogbophaa.P
open Go.RowKit Go.Proofs.YtbjefkeogbophaaW.PrintWords
def idsL:List ByteArray:=[(⟨#[105,100,49]⟩:ByteArray),(⟨#[105,100,50]⟩:ByteArray),(⟨#[105,100,51]⟩:ByteArray),(⟨#[117,114,110,58,120,32,38,32,121]⟩:ByteArray),(⟨#[105,100,32,195,164]⟩:ByteArray)]
def fieldsL:List ByteArray:=[(⟨#[]⟩:ByteArray),(⟨#[116,105,116,108,101]⟩:ByteArray),(⟨#[97,32,38,32,98]⟩:ByteArray),(⟨#[195,164,195,182,32,226,130,172]⟩:ByteArray),(⟨#[60,120,62]⟩:ByteArray),(⟨#[111,110,101,32,116,119,111]⟩:ByteArray),(⟨#[61,63,117,116,102,45,56,63,81,63,120,63,61]⟩:ByteArray),(⟨#[240,159,152,128]⟩:ByteArray)]
def linksL:List ByteArray:=[(⟨#[]⟩:ByteArray),(⟨#[104,116,116,112,58,47,47,97,47,98,63,99,61,100,38,101]⟩:ByteArray),(⟨#[108,105,110,107]⟩:ByteArray)]
def contsL:List ByteArray:=[(⟨#[]⟩:ByteArray),(⟨#[116,101,120,116]⟩:ByteArray),(⟨#[116,119,111,10,108,105,110,101,115,10]⟩:ByteArray),(⟨#[97,13,98,13,10]⟩:ByteArray),(⟨#[46,10,46,46,10]⟩:ByteArray),(⟨#[195,164,32,60,98,62]⟩:ByteArray),(⟨#[116,114,97,105,108,105,110,103,32,10,61,32,120]⟩:ByteArray),(⟨#[48,49,50,51,52,53,54,55,56,57,48,49,50,51,52,53,54,55,56,57,48,49,50,51,52,53,54,55,56,57,48,49,50,51,52,53,54,55,56,57,48,49,50,51,52,53,54,55,56,57,48,49,50,51,52,53,54,55,56,57,48,49,50,51,52,53,54,55,56,57,48,49,50,51,52,53,54,55,56,57,48,49,50,51,52,53,54,55,56,57,48]⟩:ByteArray)]
theorem enc_fields:(fieldsL.all fun x=>(z65_.f 400 x).any fun r=>decide (r.size≤60))=true:=by decide +kernel
theorem enc_links:(linksL.all fun x=>(z65_.f 400 x).any fun r=>decide (r.size≤60))=true:=by decide +kernel
theorem enc_ids:(idsL.all fun x=>(z65_.f 400 x).any fun r=>decide (r.size≤60))=true:=by decide +kernel
theorem dig_ids:(idsL.all fun x=>(z67_.f 400 (bytesOf x)).any fun n=>(z49_.f 100 n).any fun t=>decide (t.size≤20))=true:=by decide +kernel
theorem quo_conts:(contsL.all fun x=>(z69_.f 400 x).any fun c=>(z68_.f 1000 c).any fun q=>decide (q.size≤200∧c.length≤1000))=true:=by decide +kernel
end Go.Proofs.Ytbjefkeogbophaa.P
/- Lemmas of mine: a text cut at a sign by the reference. Plain. -/
set_option linter.unusedVariables false
set_option linter.unusedSimpArgs false
namespace Go.Proofs.Ytbjefkeogbophaa.P
open Go.RowKit Go.Proofs.YtbjefkeogbophaaW.PrintWords
/-- The pieces of a text, some bytes having been read of the first. -/
def cutA (c:UInt8):List UInt8→List UInt8→List (List UInt8)
 | acc,[]=>[acc]
 | acc,b :: r=>if b=c then acc :: cutA c [] r else cutA c (acc ++ [b]) r
def mkB (l:List UInt8):ByteArray:=⟨l.toArray⟩
theorem mkB_bl (s:ByteArray):mkB (bl s)=s:=mk_bl s
theorem bl_mkB (l:List UInt8):bl (mkB l)=l:=bl_mk l
/-- The pieces of a text. -/
def cutB (c:UInt8) (s:ByteArray):List ByteArray:=(cutA c [] (bl s)).map mkB
theorem cutA_free (c:UInt8):∀(p acc r:List UInt8),c ∉ p→cutA c acc (p ++ r)=cutA c (acc ++ p) r
 | [],acc,r,_=>by simp
 | b :: p,acc,r,h=>by
  have h1:b≠c:=fun e=>h (by rw[e];exact List.mem_cons_self ..)
  rw[List.cons_append,cutA,if_neg h1,cutA_free c p (acc ++ [b]) r (fun e=>h (List.mem_cons_of_mem _ e))]
  simp
theorem cutA_none (c:UInt8) (l:List UInt8) (h:c ∉ l):cutA c [] l=[l]:=by
 have:=cutA_free c l [] [] h
 rw[List.append_nil]at this
 rw[this];rfl
theorem cutA_at (c:UInt8) (p r:List UInt8) (h:c ∉ p):cutA c [] (p ++ c :: r)=p :: cutA c [] r:=by
 rw[cutA_free c p [] (c :: r) h,cutA,if_pos rfl];rfl
theorem cutA_length (c:UInt8):∀(l acc:List UInt8),(cutA c acc l).length=l.count c+1
 | [],acc=>rfl
 | b :: l,acc=>by
  rw[cutA]
  by_cases h:b=c
  ·rw[if_pos h,List.length_cons,cutA_length c l [],h,List.count_cons_self]
  ·rw[if_neg h,cutA_length c l,List.count_cons_of_ne h]
theorem byte_iff (a b:UInt8):((a.toNat:Int)=(b.toNat:Int))↔a=b:=by
 rw[Int.ofNat_inj,UInt8.toNat_inj]
theorem specCut_l0 (t:ByteArray) (c:UInt8) (ht:t.size≤8796093022000):∀(d i fr:Nat) (out:List ByteArray),i+d=t.size→fr≤i→out.length≤i →
  Ev (fun k=>z74_.l0 k t (c.toNat:Int) out (fr:Int) (i:Int)) (out ++ (cutA c (((bl t).drop fr).take (i - fr)) ((bl t).drop i)).map mkB):=by
 have hsz:=bl_size t
 intro d
 induction d with
 | zero =>
  intro i fr out hi hf ho
  rw[List.drop_eq_nil_of_le (show(bl t).length≤i by omega)]
  refine Ev.step (f:=fun _=>some _) (fun k=> ?_) (Ev.now _)
  simp only[z74_.l0,cutA,List.map_cons,List.map_nil]
  rw[if_neg (by omega),if_pos (by omega),if_pos (by omega),if_pos (by omega)]
  congr 4
  refine bl_inj ?_
  rw[bl_extract,bl_mkB,Int.toNat_natCast,show t.size=i by omega]
 | succ d ih =>
  intro i fr out hi hf ho
  have hlt:i < (bl t).length:=by omega
  have hacc:((bl t).drop fr).take (i+1 - fr)=((bl t).drop fr).take (i - fr) ++ [(bl t)[i]'hlt]:=by
   rw[show i+1 - fr=(i - fr)+1 by omega,List.take_add_one,List.getElem?_drop,show fr+(i - fr)=i by omega,List.getElem?_eq_getElem hlt];rfl
  rw[List.drop_eq_getElem_cons hlt,cutA]
  by_cases hc:(bl t)[i]'hlt=c
  ·rw[if_pos hc,List.map_cons]
   have h:=ih (i+1) (i+1) (out ++ [mkB (((bl t).drop fr).take (i - fr))]) (by omega) (by omega) (by rw[List.length_append,List.length_cons,List.length_nil];omega)
   rw[Nat.sub_self,List.take_zero,List.append_assoc]at h
   refine Ev.step (fun k=> ?_) h
   simp only[z74_.l0]
   rw[bt_eq t i hlt,if_pos (by omega),if_pos (by omega),if_pos ((byte_iff _ _).2 hc),if_pos (by omega),if_pos (by omega),if_pos (by omega),if_pos (by omega),w64s i (by omega)]
   congr 4
   refine bl_inj ?_
   rw[bl_extract,bl_mkB,Int.toNat_natCast,Int.toNat_natCast]
  ·rw[if_neg hc,← hacc]
   refine Ev.step (fun k=> ?_) (ih (i+1) fr out (by omega) (by omega) (by omega))
   simp only[z74_.l0]
   rw[bt_eq t i hlt,if_pos (by omega),if_pos (by omega),if_neg (fun e=>hc ((byte_iff _ _).1 e)),w64s i (by omega)]
theorem specCut_ev (t:ByteArray) (c:UInt8) (ht:t.size≤8796093022000):Ev (fun k=>z74_.f k t (c.toNat:Int)) (cutB c t):=by
 have h:=specCut_l0 t c ht t.size 0 0 [] (by omega) (by omega) (by simp)
 refine Ev.congr (fun k=> ?_) (show Ev (fun k=>z74_.l0 k t (c.toNat:Int) [] ((0:Nat):Int) ((0:Nat):Int)) (cutB c t)by simpa [cutB] using h)
 rfl
end Go.Proofs.Ytbjefkeogbophaa.P
/- Lemmas of mine: loops that count up: over any function of rounds. Plain. -/
set_option linter.unusedVariables false
set_option linter.unusedSimpArgs false
namespace Go.Proofs.Ytbjefkeogbophaa.P
open Go.RowKit Go.Proofs.YtbjefkeogbophaaW.PrintWords
/-- A loop whose rounds change the place alone. -/
theorem up_loop {R:Type} (L:Nat→Int→Option R) (n:Nat) (r:R)
  (hstep:∀ i:Nat,i < n→∃ K,∀ k,K≤k→L (k+1) (i:Int)=L k ((i+1:Nat):Int))
  (hend:∃ K,∀ k,K≤k→L (k+1) (n:Int)=some r):∀ d i:Nat,i+d=n→Ev (fun k=>L k (i:Int)) r:=by
 intro d
 induction d with
 | zero =>
  intro i hi
  obtain rfl:i=n:=by omega
  obtain⟨K,h⟩:=hend
  exact⟨K+1,fun k hk=>by obtain⟨m,rfl⟩:∃ m,k=m+1:=⟨k - 1,by omega⟩;exact h m (by omega)⟩
 | succ d ih =>
  intro i hi
  obtain⟨K,h⟩:=hstep i (by omega)
  obtain⟨K2,h2⟩:=ih (i+1) (by omega)
  refine⟨K+K2+1,fun k hk=> ?_⟩
  obtain⟨m,rfl⟩:∃ m,k=m+1:=⟨k - 1,by omega⟩
  show L (m+1) (i:Int)=some r
  rw[h m (by omega)]
  exact h2 m (by omega)
/-- A loop with a state: what holds of the state says what comes out. -/
theorem st_loop {σ R:Type} (L:Nat→σ→Int→Option R) (n:Nat) (out:Nat→σ→R→Prop)
  (hstep:∀(i:Nat) (s:σ),i < n→(∃ r,(∃ K,∀ k,K≤k→L (k+1) s (i:Int)=some r)∧out i s r)∨∃ s', (∃ K,∀ k,K≤k→L (k+1) s (i:Int)=L k s' ((i+1:Nat):Int))∧∀ r,out (i+1) s' r→out i s r)
  (hend:∀ s,∃ r,(∃ K,∀ k,K≤k→L (k+1) s (n:Int)=some r)∧out n s r):∀(d i:Nat) (s:σ),i+d=n→∃ r,Ev (fun k=>L k s (i:Int)) r∧out i s r:=by
 intro d
 induction d with
 | zero =>
  intro i s hi
  obtain rfl:i=n:=by omega
  obtain⟨r,⟨K,h⟩,ho⟩:=hend s
  exact⟨r,⟨K+1,fun k hk=>by obtain⟨m,rfl⟩:∃ m,k=m+1:=⟨k - 1,by omega⟩;exact h m (by omega)⟩,ho⟩
 | succ d ih =>
  intro i s hi
  rcases hstep i s (by omega)with ⟨r,⟨K,h⟩,ho⟩|⟨s', ⟨K,h⟩,ho⟩
  ·exact⟨r,⟨K+1,fun k hk=>by obtain⟨m,rfl⟩:∃ m,k=m+1:=⟨k - 1,by omega⟩;exact h m (by omega)⟩,ho⟩
  ·obtain⟨r,⟨K2,h2⟩,ho2⟩:=ih (i+1) s' (by omega)
   refine⟨r,⟨K+K2+1,fun k hk=> ?_⟩,ho r ho2⟩
   obtain⟨m,rfl⟩:∃ m,k=m+1:=⟨k - 1,by omega⟩
   show L (m+1) s (i:Int)=some r
   rw[h m (by omega)]
   exact h2 m (by omega)
theorem map_set {α β:Type} (xs:List α) (ys:List β) (g:α→β) (i:Nat) (hi:i < xs.length) (hl:ys.length=xs.length) (hy:ys.take i=(xs.take i).map g) :
  (ys.set i (g (xs[i]'hi))).take (i+1)=(xs.take (i+1)).map g:=by
 have e2:(xs.take (i+1)).map g=(xs.take i).map g ++ [g (xs[i]'hi)]:=by
  rw[List.take_add_one,List.getElem?_eq_getElem hi,List.map_append]
  rfl
 have e:((xs.take i).map g).length=i:=by rw[List.length_map,List.length_take];omega
 rw[e2,List.take_set,List.take_add_one,List.getElem?_eq_getElem (by omega),hy,List.set_append_right _ _ (by omega),e,Nat.sub_self]
 rfl
/-- A loop that fills a row of the same length. -/
theorem copy_loop {α β:Type} (L:Nat→List β→Int→Option (List β)) (xs:List α) (g:α→β)
  (hstep:∀(i:Nat) (ys:List β) (hi:i < xs.length),ys.length=xs.length→∃ K,∀ k,K≤k→L (k+1) ys (i:Int)=L k (ys.set i (g (xs[i]'hi))) ((i+1:Nat):Int))
  (hend:∀ ys,ys.length=xs.length→∃ K,∀ k,K≤k→L (k+1) ys (xs.length:Int)=some ys) :
  ∀(d i:Nat) (ys:List β),i+d=xs.length→ys.length=xs.length→ys.take i=(xs.take i).map g→Ev (fun k=>L k ys (i:Int)) (xs.map g):=by
 intro d
 induction d with
 | zero =>
  intro i ys hi hl hy
  obtain rfl:i=xs.length:=by omega
  rw[List.take_of_length_le (by omega),List.take_of_length_le (Nat.le_refl _)]at hy
  subst hy
  obtain⟨K,h⟩:=hend _ hl
  exact⟨K+1,fun k hk=>by obtain⟨m,rfl⟩:∃ m,k=m+1:=⟨k - 1,by omega⟩;exact h m (by omega)⟩
 | succ d ih =>
  intro i ys hi hl hy
  obtain⟨K,h⟩:=hstep i ys (by omega) hl
  obtain⟨K2,h2⟩:=ih (i+1) (ys.set i (g (xs[i]'(by omega)))) (by omega) (by rw[List.length_set];exact hl) (map_set xs ys g i (by omega) hl hy)
  refine⟨K+K2+1,fun k hk=> ?_⟩
  obtain⟨m,rfl⟩:∃ m,k=m+1:=⟨k - 1,by omega⟩
  show L (m+1) ys (i:Int)=_
  rw[h m (by omega)]
  exact h2 m (by omega)
theorem getD_nat {α:Type} (xs:List α) (z:α) (i:Nat) (h:i < xs.length):xs.getD ((i:Nat):Int).toNat z=xs[i]'h:=by
 rw[Int.toNat_natCast,List.getD_eq_getElem?_getD,List.getElem?_eq_getElem h];rfl
end Go.Proofs.Ytbjefkeogbophaa.P
/- Lemmas of mine: a field folded by the reference. Plain. -/
set_option linter.unusedVariables false
set_option linter.unusedSimpArgs false
namespace Go.Proofs.Ytbjefkeogbophaa.P
open Go.RowKit Go.Proofs.YtbjefkeogbophaaW.PrintWords
/-- The words of a field, put in lines; how wide the line is, and whether a word stands in it. -/
def foldW:Nat→Bool→List (List UInt8)→List UInt8
 | _,_,[]=>[13,10]
 | w,b,x :: xs=>if b=true∧w+1+x.length > 78 then 13 :: 10 :: 32 :: x ++ foldW (1+x.length) true xs else 32 :: x ++ foldW (w+(1+x.length)) true xs
def foldR (name value:List UInt8):List UInt8:=name ++ 58 :: foldW (name.length+1) false (cutA 32 [] value)
def lenW (xs:List (List UInt8)):Nat:=xs.foldr (fun x n=>x.length+3+n) 0
theorem foldW_len:∀(xs:List (List UInt8)) (w:Nat) (b:Bool),(foldW w b xs).length≤2+lenW xs
 | [],w,b=>by simp[foldW]
 | x :: xs,w,b=>by
  have h1:=foldW_len xs (1+x.length) true
  have h2:=foldW_len xs (w+(1+x.length)) true
  have e:lenW (x :: xs)=x.length+3+lenW xs:=rfl
  rw[foldW]
  split
  ·simp only[List.length_append,List.length_cons]
   omega
  ·simp only[List.length_append,List.length_cons]
   omega
theorem lenW_cutA (c:UInt8):∀(l acc:List UInt8),lenW (cutA c acc l)≤acc.length+3+3*l.length
 | [],acc=>by simp[cutA,lenW]
 | b :: l,acc=>by
  rw[cutA]
  split
  ·have:=lenW_cutA c l []
   have e:∀ x xs,lenW (x :: xs)=x.length+3+lenW xs:=fun _ _=>rfl
   rw[e]
   simp only[List.length_nil,List.length_cons]at *
   omega
  ·have:=lenW_cutA c l (acc ++ [b])
   simp only[List.length_append,List.length_cons,List.length_nil]at *
   omega
theorem foldR_len (name value:List UInt8):(foldR name value).length≤name.length+6+3*value.length:=by
 unfold foldR
 have h1:=foldW_len (cutA 32 [] value) (name.length+1) false
 have h2:=lenW_cutA 32 value []
 simp only[List.length_append,List.length_cons,List.length_nil]at *
 omega
theorem rdB (xs:List ByteArray) (i:Nat) (h:i < xs.length):rdOf ByteArray.empty xs (i:Int)=xs[i]'h:=getD_nat xs _ i h
theorem specFold_l0 (ws:List ByteArray) (hws:ws.length≤1000000000) (hs:∀ x ∈ ws,x.size≤1000000):∀(d i w:Nat) (A:List UInt8),i+d=ws.length→w+2000000*d≤4000000000000000→A.length+2000000*d≤4000000000000000 →
  Ev (fun k=>z64_.l0 k (mkB A) (w:Int) ws (i:Int)) (mkB (A ++ foldW w (decide (0 < i)) ((ws.drop i).map bl))):=by
 intro d
 induction d with
 | zero =>
  intro i w A hi hw hA
  have hz:(mkB A).size=A.length:=by rw[bl_size,bl_mkB]
  rw[List.drop_eq_nil_of_le (by omega)]
  refine Ev.step (f:=fun _=>some _) (fun k=> ?_) (Ev.now _)
  simp only[z64_.l0]
  rw[if_neg (by omega),if_pos (by omega)]
  refine congrArg some (bl_inj ?_)
  rw[bl_append,bl_mkB,bl_mkB]
  rfl
 | succ d ih =>
  intro i w A hi hw hA
  have hlt:i < ws.length:=by omega
  have hr:=rdB ws i hlt
  have hx:=hs _ (List.getElem_mem hlt)
  have hz:(mkB A).size=A.length:=by rw[bl_size,bl_mkB]
  rw[List.drop_eq_getElem_cons hlt,List.map_cons,foldW]
  generalize ws[i]'hlt=x at hr hx ⊢
  have hxl:=bl_size x
  have l1:(⟨#[32]⟩:ByteArray).size=1:=rfl
  have l2:(⟨#[13,10]⟩:ByteArray).size=2:=rfl
  have w1:Aside0 (wrap64 ((i:Int)+1)=((i+1:Nat):Int)):=⟨w64s i (by omega)⟩
  have w2:Aside0 (wrap64 (1+(x.size:Int))=((1+x.size:Nat):Int)):=⟨w64add 1 x.size (by omega)⟩
  have w3:Aside0 (wrap64 ((w:Int)+1)=((w+1:Nat):Int)):=⟨w64s w (by omega)⟩
  have w4:Aside0 (wrap64 (((w+1:Nat):Int)+(x.size:Int))=((w+1+x.size:Nat):Int)):=⟨w64add (w+1) x.size (by omega)⟩
  have w5:Aside0 (wrap64 ((w:Int)+((1+x.size:Nat):Int))=((w+(1+x.size):Nat):Int)):=⟨w64add w (1+x.size) (by omega)⟩
  have w6:Aside0 (wrap64 (0+((1+x.size:Nat):Int))=((1+x.size:Nat):Int)):=⟨by rw[Int.zero_add];exact w64n _ (by omega)⟩
  have z1:((⟨#[32]⟩:ByteArray) ++ x).size=1+x.size:=by rw[ByteArray.size_append,l1]
  have z2:(mkB A ++ (⟨#[13,10]⟩:ByteArray)).size=A.length+2:=by rw[ByteArray.size_append,l2,hz]
  have e1:mkB A ++ ((⟨#[32]⟩:ByteArray) ++ x)=mkB (A ++ 32 :: bl x):=bl_inj (by rw[bl_append,bl_append,bl_mkB,bl_mkB];rfl)
  have e2:(mkB A ++ (⟨#[13,10]⟩:ByteArray)) ++ ((⟨#[32]⟩:ByteArray) ++ x)=mkB (A ++ 13 :: 10 :: 32 :: bl x):=bl_inj (by rw[bl_append,bl_append,bl_append,bl_mkB,bl_mkB,List.append_assoc];rfl)
  have keep:Ev (fun k=>z64_.l0 k (mkB (A ++ 32 :: bl x)) ((w+(1+x.size):Nat):Int) ws ((i+1:Nat):Int)) (mkB (A ++ 32 :: bl x ++ foldW (w+(1+(bl x).length)) true ((ws.drop (i+1)).map bl))):=by
   have:=ih (i+1) (w+(1+x.size)) (A ++ 32 :: bl x) (by omega) (by omega) (by simp only[List.length_append,List.length_cons];omega)
   rw[decide_eq_true (show 0 < i+1 by omega),hxl]at this
   rw[hxl]
   exact this
  have ea:A ++ (32 :: bl x ++ foldW (w+(1+(bl x).length)) true ((ws.drop (i+1)).map bl))=A ++ 32 :: bl x ++ foldW (w+(1+(bl x).length)) true ((ws.drop (i+1)).map bl):=by simp
  by_cases h0:0 < i
  ·rw[decide_eq_true h0]
   by_cases h78:w+1+x.size > 78
   ·rw[if_pos ⟨rfl,by omega⟩]
    have:=ih (i+1) (1+x.size) (A ++ 13 :: 10 :: 32 :: bl x) (by omega) (by omega) (by simp only[List.length_append,List.length_cons];omega)
    rw[decide_eq_true (show 0 < i+1 by omega)]at this
    have eb:A ++ (13 :: 10 :: 32 :: bl x ++ foldW (1+(bl x).length) true ((ws.drop (i+1)).map bl))=A ++ 13 :: 10 :: 32 :: bl x ++ foldW (1+x.size) true ((ws.drop (i+1)).map bl):=by rw[hxl];simp
    rw[eb]
    refine Ev.step (fun k=> ?_) this
    simp only[z64_.l0,hr,w1.out,w2.out,w3.out,w4.out,w6.out,e2,z1,z2]
    rw[if_pos (by omega),if_pos (by omega),if_pos (by omega),if_pos (by omega),if_pos (by omega),if_pos (by omega),if_pos (by omega)]
   ·rw[if_neg (by omega),ea]
    refine Ev.step (fun k=> ?_) keep
    simp only[z64_.l0,hr,w1.out,w2.out,w3.out,w4.out,w5.out,e1,z1]
    rw[if_pos (by omega),if_pos (by omega),if_pos (by omega),if_neg (by omega),if_pos (by omega),if_pos (by omega)]
  ·rw[decide_eq_false h0,if_neg (by simp),ea]
   refine Ev.step (fun k=> ?_) keep
   simp only[z64_.l0,hr,w1.out,w2.out,w5.out,e1,z1]
   rw[if_pos (by omega),if_neg (by omega),if_pos (by omega),if_pos (by omega),if_pos (by omega)]
theorem cutB_sizes (c:UInt8) (s:ByteArray):∀ x ∈ cutB c s,x.size≤s.size:=by
 intro x hx
 unfold cutB at hx
 obtain⟨y,hy,rfl⟩:=List.mem_map.1 hx
 rw[bl_size,bl_mkB,bl_size]
 have:∀(l acc:List UInt8),∀ y ∈ cutA c acc l,y.length≤acc.length+l.length:=by
  intro l
  induction l with
  | nil=>intro acc y hy;simp only[cutA,List.mem_singleton]at hy;rw[hy];simp
  | cons b l ih =>
   intro acc y hy
   rw[cutA]at hy
   split at hy
   ·rcases List.mem_cons.1 hy with h|h
    ·rw[h];simp
    ·have:=ih [] y h
     simp only[List.length_nil,List.length_cons]at *
     omega
   ·have:=ih (acc ++ [b]) y hy
    simp only[List.length_append,List.length_cons,List.length_nil]at *
    omega
 have:=this (bl s) [] y hy
 simpa using this
theorem specFold_ev (name value:ByteArray) (hn:name.size≤1000000) (hv:value.size≤1000000):Ev (fun k=>z64_.f k name value) (mkB (foldR (bl name) (bl value))):=by
 obtain⟨K,h⟩:=specCut_ev value 32 (by omega)
 have hl:(cutB 32 value).length≤1000001:=by
  unfold cutB
  rw[List.length_map,cutA_length]
  have h1:=List.count_le_length (a:=(32:UInt8)) (l:=bl value)
  rw[← bl_size]at h1
  omega
 have hz:=bl_size name
 have l1:(⟨#[58]⟩:ByteArray).size=1:=rfl
 obtain⟨K2,h2⟩:=specFold_l0 (cutB 32 value) (by omega) (fun x hx=>by have:=cutB_sizes 32 value x hx;omega) (cutB 32 value).length 0 (name.size+1) (bl name ++ [58]) (by omega) (by omega) (by simp only[List.length_append,List.length_cons,List.length_nil];omega)
 have hmap:(cutB 32 value).map bl=cutA 32 [] (bl value):=by
  unfold cutB
  rw[List.map_map]
  conv=>rhs;rw[← List.map_id (cutA 32 [] (bl value))]
  exact List.map_congr_left fun x _=>bl_mkB x
 rw[List.drop_zero,hmap]at h2
 have e:mkB (bl name ++ [58] ++ foldW (name.size+1) (decide (0 < 0)) (cutA 32 [] (bl value)))=mkB (foldR (bl name) (bl value)):=by
  unfold foldR
  rw[hz,List.append_assoc]
  rfl
 rw[e]at h2
 have e2:mkB (bl name ++ [58])=name ++ (⟨#[58]⟩:ByteArray):=bl_inj (by rw[bl_append,bl_mkB];rfl)
 rw[e2]at h2
 refine⟨K+K2,fun k hk=> ?_⟩
 have f:=h k (by omega)
 have f2:=h2 k (by omega)
 simp only at f f2
 have f' : z74_.f k value 32=some (cutB 32 value):=f
 simp only[z64_.f,f', bS]
 have hz2:(name ++ (⟨#[58]⟩:ByteArray)).size=name.size+1:=by rw[ByteArray.size_append,l1]
 rw[if_pos (by omega),hz2]
 exact f2
end Go.Proofs.Ytbjefkeogbophaa.P
