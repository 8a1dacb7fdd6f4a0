/- Part 14 of what the law FnMutations stands on; the last part ends with the law's row. No condition of mine. -/
import Derived.Test.YtbjefkeogbophaaMFnMutations1
import Derived.Test.YtbjefkeogbophaaMFnMutations13
import Derived.Test.YtbjefkeogbophaaMFnMutations12
import Derived.Shelf.Strings.Builder1
namespace Go.Proofs.Ytbjefkeogbophaa.P
open Go.RowKit Go.Proofs.YtbjefkeogbophaaW.PrintWords Go.Proofs.YtbjefkeogbophaaW.PrintLast Go.Proofs.YtbjefkeogbophaaW.PrintMore
attribute [local go_sem] max2_int min2_int max_two min_two max_three min_three max_four min_four   -- for this text's walks alone
set_option linter.unusedVariables false
set_option linter.unusedSimpArgs false

/-! ### z18_: function 18 -/
def z18_.f (k:Nat) (l0:List Int):Option (Int × Int × Int × Int × ByteArray × (List (S54)) × Int):=if(l0.length:Int) > 65536 then(some (0,0,0,0,(⟨#[]⟩:ByteArray),([]:List (S54)),2))else((z34_.f k (strOfNums l0)).bind fun bt102=>(if bt102.2.2.2.2.2.2=true then(if(l0.length:Int) > 20000 then(some (0,0,0,0,(⟨#[]⟩:ByteArray),([]:List (S54)),3))else(some (bt102.1,bt102.2.1,bt102.2.2.1,bt102.2.2.2.1,bt102.2.2.2.2.1,bt102.2.2.2.2.2.1,0)))else(some (0,0,0,0,(⟨#[]⟩:ByteArray),([]:List (S54)),3))))
theorem z18_.mono:∀ a0 k,LeO (z18_.f k a0) (z18_.f (k+1) a0):=by
 intro a0 k
 unfold z18_.f
 repeat' first
   | (with_reducible exact z34_.mono _ _)
   | (with_reducible exact LeO.refl _)
   | (with_reducible exact LeO.none _)
   | (with_reducible refine LeO.ite ?_ ?_)
   | (with_reducible refine LeO.bind ?_ (fun _=> ?_))
   | exact z34_.mono _ _
   | exact LeO.none _
   | refine LeO.ite ?_ ?_
   | refine LeO.bind ?_ (fun _=> ?_)
abbrev z18_.b0:Array Value:=#[.int .i64 0,.int .i64 0,.int .i64 0,.int .i64 0,.string (⟨#[]⟩:ByteArray),.slice none 0 0]
set_option maxHeartbeats 8000000 in
set_option maxRecDepth 100000 in
theorem z18_.calls (k:Nat) (A0:Option Addr) (c0:Nat) (l0:List Int) (r1:Int) (r2:Int) (r3:Int) (r4:Int) (r5:ByteArray) (r6:List (S54)) (r7:Int) (w:World) (hr0:Kd.C (Kd.int .u8) w A0 l0.length l0) (hc0:l0.length≤c0) (h:z18_.f k l0=some (r1,r2,r3,r4,r5,r6,r7)) :
  Calls Try.prog 18 #[.slice A0 l0.length c0] w fun e w' => ∃ v5_:Value,e= .returned (.tuple #[.agg #[.int .i64 r1,.int .i64 r2,.int .i64 r3,.int .i64 r4,.string r5,v5_],.int .i64 r7])∧Kd.R k54 54 w' w.heap.size (fun _=>True) v5_ r6∧Below w.heap.size w w' := by
 have hu31:=Try.underlying31
 have HR0:=qM_ hr0
 have HC0:=qM_ hc0
 clear hr0 hc0
 have HB:=qM_ (Below.refl w.heap.size w)
 have H:(if(l0.length:Int) > 65536 then(some (0,0,0,0,(⟨#[]⟩:BA_),([]:List (S54)),2))else((z34_.f k (strOfNums l0)).bind fun bt102=>(if bt102.2.2.2.2.2.2=true then(if(l0.length:Int) > 20000 then(some (0,0,0,0,(⟨#[]⟩:BA_),([]:List (S54)),3))else(some (bt102.1,bt102.2.1,bt102.2.2.1,bt102.2.2.2.1,bt102.2.2.2.2.1,bt102.2.2.2.2.2.1,0)))else(some (0,0,0,0,(⟨#[]⟩:BA_),([]:List (S54)),3)))))=some (r1,r2,r3,r4,r5,r6,r7):=h
 clear h
 by_cases c2:(l0.length:Int) > 65536
 ·rw[if_pos c2]at H
  have c2b0:decide (65536 < (l0.length:Int))=true:=decide_eq_true c2;have c2b1:decide (65536 < l0.length)=true:=decide_eq_true (by omega);clear c2;simp only[Option.some.injEq,Prod.mk.injEq]at H;obtain⟨rfl,rfl,rfl,rfl,rfl,rfl,rfl⟩:=H;go_enter Try.func18,Try.ntmps18
  go_wp2_with (first|((with_reducible refine gate_dst (N:=2) rfl ?_);(try(refine gate_guard (by rfl) ?_;dsimp only));refine box_event ?hg (N:=2) ?hd (cs:=z18_.b0) (t:=31) ?hr ?_;(case hd=>rfl);(case hg=>rfl);(case hr=>first|(go_simp;done)|(go_simp;rfl));intro gb101 hg w3 hbox hb;have BK101:=qM_ (hbox);have GW101:=qM_ ((by rw[hg];exact(below_size qBHB):w.heap.size≤gb101));have GE101:=qM_ ((by rw[hg];exact(below_size qBHB):w.heap.size≤gb101));replace HB:=qM_ (below_step qBHB hb);clear hb hbox hg;obtain⟨hcz4_0,hcz4_1,hcz4_2,hcz4_3,hcz4_4,hcz4_5,hfz4_0⟩:=qc6_ BK101))
  refine bodyPost_ret (results_ct rfl _ _ gb101 31 z18_.b0 (0,0) _ rfl (by(with_reducible repeat(first|refine blk_drewN ?_ _|refine blk_drew ?_|refine blk_alloc ?_ _));refine blk_put (cs:=z18_.b0) ?_ 5 _ rfl;(with_reducible repeat(first|refine blk_drewN ?_ _|refine blk_drew ?_|refine blk_alloc ?_ _));refine blk_put (cs:=z18_.b0) ?_ 4 _ rfl;(with_reducible repeat(first|refine blk_drewN ?_ _|refine blk_drew ?_|refine blk_alloc ?_ _));refine blk_put (cs:=z18_.b0) ?_ 3 _ rfl;(with_reducible repeat(first|refine blk_drewN ?_ _|refine blk_drew ?_|refine blk_alloc ?_ _));refine blk_put (cs:=z18_.b0) ?_ 2 _ rfl;(with_reducible repeat(first|refine blk_drewN ?_ _|refine blk_drew ?_|refine blk_alloc ?_ _));refine blk_put (cs:=z18_.b0) ?_ 1 _ rfl;(with_reducible repeat(first|refine blk_drewN ?_ _|refine blk_drew ?_|refine blk_alloc ?_ _));refine blk_put (cs:=z18_.b0) ?_ 0 _ rfl;(with_reducible repeat(first|refine blk_drewN ?_ _|refine blk_drew ?_|refine blk_alloc ?_ _));exact BK101.out) Try.underlying31 rfl qK) rfl ?_;exact⟨_,qee_,by first|exact Kd.R_nil _ _ _ _ _|exact Kd.N_nil _ _ _ _ _|exact Kd.V_nil _ _ _ _ _|exact Kd.Q_nil _ _ _ _ _|exact Kd.S_nil _ _ _ _ _,qBHB⟩
 ·rw[if_neg c2]at H
  have c2b0:decide (65536 < (l0.length:Int))=false:=decide_eq_false c2;have c2b1:decide (65536 < l0.length)=false:=decide_eq_false (by omega);clear c2;replace H:=Option.bind_eq_some_iff.mp H;obtain⟨⟨t102,t103,t104,t105,t106,t107,t110⟩,A50,H⟩:=H;dsimp only at H;have A5:=qM_ A50;clear A50;by_cases c6:t110=true
  ·subst c6
   have H1:(if(l0.length:Int) > 20000 then(some (0,0,0,0,(⟨#[]⟩:BA_),([]:List (S54)),3))else(some (t102,t103,t104,t105,t106,t107,0)))=some (r1,r2,r3,r4,r5,r6,r7):=by rw[if_pos rfl]at H;exact H
   clear H;have H:=H1;clear H1;by_cases c7:(l0.length:Int) > 20000
   ·rw[if_pos c7]at H
    have c7b0:decide (20000 < (l0.length:Int))=true:=decide_eq_true c7;have c7b1:decide (20000 < l0.length)=true:=decide_eq_true (by omega);clear c7;simp only[Option.some.injEq,Prod.mk.injEq]at H;obtain⟨rfl,rfl,rfl,rfl,rfl,rfl,rfl⟩:=H;go_enter Try.func18,Try.ntmps18
    go_wp2_with (first|((with_reducible refine gate_dst (N:=2) rfl ?_);(try(refine gate_guard (by rfl) ?_;dsimp only));refine box_event ?hg (N:=2) ?hd (cs:=z18_.b0) (t:=31) ?hr ?_;(case hd=>rfl);(case hg=>rfl);(case hr=>first|(go_simp;done)|(go_simp;rfl));intro gb101 hg w8 hbox hb;have BK101:=qM_ (hbox);have GW101:=qM_ ((by rw[hg];exact(below_size qBHB):w.heap.size≤gb101));have GE101:=qM_ ((by rw[hg];exact(below_size qBHB):w.heap.size≤gb101));replace HB:=qM_ (below_step qBHB hb);clear hb hbox hg;have hcv9:=Kd.C_string (P:=Try.prog) (A:=A0) (c:=c0) Try.underlying26 Try.underlying5 Try.underlying9 (Kd.C_below HR0.out HB.out))|((with_reducible refine gate_callee (f:=34) rfl ?_);refine goesL_ (some 13) rfl rfl Try.func34 qK rfl #[.string (strOfNums l0)] rfl qll_ ?_;(with_reducible refine(z34_.calls k (strOfNums l0) t102 t103 t104 t105 t106 t107 true _ A5.out).mono ?_);rintro e w10 ⟨v108,rfl,ho0,hb⟩;refine⟨_,rfl,?_⟩;have HO109:=qM_ (Kd.R_lower ho0 (below_size qBHB));replace BK101:=qM_ (blk_below (qk_ BK101) hb);replace HB:=qM_ (below_step qBHB hb);(try clear hb);(try clear hb2);(try clear hk);(try clear hi);(try clear ho0))|((with_reducible refine gate_dst (N:=4) rfl ?_);(try(refine gate_guard (by rfl) ?_;dsimp only));refine box_event ?hg (N:=4) ?hd (cs:=z18_.b0) (t:=31) ?hr ?_;(case hd=>rfl);(case hg=>rfl);(case hr=>first|(go_simp;done)|(go_simp;rfl));intro gb111 hg w11 hbox hb;replace HO109:=qM_ (Kd.R_below (qr_ HO109) hb);have BK111:=qM_ (hbox);have GW111:=qM_ ((by rw[hg];exact(below_size qBHB):w.heap.size≤gb111));have GE111:=qM_ ((by rw[hg];exact(below_size qBHB):w.heap.size≤gb111));replace HB:=qM_ (below_step qBHB hb);have NB101_111:=qM_ ((by rw[hg];exact Nat.ne_of_lt (blk_lt (qk_ BK101)):gb101≠gb111));have NB111_101:=qM_ ((by rw[hg];exact Nat.ne_of_gt (blk_lt (qk_ BK101)):gb111≠gb101));replace BK101:=qM_ (blk_below (qk_ BK101) hb);clear hb hbox hg;have hnb12:=NB111_101.out;have hnc12:=NB101_111.out;obtain⟨hcz13_0,hcz13_1,hcz13_2,hcz13_3,hcz13_4,hcz13_5,hfz13_0⟩:=qc6_ BK111;obtain⟨Ao14,co14,eo14⟩:=Kd.R_slice HO109.out;subst eo14;obtain⟨hcz15_0,hcz15_1,hcz15_2,hcz15_3,hcz15_4,hcz15_5,hfz15_0⟩:=qc6_ BK101))
    refine bodyPost_ret (results_ct rfl _ _ gb101 31 z18_.b0 (0,0) _ rfl (by(with_reducible repeat(first|refine blk_drewN ?_ _|refine blk_drew ?_|refine blk_alloc ?_ _));refine blk_put (cs:=z18_.b0) ?_ 5 _ rfl;(with_reducible repeat(first|refine blk_drewN ?_ _|refine blk_drew ?_|refine blk_alloc ?_ _));refine blk_put (cs:=z18_.b0) ?_ 4 _ rfl;(with_reducible repeat(first|refine blk_drewN ?_ _|refine blk_drew ?_|refine blk_alloc ?_ _));refine blk_put (cs:=z18_.b0) ?_ 3 _ rfl;(with_reducible repeat(first|refine blk_drewN ?_ _|refine blk_drew ?_|refine blk_alloc ?_ _));refine blk_put (cs:=z18_.b0) ?_ 2 _ rfl;(with_reducible repeat(first|refine blk_drewN ?_ _|refine blk_drew ?_|refine blk_alloc ?_ _));refine blk_put (cs:=z18_.b0) ?_ 1 _ rfl;(with_reducible repeat(first|refine blk_drewN ?_ _|refine blk_drew ?_|refine blk_alloc ?_ _));refine blk_put (cs:=z18_.b0) ?_ 0 _ rfl;(with_reducible repeat(first|refine blk_drewN ?_ _|refine blk_drew ?_|refine blk_alloc ?_ _));refine blk_far ?_ NB101_111.out _;(with_reducible repeat(first|refine blk_drewN ?_ _|refine blk_drew ?_|refine blk_alloc ?_ _));refine blk_far ?_ NB101_111.out _;(with_reducible repeat(first|refine blk_drewN ?_ _|refine blk_drew ?_|refine blk_alloc ?_ _));refine blk_far ?_ NB101_111.out _;(with_reducible repeat(first|refine blk_drewN ?_ _|refine blk_drew ?_|refine blk_alloc ?_ _));refine blk_far ?_ NB101_111.out _;(with_reducible repeat(first|refine blk_drewN ?_ _|refine blk_drew ?_|refine blk_alloc ?_ _));refine blk_far ?_ NB101_111.out _;(with_reducible repeat(first|refine blk_drewN ?_ _|refine blk_drew ?_|refine blk_alloc ?_ _));refine blk_far ?_ NB101_111.out _;(with_reducible repeat(first|refine blk_drewN ?_ _|refine blk_drew ?_|refine blk_alloc ?_ _));exact BK101.out) Try.underlying31 rfl qK) rfl ?_;exact⟨_,qee_,by first|exact Kd.R_nil _ _ _ _ _|exact Kd.N_nil _ _ _ _ _|exact Kd.V_nil _ _ _ _ _|exact Kd.Q_nil _ _ _ _ _|exact Kd.S_nil _ _ _ _ _,qBHB⟩
   ·rw[if_neg c7]at H
    have c7b0:decide (20000 < (l0.length:Int))=false:=decide_eq_false c7;have c7b1:decide (20000 < l0.length)=false:=decide_eq_false (by omega);clear c7;simp only[Option.some.injEq,Prod.mk.injEq]at H;obtain⟨rfl,rfl,rfl,rfl,rfl,rfl,rfl⟩:=H;go_enter Try.func18,Try.ntmps18
    go_wp2_with (first|((with_reducible refine gate_dst (N:=2) rfl ?_);(try(refine gate_guard (by rfl) ?_;dsimp only));refine box_event ?hg (N:=2) ?hd (cs:=z18_.b0) (t:=31) ?hr ?_;(case hd=>rfl);(case hg=>rfl);(case hr=>first|(go_simp;done)|(go_simp;rfl));intro gb101 hg w16 hbox hb;have BK101:=qM_ (hbox);have GW101:=qM_ ((by rw[hg];exact(below_size qBHB):w.heap.size≤gb101));have GE101:=qM_ ((by rw[hg];exact(below_size qBHB):w.heap.size≤gb101));replace HB:=qM_ (below_step qBHB hb);clear hb hbox hg;have hcv17:=Kd.C_string (P:=Try.prog) (A:=A0) (c:=c0) Try.underlying26 Try.underlying5 Try.underlying9 (Kd.C_below HR0.out HB.out))|((with_reducible refine gate_callee (f:=34) rfl ?_);refine goesL_ (some 13) rfl rfl Try.func34 qK rfl #[.string (strOfNums l0)] rfl qll_ ?_;(with_reducible refine(z34_.calls k (strOfNums l0) t102 t103 t104 t105 t106 t107 true _ A5.out).mono ?_);rintro e w18 ⟨v108,rfl,ho0,hb⟩;refine⟨_,rfl,?_⟩;have HO109:=qM_ (Kd.R_lower ho0 (below_size qBHB));replace BK101:=qM_ (blk_below (qk_ BK101) hb);replace HB:=qM_ (below_step qBHB hb);(try clear hb);(try clear hb2);(try clear hk);(try clear hi);(try clear ho0))|((with_reducible refine gate_dst (N:=4) rfl ?_);(try(refine gate_guard (by rfl) ?_;dsimp only));refine box_event ?hg (N:=4) ?hd (cs:=z18_.b0) (t:=31) ?hr ?_;(case hd=>rfl);(case hg=>rfl);(case hr=>first|(go_simp;done)|(go_simp;rfl));intro gb111 hg w19 hbox hb;replace HO109:=qM_ (Kd.R_below (qr_ HO109) hb);have BK111:=qM_ (hbox);have GW111:=qM_ ((by rw[hg];exact(below_size qBHB):w.heap.size≤gb111));have GE111:=qM_ ((by rw[hg];exact(below_size qBHB):w.heap.size≤gb111));replace HB:=qM_ (below_step qBHB hb);have NB101_111:=qM_ ((by rw[hg];exact Nat.ne_of_lt (blk_lt (qk_ BK101)):gb101≠gb111));have NB111_101:=qM_ ((by rw[hg];exact Nat.ne_of_gt (blk_lt (qk_ BK101)):gb111≠gb101));replace BK101:=qM_ (blk_below (qk_ BK101) hb);clear hb hbox hg;have hnb20:=NB111_101.out;have hnc20:=NB101_111.out;obtain⟨hcz21_0,hcz21_1,hcz21_2,hcz21_3,hcz21_4,hcz21_5,hfz21_0⟩:=qc6_ BK111;obtain⟨Ao22,co22,eo22⟩:=Kd.R_slice HO109.out;subst eo22;obtain⟨hcz23_0,hcz23_1,hcz23_2,hcz23_3,hcz23_4,hcz23_5,hfz23_0⟩:=qc6_ BK101))
    refine bodyPost_ret (results_ct rfl _ _ gb101 31 #[.int .i64 t102,.int .i64 t103,.int .i64 t104,.int .i64 t105,.string t106,.slice Ao22 t107.length co22] (0,0) _ rfl (by(with_reducible repeat(first|refine blk_drewN ?_ _|refine blk_drew ?_|refine blk_alloc ?_ _));refine blk_put (cs:=#[.int .i64 t102,.int .i64 t103,.int .i64 t104,.int .i64 t105,.string t106,.slice none 0 0]) ?_ 5 _ rfl;(with_reducible repeat(first|refine blk_drewN ?_ _|refine blk_drew ?_|refine blk_alloc ?_ _));refine blk_put (cs:=#[.int .i64 t102,.int .i64 t103,.int .i64 t104,.int .i64 t105,.string (⟨#[]⟩:BA_),.slice none 0 0]) ?_ 4 _ rfl;(with_reducible repeat(first|refine blk_drewN ?_ _|refine blk_drew ?_|refine blk_alloc ?_ _));refine blk_put (cs:=#[.int .i64 t102,.int .i64 t103,.int .i64 t104,.int .i64 0,.string (⟨#[]⟩:BA_),.slice none 0 0]) ?_ 3 _ rfl;(with_reducible repeat(first|refine blk_drewN ?_ _|refine blk_drew ?_|refine blk_alloc ?_ _));refine blk_put (cs:=#[.int .i64 t102,.int .i64 t103,.int .i64 0,.int .i64 0,.string (⟨#[]⟩:BA_),.slice none 0 0]) ?_ 2 _ rfl;(with_reducible repeat(first|refine blk_drewN ?_ _|refine blk_drew ?_|refine blk_alloc ?_ _));refine blk_put (cs:=#[.int .i64 t102,.int .i64 0,.int .i64 0,.int .i64 0,.string (⟨#[]⟩:BA_),.slice none 0 0]) ?_ 1 _ rfl;(with_reducible repeat(first|refine blk_drewN ?_ _|refine blk_drew ?_|refine blk_alloc ?_ _));refine blk_put (cs:=z18_.b0) ?_ 0 _ rfl;(with_reducible repeat(first|refine blk_drewN ?_ _|refine blk_drew ?_|refine blk_alloc ?_ _));refine blk_far ?_ NB101_111.out _;(with_reducible repeat(first|refine blk_drewN ?_ _|refine blk_drew ?_|refine blk_alloc ?_ _));refine blk_far ?_ NB101_111.out _;(with_reducible repeat(first|refine blk_drewN ?_ _|refine blk_drew ?_|refine blk_alloc ?_ _));refine blk_far ?_ NB101_111.out _;(with_reducible repeat(first|refine blk_drewN ?_ _|refine blk_drew ?_|refine blk_alloc ?_ _));refine blk_far ?_ NB101_111.out _;(with_reducible repeat(first|refine blk_drewN ?_ _|refine blk_drew ?_|refine blk_alloc ?_ _));refine blk_far ?_ NB101_111.out _;(with_reducible repeat(first|refine blk_drewN ?_ _|refine blk_drew ?_|refine blk_alloc ?_ _));refine blk_far ?_ NB101_111.out _;(with_reducible repeat(first|refine blk_drewN ?_ _|refine blk_drew ?_|refine blk_alloc ?_ _));exact BK101.out) Try.underlying31 rfl qK) rfl ?_
    exact⟨_,qee_,by(with_reducible repeat(first|apply Kd.R_alloc|apply Kd.R_drewN|apply Kd.R_drew));exact Kd.R_mono (Kd.R_far (p:=⟨gb101,5,none⟩) (Kd.R_far (p:=⟨gb101,4,none⟩) (Kd.R_far (p:=⟨gb101,3,none⟩) (Kd.R_far (p:=⟨gb101,2,none⟩) (Kd.R_far (p:=⟨gb101,1,none⟩) (Kd.R_far (p:=⟨gb101,0,none⟩) (Kd.R_far (p:=⟨gb111,5,none⟩) (Kd.R_far (p:=⟨gb111,4,none⟩) (Kd.R_far (p:=⟨gb111,3,none⟩) (Kd.R_far (p:=⟨gb111,2,none⟩) (Kd.R_far (p:=⟨gb111,1,none⟩) (Kd.R_far (p:=⟨gb111,0,none⟩) (Kd.R_types (Kd.R_types HO109.out BK111.out (by decide)) BK101.out (by decide)) (fun _ hk=>hk.1.2) (.int .i64 t102)) (fun _ hk=>hk.1.2) (.int .i64 t103)) (fun _ hk=>hk.1.2) (.int .i64 t104)) (fun _ hk=>hk.1.2) (.int .i64 t105)) (fun _ hk=>hk.1.2) (.string t106)) (fun _ hk=>hk.1.2) (.slice Ao22 t107.length co22)) (fun _ hk=>hk.2) (.int .i64 t102)) (fun _ hk=>hk.2) (.int .i64 t103)) (fun _ hk=>hk.2) (.int .i64 t104)) (fun _ hk=>hk.2) (.int .i64 t105)) (fun _ hk=>hk.2) (.string t106)) (fun _ hk=>hk.2) (.slice Ao22 t107.length co22)) (fun _ hk=>trivial),qBHB⟩
  ·replace c6:=Bool.eq_false_iff.mpr c6
   subst c6
   have H1:(some (0,0,0,0,(⟨#[]⟩:BA_),([]:List (S54)),3))=some (r1,r2,r3,r4,r5,r6,r7):=by rw[if_neg (show ¬(false=true)by decide)]at H;exact H
   clear H;have H:=H1;clear H1;simp only[Option.some.injEq,Prod.mk.injEq]at H;obtain⟨rfl,rfl,rfl,rfl,rfl,rfl,rfl⟩:=H;go_enter Try.func18,Try.ntmps18
   go_wp2_with (first|((with_reducible refine gate_dst (N:=2) rfl ?_);(try(refine gate_guard (by rfl) ?_;dsimp only));refine box_event ?hg (N:=2) ?hd (cs:=z18_.b0) (t:=31) ?hr ?_;(case hd=>rfl);(case hg=>rfl);(case hr=>first|(go_simp;done)|(go_simp;rfl));intro gb101 hg w24 hbox hb;have BK101:=qM_ (hbox);have GW101:=qM_ ((by rw[hg];exact(below_size qBHB):w.heap.size≤gb101));have GE101:=qM_ ((by rw[hg];exact(below_size qBHB):w.heap.size≤gb101));replace HB:=qM_ (below_step qBHB hb);clear hb hbox hg;have hcv25:=Kd.C_string (P:=Try.prog) (A:=A0) (c:=c0) Try.underlying26 Try.underlying5 Try.underlying9 (Kd.C_below HR0.out HB.out))|((with_reducible refine gate_callee (f:=34) rfl ?_);refine goesL_ (some 13) rfl rfl Try.func34 qK rfl #[.string (strOfNums l0)] rfl qll_ ?_;(with_reducible refine(z34_.calls k (strOfNums l0) t102 t103 t104 t105 t106 t107 false _ A5.out).mono ?_);rintro e w26 ⟨v108,rfl,ho0,hb⟩;refine⟨_,rfl,?_⟩;have HO109:=qM_ (Kd.R_lower ho0 (below_size qBHB));replace BK101:=qM_ (blk_below (qk_ BK101) hb);replace HB:=qM_ (below_step qBHB hb);(try clear hb);(try clear hb2);(try clear hk);(try clear hi);(try clear ho0))|((with_reducible refine gate_dst (N:=4) rfl ?_);(try(refine gate_guard (by rfl) ?_;dsimp only));refine box_event ?hg (N:=4) ?hd (cs:=z18_.b0) (t:=31) ?hr ?_;(case hd=>rfl);(case hg=>rfl);(case hr=>first|(go_simp;done)|(go_simp;rfl));intro gb111 hg w27 hbox hb;replace HO109:=qM_ (Kd.R_below (qr_ HO109) hb);have BK111:=qM_ (hbox);have GW111:=qM_ ((by rw[hg];exact(below_size qBHB):w.heap.size≤gb111));have GE111:=qM_ ((by rw[hg];exact(below_size qBHB):w.heap.size≤gb111));replace HB:=qM_ (below_step qBHB hb);have NB101_111:=qM_ ((by rw[hg];exact Nat.ne_of_lt (blk_lt (qk_ BK101)):gb101≠gb111));have NB111_101:=qM_ ((by rw[hg];exact Nat.ne_of_gt (blk_lt (qk_ BK101)):gb111≠gb101));replace BK101:=qM_ (blk_below (qk_ BK101) hb);clear hb hbox hg;have hnb28:=NB111_101.out;have hnc28:=NB101_111.out;obtain⟨hcz29_0,hcz29_1,hcz29_2,hcz29_3,hcz29_4,hcz29_5,hfz29_0⟩:=qc6_ BK111;obtain⟨Ao30,co30,eo30⟩:=Kd.R_slice HO109.out;subst eo30;obtain⟨hcz31_0,hcz31_1,hcz31_2,hcz31_3,hcz31_4,hcz31_5,hfz31_0⟩:=qc6_ BK101))
   refine bodyPost_ret (results_ct rfl _ _ gb101 31 z18_.b0 (0,0) _ rfl (by(with_reducible repeat(first|refine blk_drewN ?_ _|refine blk_drew ?_|refine blk_alloc ?_ _));refine blk_put (cs:=z18_.b0) ?_ 5 _ rfl;(with_reducible repeat(first|refine blk_drewN ?_ _|refine blk_drew ?_|refine blk_alloc ?_ _));refine blk_put (cs:=z18_.b0) ?_ 4 _ rfl;(with_reducible repeat(first|refine blk_drewN ?_ _|refine blk_drew ?_|refine blk_alloc ?_ _));refine blk_put (cs:=z18_.b0) ?_ 3 _ rfl;(with_reducible repeat(first|refine blk_drewN ?_ _|refine blk_drew ?_|refine blk_alloc ?_ _));refine blk_put (cs:=z18_.b0) ?_ 2 _ rfl;(with_reducible repeat(first|refine blk_drewN ?_ _|refine blk_drew ?_|refine blk_alloc ?_ _));refine blk_put (cs:=z18_.b0) ?_ 1 _ rfl;(with_reducible repeat(first|refine blk_drewN ?_ _|refine blk_drew ?_|refine blk_alloc ?_ _));refine blk_put (cs:=z18_.b0) ?_ 0 _ rfl;(with_reducible repeat(first|refine blk_drewN ?_ _|refine blk_drew ?_|refine blk_alloc ?_ _));refine blk_far ?_ NB101_111.out _;(with_reducible repeat(first|refine blk_drewN ?_ _|refine blk_drew ?_|refine blk_alloc ?_ _));refine blk_far ?_ NB101_111.out _;(with_reducible repeat(first|refine blk_drewN ?_ _|refine blk_drew ?_|refine blk_alloc ?_ _));refine blk_far ?_ NB101_111.out _;(with_reducible repeat(first|refine blk_drewN ?_ _|refine blk_drew ?_|refine blk_alloc ?_ _));refine blk_far ?_ NB101_111.out _;(with_reducible repeat(first|refine blk_drewN ?_ _|refine blk_drew ?_|refine blk_alloc ?_ _));refine blk_far ?_ NB101_111.out _;(with_reducible repeat(first|refine blk_drewN ?_ _|refine blk_drew ?_|refine blk_alloc ?_ _));refine blk_far ?_ NB101_111.out _;(with_reducible repeat(first|refine blk_drewN ?_ _|refine blk_drew ?_|refine blk_alloc ?_ _));exact BK101.out) Try.underlying31 rfl qK) rfl ?_;exact⟨_,qee_,by first|exact Kd.R_nil _ _ _ _ _|exact Kd.N_nil _ _ _ _ _|exact Kd.V_nil _ _ _ _ _|exact Kd.Q_nil _ _ _ _ _|exact Kd.S_nil _ _ _ _ _,qBHB⟩


/-! ### z38_: function 38 -/
def z38_.l0:Nat→Int→List Int→Int→Option (List Int)
 | 0,_,_,_=>none
 | k+1,x0,x5,x6=>if x6≥0 then(if 0≤(IntKind.u64.wrap (wrap64 (8*x6)))then(if x5.length < 140737488355328 then(z38_.l0 k x0 (x5 ++ [(shr .i64 x0 (IntKind.u64.wrap (wrap64 (8*x6)))) % 256]) (wrap64 (x6 - 1)))else(none))else(none))else(some x5)
def z38_.f (k:Nat) (a0:Int) (a1:Int):Option (List Int):=z38_.l0 k a0 (([]:List Int)) (wrap64 (a1 - 1))
theorem z38_.mono_l:∀ k,(∀ y0 y1 y2,LeO (z38_.l0 k y0 y1 y2) (z38_.l0 (k+1) y0 y1 y2))
 | 0=>fun _ _ _ r h=>by simp[z38_.l0]at h
 | k+1=>by
  have ih0:=z38_.mono_l k
  ·intro y0 y1 y2
   unfold z38_.l0
   repeat' first
   | (with_reducible exact ih0 _ _ _)
   | (with_reducible exact LeO.refl _)
   | (with_reducible exact LeO.none _)
   | (with_reducible refine LeO.ite ?_ ?_)
   | (with_reducible refine LeO.bind ?_ (fun _=> ?_))
   | exact ih0 _ _ _
   | exact LeO.none _
   | refine LeO.ite ?_ ?_
   | refine LeO.bind ?_ (fun _=> ?_)
theorem z38_.mono:∀ a0 a1 k,LeO (z38_.f k a0 a1) (z38_.f (k+1) a0 a1):=by
 intro a0 a1 k
 have ih0:=z38_.mono_l k
 unfold z38_.f
 repeat' first
   | (with_reducible exact ih0 _ _ _)
   | (with_reducible exact LeO.refl _)
   | (with_reducible exact LeO.none _)
   | (with_reducible refine LeO.ite ?_ ?_)
   | (with_reducible refine LeO.bind ?_ (fun _=> ?_))
   | exact ih0 _ _ _
   | exact LeO.none _
   | refine LeO.ite ?_ ?_
   | refine LeO.bind ?_ (fun _=> ?_)
set_option maxHeartbeats 8000000 in
set_option maxRecDepth 100000 in
theorem z38_.calls (k:Nat) (a0:Int) (a1:Int) (r:List Int) (w:World) (h:z38_.f k a0 a1=some r) :
  Calls Try.prog 38 #[.int .i64 a0,.int .i64 a1] w fun e w' => ∃ v0_:Value,e= .returned (v0_)∧Kd.R (Kd.int .u8) 5 w' w.heap.size (fun _=>True) v0_ r∧Below w.heap.size w w' := by
 have HB:=qM_ (Below.refl w.heap.size w)
 have H:(z38_.l0 k a0 (([]:List Int)) (wrap64 (a1 - 1)))=some r:=h
 clear h
 obtain⟨y101,hy101⟩:∃ y_:List Int,y_=(([]:List Int)):=⟨_,rfl⟩
 replace H:(z38_.l0 k a0 y101 (wrap64 (a1 - 1)))=some r:=qh_ hy101 H
 have Ny101:=qM_ hy101
 clear hy101
 have H' := qM_ H
 clear H
 go_enter Try.func38,Try.ntmps38
 go_wp2_with (first|((with_reducible refine gate_dst (N:=7) rfl ?_);refine Kd.R_lit (Kd.int .u8) _ 5 ?hg (N:=7) ?hd (xs:=([]:List Int)) (inner:=[]) (ok:=fun _=>True) (okp:=fun _=>True) ?hr ?hp (fun _ hk=>hk) trivial (Below.refl _ _) (Nat.le_refl _) (by simp) ?_;(case hd=>rfl);(case hg=>rfl);(case hr=>first|(go_simp;done)|(go_simp;rfl));(case hp=>exact(Reps.none _ _));intro v102 w3 ho4 hb hg_ hnew_;clear hg_ hnew_;(first|rw[← Ny101.out]at ho4|(simp only[Int.reduceToNat]at ho4;rw[← Ny101.out]at ho4));have HO103:=qM_ (Kd.R_lower ho4 (below_size qBHB));replace HB:=qM_ (below_step qBHB hb);clear hb ho4))
 go_loopg [5,6] k (fun kq v5 v6 w' => ∃(x5_1:List Int) (x6_1:Int),v6= .int .i64 x6_1∧Aside0 (z38_.l0 kq a0 x5_1 x6_1=some r)∧Aside0 (kq≤k)∧Aside0 (Kd.R (Kd.int .u8) 5 w' w.heap.size (fun _=>True) v5 x5_1)∧Aside0 (Below w.heap.size w w'))
 case atStart=>exact⟨(y101),(wrap64 (a1 - 1)),qff_,H', ⟨Nat.le_refl _⟩,⟨qr_ HO103⟩,⟨qBHB⟩⟩
 case round =>
  clear H'
  try clear p2
  try clear c3
  obtain⟨x5_1,x6_1,rfl,HA,HK1,HO_5,HB⟩:=hrel
  cases gk with
  | zero=>exact absurd HA.out (by simp[z38_.l0])
  | succ k1 =>
   have H:=HA.out;clear HA;simp only[z38_.l0]at H;by_cases c5:x6_1≥0
   ·rw[if_pos c5]at H
    have c5b0:decide (0≤x6_1)=true:=decide_eq_true c5;clear c5
    obtain⟨ji6,hji6⟩:∃ j_:Int,(IntKind.u64.wrap (wrap64 (8*x6_1)))=j_:=⟨_,rfl⟩
    replace H:(if 0≤(ji6)then(if x5_1.length < 140737488355328 then(z38_.l0 k1 a0 (x5_1 ++ [(shr .i64 a0 (ji6)) % 256]) (wrap64 (x6_1 - 1)))else(none))else(none))=some r:=qj_ hji6 H;by_cases c7:0≤(ji6)
    ·rw[if_pos c7]at H
     have c7b0:=eq_true c7;have c7b1:decide (0≤(ji6))=true:=decide_eq_true c7;clear c7
     obtain⟨ji8,hji8⟩:∃ j_:Int,(shr .i64 a0 (ji6))=j_:=⟨_,rfl⟩
     replace H:(if x5_1.length < 140737488355328 then(z38_.l0 k1 a0 (x5_1 ++ [(ji8) % 256]) (wrap64 (x6_1 - 1)))else(none))=some r:=qj_ hji8 H;have hji8_:(a0 / 2 ^ min (ji6).toNat 64)=ji8:=hji8;have hji8z:(ji6)≤64→(a0 / 2 ^ (ji6).toNat)=ji8:=shr_small hji8;by_cases c9:x5_1.length < 140737488355328
     ·rw[if_pos c9]at H
      have LMc9:=qM_ c9;clear c9
      obtain⟨y104,hy104⟩:∃ y_:List Int,y_=(x5_1 ++ [(ji8) % 256]):=⟨_,rfl⟩
      replace H:(z38_.l0 k1 a0 y104 (wrap64 (x6_1 - 1)))=some r:=qh_ hy104 H;have Ny104:=qM_ hy104;clear hy104;have H' := qM_ H;clear H
      go_wp2_with (first|((with_reducible refine gate_builtin (b:= .append) (xs:=#[.tmp 14,.tmp 21]) rfl ?_);at_builtin;refine Kd.R_append (Kd.int .u8) (w0:=w) w.heap.size rfl (.tmp 14) (.tmp 21) 26 5 (.int .u8 0) 1 rfl Try.underlying26 info5 rfl (by decide) (by omega) u5 x5_1 ((ji8) % 256) [.int .u8 ((ji8) % 256)] (fun _=>True) (fun _=>False) rfl rfl ?aP (fun _ hk=>hk.elim) ?aF ?aO ?aB ?aS ?aL ?_;(case aP=>exact rfl);(case aB=>exact qBHB);(case aF=>exact(fun _ _=>trivial));(case aO=>exact(qr_ HO_5));(case aS=>exact(below_size qBHB));(case aL=>have:=LMc9.out;omega);intro v105 w10 ho hb hg hat;rw[← Ny104.out]at ho;replace HB:=qM_ (hb);have HO106:=qM_ (ho);clear HO_5;clear ho hb hg hat))
      go_roundg k1
      case measure=>have:=HK1.out;omega
      case rel=>exact⟨(y104),(wrap64 (x6_1 - 1)),qff_,H', ⟨by have:=HK1.out;omega⟩,⟨qr_ HO106⟩,⟨qBHB⟩⟩
     ·rw[if_neg c9]at H
      exact absurd H (by simp)
    ·rw[if_neg c7]at H
     exact absurd H (by simp)
   ·rw[if_neg c5]at H
    have c5b0:decide (0≤x6_1)=false:=decide_eq_false c5;clear c5;obtain rfl:=Option.some.inj H
    go_wp2
    go_ret;exact⟨_,qee_,qr_ HO_5,qBHB⟩


/-! ### z21_: function 21 -/
def z21_.l0:Nat→List Int→Int→Int→Int→Int→Int→ByteArray→List (S54)→Option (List Int)
 | 0,_,_,_,_,_,_,_,_=>none
 | k+1,x3,x4,x102000,x102001,x102002,x102003,x102004,x102005=>if x4 < (x102005.length:Int)then(if 0≤x4 then((z38_.f k (((rd_T54 x102005 x4).f0).size:Int) 2).bind fun t116=>(if x3.length+t116.length < 140737488355328 then((some (x3 ++ t116:List Int)).bind fun y119=>((z38_.f k (((rd_T54 x102005 x4).f1).size:Int) 2).bind fun t122=>(if y119.length+t122.length < 140737488355328 then((some (y119 ++ t122:List Int)).bind fun y125=>(if y125.length+((rd_T54 x102005 x4).f0).size < 140737488355328 then((some (y125 ++ bytesOf ((rd_T54 x102005 x4).f0):List Int)).bind fun y128=>(if y128.length+((rd_T54 x102005 x4).f1).size < 140737488355328 then(z21_.l0 k (y128 ++ bytesOf ((rd_T54 x102005 x4).f1)) (wrap64 (x4+1)) x102000 x102001 x102002 x102003 x102004 x102005)else(none)))else(none)))else(none))))else(none)))else(none))else(some x3)
def z21_.f (k:Nat) (a0_0:Int) (a0_1:Int) (a0_2:Int) (a0_3:Int) (a0_4:ByteArray) (l0_5:List (S54)):Option (List Int):=(some (([(a0_0) % 256,(a0_2) % 256,(a0_3) % 256,((l0_5.length:Int)) % 256,((a0_4.size:Int)) % 256]:List Int):List Int)).bind fun y102=>((z38_.f k a0_1 2).bind fun t105=>(if y102.length+t105.length < 140737488355328 then((some (y102 ++ t105:List Int)).bind fun y108=>(if y108.length+a0_4.size < 140737488355328 then(z21_.l0 k (y108 ++ bytesOf a0_4) 0 a0_0 a0_1 a0_2 a0_3 a0_4 l0_5)else(none)))else(none)))
theorem z21_.mono_l:∀ k,(∀ y0 y1 y2 y3 y4 y5 y6 y7,LeO (z21_.l0 k y0 y1 y2 y3 y4 y5 y6 y7) (z21_.l0 (k+1) y0 y1 y2 y3 y4 y5 y6 y7))
 | 0=>fun _ _ _ _ _ _ _ _ r h=>by simp[z21_.l0]at h
 | k+1=>by
  have ih0:=z21_.mono_l k
  ·intro y0 y1 y2 y3 y4 y5 y6 y7
   unfold z21_.l0
   repeat' first
   | (with_reducible exact ih0 _ _ _ _ _ _ _ _)
   | (with_reducible exact z38_.mono _ _ _)
   | (with_reducible exact LeO.refl _)
   | (with_reducible exact LeO.none _)
   | (with_reducible refine LeO.ite ?_ ?_)
   | (with_reducible refine LeO.bind ?_ (fun _=> ?_))
   | exact ih0 _ _ _ _ _ _ _ _
   | exact z38_.mono _ _ _
   | exact LeO.none _
   | refine LeO.ite ?_ ?_
   | refine LeO.bind ?_ (fun _=> ?_)
theorem z21_.mono:∀ a0 a1 a2 a3 a4 a5 k,LeO (z21_.f k a0 a1 a2 a3 a4 a5) (z21_.f (k+1) a0 a1 a2 a3 a4 a5):=by
 intro a0 a1 a2 a3 a4 a5 k
 have ih0:=z21_.mono_l k
 unfold z21_.f
 repeat' first
   | (with_reducible exact ih0 _ _ _ _ _ _ _ _)
   | (with_reducible exact z38_.mono _ _ _)
   | (with_reducible exact LeO.refl _)
   | (with_reducible exact LeO.none _)
   | (with_reducible refine LeO.ite ?_ ?_)
   | (with_reducible refine LeO.bind ?_ (fun _=> ?_))
   | exact ih0 _ _ _ _ _ _ _ _
   | exact z38_.mono _ _ _
   | exact LeO.none _
   | refine LeO.ite ?_ ?_
   | refine LeO.bind ?_ (fun _=> ?_)
def z21_.T2:Bool × List (List Nat × List Nat):=(true,[([],[]),([],[]),([1],[1]),([2],[2]),([0,3,3],[0,3]),([],[]),([5],[5]),([4,6,4],[4,6]),([7,7,0,1,2,3,4,5,6,7],[0,7])])
def z21_.B2:List Nat:=[0,0,2,6,15,0,32,127,255]
theorem z21_.tab2:rtab .any (opsOf Try.f21 2)=z21_.T2:=by kernel_rfl
theorem z21_.bits2:waitsOk z21_.T2.2 z21_.B2=true:=by kernel_rfl
def z21_.T7:Bool × List (List Nat × List Nat):=(true,[([],[]),([],[]),([1],[1]),([2],[2]),([3],[3]),([0,4,4],[0,4]),([],[]),([6],[6]),([7],[7]),([8,5],[8]),([5,9,9],[5,9]),([10,10,0,1,2,3,4,5,6,7,8,9,10],[0,10])])
def z21_.B7:List Nat:=[0,0,2,6,14,31,0,64,192,511,1023,2047]
theorem z21_.tab7:rtab .any (opsOf Try.f21 7)=z21_.T7:=by kernel_rfl
theorem z21_.bits7:waitsOk z21_.T7.2 z21_.B7=true:=by kernel_rfl
def z21_.T8:Bool × List (List Nat × List Nat):=(true,[([],[]),([],[]),([1],[1]),([0,2],[0,2]),([],[]),([4],[4]),([3,5,3],[3,5]),([6,6,0,1,2,3,4,5,6],[0,6])])
def z21_.B8:List Nat:=[0,0,2,7,0,16,63,127]
theorem z21_.tab8:rtab .any (opsOf Try.f21 8)=z21_.T8:=by kernel_rfl
theorem z21_.bits8:waitsOk z21_.T8.2 z21_.B8=true:=by kernel_rfl
set_option maxHeartbeats 8000000 in
set_option maxRecDepth 100000 in
theorem z21_.calls (k:Nat) (a0_0:Int) (a0_1:Int) (a0_2:Int) (a0_3:Int) (a0_4:ByteArray) (A0_5:Option Addr) (c0_5:Nat) (l0_5:List (S54)) (r:List Int) (w:World) (hr0_5:Kd.C k54 w A0_5 l0_5.length l0_5) (hc0_5:l0_5.length≤c0_5) (h:z21_.f k a0_0 a0_1 a0_2 a0_3 a0_4 l0_5=some r) :
  Calls Try.prog 21 #[.agg #[.int .i64 a0_0,.int .i64 a0_1,.int .i64 a0_2,.int .i64 a0_3,.string a0_4,.slice A0_5 l0_5.length c0_5]] w fun e w' => ∃ v0_:Value,e= .returned (v0_)∧Kd.R (Kd.int .u8) 5 w' w.heap.size (fun _=>True) v0_ r∧Below w.heap.size w w' := by
 have hu31:=Try.underlying31
 have hu54:=Try.underlying54
 have HR0_5:=qM_ hr0_5
 have HC0_5:=qM_ hc0_5
 clear hr0_5 hc0_5
 have HB:=qM_ (Below.refl w.heap.size w)
 have H:((some (([(a0_0) % 256,(a0_2) % 256,(a0_3) % 256,((l0_5.length:Int)) % 256,((a0_4.size:Int)) % 256]:List Int):List Int)).bind fun y102=>((z38_.f k a0_1 2).bind fun t105=>(if y102.length+t105.length < 140737488355328 then((some (y102 ++ t105:List Int)).bind fun y108=>(if y108.length+a0_4.size < 140737488355328 then(z21_.l0 k (y108 ++ bytesOf a0_4) 0 a0_0 a0_1 a0_2 a0_3 a0_4 l0_5)else(none)))else(none))))=some r:=h
 clear h
 obtain⟨y102,hy102⟩:∃ y_:List Int,y_=(([(a0_0) % 256,(a0_2) % 256,(a0_3) % 256,((l0_5.length:Int)) % 256,((a0_4.size:Int)) % 256]:List Int)):=⟨_,rfl⟩
 replace H:((z38_.f k a0_1 2).bind fun t105=>(if y102.length+t105.length < 140737488355328 then((some (y102 ++ t105:List Int)).bind fun y108=>(if y108.length+a0_4.size < 140737488355328 then(z21_.l0 k (y108 ++ bytesOf a0_4) 0 a0_0 a0_1 a0_2 a0_3 a0_4 l0_5)else(none)))else(none)))=some r:=qh_ hy102 H
 have Ny102:=qM_ hy102
 clear hy102
 replace H:=Option.bind_eq_some_iff.mp H
 obtain⟨t105,A20,H⟩:=H
 have A2:=qM_ A20
 clear A20
 by_cases c3:y102.length+t105.length < 140737488355328
 ·rw[if_pos c3]at H
  have LMc3:=qM_ c3;clear c3
  obtain⟨y108,hy108⟩:∃ y_:List Int,y_=(y102 ++ t105):=⟨_,rfl⟩
  replace H:(if y108.length+a0_4.size < 140737488355328 then(z21_.l0 k (y108 ++ bytesOf a0_4) 0 a0_0 a0_1 a0_2 a0_3 a0_4 l0_5)else(none))=some r:=qh_ hy108 H;have Ny108:=qM_ hy108;clear hy108;by_cases c4:y108.length+a0_4.size < 140737488355328
  ·rw[if_pos c4]at H
   have LMc4:=qM_ c4;clear c4
   obtain⟨y111,hy111⟩:∃ y_:List Int,y_=(y108 ++ bytesOf a0_4):=⟨_,rfl⟩
   replace H:(z21_.l0 k y111 0 a0_0 a0_1 a0_2 a0_3 a0_4 l0_5)=some r:=qh_ hy111 H;have Ny111:=qM_ hy111;clear hy111;have H' := qM_ H;clear H;go_enter Try.func21,Try.ntmps21
   try go_wp2_with (first|((with_reducible refine gate_dst (N:=1) rfl ?_);refine box_event ?hg (N:=1) ?hd (cs:=#[.int .i64 a0_0,.int .i64 a0_1,.int .i64 a0_2,.int .i64 a0_3,.string a0_4,.slice A0_5 l0_5.length c0_5]) (t:=31) ?hr ?_;(case hd=>rfl);(case hg=>rfl);(case hr=>first|(go_simp;done)|(go_simp;rfl));intro gb101 hg w5 hbox hb;have BK101:=qM_ (hbox);have GW101:=qM_ ((by rw[hg];exact(below_size qBHB):w.heap.size≤gb101));have GE101:=qM_ ((by rw[hg];exact(below_size qBHB):w.heap.size≤gb101));replace HB:=qM_ (below_step qBHB hb);clear hb hbox hg;obtain⟨hcz6_0,hcz6_1,hcz6_2,hcz6_3,hcz6_4,hcz6_5,hfz6_0⟩:=qc6_ BK101)|((with_reducible refine gate_dst (N:=23) rfl ?_);refine Kd.R_lit (Kd.int .u8) _ 5 ?hg (N:=23) ?hd (xs:=([(a0_0) % 256,(a0_2) % 256,(a0_3) % 256,((l0_5.length:Int)) % 256,((a0_4.size:Int)) % 256]:List Int)) (inner:=[.int .u8 ((a0_0) % 256),.int .u8 ((a0_2) % 256),.int .u8 ((a0_3) % 256),.int .u8 (((l0_5.length:Int)) % 256),.int .u8 (((a0_4.size:Int)) % 256)]) (ok:=fun _=>True) (okp:=fun _=>True) ?hr ?hp (fun _ hk=>hk) trivial (Below.refl _ _) (Nat.le_refl _) (by simp) ?_;(case hd=>rfl);(case hg=>rfl);(case hr=>first|(go_simp;done)|(go_simp;rfl));(case hp=>exact(Reps.one rfl (Reps.one rfl (Reps.one rfl (Reps.one rfl (Reps.one rfl (Reps.none _ _)))))));intro v103 w7 ho8 hb hg_ hnew_;clear hg_ hnew_;(first|rw[← Ny102.out]at ho8|(simp only[Int.reduceToNat]at ho8;rw[← Ny102.out]at ho8));have HO104:=qM_ (Kd.R_lower ho8 (below_size qBHB));replace BK101:=qM_ (blk_below (qk_ BK101) hb);replace HB:=qM_ (below_step qBHB hb);clear hb ho8))
   replace HO104:=qM_ (Kd.R_drew HO104.out);replace BK101:=qM_ (blk_drew BK101.out);replace HB:=qM_ (qE_ HB.out)
   refine start_ (n:=9) (S:=fun w' => w'.cell? ⟨gb101,0,none⟩=some (.int .i64 a0_0)∧w'.cell? ⟨gb101,1,none⟩=some (.int .i64 a0_1)∧w'.cell? ⟨gb101,2,none⟩=some (.int .i64 a0_2)∧w'.cell? ⟨gb101,3,none⟩=some (.int .i64 a0_3)∧w'.cell? ⟨gb101,4,none⟩=some (.string a0_4)∧w'.cell? ⟨gb101,5,none⟩=some (.slice A0_5 l0_5.length c0_5)) (ds:=[]) #[qF,qF,qF,qF,qF,qF,qF,qF,qF] qK rfl rfl ⟨(qC_ BK101.out 0).trans rfl,(qC_ BK101.out 1).trans rfl,(qC_ BK101.out 2).trans rfl,(qC_ BK101.out 3).trans rfl,(qC_ BK101.out 4).trans rfl,(qC_ BK101.out 5).trans rfl⟩ (fun hHeld=> ?_);refine with_tabW z21_.tab2 z21_.bits2 (fun HT_ HW_=> ?_)
   generalize w7.drew=w9 at HO104 BK101 HB hHeld ⊢;refine pure_ (i:=0) (N:=some 24) (v:= ?_) (a' := ?_) #[qT,qF,qF,qF,qF,qF,qF,qF,qF] rfl rfl (any_of HT_.out qK) (fun _ _ _ h=>h) (Or.inl ⟨by rfl,?_⟩) ?_ ?_;rotate_left
   ·intro w'
    go_simp;with_reducible rfl
   rotate_left
   ·simp only[Act.put,qS_,qW_]
    rfl
   refine pure_ (i:=1) (N:=some 25) (v:= ?_) (a' := ?_) #[qT,qT,qF,qF,qF,qF,qF,qF,qF] rfl rfl (any_of HT_.out qK) (fun _ _ _ h=>h) (Or.inl ⟨by rfl,?_⟩) ?_ ?_;rotate_left
   ·intro w'
    go_simp;with_reducible rfl
   rotate_left
   ·simp only[Act.put,qS_,qW_]
    rfl
   refine pure_ (i:=5) (N:=some 29) (v:= ?_) (a' := ?_) #[qT,qT,qF,qF,qF,qT,qF,qF,qF] rfl rfl (any_of HT_.out qK) (fun _ _ _ h=>h) (Or.inl ⟨by rfl,?_⟩) ?_ ?_;rotate_left
   ·intro w'
    go_simp;with_reducible rfl
   rotate_left
   ·simp only[Act.put,qS_,qW_]
    rfl
   refine take_ (i:=2) (N:=some 26) (v:= ?_) (a' := ?_) #[qT,qT,qT,qF,qF,qT,qF,qF,qF] rfl rfl (take_ofW HT_.out HW_.out qK) (fun _ _ _ h=>h) (Or.inl ⟨by rfl,?_⟩) hHeld ?_ ?_;rotate_left
   ·rintro w' ⟨s0,s1,s2,s3,s4,s5⟩
    go_simp;with_reducible rfl
   rotate_left
   ·simp only[Act.put,qS_,qW_]
    rfl
   refine take_ (i:=6) (N:=some 30) (v:= ?_) (a' := ?_) #[qT,qT,qT,qF,qF,qT,qT,qF,qF] rfl rfl (take_ofW HT_.out HW_.out qK) (fun _ _ _ h=>h) (Or.inl ⟨by rfl,?_⟩) hHeld ?_ ?_;rotate_left
   ·rintro w' ⟨s0,s1,s2,s3,s4,s5⟩
    go_simp;with_reducible rfl
   rotate_left
   ·simp only[Act.put,qS_,qW_]
    rfl
   refine one_ (i:=3) (N:=some 27) #[qT,qT,qT,qT,qF,qT,qT,qF,qF] rfl rfl (one_of HT_.out qK) (by decide) (fun K hK=> ?_);refine goes_ Try.func38 qK rfl #[.int .i64 a0_1,.int .i64 2] (by rfl) rfl rfl qll_ ?_
   with_reducible refine(z38_.calls k a0_1 2 t105 _ A2.out).mono ?_
   rintro e w10 ⟨v106,rfl,ho0,hb⟩
   refine⟨_,rfl,?_⟩;have HO107:=qM_ (Kd.R_lower (Kd.R_new' ho0 (Kd.R_lt (qr_ HO104))) (below_size qBHB));replace HO104:=qM_ (Kd.R_elder' (qr_ HO104) (Kd.R_base ho0) hb);replace BK101:=qM_ (blk_below (qk_ BK101) hb);replace HB:=qM_ (below_step qBHB hb)
   (try clear hb)
   (try clear hb2)
   (try clear hk)
   (try clear hi)
   (try clear ho0)
   obtain⟨Ao12,co12,eo12⟩:=Kd.R_slice HO107.out
   (first|subst eo12|(injection eo12 with f1_ f2_ f3_;have f4_:=f1_.symm;have f5_:=f3_.symm;clear f1_ f2_ f3_;subst f4_;subst f5_))
   refine hK.out _ _ ⟨(qC_ BK101.out 0).trans rfl,(qC_ BK101.out 1).trans rfl,(qC_ BK101.out 2).trans rfl,(qC_ BK101.out 3).trans rfl,(qC_ BK101.out 4).trans rfl,(qC_ BK101.out 5).trans rfl⟩ (fun hHeld=> ?_);clear hK K;refine norm_ (a' := ?_) ?_ ?_;rotate_left
   ·show Act.put _ (some 27) _=_
    simp only[Act.put,qS_,qW_];rfl
   refine one_ (i:=4) (N:=some 28) #[qT,qT,qT,qT,qT,qT,qT,qF,qF] rfl rfl (one_of HT_.out qK) (by decide) (fun K hK=> ?_);refine Kd.R_append_rows_step (Kd.int .u8) (w0:=w) w.heap.size (by rfl) (.tmp 24) (.tmp 27) 26 5 (.int .u8 0) 1 rfl Try.underlying26 info5 rfl (by decide) (by omega) v103 y102 t105 _ _ _ (fun k_=>some k_≠(.slice Ao12 t105.length co12:Value).ownBlock) (fun _=>False) rfl rfl ?aO ?aR (fun _ _ h=>h) (fun _ h=>h.elim) ?aF ?aB ?aS ?aL ?_
   (case aR=>repeat(first|exact(Kd.R_reads' HO107.out).2.2|(with_reducible refine Kd.C_alloc ?_ _)|(with_reducible refine Kd.C_drewN ?_ _)|(with_reducible refine Kd.C_drew ?_)))
   (case aB=>exact qBHB)
   (case aF=>exact(fun k_ hk=>Kd.fresh' (Kd.R_lt (qr_ HO107)) k_ hk))
   (case aO=>exact(by(with_reducible repeat(first|apply Kd.R_alloc|apply Kd.R_drewN|apply Kd.R_drew));exact Kd.R_mono HO104.out (fun _ hk=>hk.2)))
   (case aS=>exact(below_size qBHB))
   (case aL=>have:=LMc3.out;omega)
   intro v109 w11 ho hb hg hat
   rw[← Ny108.out]at ho;replace BK101:=qM_ (blk_grown (qk_ BK101) hg (Kd.R_ne HO104.out BK101.out (by decide)));replace HO107:=qM_ (Kd.R_after (ok:=(fun _=>True)) (qr_ HO107) hg hat);replace HB:=qM_ (hb);have HO110:=qM_ (ho);clear HO104;clear ho hb hg hat;refine hK.out _ _ ⟨(qC_ BK101.out 0).trans rfl,(qC_ BK101.out 1).trans rfl,(qC_ BK101.out 2).trans rfl,(qC_ BK101.out 3).trans rfl,(qC_ BK101.out 4).trans rfl,(qC_ BK101.out 5).trans rfl⟩ (fun hHeld=> ?_);clear hK K;refine norm_ (a' := ?_) ?_ ?_;rotate_left
   ·show Act.put _ (some 28) _=_
    simp only[Act.put,qS_,qW_];rfl
   refine one_ (i:=7) (N:=some 31) #[qT,qT,qT,qT,qT,qT,qT,qT,qF] rfl rfl (one_of HT_.out qK) (by decide) (fun K hK=> ?_);refine print_append_str_step (w0:=w) w.heap.size (by rfl) (.tmp 28) _ 26 9 5 rfl Try.underlying26 Try.underlying9 info5 v109 y108 a0_4 rfl rfl ?aO ?aB ?aS ?aL ?_
   (case aB=>exact qBHB)
   (case aO=>exact(Kd.own_of_R (by(with_reducible repeat(first|apply Kd.R_alloc|apply Kd.R_drewN|apply Kd.R_drew));exact Kd.R_mono HO110.out (fun _ hk=>trivial))))
   (case aS=>exact(below_size qBHB))
   (case aL=>have:=LMc4.out;omega)
   intro v112 w13 ho0 hb hg
   have ho:=Kd.R_of_own (h1:=fun _=>rfl) (ok:=fun _=>True) ho0 (fun _ _=>trivial);clear ho0;have hat:=True.intro;rw[← Ny111.out]at ho
   change Kd.R (Kd.int .u8) 5 w13 w.heap.size (fun _=>True) v112 y111 at ho
   replace BK101:=qM_ (blk_grown (qk_ BK101) hg (Kd.R_ne HO110.out BK101.out (by decide)));replace HB:=qM_ (hb);have HO113:=qM_ (ho);clear HO110;clear ho hb hg hat;refine hK.out _ _ ⟨(qC_ BK101.out 0).trans rfl,(qC_ BK101.out 1).trans rfl,(qC_ BK101.out 2).trans rfl,(qC_ BK101.out 3).trans rfl,(qC_ BK101.out 4).trans rfl,(qC_ BK101.out 5).trans rfl⟩ (fun hHeld=> ?_);clear hK K;refine norm_ (a' := ?_) ?_ ?_;rotate_left
   ·show Act.put _ (some 31) _=_
    simp only[Act.put,qS_,qW_];rfl
   refine pure_ (i:=8) (N:=some 3) (v:= ?_) (a' := ?_) #[qT,qT,qT,qT,qT,qT,qT,qT,qT] rfl rfl (any_of HT_.out qK) (fun _ _ _ h=>h) (Or.inl ⟨by rfl,?_⟩) ?_ ?_;rotate_left
   ·intro w'
    go_simp;with_reducible rfl
   rotate_left
   ·simp only[Act.put,qS_,qW_]
    rfl
   refine done_ (done_of HT_.out qK) ?_
   try go_wp2
   go_loopg [3,4] k (fun kq v3 v4 w' => ∃(x3_1:List Int) (x4_1:Int),v4= .int .i64 x4_1∧Aside0 (z21_.l0 kq x3_1 x4_1 a0_0 a0_1 a0_2 a0_3 a0_4 l0_5=some r)∧Aside0 (kq≤k)∧Aside0 (Kd.R (Kd.int .u8) 5 w' w.heap.size (fun _=>True) v3 x3_1)∧Aside0 (w'.heap[gb101]? = some (.cells #[.int .i64 a0_0,.int .i64 a0_1,.int .i64 a0_2,.int .i64 a0_3,.string a0_4,(.slice A0_5 l0_5.length c0_5)] 31 (0,0)))∧Aside0 (Below w.heap.size w w'))
   case atStart=>exact⟨(y111),(0),qff_,H', ⟨Nat.le_refl _⟩,⟨qr_ HO113⟩,⟨qk_ BK101⟩,⟨qBHB⟩⟩
   case round =>
    clear H'
    try clear c2
    try clear p2
    try clear c3
    try clear c4
    try clear hcz6_0 hcz6_1 hcz6_2 hcz6_3 hcz6_4 hcz6_5
    try clear hfz6_0
    obtain⟨x3_1,x4_1,rfl,HA,HK1,HO_3,BK101,HB⟩:=hrel
    cases gk with
    | zero=>exact absurd HA.out (by simp[z21_.l0])
    | succ k1 =>
     have H:=HA.out;clear HA;simp only[z21_.l0]at H;by_cases c14:x4_1 < (l0_5.length:Int)
     ·rw[if_pos c14]at H
      have c14b0:decide (x4_1 < (l0_5.length:Int))=true:=decide_eq_true c14;clear c14;by_cases c15:0≤x4_1
      ·rw[if_pos c15]at H
       have c15b0:decide (0≤x4_1)=true:=decide_eq_true c15;clear c15;replace H:=Option.bind_eq_some_iff.mp H;obtain⟨t116,A160,H⟩:=H;have A16:=qM_ A160;clear A160;by_cases c17:x3_1.length+t116.length < 140737488355328
       ·rw[if_pos c17]at H
        have LMc17:=qM_ c17;clear c17
        obtain⟨y119,hy119⟩:∃ y_:List Int,y_=(x3_1 ++ t116):=⟨_,rfl⟩
        replace H:((z38_.f k1 (((rd_T54 l0_5 x4_1).f1).size:Int) 2).bind fun t122=>(if y119.length+t122.length < 140737488355328 then((some (y119 ++ t122:List Int)).bind fun y125=>(if y125.length+((rd_T54 l0_5 x4_1).f0).size < 140737488355328 then((some (y125 ++ bytesOf ((rd_T54 l0_5 x4_1).f0):List Int)).bind fun y128=>(if y128.length+((rd_T54 l0_5 x4_1).f1).size < 140737488355328 then(z21_.l0 k1 (y128 ++ bytesOf ((rd_T54 l0_5 x4_1).f1)) (wrap64 (x4_1+1)) a0_0 a0_1 a0_2 a0_3 a0_4 l0_5)else(none)))else(none)))else(none)))=some r:=qh_ hy119 H;have Ny119:=qM_ hy119;clear hy119;replace H:=Option.bind_eq_some_iff.mp H;obtain⟨t122,A180,H⟩:=H;have A18:=qM_ A180;clear A180;by_cases c19:y119.length+t122.length < 140737488355328
        ·rw[if_pos c19]at H
         have LMc19:=qM_ c19;clear c19
         obtain⟨y125,hy125⟩:∃ y_:List Int,y_=(y119 ++ t122):=⟨_,rfl⟩
         replace H:(if y125.length+((rd_T54 l0_5 x4_1).f0).size < 140737488355328 then((some (y125 ++ bytesOf ((rd_T54 l0_5 x4_1).f0):List Int)).bind fun y128=>(if y128.length+((rd_T54 l0_5 x4_1).f1).size < 140737488355328 then(z21_.l0 k1 (y128 ++ bytesOf ((rd_T54 l0_5 x4_1).f1)) (wrap64 (x4_1+1)) a0_0 a0_1 a0_2 a0_3 a0_4 l0_5)else(none)))else(none))=some r:=qh_ hy125 H;have Ny125:=qM_ hy125;clear hy125;by_cases c20:y125.length+((rd_T54 l0_5 x4_1).f0).size < 140737488355328
         ·rw[if_pos c20]at H
          have LMc20:=qM_ c20;clear c20
          obtain⟨y128,hy128⟩:∃ y_:List Int,y_=(y125 ++ bytesOf ((rd_T54 l0_5 x4_1).f0)):=⟨_,rfl⟩
          replace H:(if y128.length+((rd_T54 l0_5 x4_1).f1).size < 140737488355328 then(z21_.l0 k1 (y128 ++ bytesOf ((rd_T54 l0_5 x4_1).f1)) (wrap64 (x4_1+1)) a0_0 a0_1 a0_2 a0_3 a0_4 l0_5)else(none))=some r:=qh_ hy128 H;have Ny128:=qM_ hy128;clear hy128;by_cases c21:y128.length+((rd_T54 l0_5 x4_1).f1).size < 140737488355328
          ·rw[if_pos c21]at H
           have LMc21:=qM_ c21;clear c21
           obtain⟨y131,hy131⟩:∃ y_:List Int,y_=(y128 ++ bytesOf ((rd_T54 l0_5 x4_1).f1)):=⟨_,rfl⟩
           replace H:(z21_.l0 k1 y131 (wrap64 (x4_1+1)) a0_0 a0_1 a0_2 a0_3 a0_4 l0_5)=some r:=qh_ hy131 H;have Ny131:=qM_ hy131;clear hy131;have H' := qM_ H;clear H;obtain⟨hcz22_0,hcz22_1,hcz22_2,hcz22_3,hcz22_4,hcz22_5,hfz22_0⟩:=qc6_ BK101;have p114:0≤(x4_1:Int):=qd_;have q114:x4_1 < (l0_5.length:Int):=qd_;obtain⟨ad114,e114,hx114_0,hx114_1⟩:=at_T54 HR0_5.out x4_1 p114 q114;cases e114;replace hx114_0:=(HB.out.cell (qL_ w _ hx114_0)).trans hx114_0;replace hx114_1:=(HB.out.cell (qL_ w _ hx114_1)).trans hx114_1;replace p114:=eq_true p114;replace q114:=eq_true q114
           try go_wp2_with (first|((with_reducible refine gate_dst (N:=5) rfl ?_);refine box_event ?hg (N:=5) ?hd (cs:=#[.string (⟨#[]⟩:BA_),.string (⟨#[]⟩:BA_)]) (t:=54) ?hr ?_;(case hd=>rfl);(case hg=>rfl);(case hr=>first|(go_simp;done)|(go_simp;rfl));intro gb115 hg w23 hbox hb;replace HO_3:=qM_ (Kd.R_below (qr_ HO_3) hb);have BK115:=qM_ (hbox);have GW115:=qM_ ((by rw[hg];exact(below_size qBHB):w.heap.size≤gb115));have GE115:=qM_ ((by rw[hg];exact(below_size qBHB):w.heap.size≤gb115));replace HB:=qM_ (below_step qBHB hb);have NB101_115:=qM_ ((by rw[hg];exact Nat.ne_of_lt (blk_lt (qk_ BK101)):gb101≠gb115));have NB115_101:=qM_ ((by rw[hg];exact Nat.ne_of_gt (blk_lt (qk_ BK101)):gb115≠gb101));replace BK101:=qM_ (blk_below (qk_ BK101) hb);clear hb hbox hg;have hnb24:=NB115_101.out;have hnc24:=NB101_115.out;obtain⟨hcz25_0,hcz25_1,hfz25_0⟩:=qc2_ BK115))
           have n0_:Aside0 (Kd.R (Kd.int .u8) 5 ((w23.setCell ⟨gb115,0,none⟩ (.string ((rd_T54 l0_5 x4_1).f0))).setCell ⟨gb115,1,none⟩ (.string ((rd_T54 l0_5 x4_1).f1))) w.heap.size (fun _=>True) u3 x3_1):=⟨by(with_reducible repeat(first|apply Kd.R_alloc|apply Kd.R_drewN|apply Kd.R_drew));exact Kd.R_mono (qf2_ HO_3 BK115) (fun _ hk=>trivial)⟩;have n1_:Aside0 (((w23.setCell ⟨gb115,0,none⟩ (.string ((rd_T54 l0_5 x4_1).f0))).setCell ⟨gb115,1,none⟩ (.string ((rd_T54 l0_5 x4_1).f1))).heap[gb101]? = some (.cells #[.int .i64 a0_0,.int .i64 a0_1,.int .i64 a0_2,.int .i64 a0_3,.string a0_4,.slice (some ad114) l0_5.length c0_5] 31 (0,0))):=⟨qp_ BK101⟩;have n2_:Aside0 (((w23.setCell ⟨gb115,0,none⟩ (.string ((rd_T54 l0_5 x4_1).f0))).setCell ⟨gb115,1,none⟩ (.string ((rd_T54 l0_5 x4_1).f1))).heap[gb115]? = some (.cells #[.string ((rd_T54 l0_5 x4_1).f0),.string ((rd_T54 l0_5 x4_1).f1)] 54 (0,0))):=⟨qp_ BK115⟩;have n3_:Aside0 (Below w.heap.size w ((w23.setCell ⟨gb115,0,none⟩ (.string ((rd_T54 l0_5 x4_1).f0))).setCell ⟨gb115,1,none⟩ (.string ((rd_T54 l0_5 x4_1).f1)))):=⟨qBHB⟩
           (try clear HO_3)
           (try clear BK101)
           (try clear BK115)
           (try clear HB)
           generalize ((w23.setCell ⟨gb115,0,none⟩ (.string ((rd_T54 l0_5 x4_1).f0))).setCell ⟨gb115,1,none⟩ (.string ((rd_T54 l0_5 x4_1).f1)))=w26 at n0_ n1_ n2_ n3_ ⊢;have HO_3:=n0_;have BK101:=n1_;have BK115:=n2_;have HB:=n3_;clear n0_ n1_ n2_ n3_;replace HO_3:=qM_ (Kd.R_drew HO_3.out);replace BK101:=qM_ (blk_drew BK101.out);replace BK115:=qM_ (blk_drew BK115.out);replace HB:=qM_ (qE_ HB.out)
           refine start_ (n:=12) (S:=fun w' => w'.cell? ⟨gb115,0,none⟩=some (.string ((rd_T54 l0_5 x4_1).f0))∧w'.cell? ⟨gb115,1,none⟩=some (.string ((rd_T54 l0_5 x4_1).f1))) (ds:=[]) #[qF,qF,qF,qF,qF,qF,qF,qF,qF,qF,qF,qF] qK rfl rfl ⟨(qC_ BK115.out 0).trans rfl,(qC_ BK115.out 1).trans rfl⟩ (fun hHeld=> ?_);refine with_tabW z21_.tab7 z21_.bits7 (fun HT_ HW_=> ?_)
           generalize w26.drew=w27 at HO_3 BK101 BK115 HB hHeld ⊢;refine pure_ (i:=0) (N:=some 44) (v:= ?_) (a' := ?_) #[qT,qF,qF,qF,qF,qF,qF,qF,qF,qF,qF,qF] rfl rfl (any_of HT_.out qK) (fun _ _ _ h=>h) (Or.inl ⟨by rfl,?_⟩) ?_ ?_;rotate_left
           ·intro w'
            go_simp;with_reducible rfl
           rotate_left
           ·simp only[Act.put,qS_,qW_]
            rfl
           refine pure_ (i:=1) (N:=some 45) (v:= ?_) (a' := ?_) #[qT,qT,qF,qF,qF,qF,qF,qF,qF,qF,qF,qF] rfl rfl (any_of HT_.out qK) (fun _ _ _ h=>h) (Or.inl ⟨by rfl,?_⟩) ?_ ?_;rotate_left
           ·intro w'
            go_simp;with_reducible rfl
           rotate_left
           ·simp only[Act.put,qS_,qW_]
            rfl
           refine pure_ (i:=6) (N:=some 50) (v:= ?_) (a' := ?_) #[qT,qT,qF,qF,qF,qF,qT,qF,qF,qF,qF,qF] rfl rfl (any_of HT_.out qK) (fun _ _ _ h=>h) (Or.inl ⟨by rfl,?_⟩) ?_ ?_;rotate_left
           ·intro w'
            go_simp;with_reducible rfl
           rotate_left
           ·simp only[Act.put,qS_,qW_]
            rfl
           refine take_ (i:=2) (N:=some 46) (v:= ?_) (a' := ?_) #[qT,qT,qT,qF,qF,qF,qT,qF,qF,qF,qF,qF] rfl rfl (take_ofW HT_.out HW_.out qK) (fun _ _ _ h=>h) (Or.inl ⟨by rfl,?_⟩) hHeld ?_ ?_;rotate_left
           ·rintro w' ⟨s0,s1⟩
            go_simp;with_reducible rfl
           rotate_left
           ·simp only[Act.put,qS_,qW_]
            rfl
           refine pure_ (i:=3) (N:=some 47) (v:= ?_) (a' := ?_) #[qT,qT,qT,qT,qF,qF,qT,qF,qF,qF,qF,qF] rfl rfl (any_of HT_.out qK) (fun _ _ _ h=>h) (Or.inl ⟨by rfl,?_⟩) ?_ ?_;rotate_left
           ·intro w'
            go_simp;with_reducible rfl
           rotate_left
           ·simp only[Act.put,qS_,qW_]
            rfl
           refine take_ (i:=7) (N:=some 51) (v:= ?_) (a' := ?_) #[qT,qT,qT,qT,qF,qF,qT,qT,qF,qF,qF,qF] rfl rfl (take_ofW HT_.out HW_.out qK) (fun _ _ _ h=>h) (Or.inl ⟨by rfl,?_⟩) hHeld ?_ ?_;rotate_left
           ·rintro w' ⟨s0,s1⟩
            go_simp;with_reducible rfl
           rotate_left
           ·simp only[Act.put,qS_,qW_]
            rfl
           refine pure_ (i:=8) (N:=some 52) (v:= ?_) (a' := ?_) #[qT,qT,qT,qT,qF,qF,qT,qT,qT,qF,qF,qF] rfl rfl (any_of HT_.out qK) (fun _ _ _ h=>h) (Or.inl ⟨by rfl,?_⟩) ?_ ?_;rotate_left
           ·intro w'
            go_simp;with_reducible rfl
           rotate_left
           ·simp only[Act.put,qS_,qW_]
            rfl
           refine one_ (i:=4) (N:=some 48) #[qT,qT,qT,qT,qT,qF,qT,qT,qT,qF,qF,qF] rfl rfl (one_of HT_.out qK) (by decide) (fun K hK=> ?_);refine goes_ Try.func38 qK rfl #[.int .i64 (((rd_T54 l0_5 x4_1).f0).size:Int),.int .i64 2] (by rfl) rfl rfl qll_ ?_
           with_reducible refine(z38_.calls k1 (((rd_T54 l0_5 x4_1).f0).size:Int) 2 t116 _ A16.out).mono ?_
           rintro e w28 ⟨v117,rfl,ho0,hb⟩
           refine⟨_,rfl,?_⟩;have HO118:=qM_ (Kd.R_lower (Kd.R_new' ho0 (Kd.R_lt (qr_ HO_3))) (below_size qBHB));replace HO_3:=qM_ (Kd.R_elder' (qr_ HO_3) (Kd.R_base ho0) hb);replace BK101:=qM_ (blk_below (qk_ BK101) hb);replace BK115:=qM_ (blk_below (qk_ BK115) hb);replace HB:=qM_ (below_step qBHB hb)
           (try clear hb)
           (try clear hb2)
           (try clear hk)
           (try clear hi)
           (try clear ho0)
           obtain⟨Ao30,co30,eo30⟩:=Kd.R_slice HO118.out
           (first|subst eo30|(injection eo30 with f1_ f2_ f3_;have f4_:=f1_.symm;have f5_:=f3_.symm;clear f1_ f2_ f3_;subst f4_;subst f5_))
           refine hK.out _ _ ⟨(qC_ BK115.out 0).trans rfl,(qC_ BK115.out 1).trans rfl⟩ (fun hHeld=> ?_);clear hK K;refine norm_ (a' := ?_) ?_ ?_;rotate_left
           ·show Act.put _ (some 48) _=_
            simp only[Act.put,qS_,qW_];rfl
           refine one_ (i:=5) (N:=some 49) #[qT,qT,qT,qT,qT,qT,qT,qT,qT,qF,qF,qF] rfl rfl (one_of HT_.out qK) (by decide) (fun K hK=> ?_);refine Kd.R_append_rows_step (Kd.int .u8) (w0:=w) w.heap.size (by rfl) (.tmp 44) (.tmp 48) 26 5 (.int .u8 0) 1 rfl Try.underlying26 info5 rfl (by decide) (by omega) u3 x3_1 t116 _ _ _ (fun k_=>some k_≠(.slice Ao30 t116.length co30:Value).ownBlock) (fun _=>False) rfl rfl ?aO ?aR (fun _ _ h=>h) (fun _ h=>h.elim) ?aF ?aB ?aS ?aL ?_
           (case aR=>repeat(first|exact(Kd.R_reads' HO118.out).2.2|(with_reducible refine Kd.C_alloc ?_ _)|(with_reducible refine Kd.C_drewN ?_ _)|(with_reducible refine Kd.C_drew ?_)))
           (case aB=>exact qBHB)
           (case aF=>exact(fun k_ hk=>Kd.fresh' (Kd.R_lt (qr_ HO118)) k_ hk))
           (case aO=>exact(by(with_reducible repeat(first|apply Kd.R_alloc|apply Kd.R_drewN|apply Kd.R_drew));exact Kd.R_mono HO_3.out (fun _ hk=>hk.2)))
           (case aS=>exact(below_size qBHB))
           (case aL=>have:=LMc17.out;omega)
           intro v120 w29 ho hb hg hat
           rw[← Ny119.out]at ho;replace BK101:=qM_ (blk_grown (qk_ BK101) hg (Kd.R_ne HO_3.out BK101.out (by decide)));replace BK115:=qM_ (blk_grown (qk_ BK115) hg (Kd.R_ne HO_3.out BK115.out (by decide)));replace HO118:=qM_ (Kd.R_after (ok:=(fun _=>True)) (qr_ HO118) hg hat);replace HB:=qM_ (hb);have HO121:=qM_ (ho);clear HO_3;clear ho hb hg hat;refine hK.out _ _ ⟨(qC_ BK115.out 0).trans rfl,(qC_ BK115.out 1).trans rfl⟩ (fun hHeld=> ?_);clear hK K;refine norm_ (a' := ?_) ?_ ?_;rotate_left
           ·show Act.put _ (some 49) _=_
            simp only[Act.put,qS_,qW_];rfl
           refine one_ (i:=9) (N:=some 53) #[qT,qT,qT,qT,qT,qT,qT,qT,qT,qT,qF,qF] rfl rfl (one_of HT_.out qK) (by decide) (fun K hK=> ?_);refine goes_ Try.func38 qK rfl #[.int .i64 (((rd_T54 l0_5 x4_1).f1).size:Int),.int .i64 2] (by rfl) rfl rfl qll_ ?_
           with_reducible refine(z38_.calls k1 (((rd_T54 l0_5 x4_1).f1).size:Int) 2 t122 _ A18.out).mono ?_
           rintro e w31 ⟨v123,rfl,ho0,hb⟩
           refine⟨_,rfl,?_⟩;have HO124:=qM_ (Kd.R_lower (Kd.R_new' (Kd.R_new' ho0 (Kd.R_lt (qr_ HO118))) (Kd.R_lt (qr_ HO121))) (below_size qBHB));replace HO118:=qM_ (Kd.R_elder' (qr_ HO118) (Kd.R_base ho0) hb);replace HO121:=qM_ (Kd.R_elder' (qr_ HO121) (Kd.R_base ho0) hb);replace BK101:=qM_ (blk_below (qk_ BK101) hb);replace BK115:=qM_ (blk_below (qk_ BK115) hb);replace HB:=qM_ (below_step qBHB hb)
           (try clear hb)
           (try clear hb2)
           (try clear hk)
           (try clear hi)
           (try clear ho0)
           obtain⟨Ao33,co33,eo33⟩:=Kd.R_slice HO124.out
           (first|subst eo33|(injection eo33 with f1_ f2_ f3_;have f4_:=f1_.symm;have f5_:=f3_.symm;clear f1_ f2_ f3_;subst f4_;subst f5_))
           refine hK.out _ _ ⟨(qC_ BK115.out 0).trans rfl,(qC_ BK115.out 1).trans rfl⟩ (fun hHeld=> ?_);clear hK K;refine norm_ (a' := ?_) ?_ ?_;rotate_left
           ·show Act.put _ (some 53) _=_
            simp only[Act.put,qS_,qW_];rfl
           refine one_ (i:=10) (N:=some 54) #[qT,qT,qT,qT,qT,qT,qT,qT,qT,qT,qT,qF] rfl rfl (one_of HT_.out qK) (by decide) (fun K hK=> ?_);refine Kd.R_append_rows_step (Kd.int .u8) (w0:=w) w.heap.size (by rfl) (.tmp 49) (.tmp 53) 26 5 (.int .u8 0) 1 rfl Try.underlying26 info5 rfl (by decide) (by omega) v120 y119 t122 _ _ _ (fun k_=>some k_≠(.slice Ao30 t116.length co30:Value).ownBlock∧some k_≠(.slice Ao33 t122.length co33:Value).ownBlock) (fun _=>False) rfl rfl ?aO ?aR (fun _ _ h=>h) (fun _ h=>h.elim) ?aF ?aB ?aS ?aL ?_
           (case aR=>repeat(first|exact(Kd.R_reads' HO124.out).2.2|(with_reducible refine Kd.C_alloc ?_ _)|(with_reducible refine Kd.C_drewN ?_ _)|(with_reducible refine Kd.C_drew ?_)))
           (case aB=>exact qBHB)
           (case aF=>exact(fun k_ hk=>⟨Kd.fresh' (Kd.R_lt (qr_ HO118)) k_ hk,Kd.fresh' (Kd.R_lt (qr_ HO124)) k_ hk⟩))
           (case aO=>exact(qr_ HO121))
           (case aS=>exact(below_size qBHB))
           (case aL=>have:=LMc19.out;omega)
           intro v126 w32 ho hb hg hat
           rw[← Ny125.out]at ho;replace BK101:=qM_ (blk_grown (qk_ BK101) hg (Kd.R_ne HO121.out BK101.out (by decide)));replace BK115:=qM_ (blk_grown (qk_ BK115) hg (Kd.R_ne HO121.out BK115.out (by decide)));replace HO118:=qM_ (Kd.R_after (ok:=(fun k_=>some k_≠(.slice Ao33 t122.length co33:Value).ownBlock)) (by(with_reducible repeat(first|apply Kd.R_alloc|apply Kd.R_drewN|apply Kd.R_drew));exact Kd.R_mono HO118.out (fun _ hk=>⟨hk.2,hk.1.2⟩)) hg hat)
           replace HO124:=qM_ (Kd.R_after (ok:=(fun k_=>some k_≠(.slice Ao30 t116.length co30:Value).ownBlock)) (by(with_reducible repeat(first|apply Kd.R_alloc|apply Kd.R_drewN|apply Kd.R_drew));exact Kd.R_mono HO124.out (fun _ hk=>⟨hk.1.2,hk.2⟩)) hg hat);replace HB:=qM_ (hb);have HO127:=qM_ (ho);clear HO121;clear ho hb hg hat;refine hK.out _ _ ⟨(qC_ BK115.out 0).trans rfl,(qC_ BK115.out 1).trans rfl⟩ (fun hHeld=> ?_);clear hK K;refine norm_ (a' := ?_) ?_ ?_;rotate_left
           ·show Act.put _ (some 54) _=_
            simp only[Act.put,qS_,qW_];rfl
           refine pure_ (i:=11) (N:=some 3) (v:= ?_) (a' := ?_) #[qT,qT,qT,qT,qT,qT,qT,qT,qT,qT,qT,qT] rfl rfl (any_of HT_.out qK) (fun _ _ _ h=>h) (Or.inl ⟨by rfl,?_⟩) ?_ ?_;rotate_left
           ·intro w'
            go_simp;with_reducible rfl
           rotate_left
           ·simp only[Act.put,qS_,qW_]
            rfl
           refine done_ (done_of HT_.out qK) ?_
           try go_wp2
           replace HO118:=qM_ (Kd.R_drew HO118.out);replace HO124:=qM_ (Kd.R_drew HO124.out);replace HO127:=qM_ (Kd.R_drew HO127.out);replace BK101:=qM_ (blk_drew BK101.out);replace BK115:=qM_ (blk_drew BK115.out);replace HB:=qM_ (qE_ HB.out)
           refine start_ (n:=8) (S:=fun w' => w'.cell? ⟨gb115,0,none⟩=some (.string ((rd_T54 l0_5 x4_1).f0))∧w'.cell? ⟨gb115,1,none⟩=some (.string ((rd_T54 l0_5 x4_1).f1))) (ds:=[]) #[qF,qF,qF,qF,qF,qF,qF,qF] qK rfl rfl ⟨(qC_ BK115.out 0).trans rfl,(qC_ BK115.out 1).trans rfl⟩ (fun hHeld=> ?_);refine with_tabW z21_.tab8 z21_.bits8 (fun HT_ HW_=> ?_)
           generalize w32.drew=w34 at HO118 HO124 HO127 BK101 BK115 HB hHeld ⊢;refine pure_ (i:=0) (N:=some 55) (v:= ?_) (a' := ?_) #[qT,qF,qF,qF,qF,qF,qF,qF] rfl rfl (any_of HT_.out qK) (fun _ _ _ h=>h) (Or.inl ⟨by rfl,?_⟩) ?_ ?_;rotate_left
           ·intro w'
            go_simp;with_reducible rfl
           rotate_left
           ·simp only[Act.put,qS_,qW_]
            rfl
           refine pure_ (i:=1) (N:=some 56) (v:= ?_) (a' := ?_) #[qT,qT,qF,qF,qF,qF,qF,qF] rfl rfl (any_of HT_.out qK) (fun _ _ _ h=>h) (Or.inl ⟨by rfl,?_⟩) ?_ ?_;rotate_left
           ·intro w'
            go_simp;with_reducible rfl
           rotate_left
           ·simp only[Act.put,qS_,qW_]
            rfl
           refine pure_ (i:=4) (N:=some 59) (v:= ?_) (a' := ?_) #[qT,qT,qF,qF,qT,qF,qF,qF] rfl rfl (any_of HT_.out qK) (fun _ _ _ h=>h) (Or.inl ⟨by rfl,?_⟩) ?_ ?_;rotate_left
           ·intro w'
            go_simp;with_reducible rfl
           rotate_left
           ·simp only[Act.put,qS_,qW_]
            rfl
           refine take_ (i:=2) (N:=some 57) (v:= ?_) (a' := ?_) #[qT,qT,qT,qF,qT,qF,qF,qF] rfl rfl (take_ofW HT_.out HW_.out qK) (fun _ _ _ h=>h) (Or.inl ⟨by rfl,?_⟩) hHeld ?_ ?_;rotate_left
           ·rintro w' ⟨s0,s1⟩
            go_simp;with_reducible rfl
           rotate_left
           ·simp only[Act.put,qS_,qW_]
            rfl
           refine take_ (i:=5) (N:=some 60) (v:= ?_) (a' := ?_) #[qT,qT,qT,qF,qT,qT,qF,qF] rfl rfl (take_ofW HT_.out HW_.out qK) (fun _ _ _ h=>h) (Or.inl ⟨by rfl,?_⟩) hHeld ?_ ?_;rotate_left
           ·rintro w' ⟨s0,s1⟩
            go_simp;with_reducible rfl
           rotate_left
           ·simp only[Act.put,qS_,qW_]
            rfl
           refine one_ (i:=3) (N:=some 58) #[qT,qT,qT,qT,qT,qT,qF,qF] rfl rfl (one_of HT_.out qK) (by decide) (fun K hK=> ?_);refine print_append_str_step (w0:=w) w.heap.size (by rfl) (.tmp 55) _ 26 9 5 rfl Try.underlying26 Try.underlying9 info5 v126 y125 ((rd_T54 l0_5 x4_1).f0) rfl rfl ?aO ?aB ?aS ?aL ?_
           (case aB=>exact qBHB)
           (case aO=>exact(Kd.own_of_R (by(with_reducible repeat(first|apply Kd.R_alloc|apply Kd.R_drewN|apply Kd.R_drew));exact Kd.R_mono HO127.out (fun _ hk=>trivial))))
           (case aS=>exact(below_size qBHB))
           (case aL=>have:=LMc20.out;omega)
           intro v129 w35 ho0 hb hg
           have ho:=Kd.R_of_own (h1:=fun _=>rfl) (ok:=fun _=>True) ho0 (fun _ _=>trivial);clear ho0;have hat:=True.intro;rw[← Ny128.out]at ho
           change Kd.R (Kd.int .u8) 5 w35 w.heap.size (fun _=>True) v129 y128 at ho
           replace BK101:=qM_ (blk_grown (qk_ BK101) hg (Kd.R_ne HO127.out BK101.out (by decide)));replace BK115:=qM_ (blk_grown (qk_ BK115) hg (Kd.R_ne HO127.out BK115.out (by decide)));replace HB:=qM_ (hb);have HO130:=qM_ (ho);clear HO127;clear ho hb hg hat;refine hK.out _ _ ⟨(qC_ BK115.out 0).trans rfl,(qC_ BK115.out 1).trans rfl⟩ (fun hHeld=> ?_);clear hK K;refine norm_ (a' := ?_) ?_ ?_;rotate_left
           ·show Act.put _ (some 58) _=_
            simp only[Act.put,qS_,qW_];rfl
           refine one_ (i:=6) (N:=some 61) #[qT,qT,qT,qT,qT,qT,qT,qF] rfl rfl (one_of HT_.out qK) (by decide) (fun K hK=> ?_);refine print_append_str_step (w0:=w) w.heap.size (by rfl) (.tmp 58) _ 26 9 5 rfl Try.underlying26 Try.underlying9 info5 v129 y128 ((rd_T54 l0_5 x4_1).f1) rfl rfl ?aO ?aB ?aS ?aL ?_
           (case aB=>exact qBHB)
           (case aO=>exact(Kd.own_of_R (qr_ HO130)))
           (case aS=>exact(below_size qBHB))
           (case aL=>have:=LMc21.out;omega)
           intro v132 w36 ho0 hb hg
           have ho:=Kd.R_of_own (h1:=fun _=>rfl) (ok:=fun _=>True) ho0 (fun _ _=>trivial);clear ho0;have hat:=True.intro;rw[← Ny131.out]at ho
           change Kd.R (Kd.int .u8) 5 w36 w.heap.size (fun _=>True) v132 y131 at ho
           replace BK101:=qM_ (blk_grown (qk_ BK101) hg (Kd.R_ne HO130.out BK101.out (by decide)));replace BK115:=qM_ (blk_grown (qk_ BK115) hg (Kd.R_ne HO130.out BK115.out (by decide)));replace HB:=qM_ (hb);have HO133:=qM_ (ho);clear HO130;clear ho hb hg hat;refine hK.out _ _ ⟨(qC_ BK115.out 0).trans rfl,(qC_ BK115.out 1).trans rfl⟩ (fun hHeld=> ?_);clear hK K;refine norm_ (a' := ?_) ?_ ?_;rotate_left
           ·show Act.put _ (some 61) _=_
            simp only[Act.put,qS_,qW_];rfl
           refine pure_ (i:=7) (N:=some 3) (v:= ?_) (a' := ?_) #[qT,qT,qT,qT,qT,qT,qT,qT] rfl rfl (any_of HT_.out qK) (fun _ _ _ h=>h) (Or.inl ⟨by rfl,?_⟩) ?_ ?_;rotate_left
           ·intro w'
            go_simp;with_reducible rfl
           rotate_left
           ·simp only[Act.put,qS_,qW_]
            rfl
           refine done_ (done_of HT_.out qK) ?_
           try go_wp2
           go_roundg k1
           case measure=>have:=HK1.out;omega
           case rel=>exact⟨(y131),(wrap64 (x4_1+1)),qff_,H', ⟨by have:=HK1.out;omega⟩,⟨qr_ HO133⟩,⟨qk_ BK101⟩,⟨qBHB⟩⟩
          ·rw[if_neg c21]at H
           exact absurd H (by simp)
         ·rw[if_neg c20]at H
          exact absurd H (by simp)
        ·rw[if_neg c19]at H
         exact absurd H (by simp)
       ·rw[if_neg c17]at H
        exact absurd H (by simp)
      ·rw[if_neg c15]at H
       exact absurd H (by simp)
     ·rw[if_neg c14]at H
      have c14b0:decide (x4_1 < (l0_5.length:Int))=false:=decide_eq_false c14;clear c14;obtain rfl:=Option.some.inj H;obtain⟨hcz37_0,hcz37_1,hcz37_2,hcz37_3,hcz37_4,hcz37_5,hfz37_0⟩:=qc6_ BK101
      go_wp2
      go_ret;exact⟨_,qee_,qr_ HO_3,qBHB⟩
  ·rw[if_neg c4]at H
   exact absurd H (by simp)
 ·rw[if_neg c3]at H
  exact absurd H (by simp)


/-! ### z6_: function 6 -/
def z6_.f (k:Nat) (a0_0:Int) (a0_1:Int) (a0_2:Int) (a0_3:Int) (a0_4:ByteArray) (l0_5:List (S54)):Option (List Int × Int):=(z20_.f k a0_0 a0_1 a0_2 a0_3 a0_4 l0_5).bind fun t102=>(if t102=true then((z21_.f k a0_0 a0_1 a0_2 a0_3 a0_4 l0_5).bind fun t103=>(if(t103.length:Int) > 20000 then(some ((([]:List Int)),7))else(some (t103,0))))else(some ((([]:List Int)),1)))
theorem z6_.mono:∀ a0 a1 a2 a3 a4 a5 k,LeO (z6_.f k a0 a1 a2 a3 a4 a5) (z6_.f (k+1) a0 a1 a2 a3 a4 a5):=by
 intro a0 a1 a2 a3 a4 a5 k
 unfold z6_.f
 repeat' first
   | (with_reducible exact z20_.mono _ _ _ _ _ _ _)
   | (with_reducible exact z21_.mono _ _ _ _ _ _ _)
   | (with_reducible exact LeO.refl _)
   | (with_reducible exact LeO.none _)
   | (with_reducible refine LeO.ite ?_ ?_)
   | (with_reducible refine LeO.bind ?_ (fun _=> ?_))
   | exact z20_.mono _ _ _ _ _ _ _
   | exact z21_.mono _ _ _ _ _ _ _
   | exact LeO.none _
   | refine LeO.ite ?_ ?_
   | refine LeO.bind ?_ (fun _=> ?_)
set_option maxHeartbeats 8000000 in
set_option maxRecDepth 100000 in
theorem z6_.calls (k:Nat) (a0_0:Int) (a0_1:Int) (a0_2:Int) (a0_3:Int) (a0_4:ByteArray) (A0_5:Option Addr) (c0_5:Nat) (l0_5:List (S54)) (r1:List Int) (r2:Int) (w:World) (hr0_5:Kd.C k54 w A0_5 l0_5.length l0_5) (hc0_5:l0_5.length≤c0_5) (h:z6_.f k a0_0 a0_1 a0_2 a0_3 a0_4 l0_5=some (r1,r2)) :
  Calls Try.prog 6 #[.agg #[.int .i64 a0_0,.int .i64 a0_1,.int .i64 a0_2,.int .i64 a0_3,.string a0_4,.slice A0_5 l0_5.length c0_5]] w fun e w' => ∃ v0_:Value,e= .returned (.tuple #[v0_,.int .i64 r2])∧Kd.R (Kd.int .u8) 5 w' w.heap.size (fun _=>True) v0_ r1∧Below w.heap.size w w' := by
 have hu31:=Try.underlying31
 have HR0_5:=qM_ hr0_5
 have HC0_5:=qM_ hc0_5
 clear hr0_5 hc0_5
 have HB:=qM_ (Below.refl w.heap.size w)
 have H:((z20_.f k a0_0 a0_1 a0_2 a0_3 a0_4 l0_5).bind fun t102=>(if t102=true then((z21_.f k a0_0 a0_1 a0_2 a0_3 a0_4 l0_5).bind fun t103=>(if(t103.length:Int) > 20000 then(some ((([]:List Int)),7))else(some (t103,0))))else(some ((([]:List Int)),1))))=some (r1,r2):=h
 clear h
 replace H:=Option.bind_eq_some_iff.mp H
 obtain⟨t102,A20,H⟩:=H
 have A2:=qM_ A20
 clear A20
 by_cases c3:t102=true
 ·subst c3
  have H1:((z21_.f k a0_0 a0_1 a0_2 a0_3 a0_4 l0_5).bind fun t103=>(if(t103.length:Int) > 20000 then(some ((([]:List Int)),7))else(some (t103,0))))=some (r1,r2):=by rw[if_pos rfl]at H;exact H
  clear H;have H:=H1;clear H1;replace H:=Option.bind_eq_some_iff.mp H;obtain⟨t103,A40,H⟩:=H;have A4:=qM_ A40;clear A40;by_cases c5:(t103.length:Int) > 20000
  ·rw[if_pos c5]at H
   have c5b0:decide (20000 < (t103.length:Int))=true:=decide_eq_true c5;have c5b1:decide (20000 < t103.length)=true:=decide_eq_true (by omega);clear c5
   obtain⟨y106,hy106⟩:∃ y_:List Int,y_=(([]:List Int)):=⟨_,rfl⟩
   replace H:(some (y106,7))=some (r1,r2):=qh_ hy106 H;have Ny106:=qM_ hy106;clear hy106;simp only[Option.some.injEq,Prod.mk.injEq]at H;obtain⟨rfl,rfl⟩:=H;go_enter Try.func6,Try.ntmps6
   go_wp2_with (first|((with_reducible refine gate_dst (N:=1) rfl ?_);refine box_event ?hg (N:=1) ?hd (cs:=#[.int .i64 a0_0,.int .i64 a0_1,.int .i64 a0_2,.int .i64 a0_3,.string a0_4,.slice A0_5 l0_5.length c0_5]) (t:=31) ?hr ?_;(case hd=>rfl);(case hg=>rfl);(case hr=>first|(go_simp;done)|(go_simp;rfl));intro gb101 hg w6 hbox hb;have BK101:=qM_ (hbox);have GW101:=qM_ ((by rw[hg];exact(below_size qBHB):w.heap.size≤gb101));have GE101:=qM_ ((by rw[hg];exact(below_size qBHB):w.heap.size≤gb101));replace HB:=qM_ (below_step qBHB hb);clear hb hbox hg;obtain⟨hcz7_0,hcz7_1,hcz7_2,hcz7_3,hcz7_4,hcz7_5,hfz7_0⟩:=qc6_ BK101)|((with_reducible refine gate_callee (f:=20) rfl ?_);refine goesL_ (some 6) rfl rfl Try.func20 qK rfl #[.agg #[.int .i64 a0_0,.int .i64 a0_1,.int .i64 a0_2,.int .i64 a0_3,.string a0_4,.slice A0_5 l0_5.length c0_5]] rfl qll_ ?_;(with_reducible refine(z20_.calls k a0_0 a0_1 a0_2 a0_3 a0_4 _ _ l0_5 true _ ?side1 ?side2 A2.out).mono ?_);(case side1=>exact qcc_ (Kd.C_below HR0_5.out HB.out));(case side2=>exact HC0_5.out);rintro e w8 ⟨rfl,hb⟩;refine⟨_,rfl,?_⟩;replace BK101:=qM_ (blk_below (qk_ BK101) hb);replace HB:=qM_ (below_step qBHB hb);(try clear hb);(try clear hb2);(try clear hk);(try clear hi);obtain⟨hcz9_0,hcz9_1,hcz9_2,hcz9_3,hcz9_4,hcz9_5,hfz9_0⟩:=qc6_ BK101)|((with_reducible refine gate_callee (f:=21) rfl ?_);refine goesL_ (some 10) rfl rfl Try.func21 qK rfl #[.agg #[.int .i64 a0_0,.int .i64 a0_1,.int .i64 a0_2,.int .i64 a0_3,.string a0_4,.slice A0_5 l0_5.length c0_5]] rfl qll_ ?_;(with_reducible refine(z21_.calls k a0_0 a0_1 a0_2 a0_3 a0_4 _ _ l0_5 t103 _ ?side1 ?side2 A4.out).mono ?_);(case side1=>exact qcc_ (Kd.C_below HR0_5.out HB.out));(case side2=>exact HC0_5.out);rintro e w10 ⟨v104,rfl,ho0,hb⟩;refine⟨_,rfl,?_⟩;have HO105:=qM_ (Kd.R_lower ho0 (below_size qBHB));replace BK101:=qM_ (blk_below (qk_ BK101) hb);replace HB:=qM_ (below_step qBHB hb);(try clear hb);(try clear hb2);(try clear hk);(try clear hi);(try clear ho0);obtain⟨Ao11,co11,eo11⟩:=Kd.R_slice HO105.out;subst eo11)|((with_reducible refine gate_dst (N:=14) rfl ?_);refine Kd.R_lit (Kd.int .u8) _ 5 ?hg (N:=14) ?hd (xs:=([]:List Int)) (inner:=[]) (ok:=fun _=>True) (okp:=fun _=>True) ?hr ?hp (fun _ hk=>hk) trivial (Below.refl _ _) (Nat.le_refl _) (by simp) ?_;(case hd=>rfl);(case hg=>rfl);(case hr=>first|(go_simp;done)|(go_simp;rfl));(case hp=>exact(Reps.none _ _));intro v107 w12 ho13 hb hg_ hnew_;clear hg_ hnew_;(first|rw[← Ny106.out]at ho13|(simp only[Int.reduceToNat]at ho13;rw[← Ny106.out]at ho13));have HO108:=qM_ (Kd.R_lower (Kd.R_new' ho13 (Kd.R_lt (qr_ HO105))) (below_size qBHB));replace HO105:=qM_ (Kd.R_elder' (qr_ HO105) (Kd.R_base ho13) hb);replace BK101:=qM_ (blk_below (qk_ BK101) hb);replace HB:=qM_ (below_step qBHB hb);clear hb ho13))
   go_ret2
   exact⟨_,qee_,by(with_reducible repeat(first|apply Kd.R_alloc|apply Kd.R_drewN|apply Kd.R_drew));exact Kd.R_mono HO108.out (fun _ hk=>trivial),qBHB⟩
  ·rw[if_neg c5]at H
   have c5b0:decide (20000 < (t103.length:Int))=false:=decide_eq_false c5;have c5b1:decide (20000 < t103.length)=false:=decide_eq_false (by omega);clear c5;simp only[Option.some.injEq,Prod.mk.injEq]at H;obtain⟨rfl,rfl⟩:=H;go_enter Try.func6,Try.ntmps6
   go_wp2_with (first|((with_reducible refine gate_dst (N:=1) rfl ?_);refine box_event ?hg (N:=1) ?hd (cs:=#[.int .i64 a0_0,.int .i64 a0_1,.int .i64 a0_2,.int .i64 a0_3,.string a0_4,.slice A0_5 l0_5.length c0_5]) (t:=31) ?hr ?_;(case hd=>rfl);(case hg=>rfl);(case hr=>first|(go_simp;done)|(go_simp;rfl));intro gb101 hg w14 hbox hb;have BK101:=qM_ (hbox);have GW101:=qM_ ((by rw[hg];exact(below_size qBHB):w.heap.size≤gb101));have GE101:=qM_ ((by rw[hg];exact(below_size qBHB):w.heap.size≤gb101));replace HB:=qM_ (below_step qBHB hb);clear hb hbox hg;obtain⟨hcz15_0,hcz15_1,hcz15_2,hcz15_3,hcz15_4,hcz15_5,hfz15_0⟩:=qc6_ BK101)|((with_reducible refine gate_callee (f:=20) rfl ?_);refine goesL_ (some 6) rfl rfl Try.func20 qK rfl #[.agg #[.int .i64 a0_0,.int .i64 a0_1,.int .i64 a0_2,.int .i64 a0_3,.string a0_4,.slice A0_5 l0_5.length c0_5]] rfl qll_ ?_;(with_reducible refine(z20_.calls k a0_0 a0_1 a0_2 a0_3 a0_4 _ _ l0_5 true _ ?side1 ?side2 A2.out).mono ?_);(case side1=>exact qcc_ (Kd.C_below HR0_5.out HB.out));(case side2=>exact HC0_5.out);rintro e w16 ⟨rfl,hb⟩;refine⟨_,rfl,?_⟩;replace BK101:=qM_ (blk_below (qk_ BK101) hb);replace HB:=qM_ (below_step qBHB hb);(try clear hb);(try clear hb2);(try clear hk);(try clear hi);obtain⟨hcz17_0,hcz17_1,hcz17_2,hcz17_3,hcz17_4,hcz17_5,hfz17_0⟩:=qc6_ BK101)|((with_reducible refine gate_callee (f:=21) rfl ?_);refine goesL_ (some 10) rfl rfl Try.func21 qK rfl #[.agg #[.int .i64 a0_0,.int .i64 a0_1,.int .i64 a0_2,.int .i64 a0_3,.string a0_4,.slice A0_5 l0_5.length c0_5]] rfl qll_ ?_;(with_reducible refine(z21_.calls k a0_0 a0_1 a0_2 a0_3 a0_4 _ _ l0_5 t103 _ ?side1 ?side2 A4.out).mono ?_);(case side1=>exact qcc_ (Kd.C_below HR0_5.out HB.out));(case side2=>exact HC0_5.out);rintro e w18 ⟨v104,rfl,ho0,hb⟩;refine⟨_,rfl,?_⟩;have HO105:=qM_ (Kd.R_lower ho0 (below_size qBHB));replace BK101:=qM_ (blk_below (qk_ BK101) hb);replace HB:=qM_ (below_step qBHB hb);(try clear hb);(try clear hb2);(try clear hk);(try clear hi);(try clear ho0);obtain⟨Ao19,co19,eo19⟩:=Kd.R_slice HO105.out;subst eo19))
   go_ret2
   exact⟨_,qee_,qr_ HO105,qBHB⟩
 ·replace c3:=Bool.eq_false_iff.mpr c3
  subst c3
  have H1:(some ((([]:List Int)),1))=some (r1,r2):=by rw[if_neg (show ¬(false=true)by decide)]at H;exact H
  clear H;have H:=H1;clear H1
  obtain⟨y109,hy109⟩:∃ y_:List Int,y_=(([]:List Int)):=⟨_,rfl⟩
  replace H:(some (y109,1))=some (r1,r2):=qh_ hy109 H;have Ny109:=qM_ hy109;clear hy109;simp only[Option.some.injEq,Prod.mk.injEq]at H;obtain⟨rfl,rfl⟩:=H;go_enter Try.func6,Try.ntmps6
  go_wp2_with (first|((with_reducible refine gate_dst (N:=1) rfl ?_);refine box_event ?hg (N:=1) ?hd (cs:=#[.int .i64 a0_0,.int .i64 a0_1,.int .i64 a0_2,.int .i64 a0_3,.string a0_4,.slice A0_5 l0_5.length c0_5]) (t:=31) ?hr ?_;(case hd=>rfl);(case hg=>rfl);(case hr=>first|(go_simp;done)|(go_simp;rfl));intro gb101 hg w20 hbox hb;have BK101:=qM_ (hbox);have GW101:=qM_ ((by rw[hg];exact(below_size qBHB):w.heap.size≤gb101));have GE101:=qM_ ((by rw[hg];exact(below_size qBHB):w.heap.size≤gb101));replace HB:=qM_ (below_step qBHB hb);clear hb hbox hg;obtain⟨hcz21_0,hcz21_1,hcz21_2,hcz21_3,hcz21_4,hcz21_5,hfz21_0⟩:=qc6_ BK101)|((with_reducible refine gate_callee (f:=20) rfl ?_);refine goesL_ (some 6) rfl rfl Try.func20 qK rfl #[.agg #[.int .i64 a0_0,.int .i64 a0_1,.int .i64 a0_2,.int .i64 a0_3,.string a0_4,.slice A0_5 l0_5.length c0_5]] rfl qll_ ?_;(with_reducible refine(z20_.calls k a0_0 a0_1 a0_2 a0_3 a0_4 _ _ l0_5 false _ ?side1 ?side2 A2.out).mono ?_);(case side1=>exact qcc_ (Kd.C_below HR0_5.out HB.out));(case side2=>exact HC0_5.out);rintro e w22 ⟨rfl,hb⟩;refine⟨_,rfl,?_⟩;replace BK101:=qM_ (blk_below (qk_ BK101) hb);replace HB:=qM_ (below_step qBHB hb);(try clear hb);(try clear hb2);(try clear hk);(try clear hi))|((with_reducible refine gate_dst (N:=8) rfl ?_);refine Kd.R_lit (Kd.int .u8) _ 5 ?hg (N:=8) ?hd (xs:=([]:List Int)) (inner:=[]) (ok:=fun _=>True) (okp:=fun _=>True) ?hr ?hp (fun _ hk=>hk) trivial (Below.refl _ _) (Nat.le_refl _) (by simp) ?_;(case hd=>rfl);(case hg=>rfl);(case hr=>first|(go_simp;done)|(go_simp;rfl));(case hp=>exact(Reps.none _ _));intro v110 w23 ho24 hb hg_ hnew_;clear hg_ hnew_;(first|rw[← Ny109.out]at ho24|(simp only[Int.reduceToNat]at ho24;rw[← Ny109.out]at ho24));have HO111:=qM_ (Kd.R_lower ho24 (below_size qBHB));replace BK101:=qM_ (blk_below (qk_ BK101) hb);replace HB:=qM_ (below_step qBHB hb);clear hb ho24))
  go_ret2
  exact⟨_,qee_,qr_ HO111,qBHB⟩


/-! ### z59_: function 59 (a text of mine) -/
/-- All blocks but a builder's own and rows of bytes are as they were. -/
def K5 (b:Nat) (w w' : World):Prop:=∀ k c t,w.heap[k]? = some (.cells c t (0,0))→t≠5→k≠b→w'.heap[k]? = some (.cells c t (0,0))
theorem lt_of_blk {w:World} {k:Nat} {o:Obj} (h:w.heap[k]? = some o):k < w.heap.size:=by
 rcases Nat.lt_or_ge k w.heap.size with h' | h'
 ·exact h'
 ·rw[Array.getElem?_eq_none h']at h;cases h
theorem other_own {w:World} {B n:Nat} {v:Value} {xs:List Value} (hown:w.ownsRow B 5 1 v n xs) {k t:Nat} {c:Array Value} (h:w.heap[k]? = some (.cells c t (0,0))) (ht:t≠5):some k≠v.ownBlock:=by
 intro e
 obtain⟨cells,hc⟩:=own_typed hown k e.symm
 rw[h]at hc
 injection hc with hc
 injection hc with _ hc
 exact ht hc
set_option maxHeartbeats 1000000 in
set_option maxRecDepth 100000 in
theorem bCheck_used (b:Nat) (w:World) (h0:w.cell? ⟨b,0,none⟩=some (.pointer (some ⟨b,0,none⟩))) :
  Calls Try.prog 59 #[.pointer (some ⟨b,0,none⟩)] w fun e w' => e= .returned (.tuple #[])∧w' = w:=by
 obtain⟨j,hj,_⟩:=Option.map_eq_some_iff.1 (show(Try.prog.info? 65).map (·.size)=some 2 by kernel_rfl)
 go_enter Try.func59,Try.ntmps59
 go_wp2
 rw[Lib.run_neq_ptr_same w _ Try.underlying63 hj]
 go_wp2
 go_end0
 exact⟨rfl,rfl⟩
set_option maxHeartbeats 1000000 in
set_option maxRecDepth 100000 in
theorem bCheck_fresh (b:Nat) (w:World) (h0:w.cell? ⟨b,0,none⟩=some (.pointer none)) (hsh:w.shape? b=some (65,2)) (hfz:w.frozen? ⟨b,0,none⟩=false) :
  Calls Try.prog 59 #[.pointer (some ⟨b,0,none⟩)] w fun e w' => e= .returned (.tuple #[])∧w' = w.setCell ⟨b,0,none⟩ (.pointer (some ⟨b,0,none⟩)):=by
 obtain⟨j,hj,hjs⟩:=Option.map_eq_some_iff.1 (show(Try.prog.info? 65).map (·.size)=some 2 by kernel_rfl)
 go_enter Try.func59,Try.ntmps59
 go_wp2
 rw[Lib.run_to_unsafe w ⟨b,0,none⟩ Try.underlying63 Try.underlying99 hj (by rw[hjs];decide) hsh (Nat.zero_lt_succ 1)]
 simp only[Result.andThen]
 rw[Oper.upon_value]
 go_wp2
 rw[run_callFunc_extern Try.func73 qK qK qK (e:=Extern.AbiNoEscape.same) qK]
 rw[Lib.run_noEscape]
 simp only[Result.andThen]
 rw[Oper.upon_value]
 go_wp2
 rw[Lib.run_from_unsafe w ⟨b,0,none⟩ Try.underlying99 Try.underlying63 hj hsh qK]
 simp only[Result.andThen]
 rw[Oper.upon_value]
 go_wp2
 go_end0
 exact⟨rfl,rfl⟩
theorem bCheck (B b:Nat) (bs:List Value) (w:World) (h:Lib.IsBuilder 65 5 B b bs w) :
  Calls Try.prog 59 #[.pointer (some ⟨b,0,none⟩)] w fun e w' => e= .returned (.tuple #[])∧(Lib.BuilderAt 65 5 B b (.pointer (some ⟨b,0,none⟩)) bs w' ∧ Below B w w' ∧ K5 b w w'):=by
 rcases h with h|h
 ·refine(bCheck_fresh b w h.cell0 h.shape h.frozen0).mono ?_
  rintro e w' ⟨rfl,rfl⟩
  exact⟨rfl,h.used _,(Below.refl B w).setCell (p:=⟨b,0,none⟩) h.1 _,fun k c t hk _ hne=>(heap_setCell_other w ⟨b,0,none⟩ k _ hne).trans hk⟩
 ·refine(bCheck_used b w h.cell0).mono ?_
  rintro e w' ⟨rfl,rfl⟩
  exact⟨rfl,h,Below.refl B _,fun k c t hk _ _=>hk⟩
theorem bBelow {B b:Nat} {bs:List Value} {w w' : World} (h:Lib.IsBuilder 65 5 B b bs w) (hb:Below w.heap.size w w'):Lib.IsBuilder 65 5 B b bs w' := by
 have go:∀ p,Lib.BuilderAt 65 5 B b p bs w→Lib.BuilderAt 65 5 B b p bs w' := by
  rintro p ⟨hB,v,hk,hown,hne⟩
  exact⟨hB,v,(hb.block b (lt_of_blk hk)).trans hk,hown.kept (row:=none) ⟨hb.os,hb.tape,hb.output,hb.size,fun k hk _=>hb.block k hk⟩ (Classical.em _),hne⟩
 exact h.imp (go _) (go _)
theorem bNew {B b:Nat} {w:World} (hB:B≤b) (hk:w.heap[b]? = some (.cells #[.pointer none,.slice none 0 0] 65 (0,0))):Lib.IsBuilder 65 5 B b [] w :=
 .inl ⟨hB,.slice none 0 0,hk,⟨rfl,.inl ⟨rfl,rfl⟩⟩,by simp[Value.ownBlock]⟩


/-! ### z40_: function 40 (a text of mine) -/
set_option maxHeartbeats 1000000 in
set_option maxRecDepth 100000 in
theorem bWriteByte (B b:Nat) (bs:List Value) (c:Int) (w:World) (h:Lib.IsBuilder 65 5 B b bs w) (hlen:bs.length+1≤140737488355328) (hBw:B≤w.heap.size) :
  Calls Try.prog 40 #[.pointer (some ⟨b,0,none⟩),.int .u8 c] w fun e w' => e= .returned .nilIface∧(Lib.BuilderAt 65 5 B b (.pointer (some ⟨b,0,none⟩)) (bs ++ [.int .u8 c]) w' ∧ Below B w w' ∧ K5 b w w'):=by
 obtain⟨i0,hi,hz0,hz1,hz2⟩:=info_parts (show(Try.prog.info? 5).map (fun i=>(i.zero,i.size,i.bytes))=some (some (.int .u8 0),1,1)by kernel_rfl)
 go_enter Try.func40,Try.ntmps40
 go_wp2_with (go_at_call 59;refine(bCheck B b bs _ h).mono ?_)
 rintro e w1 ⟨rfl,h1,hb1,hK1⟩
 obtain⟨hB,v,hbk,hown,hne⟩:=h1
 have c0:w1.cell? ⟨b,0,none⟩=some (.pointer (some ⟨b,0,none⟩)):=by rw[Lib.cell_of_heap hbk];rfl
 have c1:w1.cell? ⟨b,1,none⟩=some v:=by rw[Lib.cell_of_heap hbk];rfl
 go_wp2_with (at_builtin;refine wpList_append_own _ rfl _ _ 26 rfl B 5 i0 (.int .u8 0) 1 1 Try.underlying26 hi hz0 hz1 hz2 rfl (by decide) _ _ _ rfl (hown.alloc _) ⟨w1.heap.size,0,none⟩ 1 1 [.int .u8 c] rfl rfl ?c1 ?c2 ?c3 ?c4 ?c5 ?_)
 case c1 =>
  intro j u hj
  match j,hj with
  | 0,hj=>simp at hj;subst hj;simp[Addr.add]
 case c2=>intro u hu;simp at hu;subst hu;rfl
 case c3=>unfold maxLen;omega
 case c4=>omega
 case c5=>have:=hb1.size;simp;omega
 intro v' w2 hown' hgrow _
 have hlt:b < w1.heap.size:=by
  rcases Nat.lt_or_ge b w1.heap.size with h' | h'
  ·exact h'
  ·simp[Array.getElem?_eq_none h']at hbk
 have hb2:w2.heap[b]? = some (.cells #[.pointer (some ⟨b,0,none⟩),v] 65 (0,0)):=by
  rw[hgrow.block b (by simp;omega) (fun e=>hne e.symm),Lib.alloc_old w1 _ b hlt]
  exact hbk
 have d0:w2.cell? ⟨b,0,none⟩=some (.pointer (some ⟨b,0,none⟩)):=by rw[Lib.cell_of_heap hb2];rfl
 have d1:w2.cell? ⟨b,1,none⟩=some v:=by rw[Lib.cell_of_heap hb2];rfl
 have f1:w2.frozen? ⟨b,1,none⟩=false:=Lib.frozen_of_heap hb2 1
 obtain⟨g,cap,rfl⟩:∃ g cap,v' = .slice (some ⟨g,0,none⟩) (bs.length+1) cap:=by
  rcases hown'.2 with ⟨_,h0⟩|⟨g,cap,cur,hv,_⟩
  ·omega
  ·exact⟨g,cap,hv⟩
 go_wp2
 go_ret
 refine⟨rfl,?_,?_,?_⟩
 ·exact Lib.BuilderAt.put (T:=65) (e:=5) hB hb2 (bs' := bs ++ [.int .u8 c]) (by simpa using hown') (by decide)
 ·exact((hb1.alloc (by have:=hb1.size;omega) _).grown hgrow (by have:=hb1.size;simp;omega) (fun k hk=>(hown.lt k hk).1)).setCell (p:=⟨b,1,none⟩) hB _
 ·intro k c' t hk ht hkb
  have g1:=hK1 k c' t hk ht hkb
  have g2:=(Lib.alloc_old w1 (Obj.cells #[Value.int IntKind.u8 c] 5 (0,0)) k (lt_of_blk g1)).trans g1
  have g3:=(hgrow.block k (lt_of_blk g2) (other_own hown g1 ht)).trans g2
  exact(heap_setCell_other w2 ⟨b,1,none⟩ k _ hkb).trans g3


/-! ### z41_: function 41 (a text of mine) -/
set_option maxHeartbeats 2000000 in
set_option maxRecDepth 100000 in
theorem bWriteString (B b:Nat) (bs:List Value) (s:ByteArray) (w:World) (h:Lib.IsBuilder 65 5 B b bs w) (hlen:bs.length+s.size≤140737488355328) (hBw:B≤w.heap.size) :
  Calls Try.prog 41 #[.pointer (some ⟨b,0,none⟩),.string s] w fun e w' => e= .returned (.tuple #[.int .i64 s.size,.nilIface])∧(Lib.BuilderAt 65 5 B b (.pointer (some ⟨b,0,none⟩)) (bs ++ Lib.strCells s) w' ∧ Below B w w' ∧ K5 b w w'):=by
 obtain⟨i0,hi,hz0,hz1,hz2⟩:=info_parts (show(Try.prog.info? 5).map (fun i=>(i.zero,i.size,i.bytes))=some (some (.int .u8 0),1,1)by kernel_rfl)
 go_enter Try.func41,Try.ntmps41
 go_wp2_with (go_at_call 59;refine(bCheck B b bs _ h).mono ?_)
 rintro e w1 ⟨rfl,h1,hb1,hK1⟩
 obtain⟨hB,v,hbk,hown,hne⟩:=h1
 have c0:w1.cell? ⟨b,0,none⟩=some (.pointer (some ⟨b,0,none⟩)):=by rw[Lib.cell_of_heap hbk];rfl
 have c1:w1.cell? ⟨b,1,none⟩=some v:=by rw[Lib.cell_of_heap hbk];rfl
 go_wp2_with (at_builtin;refine Lib.wpList_append_own_string _ rfl _ _ 26 9 rfl B 5 i0 Try.underlying26 Try.underlying9 hi hz0 hz1 hz2 _ _ _ rfl hown s rfl ?c3 ?c4 ?c5 ?_)
 case c3=>unfold maxLen;omega
 case c4=>omega
 case c5=>have:=hb1.size;omega
 intro v' w2 hown' hgrow _
 have hlt:b < w1.heap.size:=by
  rcases Nat.lt_or_ge b w1.heap.size with h' | h'
  ·exact h'
  ·simp[Array.getElem?_eq_none h']at hbk
 have hb2:w2.heap[b]? = some (.cells #[.pointer (some ⟨b,0,none⟩),v] 65 (0,0)):=by
  rw[hgrow.block b hlt (fun e=>hne e.symm)]
  exact hbk
 have d0:w2.cell? ⟨b,0,none⟩=some (.pointer (some ⟨b,0,none⟩)):=by rw[Lib.cell_of_heap hb2];rfl
 have d1:w2.cell? ⟨b,1,none⟩=some v:=by rw[Lib.cell_of_heap hb2];rfl
 have f1:w2.frozen? ⟨b,1,none⟩=false:=Lib.frozen_of_heap hb2 1
 obtain⟨ao,n', cap,rfl⟩:∃ ao n' cap,v' = .slice ao n' cap:=by
  rcases hown'.2 with ⟨hv,_⟩|⟨g,cap,cur,hv,_⟩
  ·exact⟨_,_,_,hv⟩
  ·exact⟨_,_,_,hv⟩
 go_wp2
 go_ret2
 refine⟨rfl,?_,?_,?_⟩
 ·exact Lib.BuilderAt.put (T:=65) (e:=5) hB hb2 (bs' := bs ++ Lib.strCells s) (by simpa [Lib.strCells_length] using hown') (by decide)
 ·exact(hb1.grown hgrow (by have:=hb1.size;omega) (fun k hk=>(hown.lt k hk).1)).setCell (p:=⟨b,1,none⟩) hB _
 ·intro k c' t hk ht hkb
  have g1:=hK1 k c' t hk ht hkb
  have g3:=(hgrow.block k (lt_of_blk g1) (other_own hown g1 ht)).trans g1
  exact(heap_setCell_other w2 ⟨b,1,none⟩ k _ hkb).trans g3


/-! ### z42_: function 42 -/
def z42_.l0:Nat→Int→List Int→Int→Option (ByteArray)
 | 0,_,_,_=>none
 | k+1,x0,x5,x6=>if x6≥0 then(if 0≤x6 then(if x6 < (x5.length:Int)then(z42_.l0 k (x0 / 256) (x5.set (x6:Int).toNat ((x0) % 256)) (wrap64 (x6 - 1)))else(none))else(none))else(some (strOfNums x5))
def z42_.f (k:Nat) (a0:Int) (a1:Int):Option (ByteArray):=if 0≤a1 then(if(a1:Int).toNat≤281474976710656 then(z42_.l0 k a0 (List.replicate (a1:Int).toNat 0) (wrap64 (a1 - 1)))else(none))else(none)
theorem z42_.mono_l:∀ k,(∀ y0 y1 y2,LeO (z42_.l0 k y0 y1 y2) (z42_.l0 (k+1) y0 y1 y2))
 | 0=>fun _ _ _ r h=>by simp[z42_.l0]at h
 | k+1=>by
  have ih0:=z42_.mono_l k
  ·intro y0 y1 y2
   unfold z42_.l0
   repeat' first
   | (with_reducible exact ih0 _ _ _)
   | (with_reducible exact LeO.refl _)
   | (with_reducible exact LeO.none _)
   | (with_reducible refine LeO.ite ?_ ?_)
   | (with_reducible refine LeO.bind ?_ (fun _=> ?_))
   | exact ih0 _ _ _
   | exact LeO.none _
   | refine LeO.ite ?_ ?_
   | refine LeO.bind ?_ (fun _=> ?_)
theorem z42_.mono:∀ a0 a1 k,LeO (z42_.f k a0 a1) (z42_.f (k+1) a0 a1):=by
 intro a0 a1 k
 have ih0:=z42_.mono_l k
 unfold z42_.f
 repeat' first
   | (with_reducible exact ih0 _ _ _)
   | (with_reducible exact LeO.refl _)
   | (with_reducible exact LeO.none _)
   | (with_reducible refine LeO.ite ?_ ?_)
   | (with_reducible refine LeO.bind ?_ (fun _=> ?_))
   | exact ih0 _ _ _
   | exact LeO.none _
   | refine LeO.ite ?_ ?_
   | refine LeO.bind ?_ (fun _=> ?_)
set_option maxHeartbeats 8000000 in
set_option maxRecDepth 100000 in
theorem z42_.calls (k:Nat) (a0:Int) (a1:Int) (r:ByteArray) (w:World) (h:z42_.f k a0 a1=some r) :
  Calls Try.prog 42 #[.int .i64 a0,.int .i64 a1] w fun e w' => e= .returned (.string r)∧Below w.heap.size w w' := by
 have HB:=qM_ (Below.refl w.heap.size w)
 have H:(if 0≤a1 then(if(a1:Int).toNat≤281474976710656 then(z42_.l0 k a0 (List.replicate (a1:Int).toNat 0) (wrap64 (a1 - 1)))else(none))else(none))=some r:=h
 clear h
 by_cases c3:0≤a1
 ·rw[if_pos c3]at H
  have c3b0:=eq_true c3;have c3b1:decide (0≤a1)=true:=decide_eq_true c3;clear c3;by_cases c4:(a1:Int).toNat≤281474976710656
  ·rw[if_pos c4]at H
   have c4b0:=eq_true c4;have c4b1:decide ((a1:Int).toNat≤281474976710656)=true:=decide_eq_true c4;clear c4
   obtain⟨y101,hy101⟩:∃ y_:List Int,y_=(List.replicate (a1:Int).toNat 0):=⟨_,rfl⟩
   replace H:(z42_.l0 k a0 y101 (wrap64 (a1 - 1)))=some r:=qh_ hy101 H;have Ny101:=qM_ hy101;clear hy101;have H' := qM_ H;clear H;go_enter Try.func42,Try.ntmps42
   go_wp2_with (first|((with_reducible refine gate_dst (N:=8) rfl ?_);refine Kd.R_make (Kd.int .u8) _ 5 rfl (N:=8) rfl 26 _ _ rfl a1 rfl rfl Try.underlying26 (.int .u8 0) 1 info5 rfl (by decide) (by omega) 0 (ok:=fun _=>True) (okp:=fun _=>True) rfl (fun _ hk=>hk) trivial (qd_) (Nat.le_trans (Nat.mul_le_mul_right _ (qd_:a1.toNat≤281474976710656)) (by omega)) (Below.refl _ _) (Nat.le_refl _) ?_;intro v102 w5 ho6 hb hg_ hnew_;clear hg_ hnew_;(first|rw[← Ny101.out]at ho6|(simp only[Int.reduceToNat]at ho6;rw[← Ny101.out]at ho6));have HO103:=qM_ (Kd.R_lower ho6 (below_size qBHB));replace HB:=qM_ (below_step qBHB hb);clear hb ho6))
   go_loopg [0,6] k (fun kq v0 v6 w' => ∃(x0_1:Int) (x5_1:List Int) (x6_1:Int),v0= .int .i64 x0_1∧v6= .int .i64 x6_1∧Aside0 (z42_.l0 kq x0_1 x5_1 x6_1=some r)∧Aside0 (kq≤k)∧Aside0 (Kd.R (Kd.int .u8) 5 w' w.heap.size (fun _=>True) v102 x5_1)∧Aside0 (Below w.heap.size w w'))
   case atStart=>exact⟨(a0),(y101),(wrap64 (a1 - 1)),qff_,qff_,H', ⟨Nat.le_refl _⟩,⟨qr_ HO103⟩,⟨qBHB⟩⟩
   case round =>
    clear H'
    try clear p2
    try clear c3
    try clear c3b0
    try clear c3b1
    try clear c4
    try clear c4b0
    try clear c4b1
    try clear p6
    obtain⟨x0_1,x5_1,x6_1,rfl,rfl,HA,HK1,HO_5,HB⟩:=hrel
    cases gk with
    | zero=>exact absurd HA.out (by simp[z42_.l0])
    | succ k1 =>
     have H:=HA.out;clear HA;simp only[z42_.l0]at H;by_cases c7:x6_1≥0
     ·rw[if_pos c7]at H
      have c7b0:decide (0≤x6_1)=true:=decide_eq_true c7;clear c7;by_cases c8:0≤x6_1
      ·rw[if_pos c8]at H
       have c8b0:decide (0≤x6_1)=true:=decide_eq_true c8;clear c8;by_cases c9:x6_1 < (x5_1.length:Int)
       ·rw[if_pos c9]at H
        have c9b0:decide (x6_1 < (x5_1.length:Int))=true:=decide_eq_true c9;clear c9
        obtain⟨y104,hy104⟩:∃ y_:List Int,y_=(x5_1.set (x6_1:Int).toNat ((x0_1) % 256)):=⟨_,rfl⟩
        replace H:(z42_.l0 k1 (x0_1 / 256) y104 (wrap64 (x6_1 - 1)))=some r:=qh_ hy104 H;have Ny104:=qM_ hy104;clear hy104;have H' := qM_ H;clear H;have p10:0≤(x6_1:Int):=qd_;have q10:(x6_1:Int) < ((x5_1.length:Int):Int):=qd_;obtain⟨go10,co10,eo10,gb10,gl10,cl10,HG10⟩:=Kd.R_form HO_5.out (by omega)
        (first|cases eo10|(injection eo10 with ea_ en_ ec_;(first|subst ea_|(injection ea_ with ea_;subst ea_));subst ec_;clear en_))
        have GB10:=qM_ gb10;have GG10:=qM_ HG10;clear gb10 gl10 HG10;obtain⟨hx10_0,hf10_0⟩:=Kd.R_celln 0 HO_5.out (x6_1:Int) p10 q10;replace p10:=eq_true p10;replace q10:=eq_true q10;have HP11:=Kd.R_putg HO_5.out (x6_1:Int) ((x0_1) % 256)
        go_wp2_with (first|((with_reducible refine gate_store (t:=5) (p:=19) rfl ?_);refine store_event (t:=5) (p:=19) (v:= ?vo_w12) (w1:=(wr.setCell ⟨go10,(x6_1:Int).toNat,none⟩ (.int .u8 ((x0_1) % 256)))) ?hg ?ho ?hn ?hr ?_;(case ho=>rfl);(case hg=>rfl);(case hn=>rfl);(case hr=>first|(go_simp;done)|(go_simp;rfl));intro w12 hw;have hg:wr.grownBy w12 (some go10):=(by rw[hw];exact HP11.2);have hp_:Kd.R (Kd.int .u8) 5 w12 w.heap.size (fun _=>True) (.slice (some ⟨go10,0,none⟩) x5_1.length co10) y104:=(by rw[hw,Ny104.out];exact HP11.1);clear HP11;replace HO_5:=qM_ (hp_);replace HB:=qM_ ((by rw[hw];exact below_set (HB.out) GB10.out:Below w.heap.size w w12));clear hg hw hp_))
        go_roundg k1
        case measure=>have:=HK1.out;omega
        case rel=>exact⟨(x0_1 / 256),(y104),(wrap64 (x6_1 - 1)),qff_,qff_,H', ⟨by have:=HK1.out;omega⟩,⟨qr_ HO_5⟩,⟨qBHB⟩⟩
       ·rw[if_neg c9]at H
        exact absurd H (by simp)
      ·rw[if_neg c8]at H
       exact absurd H (by simp)
     ·rw[if_neg c7]at H
      have c7b0:decide (0≤x6_1)=false:=decide_eq_false c7;clear c7;obtain rfl:=Option.some.inj H;have hcv13:=own_string (P:=Try.prog) Try.underlying26 Try.underlying5 Try.underlying9 (Kd.own_of_R HO_5.out)
      go_wp2
      go_ret;exact⟨qee_,qBHB⟩
  ·rw[if_neg c4]at H
   exact absurd H (by simp)
 ·rw[if_neg c3]at H
  exact absurd H (by simp)


/-! ### z43_: function 43 (a text of mine) -/
section
open Go.Shelf
def sh43_lays169_ren:Go.Shelf.Ren:=⟨fun|169=>43|n=>n,fun|70=>63|9=>9|0=>0|72=>65|37=>26|127=>89|3=>3|5=>5|n=>n,fun|n=>n⟩
theorem sh43_lays169:Go.Proofs.Lays.n169 Try.prog sh43_lays169_ren:={
 mixed:=by kernel_rfl
 f169:=Try.func43.trans (congrArg some qK)
 t0:=Try.underlying0
 a0:=Try.isAgg0
 z0:=Try.sizeOf0
 v0:=Try.zeroValue0
 t3:=Try.underlying3
 a3:=Try.isAgg3
 z3:=Try.sizeOf3
 v3:=Try.zeroValue3
 t9:=Try.underlying9
 a9:=Try.isAgg9
 z9:=Try.sizeOf9
 v9:=Try.zeroValue9
 t37:=Try.underlying26
 a37:=Try.isAgg26
 z37:=Try.sizeOf26
 v37:=Try.zeroValue26
 t70:=Try.underlying63
 a70:=Try.isAgg63
 z70:=Try.sizeOf63
 v70:=Try.zeroValue63
 t72:=Try.underlying65
 a72:=Try.isAgg65
 z72:=Try.sizeOf65
 v72:=Try.zeroValue65
 t127:=Try.underlying89
 a127:=Try.isAgg89
 z127:=Try.sizeOf89
 v127:=Try.zeroValue89 }
theorem sh43_Builder_Extra_169:Builder.Extra Try.prog sh43_lays169_ren:={
 sizeBuilder:=by kernel_rfl
 liesBuilder:=by kernel_rfl
 t5:=Try.underlying5
 a5:=Try.isAgg5
 z5:=Try.sizeOf5
 v5:=Try.zeroValue5
 infoByte:=by kernel_rfl
 cellsByte:=by kernel_rfl
 sizeByte:=by kernel_rfl
 neB5:=by decide }
open Go.RowKit in
theorem sh43_Builder_String_any (B b:Nat) (l:List UInt8) (w:World) (h:Lib.IsBuilder 65 5 B b (Lib.byteCells l) w) (hBw:B≤w.heap.size) :
  Calls Try.prog 43 #[.pointer (some ⟨b,0,none⟩)] w fun e w' => e= .returned (.string ⟨l.toArray⟩)∧Below B w w' := Any.Builder_String_any sh43_lays169 sh43_Builder_Extra_169 B b l w h hBw
end
theorem bString (B b:Nat) (l:List UInt8) (w:World) (h:Lib.IsBuilder 65 5 B b (Lib.byteCells l) w) (hBw:B≤w.heap.size) :
  Calls Try.prog 43 #[.pointer (some ⟨b,0,none⟩)] w fun e w' => e= .returned (.string ⟨l.toArray⟩)∧Below B w w' := sh43_Builder_String_any B b l w h hBw

end Go.Proofs.Ytbjefkeogbophaa.P
