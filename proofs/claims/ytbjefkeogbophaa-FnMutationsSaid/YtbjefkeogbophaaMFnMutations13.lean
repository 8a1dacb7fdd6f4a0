/- Part 13 of what the law FnMutations stands on; the last part ends with the law's row. No condition of mine. -/
import Derived.Test.YtbjefkeogbophaaMFnMutations1
import Derived.Test.YtbjefkeogbophaaMFnMutations12
namespace Go.Proofs.Ytbjefkeogbophaa.P
open Go.RowKit Go.Proofs.YtbjefkeogbophaaW.PrintWords Go.Proofs.YtbjefkeogbophaaW.PrintLast Go.Proofs.YtbjefkeogbophaaW.PrintMore
attribute [local go_sem] max2_int min2_int max_two min_two max_three min_three max_four min_four   -- for this text's walks alone
set_option linter.unusedVariables false
set_option linter.unusedSimpArgs false

/-! ### z34_: function 34 -/
mutual
def z34_.j0:Nat→ByteArray→Bool→Option (Int × Int × Int × Int × ByteArray × (List (S54)) × Bool)
 | 0,_,_=>none
 | k+1,x0,x20=>if x20=true then(some (0,0,0,0,(⟨#[]⟩:ByteArray),([]:List (S54)),false))else(if 4 < (x0.size:Int)then(if 0 < (x0.size:Int)then(if 1 < (x0.size:Int)then(if 2 < (x0.size:Int)then(if 5≤7 then(if 7≤(x0.size:Int)then((z57_.f k (x0.extract 5 7)).bind fun t102=>(if 7≤(wrap64 (7+(wrap64 (bt x0 4))))then(if(wrap64 (7+(wrap64 (bt x0 4))))≤(x0.size:Int)then(if 3 < (x0.size:Int)then(z34_.l0 k x0 (wrap64 (7+(wrap64 (bt x0 4)))) (wrap64 (bt x0 3)) (wrap64 (bt x0 0)) t102 (wrap64 (bt x0 1)) (wrap64 (bt x0 2)) (x0.extract 7 ((wrap64 (7+(wrap64 (bt x0 4)))):Int).toNat) (([]:List (S54))))else(none))else(none))else(none)))else(none))else(none))else(none))else(none))else(none))else(none))
def z34_.l0:Nat→ByteArray→Int→Int→Int→Int→Int→Int→ByteArray→List (S54)→Option (Int × Int × Int × Int × ByteArray × (List (S54)) × Bool)
 | 0,_,_,_,_,_,_,_,_,_=>none
 | k+1,x0,x4,x6,x107000,x107001,x107002,x107003,x107004,x107005=>if x6 > 0 then(if(wrap64 (x4+4)) > (x0.size:Int)then(some (0,0,0,0,(⟨#[]⟩:ByteArray),([]:List (S54)),false))else(if 0≤x4 then(if x4≤(wrap64 (x4+2))then(if(wrap64 (x4+2))≤(x0.size:Int)then((z57_.f k (x0.extract (x4:Int).toNat ((wrap64 (x4+2)):Int).toNat)).bind fun t108=>(if 0≤(wrap64 (x4+2))then(if(wrap64 (x4+2))≤(wrap64 (x4+4))then(if(wrap64 (x4+4))≤(x0.size:Int)then((z57_.f k (x0.extract ((wrap64 (x4+2)):Int).toNat ((wrap64 (x4+4)):Int).toNat)).bind fun t109=>(if(wrap64 ((wrap64 ((wrap64 (x4+4))+t108))+t109)) > (x0.size:Int)then(some (0,0,0,0,(⟨#[]⟩:ByteArray),([]:List (S54)),false))else(if 0≤(wrap64 (x4+4))then(if(wrap64 (x4+4))≤(wrap64 ((wrap64 (x4+4))+t108))then(if(wrap64 ((wrap64 (x4+4))+t108))≤(x0.size:Int)then(if 0≤(wrap64 ((wrap64 (x4+4))+t108))then(if(wrap64 ((wrap64 (x4+4))+t108))≤(wrap64 ((wrap64 ((wrap64 (x4+4))+t108))+t109))then(if(wrap64 ((wrap64 ((wrap64 (x4+4))+t108))+t109))≤(x0.size:Int)then(if x107005.length < 4398046511104 then(z34_.l0 k x0 (wrap64 ((wrap64 (x4+4))+(wrap64 (t108+t109)))) (wrap64 (x6 - 1)) x107000 x107001 x107002 x107003 x107004 (x107005 ++ [(⟨x0.extract ((wrap64 (x4+4)):Int).toNat ((wrap64 ((wrap64 (x4+4))+t108)):Int).toNat,x0.extract ((wrap64 ((wrap64 (x4+4))+t108)):Int).toNat ((wrap64 ((wrap64 ((wrap64 (x4+4))+t108))+t109)):Int).toNat⟩:S54)]))else(none))else(none))else(none))else(none))else(none))else(none))else(none))))else(none))else(none))else(none)))else(none))else(none))else(none)))else(if x4=(x0.size:Int)then((z20_.f k x107000 x107001 x107002 x107003 x107004 x107005).bind fun t107=>(some (x107000,x107001,x107002,x107003,x107004,x107005,t107)))else(some (x107000,x107001,x107002,x107003,x107004,x107005,false)))
end
def z34_.f (k:Nat) (a0:ByteArray):Option (Int × Int × Int × Int × ByteArray × (List (S54)) × Bool):=if(a0.size:Int) < 7 then(z34_.j0 k a0 true)else(if 4 < (a0.size:Int)then(z34_.j0 k a0 (decide ((a0.size:Int) < (wrap64 (7+(wrap64 (bt a0 4)))))))else(none))
theorem z34_.mono_l:∀ k,(∀ y0 y1,LeO (z34_.j0 k y0 y1) (z34_.j0 (k+1) y0 y1))∧(∀ y0 y1 y2 y3 y4 y5 y6 y7 y8,LeO (z34_.l0 k y0 y1 y2 y3 y4 y5 y6 y7 y8) (z34_.l0 (k+1) y0 y1 y2 y3 y4 y5 y6 y7 y8))
 | 0=>⟨fun _ _ r h=>by simp[z34_.j0]at h,fun _ _ _ _ _ _ _ _ _ r h=>by simp[z34_.l0]at h⟩
 | k+1=>by
  obtain⟨ih0,ih1⟩:=z34_.mono_l k;refine⟨?_,?_⟩
  ·intro y0 y1
   unfold z34_.j0
   repeat' first
   | (with_reducible exact ih0 _ _)
   | (with_reducible exact ih1 _ _ _ _ _ _ _ _ _)
   | (with_reducible exact z20_.mono _ _ _ _ _ _ _)
   | (with_reducible exact z57_.mono _ _)
   | (with_reducible exact LeO.refl _)
   | (with_reducible exact LeO.none _)
   | (with_reducible refine LeO.ite ?_ ?_)
   | (with_reducible refine LeO.bind ?_ (fun _=> ?_))
   | exact ih0 _ _
   | exact ih1 _ _ _ _ _ _ _ _ _
   | exact z20_.mono _ _ _ _ _ _ _
   | exact z57_.mono _ _
   | exact LeO.none _
   | refine LeO.ite ?_ ?_
   | refine LeO.bind ?_ (fun _=> ?_)
  ·intro y0 y1 y2 y3 y4 y5 y6 y7 y8
   unfold z34_.l0
   repeat' first
   | (with_reducible exact ih0 _ _)
   | (with_reducible exact ih1 _ _ _ _ _ _ _ _ _)
   | (with_reducible exact z20_.mono _ _ _ _ _ _ _)
   | (with_reducible exact z57_.mono _ _)
   | (with_reducible exact LeO.refl _)
   | (with_reducible exact LeO.none _)
   | (with_reducible refine LeO.ite ?_ ?_)
   | (with_reducible refine LeO.bind ?_ (fun _=> ?_))
   | exact ih0 _ _
   | exact ih1 _ _ _ _ _ _ _ _ _
   | exact z20_.mono _ _ _ _ _ _ _
   | exact z57_.mono _ _
   | exact LeO.none _
   | refine LeO.ite ?_ ?_
   | refine LeO.bind ?_ (fun _=> ?_)
theorem z34_.mono:∀ a0 k,LeO (z34_.f k a0) (z34_.f (k+1) a0):=by
 intro a0 k
 obtain⟨ih0,ih1⟩:=z34_.mono_l k
 unfold z34_.f
 repeat' first
   | (with_reducible exact ih0 _ _)
   | (with_reducible exact ih1 _ _ _ _ _ _ _ _ _)
   | (with_reducible exact z20_.mono _ _ _ _ _ _ _)
   | (with_reducible exact z57_.mono _ _)
   | (with_reducible exact LeO.refl _)
   | (with_reducible exact LeO.none _)
   | (with_reducible refine LeO.ite ?_ ?_)
   | (with_reducible refine LeO.bind ?_ (fun _=> ?_))
   | exact ih0 _ _
   | exact ih1 _ _ _ _ _ _ _ _ _
   | exact z20_.mono _ _ _ _ _ _ _
   | exact z57_.mono _ _
   | exact LeO.none _
   | refine LeO.ite ?_ ?_
   | refine LeO.bind ?_ (fun _=> ?_)
def z34_.T4:Bool × List (List Nat × List Nat):=(true,[([],[]),([0],[0]),([1],[1]),([],[]),([3],[3]),([4],[4]),([],[]),([6],[6]),([7],[7]),([],[]),([9],[9]),([10],[10]),([],[]),([],[]),([12,13],[12,13]),([],[]),([2,5,8,11,14,15],[2,5,8,11,14,15]),([],[]),([17,16,11,0,1,2,3,4,5,6,7,8,9,10,11,12,13,14,15,16,17],[16,17])])
def z34_.B4:List Nat:=[0,1,3,0,8,24,0,64,192,0,512,1536,0,0,12288,0,65535,0,262143]
theorem z34_.tab4:rtab .any (opsOf Try.f34 4)=z34_.T4:=by kernel_rfl
theorem z34_.bits4:waitsOk z34_.T4.2 z34_.B4=true:=by kernel_rfl
def z34_.T15:Bool × List (List Nat × List Nat):=(true,[([],[]),([0],[0]),([],[]),([],[]),([],[]),([],[]),([4,5],[4,5]),([2,3,6],[2,3,6]),([],[]),([],[]),([],[]),([9,10],[9,10]),([],[]),([],[]),([12,13],[12,13]),([],[]),([14,15],[14,15]),([8,11,16],[8,11,16]),([7,17],[7,17]),([18],[18]),([1,19],[1,19]),([0,1,2,3,4,5,6,7,8,9,10,11,12,13,14,15,16,17,18,19,20],[]),([21,20,20,0,1,2,3,4,5,6,7,8,9,10,11,12,13,14,15,16,17,18,19,20],[20,21])])
def z34_.B15:List Nat:=[0,1,0,0,0,0,48,124,0,0,0,1536,0,0,12288,0,61440,130816,262140,524284,1048575,2097151,4194303]
theorem z34_.tab15:rtab .any (opsOf Try.f34 15)=z34_.T15:=by kernel_rfl
theorem z34_.bits15:waitsOk z34_.T15.2 z34_.B15=true:=by kernel_rfl
def z34_.T17:Bool × List (List Nat × List Nat):=(true,[([],[]),([],[]),([],[]),([2],[2]),([1,3],[1,3]),([4],[4]),([5],[5]),([6,5,5],[5,6]),([5,7],[5,7]),([0,7,0],[0]),([8,9,0,1,2,3,4,5,6,7,8,9],[8])])
def z34_.B17:List Nat:=[0,0,0,4,14,30,62,126,254,255,1023]
theorem z34_.tab17:rtab .any (opsOf Try.f34 17)=z34_.T17:=by kernel_rfl
theorem z34_.bits17:waitsOk z34_.T17.2 z34_.B17=true:=by kernel_rfl
abbrev z34_.b0:Array Value:=#[.int .i64 0,.int .i64 0,.int .i64 0,.int .i64 0,.string (⟨#[]⟩:ByteArray),.slice none 0 0]
set_option maxHeartbeats 8000000 in
set_option maxRecDepth 100000 in
theorem z34_.calls (k:Nat) (a0:ByteArray) (r1:Int) (r2:Int) (r3:Int) (r4:Int) (r5:ByteArray) (r6:List (S54)) (r7:Bool) (w:World) (h:z34_.f k a0=some (r1,r2,r3,r4,r5,r6,r7)) :
  Calls Try.prog 34 #[.string a0] w fun e w' => ∃ v5_:Value,e= .returned (.tuple #[.agg #[.int .i64 r1,.int .i64 r2,.int .i64 r3,.int .i64 r4,.string r5,v5_],.bool r7])∧Kd.R k54 54 w' w.heap.size (fun _=>True) v5_ r6∧Below w.heap.size w w' := by
 have hu31:=Try.underlying31
 have hu54:=Try.underlying54
 have HB:=qM_ (Below.refl w.heap.size w)
 have H:(if(a0.size:Int) < 7 then(z34_.j0 k a0 true)else(if 4 < (a0.size:Int)then(z34_.j0 k a0 (decide ((a0.size:Int) < (wrap64 (7+(wrap64 (bt a0 4)))))))else(none)))=some (r1,r2,r3,r4,r5,r6,r7):=h
 clear h
 have HC2:=qM_ H
 clear H
 go_enter Try.func34,Try.ntmps34
 go_upto_region 1 with (first|((with_reducible refine gate_dst (N:=2) rfl ?_);(try(refine gate_guard (by rfl) ?_;dsimp only));refine box_event ?hg (N:=2) ?hd (cs:=z34_.b0) (t:=31) ?hr ?_;(case hd=>rfl);(case hg=>rfl);(case hr=>first|(go_simp;done)|(go_simp;rfl));intro gb101 hg w3 hbox hb;have BK101:=qM_ (hbox);have GW101:=qM_ ((by rw[hg];exact(below_size qBHB):w.heap.size≤gb101));have GE101:=qM_ ((by rw[hg];exact(below_size qBHB):w.heap.size≤gb101));replace HB:=qM_ (below_step qBHB hb);clear hb hbox hg))
 (try simp only[Act.put,List.setIfInBounds_toArray,List.set_cons_zero,List.set_cons_succ])
 go_cut [20] (fun v20 wc=>∃(kq:Nat) (x20_1:Bool),v20= .bool x20_1∧Aside0 (z34_.j0 kq a0 x20_1=some (r1,r2,r3,r4,r5,r6,r7))∧Aside0 (kq≤k)∧Aside0 (wc.heap[gb101]? = some (.cells #[.int .i64 0,.int .i64 0,.int .i64 0,.int .i64 0,.string (⟨#[]⟩:BA_),(.slice none 0 0)] 31 (0,0)))∧Aside0 (Below w.heap.size w wc))
 case first =>
  have H:=HC2.out;clear HC2;by_cases c4:(a0.size:Int) < 7
  ·rw[if_pos c4]at H
   have c4b0:decide ((a0.size:Int) < 7)=true:=decide_eq_true c4;have c4b1:decide (a0.size < 7)=true:=decide_eq_true (by omega);clear c4
   (first|rw[c4b0]|(simp only[i64_w,i32_w];rw[c4b0])|skip)
   have H' := qM_ H;clear H
   go_wp2
   go_meet
   case rel=>exact⟨_,(true),qff_,H', ⟨by first|omega|exact Nat.le_refl _⟩,⟨qk_ BK101⟩,⟨qBHB⟩⟩
  ·rw[if_neg c4]at H
   have c4b0:decide ((a0.size:Int) < 7)=false:=decide_eq_false c4;have c4b1:decide (a0.size < 7)=false:=decide_eq_false (by omega);clear c4
   (first|rw[c4b0]|(simp only[i64_w,i32_w];rw[c4b0])|skip)
   by_cases c5:4 < (a0.size:Int)
   ·rw[if_pos c5]at H
    have c5b0:decide (4 < (a0.size:Int))=true:=decide_eq_true c5;have c5b1:decide (4 < a0.size)=true:=decide_eq_true (by omega);clear c5;have H' := qM_ H;clear H;have p6:0≤(4:Int):=(by omega);have q6:4 < a0.size:=(by have:(4:Int) < (a0.size:Int):=qd_;omega)
    have hx6:∀ h:4 < a0.size,((a0[4]'h).toNat:Int)=bt a0 4:=bt_at a0 4
    clear p6;have qi6:(4 < (a0.size:Int))=True:=eq_true (qd_);replace q6:=eq_true q6
    go_wp2
    go_meet
    case rel=>exact⟨_,(decide ((a0.size:Int) < (wrap64 (7+(wrap64 (bt a0 4)))))),qff_,H', ⟨by first|omega|exact Nat.le_refl _⟩,⟨qk_ BK101⟩,⟨qBHB⟩⟩
   ·rw[if_neg c5]at H
    exact absurd H (by simp)
 case rest =>
  clear HC2
  try clear p2
  try clear c3
  try clear c4
  try clear c4b0
  try clear c4b1
  try clear c5
  try clear c5b0
  try clear c5b1
  try clear p6
  try clear q6
  try clear hx6
  try clear qi6
  try clear p6
  try clear q6
  obtain⟨kq,x20_1,rfl,HA,HJ1,BK101,HB⟩:=hcut
  cases kq with
  | zero=>exact absurd HA.out (by simp[z34_.j0])
  | succ kj1 =>
   have H:=HA.out;clear HA;simp only[z34_.j0]at H;by_cases c7:x20_1=true
   ·subst c7
    have H1:(some (0,0,0,0,(⟨#[]⟩:BA_),([]:List (S54)),false))=some (r1,r2,r3,r4,r5,r6,r7):=by rw[if_pos rfl]at H;exact H
    clear H;have H:=H1;clear H1;simp only[Option.some.injEq,Prod.mk.injEq]at H;obtain⟨rfl,rfl,rfl,rfl,rfl,rfl,rfl⟩:=H;obtain⟨hcz8_0,hcz8_1,hcz8_2,hcz8_3,hcz8_4,hcz8_5,hfz8_0⟩:=qc6_ BK101
    go_wp2
    refine bodyPost_ret (results_ct rfl _ _ gb101 31 z34_.b0 (0,0) _ rfl (by(with_reducible repeat(first|refine blk_drewN ?_ _|refine blk_drew ?_|refine blk_alloc ?_ _));refine blk_put (cs:=z34_.b0) ?_ 5 _ rfl;(with_reducible repeat(first|refine blk_drewN ?_ _|refine blk_drew ?_|refine blk_alloc ?_ _));refine blk_put (cs:=z34_.b0) ?_ 4 _ rfl;(with_reducible repeat(first|refine blk_drewN ?_ _|refine blk_drew ?_|refine blk_alloc ?_ _));refine blk_put (cs:=z34_.b0) ?_ 3 _ rfl;(with_reducible repeat(first|refine blk_drewN ?_ _|refine blk_drew ?_|refine blk_alloc ?_ _));refine blk_put (cs:=z34_.b0) ?_ 2 _ rfl;(with_reducible repeat(first|refine blk_drewN ?_ _|refine blk_drew ?_|refine blk_alloc ?_ _));refine blk_put (cs:=z34_.b0) ?_ 1 _ rfl;(with_reducible repeat(first|refine blk_drewN ?_ _|refine blk_drew ?_|refine blk_alloc ?_ _));refine blk_put (cs:=z34_.b0) ?_ 0 _ rfl;(with_reducible repeat(first|refine blk_drewN ?_ _|refine blk_drew ?_|refine blk_alloc ?_ _));exact BK101.out) Try.underlying31 rfl qK) rfl ?_;exact⟨_,qee_,by first|exact Kd.R_nil _ _ _ _ _|exact Kd.N_nil _ _ _ _ _|exact Kd.V_nil _ _ _ _ _|exact Kd.Q_nil _ _ _ _ _|exact Kd.S_nil _ _ _ _ _,qBHB⟩
   ·replace c7:=Bool.eq_false_iff.mpr c7
    subst c7
    have H1:(if 4 < (a0.size:Int)then(if 0 < (a0.size:Int)then(if 1 < (a0.size:Int)then(if 2 < (a0.size:Int)then(if 5≤7 then(if 7≤(a0.size:Int)then((z57_.f kj1 (a0.extract 5 7)).bind fun t102=>(if 7≤(wrap64 (7+(wrap64 (bt a0 4))))then(if(wrap64 (7+(wrap64 (bt a0 4))))≤(a0.size:Int)then(if 3 < (a0.size:Int)then(z34_.l0 kj1 a0 (wrap64 (7+(wrap64 (bt a0 4)))) (wrap64 (bt a0 3)) (wrap64 (bt a0 0)) t102 (wrap64 (bt a0 1)) (wrap64 (bt a0 2)) (a0.extract 7 ((wrap64 (7+(wrap64 (bt a0 4)))):Int).toNat) (([]:List (S54))))else(none))else(none))else(none)))else(none))else(none))else(none))else(none))else(none))else(none))=some (r1,r2,r3,r4,r5,r6,r7):=by rw[if_neg (show ¬(false=true)by decide)]at H;exact H
    clear H;have H:=H1;clear H1;by_cases c9:4 < (a0.size:Int)
    ·rw[if_pos c9]at H
     have c9b0:decide (4 < (a0.size:Int))=true:=decide_eq_true c9;have c9b1:decide (4 < a0.size)=true:=decide_eq_true (by omega);clear c9;by_cases c11:0 < (a0.size:Int)
     ·rw[if_pos c11]at H
      have c11b0:decide (0 < (a0.size:Int))=true:=decide_eq_true c11;have c11b1:decide (0 < a0.size)=true:=decide_eq_true (by omega);clear c11;by_cases c13:1 < (a0.size:Int)
      ·rw[if_pos c13]at H
       have c13b0:decide (1 < (a0.size:Int))=true:=decide_eq_true c13;have c13b1:decide (1 < a0.size)=true:=decide_eq_true (by omega);clear c13;by_cases c15:2 < (a0.size:Int)
       ·rw[if_pos c15]at H
        have c15b0:decide (2 < (a0.size:Int))=true:=decide_eq_true c15;have c15b1:decide (2 < a0.size)=true:=decide_eq_true (by omega);clear c15;by_cases c17:5≤7
        ·rw[if_pos c17]at H
         have c17b0:=eq_true c17;have c17b1:decide (5≤7)=true:=decide_eq_true c17;clear c17;by_cases c18:7≤(a0.size:Int)
         ·rw[if_pos c18]at H
          have c18b0:=eq_true c18;have c18b1:decide (7≤(a0.size:Int))=true:=decide_eq_true c18;clear c18;replace H:=Option.bind_eq_some_iff.mp H;obtain⟨t102,A190,H⟩:=H;have A19:=qM_ A190;clear A190;by_cases c20:7≤(wrap64 (7+(wrap64 (bt a0 4))))
          ·rw[if_pos c20]at H
           have c20b0:=eq_true c20;have c20b1:decide (7≤(wrap64 (7+(wrap64 (bt a0 4)))))=true:=decide_eq_true c20;by_cases c21:(wrap64 (7+(wrap64 (bt a0 4))))≤(a0.size:Int)
           ·rw[if_pos c21]at H
            have c21b0:=eq_true c21;have c21b1:decide ((wrap64 (7+(wrap64 (bt a0 4))))≤(a0.size:Int))=true:=decide_eq_true c21
            obtain⟨y103,hy103⟩:∃ y_:List (S54),y_=(([]:List (S54))):=⟨_,rfl⟩
            replace H:(if 3 < (a0.size:Int)then(z34_.l0 kj1 a0 (wrap64 (7+(wrap64 (bt a0 4)))) (wrap64 (bt a0 3)) (wrap64 (bt a0 0)) t102 (wrap64 (bt a0 1)) (wrap64 (bt a0 2)) (a0.extract 7 ((wrap64 (7+(wrap64 (bt a0 4)))):Int).toNat) y103)else(none))=some (r1,r2,r3,r4,r5,r6,r7):=qh_ hy103 H;have Ny103:=qM_ hy103;clear hy103;by_cases c22:3 < (a0.size:Int)
            ·rw[if_pos c22]at H
             have c22b0:decide (3 < (a0.size:Int))=true:=decide_eq_true c22;have c22b1:decide (3 < a0.size)=true:=decide_eq_true (by omega);clear c22;have H' := qM_ H;clear H;have p10:0≤(4:Int):=(by omega);have q10:4 < a0.size:=(by have:(4:Int) < (a0.size:Int):=qd_;omega)
             have hx10:∀ h:4 < a0.size,((a0[4]'h).toNat:Int)=bt a0 4:=bt_at a0 4
             clear p10;have qi10:(4 < (a0.size:Int))=True:=eq_true (qd_);replace q10:=eq_true q10
             try go_wp2
             replace BK101:=qM_ (blk_drew BK101.out);replace HB:=qM_ (qE_ HB.out);have p12:0≤(0:Int):=(by omega);have q12:0 < a0.size:=(by have:(0:Int) < (a0.size:Int):=qd_;omega)
             have hx12:∀ h:0 < a0.size,((a0[0]'h).toNat:Int)=bt a0 0:=bt_at a0 0
             clear p12;have qi12:(0 < (a0.size:Int))=True:=eq_true (qd_);replace q12:=eq_true q12;have p14:0≤(1:Int):=(by omega);have q14:1 < a0.size:=(by have:(1:Int) < (a0.size:Int):=qd_;omega)
             have hx14:∀ h:1 < a0.size,((a0[1]'h).toNat:Int)=bt a0 1:=bt_at a0 1
             clear p14;have qi14:(1 < (a0.size:Int))=True:=eq_true (qd_);replace q14:=eq_true q14;have p16:0≤(2:Int):=(by omega);have q16:2 < a0.size:=(by have:(2:Int) < (a0.size:Int):=qd_;omega)
             have hx16:∀ h:2 < a0.size,((a0[2]'h).toNat:Int)=bt a0 2:=bt_at a0 2
             clear p16;have qi16:(2 < (a0.size:Int))=True:=eq_true (qd_);replace q16:=eq_true q16
             refine start_ (n:=19) (S:=fun w' => True) (ds:=[]) #[qF,qF,qF,qF,qF,qF,qF,qF,qF,qF,qF,qF,qF,qF,qF,qF,qF,qF,qF] qK rfl rfl trivial (fun hHeld=> ?_);refine with_tabW z34_.tab4 z34_.bits4 (fun HT_ HW_=> ?_)
             generalize wc.drew=w24 at BK101 HB hHeld ⊢;refine pure_ (i:=0) (N:=some 26) (v:= ?_) (a' := ?_) #[qT,qF,qF,qF,qF,qF,qF,qF,qF,qF,qF,qF,qF,qF,qF,qF,qF,qF,qF] rfl rfl (any_of HT_.out qK) (fun _ _ _ h=>h) (Or.inl ⟨by rfl,?_⟩) ?_ ?_;rotate_left
             ·intro w'
              go_simp;with_reducible rfl
             rotate_left
             ·simp only[Act.put,qS_,qW_]
              rfl
             refine pure_ (i:=3) (N:=some 29) (v:= ?_) (a' := ?_) #[qT,qF,qF,qT,qF,qF,qF,qF,qF,qF,qF,qF,qF,qF,qF,qF,qF,qF,qF] rfl rfl (any_of HT_.out qK) (fun _ _ _ h=>h) (Or.inl ⟨by rfl,?_⟩) ?_ ?_;rotate_left
             ·intro w'
              go_simp;with_reducible rfl
             rotate_left
             ·simp only[Act.put,qS_,qW_]
              rfl
             refine pure_ (i:=6) (N:=some 32) (v:= ?_) (a' := ?_) #[qT,qF,qF,qT,qF,qF,qT,qF,qF,qF,qF,qF,qF,qF,qF,qF,qF,qF,qF] rfl rfl (any_of HT_.out qK) (fun _ _ _ h=>h) (Or.inl ⟨by rfl,?_⟩) ?_ ?_;rotate_left
             ·intro w'
              go_simp;with_reducible rfl
             rotate_left
             ·simp only[Act.put,qS_,qW_]
              rfl
             refine pure_ (i:=9) (N:=some 35) (v:= ?_) (a' := ?_) #[qT,qF,qF,qT,qF,qF,qT,qF,qF,qT,qF,qF,qF,qF,qF,qF,qF,qF,qF] rfl rfl (any_of HT_.out qK) (fun _ _ _ h=>h) (Or.inl ⟨by rfl,?_⟩) ?_ ?_;rotate_left
             ·intro w'
              go_simp;with_reducible rfl
             rotate_left
             ·simp only[Act.put,qS_,qW_]
              rfl
             refine pure_ (i:=10) (N:=some 36) (v:= ?_) (a' := ?_) #[qT,qF,qF,qT,qF,qF,qT,qF,qF,qT,qT,qF,qF,qF,qF,qF,qF,qF,qF] rfl rfl (any_of HT_.out qK) (fun _ _ _ h=>h) (Or.inl ⟨by rfl,?_⟩) ?_ ?_;rotate_left
             ·intro w'
              go_simp;with_reducible rfl
             rotate_left
             ·simp only[Act.put,qS_,qW_]
              rfl
             refine pure_ (i:=12) (N:=some 38) (v:= ?_) (a' := ?_) #[qT,qF,qF,qT,qF,qF,qT,qF,qF,qT,qT,qF,qT,qF,qF,qF,qF,qF,qF] rfl rfl (any_of HT_.out qK) (fun _ _ _ h=>h) (Or.inl ⟨by rfl,?_⟩) ?_ ?_;rotate_left
             ·intro w'
              go_simp;with_reducible rfl
             rotate_left
             ·simp only[Act.put,qS_,qW_]
              rfl
             refine pure_ (i:=13) (N:=some 39) (v:= ?_) (a' := ?_) #[qT,qF,qF,qT,qF,qF,qT,qF,qF,qT,qT,qF,qT,qT,qF,qF,qF,qF,qF] rfl rfl (any_of HT_.out qK) (fun _ _ _ h=>h) (Or.inl ⟨by rfl,?_⟩) ?_ ?_;rotate_left
             ·intro w'
              go_simp;with_reducible rfl
             rotate_left
             ·simp only[Act.put,qS_,qW_]
              rfl
             refine pure_ (i:=14) (N:=some 40) (v:= ?_) (a' := ?_) #[qT,qF,qF,qT,qF,qF,qT,qF,qF,qT,qT,qF,qT,qT,qT,qF,qF,qF,qF] rfl rfl (any_of HT_.out qK) (fun _ _ _ h=>h) (Or.inl ⟨by rfl,?_⟩) ?_ ?_;rotate_left
             ·intro w'
              go_simp;with_reducible rfl
             rotate_left
             ·simp only[Act.put,qS_,qW_]
              rfl
             refine take_ (i:=1) (N:=some 27) (v:= ?_) (a' := ?_) #[qT,qT,qF,qT,qF,qF,qT,qF,qF,qT,qT,qF,qT,qT,qT,qF,qF,qF,qF] rfl rfl (take_ofW HT_.out HW_.out qK) (fun _ _ _ h=>h) (Or.inl ⟨by rfl,?_⟩) hHeld ?_ ?_;rotate_left
             ·intro w' _
              go_simp;with_reducible rfl
             rotate_left
             ·simp only[Act.put,qS_,qW_]
              rfl
             refine pure_ (i:=2) (N:=some 28) (v:= ?_) (a' := ?_) #[qT,qT,qT,qT,qF,qF,qT,qF,qF,qT,qT,qF,qT,qT,qT,qF,qF,qF,qF] rfl rfl (any_of HT_.out qK) (fun _ _ _ h=>h) (Or.inl ⟨by rfl,?_⟩) ?_ ?_;rotate_left
             ·intro w'
              go_simp;with_reducible rfl
             rotate_left
             ·simp only[Act.put,qS_,qW_]
              rfl
             refine take_ (i:=4) (N:=some 30) (v:= ?_) (a' := ?_) #[qT,qT,qT,qT,qT,qF,qT,qF,qF,qT,qT,qF,qT,qT,qT,qF,qF,qF,qF] rfl rfl (take_ofW HT_.out HW_.out qK) (fun _ _ _ h=>h) (Or.inl ⟨by rfl,?_⟩) hHeld ?_ ?_;rotate_left
             ·intro w' _
              go_simp;with_reducible rfl
             rotate_left
             ·simp only[Act.put,qS_,qW_]
              rfl
             refine pure_ (i:=5) (N:=some 31) (v:= ?_) (a' := ?_) #[qT,qT,qT,qT,qT,qT,qT,qF,qF,qT,qT,qF,qT,qT,qT,qF,qF,qF,qF] rfl rfl (any_of HT_.out qK) (fun _ _ _ h=>h) (Or.inl ⟨by rfl,?_⟩) ?_ ?_;rotate_left
             ·intro w'
              go_simp;with_reducible rfl
             rotate_left
             ·simp only[Act.put,qS_,qW_]
              rfl
             refine take_ (i:=7) (N:=some 33) (v:= ?_) (a' := ?_) #[qT,qT,qT,qT,qT,qT,qT,qT,qF,qT,qT,qF,qT,qT,qT,qF,qF,qF,qF] rfl rfl (take_ofW HT_.out HW_.out qK) (fun _ _ _ h=>h) (Or.inl ⟨by rfl,?_⟩) hHeld ?_ ?_;rotate_left
             ·intro w' _
              go_simp;with_reducible rfl
             rotate_left
             ·simp only[Act.put,qS_,qW_]
              rfl
             refine pure_ (i:=8) (N:=some 34) (v:= ?_) (a' := ?_) #[qT,qT,qT,qT,qT,qT,qT,qT,qT,qT,qT,qF,qT,qT,qT,qF,qF,qF,qF] rfl rfl (any_of HT_.out qK) (fun _ _ _ h=>h) (Or.inl ⟨by rfl,?_⟩) ?_ ?_;rotate_left
             ·intro w'
              go_simp;with_reducible rfl
             rotate_left
             ·simp only[Act.put,qS_,qW_]
              rfl
             refine join_ (σ:=Value × Nat) 1 #[qT,qT,qT,qT,qT,qT,qT,qT,qT,qT,qT,qT,qT,qT,qT,qT,qT,qT,qF] (fun s_=>[(37,.int .i64 t102),(41,s_.1),(5,.pointer (some ⟨s_.2,0,none⟩)),(42,.agg #[.int .i64 (wrap64 (bt a0 0)),.int .i64 t102,.int .i64 (wrap64 (bt a0 1)),.int .i64 (wrap64 (bt a0 2)),.string (a0.extract 7 ((wrap64 (7+(wrap64 (bt a0 4)))):Int).toNat),s_.1])]) (fun s_ w' => (Kd.R k54 54 w' w.heap.size (fun _=>True) s_.1 y103)∧(w'.heap[gb101]? = some (.cells z34_.b0 31 (0,0)))∧(w'.heap[s_.2]? = some (.cells z34_.b0 31 (0,0)))∧(w.heap.size≤s_.2)∧(w.heap.size≤s_.2)∧(gb101≠s_.2)∧(s_.2≠gb101)∧(Below w.heap.size w w')) ?_ ?_;rotate_left
             ·intro hJ11_15_17
              refine join_ (σ:=Value) 2 #[qT,qT,qT,qT,qT,qT,qT,qT,qT,qT,qT,qT,qT,qT,qT,qT,qT,qF,qF] (fun s_=>[(37,.int .i64 t102),(41,s_),(42,.agg #[.int .i64 (wrap64 (bt a0 0)),.int .i64 t102,.int .i64 (wrap64 (bt a0 1)),.int .i64 (wrap64 (bt a0 2)),.string (a0.extract 7 ((wrap64 (7+(wrap64 (bt a0 4)))):Int).toNat),s_])]) (fun s_ w' => (Kd.R k54 54 w' w.heap.size (fun _=>True) s_ y103)∧(w'.heap[gb101]? = some (.cells z34_.b0 31 (0,0)))∧(Below w.heap.size w w')) ?_ ?_;rotate_left
              ·intro hJ11_15
               refine join_ (σ:=Nat) 3 #[qT,qT,qT,qT,qT,qT,qT,qT,qT,qT,qT,qT,qT,qT,qT,qF,qF,qT,qF] (fun s_=>[(37,.int .i64 t102),(5,.pointer (some ⟨s_,0,none⟩))]) (fun s_ w' => (w'.heap[gb101]? = some (.cells z34_.b0 31 (0,0)))∧(w'.heap[s_]? = some (.cells z34_.b0 31 (0,0)))∧(w.heap.size≤s_)∧(w.heap.size≤s_)∧(gb101≠s_)∧(s_≠gb101)∧(Below w.heap.size w w')) ?_ ?_;rotate_left
               ·intro hJ11_17
                refine join_ (σ:=Value × Nat) 3 #[qT,qT,qT,qT,qT,qT,qT,qT,qT,qT,qT,qF,qT,qT,qT,qT,qF,qT,qF] (fun s_=>[(41,s_.1),(5,.pointer (some ⟨s_.2,0,none⟩))]) (fun s_ w' => (Kd.R k54 54 w' w.heap.size (fun _=>True) s_.1 y103)∧(w'.heap[gb101]? = some (.cells z34_.b0 31 (0,0)))∧(w'.heap[s_.2]? = some (.cells z34_.b0 31 (0,0)))∧(w.heap.size≤s_.2)∧(w.heap.size≤s_.2)∧(gb101≠s_.2)∧(s_.2≠gb101)∧(Below w.heap.size w w')) ?_ ?_;rotate_left
                ·intro hJ15_17
                 refine join_ (σ:=Unit) 4 #[qT,qT,qT,qT,qT,qT,qT,qT,qT,qT,qT,qT,qT,qT,qT,qF,qF,qF,qF] (fun s_=>[(37,.int .i64 t102)]) (fun s_ w' => (w'.heap[gb101]? = some (.cells z34_.b0 31 (0,0)))∧(Below w.heap.size w w')) ?_ ?_;rotate_left
                 ·intro hJ11
                  refine join_ (σ:=Value) 4 #[qT,qT,qT,qT,qT,qT,qT,qT,qT,qT,qT,qF,qT,qT,qT,qT,qF,qF,qF] (fun s_=>[(41,s_)]) (fun s_ w' => (Kd.R k54 54 w' w.heap.size (fun _=>True) s_ y103)∧(w'.heap[gb101]? = some (.cells z34_.b0 31 (0,0)))∧(Below w.heap.size w w')) ?_ ?_;rotate_left
                  ·intro hJ15
                   refine join_ (σ:=Nat) 4 #[qT,qT,qT,qT,qT,qT,qT,qT,qT,qT,qT,qF,qT,qT,qT,qF,qF,qT,qF] (fun s_=>[(5,.pointer (some ⟨s_,0,none⟩))]) (fun s_ w' => (w'.heap[gb101]? = some (.cells z34_.b0 31 (0,0)))∧(w'.heap[s_]? = some (.cells z34_.b0 31 (0,0)))∧(w.heap.size≤s_)∧(w.heap.size≤s_)∧(gb101≠s_)∧(s_≠gb101)∧(Below w.heap.size w w')) ?_ ?_;rotate_left
                   ·intro hJ17
                    refine three_ (i:=11) (j:=15) (k:=17) (Ni:=some 37) (Nj:=some 41) (Nk:=some 5) #[qT,qT,qT,qT,qT,qT,qT,qT,qT,qT,qT,qT,qT,qT,qT,qF,qF,qF,qF] #[qT,qT,qT,qT,qT,qT,qT,qT,qT,qT,qT,qF,qT,qT,qT,qT,qF,qF,qF] #[qT,qT,qT,qT,qT,qT,qT,qT,qT,qT,qT,qF,qT,qT,qT,qF,qF,qT,qF] rfl rfl rfl rfl rfl rfl (three_of HT_.out qK) (by decide) (by decide) (by decide) (fun K hK=> ?_) (fun K hK=> ?_) (fun K hK=> ?_)
                    ·skip
                     refine goes_ Try.func57 qK rfl #[.string (a0.extract 5 7)] (by rfl) rfl rfl qll_ ?_
                     with_reducible refine(z57_.calls kj1 (a0.extract 5 7) t102 _ A19.out).mono ?_
                     rintro e w' ⟨rfl,⟨nd,rfl⟩⟩
                     refine⟨_,rfl,?_⟩;refine hK.out _ _ trivial (fun hHeld=> ?_);clear hK K;refine norm_ (a' := ?_) ?_ ?_;rotate_left
                     ·show Act.put _ (some 37) _=_
                      simp only[Act.put,qS_,qW_];rfl
                     exact norm_ (by first|(simp only[putAll,Act.put,List.setIfInBounds_toArray,List.set_cons_zero,List.set_cons_succ];done)|(simp only[putAll,Act.put,List.setIfInBounds_toArray,List.set_cons_zero,List.set_cons_succ];rfl)) (hJ11 () _ ⟨(qk_ BK101),qBHB⟩)
                    ·skip
                     refine Kd.R_lit_step k54 _ 54 ?hg (N:=41) ?hd (xs:=([]:List (S54))) (inner:=[]) (ok:=fun _=>True) (okp:=fun _=>True) ?hr ?hp (fun _ hk=>hk) trivial (Below.refl _ _) (Nat.le_refl _) (by simp) ?_;(case hd=>rfl);(case hg=>rfl);(case hr=>first|(go_simp;done)|(go_simp;rfl));(case hp=>exact(Reps.none _ _))
                     intro v104 w25 ho26 hb hg_ hnew_
                     clear hg_ hnew_
                     (first|rw[← Ny103.out]at ho26|(simp only[Int.reduceToNat]at ho26;rw[← Ny103.out]at ho26))
                     have HO105:=qM_ (Kd.R_lower ho26 (below_size qBHB));replace BK101:=qM_ (blk_below (qk_ BK101) hb);replace HB:=qM_ (below_step qBHB hb);clear hb ho26;refine hK.out _ _ trivial (fun hHeld=> ?_);clear hK K;refine norm_ (a' := ?_) ?_ ?_;rotate_left
                     ·show Act.put _ (some 41) _=_
                      simp only[Act.put,qS_,qW_];rfl
                     exact norm_ (by first|(simp only[putAll,Act.put,List.setIfInBounds_toArray,List.set_cons_zero,List.set_cons_succ];done)|(simp only[putAll,Act.put,List.setIfInBounds_toArray,List.set_cons_zero,List.set_cons_succ];rfl)) (hJ15 (v104) _ ⟨(qr_ HO105),(qk_ BK101),qBHB⟩)
                    ·skip
                     refine box_step ?hg (N:=5) ?hd (cs:=z34_.b0) (t:=31) ?hr ?_;(case hd=>rfl);(case hg=>rfl);(case hr=>first|(go_simp;done)|(go_simp;rfl))
                     intro gb106 hg w25 hbox hb
                     have BK106:=qM_ (hbox);have GW106:=qM_ ((by rw[hg];exact(below_size qBHB):w.heap.size≤gb106))
                     have GE106:=qM_ ((by rw[hg];exact(below_size qBHB):w.heap.size≤gb106));replace HB:=qM_ (below_step qBHB hb);have NB101_106:=qM_ ((by rw[hg];exact Nat.ne_of_lt (blk_lt (qk_ BK101)):gb101≠gb106))
                     have NB106_101:=qM_ ((by rw[hg];exact Nat.ne_of_gt (blk_lt (qk_ BK101)):gb106≠gb101));replace BK101:=qM_ (blk_below (qk_ BK101) hb);clear hb hbox hg;refine hK.out _ _ trivial (fun hHeld=> ?_);clear hK K;refine norm_ (a' := ?_) ?_ ?_;rotate_left
                     ·show Act.put _ (some 5) _=_
                      simp only[Act.put,qS_,qW_];rfl
                     exact norm_ (by first|(simp only[putAll,Act.put,List.setIfInBounds_toArray,List.set_cons_zero,List.set_cons_succ];done)|(simp only[putAll,Act.put,List.setIfInBounds_toArray,List.set_cons_zero,List.set_cons_succ];rfl)) (hJ17 (gb106) _ ⟨(qk_ BK101),(qk_ BK106),GW106.out,GE106.out,NB101_106.out,NB106_101.out,qBHB⟩)
                   ·skip
                    rintro gb106 w26 ⟨h0_,h1_,h2_,h3_,h4_,h5_,h6_⟩
                    replace BK101:Aside0 (w26.heap[gb101]? = some (.cells z34_.b0 31 (0,0))):=⟨h0_⟩;have BK106:Aside0 (w26.heap[gb106]? = some (.cells z34_.b0 31 (0,0))):=⟨h1_⟩;have GW106:Aside0 (w.heap.size≤gb106):=⟨h2_⟩;have GE106:Aside0 (w.heap.size≤gb106):=⟨h3_⟩;have NB101_106:Aside0 (gb101≠gb106):=⟨h4_⟩;have NB106_101:Aside0 (gb106≠gb101):=⟨h5_⟩;replace HB:Aside0 (Below w.heap.size w w26):=⟨h6_⟩;clear h0_ h1_ h2_ h3_ h4_ h5_ h6_;have hHeld:=trivial;refine norm_ (a' := ?_) ?_ ?_;rotate_left
                    ·simp only[putAll,Act.put,List.setIfInBounds_toArray,List.set_cons_zero,List.set_cons_succ]
                     rfl
                    refine two_ (i:=11) (j:=15) (Ni:=some 37) (Nj:=some 41) #[qT,qT,qT,qT,qT,qT,qT,qT,qT,qT,qT,qT,qT,qT,qT,qF,qF,qT,qF] #[qT,qT,qT,qT,qT,qT,qT,qT,qT,qT,qT,qF,qT,qT,qT,qT,qF,qT,qF] rfl rfl rfl rfl (two_of HT_.out qK) (by decide) (by decide) (fun K hK=> ?_) (fun K hK=> ?_)
                    ·skip
                     refine goes_ Try.func57 qK rfl #[.string (a0.extract 5 7)] (by rfl) rfl rfl qll_ ?_
                     with_reducible refine(z57_.calls kj1 (a0.extract 5 7) t102 _ A19.out).mono ?_
                     rintro e w' ⟨rfl,⟨nd,rfl⟩⟩
                     refine⟨_,rfl,?_⟩;refine hK.out _ _ trivial (fun hHeld=> ?_);clear hK K;refine norm_ (a' := ?_) ?_ ?_;rotate_left
                     ·show Act.put _ (some 37) _=_
                      simp only[Act.put,qS_,qW_];rfl
                     exact norm_ (by first|(simp only[putAll,Act.put,List.setIfInBounds_toArray,List.set_cons_zero,List.set_cons_succ];done)|(simp only[putAll,Act.put,List.setIfInBounds_toArray,List.set_cons_zero,List.set_cons_succ];rfl)) (hJ11_17 (gb106) _ ⟨(qk_ BK101),(qk_ BK106),GW106.out,GE106.out,NB101_106.out,NB106_101.out,qBHB⟩)
                    ·skip
                     refine Kd.R_lit_step k54 _ 54 ?hg (N:=41) ?hd (xs:=([]:List (S54))) (inner:=[]) (ok:=fun _=>True) (okp:=fun _=>True) ?hr ?hp (fun _ hk=>hk) trivial (Below.refl _ _) (Nat.le_refl _) (by simp) ?_;(case hd=>rfl);(case hg=>rfl);(case hr=>first|(go_simp;done)|(go_simp;rfl));(case hp=>exact(Reps.none _ _))
                     intro v104 w27 ho28 hb hg_ hnew_
                     clear hg_ hnew_
                     (first|rw[← Ny103.out]at ho28|(simp only[Int.reduceToNat]at ho28;rw[← Ny103.out]at ho28))
                     have HO105:=qM_ (Kd.R_lower ho28 (below_size qBHB));replace BK101:=qM_ (blk_below (qk_ BK101) hb);replace BK106:=qM_ (blk_below (qk_ BK106) hb);replace HB:=qM_ (below_step qBHB hb);clear hb ho28;refine hK.out _ _ trivial (fun hHeld=> ?_);clear hK K;refine norm_ (a' := ?_) ?_ ?_;rotate_left
                     ·show Act.put _ (some 41) _=_
                      simp only[Act.put,qS_,qW_];rfl
                     exact norm_ (by first|(simp only[putAll,Act.put,List.setIfInBounds_toArray,List.set_cons_zero,List.set_cons_succ];done)|(simp only[putAll,Act.put,List.setIfInBounds_toArray,List.set_cons_zero,List.set_cons_succ];rfl)) (hJ15_17 (v104,gb106) _ ⟨(qr_ HO105),(qk_ BK101),(qk_ BK106),GW106.out,GE106.out,NB101_106.out,NB106_101.out,qBHB⟩)
                  ·skip
                   rintro v104 w27 ⟨h0_,h1_,h2_⟩
                   have HO105:Aside0 (Kd.R k54 54 w27 w.heap.size (fun _=>True) v104 y103):=⟨h0_⟩;replace BK101:Aside0 (w27.heap[gb101]? = some (.cells z34_.b0 31 (0,0))):=⟨h1_⟩;replace HB:Aside0 (Below w.heap.size w w27):=⟨h2_⟩;clear h0_ h1_ h2_;have hHeld:=trivial;refine norm_ (a' := ?_) ?_ ?_;rotate_left
                   ·simp only[putAll,Act.put,List.setIfInBounds_toArray,List.set_cons_zero,List.set_cons_succ]
                    rfl
                   refine two_ (i:=11) (j:=17) (Ni:=some 37) (Nj:=some 5) #[qT,qT,qT,qT,qT,qT,qT,qT,qT,qT,qT,qT,qT,qT,qT,qT,qF,qF,qF] #[qT,qT,qT,qT,qT,qT,qT,qT,qT,qT,qT,qF,qT,qT,qT,qT,qF,qT,qF] rfl rfl rfl rfl (two_of HT_.out qK) (by decide) (by decide) (fun K hK=> ?_) (fun K hK=> ?_)
                   ·skip
                    refine goes_ Try.func57 qK rfl #[.string (a0.extract 5 7)] (by rfl) rfl rfl qll_ ?_
                    with_reducible refine(z57_.calls kj1 (a0.extract 5 7) t102 _ A19.out).mono ?_
                    rintro e w' ⟨rfl,⟨nd,rfl⟩⟩
                    refine⟨_,rfl,?_⟩;obtain⟨Ao28,co28,eo28⟩:=Kd.R_slice HO105.out
                    (first|subst eo28|(injection eo28 with f1_ f2_ f3_;have f4_:=f1_.symm;have f5_:=f3_.symm;clear f1_ f2_ f3_;subst f4_;subst f5_))
                    refine hK.out _ _ trivial (fun hHeld=> ?_);clear hK K;refine norm_ (a' := ?_) ?_ ?_;rotate_left
                    ·show Act.put _ (some 37) _=_
                     simp only[Act.put,qS_,qW_];rfl
                    refine pure_ (i:=16) (N:=some 42) (v:= ?_) (a' := ?_) #[qT,qT,qT,qT,qT,qT,qT,qT,qT,qT,qT,qT,qT,qT,qT,qT,qT,qF,qF] rfl rfl (any_of HT_.out qK) (fun _ _ _ h=>h) (Or.inl ⟨by rfl,?_⟩) ?_ ?_;rotate_left
                    ·intro w'
                     go_simp;with_reducible rfl
                    rotate_left
                    ·simp only[Act.put,qS_,qW_]
                     rfl
                    exact norm_ (by first|(simp only[putAll,Act.put,List.setIfInBounds_toArray,List.set_cons_zero,List.set_cons_succ];done)|(simp only[putAll,Act.put,List.setIfInBounds_toArray,List.set_cons_zero,List.set_cons_succ];rfl)) (hJ11_15 (.slice Ao28 y103.length co28) _ ⟨(qr_ HO105),(qk_ BK101),qBHB⟩)
                   ·skip
                    refine box_step ?hg (N:=5) ?hd (cs:=z34_.b0) (t:=31) ?hr ?_;(case hd=>rfl);(case hg=>rfl);(case hr=>first|(go_simp;done)|(go_simp;rfl))
                    intro gb106 hg w28 hbox hb
                    replace HO105:=qM_ (Kd.R_below (qr_ HO105) hb);have BK106:=qM_ (hbox);have GW106:=qM_ ((by rw[hg];exact(below_size qBHB):w.heap.size≤gb106))
                    have GE106:=qM_ ((by rw[hg];exact(below_size qBHB):w.heap.size≤gb106));replace HB:=qM_ (below_step qBHB hb);have NB101_106:=qM_ ((by rw[hg];exact Nat.ne_of_lt (blk_lt (qk_ BK101)):gb101≠gb106))
                    have NB106_101:=qM_ ((by rw[hg];exact Nat.ne_of_gt (blk_lt (qk_ BK101)):gb106≠gb101));replace BK101:=qM_ (blk_below (qk_ BK101) hb);clear hb hbox hg;refine hK.out _ _ trivial (fun hHeld=> ?_);clear hK K;refine norm_ (a' := ?_) ?_ ?_;rotate_left
                    ·show Act.put _ (some 5) _=_
                     simp only[Act.put,qS_,qW_];rfl
                    exact norm_ (by first|(simp only[putAll,Act.put,List.setIfInBounds_toArray,List.set_cons_zero,List.set_cons_succ];done)|(simp only[putAll,Act.put,List.setIfInBounds_toArray,List.set_cons_zero,List.set_cons_succ];rfl)) (hJ15_17 (v104,gb106) _ ⟨(qr_ HO105),(qk_ BK101),(qk_ BK106),GW106.out,GE106.out,NB101_106.out,NB106_101.out,qBHB⟩)
                 ·skip
                  rintro _ w25 ⟨h0_,h1_⟩
                  replace BK101:Aside0 (w25.heap[gb101]? = some (.cells z34_.b0 31 (0,0))):=⟨h0_⟩;replace HB:Aside0 (Below w.heap.size w w25):=⟨h1_⟩;clear h0_ h1_;have hHeld:=trivial;refine norm_ (a' := ?_) ?_ ?_;rotate_left
                  ·simp only[putAll,Act.put,List.setIfInBounds_toArray,List.set_cons_zero,List.set_cons_succ]
                   rfl
                  refine two_ (i:=15) (j:=17) (Ni:=some 41) (Nj:=some 5) #[qT,qT,qT,qT,qT,qT,qT,qT,qT,qT,qT,qT,qT,qT,qT,qT,qF,qF,qF] #[qT,qT,qT,qT,qT,qT,qT,qT,qT,qT,qT,qT,qT,qT,qT,qF,qF,qT,qF] rfl rfl rfl rfl (two_of HT_.out qK) (by decide) (by decide) (fun K hK=> ?_) (fun K hK=> ?_)
                  ·skip
                   refine Kd.R_lit_step k54 _ 54 ?hg (N:=41) ?hd (xs:=([]:List (S54))) (inner:=[]) (ok:=fun _=>True) (okp:=fun _=>True) ?hr ?hp (fun _ hk=>hk) trivial (Below.refl _ _) (Nat.le_refl _) (by simp) ?_;(case hd=>rfl);(case hg=>rfl);(case hr=>first|(go_simp;done)|(go_simp;rfl));(case hp=>exact(Reps.none _ _))
                   intro v104 w26 ho27 hb hg_ hnew_
                   clear hg_ hnew_
                   (first|rw[← Ny103.out]at ho27|(simp only[Int.reduceToNat]at ho27;rw[← Ny103.out]at ho27))
                   have HO105:=qM_ (Kd.R_lower ho27 (below_size qBHB));replace BK101:=qM_ (blk_below (qk_ BK101) hb);replace HB:=qM_ (below_step qBHB hb);clear hb ho27;obtain⟨Ao28,co28,eo28⟩:=Kd.R_slice HO105.out
                   (first|subst eo28|(injection eo28 with f1_ f2_ f3_;have f4_:=f1_.symm;have f5_:=f3_.symm;clear f1_ f2_ f3_;subst f4_;subst f5_))
                   refine hK.out _ _ trivial (fun hHeld=> ?_);clear hK K;refine norm_ (a' := ?_) ?_ ?_;rotate_left
                   ·show Act.put _ (some 41) _=_
                    simp only[Act.put,qS_,qW_];rfl
                   refine pure_ (i:=16) (N:=some 42) (v:= ?_) (a' := ?_) #[qT,qT,qT,qT,qT,qT,qT,qT,qT,qT,qT,qT,qT,qT,qT,qT,qT,qF,qF] rfl rfl (any_of HT_.out qK) (fun _ _ _ h=>h) (Or.inl ⟨by rfl,?_⟩) ?_ ?_;rotate_left
                   ·intro w'
                    go_simp;with_reducible rfl
                   rotate_left
                   ·simp only[Act.put,qS_,qW_]
                    rfl
                   exact norm_ (by first|(simp only[putAll,Act.put,List.setIfInBounds_toArray,List.set_cons_zero,List.set_cons_succ];done)|(simp only[putAll,Act.put,List.setIfInBounds_toArray,List.set_cons_zero,List.set_cons_succ];rfl)) (hJ11_15 (.slice Ao28 y103.length co28) _ ⟨(qr_ HO105),(qk_ BK101),qBHB⟩)
                  ·skip
                   refine box_step ?hg (N:=5) ?hd (cs:=z34_.b0) (t:=31) ?hr ?_;(case hd=>rfl);(case hg=>rfl);(case hr=>first|(go_simp;done)|(go_simp;rfl))
                   intro gb106 hg w26 hbox hb
                   have BK106:=qM_ (hbox);have GW106:=qM_ ((by rw[hg];exact(below_size qBHB):w.heap.size≤gb106))
                   have GE106:=qM_ ((by rw[hg];exact(below_size qBHB):w.heap.size≤gb106));replace HB:=qM_ (below_step qBHB hb);have NB101_106:=qM_ ((by rw[hg];exact Nat.ne_of_lt (blk_lt (qk_ BK101)):gb101≠gb106))
                   have NB106_101:=qM_ ((by rw[hg];exact Nat.ne_of_gt (blk_lt (qk_ BK101)):gb106≠gb101));replace BK101:=qM_ (blk_below (qk_ BK101) hb);clear hb hbox hg;refine hK.out _ _ trivial (fun hHeld=> ?_);clear hK K;refine norm_ (a' := ?_) ?_ ?_;rotate_left
                   ·show Act.put _ (some 5) _=_
                    simp only[Act.put,qS_,qW_];rfl
                   exact norm_ (by first|(simp only[putAll,Act.put,List.setIfInBounds_toArray,List.set_cons_zero,List.set_cons_succ];done)|(simp only[putAll,Act.put,List.setIfInBounds_toArray,List.set_cons_zero,List.set_cons_succ];rfl)) (hJ11_17 (gb106) _ ⟨(qk_ BK101),(qk_ BK106),GW106.out,GE106.out,NB101_106.out,NB106_101.out,qBHB⟩)
                ·skip
                 rintro⟨v104,gb106⟩ w28 ⟨h0_,h1_,h2_,h3_,h4_,h5_,h6_,h7_⟩
                 have HO105:Aside0 (Kd.R k54 54 w28 w.heap.size (fun _=>True) v104 y103):=⟨h0_⟩;replace BK101:Aside0 (w28.heap[gb101]? = some (.cells z34_.b0 31 (0,0))):=⟨h1_⟩;have BK106:Aside0 (w28.heap[gb106]? = some (.cells z34_.b0 31 (0,0))):=⟨h2_⟩;have GW106:Aside0 (w.heap.size≤gb106):=⟨h3_⟩;have GE106:Aside0 (w.heap.size≤gb106):=⟨h4_⟩;have NB101_106:Aside0 (gb101≠gb106):=⟨h5_⟩;have NB106_101:Aside0 (gb106≠gb101):=⟨h6_⟩;replace HB:Aside0 (Below w.heap.size w w28):=⟨h7_⟩;clear h0_ h1_ h2_ h3_ h4_ h5_ h6_ h7_;have hHeld:=trivial;refine norm_ (a' := ?_) ?_ ?_;rotate_left
                 ·simp only[putAll,Act.put,List.setIfInBounds_toArray,List.set_cons_zero,List.set_cons_succ]
                  rfl
                 refine one_ (i:=11) (N:=some 37) #[qT,qT,qT,qT,qT,qT,qT,qT,qT,qT,qT,qT,qT,qT,qT,qT,qF,qT,qF] rfl rfl (one_of HT_.out qK) (by decide) (fun K hK=> ?_);refine goes_ Try.func57 qK rfl #[.string (a0.extract 5 7)] (by rfl) rfl rfl qll_ ?_
                 with_reducible refine(z57_.calls kj1 (a0.extract 5 7) t102 _ A19.out).mono ?_
                 rintro e w' ⟨rfl,⟨nd,rfl⟩⟩
                 refine⟨_,rfl,?_⟩;obtain⟨Ao29,co29,eo29⟩:=Kd.R_slice HO105.out
                 (first|subst eo29|(injection eo29 with f1_ f2_ f3_;have f4_:=f1_.symm;have f5_:=f3_.symm;clear f1_ f2_ f3_;subst f4_;subst f5_))
                 refine hK.out _ _ trivial (fun hHeld=> ?_);clear hK K;refine norm_ (a' := ?_) ?_ ?_;rotate_left
                 ·show Act.put _ (some 37) _=_
                  simp only[Act.put,qS_,qW_];rfl
                 refine pure_ (i:=16) (N:=some 42) (v:= ?_) (a' := ?_) #[qT,qT,qT,qT,qT,qT,qT,qT,qT,qT,qT,qT,qT,qT,qT,qT,qT,qT,qF] rfl rfl (any_of HT_.out qK) (fun _ _ _ h=>h) (Or.inl ⟨by rfl,?_⟩) ?_ ?_;rotate_left
                 ·intro w'
                  go_simp;with_reducible rfl
                 rotate_left
                 ·simp only[Act.put,qS_,qW_]
                  rfl
                 exact norm_ (by first|(simp only[putAll,Act.put,List.setIfInBounds_toArray,List.set_cons_zero,List.set_cons_succ];done)|(simp only[putAll,Act.put,List.setIfInBounds_toArray,List.set_cons_zero,List.set_cons_succ];rfl)) (hJ11_15_17 (.slice Ao29 y103.length co29,gb106) _ ⟨(qr_ HO105),(qk_ BK101),(qk_ BK106),GW106.out,GE106.out,NB101_106.out,NB106_101.out,qBHB⟩)
               ·skip
                rintro gb106 w26 ⟨h0_,h1_,h2_,h3_,h4_,h5_,h6_⟩
                replace BK101:Aside0 (w26.heap[gb101]? = some (.cells z34_.b0 31 (0,0))):=⟨h0_⟩;have BK106:Aside0 (w26.heap[gb106]? = some (.cells z34_.b0 31 (0,0))):=⟨h1_⟩;have GW106:Aside0 (w.heap.size≤gb106):=⟨h2_⟩;have GE106:Aside0 (w.heap.size≤gb106):=⟨h3_⟩;have NB101_106:Aside0 (gb101≠gb106):=⟨h4_⟩;have NB106_101:Aside0 (gb106≠gb101):=⟨h5_⟩;replace HB:Aside0 (Below w.heap.size w w26):=⟨h6_⟩;clear h0_ h1_ h2_ h3_ h4_ h5_ h6_;have hHeld:=trivial;refine norm_ (a' := ?_) ?_ ?_;rotate_left
                ·simp only[putAll,Act.put,List.setIfInBounds_toArray,List.set_cons_zero,List.set_cons_succ]
                 rfl
                refine one_ (i:=15) (N:=some 41) #[qT,qT,qT,qT,qT,qT,qT,qT,qT,qT,qT,qT,qT,qT,qT,qT,qF,qT,qF] rfl rfl (one_of HT_.out qK) (by decide) (fun K hK=> ?_)
                refine Kd.R_lit_step k54 _ 54 ?hg (N:=41) ?hd (xs:=([]:List (S54))) (inner:=[]) (ok:=fun _=>True) (okp:=fun _=>True) ?hr ?hp (fun _ hk=>hk) trivial (Below.refl _ _) (Nat.le_refl _) (by simp) ?_;(case hd=>rfl);(case hg=>rfl);(case hr=>first|(go_simp;done)|(go_simp;rfl));(case hp=>exact(Reps.none _ _))
                intro v104 w27 ho28 hb hg_ hnew_
                clear hg_ hnew_
                (first|rw[← Ny103.out]at ho28|(simp only[Int.reduceToNat]at ho28;rw[← Ny103.out]at ho28))
                have HO105:=qM_ (Kd.R_lower ho28 (below_size qBHB));replace BK101:=qM_ (blk_below (qk_ BK101) hb);replace BK106:=qM_ (blk_below (qk_ BK106) hb);replace HB:=qM_ (below_step qBHB hb);clear hb ho28;obtain⟨Ao29,co29,eo29⟩:=Kd.R_slice HO105.out
                (first|subst eo29|(injection eo29 with f1_ f2_ f3_;have f4_:=f1_.symm;have f5_:=f3_.symm;clear f1_ f2_ f3_;subst f4_;subst f5_))
                refine hK.out _ _ trivial (fun hHeld=> ?_);clear hK K;refine norm_ (a' := ?_) ?_ ?_;rotate_left
                ·show Act.put _ (some 41) _=_
                 simp only[Act.put,qS_,qW_];rfl
                refine pure_ (i:=16) (N:=some 42) (v:= ?_) (a' := ?_) #[qT,qT,qT,qT,qT,qT,qT,qT,qT,qT,qT,qT,qT,qT,qT,qT,qT,qT,qF] rfl rfl (any_of HT_.out qK) (fun _ _ _ h=>h) (Or.inl ⟨by rfl,?_⟩) ?_ ?_;rotate_left
                ·intro w'
                 go_simp;with_reducible rfl
                rotate_left
                ·simp only[Act.put,qS_,qW_]
                 rfl
                exact norm_ (by first|(simp only[putAll,Act.put,List.setIfInBounds_toArray,List.set_cons_zero,List.set_cons_succ];done)|(simp only[putAll,Act.put,List.setIfInBounds_toArray,List.set_cons_zero,List.set_cons_succ];rfl)) (hJ11_15_17 (.slice Ao29 y103.length co29,gb106) _ ⟨(qr_ HO105),(qk_ BK101),(qk_ BK106),GW106.out,GE106.out,NB101_106.out,NB106_101.out,qBHB⟩)
              ·skip
               rintro v104 w28 ⟨h0_,h1_,h2_⟩
               have HO105:Aside0 (Kd.R k54 54 w28 w.heap.size (fun _=>True) v104 y103):=⟨h0_⟩;replace BK101:Aside0 (w28.heap[gb101]? = some (.cells z34_.b0 31 (0,0))):=⟨h1_⟩;replace HB:Aside0 (Below w.heap.size w w28):=⟨h2_⟩;clear h0_ h1_ h2_;have hHeld:=trivial;obtain⟨Ao29,co29,eo29⟩:=Kd.R_slice HO105.out
               (first|subst eo29|(injection eo29 with f1_ f2_ f3_;have f4_:=f1_.symm;have f5_:=f3_.symm;clear f1_ f2_ f3_;subst f4_;subst f5_))
               refine norm_ (a' := ?_) ?_ ?_;rotate_left
               ·simp only[putAll,Act.put,List.setIfInBounds_toArray,List.set_cons_zero,List.set_cons_succ]
                rfl
               refine one_ (i:=17) (N:=some 5) #[qT,qT,qT,qT,qT,qT,qT,qT,qT,qT,qT,qT,qT,qT,qT,qT,qT,qT,qF] rfl rfl (one_of HT_.out qK) (by decide) (fun K hK=> ?_)
               refine box_step ?hg (N:=5) ?hd (cs:=z34_.b0) (t:=31) ?hr ?_;(case hd=>rfl);(case hg=>rfl);(case hr=>first|(go_simp;done)|(go_simp;rfl))
               intro gb106 hg w30 hbox hb
               replace HO105:=qM_ (Kd.R_below (qr_ HO105) hb);have BK106:=qM_ (hbox);have GW106:=qM_ ((by rw[hg];exact(below_size qBHB):w.heap.size≤gb106))
               have GE106:=qM_ ((by rw[hg];exact(below_size qBHB):w.heap.size≤gb106));replace HB:=qM_ (below_step qBHB hb);have NB101_106:=qM_ ((by rw[hg];exact Nat.ne_of_lt (blk_lt (qk_ BK101)):gb101≠gb106))
               have NB106_101:=qM_ ((by rw[hg];exact Nat.ne_of_gt (blk_lt (qk_ BK101)):gb106≠gb101));replace BK101:=qM_ (blk_below (qk_ BK101) hb);clear hb hbox hg;refine hK.out _ _ trivial (fun hHeld=> ?_);clear hK K;refine norm_ (a' := ?_) ?_ ?_;rotate_left
               ·show Act.put _ (some 5) _=_
                simp only[Act.put,qS_,qW_];rfl
               exact norm_ (by first|(simp only[putAll,Act.put,List.setIfInBounds_toArray,List.set_cons_zero,List.set_cons_succ];done)|(simp only[putAll,Act.put,List.setIfInBounds_toArray,List.set_cons_zero,List.set_cons_succ];rfl)) (hJ11_15_17 (.slice Ao29 y103.length co29,gb106) _ ⟨(qr_ HO105),(qk_ BK101),(qk_ BK106),GW106.out,GE106.out,NB101_106.out,NB106_101.out,qBHB⟩)
             rintro⟨v104,gb106⟩ w29 ⟨h0_,h1_,h2_,h3_,h4_,h5_,h6_,h7_⟩
             have HO105:Aside0 (Kd.R k54 54 w29 w.heap.size (fun _=>True) v104 y103):=⟨h0_⟩;replace BK101:Aside0 (w29.heap[gb101]? = some (.cells z34_.b0 31 (0,0))):=⟨h1_⟩;have BK106:Aside0 (w29.heap[gb106]? = some (.cells z34_.b0 31 (0,0))):=⟨h2_⟩;have GW106:Aside0 (w.heap.size≤gb106):=⟨h3_⟩;have GE106:Aside0 (w.heap.size≤gb106):=⟨h4_⟩;have NB101_106:Aside0 (gb101≠gb106):=⟨h5_⟩;have NB106_101:Aside0 (gb106≠gb101):=⟨h6_⟩;replace HB:Aside0 (Below w.heap.size w w29):=⟨h7_⟩;clear h0_ h1_ h2_ h3_ h4_ h5_ h6_ h7_;have hHeld:=trivial;obtain⟨Ao30,co30,eo30⟩:=Kd.R_slice HO105.out
             (first|subst eo30|(injection eo30 with f1_ f2_ f3_;have f4_:=f1_.symm;have f5_:=f3_.symm;clear f1_ f2_ f3_;subst f4_;subst f5_))
             refine norm_ (a' := ?_) ?_ ?_;rotate_left
             ·simp only[putAll,Act.put,List.setIfInBounds_toArray,List.set_cons_zero,List.set_cons_succ]
              rfl
             refine one_ (i:=18) (N:=none) #[qT,qT,qT,qT,qT,qT,qT,qT,qT,qT,qT,qT,qT,qT,qT,qT,qT,qT,qT] rfl rfl (one_of HT_.out qK) (by decide) (fun K hK=> ?_);have hs31:w29.cell? ⟨gb106,0,none⟩=some (.int .i64 0):=(qC_ BK106.out 0).trans rfl;have hfs31:=qF_ BK106.out 0;have hns31_0:=NB101_106.out;have hms31_0:=NB106_101.out;have hs32:w29.cell? ⟨gb106,1,none⟩=some (.int .i64 0):=(qC_ BK106.out 1).trans rfl;have hfs32:=qF_ BK106.out 1;have hns32_0:=NB101_106.out;have hms32_0:=NB106_101.out;have hs33:w29.cell? ⟨gb106,2,none⟩=some (.int .i64 0):=(qC_ BK106.out 2).trans rfl;have hfs33:=qF_ BK106.out 2;have hns33_0:=NB101_106.out;have hms33_0:=NB106_101.out;have hs34:w29.cell? ⟨gb106,3,none⟩=some (.int .i64 0):=(qC_ BK106.out 3).trans rfl;have hfs34:=qF_ BK106.out 3;have hns34_0:=NB101_106.out;have hms34_0:=NB106_101.out;have hs35:w29.cell? ⟨gb106,4,none⟩=some (.string (⟨#[]⟩:BA_)):=(qC_ BK106.out 4).trans rfl;have hfs35:=qF_ BK106.out 4;have hns35_0:=NB101_106.out;have hms35_0:=NB106_101.out;have hs36:w29.cell? ⟨gb106,5,none⟩=some (.slice none 0 0):=(qC_ BK106.out 5).trans rfl;have hfs36:=qF_ BK106.out 5;have hns36_0:=NB101_106.out;have hms36_0:=NB106_101.out;refine skip_ (w1:= ?_) (by rfl) rfl ?_ ?_;rotate_left
             ·go_simp
              rfl
             refine hK.out _ _ trivial (fun hHeld=> ?_);clear hK K;refine done_ (done_of HT_.out qK) ?_;have p23:0≤(3:Int):=(by omega);have q23:3 < a0.size:=(by have:(3:Int) < (a0.size:Int):=qd_;omega)
             have hx23:∀ h:3 < a0.size,((a0[3]'h).toNat:Int)=bt a0 3:=bt_at a0 3
             clear p23;have qi23:(3 < (a0.size:Int))=True:=eq_true (qd_);replace q23:=eq_true q23
             try go_wp2
             go_loopg [4,6] kj1 (fun kq v4 v6 w' => ∃(x4_2:Int) (x6_2:Int) (x102000_2:Int) (x102001_2:Int) (x102002_2:Int) (x102003_2:Int) (x102004_2:ByteArray) (x107005_2:List (S54)) (u107005:Value),v4= .int .i64 x4_2∧v6= .int .i64 x6_2∧Aside0 (z34_.l0 kq a0 x4_2 x6_2 (wrap64 (bt a0 0)) t102 (wrap64 (bt a0 1)) (wrap64 (bt a0 2)) (a0.extract 7 ((wrap64 (7+(wrap64 (bt a0 4)))):Int).toNat) x107005_2=some (r1,r2,r3,r4,r5,r6,r7))∧Aside0 (kq≤kj1)∧Aside0 (Kd.R k54 54 w' w.heap.size (fun _=>True) u107005 x107005_2)∧Aside0 (w'.heap[gb101]? = some (.cells #[.int .i64 x102000_2,.int .i64 x102001_2,.int .i64 x102002_2,.int .i64 x102003_2,.string x102004_2,(.slice none 0 0)] 31 (0,0)))∧Aside0 (w'.heap[gb106]? = some (.cells #[.int .i64 (wrap64 (bt a0 0)),.int .i64 t102,.int .i64 (wrap64 (bt a0 1)),.int .i64 (wrap64 (bt a0 2)),.string (a0.extract 7 ((wrap64 (7+(wrap64 (bt a0 4)))):Int).toNat),u107005] 31 (0,0)))∧Aside0 (Below w.heap.size w w'))
             case atStart=>exact⟨(wrap64 (7+(wrap64 (bt a0 4)))),(wrap64 (bt a0 3)),(0),(0),(0),(0),((⟨#[]⟩:BA_)),(y103),(.slice Ao30 y103.length co30),qff_,qff_,H', ⟨Nat.le_refl _⟩,⟨by(with_reducible repeat(first|apply Kd.R_alloc|apply Kd.R_drewN|apply Kd.R_drew));exact Kd.R_mono (qf6_ HO105 BK106) (fun _ hk=>trivial)⟩,⟨qp_ BK101⟩,⟨by(with_reducible repeat(first|refine blk_drewN ?_ _|refine blk_drew ?_|refine blk_alloc ?_ _));refine blk_put (cs:=#[.int .i64 (wrap64 (bt a0 0)),.int .i64 t102,.int .i64 (wrap64 (bt a0 1)),.int .i64 (wrap64 (bt a0 2)),.string (a0.extract 7 ((wrap64 (7+(wrap64 (bt a0 4)))):Int).toNat),.slice none 0 0]) ?_ 5 _ rfl;(with_reducible repeat(first|refine blk_drewN ?_ _|refine blk_drew ?_|refine blk_alloc ?_ _));refine blk_put (cs:=#[.int .i64 (wrap64 (bt a0 0)),.int .i64 t102,.int .i64 (wrap64 (bt a0 1)),.int .i64 (wrap64 (bt a0 2)),.string (⟨#[]⟩:BA_),.slice none 0 0]) ?_ 4 _ rfl;(with_reducible repeat(first|refine blk_drewN ?_ _|refine blk_drew ?_|refine blk_alloc ?_ _));refine blk_put (cs:=#[.int .i64 (wrap64 (bt a0 0)),.int .i64 t102,.int .i64 (wrap64 (bt a0 1)),.int .i64 0,.string (⟨#[]⟩:BA_),.slice none 0 0]) ?_ 3 _ rfl;(with_reducible repeat(first|refine blk_drewN ?_ _|refine blk_drew ?_|refine blk_alloc ?_ _));refine blk_put (cs:=#[.int .i64 (wrap64 (bt a0 0)),.int .i64 t102,.int .i64 0,.int .i64 0,.string (⟨#[]⟩:BA_),.slice none 0 0]) ?_ 2 _ rfl;(with_reducible repeat(first|refine blk_drewN ?_ _|refine blk_drew ?_|refine blk_alloc ?_ _));refine blk_put (cs:=#[.int .i64 (wrap64 (bt a0 0)),.int .i64 0,.int .i64 0,.int .i64 0,.string (⟨#[]⟩:BA_),.slice none 0 0]) ?_ 1 _ rfl;(with_reducible repeat(first|refine blk_drewN ?_ _|refine blk_drew ?_|refine blk_alloc ?_ _));refine blk_put (cs:=z34_.b0) ?_ 0 _ rfl;(with_reducible repeat(first|refine blk_drewN ?_ _|refine blk_drew ?_|refine blk_alloc ?_ _));exact BK106.out⟩,⟨qBHB⟩⟩
             case round =>
              clear H'
              try clear p2
              try clear q2
              try clear hx2
              try clear qi2
              try clear c5
              try clear p6
              try clear p23
              try clear q23
              try clear hx23
              try clear qi23
              try clear p23
              try clear q23
              obtain⟨x4_2,x6_2,x102000_2,x102001_2,x102002_2,x102003_2,x102004_2,x107005_2,u107005,rfl,rfl,HA,HK2,HO_107005,BK101,BK106,HB⟩:=hrel
              cases gk with
              | zero=>exact absurd HA.out (by simp[z34_.l0])
              | succ k2 =>
               have H:=HA.out;clear HA;simp only[z34_.l0]at H;by_cases c37:x6_2 > 0
               ·rw[if_pos c37]at H
                have c37b0:decide (0 < x6_2)=true:=decide_eq_true c37;clear c37;by_cases c38:(wrap64 (x4_2+4)) > (a0.size:Int)
                ·rw[if_pos c38]at H
                 have c38b0:decide ((a0.size:Int) < (wrap64 (x4_2+4)))=true:=decide_eq_true c38;clear c38;simp only[Option.some.injEq,Prod.mk.injEq]at H;obtain⟨rfl,rfl,rfl,rfl,rfl,rfl,rfl⟩:=H;have hnb39:=NB101_106.out;have hnc39:=NB106_101.out;obtain⟨hcz40_0,hcz40_1,hcz40_2,hcz40_3,hcz40_4,hcz40_5,hfz40_0⟩:=qc6_ BK101
                 go_wp2
                 refine bodyPost_ret (results_ct rfl _ _ gb101 31 z34_.b0 (0,0) _ rfl (by(with_reducible repeat(first|refine blk_drewN ?_ _|refine blk_drew ?_|refine blk_alloc ?_ _));refine blk_put (cs:=z34_.b0) ?_ 5 _ rfl;(with_reducible repeat(first|refine blk_drewN ?_ _|refine blk_drew ?_|refine blk_alloc ?_ _));refine blk_put (cs:=#[.int .i64 0,.int .i64 0,.int .i64 0,.int .i64 0,.string x102004_2,.slice none 0 0]) ?_ 4 _ rfl;(with_reducible repeat(first|refine blk_drewN ?_ _|refine blk_drew ?_|refine blk_alloc ?_ _));refine blk_put (cs:=#[.int .i64 0,.int .i64 0,.int .i64 0,.int .i64 x102003_2,.string x102004_2,.slice none 0 0]) ?_ 3 _ rfl;(with_reducible repeat(first|refine blk_drewN ?_ _|refine blk_drew ?_|refine blk_alloc ?_ _));refine blk_put (cs:=#[.int .i64 0,.int .i64 0,.int .i64 x102002_2,.int .i64 x102003_2,.string x102004_2,.slice none 0 0]) ?_ 2 _ rfl;(with_reducible repeat(first|refine blk_drewN ?_ _|refine blk_drew ?_|refine blk_alloc ?_ _));refine blk_put (cs:=#[.int .i64 0,.int .i64 x102001_2,.int .i64 x102002_2,.int .i64 x102003_2,.string x102004_2,.slice none 0 0]) ?_ 1 _ rfl;(with_reducible repeat(first|refine blk_drewN ?_ _|refine blk_drew ?_|refine blk_alloc ?_ _));refine blk_put (cs:=#[.int .i64 x102000_2,.int .i64 x102001_2,.int .i64 x102002_2,.int .i64 x102003_2,.string x102004_2,.slice none 0 0]) ?_ 0 _ rfl;(with_reducible repeat(first|refine blk_drewN ?_ _|refine blk_drew ?_|refine blk_alloc ?_ _));exact BK101.out) Try.underlying31 rfl qK) rfl ?_;exact⟨_,qee_,by first|exact Kd.R_nil _ _ _ _ _|exact Kd.N_nil _ _ _ _ _|exact Kd.V_nil _ _ _ _ _|exact Kd.Q_nil _ _ _ _ _|exact Kd.S_nil _ _ _ _ _,qBHB⟩
                ·rw[if_neg c38]at H
                 have c38b0:decide ((a0.size:Int) < (wrap64 (x4_2+4)))=false:=decide_eq_false c38;clear c38;by_cases c41:0≤x4_2
                 ·rw[if_pos c41]at H
                  have c41b0:=eq_true c41;have c41b1:decide (0≤x4_2)=true:=decide_eq_true c41;clear c41;by_cases c42:x4_2≤(wrap64 (x4_2+2))
                  ·rw[if_pos c42]at H
                   have c42b0:=eq_true c42;have c42b1:decide (x4_2≤(wrap64 (x4_2+2)))=true:=decide_eq_true c42;by_cases c43:(wrap64 (x4_2+2))≤(a0.size:Int)
                   ·rw[if_pos c43]at H
                    have c43b0:=eq_true c43;have c43b1:decide ((wrap64 (x4_2+2))≤(a0.size:Int))=true:=decide_eq_true c43;replace H:=Option.bind_eq_some_iff.mp H;obtain⟨t108,A440,H⟩:=H;have A44:=qM_ A440;clear A440
                    obtain⟨ji45,hji45⟩:∃ j_:Int,(wrap64 (x4_2+2))=j_:=⟨_,rfl⟩
                    replace H:(if 0≤(ji45)then(if(ji45)≤(wrap64 (x4_2+4))then(if(wrap64 (x4_2+4))≤(a0.size:Int)then((z57_.f k2 (a0.extract ((ji45):Int).toNat ((wrap64 (x4_2+4)):Int).toNat)).bind fun t109=>(if(wrap64 ((wrap64 ((wrap64 (x4_2+4))+t108))+t109)) > (a0.size:Int)then(some (0,0,0,0,(⟨#[]⟩:BA_),([]:List (S54)),false))else(if 0≤(wrap64 (x4_2+4))then(if(wrap64 (x4_2+4))≤(wrap64 ((wrap64 (x4_2+4))+t108))then(if(wrap64 ((wrap64 (x4_2+4))+t108))≤(a0.size:Int)then(if 0≤(wrap64 ((wrap64 (x4_2+4))+t108))then(if(wrap64 ((wrap64 (x4_2+4))+t108))≤(wrap64 ((wrap64 ((wrap64 (x4_2+4))+t108))+t109))then(if(wrap64 ((wrap64 ((wrap64 (x4_2+4))+t108))+t109))≤(a0.size:Int)then(if x107005_2.length < 4398046511104 then(z34_.l0 k2 a0 (wrap64 ((wrap64 (x4_2+4))+(wrap64 (t108+t109)))) (wrap64 (x6_2 - 1)) (wrap64 (bt a0 0)) t102 (wrap64 (bt a0 1)) (wrap64 (bt a0 2)) (a0.extract 7 ((wrap64 (7+(wrap64 (bt a0 4)))):Int).toNat) (x107005_2 ++ [(⟨a0.extract ((wrap64 (x4_2+4)):Int).toNat ((wrap64 ((wrap64 (x4_2+4))+t108)):Int).toNat,a0.extract ((wrap64 ((wrap64 (x4_2+4))+t108)):Int).toNat ((wrap64 ((wrap64 ((wrap64 (x4_2+4))+t108))+t109)):Int).toNat⟩:S54)]))else(none))else(none))else(none))else(none))else(none))else(none))else(none))))else(none))else(none))else(none))=some (r1,r2,r3,r4,r5,r6,r7):=qj_ hji45 H
                    (try rw[hji45]at c42b0)
                    (try rw[hji45]at c42b1)
                    (try rw[hji45]at c42)
                    (try rw[hji45]at c43b0)
                    (try rw[hji45]at c43b1)
                    (try rw[hji45]at c43)
                    (try rw[hji45]at A44)
                    have hji45w:(IntKind.i64.wrap (x4_2+2))=ji45:=(i64_w _).trans hji45;by_cases c46:0≤(ji45)
                    ·rw[if_pos c46]at H
                     have c46b0:=eq_true c46;have c46b1:decide (0≤(ji45))=true:=decide_eq_true c46;clear c46;by_cases c47:(ji45)≤(wrap64 (x4_2+4))
                     ·rw[if_pos c47]at H
                      have c47b0:=eq_true c47;have c47b1:decide ((ji45)≤(wrap64 (x4_2+4)))=true:=decide_eq_true c47;by_cases c48:(wrap64 (x4_2+4))≤(a0.size:Int)
                      ·rw[if_pos c48]at H
                       have c48b0:=eq_true c48;have c48b1:decide ((wrap64 (x4_2+4))≤(a0.size:Int))=true:=decide_eq_true c48;replace H:=Option.bind_eq_some_iff.mp H;obtain⟨t109,A490,H⟩:=H;have A49:=qM_ A490;clear A490;by_cases c50:(wrap64 ((wrap64 ((wrap64 (x4_2+4))+t108))+t109)) > (a0.size:Int)
                       ·rw[if_pos c50]at H
                        have c50b0:decide ((a0.size:Int) < (wrap64 ((wrap64 ((wrap64 (x4_2+4))+t108))+t109)))=true:=decide_eq_true c50;clear c50;simp only[Option.some.injEq,Prod.mk.injEq]at H;obtain⟨rfl,rfl,rfl,rfl,rfl,rfl,rfl⟩:=H
                        go_wp2_with (first|((with_reducible refine gate_callee (f:=57) rfl ?_);refine goesL_ (some 61) rfl rfl Try.func57 qK rfl #[.string (a0.extract (x4_2:Int).toNat ((ji45):Int).toNat)] rfl (by(try simp only[List.map_toArray,List.map_cons,List.map_nil]);first|done|(simp only[hji45];rfl)|rfl|(simp only[List.length_drop,List.length_take];rfl)) ?_;(with_reducible refine(z57_.calls k2 (a0.extract (x4_2:Int).toNat ((ji45):Int).toNat) t108 _ A44.out).mono ?_);rintro e w' ⟨rfl,⟨nd,rfl⟩⟩;refine⟨_,rfl,?_⟩;(try(rw[drewN_self wr];generalize hq_:World.drewN wr _=wr;replace HO_107005:Aside0 (Kd.R k54 54 wr w.heap.size (fun _=>True) u107005 x107005_2):=⟨by rw[← hq_];exact(qr_ HO_107005)⟩;replace BK101:Aside0 (wr.heap[gb101]? = some (.cells #[.int .i64 x102000_2,.int .i64 x102001_2,.int .i64 x102002_2,.int .i64 x102003_2,.string x102004_2,.slice none 0 0] 31 (0,0))):=⟨by rw[← hq_];exact(qk_ BK101)⟩;replace BK106:Aside0 (wr.heap[gb106]? = some (.cells #[.int .i64 (wrap64 (bt a0 0)),.int .i64 t102,.int .i64 (wrap64 (bt a0 1)),.int .i64 (wrap64 (bt a0 2)),.string (a0.extract 7 ((wrap64 (7+(wrap64 (bt a0 4)))):Int).toNat),u107005] 31 (0,0))):=⟨by rw[← hq_];exact(qk_ BK106)⟩;replace HB:Aside0 (Below w.heap.size w wr):=⟨by rw[← hq_];exact qBHB⟩;clear hq_)))|((with_reducible refine gate_callee (f:=57) rfl ?_);refine goesL_ (some 68) rfl rfl Try.func57 qK rfl #[.string (a0.extract ((ji45):Int).toNat ((wrap64 (x4_2+4)):Int).toNat)] rfl (by(try simp only[List.map_toArray,List.map_cons,List.map_nil]);first|done|(simp only[hji45];rfl)|rfl|(simp only[List.length_drop,List.length_take];rfl)) ?_;(with_reducible refine(z57_.calls k2 (a0.extract ((ji45):Int).toNat ((wrap64 (x4_2+4)):Int).toNat) t109 _ A49.out).mono ?_);rintro e w' ⟨rfl,⟨nd,rfl⟩⟩;refine⟨_,rfl,?_⟩;(try(rw[drewN_self wr];generalize hq_:World.drewN wr _=wr;replace HO_107005:Aside0 (Kd.R k54 54 wr w.heap.size (fun _=>True) u107005 x107005_2):=⟨by rw[← hq_];exact(qr_ HO_107005)⟩;replace BK101:Aside0 (wr.heap[gb101]? = some (.cells #[.int .i64 x102000_2,.int .i64 x102001_2,.int .i64 x102002_2,.int .i64 x102003_2,.string x102004_2,.slice none 0 0] 31 (0,0))):=⟨by rw[← hq_];exact(qk_ BK101)⟩;replace BK106:Aside0 (wr.heap[gb106]? = some (.cells #[.int .i64 (wrap64 (bt a0 0)),.int .i64 t102,.int .i64 (wrap64 (bt a0 1)),.int .i64 (wrap64 (bt a0 2)),.string (a0.extract 7 ((wrap64 (7+(wrap64 (bt a0 4)))):Int).toNat),u107005] 31 (0,0))):=⟨by rw[← hq_];exact(qk_ BK106)⟩;replace HB:Aside0 (Below w.heap.size w wr):=⟨by rw[← hq_];exact qBHB⟩;clear hq_));have hnb51:=NB101_106.out;have hnc51:=NB106_101.out;obtain⟨hcz52_0,hcz52_1,hcz52_2,hcz52_3,hcz52_4,hcz52_5,hfz52_0⟩:=qc6_ BK101))
                        refine bodyPost_ret (results_ct rfl _ _ gb101 31 z34_.b0 (0,0) _ rfl (by(with_reducible repeat(first|refine blk_drewN ?_ _|refine blk_drew ?_|refine blk_alloc ?_ _));refine blk_put (cs:=z34_.b0) ?_ 5 _ rfl;(with_reducible repeat(first|refine blk_drewN ?_ _|refine blk_drew ?_|refine blk_alloc ?_ _));refine blk_put (cs:=#[.int .i64 0,.int .i64 0,.int .i64 0,.int .i64 0,.string x102004_2,.slice none 0 0]) ?_ 4 _ rfl;(with_reducible repeat(first|refine blk_drewN ?_ _|refine blk_drew ?_|refine blk_alloc ?_ _));refine blk_put (cs:=#[.int .i64 0,.int .i64 0,.int .i64 0,.int .i64 x102003_2,.string x102004_2,.slice none 0 0]) ?_ 3 _ rfl;(with_reducible repeat(first|refine blk_drewN ?_ _|refine blk_drew ?_|refine blk_alloc ?_ _));refine blk_put (cs:=#[.int .i64 0,.int .i64 0,.int .i64 x102002_2,.int .i64 x102003_2,.string x102004_2,.slice none 0 0]) ?_ 2 _ rfl;(with_reducible repeat(first|refine blk_drewN ?_ _|refine blk_drew ?_|refine blk_alloc ?_ _));refine blk_put (cs:=#[.int .i64 0,.int .i64 x102001_2,.int .i64 x102002_2,.int .i64 x102003_2,.string x102004_2,.slice none 0 0]) ?_ 1 _ rfl;(with_reducible repeat(first|refine blk_drewN ?_ _|refine blk_drew ?_|refine blk_alloc ?_ _));refine blk_put (cs:=#[.int .i64 x102000_2,.int .i64 x102001_2,.int .i64 x102002_2,.int .i64 x102003_2,.string x102004_2,.slice none 0 0]) ?_ 0 _ rfl;(with_reducible repeat(first|refine blk_drewN ?_ _|refine blk_drew ?_|refine blk_alloc ?_ _));exact BK101.out) Try.underlying31 rfl qK) rfl ?_;exact⟨_,by first|rfl|(simp[errW_none,errW_some] <;> rfl)|(simp only[← hji45];first|rfl|(simp[errW_none,errW_some] <;> rfl))|(simp[*,errW_none,errW_some] <;> rfl),by first|exact Kd.R_nil _ _ _ _ _|exact Kd.N_nil _ _ _ _ _|exact Kd.V_nil _ _ _ _ _|exact Kd.Q_nil _ _ _ _ _|exact Kd.S_nil _ _ _ _ _,qBHB⟩
                       ·rw[if_neg c50]at H
                        have c50b0:decide ((a0.size:Int) < (wrap64 ((wrap64 ((wrap64 (x4_2+4))+t108))+t109)))=false:=decide_eq_false c50;clear c50
                        obtain⟨ji53,hji53⟩:∃ j_:Int,(wrap64 (x4_2+4))=j_:=⟨_,rfl⟩
                        replace H:(if 0≤(ji53)then(if(ji53)≤(wrap64 ((ji53)+t108))then(if(wrap64 ((ji53)+t108))≤(a0.size:Int)then(if 0≤(wrap64 ((ji53)+t108))then(if(wrap64 ((ji53)+t108))≤(wrap64 ((wrap64 ((ji53)+t108))+t109))then(if(wrap64 ((wrap64 ((ji53)+t108))+t109))≤(a0.size:Int)then(if x107005_2.length < 4398046511104 then(z34_.l0 k2 a0 (wrap64 ((ji53)+(wrap64 (t108+t109)))) (wrap64 (x6_2 - 1)) (wrap64 (bt a0 0)) t102 (wrap64 (bt a0 1)) (wrap64 (bt a0 2)) (a0.extract 7 ((wrap64 (7+(wrap64 (bt a0 4)))):Int).toNat) (x107005_2 ++ [(⟨a0.extract ((ji53):Int).toNat ((wrap64 ((ji53)+t108)):Int).toNat,a0.extract ((wrap64 ((ji53)+t108)):Int).toNat ((wrap64 ((wrap64 ((ji53)+t108))+t109)):Int).toNat⟩:S54)]))else(none))else(none))else(none))else(none))else(none))else(none))else(none))=some (r1,r2,r3,r4,r5,r6,r7):=qj_ hji53 H
                        (try rw[hji53]at c38b0)
                        (try rw[hji53]at c47b0)
                        (try rw[hji53]at c47b1)
                        (try rw[hji53]at c47)
                        (try rw[hji53]at c48b0)
                        (try rw[hji53]at c48b1)
                        (try rw[hji53]at c48)
                        (try rw[hji53]at c50b0)
                        (try rw[hji53]at A44)
                        (try rw[hji53]at A49)
                        have hji53w:(IntKind.i64.wrap (x4_2+4))=ji53:=(i64_w _).trans hji53;by_cases c54:0≤(ji53)
                        ·rw[if_pos c54]at H
                         have c54b0:=eq_true c54;have c54b1:decide (0≤(ji53))=true:=decide_eq_true c54;clear c54;by_cases c55:(ji53)≤(wrap64 ((ji53)+t108))
                         ·rw[if_pos c55]at H
                          have c55b0:=eq_true c55;have c55b1:decide ((ji53)≤(wrap64 ((ji53)+t108)))=true:=decide_eq_true c55;by_cases c56:(wrap64 ((ji53)+t108))≤(a0.size:Int)
                          ·rw[if_pos c56]at H
                           have c56b0:=eq_true c56;have c56b1:decide ((wrap64 ((ji53)+t108))≤(a0.size:Int))=true:=decide_eq_true c56
                           obtain⟨ji57,hji57⟩:∃ j_:Int,(wrap64 ((ji53)+t108))=j_:=⟨_,rfl⟩
                           replace H:(if 0≤(ji57)then(if(ji57)≤(wrap64 ((ji57)+t109))then(if(wrap64 ((ji57)+t109))≤(a0.size:Int)then(if x107005_2.length < 4398046511104 then(z34_.l0 k2 a0 (wrap64 ((ji53)+(wrap64 (t108+t109)))) (wrap64 (x6_2 - 1)) (wrap64 (bt a0 0)) t102 (wrap64 (bt a0 1)) (wrap64 (bt a0 2)) (a0.extract 7 ((wrap64 (7+(wrap64 (bt a0 4)))):Int).toNat) (x107005_2 ++ [(⟨a0.extract ((ji53):Int).toNat ((ji57):Int).toNat,a0.extract ((ji57):Int).toNat ((wrap64 ((ji57)+t109)):Int).toNat⟩:S54)]))else(none))else(none))else(none))else(none))=some (r1,r2,r3,r4,r5,r6,r7):=qj_ hji57 H
                           (try rw[hji57]at c55b0)
                           (try rw[hji57]at c55b1)
                           (try rw[hji57]at c55)
                           (try rw[hji57]at c56b0)
                           (try rw[hji57]at c56b1)
                           (try rw[hji57]at c56)
                           (try rw[hji57]at A44)
                           (try rw[hji57]at A49)
                           have hji57w:(IntKind.i64.wrap ((ji53)+t108))=ji57:=(i64_w _).trans hji57;by_cases c58:0≤(ji57)
                           ·rw[if_pos c58]at H
                            have c58b0:=eq_true c58;have c58b1:decide (0≤(ji57))=true:=decide_eq_true c58;clear c58;by_cases c59:(ji57)≤(wrap64 ((ji57)+t109))
                            ·rw[if_pos c59]at H
                             have c59b0:=eq_true c59;have c59b1:decide ((ji57)≤(wrap64 ((ji57)+t109)))=true:=decide_eq_true c59;by_cases c60:(wrap64 ((ji57)+t109))≤(a0.size:Int)
                             ·rw[if_pos c60]at H
                              have c60b0:=eq_true c60;have c60b1:decide ((wrap64 ((ji57)+t109))≤(a0.size:Int))=true:=decide_eq_true c60;by_cases c61:x107005_2.length < 4398046511104
                              ·rw[if_pos c61]at H
                               have LMc61:=qM_ c61;clear c61
                               obtain⟨y110,hy110⟩:∃ y_:List (S54),y_=(x107005_2 ++ [(⟨a0.extract ((ji53):Int).toNat ((ji57):Int).toNat,a0.extract ((ji57):Int).toNat ((wrap64 ((ji57)+t109)):Int).toNat⟩:S54)]):=⟨_,rfl⟩
                               replace H:(z34_.l0 k2 a0 (wrap64 ((ji53)+(wrap64 (t108+t109)))) (wrap64 (x6_2 - 1)) (wrap64 (bt a0 0)) t102 (wrap64 (bt a0 1)) (wrap64 (bt a0 2)) (a0.extract 7 ((wrap64 (7+(wrap64 (bt a0 4)))):Int).toNat) y110)=some (r1,r2,r3,r4,r5,r6,r7):=qh_ hy110 H;have Ny110:=qM_ hy110;clear hy110;have H' := qM_ H;clear H
                               try go_wp2_with (first|((with_reducible refine gate_callee (f:=57) rfl ?_);refine goesL_ (some 61) rfl rfl Try.func57 qK rfl #[.string (a0.extract (x4_2:Int).toNat ((ji45):Int).toNat)] rfl (by(try simp only[List.map_toArray,List.map_cons,List.map_nil]);first|done|(simp only[hji45];rfl)|rfl|(simp only[List.length_drop,List.length_take];rfl)) ?_;(with_reducible refine(z57_.calls k2 (a0.extract (x4_2:Int).toNat ((ji45):Int).toNat) t108 _ A44.out).mono ?_);rintro e w' ⟨rfl,⟨nd,rfl⟩⟩;refine⟨_,rfl,?_⟩;(try(rw[drewN_self wr];generalize hq_:World.drewN wr _=wr;replace HO_107005:Aside0 (Kd.R k54 54 wr w.heap.size (fun _=>True) u107005 x107005_2):=⟨by rw[← hq_];exact(qr_ HO_107005)⟩;replace BK101:Aside0 (wr.heap[gb101]? = some (.cells #[.int .i64 x102000_2,.int .i64 x102001_2,.int .i64 x102002_2,.int .i64 x102003_2,.string x102004_2,.slice none 0 0] 31 (0,0))):=⟨by rw[← hq_];exact(qk_ BK101)⟩;replace BK106:Aside0 (wr.heap[gb106]? = some (.cells #[.int .i64 (wrap64 (bt a0 0)),.int .i64 t102,.int .i64 (wrap64 (bt a0 1)),.int .i64 (wrap64 (bt a0 2)),.string (a0.extract 7 ((wrap64 (7+(wrap64 (bt a0 4)))):Int).toNat),u107005] 31 (0,0))):=⟨by rw[← hq_];exact(qk_ BK106)⟩;replace HB:Aside0 (Below w.heap.size w wr):=⟨by rw[← hq_];exact qBHB⟩;clear hq_)))|((with_reducible refine gate_callee (f:=57) rfl ?_);refine goesL_ (some 68) rfl rfl Try.func57 qK rfl #[.string (a0.extract ((ji45):Int).toNat ((ji53):Int).toNat)] rfl (by(try simp only[List.map_toArray,List.map_cons,List.map_nil]);first|done|(simp only[hji45,hji53];rfl)|rfl|(simp only[List.length_drop,List.length_take];rfl)) ?_;(with_reducible refine(z57_.calls k2 (a0.extract ((ji45):Int).toNat ((ji53):Int).toNat) t109 _ A49.out).mono ?_);rintro e w' ⟨rfl,⟨nd,rfl⟩⟩;refine⟨_,rfl,?_⟩;(try(rw[drewN_self wr];generalize hq_:World.drewN wr _=wr;replace HO_107005:Aside0 (Kd.R k54 54 wr w.heap.size (fun _=>True) u107005 x107005_2):=⟨by rw[← hq_];exact(qr_ HO_107005)⟩;replace BK101:Aside0 (wr.heap[gb101]? = some (.cells #[.int .i64 x102000_2,.int .i64 x102001_2,.int .i64 x102002_2,.int .i64 x102003_2,.string x102004_2,.slice none 0 0] 31 (0,0))):=⟨by rw[← hq_];exact(qk_ BK101)⟩;replace BK106:Aside0 (wr.heap[gb106]? = some (.cells #[.int .i64 (wrap64 (bt a0 0)),.int .i64 t102,.int .i64 (wrap64 (bt a0 1)),.int .i64 (wrap64 (bt a0 2)),.string (a0.extract 7 ((wrap64 (7+(wrap64 (bt a0 4)))):Int).toNat),u107005] 31 (0,0))):=⟨by rw[← hq_];exact(qk_ BK106)⟩;replace HB:Aside0 (Below w.heap.size w wr):=⟨by rw[← hq_];exact qBHB⟩;clear hq_))))
                               replace HO_107005:=qM_ (Kd.R_drew HO_107005.out);replace BK101:=qM_ (blk_drew BK101.out);replace BK106:=qM_ (blk_drew BK106.out);replace HB:=qM_ (qE_ HB.out)
                               refine start_ (n:=23) (S:=fun w' => w'.cell? ⟨gb106,0,none⟩=some (.int .i64 (wrap64 (bt a0 0)))∧w'.cell? ⟨gb106,1,none⟩=some (.int .i64 t102)∧w'.cell? ⟨gb106,2,none⟩=some (.int .i64 (wrap64 (bt a0 1)))∧w'.cell? ⟨gb106,3,none⟩=some (.int .i64 (wrap64 (bt a0 2)))∧w'.cell? ⟨gb106,4,none⟩=some (.string (a0.extract 7 ((wrap64 (7+(wrap64 (bt a0 4)))):Int).toNat))∧w'.cell? ⟨gb106,5,none⟩=some (u107005)) (ds:=[22]) #[qF,qF,qF,qF,qF,qF,qF,qF,qF,qF,qF,qF,qF,qF,qF,qF,qF,qF,qF,qF,qF,qF,qF] qK rfl rfl ⟨(qC_ BK106.out 0).trans rfl,(qC_ BK106.out 1).trans rfl,(qC_ BK106.out 2).trans rfl,(qC_ BK106.out 3).trans rfl,(qC_ BK106.out 4).trans rfl,(qC_ BK106.out 5).trans rfl⟩ (fun hHeld=> ?_);refine with_tabW z34_.tab15 z34_.bits15 (fun HT_ HW_=> ?_)
                               generalize wr.drew=w62 at HO_107005 BK101 BK106 HB hHeld ⊢;refine pure_ (i:=0) (N:=some 80) (v:= ?_) (a' := ?_) #[qT,qF,qF,qF,qF,qF,qF,qF,qF,qF,qF,qF,qF,qF,qF,qF,qF,qF,qF,qF,qF,qF,qF] rfl rfl (any_of HT_.out qK) (fun _ _ _ h=>h) (Or.inl ⟨by rfl,?_⟩) ?_ ?_;rotate_left
                               ·intro w'
                                go_simp;with_reducible rfl
                               rotate_left
                               ·simp only[Act.put,qS_,qW_]
                                rfl
                               refine pure_ (i:=2) (N:=some 82) (v:= ?_) (a' := ?_) #[qT,qF,qT,qF,qF,qF,qF,qF,qF,qF,qF,qF,qF,qF,qF,qF,qF,qF,qF,qF,qF,qF,qF] rfl rfl (any_of HT_.out qK) (fun _ _ _ h=>h) (Or.inl ⟨by rfl,?_⟩) ?_ ?_;rotate_left
                               ·intro w'
                                go_simp;with_reducible rfl
                               rotate_left
                               ·simp only[Act.put,qS_,qW_]
                                rfl
                               refine pure_ (i:=3) (N:=some 83) (v:= ?_) (a' := ?_) #[qT,qF,qT,qT,qF,qF,qF,qF,qF,qF,qF,qF,qF,qF,qF,qF,qF,qF,qF,qF,qF,qF,qF] rfl rfl (any_of HT_.out qK) (fun _ _ _ h=>h) (Or.inl ⟨by rfl,?_⟩) ?_ ?_;rotate_left
                               ·intro w'
                                go_simp;with_reducible rfl
                               rotate_left
                               ·simp only[Act.put,qS_,qW_]
                                rfl
                               refine pure_ (i:=4) (N:=some 84) (v:= ?_) (a' := ?_) #[qT,qF,qT,qT,qT,qF,qF,qF,qF,qF,qF,qF,qF,qF,qF,qF,qF,qF,qF,qF,qF,qF,qF] rfl rfl (any_of HT_.out qK) (fun _ _ _ h=>h) (Or.inl ⟨by rfl,?_⟩) ?_ ?_;rotate_left
                               ·intro w'
                                go_simp;with_reducible rfl
                               rotate_left
                               ·simp only[Act.put,qS_,qW_]
                                rfl
                               refine pure_ (i:=5) (N:=some 85) (v:= ?_) (a' := ?_) #[qT,qF,qT,qT,qT,qT,qF,qF,qF,qF,qF,qF,qF,qF,qF,qF,qF,qF,qF,qF,qF,qF,qF] rfl rfl (any_of HT_.out qK) (fun _ _ _ h=>h) (Or.inl ⟨by rfl,?_⟩) ?_ ?_;rotate_left
                               ·intro w'
                                go_simp;with_reducible rfl
                               rotate_left
                               ·simp only[Act.put,qS_,qW_]
                                rfl
                               refine pure_ (i:=6) (N:=some 86) (v:= ?_) (a' := ?_) #[qT,qF,qT,qT,qT,qT,qT,qF,qF,qF,qF,qF,qF,qF,qF,qF,qF,qF,qF,qF,qF,qF,qF] rfl rfl (any_of HT_.out qK) (fun _ _ _ h=>h) (Or.inl ⟨by rfl,?_⟩) ?_ ?_;rotate_left
                               ·intro w'
                                go_simp;with_reducible rfl
                               rotate_left
                               ·simp only[Act.put,qS_,qW_]
                                rfl
                               refine pure_ (i:=7) (N:=some 87) (v:= ?_) (a' := ?_) #[qT,qF,qT,qT,qT,qT,qT,qT,qF,qF,qF,qF,qF,qF,qF,qF,qF,qF,qF,qF,qF,qF,qF] rfl rfl (any_of HT_.out qK) (fun _ _ _ h=>h) (Or.inl ⟨by rfl,?_⟩) ?_ ?_;rotate_left
                               ·intro w'
                                go_simp;with_reducible rfl
                               rotate_left
                               ·simp only[Act.put,qS_,qW_]
                                rfl
                               refine pure_ (i:=8) (N:=some 88) (v:= ?_) (a' := ?_) #[qT,qF,qT,qT,qT,qT,qT,qT,qT,qF,qF,qF,qF,qF,qF,qF,qF,qF,qF,qF,qF,qF,qF] rfl rfl (any_of HT_.out qK) (fun _ _ _ h=>h) (Or.inl ⟨by rfl,?_⟩) ?_ ?_;rotate_left
                               ·intro w'
                                go_simp;with_reducible rfl
                               rotate_left
                               ·simp only[Act.put,qS_,qW_]
                                rfl
                               refine pure_ (i:=9) (N:=some 89) (v:= ?_) (a' := ?_) #[qT,qF,qT,qT,qT,qT,qT,qT,qT,qT,qF,qF,qF,qF,qF,qF,qF,qF,qF,qF,qF,qF,qF] rfl rfl (any_of HT_.out qK) (fun _ _ _ h=>h) (Or.inl ⟨by rfl,?_⟩) ?_ ?_;rotate_left
                               ·intro w'
                                go_simp;with_reducible rfl
                               rotate_left
                               ·simp only[Act.put,qS_,qW_]
                                rfl
                               refine pure_ (i:=10) (N:=some 90) (v:= ?_) (a' := ?_) #[qT,qF,qT,qT,qT,qT,qT,qT,qT,qT,qT,qF,qF,qF,qF,qF,qF,qF,qF,qF,qF,qF,qF] rfl rfl (any_of HT_.out qK) (fun _ _ _ h=>h) (Or.inl ⟨by rfl,?_⟩) ?_ ?_;rotate_left
                               ·intro w'
                                go_simp;with_reducible rfl
                               rotate_left
                               ·simp only[Act.put,qS_,qW_]
                                rfl
                               refine pure_ (i:=11) (N:=some 91) (v:= ?_) (a' := ?_) #[qT,qF,qT,qT,qT,qT,qT,qT,qT,qT,qT,qT,qF,qF,qF,qF,qF,qF,qF,qF,qF,qF,qF] rfl rfl (any_of HT_.out qK) (fun _ _ _ h=>h) (Or.inl ⟨by rfl,?_⟩) ?_ ?_;rotate_left
                               ·intro w'
                                go_simp;with_reducible rfl
                               rotate_left
                               ·simp only[Act.put,qS_,qW_]
                                rfl
                               refine pure_ (i:=12) (N:=some 92) (v:= ?_) (a' := ?_) #[qT,qF,qT,qT,qT,qT,qT,qT,qT,qT,qT,qT,qT,qF,qF,qF,qF,qF,qF,qF,qF,qF,qF] rfl rfl (any_of HT_.out qK) (fun _ _ _ h=>h) (Or.inl ⟨by rfl,?_⟩) ?_ ?_;rotate_left
                               ·intro w'
                                go_simp;with_reducible rfl
                               rotate_left
                               ·simp only[Act.put,qS_,qW_]
                                rfl
                               refine pure_ (i:=13) (N:=some 93) (v:= ?_) (a' := ?_) #[qT,qF,qT,qT,qT,qT,qT,qT,qT,qT,qT,qT,qT,qT,qF,qF,qF,qF,qF,qF,qF,qF,qF] rfl rfl (any_of HT_.out qK) (fun _ _ _ h=>h) (Or.inl ⟨by rfl,?_⟩) ?_ ?_;rotate_left
                               ·intro w'
                                go_simp;with_reducible rfl
                               rotate_left
                               ·simp only[Act.put,qS_,qW_]
                                rfl
                               refine pure_ (i:=14) (N:=some 94) (v:= ?_) (a' := ?_) #[qT,qF,qT,qT,qT,qT,qT,qT,qT,qT,qT,qT,qT,qT,qT,qF,qF,qF,qF,qF,qF,qF,qF] rfl rfl (any_of HT_.out qK) (fun _ _ _ h=>h) (Or.inl ⟨by rfl,?_⟩) ?_ ?_;rotate_left
                               ·intro w'
                                go_simp;with_reducible rfl
                               rotate_left
                               ·simp only[Act.put,qS_,qW_]
                                rfl
                               refine pure_ (i:=15) (N:=some 95) (v:= ?_) (a' := ?_) #[qT,qF,qT,qT,qT,qT,qT,qT,qT,qT,qT,qT,qT,qT,qT,qT,qF,qF,qF,qF,qF,qF,qF] rfl rfl (any_of HT_.out qK) (fun _ _ _ h=>h) (Or.inl ⟨by rfl,?_⟩) ?_ ?_;rotate_left
                               ·intro w'
                                go_simp;with_reducible rfl
                               rotate_left
                               ·simp only[Act.put,qS_,qW_]
                                rfl
                               refine pure_ (i:=16) (N:=some 96) (v:= ?_) (a' := ?_) #[qT,qF,qT,qT,qT,qT,qT,qT,qT,qT,qT,qT,qT,qT,qT,qT,qT,qF,qF,qF,qF,qF,qF] rfl rfl (any_of HT_.out qK) (fun _ _ _ h=>h) (Or.inl ⟨by rfl,?_⟩) ?_ ?_;rotate_left
                               ·intro w'
                                go_simp;with_reducible rfl
                               rotate_left
                               ·simp only[Act.put,qS_,qW_]
                                rfl
                               refine pure_ (i:=17) (N:=some 97) (v:= ?_) (a' := ?_) #[qT,qF,qT,qT,qT,qT,qT,qT,qT,qT,qT,qT,qT,qT,qT,qT,qT,qT,qF,qF,qF,qF,qF] rfl rfl (any_of HT_.out qK) (fun _ _ _ h=>h) (Or.inl ⟨by rfl,?_⟩) ?_ ?_;rotate_left
                               ·intro w'
                                go_simp;with_reducible rfl
                               rotate_left
                               ·simp only[Act.put,qS_,qW_]
                                rfl
                               refine pure_ (i:=18) (N:=some 98) (v:= ?_) (a' := ?_) #[qT,qF,qT,qT,qT,qT,qT,qT,qT,qT,qT,qT,qT,qT,qT,qT,qT,qT,qT,qF,qF,qF,qF] rfl rfl (any_of HT_.out qK) (fun _ _ _ h=>h) (Or.inl ⟨by rfl,?_⟩) ?_ ?_;rotate_left
                               ·intro w'
                                go_simp;with_reducible rfl
                               rotate_left
                               ·simp only[Act.put,qS_,qW_]
                                rfl
                               refine take_ (i:=1) (N:=some 81) (v:= ?_) (a' := ?_) #[qT,qT,qT,qT,qT,qT,qT,qT,qT,qT,qT,qT,qT,qT,qT,qT,qT,qT,qT,qF,qF,qF,qF] rfl rfl (take_ofW HT_.out HW_.out qK) (fun _ _ _ h=>h) (Or.inl ⟨by rfl,?_⟩) hHeld ?_ ?_;rotate_left
                               ·rintro w' ⟨s0,s1,s2,s3,s4,s5⟩
                                go_simp;with_reducible rfl
                               rotate_left
                               ·simp only[Act.put,qS_,qW_]
                                rfl
                               refine one_ (i:=19) (N:=some 99) #[qT,qT,qT,qT,qT,qT,qT,qT,qT,qT,qT,qT,qT,qT,qT,qT,qT,qT,qT,qT,qF,qF,qF] rfl rfl (one_of HT_.out qK) (by decide) (fun K hK=> ?_);refine value_ (w1:= ?_) (v:= ?_) (by rfl) rfl ?_ ?_;rotate_left 2
                               ·go_simp
                                constructor
                                ·rfl
                                ·rfl
                               refine hK.out _ _ ⟨(qC_ (blk_alloc BK106.out _) 0).trans rfl,(qC_ (blk_alloc BK106.out _) 1).trans rfl,(qC_ (blk_alloc BK106.out _) 2).trans rfl,(qC_ (blk_alloc BK106.out _) 3).trans rfl,(qC_ (blk_alloc BK106.out _) 4).trans rfl,(qC_ (blk_alloc BK106.out _) 5).trans rfl⟩ (fun hHeld=> ?_);clear hK K;refine norm_ (a' := ?_) ?_ ?_;rotate_left
                               ·show Act.put _ (some 99) _=_
                                simp only[Act.put,qS_,qW_];rfl
                               refine one_ (i:=20) (N:=some 100) #[qT,qT,qT,qT,qT,qT,qT,qT,qT,qT,qT,qT,qT,qT,qT,qT,qT,qT,qT,qT,qT,qF,qF] rfl rfl (one_of HT_.out qK) (by decide) (fun K hK=> ?_);refine Kd.R_append_step k54 (w0:=w) w.heap.size (by rfl) (.tmp 81) (.tmp 99) 29 54 (.agg #[(.string ⟨#[]⟩),(.string ⟨#[]⟩)]) 32 rfl Try.underlying29 info54 rfl (by decide) (by omega) u107005 x107005_2 (⟨a0.extract ((ji53):Int).toNat ((ji57):Int).toNat,a0.extract ((ji57):Int).toNat ((wrap64 ((ji57)+t109)):Int).toNat⟩:S54) [.string (a0.extract ((ji53):Int).toNat ((ji57):Int).toNat),.string (a0.extract ((ji57):Int).toNat ((wrap64 ((ji57)+t109)):Int).toNat)] (fun _=>True) (fun _=>False) rfl rfl ?aP (fun _ hk=>hk.elim) ?aF ?aO ?aB ?aS ?aL ?_
                               (case aP=>exact k54_mkM _ _ _ (⟨a0.extract ((ji53):Int).toNat ((ji57):Int).toNat,a0.extract ((ji57):Int).toNat ((wrap64 ((ji57)+t109)):Int).toNat⟩:S54))
                               (case aB=>exact qBHB)
                               (case aF=>exact(fun _ _=>trivial))
                               (case aO=>exact(qr_ HO_107005))
                               (case aS=>exact(below_size qBHB))
                               (case aL=>have:=LMc61.out;omega)
                               intro v111 w63 ho hb hg hat
                               rw[← Ny110.out]at ho;replace BK101:=qM_ (blk_grown (qk_ BK101) hg (Kd.R_ne HO_107005.out BK101.out (by decide)));replace BK106:=qM_ (blk_grown (g:=gb106) (o:= .cells #[.int .i64 (wrap64 (bt a0 0)),.int .i64 t102,.int .i64 (wrap64 (bt a0 1)),.int .i64 (wrap64 (bt a0 2)),.string (a0.extract 7 ((wrap64 (7+(wrap64 (bt a0 4)))):Int).toNat),u107005] 31 (0,0)) (qk_ BK106) hg (Kd.R_ne HO_107005.out BK106.out (by decide)));replace HB:=qM_ (hb);have HO112:=qM_ (ho);clear HO_107005;clear ho hb hg hat;obtain⟨Ao64,co64,eo64⟩:=Kd.R_slice HO112.out
                               (first|subst eo64|(injection eo64 with f1_ f2_ f3_;have f4_:=f1_.symm;have f5_:=f3_.symm;clear f1_ f2_ f3_;subst f4_;subst f5_))
                               refine hK.out _ _ ⟨(qC_ BK106.out 0).trans rfl,(qC_ BK106.out 1).trans rfl,(qC_ BK106.out 2).trans rfl,(qC_ BK106.out 3).trans rfl,(qC_ BK106.out 4).trans rfl,(qC_ BK106.out 5).trans rfl⟩ (fun hHeld=> ?_);clear hK K;refine norm_ (a' := ?_) ?_ ?_;rotate_left
                               ·show Act.put _ (some 100) _=_
                                simp only[Act.put,qS_,qW_];rfl
                               refine pure_ (i:=21) (N:=some 101) (v:= ?_) (a' := ?_) #[qT,qT,qT,qT,qT,qT,qT,qT,qT,qT,qT,qT,qT,qT,qT,qT,qT,qT,qT,qT,qT,qT,qF] rfl rfl (any_of HT_.out qK) (fun _ _ _ h=>h) (Or.inl ⟨by rfl,?_⟩) ?_ ?_;rotate_left
                               ·intro w'
                                go_simp;with_reducible rfl
                               rotate_left
                               ·simp only[Act.put,qS_,qW_]
                                rfl
                               refine last_ (i:=22) (N:=none) #[qT,qT,qT,qT,qT,qT,qT,qT,qT,qT,qT,qT,qT,qT,qT,qT,qT,qT,qT,qT,qT,qT,qT] rfl rfl (one_of HT_.out qK) (by decide) (fun K hK=> ?_);have hs65:w63.cell? ⟨gb106,5,none⟩=some (u107005):=(qC_ BK106.out 5).trans rfl;have hfs65:=qF_ BK106.out 5;have hns65_0:=NB101_106.out;have hms65_0:=NB106_101.out;refine skip_ (w1:= ?_) (by rfl) rfl ?_ ?_;rotate_left
                               ·go_simp
                                rfl
                               refine hK.out _ _ ?_;clear hK K;refine done_ (done_of HT_.out qK) ?_
                               try go_wp2
                               go_roundg k2
                               case measure=>have:=HJ1.out;have:=HK2.out;omega
                               case rel=>exact⟨(wrap64 ((ji53)+(wrap64 (t108+t109)))),(wrap64 (x6_2 - 1)),(x102000_2),(x102001_2),(x102002_2),(x102003_2),(x102004_2),(y110),(.slice Ao64 y110.length co64),(by first|rfl|(simp;done)|(simp only[← hji53] <;> (first|rfl|simp))|(simp[*];done)),qff_,H', ⟨by have:=HJ1.out;have:=HK2.out;omega⟩,⟨by(with_reducible repeat(first|apply Kd.R_alloc|apply Kd.R_drewN|apply Kd.R_drew));exact Kd.R_mono (qf1_ HO112 BK106) (fun _ hk=>trivial)⟩,⟨qp_ BK101⟩,⟨by(with_reducible repeat(first|refine blk_drewN ?_ _|refine blk_drew ?_|refine blk_alloc ?_ _));refine blk_put (cs:=#[.int .i64 (wrap64 (bt a0 0)),.int .i64 t102,.int .i64 (wrap64 (bt a0 1)),.int .i64 (wrap64 (bt a0 2)),.string (a0.extract 7 ((wrap64 (7+(wrap64 (bt a0 4)))):Int).toNat),u107005]) ?_ 5 _ rfl;(with_reducible repeat(first|refine blk_drewN ?_ _|refine blk_drew ?_|refine blk_alloc ?_ _));exact BK106.out⟩,⟨qBHB⟩⟩
                              ·rw[if_neg c61]at H
                               exact absurd H (by simp)
                             ·rw[if_neg c60]at H
                              exact absurd H (by simp)
                            ·rw[if_neg c59]at H
                             exact absurd H (by simp)
                           ·rw[if_neg c58]at H
                            exact absurd H (by simp)
                          ·rw[if_neg c56]at H
                           exact absurd H (by simp)
                         ·rw[if_neg c55]at H
                          exact absurd H (by simp)
                        ·rw[if_neg c54]at H
                         exact absurd H (by simp)
                      ·rw[if_neg c48]at H
                       exact absurd H (by simp)
                     ·rw[if_neg c47]at H
                      exact absurd H (by simp)
                    ·rw[if_neg c46]at H
                     exact absurd H (by simp)
                   ·rw[if_neg c43]at H
                    exact absurd H (by simp)
                  ·rw[if_neg c42]at H
                   exact absurd H (by simp)
                 ·rw[if_neg c41]at H
                  exact absurd H (by simp)
               ·rw[if_neg c37]at H
                have c37b0:decide (0 < x6_2)=false:=decide_eq_false c37;clear c37;by_cases c66:x4_2=(a0.size:Int)
                ·rw[if_pos c66]at H
                 have c66b0:(x4_2 == (a0.size:Int))=true:=beq_iff_eq.mpr c66;have c66b1:(x4_2 != (a0.size:Int))=false:=bne_eq_false_iff_eq.mpr c66;clear c66;replace H:=Option.bind_eq_some_iff.mp H;obtain⟨t107,A670,H⟩:=H;have A67:=qM_ A670;clear A670;simp only[Option.some.injEq,Prod.mk.injEq]at H;obtain⟨rfl,rfl,rfl,rfl,rfl,rfl,rfl⟩:=H
                 try go_wp2
                 replace HO_107005:=qM_ (Kd.R_drew HO_107005.out);replace BK101:=qM_ (blk_drew BK101.out);replace BK106:=qM_ (blk_drew BK106.out);replace HB:=qM_ (qE_ HB.out);obtain⟨Ao69,co69,eo69⟩:=Kd.R_slice HO_107005.out
                 (first|subst eo69|(injection eo69 with f1_ f2_ f3_;have f4_:=f1_.symm;have f5_:=f3_.symm;clear f1_ f2_ f3_;subst f4_;subst f5_))
                 refine start_ (n:=11) (S:=fun w' => w'.cell? ⟨gb106,0,none⟩=some (.int .i64 (wrap64 (bt a0 0)))∧w'.cell? ⟨gb106,1,none⟩=some (.int .i64 t102)∧w'.cell? ⟨gb106,2,none⟩=some (.int .i64 (wrap64 (bt a0 1)))∧w'.cell? ⟨gb106,3,none⟩=some (.int .i64 (wrap64 (bt a0 2)))∧w'.cell? ⟨gb106,4,none⟩=some (.string (a0.extract 7 ((wrap64 (7+(wrap64 (bt a0 4)))):Int).toNat))∧w'.cell? ⟨gb106,5,none⟩=some (.slice Ao69 x107005_2.length co69)) (ds:=[]) #[qF,qF,qF,qF,qF,qF,qF,qF,qF,qF,qF] qK rfl rfl ⟨(qC_ BK106.out 0).trans rfl,(qC_ BK106.out 1).trans rfl,(qC_ BK106.out 2).trans rfl,(qC_ BK106.out 3).trans rfl,(qC_ BK106.out 4).trans rfl,(qC_ BK106.out 5).trans rfl⟩ (fun hHeld=> ?_);refine with_tabW z34_.tab17 z34_.bits17 (fun HT_ HW_=> ?_)
                 generalize wr.drew=w68 at HO_107005 BK101 BK106 HB hHeld ⊢;refine pure_ (i:=1) (N:=some 108) (v:= ?_) (a' := ?_) #[qF,qT,qF,qF,qF,qF,qF,qF,qF,qF,qF] rfl rfl (any_of HT_.out qK) (fun _ _ _ h=>h) (Or.inl ⟨by rfl,?_⟩) ?_ ?_;rotate_left
                 ·intro w'
                  go_simp;with_reducible rfl
                 rotate_left
                 ·simp only[Act.put,qS_,qW_]
                  rfl
                 refine pure_ (i:=2) (N:=some 109) (v:= ?_) (a' := ?_) #[qF,qT,qT,qF,qF,qF,qF,qF,qF,qF,qF] rfl rfl (any_of HT_.out qK) (fun _ _ _ h=>h) (Or.inl ⟨by rfl,?_⟩) ?_ ?_;rotate_left
                 ·intro w'
                  go_simp;with_reducible rfl
                 rotate_left
                 ·simp only[Act.put,qS_,qW_]
                  rfl
                 refine pure_ (i:=3) (N:=some 110) (v:= ?_) (a' := ?_) #[qF,qT,qT,qT,qF,qF,qF,qF,qF,qF,qF] rfl rfl (any_of HT_.out qK) (fun _ _ _ h=>h) (Or.inl ⟨by rfl,?_⟩) ?_ ?_;rotate_left
                 ·intro w'
                  go_simp;with_reducible rfl
                 rotate_left
                 ·simp only[Act.put,qS_,qW_]
                  rfl
                 refine pure_ (i:=4) (N:=some 111) (v:= ?_) (a' := ?_) #[qF,qT,qT,qT,qT,qF,qF,qF,qF,qF,qF] rfl rfl (any_of HT_.out qK) (fun _ _ _ h=>h) (Or.inl ⟨by rfl,?_⟩) ?_ ?_;rotate_left
                 ·intro w'
                  go_simp;with_reducible rfl
                 rotate_left
                 ·simp only[Act.put,qS_,qW_]
                  rfl
                 refine pure_ (i:=5) (N:=some 112) (v:= ?_) (a' := ?_) #[qF,qT,qT,qT,qT,qT,qF,qF,qF,qF,qF] rfl rfl (any_of HT_.out qK) (fun _ _ _ h=>h) (Or.inl ⟨by rfl,?_⟩) ?_ ?_;rotate_left
                 ·intro w'
                  go_simp;with_reducible rfl
                 rotate_left
                 ·simp only[Act.put,qS_,qW_]
                  rfl
                 refine take_ (i:=0) (N:=some 107) (v:= ?_) (a' := ?_) #[qT,qT,qT,qT,qT,qT,qF,qF,qF,qF,qF] rfl rfl (take_ofW HT_.out HW_.out qK) (fun _ _ _ h=>h) (Or.inl ⟨by rfl,?_⟩) hHeld ?_ ?_;rotate_left
                 ·rintro w' ⟨s0,s1,s2,s3,s4,s5⟩
                  go_simp;with_reducible rfl
                 rotate_left
                 ·simp only[Act.put,qS_,qW_]
                  rfl
                 refine take_ (i:=6) (N:=some 113) (v:= ?_) (a' := ?_) #[qT,qT,qT,qT,qT,qT,qT,qF,qF,qF,qF] rfl rfl (take_ofW HT_.out HW_.out qK) (fun _ _ _ h=>h) (Or.inl ⟨by rfl,?_⟩) hHeld ?_ ?_;rotate_left
                 ·rintro w' ⟨s0,s1,s2,s3,s4,s5⟩
                  go_simp;with_reducible rfl
                 rotate_left
                 ·simp only[Act.put,qS_,qW_]
                  rfl
                 refine one_ (i:=7) (N:=some 114) #[qT,qT,qT,qT,qT,qT,qT,qT,qF,qF,qF] rfl rfl (one_of HT_.out qK) (by decide) (fun K hK=> ?_);refine goes_ Try.func20 qK rfl #[.agg #[.int .i64 (wrap64 (bt a0 0)),.int .i64 t102,.int .i64 (wrap64 (bt a0 1)),.int .i64 (wrap64 (bt a0 2)),.string (a0.extract 7 ((wrap64 (7+(wrap64 (bt a0 4)))):Int).toNat),.slice Ao69 x107005_2.length co69]] (by rfl) rfl rfl qll_ ?_
                 with_reducible refine(z20_.calls k2 (wrap64 (bt a0 0)) t102 (wrap64 (bt a0 1)) (wrap64 (bt a0 2)) (a0.extract 7 ((wrap64 (7+(wrap64 (bt a0 4)))):Int).toNat) _ _ x107005_2 t107 _ ?side1 ?side2 A67.out).mono ?_
                 (case side1=>exact qcc_ (Kd.R_reads' HO_107005.out).2.2)
                 (case side2=>exact(Kd.R_reads' HO_107005.out).2.1)
                 rintro e w70 ⟨rfl,hb⟩
                 refine⟨_,rfl,?_⟩;replace HO_107005:=qM_ (Kd.R_below (qr_ HO_107005) hb);replace BK101:=qM_ (blk_below (qk_ BK101) hb);replace BK106:=qM_ (blk_below (g:=gb106) (o:= .cells #[.int .i64 (wrap64 (bt a0 0)),.int .i64 t102,.int .i64 (wrap64 (bt a0 1)),.int .i64 (wrap64 (bt a0 2)),.string (a0.extract 7 ((wrap64 (7+(wrap64 (bt a0 4)))):Int).toNat),.slice Ao69 x107005_2.length co69] 31 (0,0)) (qk_ BK106) hb);replace HB:=qM_ (below_step qBHB hb)
                 (try clear hb)
                 (try clear hb2)
                 (try clear hk)
                 (try clear hi)
                 refine hK.out _ _ ⟨(qC_ BK106.out 0).trans rfl,(qC_ BK106.out 1).trans rfl,(qC_ BK106.out 2).trans rfl,(qC_ BK106.out 3).trans rfl,(qC_ BK106.out 4).trans rfl,(qC_ BK106.out 5).trans rfl⟩ (fun hHeld=> ?_);clear hK K;refine norm_ (a' := ?_) ?_ ?_;rotate_left
                 ·show Act.put _ (some 114) _=_
                  simp only[Act.put,qS_,qW_];rfl
                 refine pure_ (i:=8) (N:=some 115) (v:= ?_) (a' := ?_) #[qT,qT,qT,qT,qT,qT,qT,qT,qT,qF,qF] rfl rfl (any_of HT_.out qK) (fun _ _ _ h=>h) (Or.inl ⟨by rfl,?_⟩) ?_ ?_;rotate_left
                 ·intro w'
                  go_simp;with_reducible rfl
                 rotate_left
                 ·simp only[Act.put,qS_,qW_]
                  rfl
                 refine one_ (i:=9) (N:=none) #[qT,qT,qT,qT,qT,qT,qT,qT,qT,qT,qF] rfl rfl (one_of HT_.out qK) (by decide) (fun K hK=> ?_);have hs71:w70.cell? ⟨gb101,0,none⟩=some (.int .i64 x102000_2):=(qC_ BK101.out 0).trans rfl;have hfs71:=qF_ BK101.out 0;have hns71_1:=NB106_101.out;have hms71_1:=NB101_106.out;have hs72:w70.cell? ⟨gb101,1,none⟩=some (.int .i64 x102001_2):=(qC_ BK101.out 1).trans rfl;have hfs72:=qF_ BK101.out 1;have hns72_1:=NB106_101.out;have hms72_1:=NB101_106.out;have hs73:w70.cell? ⟨gb101,2,none⟩=some (.int .i64 x102002_2):=(qC_ BK101.out 2).trans rfl;have hfs73:=qF_ BK101.out 2;have hns73_1:=NB106_101.out;have hms73_1:=NB101_106.out;have hs74:w70.cell? ⟨gb101,3,none⟩=some (.int .i64 x102003_2):=(qC_ BK101.out 3).trans rfl;have hfs74:=qF_ BK101.out 3;have hns74_1:=NB106_101.out;have hms74_1:=NB101_106.out;have hs75:w70.cell? ⟨gb101,4,none⟩=some (.string x102004_2):=(qC_ BK101.out 4).trans rfl;have hfs75:=qF_ BK101.out 4;have hns75_1:=NB106_101.out;have hms75_1:=NB101_106.out;have hs76:w70.cell? ⟨gb101,5,none⟩=some (.slice none 0 0):=(qC_ BK101.out 5).trans rfl;have hfs76:=qF_ BK101.out 5;have hns76_1:=NB106_101.out;have hms76_1:=NB101_106.out;refine skip_ (w1:= ?_) (by rfl) rfl ?_ ?_;rotate_left
                 ·go_simp
                  rfl
                 refine hK.out _ _ ⟨(qcf_ hHeld.1),(qcf_ hHeld.2.1),(qcf_ hHeld.2.2.1),(qcf_ hHeld.2.2.2.1),(qcf_ hHeld.2.2.2.2.1),(qcf_ hHeld.2.2.2.2.2)⟩ (fun hHeld=> ?_);clear hK K;refine pure_ (i:=10) (N:=some 3) (v:= ?_) (a' := ?_) #[qT,qT,qT,qT,qT,qT,qT,qT,qT,qT,qT] rfl rfl (any_of HT_.out qK) (fun _ _ _ h=>h) (Or.inl ⟨by rfl,?_⟩) ?_ ?_;rotate_left
                 ·intro w'
                  go_simp;with_reducible rfl
                 rotate_left
                 ·simp only[Act.put,qS_,qW_]
                  rfl
                 refine done_ (done_of HT_.out qK) ?_
                 try go_wp2
                 refine bodyPost_ret (results_ct rfl _ _ gb101 31 #[.int .i64 (wrap64 (bt a0 0)),.int .i64 t102,.int .i64 (wrap64 (bt a0 1)),.int .i64 (wrap64 (bt a0 2)),.string (a0.extract 7 ((wrap64 (7+(wrap64 (bt a0 4)))):Int).toNat),.slice Ao69 x107005_2.length co69] (0,0) _ rfl (by(with_reducible repeat(first|refine blk_drewN ?_ _|refine blk_drew ?_|refine blk_alloc ?_ _));refine blk_put (cs:=#[.int .i64 (wrap64 (bt a0 0)),.int .i64 t102,.int .i64 (wrap64 (bt a0 1)),.int .i64 (wrap64 (bt a0 2)),.string (a0.extract 7 ((wrap64 (7+(wrap64 (bt a0 4)))):Int).toNat),.slice none 0 0]) ?_ 5 _ rfl;(with_reducible repeat(first|refine blk_drewN ?_ _|refine blk_drew ?_|refine blk_alloc ?_ _));refine blk_put (cs:=#[.int .i64 (wrap64 (bt a0 0)),.int .i64 t102,.int .i64 (wrap64 (bt a0 1)),.int .i64 (wrap64 (bt a0 2)),.string x102004_2,.slice none 0 0]) ?_ 4 _ rfl;(with_reducible repeat(first|refine blk_drewN ?_ _|refine blk_drew ?_|refine blk_alloc ?_ _));refine blk_put (cs:=#[.int .i64 (wrap64 (bt a0 0)),.int .i64 t102,.int .i64 (wrap64 (bt a0 1)),.int .i64 x102003_2,.string x102004_2,.slice none 0 0]) ?_ 3 _ rfl;(with_reducible repeat(first|refine blk_drewN ?_ _|refine blk_drew ?_|refine blk_alloc ?_ _));refine blk_put (cs:=#[.int .i64 (wrap64 (bt a0 0)),.int .i64 t102,.int .i64 x102002_2,.int .i64 x102003_2,.string x102004_2,.slice none 0 0]) ?_ 2 _ rfl;(with_reducible repeat(first|refine blk_drewN ?_ _|refine blk_drew ?_|refine blk_alloc ?_ _));refine blk_put (cs:=#[.int .i64 (wrap64 (bt a0 0)),.int .i64 x102001_2,.int .i64 x102002_2,.int .i64 x102003_2,.string x102004_2,.slice none 0 0]) ?_ 1 _ rfl;(with_reducible repeat(first|refine blk_drewN ?_ _|refine blk_drew ?_|refine blk_alloc ?_ _));refine blk_put (cs:=#[.int .i64 x102000_2,.int .i64 x102001_2,.int .i64 x102002_2,.int .i64 x102003_2,.string x102004_2,.slice none 0 0]) ?_ 0 _ rfl;(with_reducible repeat(first|refine blk_drewN ?_ _|refine blk_drew ?_|refine blk_alloc ?_ _));exact BK101.out) Try.underlying31 rfl qK) rfl ?_;exact⟨_,qee_,by(with_reducible repeat(first|apply Kd.R_alloc|apply Kd.R_drewN|apply Kd.R_drew));exact Kd.R_mono (qf6_ HO_107005 BK101) (fun _ hk=>trivial),qBHB⟩
                ·rw[if_neg c66]at H
                 have c66b0:(x4_2 == (a0.size:Int))=false:=beq_eq_false_iff_ne.mpr c66;have c66b1:(x4_2 != (a0.size:Int))=true:=bne_iff_ne.mpr c66;simp only[Option.some.injEq,Prod.mk.injEq]at H;obtain⟨rfl,rfl,rfl,rfl,rfl,rfl,rfl⟩:=H
                 try go_wp2
                 replace HO_107005:=qM_ (Kd.R_drew HO_107005.out);replace BK101:=qM_ (blk_drew BK101.out);replace BK106:=qM_ (blk_drew BK106.out);replace HB:=qM_ (qE_ HB.out);obtain⟨Ao83,co83,eo83⟩:=Kd.R_slice HO_107005.out
                 (first|subst eo83|(injection eo83 with f1_ f2_ f3_;have f4_:=f1_.symm;have f5_:=f3_.symm;clear f1_ f2_ f3_;subst f4_;subst f5_))
                 refine start_ (n:=11) (S:=fun w' => w'.cell? ⟨gb106,0,none⟩=some (.int .i64 (wrap64 (bt a0 0)))∧w'.cell? ⟨gb106,1,none⟩=some (.int .i64 t102)∧w'.cell? ⟨gb106,2,none⟩=some (.int .i64 (wrap64 (bt a0 1)))∧w'.cell? ⟨gb106,3,none⟩=some (.int .i64 (wrap64 (bt a0 2)))∧w'.cell? ⟨gb106,4,none⟩=some (.string (a0.extract 7 ((wrap64 (7+(wrap64 (bt a0 4)))):Int).toNat))∧w'.cell? ⟨gb106,5,none⟩=some (.slice Ao83 x107005_2.length co83)) (ds:=[]) #[qF,qF,qF,qF,qF,qF,qF,qF,qF,qF,qF] qK rfl rfl ⟨(qC_ BK106.out 0).trans rfl,(qC_ BK106.out 1).trans rfl,(qC_ BK106.out 2).trans rfl,(qC_ BK106.out 3).trans rfl,(qC_ BK106.out 4).trans rfl,(qC_ BK106.out 5).trans rfl⟩ (fun hHeld=> ?_);refine with_tabW z34_.tab17 z34_.bits17 (fun HT_ HW_=> ?_)
                 generalize wr.drew=w77 at HO_107005 BK101 BK106 HB hHeld ⊢;refine pure_ (i:=1) (N:=some 108) (v:= ?_) (a' := ?_) #[qF,qT,qF,qF,qF,qF,qF,qF,qF,qF,qF] rfl rfl (any_of HT_.out qK) (fun _ _ _ h=>h) (Or.inl ⟨by rfl,?_⟩) ?_ ?_;rotate_left
                 ·intro w'
                  go_simp;with_reducible rfl
                 rotate_left
                 ·simp only[Act.put,qS_,qW_]
                  rfl
                 refine pure_ (i:=2) (N:=some 109) (v:= ?_) (a' := ?_) #[qF,qT,qT,qF,qF,qF,qF,qF,qF,qF,qF] rfl rfl (any_of HT_.out qK) (fun _ _ _ h=>h) (Or.inl ⟨by rfl,?_⟩) ?_ ?_;rotate_left
                 ·intro w'
                  go_simp;with_reducible rfl
                 rotate_left
                 ·simp only[Act.put,qS_,qW_]
                  rfl
                 refine pure_ (i:=3) (N:=some 110) (v:= ?_) (a' := ?_) #[qF,qT,qT,qT,qF,qF,qF,qF,qF,qF,qF] rfl rfl (any_of HT_.out qK) (fun _ _ _ h=>h) (Or.inl ⟨by rfl,?_⟩) ?_ ?_;rotate_left
                 ·intro w'
                  go_simp;with_reducible rfl
                 rotate_left
                 ·simp only[Act.put,qS_,qW_]
                  rfl
                 refine pure_ (i:=4) (N:=some 111) (v:= ?_) (a' := ?_) #[qF,qT,qT,qT,qT,qF,qF,qF,qF,qF,qF] rfl rfl (any_of HT_.out qK) (fun _ _ _ h=>h) (Or.inl ⟨by rfl,?_⟩) ?_ ?_;rotate_left
                 ·intro w'
                  go_simp;with_reducible rfl
                 rotate_left
                 ·simp only[Act.put,qS_,qW_]
                  rfl
                 refine pure_ (i:=5) (N:=some 112) (v:= ?_) (a' := ?_) #[qF,qT,qT,qT,qT,qT,qF,qF,qF,qF,qF] rfl rfl (any_of HT_.out qK) (fun _ _ _ h=>h) (Or.inl ⟨by rfl,?_⟩) ?_ ?_;rotate_left
                 ·intro w'
                  go_simp;with_reducible rfl
                 rotate_left
                 ·simp only[Act.put,qS_,qW_]
                  rfl
                 refine pure_ (i:=6) (N:=some 113) (v:=undef) (a' := ?_) #[qF,qT,qT,qT,qT,qT,qT,qF,qF,qF,qF] rfl rfl (any_of HT_.out qK) (fun _ _ _ h=>h) (Or.inr ⟨by rfl,rfl⟩) ?_ ?_;rotate_left
                 ·simp only[Act.put,qS_,qW_]
                  rfl
                 refine pure_ (i:=7) (N:=some 114) (v:=undef) (a' := ?_) #[qF,qT,qT,qT,qT,qT,qT,qT,qF,qF,qF] rfl rfl (any_of HT_.out qK) (fun _ _ _ h=>h) (Or.inr ⟨by rfl,rfl⟩) ?_ ?_;rotate_left
                 ·simp only[Act.put,qS_,qW_]
                  rfl
                 refine pure_ (i:=8) (N:=some 115) (v:= ?_) (a' := ?_) #[qF,qT,qT,qT,qT,qT,qT,qT,qT,qF,qF] rfl rfl (any_of HT_.out qK) (fun _ _ _ h=>h) (Or.inl ⟨by rfl,?_⟩) ?_ ?_;rotate_left
                 ·intro w'
                  go_simp;with_reducible rfl
                 rotate_left
                 ·simp only[Act.put,qS_,qW_]
                  rfl
                 refine take_ (i:=0) (N:=some 107) (v:= ?_) (a' := ?_) #[qT,qT,qT,qT,qT,qT,qT,qT,qT,qF,qF] rfl rfl (take_ofW HT_.out HW_.out qK) (fun _ _ _ h=>h) (Or.inl ⟨by rfl,?_⟩) hHeld ?_ ?_;rotate_left
                 ·rintro w' ⟨s0,s1,s2,s3,s4,s5⟩
                  go_simp;with_reducible rfl
                 rotate_left
                 ·simp only[Act.put,qS_,qW_]
                  rfl
                 refine one_ (i:=9) (N:=none) #[qT,qT,qT,qT,qT,qT,qT,qT,qT,qT,qF] rfl rfl (one_of HT_.out qK) (by decide) (fun K hK=> ?_);have hs78:w77.cell? ⟨gb101,0,none⟩=some (.int .i64 x102000_2):=(qC_ BK101.out 0).trans rfl;have hfs78:=qF_ BK101.out 0;have hns78_1:=NB106_101.out;have hms78_1:=NB101_106.out;have hs79:w77.cell? ⟨gb101,1,none⟩=some (.int .i64 x102001_2):=(qC_ BK101.out 1).trans rfl;have hfs79:=qF_ BK101.out 1;have hns79_1:=NB106_101.out;have hms79_1:=NB101_106.out;have hs80:w77.cell? ⟨gb101,2,none⟩=some (.int .i64 x102002_2):=(qC_ BK101.out 2).trans rfl;have hfs80:=qF_ BK101.out 2;have hns80_1:=NB106_101.out;have hms80_1:=NB101_106.out;have hs81:w77.cell? ⟨gb101,3,none⟩=some (.int .i64 x102003_2):=(qC_ BK101.out 3).trans rfl;have hfs81:=qF_ BK101.out 3;have hns81_1:=NB106_101.out;have hms81_1:=NB101_106.out;have hs82:w77.cell? ⟨gb101,4,none⟩=some (.string x102004_2):=(qC_ BK101.out 4).trans rfl;have hfs82:=qF_ BK101.out 4;have hns82_1:=NB106_101.out;have hms82_1:=NB101_106.out;have hs84:w77.cell? ⟨gb101,5,none⟩=some (.slice none 0 0):=(qC_ BK101.out 5).trans rfl;have hfs84:=qF_ BK101.out 5;have hns84_1:=NB106_101.out;have hms84_1:=NB101_106.out;refine skip_ (w1:= ?_) (by rfl) rfl ?_ ?_;rotate_left
                 ·go_simp
                  rfl
                 refine hK.out _ _ ⟨(qcf_ hHeld.1),(qcf_ hHeld.2.1),(qcf_ hHeld.2.2.1),(qcf_ hHeld.2.2.2.1),(qcf_ hHeld.2.2.2.2.1),(qcf_ hHeld.2.2.2.2.2)⟩ (fun hHeld=> ?_);clear hK K;refine pure_ (i:=10) (N:=some 3) (v:= ?_) (a' := ?_) #[qT,qT,qT,qT,qT,qT,qT,qT,qT,qT,qT] rfl rfl (any_of HT_.out qK) (fun _ _ _ h=>h) (Or.inl ⟨by rfl,?_⟩) ?_ ?_;rotate_left
                 ·intro w'
                  go_simp;with_reducible rfl
                 rotate_left
                 ·simp only[Act.put,qS_,qW_]
                  rfl
                 refine done_ (done_of HT_.out qK) ?_
                 try go_wp2
                 refine bodyPost_ret (results_ct rfl _ _ gb101 31 #[.int .i64 (wrap64 (bt a0 0)),.int .i64 t102,.int .i64 (wrap64 (bt a0 1)),.int .i64 (wrap64 (bt a0 2)),.string (a0.extract 7 ((wrap64 (7+(wrap64 (bt a0 4)))):Int).toNat),.slice Ao83 x107005_2.length co83] (0,0) _ rfl (by(with_reducible repeat(first|refine blk_drewN ?_ _|refine blk_drew ?_|refine blk_alloc ?_ _));refine blk_put (cs:=#[.int .i64 (wrap64 (bt a0 0)),.int .i64 t102,.int .i64 (wrap64 (bt a0 1)),.int .i64 (wrap64 (bt a0 2)),.string (a0.extract 7 ((wrap64 (7+(wrap64 (bt a0 4)))):Int).toNat),.slice none 0 0]) ?_ 5 _ rfl;(with_reducible repeat(first|refine blk_drewN ?_ _|refine blk_drew ?_|refine blk_alloc ?_ _));refine blk_put (cs:=#[.int .i64 (wrap64 (bt a0 0)),.int .i64 t102,.int .i64 (wrap64 (bt a0 1)),.int .i64 (wrap64 (bt a0 2)),.string x102004_2,.slice none 0 0]) ?_ 4 _ rfl;(with_reducible repeat(first|refine blk_drewN ?_ _|refine blk_drew ?_|refine blk_alloc ?_ _));refine blk_put (cs:=#[.int .i64 (wrap64 (bt a0 0)),.int .i64 t102,.int .i64 (wrap64 (bt a0 1)),.int .i64 x102003_2,.string x102004_2,.slice none 0 0]) ?_ 3 _ rfl;(with_reducible repeat(first|refine blk_drewN ?_ _|refine blk_drew ?_|refine blk_alloc ?_ _));refine blk_put (cs:=#[.int .i64 (wrap64 (bt a0 0)),.int .i64 t102,.int .i64 x102002_2,.int .i64 x102003_2,.string x102004_2,.slice none 0 0]) ?_ 2 _ rfl;(with_reducible repeat(first|refine blk_drewN ?_ _|refine blk_drew ?_|refine blk_alloc ?_ _));refine blk_put (cs:=#[.int .i64 (wrap64 (bt a0 0)),.int .i64 x102001_2,.int .i64 x102002_2,.int .i64 x102003_2,.string x102004_2,.slice none 0 0]) ?_ 1 _ rfl;(with_reducible repeat(first|refine blk_drewN ?_ _|refine blk_drew ?_|refine blk_alloc ?_ _));refine blk_put (cs:=#[.int .i64 x102000_2,.int .i64 x102001_2,.int .i64 x102002_2,.int .i64 x102003_2,.string x102004_2,.slice none 0 0]) ?_ 0 _ rfl;(with_reducible repeat(first|refine blk_drewN ?_ _|refine blk_drew ?_|refine blk_alloc ?_ _));exact BK101.out) Try.underlying31 rfl qK) rfl ?_;exact⟨_,qee_,by(with_reducible repeat(first|apply Kd.R_alloc|apply Kd.R_drewN|apply Kd.R_drew));exact Kd.R_mono (qf6_ HO_107005 BK101) (fun _ hk=>trivial),qBHB⟩
            ·rw[if_neg c22]at H
             exact absurd H (by simp)
           ·rw[if_neg c21]at H
            exact absurd H (by simp)
          ·rw[if_neg c20]at H
           exact absurd H (by simp)
         ·rw[if_neg c18]at H
          exact absurd H (by simp)
        ·rw[if_neg c17]at H
         exact absurd H (by simp)
       ·rw[if_neg c15]at H
        exact absurd H (by simp)
      ·rw[if_neg c13]at H
       exact absurd H (by simp)
     ·rw[if_neg c11]at H
      exact absurd H (by simp)
    ·rw[if_neg c9]at H
     exact absurd H (by simp)

end Go.Proofs.Ytbjefkeogbophaa.P
