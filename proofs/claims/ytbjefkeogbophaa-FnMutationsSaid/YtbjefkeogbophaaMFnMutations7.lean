/- Part 7 of what the law FnMutations stands on; the last part ends with the law's row. No condition of mine. -/
import Derived.Test.YtbjefkeogbophaaMFnMutations1
import Derived.Test.YtbjefkeogbophaaMFnMutations2
namespace Go.Proofs.Ytbjefkeogbophaa.P
open Go.RowKit Go.Proofs.YtbjefkeogbophaaW.PrintWords Go.Proofs.YtbjefkeogbophaaW.PrintLast Go.Proofs.YtbjefkeogbophaaW.PrintMore
attribute [local go_sem] max2_int min2_int max_two min_two max_three min_three max_four min_four   -- for this text's walks alone
set_option linter.unusedVariables false
set_option linter.unusedSimpArgs false

/-! ### z68_: function 68 -/
mutual
def z68_.l0:Nat→List Int→List Int→Int→Int→Option (ByteArray)
 | 0,_,_,_,_=>none
 | k+1,x0,x3,x4,x5=>if x5 < (x0.length:Int)then(if 0≤x5 then(if(rd x0 x5)=13 then(if(wrap64 (x5+1)) < (x0.length:Int)then(if 0≤(wrap64 (x5+1))then(z68_.j1 k x0 x3 x4 x5 ((rd x0 (wrap64 (x5+1))) == 10))else(none))else(z68_.j1 k x0 x3 x4 x5 false))else(z68_.j1 k x0 x3 x4 x5 false))else(none))else(some (strOfNums x3))
def z68_.j1:Nat→List Int→List Int→Int→Int→Bool→Option (ByteArray)
 | 0,_,_,_,_,_=>none
 | k+1,x0,x3,x4,x5,x33=>if x33=true then((some (([13,10]:List Int):List Int)).bind fun y106=>(if x3.length+y106.length < 140737488355328 then(z68_.l0 k x0 (x3 ++ y106) 0 (wrap64 (x5+2)))else(none)))else(if 0≤x5 then(if x5 < (x0.length:Int)then(if(wrap64 (x5+1))=(x0.length:Int)then(z68_.j2 k x0 x3 x4 x5 (rd x0 x5) true)else(if 0≤(wrap64 (x5+1))then(if(wrap64 (x5+1)) < (x0.length:Int)then(if(rd x0 (wrap64 (x5+1)))=13 then(if(wrap64 (x5+2)) < (x0.length:Int)then(if 0≤(wrap64 (x5+2))then(z68_.j2 k x0 x3 x4 x5 (rd x0 x5) ((rd x0 (wrap64 (x5+2))) == 10))else(none))else(z68_.j2 k x0 x3 x4 x5 (rd x0 x5) false))else(z68_.j2 k x0 x3 x4 x5 (rd x0 x5) false))else(none))else(none)))else(none))else(none))
def z68_.j2:Nat→List Int→List Int→Int→Int→Int→Bool→Option (ByteArray)
 | 0,_,_,_,_,_,_=>none
 | k+1,x0,x3,x4,x5,x6,x7=>(some (([x6]:List Int):List Int)).bind fun y115=>((z37_.f (wrap64 (x6)) 33 126).bind fun t118=>(if t118=true then(if x6=61 then(if x6=32 then(z68_.j3 k x0 x3 x4 x5 x6 x7 y115 (!(!x7)))else(z68_.j3 k x0 x3 x4 x5 x6 x7 y115 (!false)))else(z68_.j3 k x0 x3 x4 x5 x6 x7 y115 (!true)))else(if x6=32 then(z68_.j3 k x0 x3 x4 x5 x6 x7 y115 (!(!x7)))else(z68_.j3 k x0 x3 x4 x5 x6 x7 y115 (!false)))))
def z68_.j3:Nat→List Int→List Int→Int→Int→Int→Bool→List Int→Bool→Option (ByteArray)
 | 0,_,_,_,_,_,_,_,_=>none
 | k+1,x0,x3,x4,x5,x6,x7,x8,x88=>if x88=true then(if 0≤((Int.tdiv x6 16) % 256)then(if((Int.tdiv x6 16) % 256) < 16 then(if 0≤(Int.tmod x6 16)then(if(Int.tmod x6 16) < 16 then((some (([61,bt (⟨#[48,49,50,51,52,53,54,55,56,57,65,66,67,68,69,70]⟩:ByteArray) ((Int.tdiv x6 16) % 256),bt (⟨#[48,49,50,51,52,53,54,55,56,57,65,66,67,68,69,70]⟩:ByteArray) (Int.tmod x6 16)]:List Int):List Int)).bind fun y119=>(if(wrap64 (x4+(y119.length:Int))) > 75 then(if x7=true then(if((wrap64 (x4+(y119.length:Int)))≤76)then(if x3.length+y119.length < 140737488355328 then(z68_.l0 k x0 (x3 ++ y119) (wrap64 (x4+(y119.length:Int))) (wrap64 (x5+1)))else(none))else((some (([61,13,10]:List Int):List Int)).bind fun y125=>(if x3.length+y125.length < 140737488355328 then((some (x3 ++ y125:List Int)).bind fun y128=>(if y128.length+y119.length < 140737488355328 then(z68_.l0 k x0 (y128 ++ y119) (wrap64 (0+(y119.length:Int))) (wrap64 (x5+1)))else(none)))else(none))))else((some (([61,13,10]:List Int):List Int)).bind fun y134=>(if x3.length+y134.length < 140737488355328 then((some (x3 ++ y134:List Int)).bind fun y137=>(if y137.length+y119.length < 140737488355328 then(z68_.l0 k x0 (y137 ++ y119) (wrap64 (0+(y119.length:Int))) (wrap64 (x5+1)))else(none)))else(none))))else(if x3.length+y119.length < 140737488355328 then(z68_.l0 k x0 (x3 ++ y119) (wrap64 (x4+(y119.length:Int))) (wrap64 (x5+1)))else(none))))else(none))else(none))else(none))else(none))else(if(wrap64 (x4+(x8.length:Int))) > 75 then(if x7=true then(if((wrap64 (x4+(x8.length:Int)))≤76)then(if x3.length+x8.length < 140737488355328 then(z68_.l0 k x0 (x3 ++ x8) (wrap64 (x4+(x8.length:Int))) (wrap64 (x5+1)))else(none))else((some (([61,13,10]:List Int):List Int)).bind fun y149=>(if x3.length+y149.length < 140737488355328 then((some (x3 ++ y149:List Int)).bind fun y152=>(if y152.length+x8.length < 140737488355328 then(z68_.l0 k x0 (y152 ++ x8) (wrap64 (0+(x8.length:Int))) (wrap64 (x5+1)))else(none)))else(none))))else((some (([61,13,10]:List Int):List Int)).bind fun y158=>(if x3.length+y158.length < 140737488355328 then((some (x3 ++ y158:List Int)).bind fun y161=>(if y161.length+x8.length < 140737488355328 then(z68_.l0 k x0 (y161 ++ x8) (wrap64 (0+(x8.length:Int))) (wrap64 (x5+1)))else(none)))else(none))))else(if x3.length+x8.length < 140737488355328 then(z68_.l0 k x0 (x3 ++ x8) (wrap64 (x4+(x8.length:Int))) (wrap64 (x5+1)))else(none)))
end
def z68_.f (k:Nat) (l0:List Int):Option (ByteArray):=z68_.l0 k l0 (([]:List Int)) 0 0
theorem z68_.mono_l:∀ k,(∀ y0 y1 y2 y3,LeO (z68_.l0 k y0 y1 y2 y3) (z68_.l0 (k+1) y0 y1 y2 y3))∧(∀ y0 y1 y2 y3 y4,LeO (z68_.j1 k y0 y1 y2 y3 y4) (z68_.j1 (k+1) y0 y1 y2 y3 y4))∧(∀ y0 y1 y2 y3 y4 y5,LeO (z68_.j2 k y0 y1 y2 y3 y4 y5) (z68_.j2 (k+1) y0 y1 y2 y3 y4 y5))∧(∀ y0 y1 y2 y3 y4 y5 y6 y7,LeO (z68_.j3 k y0 y1 y2 y3 y4 y5 y6 y7) (z68_.j3 (k+1) y0 y1 y2 y3 y4 y5 y6 y7))
 | 0=>⟨fun _ _ _ _ r h=>by simp[z68_.l0]at h,fun _ _ _ _ _ r h=>by simp[z68_.j1]at h,fun _ _ _ _ _ _ r h=>by simp[z68_.j2]at h,fun _ _ _ _ _ _ _ _ r h=>by simp[z68_.j3]at h⟩
 | k+1=>by
  obtain⟨ih0,ih1,ih2,ih3⟩:=z68_.mono_l k;refine⟨?_,?_,?_,?_⟩
  ·intro y0 y1 y2 y3
   unfold z68_.l0
   repeat' first
   | (with_reducible exact ih0 _ _ _ _)
   | (with_reducible exact ih1 _ _ _ _ _)
   | (with_reducible exact ih2 _ _ _ _ _ _)
   | (with_reducible exact ih3 _ _ _ _ _ _ _ _)
   | (with_reducible exact LeO.refl _)
   | (with_reducible exact LeO.none _)
   | (with_reducible refine LeO.ite ?_ ?_)
   | (with_reducible refine LeO.bind ?_ (fun _=> ?_))
   | exact ih0 _ _ _ _
   | exact ih1 _ _ _ _ _
   | exact ih2 _ _ _ _ _ _
   | exact ih3 _ _ _ _ _ _ _ _
   | exact LeO.none _
   | refine LeO.ite ?_ ?_
   | refine LeO.bind ?_ (fun _=> ?_)
  ·intro y0 y1 y2 y3 y4
   unfold z68_.j1
   repeat' first
   | (with_reducible exact ih0 _ _ _ _)
   | (with_reducible exact ih1 _ _ _ _ _)
   | (with_reducible exact ih2 _ _ _ _ _ _)
   | (with_reducible exact ih3 _ _ _ _ _ _ _ _)
   | (with_reducible exact LeO.refl _)
   | (with_reducible exact LeO.none _)
   | (with_reducible refine LeO.ite ?_ ?_)
   | (with_reducible refine LeO.bind ?_ (fun _=> ?_))
   | exact ih0 _ _ _ _
   | exact ih1 _ _ _ _ _
   | exact ih2 _ _ _ _ _ _
   | exact ih3 _ _ _ _ _ _ _ _
   | exact LeO.none _
   | refine LeO.ite ?_ ?_
   | refine LeO.bind ?_ (fun _=> ?_)
  ·intro y0 y1 y2 y3 y4 y5
   unfold z68_.j2
   repeat' first
   | (with_reducible exact ih0 _ _ _ _)
   | (with_reducible exact ih1 _ _ _ _ _)
   | (with_reducible exact ih2 _ _ _ _ _ _)
   | (with_reducible exact ih3 _ _ _ _ _ _ _ _)
   | (with_reducible exact LeO.refl _)
   | (with_reducible exact LeO.none _)
   | (with_reducible refine LeO.ite ?_ ?_)
   | (with_reducible refine LeO.bind ?_ (fun _=> ?_))
   | exact ih0 _ _ _ _
   | exact ih1 _ _ _ _ _
   | exact ih2 _ _ _ _ _ _
   | exact ih3 _ _ _ _ _ _ _ _
   | exact LeO.none _
   | refine LeO.ite ?_ ?_
   | refine LeO.bind ?_ (fun _=> ?_)
  ·intro y0 y1 y2 y3 y4 y5 y6 y7
   unfold z68_.j3
   repeat' first
   | (with_reducible exact ih0 _ _ _ _)
   | (with_reducible exact ih1 _ _ _ _ _)
   | (with_reducible exact ih2 _ _ _ _ _ _)
   | (with_reducible exact ih3 _ _ _ _ _ _ _ _)
   | (with_reducible exact LeO.refl _)
   | (with_reducible exact LeO.none _)
   | (with_reducible refine LeO.ite ?_ ?_)
   | (with_reducible refine LeO.bind ?_ (fun _=> ?_))
   | exact ih0 _ _ _ _
   | exact ih1 _ _ _ _ _
   | exact ih2 _ _ _ _ _ _
   | exact ih3 _ _ _ _ _ _ _ _
   | exact LeO.none _
   | refine LeO.ite ?_ ?_
   | refine LeO.bind ?_ (fun _=> ?_)
theorem z68_.mono:∀ a0 k,LeO (z68_.f k a0) (z68_.f (k+1) a0):=by
 intro a0 k
 obtain⟨ih0,ih1,ih2,ih3⟩:=z68_.mono_l k
 unfold z68_.f
 repeat' first
   | (with_reducible exact ih0 _ _ _ _)
   | (with_reducible exact ih1 _ _ _ _ _)
   | (with_reducible exact ih2 _ _ _ _ _ _)
   | (with_reducible exact ih3 _ _ _ _ _ _ _ _)
   | (with_reducible exact LeO.refl _)
   | (with_reducible exact LeO.none _)
   | (with_reducible refine LeO.ite ?_ ?_)
   | (with_reducible refine LeO.bind ?_ (fun _=> ?_))
   | exact ih0 _ _ _ _
   | exact ih1 _ _ _ _ _
   | exact ih2 _ _ _ _ _ _
   | exact ih3 _ _ _ _ _ _ _ _
   | exact LeO.none _
   | refine LeO.ite ?_ ?_
   | refine LeO.bind ?_ (fun _=> ?_)
def z68_.T13:Bool × List (List Nat × List Nat):=(true,[([],[]),([0],[0]),([1],[1]),([],[]),([3],[3]),([4],[4]),([2,5],[2,5]),([6,0,1,2,3,4,5,6],[6])])
def z68_.B13:List Nat:=[0,1,3,0,8,24,63,127]
theorem z68_.tab13:rtab .any (opsOf Try.f68 13)=z68_.T13:=by kernel_rfl
theorem z68_.bits13:waitsOk z68_.T13.2 z68_.B13=true:=by kernel_rfl
abbrev z68_.b0:ByteArray:=⟨#[48,49,50,51,52,53,54,55,56,57,65,66,67,68,69,70]⟩
set_option maxHeartbeats 8000000 in
set_option maxRecDepth 100000 in
theorem z68_.calls (k:Nat) (A0:Option Addr) (c0:Nat) (l0:List Int) (r:ByteArray) (w:World) (hr0:Kd.C (Kd.int .u8) w A0 l0.length l0) (hc0:l0.length≤c0) (h:z68_.f k l0=some r) :
  Calls Try.prog 68 #[.slice A0 l0.length c0] w fun e w' => e= .returned (.string r)∧Below w.heap.size w w' := by
 have HR0:=qM_ hr0
 have HC0:=qM_ hc0
 clear hr0 hc0
 have HB:=qM_ (Below.refl w.heap.size w)
 have H:(z68_.l0 k l0 (([]:List Int)) 0 0)=some r:=h
 clear h
 obtain⟨y101,hy101⟩:∃ y_:List Int,y_=(([]:List Int)):=⟨_,rfl⟩
 replace H:(z68_.l0 k l0 y101 0 0)=some r:=qh_ hy101 H
 have Ny101:=qM_ hy101
 clear hy101
 have H' := qM_ H
 clear H
 have hw8_:∀ n:Int,IntKind.u8.wrap n=n % 256:=fun n=>by rw[IntKind.wrap_u8]
 go_enter Try.func68,Try.ntmps68
 go_wp2_with (first|((with_reducible refine gate_dst (N:=9) rfl ?_);(try(refine gate_guard (by rfl) ?_;dsimp only));refine Kd.R_lit (Kd.int .u8) _ 5 ?hg (N:=9) ?hd (xs:=([]:List Int)) (inner:=[]) (ok:=fun _=>True) (okp:=fun _=>True) ?hr ?hp (fun _ hk=>hk) trivial (Below.refl _ _) (Nat.le_refl _) (by simp) ?_;(case hd=>rfl);(case hg=>rfl);(case hr=>first|(go_simp;done)|(go_simp;rfl));(case hp=>exact(Reps.none _ _));intro v102 w2 ho3 hb hg_ hnew_;clear hg_ hnew_;(first|rw[← Ny101.out]at ho3|(simp only[Int.reduceToNat]at ho3;rw[← Ny101.out]at ho3));have HO103:=qM_ (Kd.R_lower ho3 (below_size qBHB));replace HB:=qM_ (below_step qBHB hb);clear hb ho3))
 go_loopg [3,4,5] k (fun kq v3 v4 v5 w' => ∃(x3_1:List Int) (x4_1:Int) (x5_1:Int),v4= .int .i64 x4_1∧v5= .int .i64 x5_1∧Aside0 (z68_.l0 kq l0 x3_1 x4_1 x5_1=some r)∧Aside0 (kq≤k)∧Aside0 (Kd.R (Kd.int .u8) 5 w' w.heap.size (fun _=>True) v3 x3_1)∧Aside0 (Below w.heap.size w w'))
 case atStart=>exact⟨(y101),(0),(0),qff_,qff_,H', ⟨Nat.le_refl _⟩,⟨qr_ HO103⟩,⟨qBHB⟩⟩
 case round =>
  clear H'
  try clear p2
  obtain⟨x3_1,x4_1,x5_1,rfl,rfl,HA,HK1,HO_3,HB⟩:=hrel
  cases gk with
  | zero=>exact absurd HA.out (by simp[z68_.l0])
  | succ k1 =>
   have H:=HA.out;clear HA;simp only[z68_.l0]at H;by_cases c4:x5_1 < (l0.length:Int)
   ·rw[if_pos c4]at H
    have c4b0:decide (x5_1 < (l0.length:Int))=true:=decide_eq_true c4;clear c4;have HC5:=qM_ H;clear H
    go_upto_region 5 with (fail)
    go_cut [33] (fun v33 wc=>∃(kq:Nat) (x33_4:Bool),v33= .bool x33_4∧Aside0 (z68_.j1 kq l0 x3_1 x4_1 x5_1 x33_4=some r)∧Aside0 (kq≤k1)∧Aside0 (Kd.R (Kd.int .u8) 5 wc w.heap.size (fun _=>True) u3 x3_1)∧Aside0 (Below w.heap.size w wc))
    case first =>
     have H:=HC5.out;clear HC5;by_cases c6:0≤x5_1
     ·rw[if_pos c6]at H
      have c6b0:decide (0≤x5_1)=true:=decide_eq_true c6;clear c6
      (first|rw[c6b0]|(simp only[i64_w,i32_w];rw[c6b0])|skip)
      by_cases c7:(rd l0 x5_1)=13
      ·rw[if_pos c7]at H
       have c7b0:((rd l0 x5_1) == 13)=true:=beq_iff_eq.mpr c7;have c7b1:((rd l0 x5_1) != 13)=false:=bne_eq_false_iff_eq.mpr c7;clear c7;by_cases c8:(wrap64 (x5_1+1)) < (l0.length:Int)
       ·rw[if_pos c8]at H
        have c8b0:decide ((wrap64 (x5_1+1)) < (l0.length:Int))=true:=decide_eq_true c8;clear c8
        obtain⟨ji9,hji9⟩:∃ j_:Int,(wrap64 (x5_1+1))=j_:=⟨_,rfl⟩
        replace H:(if 0≤(ji9)then(z68_.j1 k1 l0 x3_1 x4_1 x5_1 ((rd l0 (ji9)) == 10))else(none))=some r:=qj_ hji9 H
        (try rw[hji9]at c8b0)
        have hji9w:(IntKind.i64.wrap (x5_1+1))=ji9:=(i64_w _).trans hji9;by_cases c10:0≤(ji9)
        ·rw[if_pos c10]at H
         have c10b0:decide (0≤(ji9))=true:=decide_eq_true c10;clear c10;have H' := qM_ H;clear H;have p104:0≤(x5_1:Int):=qd_;have q104:x5_1 < (l0.length:Int):=qd_;obtain⟨ad104,e104,hx104_0⟩:=Kd.at_int HR0.out x5_1 p104 q104;cases e104;replace hx104_0:=(HB.out.cell (qL_ w _ hx104_0)).trans hx104_0;replace p104:=eq_true p104;replace q104:=eq_true q104;have p105:0≤((ji9):Int):=qd_;have q105:(ji9) < (l0.length:Int):=qd_;obtain⟨ad105,e105,hx105_0⟩:=Kd.at_int HR0.out (ji9) p105 q105;obtain rfl:ad104=ad105:=(by injection e105);replace hx105_0:=(HB.out.cell (qL_ w _ hx105_0)).trans hx105_0;replace p105:=eq_true p105;replace q105:=eq_true q105
         go_wp2
         go_meet
         case rel=>exact⟨_,(((rd l0 (ji9)) == 10)),(by first|rfl|(simp;done)|(simp only[← hji9] <;> (first|rfl|simp))|(simp[*];done)),H', ⟨by have:=HK1.out;first|omega|exact Nat.le_refl _⟩,⟨qr_ HO_3⟩,⟨qBHB⟩⟩
        ·rw[if_neg c10]at H
         exact absurd H (by simp)
       ·rw[if_neg c8]at H
        have c8b0:decide ((wrap64 (x5_1+1)) < (l0.length:Int))=false:=decide_eq_false c8;clear c8;have H' := qM_ H;clear H;have p104:0≤(x5_1:Int):=qd_;have q104:x5_1 < (l0.length:Int):=qd_;obtain⟨ad104,e104,hx104_0⟩:=Kd.at_int HR0.out x5_1 p104 q104;cases e104;replace hx104_0:=(HB.out.cell (qL_ w _ hx104_0)).trans hx104_0;replace p104:=eq_true p104;replace q104:=eq_true q104
        go_wp2
        go_meet
        case rel=>exact⟨_,(false),qff_,H', ⟨by have:=HK1.out;first|omega|exact Nat.le_refl _⟩,⟨qr_ HO_3⟩,⟨qBHB⟩⟩
      ·rw[if_neg c7]at H
       have c7b0:((rd l0 x5_1) == 13)=false:=beq_eq_false_iff_ne.mpr c7;have c7b1:((rd l0 x5_1) != 13)=true:=bne_iff_ne.mpr c7;have H' := qM_ H;clear H;have p104:0≤(x5_1:Int):=qd_;have q104:x5_1 < (l0.length:Int):=qd_;obtain⟨ad104,e104,hx104_0⟩:=Kd.at_int HR0.out x5_1 p104 q104;cases e104;replace hx104_0:=(HB.out.cell (qL_ w _ hx104_0)).trans hx104_0;replace p104:=eq_true p104;replace q104:=eq_true q104
       go_wp2
       go_meet
       case rel=>exact⟨_,(false),qff_,H', ⟨by have:=HK1.out;first|omega|exact Nat.le_refl _⟩,⟨qr_ HO_3⟩,⟨qBHB⟩⟩
     ·rw[if_neg c6]at H
      exact absurd H (by simp)
    case rest =>
     clear HC5
     try clear c1
     try clear p1
     try clear q1
     try clear hx1
     try clear p2
     try clear c4
     try clear c4b0
     try clear c6
     try clear c6b0
     try clear p6
     try clear c7
     try clear c7b0
     try clear c7b1
     try clear c8
     try clear c8b0
     try clear c10
     try clear c10b0
     try clear p10
     try clear q10
     try clear hx10
     try clear hx104_0
     try clear hx105_0
     try clear p104
     try clear p105
     try clear p2
     try clear q104
     try clear q105
     obtain⟨kq,x33_4,rfl,HA,HJ4,HO_3,HB⟩:=hcut
     cases kq with
     | zero=>exact absurd HA.out (by simp[z68_.j1])
     | succ kj4 =>
      have H:=HA.out;clear HA;simp only[z68_.j1]at H;by_cases c11:x33_4=true
      ·subst c11
       have H1:((some (([13,10]:List Int):List Int)).bind fun y106=>(if x3_1.length+y106.length < 140737488355328 then(z68_.l0 kj4 l0 (x3_1 ++ y106) 0 (wrap64 (x5_1+2)))else(none)))=some r:=by rw[if_pos rfl]at H;exact H
       clear H;have H:=H1;clear H1
       obtain⟨y106,hy106⟩:∃ y_:List Int,y_=(([13,10]:List Int)):=⟨_,rfl⟩
       replace H:(if x3_1.length+y106.length < 140737488355328 then(z68_.l0 kj4 l0 (x3_1 ++ y106) 0 (wrap64 (x5_1+2)))else(none))=some r:=qh_ hy106 H;have Ny106:=qM_ hy106;clear hy106;by_cases c12:x3_1.length+y106.length < 140737488355328
       ·rw[if_pos c12]at H
        have LMc12:=qM_ c12;clear c12
        obtain⟨y109,hy109⟩:∃ y_:List Int,y_=(x3_1 ++ y106):=⟨_,rfl⟩
        replace H:(z68_.l0 kj4 l0 y109 0 (wrap64 (x5_1+2)))=some r:=qh_ hy109 H;have Ny109:=qM_ hy109;clear hy109;have H' := qM_ H;clear H
        go_wp2_with (first|((with_reducible refine gate_dst (N:=35) rfl ?_);(try(refine gate_guard (by rfl) ?_;dsimp only));refine Kd.R_lit (Kd.int .u8) _ 5 ?hg (N:=35) ?hd (xs:=([13,10]:List Int)) (inner:=[.int .u8 13,.int .u8 10]) (ok:=fun _=>True) (okp:=fun _=>True) ?hr ?hp (fun _ hk=>hk) trivial (Below.refl _ _) (Nat.le_refl _) (by simp) ?_;(case hd=>rfl);(case hg=>rfl);(case hr=>first|(go_simp;done)|(go_simp;rfl));(case hp=>exact(Reps.one rfl (Reps.one rfl (Reps.none _ _))));intro v107 w13 ho14 hb hg_ hnew_;clear hg_ hnew_;(first|rw[← Ny106.out]at ho14|(simp only[Int.reduceToNat]at ho14;rw[← Ny106.out]at ho14));have HO108:=qM_ (Kd.R_lower (Kd.R_new' ho14 (Kd.R_lt (qr_ HO_3))) (below_size qBHB));replace HO_3:=qM_ (Kd.R_elder' (qr_ HO_3) (Kd.R_base ho14) hb);replace HB:=qM_ (below_step qBHB hb);clear hb ho14;obtain⟨Ao16,co16,eo16⟩:=Kd.R_slice HO108.out;subst eo16)|((with_reducible refine gate_builtin (b:= .append) (xs:=#[.tmp 34,.tmp 35]) rfl ?_);(try(refine gate_guard (by rfl) ?_;dsimp only));at_builtin;refine Kd.R_append_rows (Kd.int .u8) (w0:=w) w.heap.size rfl (.tmp 34) (.tmp 35) 26 5 (.int .u8 0) 1 rfl Try.underlying26 info5 rfl (by decide) (by omega) u3 x3_1 y106 _ _ _ (fun k_=>some k_≠(.slice Ao16 y106.length co16:Value).ownBlock) (fun _=>False) rfl rfl ?aO ?aR (fun _ _ h=>h) (fun _ h=>h.elim) ?aF ?aB ?aS ?aL ?_;(case aR=>repeat(first|exact(Kd.R_reads' HO108.out).2.2|(with_reducible refine Kd.C_alloc ?_ _)|(with_reducible refine Kd.C_drewN ?_ _)|(with_reducible refine Kd.C_drew ?_)));(case aB=>exact qBHB);(case aF=>exact(fun k_ hk=>Kd.fresh' (Kd.R_lt (qr_ HO108)) k_ hk));(case aO=>exact(by(with_reducible repeat(first|apply Kd.R_alloc|apply Kd.R_drewN|apply Kd.R_drew));exact Kd.R_mono HO_3.out (fun _ hk=>hk.2)));(case aS=>exact(below_size qBHB));(case aL=>have:=LMc12.out;omega);intro v110 w15 ho hb hg hat;rw[← Ny109.out]at ho;replace HO108:=qM_ (Kd.R_after (ok:=(fun _=>True)) (qr_ HO108) hg hat);replace HB:=qM_ (hb);have HO111:=qM_ (ho);clear HO_3;clear ho hb hg hat))
        go_roundg kj4
        case measure=>have:=HK1.out;have:=HJ4.out;omega
        case rel=>exact⟨(y109),(0),(wrap64 (x5_1+2)),qff_,qff_,H', ⟨by have:=HK1.out;have:=HJ4.out;omega⟩,⟨by(with_reducible repeat(first|apply Kd.R_alloc|apply Kd.R_drewN|apply Kd.R_drew));exact Kd.R_mono HO111.out (fun _ hk=>trivial)⟩,⟨qBHB⟩⟩
       ·rw[if_neg c12]at H
        exact absurd H (by simp)
      ·replace c11:=Bool.eq_false_iff.mpr c11
       subst c11
       have H1:(if 0≤x5_1 then(if x5_1 < (l0.length:Int)then(if(wrap64 (x5_1+1))=(l0.length:Int)then(z68_.j2 kj4 l0 x3_1 x4_1 x5_1 (rd l0 x5_1) true)else(if 0≤(wrap64 (x5_1+1))then(if(wrap64 (x5_1+1)) < (l0.length:Int)then(if(rd l0 (wrap64 (x5_1+1)))=13 then(if(wrap64 (x5_1+2)) < (l0.length:Int)then(if 0≤(wrap64 (x5_1+2))then(z68_.j2 kj4 l0 x3_1 x4_1 x5_1 (rd l0 x5_1) ((rd l0 (wrap64 (x5_1+2))) == 10))else(none))else(z68_.j2 kj4 l0 x3_1 x4_1 x5_1 (rd l0 x5_1) false))else(z68_.j2 kj4 l0 x3_1 x4_1 x5_1 (rd l0 x5_1) false))else(none))else(none)))else(none))else(none))=some r:=by rw[if_neg (show ¬(false=true)by decide)]at H;exact H
       clear H;have H:=H1;clear H1;by_cases c17:0≤x5_1
       ·rw[if_pos c17]at H
        have c17b0:decide (0≤x5_1)=true:=decide_eq_true c17;clear c17;by_cases c18:x5_1 < (l0.length:Int)
        ·rw[if_pos c18]at H
         have c18b0:decide (x5_1 < (l0.length:Int))=true:=decide_eq_true c18;clear c18;have HC19:=qM_ H;clear H;have p112:0≤(x5_1:Int):=qd_;have q112:x5_1 < (l0.length:Int):=qd_;obtain⟨ad112,e112,hx112_0⟩:=Kd.at_int HR0.out x5_1 p112 q112;cases e112;replace hx112_0:=(HB.out.cell (qL_ w _ hx112_0)).trans hx112_0;replace p112:=eq_true p112;replace q112:=eq_true q112
         go_upto_region 10 with (fail)
         go_cut [7] (fun v7 wc=>∃(kq:Nat) (x7_18:Bool),v7= .bool x7_18∧Aside0 (z68_.j2 kq l0 x3_1 x4_1 x5_1 (rd l0 x5_1) x7_18=some r)∧Aside0 (kq≤kj4)∧Aside0 (Kd.R (Kd.int .u8) 5 wc w.heap.size (fun _=>True) u3 x3_1)∧Aside0 (Below w.heap.size w wc))
         case first =>
          have H:=HC19.out;clear HC19;by_cases c20:(wrap64 (x5_1+1))=(l0.length:Int)
          ·rw[if_pos c20]at H
           have c20b0:((wrap64 (x5_1+1)) == (l0.length:Int))=true:=beq_iff_eq.mpr c20;have c20b1:((wrap64 (x5_1+1)) != (l0.length:Int))=false:=bne_eq_false_iff_eq.mpr c20;clear c20
           (first|rw[c20b0]|(simp only[i64_w,i32_w];rw[c20b0])|skip)
           have H' := qM_ H;clear H
           go_wp2
           go_meet
           case rel=>exact⟨_,(true),qff_,H', ⟨by have:=HK1.out;have:=HJ4.out;first|omega|exact Nat.le_refl _⟩,⟨qr_ HO_3⟩,⟨qBHB⟩⟩
          ·rw[if_neg c20]at H
           have c20b0:((wrap64 (x5_1+1)) == (l0.length:Int))=false:=beq_eq_false_iff_ne.mpr c20;have c20b1:((wrap64 (x5_1+1)) != (l0.length:Int))=true:=bne_iff_ne.mpr c20
           (first|rw[c20b0]|(simp only[i64_w,i32_w];rw[c20b0])|skip)
           obtain⟨ji21,hji21⟩:∃ j_:Int,(wrap64 (x5_1+1))=j_:=⟨_,rfl⟩
           replace H:(if 0≤(ji21)then(if(ji21) < (l0.length:Int)then(if(rd l0 (ji21))=13 then(if(wrap64 (x5_1+2)) < (l0.length:Int)then(if 0≤(wrap64 (x5_1+2))then(z68_.j2 kj4 l0 x3_1 x4_1 x5_1 (rd l0 x5_1) ((rd l0 (wrap64 (x5_1+2))) == 10))else(none))else(z68_.j2 kj4 l0 x3_1 x4_1 x5_1 (rd l0 x5_1) false))else(z68_.j2 kj4 l0 x3_1 x4_1 x5_1 (rd l0 x5_1) false))else(none))else(none))=some r:=qj_ hji21 H
           (try rw[hji21]at c20b0)
           (try rw[hji21]at c20b1)
           have hji21w:(IntKind.i64.wrap (x5_1+1))=ji21:=(i64_w _).trans hji21;by_cases c22:0≤(ji21)
           ·rw[if_pos c22]at H
            have c22b0:decide (0≤(ji21))=true:=decide_eq_true c22;clear c22;by_cases c23:(ji21) < (l0.length:Int)
            ·rw[if_pos c23]at H
             have c23b0:decide ((ji21) < (l0.length:Int))=true:=decide_eq_true c23;clear c23;by_cases c24:(rd l0 (ji21))=13
             ·rw[if_pos c24]at H
              have c24b0:((rd l0 (ji21)) == 13)=true:=beq_iff_eq.mpr c24;have c24b1:((rd l0 (ji21)) != 13)=false:=bne_eq_false_iff_eq.mpr c24;clear c24;by_cases c25:(wrap64 (x5_1+2)) < (l0.length:Int)
              ·rw[if_pos c25]at H
               have c25b0:decide ((wrap64 (x5_1+2)) < (l0.length:Int))=true:=decide_eq_true c25;clear c25
               obtain⟨ji26,hji26⟩:∃ j_:Int,(wrap64 (x5_1+2))=j_:=⟨_,rfl⟩
               replace H:(if 0≤(ji26)then(z68_.j2 kj4 l0 x3_1 x4_1 x5_1 (rd l0 x5_1) ((rd l0 (ji26)) == 10))else(none))=some r:=qj_ hji26 H
               (try rw[hji26]at c25b0)
               have hji26w:(IntKind.i64.wrap (x5_1+2))=ji26:=(i64_w _).trans hji26;by_cases c27:0≤(ji26)
               ·rw[if_pos c27]at H
                have c27b0:decide (0≤(ji26))=true:=decide_eq_true c27;clear c27;have H' := qM_ H;clear H;have p113:0≤((ji21):Int):=qd_;have q113:(ji21) < (l0.length:Int):=qd_;obtain⟨ad113,e113,hx113_0⟩:=Kd.at_int HR0.out (ji21) p113 q113;obtain rfl:ad112=ad113:=(by injection e113);replace hx113_0:=(HB.out.cell (qL_ w _ hx113_0)).trans hx113_0;replace p113:=eq_true p113;replace q113:=eq_true q113;have p114:0≤((ji26):Int):=qd_;have q114:(ji26) < (l0.length:Int):=qd_;obtain⟨ad114,e114,hx114_0⟩:=Kd.at_int HR0.out (ji26) p114 q114;obtain rfl:ad112=ad114:=(by injection e114);replace hx114_0:=(HB.out.cell (qL_ w _ hx114_0)).trans hx114_0;replace p114:=eq_true p114;replace q114:=eq_true q114
                go_wp2
                go_meet
                case rel=>exact⟨_,(((rd l0 (ji26)) == 10)),(by first|rfl|(simp;done)|(simp only[← hji26] <;> (first|rfl|simp))|(simp[*];done)),H', ⟨by have:=HK1.out;have:=HJ4.out;first|omega|exact Nat.le_refl _⟩,⟨qr_ HO_3⟩,⟨qBHB⟩⟩
               ·rw[if_neg c27]at H
                exact absurd H (by simp)
              ·rw[if_neg c25]at H
               have c25b0:decide ((wrap64 (x5_1+2)) < (l0.length:Int))=false:=decide_eq_false c25;clear c25;have H' := qM_ H;clear H;have p113:0≤((ji21):Int):=qd_;have q113:(ji21) < (l0.length:Int):=qd_;obtain⟨ad113,e113,hx113_0⟩:=Kd.at_int HR0.out (ji21) p113 q113;obtain rfl:ad112=ad113:=(by injection e113);replace hx113_0:=(HB.out.cell (qL_ w _ hx113_0)).trans hx113_0;replace p113:=eq_true p113;replace q113:=eq_true q113
               go_wp2
               go_meet
               case rel=>exact⟨_,(false),qff_,H', ⟨by have:=HK1.out;have:=HJ4.out;first|omega|exact Nat.le_refl _⟩,⟨qr_ HO_3⟩,⟨qBHB⟩⟩
             ·rw[if_neg c24]at H
              have c24b0:((rd l0 (ji21)) == 13)=false:=beq_eq_false_iff_ne.mpr c24;have c24b1:((rd l0 (ji21)) != 13)=true:=bne_iff_ne.mpr c24;have H' := qM_ H;clear H;have p113:0≤((ji21):Int):=qd_;have q113:(ji21) < (l0.length:Int):=qd_;obtain⟨ad113,e113,hx113_0⟩:=Kd.at_int HR0.out (ji21) p113 q113;obtain rfl:ad112=ad113:=(by injection e113);replace hx113_0:=(HB.out.cell (qL_ w _ hx113_0)).trans hx113_0;replace p113:=eq_true p113;replace q113:=eq_true q113
              go_wp2
              go_meet
              case rel=>exact⟨_,(false),qff_,H', ⟨by have:=HK1.out;have:=HJ4.out;first|omega|exact Nat.le_refl _⟩,⟨qr_ HO_3⟩,⟨qBHB⟩⟩
            ·rw[if_neg c23]at H
             exact absurd H (by simp)
           ·rw[if_neg c22]at H
            exact absurd H (by simp)
         case rest =>
          clear HC19
          try clear c1
          try clear p1
          try clear q1
          try clear hx1
          try clear c2
          try clear p2
          try clear c4
          try clear c4b0
          try clear c6
          try clear c6b0
          try clear p6
          try clear c7
          try clear c7b0
          try clear c7b1
          try clear c8
          try clear c8b0
          try clear c10
          try clear c10b0
          try clear p10
          try clear q10
          try clear hx10
          try clear c11
          try clear p11
          try clear q11
          try clear hx11
          try clear c12
          try clear c17
          try clear c17b0
          try clear c18
          try clear c18b0
          try clear c20
          try clear c20b0
          try clear c20b1
          try clear c22
          try clear c22b0
          try clear c23
          try clear c23b0
          try clear c24
          try clear c24b0
          try clear c24b1
          try clear c25
          try clear c25b0
          try clear c27
          try clear c27b0
          try clear hx104_0
          try clear hx105_0
          try clear hx112_0
          try clear hx113_0
          try clear hx114_0
          try clear p1
          try clear p10
          try clear p104
          try clear p105
          try clear p112
          try clear p113
          try clear p114
          try clear p2
          try clear p6
          try clear q1
          try clear q10
          try clear q104
          try clear q105
          try clear q112
          try clear q113
          try clear q114
          obtain⟨kq,x7_18,rfl,HA,HJ18,HO_3,HB⟩:=hcut
          cases kq with
          | zero=>exact absurd HA.out (by simp[z68_.j2])
          | succ kj18 =>
           have H:=HA.out;clear HA;simp only[z68_.j2]at H
           obtain⟨y115,hy115⟩:∃ y_:List Int,y_=(([(rd l0 x5_1)]:List Int)):=⟨_,rfl⟩
           replace H:((z37_.f (wrap64 ((rd l0 x5_1))) 33 126).bind fun t118=>(if t118=true then(if(rd l0 x5_1)=61 then(if(rd l0 x5_1)=32 then(z68_.j3 kj18 l0 x3_1 x4_1 x5_1 (rd l0 x5_1) x7_18 y115 (!(!x7_18)))else(z68_.j3 kj18 l0 x3_1 x4_1 x5_1 (rd l0 x5_1) x7_18 y115 (!false)))else(z68_.j3 kj18 l0 x3_1 x4_1 x5_1 (rd l0 x5_1) x7_18 y115 (!true)))else(if(rd l0 x5_1)=32 then(z68_.j3 kj18 l0 x3_1 x4_1 x5_1 (rd l0 x5_1) x7_18 y115 (!(!x7_18)))else(z68_.j3 kj18 l0 x3_1 x4_1 x5_1 (rd l0 x5_1) x7_18 y115 (!false)))))=some r:=qh_ hy115 H;have Ny115:=qM_ hy115;clear hy115;have HC28:=qM_ H;clear H
           go_upto_region 12 with (first|((with_reducible refine gate_dst (N:=72) rfl ?_);(try(refine gate_guard (by rfl) ?_;dsimp only));refine Kd.R_lit (Kd.int .u8) _ 5 ?hg (N:=72) ?hd (xs:=([(rd l0 x5_1)]:List Int)) (inner:=[.int .u8 (rd l0 x5_1)]) (ok:=fun _=>True) (okp:=fun _=>True) ?hr ?hp (fun _ hk=>hk) trivial (Below.refl _ _) (Nat.le_refl _) (by simp) ?_;(case hd=>rfl);(case hg=>rfl);(case hr=>first|(go_simp;done)|(go_simp;rfl));(case hp=>exact(Reps.one rfl (Reps.none _ _)));intro v116 w29 ho30 hb hg_ hnew_;clear hg_ hnew_;(first|rw[← Ny115.out]at ho30|(simp only[Int.reduceToNat]at ho30;rw[← Ny115.out]at ho30));have HO117:=qM_ (Kd.R_lower (Kd.R_new' ho30 (Kd.R_lt (qr_ HO_3))) (below_size qBHB));replace HO_3:=qM_ (Kd.R_elder' (qr_ HO_3) (Kd.R_base ho30) hb);replace HB:=qM_ (below_step qBHB hb);clear hb ho30))
           (try simp only[Act.put,List.setIfInBounds_toArray,List.set_cons_zero,List.set_cons_succ])
           go_cut [88] (fun v88 wc=>∃(kq:Nat) (x88_27:Bool),v88= .bool x88_27∧Aside0 (z68_.j3 kq l0 x3_1 x4_1 x5_1 (rd l0 x5_1) x7_18 y115 x88_27=some r)∧Aside0 (kq≤kj18)∧Aside0 (Kd.R (Kd.int .u8) 5 wc w.heap.size (fun k_=>some k_≠(v116:Value).ownBlock) u3 x3_1)∧Aside0 (Kd.R (Kd.int .u8) 5 wc w.heap.size (fun k_=>some k_≠(u3:Value).ownBlock) v116 y115)∧Aside0 (Below w.heap.size w wc))
           case first =>
            have H:=HC28.out;clear HC28;replace H:=Option.bind_eq_some_iff.mp H;obtain⟨t118,A310,H⟩:=H;have A31:=qM_ A310;clear A310;by_cases c32:t118=true
            ·subst c32
             have H1:(if(rd l0 x5_1)=61 then(if(rd l0 x5_1)=32 then(z68_.j3 kj18 l0 x3_1 x4_1 x5_1 (rd l0 x5_1) x7_18 y115 (!(!x7_18)))else(z68_.j3 kj18 l0 x3_1 x4_1 x5_1 (rd l0 x5_1) x7_18 y115 (!false)))else(z68_.j3 kj18 l0 x3_1 x4_1 x5_1 (rd l0 x5_1) x7_18 y115 (!true)))=some r:=by rw[if_pos rfl]at H;exact H
             clear H;have H:=H1;clear H1;by_cases c33:(rd l0 x5_1)=61
             ·rw[if_pos c33]at H
              have c33b0:((rd l0 x5_1) == 61)=true:=beq_iff_eq.mpr c33;have c33b1:((rd l0 x5_1) != 61)=false:=bne_eq_false_iff_eq.mpr c33;clear c33
              (first|rw[c33b0]|(simp only[i64_w,i32_w];rw[c33b0])|skip)
              by_cases c34:(rd l0 x5_1)=32
              ·rw[if_pos c34]at H
               have c34b0:((rd l0 x5_1) == 32)=true:=beq_iff_eq.mpr c34;have c34b1:((rd l0 x5_1) != 32)=false:=bne_eq_false_iff_eq.mpr c34;clear c34;have H' := qM_ H;clear H
               go_wp2_with (first|((with_reducible refine gate_callee (f:=37) rfl ?_);refine goesL_ (some 75) rfl rfl Try.func37 qK rfl #[.int .i64 (wrap64 ((rd l0 x5_1))),.int .i64 33,.int .i64 126] rfl qll_ ?_;(with_reducible refine(z37_.calls (wrap64 ((rd l0 x5_1))) 33 126 true _ A31.out).mono ?_);rintro e w' ⟨rfl,⟨nd,rfl⟩⟩;refine⟨_,rfl,?_⟩))
               go_meet
               case rel=>exact⟨_,(!(!x7_18)),qff_,H', ⟨by have:=HK1.out;have:=HJ4.out;have:=HJ18.out;first|omega|exact Nat.le_refl _⟩,⟨by(with_reducible repeat(first|apply Kd.R_alloc|apply Kd.R_drewN|apply Kd.R_drew));exact Kd.R_mono HO_3.out (fun _ hk=>hk.2)⟩,⟨by(with_reducible repeat(first|apply Kd.R_alloc|apply Kd.R_drewN|apply Kd.R_drew));exact Kd.R_mono HO117.out (fun _ hk=>hk.2)⟩,⟨qBHB⟩⟩
              ·rw[if_neg c34]at H
               have c34b0:((rd l0 x5_1) == 32)=false:=beq_eq_false_iff_ne.mpr c34;have c34b1:((rd l0 x5_1) != 32)=true:=bne_iff_ne.mpr c34;have H' := qM_ H;clear H
               go_wp2_with (first|((with_reducible refine gate_callee (f:=37) rfl ?_);refine goesL_ (some 75) rfl rfl Try.func37 qK rfl #[.int .i64 (wrap64 ((rd l0 x5_1))),.int .i64 33,.int .i64 126] rfl qll_ ?_;(with_reducible refine(z37_.calls (wrap64 ((rd l0 x5_1))) 33 126 true _ A31.out).mono ?_);rintro e w' ⟨rfl,⟨nd,rfl⟩⟩;refine⟨_,rfl,?_⟩))
               go_meet
               case rel=>exact⟨_,(!false),qff_,H', ⟨by have:=HK1.out;have:=HJ4.out;have:=HJ18.out;first|omega|exact Nat.le_refl _⟩,⟨by(with_reducible repeat(first|apply Kd.R_alloc|apply Kd.R_drewN|apply Kd.R_drew));exact Kd.R_mono HO_3.out (fun _ hk=>hk.2)⟩,⟨by(with_reducible repeat(first|apply Kd.R_alloc|apply Kd.R_drewN|apply Kd.R_drew));exact Kd.R_mono HO117.out (fun _ hk=>hk.2)⟩,⟨qBHB⟩⟩
             ·rw[if_neg c33]at H
              have c33b0:((rd l0 x5_1) == 61)=false:=beq_eq_false_iff_ne.mpr c33;have c33b1:((rd l0 x5_1) != 61)=true:=bne_iff_ne.mpr c33
              (first|rw[c33b0]|(simp only[i64_w,i32_w];rw[c33b0])|skip)
              have H' := qM_ H;clear H
              go_wp2_with (first|((with_reducible refine gate_callee (f:=37) rfl ?_);refine goesL_ (some 75) rfl rfl Try.func37 qK rfl #[.int .i64 (wrap64 ((rd l0 x5_1))),.int .i64 33,.int .i64 126] rfl qll_ ?_;(with_reducible refine(z37_.calls (wrap64 ((rd l0 x5_1))) 33 126 true _ A31.out).mono ?_);rintro e w' ⟨rfl,⟨nd,rfl⟩⟩;refine⟨_,rfl,?_⟩))
              go_meet
              case rel=>exact⟨_,(!true),qff_,H', ⟨by have:=HK1.out;have:=HJ4.out;have:=HJ18.out;first|omega|exact Nat.le_refl _⟩,⟨by(with_reducible repeat(first|apply Kd.R_alloc|apply Kd.R_drewN|apply Kd.R_drew));exact Kd.R_mono HO_3.out (fun _ hk=>hk.2)⟩,⟨by(with_reducible repeat(first|apply Kd.R_alloc|apply Kd.R_drewN|apply Kd.R_drew));exact Kd.R_mono HO117.out (fun _ hk=>hk.2)⟩,⟨qBHB⟩⟩
            ·replace c32:=Bool.eq_false_iff.mpr c32
             subst c32
             have H1:(if(rd l0 x5_1)=32 then(z68_.j3 kj18 l0 x3_1 x4_1 x5_1 (rd l0 x5_1) x7_18 y115 (!(!x7_18)))else(z68_.j3 kj18 l0 x3_1 x4_1 x5_1 (rd l0 x5_1) x7_18 y115 (!false)))=some r:=by rw[if_neg (show ¬(false=true)by decide)]at H;exact H
             clear H;have H:=H1;clear H1;by_cases c35:(rd l0 x5_1)=32
             ·rw[if_pos c35]at H
              have c35b0:((rd l0 x5_1) == 32)=true:=beq_iff_eq.mpr c35;have c35b1:((rd l0 x5_1) != 32)=false:=bne_eq_false_iff_eq.mpr c35;clear c35;have H' := qM_ H;clear H
              go_wp2_with (first|((with_reducible refine gate_callee (f:=37) rfl ?_);refine goesL_ (some 75) rfl rfl Try.func37 qK rfl #[.int .i64 (wrap64 ((rd l0 x5_1))),.int .i64 33,.int .i64 126] rfl qll_ ?_;(with_reducible refine(z37_.calls (wrap64 ((rd l0 x5_1))) 33 126 false _ A31.out).mono ?_);rintro e w' ⟨rfl,⟨nd,rfl⟩⟩;refine⟨_,rfl,?_⟩))
              go_meet
              case rel=>exact⟨_,(!(!x7_18)),qff_,H', ⟨by have:=HK1.out;have:=HJ4.out;have:=HJ18.out;first|omega|exact Nat.le_refl _⟩,⟨by(with_reducible repeat(first|apply Kd.R_alloc|apply Kd.R_drewN|apply Kd.R_drew));exact Kd.R_mono HO_3.out (fun _ hk=>hk.2)⟩,⟨by(with_reducible repeat(first|apply Kd.R_alloc|apply Kd.R_drewN|apply Kd.R_drew));exact Kd.R_mono HO117.out (fun _ hk=>hk.2)⟩,⟨qBHB⟩⟩
             ·rw[if_neg c35]at H
              have c35b0:((rd l0 x5_1) == 32)=false:=beq_eq_false_iff_ne.mpr c35;have c35b1:((rd l0 x5_1) != 32)=true:=bne_iff_ne.mpr c35;have H' := qM_ H;clear H
              go_wp2_with (first|((with_reducible refine gate_callee (f:=37) rfl ?_);refine goesL_ (some 75) rfl rfl Try.func37 qK rfl #[.int .i64 (wrap64 ((rd l0 x5_1))),.int .i64 33,.int .i64 126] rfl qll_ ?_;(with_reducible refine(z37_.calls (wrap64 ((rd l0 x5_1))) 33 126 false _ A31.out).mono ?_);rintro e w' ⟨rfl,⟨nd,rfl⟩⟩;refine⟨_,rfl,?_⟩))
              go_meet
              case rel=>exact⟨_,(!false),qff_,H', ⟨by have:=HK1.out;have:=HJ4.out;have:=HJ18.out;first|omega|exact Nat.le_refl _⟩,⟨by(with_reducible repeat(first|apply Kd.R_alloc|apply Kd.R_drewN|apply Kd.R_drew));exact Kd.R_mono HO_3.out (fun _ hk=>hk.2)⟩,⟨by(with_reducible repeat(first|apply Kd.R_alloc|apply Kd.R_drewN|apply Kd.R_drew));exact Kd.R_mono HO117.out (fun _ hk=>hk.2)⟩,⟨qBHB⟩⟩
           case rest =>
            clear HC28
            try clear c1
            try clear p1
            try clear q1
            try clear hx1
            try clear c2
            try clear p2
            try clear c3
            try clear c4
            try clear c4b0
            try clear c6
            try clear c6b0
            try clear p6
            try clear c7
            try clear c7b0
            try clear c7b1
            try clear c8
            try clear c8b0
            try clear c10
            try clear c10b0
            try clear p10
            try clear q10
            try clear hx10
            try clear c11
            try clear p11
            try clear q11
            try clear hx11
            try clear c12
            try clear c17
            try clear c17b0
            try clear c18
            try clear c18b0
            try clear c20
            try clear c20b0
            try clear c20b1
            try clear c22
            try clear c22b0
            try clear c23
            try clear c23b0
            try clear c24
            try clear c24b0
            try clear c24b1
            try clear c25
            try clear c25b0
            try clear c27
            try clear c27b0
            try clear c32
            try clear c33
            try clear c33b0
            try clear c33b1
            try clear c34
            try clear c34b0
            try clear c34b1
            try clear c35
            try clear c35b0
            try clear c35b1
            try clear hx104_0
            try clear hx105_0
            try clear hx112_0
            try clear hx113_0
            try clear hx114_0
            try clear p1
            try clear p10
            try clear p104
            try clear p105
            try clear p11
            try clear p112
            try clear p113
            try clear p114
            try clear p2
            try clear p6
            try clear q1
            try clear q10
            try clear q104
            try clear q105
            try clear q11
            try clear q112
            try clear q113
            try clear q114
            obtain⟨kq,x88_27,rfl,HA,HJ27,HO_3,HO_8,HB⟩:=hcut
            cases kq with
            | zero=>exact absurd HA.out (by simp[z68_.j3])
            | succ kj27 =>
             have H:=HA.out;clear HA;simp only[z68_.j3]at H;by_cases c36:x88_27=true
             ·subst c36
              have H1:(if 0≤((Int.tdiv (rd l0 x5_1) 16) % 256)then(if((Int.tdiv (rd l0 x5_1) 16) % 256) < 16 then(if 0≤(Int.tmod (rd l0 x5_1) 16)then(if(Int.tmod (rd l0 x5_1) 16) < 16 then((some (([61,bt z68_.b0 ((Int.tdiv (rd l0 x5_1) 16) % 256),bt z68_.b0 (Int.tmod (rd l0 x5_1) 16)]:List Int):List Int)).bind fun y119=>(if(wrap64 (x4_1+(y119.length:Int))) > 75 then(if x7_18=true then(if((wrap64 (x4_1+(y119.length:Int)))≤76)then(if x3_1.length+y119.length < 140737488355328 then(z68_.l0 kj27 l0 (x3_1 ++ y119) (wrap64 (x4_1+(y119.length:Int))) (wrap64 (x5_1+1)))else(none))else((some (([61,13,10]:List Int):List Int)).bind fun y125=>(if x3_1.length+y125.length < 140737488355328 then((some (x3_1 ++ y125:List Int)).bind fun y128=>(if y128.length+y119.length < 140737488355328 then(z68_.l0 kj27 l0 (y128 ++ y119) (wrap64 (0+(y119.length:Int))) (wrap64 (x5_1+1)))else(none)))else(none))))else((some (([61,13,10]:List Int):List Int)).bind fun y134=>(if x3_1.length+y134.length < 140737488355328 then((some (x3_1 ++ y134:List Int)).bind fun y137=>(if y137.length+y119.length < 140737488355328 then(z68_.l0 kj27 l0 (y137 ++ y119) (wrap64 (0+(y119.length:Int))) (wrap64 (x5_1+1)))else(none)))else(none))))else(if x3_1.length+y119.length < 140737488355328 then(z68_.l0 kj27 l0 (x3_1 ++ y119) (wrap64 (x4_1+(y119.length:Int))) (wrap64 (x5_1+1)))else(none))))else(none))else(none))else(none))else(none))=some r:=by rw[if_pos rfl]at H;exact H
              clear H;have H:=H1;clear H1
              obtain⟨ji37,hji37⟩:∃ j_:Int,((Int.tdiv (rd l0 x5_1) 16) % 256)=j_:=⟨_,rfl⟩
              replace H:(if 0≤(ji37)then(if(ji37) < 16 then(if 0≤(Int.tmod (rd l0 x5_1) 16)then(if(Int.tmod (rd l0 x5_1) 16) < 16 then((some (([61,bt z68_.b0 (ji37),bt z68_.b0 (Int.tmod (rd l0 x5_1) 16)]:List Int):List Int)).bind fun y119=>(if(wrap64 (x4_1+(y119.length:Int))) > 75 then(if x7_18=true then(if((wrap64 (x4_1+(y119.length:Int)))≤76)then(if x3_1.length+y119.length < 140737488355328 then(z68_.l0 kj27 l0 (x3_1 ++ y119) (wrap64 (x4_1+(y119.length:Int))) (wrap64 (x5_1+1)))else(none))else((some (([61,13,10]:List Int):List Int)).bind fun y125=>(if x3_1.length+y125.length < 140737488355328 then((some (x3_1 ++ y125:List Int)).bind fun y128=>(if y128.length+y119.length < 140737488355328 then(z68_.l0 kj27 l0 (y128 ++ y119) (wrap64 (0+(y119.length:Int))) (wrap64 (x5_1+1)))else(none)))else(none))))else((some (([61,13,10]:List Int):List Int)).bind fun y134=>(if x3_1.length+y134.length < 140737488355328 then((some (x3_1 ++ y134:List Int)).bind fun y137=>(if y137.length+y119.length < 140737488355328 then(z68_.l0 kj27 l0 (y137 ++ y119) (wrap64 (0+(y119.length:Int))) (wrap64 (x5_1+1)))else(none)))else(none))))else(if x3_1.length+y119.length < 140737488355328 then(z68_.l0 kj27 l0 (x3_1 ++ y119) (wrap64 (x4_1+(y119.length:Int))) (wrap64 (x5_1+1)))else(none))))else(none))else(none))else(none))else(none))=some r:=qj_ hji37 H;by_cases c38:0≤(ji37)
              ·rw[if_pos c38]at H
               have c38b0:decide (0≤(ji37))=true:=decide_eq_true c38;clear c38;by_cases c39:(ji37) < 16
               ·rw[if_pos c39]at H
                have c39b0:decide ((ji37) < 16)=true:=decide_eq_true c39;clear c39
                obtain⟨ji41,hji41⟩:∃ j_:Int,(Int.tmod (rd l0 x5_1) 16)=j_:=⟨_,rfl⟩
                replace H:(if 0≤(ji41)then(if(ji41) < 16 then((some (([61,bt z68_.b0 (ji37),bt z68_.b0 (ji41)]:List Int):List Int)).bind fun y119=>(if(wrap64 (x4_1+(y119.length:Int))) > 75 then(if x7_18=true then(if((wrap64 (x4_1+(y119.length:Int)))≤76)then(if x3_1.length+y119.length < 140737488355328 then(z68_.l0 kj27 l0 (x3_1 ++ y119) (wrap64 (x4_1+(y119.length:Int))) (wrap64 (x5_1+1)))else(none))else((some (([61,13,10]:List Int):List Int)).bind fun y125=>(if x3_1.length+y125.length < 140737488355328 then((some (x3_1 ++ y125:List Int)).bind fun y128=>(if y128.length+y119.length < 140737488355328 then(z68_.l0 kj27 l0 (y128 ++ y119) (wrap64 (0+(y119.length:Int))) (wrap64 (x5_1+1)))else(none)))else(none))))else((some (([61,13,10]:List Int):List Int)).bind fun y134=>(if x3_1.length+y134.length < 140737488355328 then((some (x3_1 ++ y134:List Int)).bind fun y137=>(if y137.length+y119.length < 140737488355328 then(z68_.l0 kj27 l0 (y137 ++ y119) (wrap64 (0+(y119.length:Int))) (wrap64 (x5_1+1)))else(none)))else(none))))else(if x3_1.length+y119.length < 140737488355328 then(z68_.l0 kj27 l0 (x3_1 ++ y119) (wrap64 (x4_1+(y119.length:Int))) (wrap64 (x5_1+1)))else(none))))else(none))else(none))=some r:=qj_ hji41 H;by_cases c42:0≤(ji41)
                ·rw[if_pos c42]at H
                 have c42b0:decide (0≤(ji41))=true:=decide_eq_true c42;clear c42;by_cases c43:(ji41) < 16
                 ·rw[if_pos c43]at H
                  have c43b0:decide ((ji41) < 16)=true:=decide_eq_true c43;clear c43
                  obtain⟨y119,hy119⟩:∃ y_:List Int,y_=(([61,bt z68_.b0 (ji37),bt z68_.b0 (ji41)]:List Int)):=⟨_,rfl⟩
                  replace H:(if(wrap64 (x4_1+(y119.length:Int))) > 75 then(if x7_18=true then(if((wrap64 (x4_1+(y119.length:Int)))≤76)then(if x3_1.length+y119.length < 140737488355328 then(z68_.l0 kj27 l0 (x3_1 ++ y119) (wrap64 (x4_1+(y119.length:Int))) (wrap64 (x5_1+1)))else(none))else((some (([61,13,10]:List Int):List Int)).bind fun y125=>(if x3_1.length+y125.length < 140737488355328 then((some (x3_1 ++ y125:List Int)).bind fun y128=>(if y128.length+y119.length < 140737488355328 then(z68_.l0 kj27 l0 (y128 ++ y119) (wrap64 (0+(y119.length:Int))) (wrap64 (x5_1+1)))else(none)))else(none))))else((some (([61,13,10]:List Int):List Int)).bind fun y134=>(if x3_1.length+y134.length < 140737488355328 then((some (x3_1 ++ y134:List Int)).bind fun y137=>(if y137.length+y119.length < 140737488355328 then(z68_.l0 kj27 l0 (y137 ++ y119) (wrap64 (0+(y119.length:Int))) (wrap64 (x5_1+1)))else(none)))else(none))))else(if x3_1.length+y119.length < 140737488355328 then(z68_.l0 kj27 l0 (x3_1 ++ y119) (wrap64 (x4_1+(y119.length:Int))) (wrap64 (x5_1+1)))else(none)))=some r:=qh_ hy119 H;have Ny119:=qM_ hy119;clear hy119;by_cases c45:(wrap64 (x4_1+(y119.length:Int))) > 75
                  ·rw[if_pos c45]at H
                   have c45b0:decide (75 < (wrap64 (x4_1+(y119.length:Int))))=true:=decide_eq_true c45;clear c45;by_cases c46:x7_18=true
                   ·subst c46
                    have H1:(if((wrap64 (x4_1+(y119.length:Int)))≤76)then(if x3_1.length+y119.length < 140737488355328 then(z68_.l0 kj27 l0 (x3_1 ++ y119) (wrap64 (x4_1+(y119.length:Int))) (wrap64 (x5_1+1)))else(none))else((some (([61,13,10]:List Int):List Int)).bind fun y125=>(if x3_1.length+y125.length < 140737488355328 then((some (x3_1 ++ y125:List Int)).bind fun y128=>(if y128.length+y119.length < 140737488355328 then(z68_.l0 kj27 l0 (y128 ++ y119) (wrap64 (0+(y119.length:Int))) (wrap64 (x5_1+1)))else(none)))else(none))))=some r:=by rw[if_pos rfl]at H;exact H
                    clear H;have H:=H1;clear H1;by_cases c47:((wrap64 (x4_1+(y119.length:Int)))≤76)
                    ·rw[if_pos c47]at H
                     have c47b0:decide ((wrap64 (x4_1+(y119.length:Int)))≤76)=true:=decide_eq_true c47;clear c47;by_cases c48:x3_1.length+y119.length < 140737488355328
                     ·rw[if_pos c48]at H
                      have LMc48:=qM_ c48;clear c48
                      obtain⟨y122,hy122⟩:∃ y_:List Int,y_=(x3_1 ++ y119):=⟨_,rfl⟩
                      replace H:(z68_.l0 kj27 l0 y122 (wrap64 (x4_1+(y119.length:Int))) (wrap64 (x5_1+1)))=some r:=qh_ hy122 H;have Ny122:=qM_ hy122;clear hy122;have H' := qM_ H;clear H
                      try go_wp2
                      replace HO_3:=qM_ (Kd.R_drew HO_3.out);replace HO_8:=qM_ (Kd.R_drew HO_8.out);replace HB:=qM_ (qE_ HB.out);have p40:0≤((ji37):Int):=qd_;have q40:(ji37) < (16:Int):=qd_;have hx40:=bt_at z68_.b0 (ji37);replace p40:=eq_true p40;replace q40:=eq_true q40;have p44:0≤((ji41):Int):=qd_;have q44:(ji41) < (16:Int):=qd_;have hx44:=bt_at z68_.b0 (ji41);replace p44:=eq_true p44;replace q44:=eq_true q44
                      refine start_ (n:=8) (S:=fun w' => True) (ds:=[]) #[qF,qF,qF,qF,qF,qF,qF,qF] qK rfl rfl trivial (fun hHeld=> ?_);refine with_tabW z68_.tab13 z68_.bits13 (fun HT_ HW_=> ?_)
                      generalize wc.drew=w49 at HO_3 HO_8 HB hHeld ⊢;refine pure_ (i:=0) (N:=some 89) (v:= ?_) (a' := ?_) #[qT,qF,qF,qF,qF,qF,qF,qF] rfl rfl (any_of HT_.out qK) (fun _ _ _ h=>h) (Or.inl ⟨by rfl,?_⟩) ?_ ?_;rotate_left
                      ·intro w'
                       go_simp;with_reducible rfl
                      rotate_left
                      ·simp only[Act.put,qS_,qW_]
                       rfl
                      refine pure_ (i:=1) (N:=some 90) (v:= ?_) (a' := ?_) #[qT,qT,qF,qF,qF,qF,qF,qF] rfl rfl (any_of HT_.out qK) (fun _ _ _ h=>h) (Or.inl ⟨by rfl,?_⟩) ?_ ?_;rotate_left
                      ·intro w'
                       go_simp;with_reducible rfl
                      rotate_left
                      ·simp only[Act.put,qS_,qW_]
                       rfl
                      refine pure_ (i:=3) (N:=some 92) (v:= ?_) (a' := ?_) #[qT,qT,qF,qT,qF,qF,qF,qF] rfl rfl (any_of HT_.out qK) (fun _ _ _ h=>h) (Or.inl ⟨by rfl,?_⟩) ?_ ?_;rotate_left
                      ·intro w'
                       go_simp;with_reducible rfl
                      rotate_left
                      ·simp only[Act.put,qS_,qW_]
                       rfl
                      refine pure_ (i:=4) (N:=some 93) (v:= ?_) (a' := ?_) #[qT,qT,qF,qT,qT,qF,qF,qF] rfl rfl (any_of HT_.out qK) (fun _ _ _ h=>h) (Or.inl ⟨by rfl,?_⟩) ?_ ?_;rotate_left
                      ·intro w'
                       go_simp;with_reducible rfl
                      rotate_left
                      ·simp only[Act.put,qS_,qW_]
                       rfl
                      refine take_ (i:=2) (N:=some 91) (v:= ?_) (a' := ?_) #[qT,qT,qT,qT,qT,qF,qF,qF] rfl rfl (take_ofW HT_.out HW_.out qK) (fun _ _ _ h=>h) (Or.inl ⟨by rfl,?_⟩) hHeld ?_ ?_;rotate_left
                      ·intro w' _
                       go_simp;with_reducible rfl
                      rotate_left
                      ·simp only[Act.put,qS_,qW_]
                       rfl
                      refine take_ (i:=5) (N:=some 94) (v:= ?_) (a' := ?_) #[qT,qT,qT,qT,qT,qT,qF,qF] rfl rfl (take_ofW HT_.out HW_.out qK) (fun _ _ _ h=>h) (Or.inl ⟨by rfl,?_⟩) hHeld ?_ ?_;rotate_left
                      ·intro w' _
                       go_simp;with_reducible rfl
                      rotate_left
                      ·simp only[Act.put,qS_,qW_]
                       rfl
                      refine one_ (i:=6) (N:=some 95) #[qT,qT,qT,qT,qT,qT,qT,qF] rfl rfl (one_of HT_.out qK) (by decide) (fun K hK=> ?_)
                      refine Kd.R_lit_step (Kd.int .u8) _ 5 ?hg (N:=95) ?hd (xs:=([61,bt z68_.b0 (ji37),bt z68_.b0 (ji41)]:List Int)) (inner:=[.int .u8 61,.int .u8 (bt z68_.b0 (ji37)),.int .u8 (bt z68_.b0 (ji41))]) (ok:=fun _=>True) (okp:=fun _=>True) ?hr ?hp (fun _ hk=>hk) trivial (Below.refl _ _) (Nat.le_refl _) (by simp) ?_;(case hd=>rfl);(case hg=>rfl);(case hr=>first|(go_simp;done)|(go_simp;rfl));(case hp=>exact(Reps.one rfl (Reps.one rfl (Reps.one rfl (Reps.none _ _)))))
                      intro v120 w50 ho51 hb hg_ hnew_
                      clear hg_ hnew_
                      (first|rw[← Ny119.out]at ho51|(simp only[Int.reduceToNat]at ho51;rw[← Ny119.out]at ho51))
                      have HO121:=qM_ (Kd.R_lower (Kd.R_new' (Kd.R_new' ho51 (Kd.R_lt (qr_ HO_3))) (Kd.R_lt (qr_ HO_8))) (below_size qBHB));replace HO_3:=qM_ (Kd.R_elder' (qr_ HO_3) (Kd.R_base ho51) hb);replace HO_8:=qM_ (Kd.R_elder' (qr_ HO_8) (Kd.R_base ho51) hb);replace HB:=qM_ (below_step qBHB hb);clear hb ho51;refine hK.out _ _ trivial (fun hHeld=> ?_);clear hK K;refine norm_ (a' := ?_) ?_ ?_;rotate_left
                      ·show Act.put _ (some 95) _=_
                       simp only[Act.put,qS_,qW_];rfl
                      refine pure_ (i:=7) (N:=some 8) (v:= ?_) (a' := ?_) #[qT,qT,qT,qT,qT,qT,qT,qT] rfl rfl (any_of HT_.out qK) (fun _ _ _ h=>h) (Or.inl ⟨by rfl,?_⟩) ?_ ?_;rotate_left
                      ·intro w'
                       go_simp;with_reducible rfl
                      rotate_left
                      ·simp only[Act.put,qS_,qW_]
                       rfl
                      refine done_ (done_of HT_.out qK) ?_;obtain⟨Ao52,co52,eo52⟩:=Kd.R_slice HO121.out;subst eo52
                      try go_wp2_with (first|((with_reducible refine gate_builtin (b:= .append) (xs:=#[.tmp 115,.tmp 116]) rfl ?_);(try(refine gate_guard (by rfl) ?_;dsimp only));at_builtin;refine Kd.R_append_rows (Kd.int .u8) (w0:=w) w.heap.size rfl (.tmp 115) (.tmp 116) 26 5 (.int .u8 0) 1 rfl Try.underlying26 info5 rfl (by decide) (by omega) u3 x3_1 y119 _ _ _ (fun k_=>some k_≠(v116:Value).ownBlock∧some k_≠(.slice Ao52 y119.length co52:Value).ownBlock) (fun _=>False) rfl rfl ?aO ?aR (fun _ _ h=>h) (fun _ h=>h.elim) ?aF ?aB ?aS ?aL ?_;(case aR=>repeat(first|exact(Kd.R_reads' HO121.out).2.2|(with_reducible refine Kd.C_alloc ?_ _)|(with_reducible refine Kd.C_drewN ?_ _)|(with_reducible refine Kd.C_drew ?_)));(case aB=>exact qBHB);(case aF=>exact(fun k_ hk=>⟨Kd.fresh' (Kd.R_lt (qr_ HO_8)) k_ hk,Kd.fresh' (Kd.R_lt (qr_ HO121)) k_ hk⟩));(case aO=>exact(qr_ HO_3));(case aS=>exact(below_size qBHB));(case aL=>have:=LMc48.out;omega);intro v123 w53 ho hb hg hat;rw[← Ny122.out]at ho;replace HO_8:=qM_ (Kd.R_after (ok:=(fun k_=>some k_≠(.slice Ao52 y119.length co52:Value).ownBlock)) (by(with_reducible repeat(first|apply Kd.R_alloc|apply Kd.R_drewN|apply Kd.R_drew));exact Kd.R_mono HO_8.out (fun _ hk=>⟨hk.2,hk.1⟩)) hg hat);replace HO121:=qM_ (Kd.R_after (ok:=(fun k_=>some k_≠(v116:Value).ownBlock)) (by(with_reducible repeat(first|apply Kd.R_alloc|apply Kd.R_drewN|apply Kd.R_drew));exact Kd.R_mono HO121.out (fun _ hk=>⟨hk.2,hk.1.2⟩)) hg hat);replace HB:=qM_ (hb);have HO124:=qM_ (ho);clear HO_3;clear ho hb hg hat))
                      go_roundg kj27
                      case measure=>have:=HK1.out;have:=HJ4.out;have:=HJ18.out;have:=HJ27.out;omega
                      case rel=>exact⟨(y122),(wrap64 (x4_1+(y119.length:Int))),(wrap64 (x5_1+1)),qff_,qff_,H', ⟨by have:=HK1.out;have:=HJ4.out;have:=HJ18.out;have:=HJ27.out;omega⟩,⟨by(with_reducible repeat(first|apply Kd.R_alloc|apply Kd.R_drewN|apply Kd.R_drew));exact Kd.R_mono HO124.out (fun _ hk=>trivial)⟩,⟨qBHB⟩⟩
                     ·rw[if_neg c48]at H
                      exact absurd H (by simp)
                    ·rw[if_neg c47]at H
                     have c47b0:decide ((wrap64 (x4_1+(y119.length:Int)))≤76)=false:=decide_eq_false c47;clear c47
                     obtain⟨y125,hy125⟩:∃ y_:List Int,y_=(([61,13,10]:List Int)):=⟨_,rfl⟩
                     replace H:(if x3_1.length+y125.length < 140737488355328 then((some (x3_1 ++ y125:List Int)).bind fun y128=>(if y128.length+y119.length < 140737488355328 then(z68_.l0 kj27 l0 (y128 ++ y119) (wrap64 (0+(y119.length:Int))) (wrap64 (x5_1+1)))else(none)))else(none))=some r:=qh_ hy125 H;have Ny125:=qM_ hy125;clear hy125;by_cases c54:x3_1.length+y125.length < 140737488355328
                     ·rw[if_pos c54]at H
                      have LMc54:=qM_ c54;clear c54
                      obtain⟨y128,hy128⟩:∃ y_:List Int,y_=(x3_1 ++ y125):=⟨_,rfl⟩
                      replace H:(if y128.length+y119.length < 140737488355328 then(z68_.l0 kj27 l0 (y128 ++ y119) (wrap64 (0+(y119.length:Int))) (wrap64 (x5_1+1)))else(none))=some r:=qh_ hy128 H;have Ny128:=qM_ hy128;clear hy128;by_cases c55:y128.length+y119.length < 140737488355328
                      ·rw[if_pos c55]at H
                       have LMc55:=qM_ c55;clear c55
                       obtain⟨y131,hy131⟩:∃ y_:List Int,y_=(y128 ++ y119):=⟨_,rfl⟩
                       replace H:(z68_.l0 kj27 l0 y131 (wrap64 (0+(y119.length:Int))) (wrap64 (x5_1+1)))=some r:=qh_ hy131 H;have Ny131:=qM_ hy131;clear hy131;have H' := qM_ H;clear H
                       try go_wp2
                       replace HO_3:=qM_ (Kd.R_drew HO_3.out);replace HO_8:=qM_ (Kd.R_drew HO_8.out);replace HB:=qM_ (qE_ HB.out);have p40:0≤((ji37):Int):=qd_;have q40:(ji37) < (16:Int):=qd_;have hx40:=bt_at z68_.b0 (ji37);replace p40:=eq_true p40;replace q40:=eq_true q40;have p44:0≤((ji41):Int):=qd_;have q44:(ji41) < (16:Int):=qd_;have hx44:=bt_at z68_.b0 (ji41);replace p44:=eq_true p44;replace q44:=eq_true q44
                       refine start_ (n:=8) (S:=fun w' => True) (ds:=[]) #[qF,qF,qF,qF,qF,qF,qF,qF] qK rfl rfl trivial (fun hHeld=> ?_);refine with_tabW z68_.tab13 z68_.bits13 (fun HT_ HW_=> ?_)
                       generalize wc.drew=w56 at HO_3 HO_8 HB hHeld ⊢;refine pure_ (i:=0) (N:=some 89) (v:= ?_) (a' := ?_) #[qT,qF,qF,qF,qF,qF,qF,qF] rfl rfl (any_of HT_.out qK) (fun _ _ _ h=>h) (Or.inl ⟨by rfl,?_⟩) ?_ ?_;rotate_left
                       ·intro w'
                        go_simp;with_reducible rfl
                       rotate_left
                       ·simp only[Act.put,qS_,qW_]
                        rfl
                       refine pure_ (i:=1) (N:=some 90) (v:= ?_) (a' := ?_) #[qT,qT,qF,qF,qF,qF,qF,qF] rfl rfl (any_of HT_.out qK) (fun _ _ _ h=>h) (Or.inl ⟨by rfl,?_⟩) ?_ ?_;rotate_left
                       ·intro w'
                        go_simp;with_reducible rfl
                       rotate_left
                       ·simp only[Act.put,qS_,qW_]
                        rfl
                       refine pure_ (i:=3) (N:=some 92) (v:= ?_) (a' := ?_) #[qT,qT,qF,qT,qF,qF,qF,qF] rfl rfl (any_of HT_.out qK) (fun _ _ _ h=>h) (Or.inl ⟨by rfl,?_⟩) ?_ ?_;rotate_left
                       ·intro w'
                        go_simp;with_reducible rfl
                       rotate_left
                       ·simp only[Act.put,qS_,qW_]
                        rfl
                       refine pure_ (i:=4) (N:=some 93) (v:= ?_) (a' := ?_) #[qT,qT,qF,qT,qT,qF,qF,qF] rfl rfl (any_of HT_.out qK) (fun _ _ _ h=>h) (Or.inl ⟨by rfl,?_⟩) ?_ ?_;rotate_left
                       ·intro w'
                        go_simp;with_reducible rfl
                       rotate_left
                       ·simp only[Act.put,qS_,qW_]
                        rfl
                       refine take_ (i:=2) (N:=some 91) (v:= ?_) (a' := ?_) #[qT,qT,qT,qT,qT,qF,qF,qF] rfl rfl (take_ofW HT_.out HW_.out qK) (fun _ _ _ h=>h) (Or.inl ⟨by rfl,?_⟩) hHeld ?_ ?_;rotate_left
                       ·intro w' _
                        go_simp;with_reducible rfl
                       rotate_left
                       ·simp only[Act.put,qS_,qW_]
                        rfl
                       refine take_ (i:=5) (N:=some 94) (v:= ?_) (a' := ?_) #[qT,qT,qT,qT,qT,qT,qF,qF] rfl rfl (take_ofW HT_.out HW_.out qK) (fun _ _ _ h=>h) (Or.inl ⟨by rfl,?_⟩) hHeld ?_ ?_;rotate_left
                       ·intro w' _
                        go_simp;with_reducible rfl
                       rotate_left
                       ·simp only[Act.put,qS_,qW_]
                        rfl
                       refine one_ (i:=6) (N:=some 95) #[qT,qT,qT,qT,qT,qT,qT,qF] rfl rfl (one_of HT_.out qK) (by decide) (fun K hK=> ?_)
                       refine Kd.R_lit_step (Kd.int .u8) _ 5 ?hg (N:=95) ?hd (xs:=([61,bt z68_.b0 (ji37),bt z68_.b0 (ji41)]:List Int)) (inner:=[.int .u8 61,.int .u8 (bt z68_.b0 (ji37)),.int .u8 (bt z68_.b0 (ji41))]) (ok:=fun _=>True) (okp:=fun _=>True) ?hr ?hp (fun _ hk=>hk) trivial (Below.refl _ _) (Nat.le_refl _) (by simp) ?_;(case hd=>rfl);(case hg=>rfl);(case hr=>first|(go_simp;done)|(go_simp;rfl));(case hp=>exact(Reps.one rfl (Reps.one rfl (Reps.one rfl (Reps.none _ _)))))
                       intro v120 w57 ho58 hb hg_ hnew_
                       clear hg_ hnew_
                       (first|rw[← Ny119.out]at ho58|(simp only[Int.reduceToNat]at ho58;rw[← Ny119.out]at ho58))
                       have HO121:=qM_ (Kd.R_lower (Kd.R_new' (Kd.R_new' ho58 (Kd.R_lt (qr_ HO_3))) (Kd.R_lt (qr_ HO_8))) (below_size qBHB));replace HO_3:=qM_ (Kd.R_elder' (qr_ HO_3) (Kd.R_base ho58) hb);replace HO_8:=qM_ (Kd.R_elder' (qr_ HO_8) (Kd.R_base ho58) hb);replace HB:=qM_ (below_step qBHB hb);clear hb ho58;refine hK.out _ _ trivial (fun hHeld=> ?_);clear hK K;refine norm_ (a' := ?_) ?_ ?_;rotate_left
                       ·show Act.put _ (some 95) _=_
                        simp only[Act.put,qS_,qW_];rfl
                       refine pure_ (i:=7) (N:=some 8) (v:= ?_) (a' := ?_) #[qT,qT,qT,qT,qT,qT,qT,qT] rfl rfl (any_of HT_.out qK) (fun _ _ _ h=>h) (Or.inl ⟨by rfl,?_⟩) ?_ ?_;rotate_left
                       ·intro w'
                        go_simp;with_reducible rfl
                       rotate_left
                       ·simp only[Act.put,qS_,qW_]
                        rfl
                       refine done_ (done_of HT_.out qK) ?_;obtain⟨Ao59,co59,eo59⟩:=Kd.R_slice HO121.out;subst eo59
                       try go_wp2_with (first|((with_reducible refine gate_dst (N:=113) rfl ?_);(try(refine gate_guard (by rfl) ?_;dsimp only));refine Kd.R_lit (Kd.int .u8) _ 5 ?hg (N:=113) ?hd (xs:=([61,13,10]:List Int)) (inner:=[.int .u8 61,.int .u8 13,.int .u8 10]) (ok:=fun _=>True) (okp:=fun _=>True) ?hr ?hp (fun _ hk=>hk) trivial (Below.refl _ _) (Nat.le_refl _) (by simp) ?_;(case hd=>rfl);(case hg=>rfl);(case hr=>first|(go_simp;done)|(go_simp;rfl));(case hp=>exact(Reps.one rfl (Reps.one rfl (Reps.one rfl (Reps.none _ _)))));intro v126 w60 ho61 hb hg_ hnew_;clear hg_ hnew_;(first|rw[← Ny125.out]at ho61|(simp only[Int.reduceToNat]at ho61;rw[← Ny125.out]at ho61));have HO127:=qM_ (Kd.R_lower (Kd.R_new' (Kd.R_new' (Kd.R_new' ho61 (Kd.R_lt (qr_ HO_3))) (Kd.R_lt (qr_ HO_8))) (Kd.R_lt (qr_ HO121))) (below_size qBHB));replace HO_3:=qM_ (Kd.R_elder' (qr_ HO_3) (Kd.R_base ho61) hb);replace HO_8:=qM_ (Kd.R_elder' (qr_ HO_8) (Kd.R_base ho61) hb);replace HO121:=qM_ (Kd.R_elder' (qr_ HO121) (Kd.R_base ho61) hb);replace HB:=qM_ (below_step qBHB hb);clear hb ho61;obtain⟨Ao63,co63,eo63⟩:=Kd.R_slice HO127.out;subst eo63)|((with_reducible refine gate_builtin (b:= .append) (xs:=#[.tmp 112,.tmp 113]) rfl ?_);(try(refine gate_guard (by rfl) ?_;dsimp only));at_builtin;refine Kd.R_append_rows (Kd.int .u8) (w0:=w) w.heap.size rfl (.tmp 112) (.tmp 113) 26 5 (.int .u8 0) 1 rfl Try.underlying26 info5 rfl (by decide) (by omega) u3 x3_1 y125 _ _ _ (fun k_=>some k_≠(v116:Value).ownBlock∧some k_≠(.slice Ao59 y119.length co59:Value).ownBlock∧some k_≠(.slice Ao63 y125.length co63:Value).ownBlock) (fun _=>False) rfl rfl ?aO ?aR (fun _ _ h=>h) (fun _ h=>h.elim) ?aF ?aB ?aS ?aL ?_;(case aR=>repeat(first|exact(Kd.R_reads' HO127.out).2.2|(with_reducible refine Kd.C_alloc ?_ _)|(with_reducible refine Kd.C_drewN ?_ _)|(with_reducible refine Kd.C_drew ?_)));(case aB=>exact qBHB);(case aF=>exact(fun k_ hk=>⟨Kd.fresh' (Kd.R_lt (qr_ HO_8)) k_ hk,Kd.fresh' (Kd.R_lt (qr_ HO121)) k_ hk,Kd.fresh' (Kd.R_lt (qr_ HO127)) k_ hk⟩));(case aO=>exact(by(with_reducible repeat(first|apply Kd.R_alloc|apply Kd.R_drewN|apply Kd.R_drew));exact Kd.R_mono HO_3.out (fun _ hk=>⟨hk.1.1,⟨hk.1.2,hk.2⟩⟩)));(case aS=>exact(below_size qBHB));(case aL=>have:=LMc54.out;omega);intro v129 w62 ho hb hg hat;rw[← Ny128.out]at ho;replace HO_8:=qM_ (Kd.R_after (ok:=(fun k_=>some k_≠(.slice Ao59 y119.length co59:Value).ownBlock∧some k_≠(.slice Ao63 y125.length co63:Value).ownBlock)) (by(with_reducible repeat(first|apply Kd.R_alloc|apply Kd.R_drewN|apply Kd.R_drew));exact Kd.R_mono HO_8.out (fun _ hk=>⟨⟨hk.1.2,hk.2⟩,hk.1.1⟩)) hg hat);replace HO121:=qM_ (Kd.R_after (ok:=(fun k_=>some k_≠(v116:Value).ownBlock∧some k_≠(.slice Ao63 y125.length co63:Value).ownBlock)) (by(with_reducible repeat(first|apply Kd.R_alloc|apply Kd.R_drewN|apply Kd.R_drew));exact Kd.R_mono HO121.out (fun _ hk=>⟨⟨hk.1.2,hk.2⟩,hk.1.1.2⟩)) hg hat);replace HO127:=qM_ (Kd.R_after (ok:=(fun k_=>some k_≠(v116:Value).ownBlock∧some k_≠(.slice Ao59 y119.length co59:Value).ownBlock)) (by(with_reducible repeat(first|apply Kd.R_alloc|apply Kd.R_drewN|apply Kd.R_drew));exact Kd.R_mono HO127.out (fun _ hk=>⟨⟨hk.1.2,hk.2⟩,hk.1.1.2⟩)) hg hat);replace HB:=qM_ (hb);have HO130:=qM_ (ho);clear HO_3;clear ho hb hg hat)|((with_reducible refine gate_builtin (b:= .append) (xs:=#[.tmp 115,.tmp 116]) rfl ?_);(try(refine gate_guard (by rfl) ?_;dsimp only));at_builtin;refine Kd.R_append_rows (Kd.int .u8) (w0:=w) w.heap.size rfl (.tmp 115) (.tmp 116) 26 5 (.int .u8 0) 1 rfl Try.underlying26 info5 rfl (by decide) (by omega) v129 y128 y119 _ _ _ (fun k_=>some k_≠(v116:Value).ownBlock∧some k_≠(.slice Ao59 y119.length co59:Value).ownBlock∧some k_≠(.slice Ao63 y125.length co63:Value).ownBlock) (fun _=>False) rfl rfl ?aO ?aR (fun _ _ h=>h) (fun _ h=>h.elim) ?aF ?aB ?aS ?aL ?_;(case aR=>repeat(first|exact(Kd.R_reads' HO121.out).2.2|(with_reducible refine Kd.C_alloc ?_ _)|(with_reducible refine Kd.C_drewN ?_ _)|(with_reducible refine Kd.C_drew ?_)));(case aB=>exact qBHB);(case aF=>exact(fun k_ hk=>⟨Kd.fresh' (Kd.R_lt (qr_ HO_8)) k_ hk,Kd.fresh' (Kd.R_lt (qr_ HO121)) k_ hk,Kd.fresh' (Kd.R_lt (qr_ HO127)) k_ hk⟩));(case aO=>exact(qr_ HO130));(case aS=>exact(below_size qBHB));(case aL=>have:=LMc55.out;omega);intro v132 w64 ho hb hg hat;rw[← Ny131.out]at ho;replace HO_8:=qM_ (Kd.R_after (ok:=(fun k_=>some k_≠(.slice Ao59 y119.length co59:Value).ownBlock∧some k_≠(.slice Ao63 y125.length co63:Value).ownBlock)) (qr_ HO_8) hg hat);replace HO121:=qM_ (Kd.R_after (ok:=(fun k_=>some k_≠(v116:Value).ownBlock∧some k_≠(.slice Ao63 y125.length co63:Value).ownBlock)) (qr_ HO121) hg hat);replace HO127:=qM_ (Kd.R_after (ok:=(fun k_=>some k_≠(v116:Value).ownBlock∧some k_≠(.slice Ao59 y119.length co59:Value).ownBlock)) (qr_ HO127) hg hat);replace HB:=qM_ (hb);have HO133:=qM_ (ho);clear HO130;clear ho hb hg hat))
                       go_roundg kj27
                       case measure=>have:=HK1.out;have:=HJ4.out;have:=HJ18.out;have:=HJ27.out;omega
                       case rel=>exact⟨(y131),(wrap64 (0+(y119.length:Int))),(wrap64 (x5_1+1)),qff_,qff_,H', ⟨by have:=HK1.out;have:=HJ4.out;have:=HJ18.out;have:=HJ27.out;omega⟩,⟨by(with_reducible repeat(first|apply Kd.R_alloc|apply Kd.R_drewN|apply Kd.R_drew));exact Kd.R_mono HO133.out (fun _ hk=>trivial)⟩,⟨qBHB⟩⟩
                      ·rw[if_neg c55]at H
                       exact absurd H (by simp)
                     ·rw[if_neg c54]at H
                      exact absurd H (by simp)
                   ·replace c46:=Bool.eq_false_iff.mpr c46
                    subst c46
                    have H1:((some (([61,13,10]:List Int):List Int)).bind fun y134=>(if x3_1.length+y134.length < 140737488355328 then((some (x3_1 ++ y134:List Int)).bind fun y137=>(if y137.length+y119.length < 140737488355328 then(z68_.l0 kj27 l0 (y137 ++ y119) (wrap64 (0+(y119.length:Int))) (wrap64 (x5_1+1)))else(none)))else(none)))=some r:=by rw[if_neg (show ¬(false=true)by decide)]at H;exact H
                    clear H;have H:=H1;clear H1
                    obtain⟨y134,hy134⟩:∃ y_:List Int,y_=(([61,13,10]:List Int)):=⟨_,rfl⟩
                    replace H:(if x3_1.length+y134.length < 140737488355328 then((some (x3_1 ++ y134:List Int)).bind fun y137=>(if y137.length+y119.length < 140737488355328 then(z68_.l0 kj27 l0 (y137 ++ y119) (wrap64 (0+(y119.length:Int))) (wrap64 (x5_1+1)))else(none)))else(none))=some r:=qh_ hy134 H;have Ny134:=qM_ hy134;clear hy134;by_cases c65:x3_1.length+y134.length < 140737488355328
                    ·rw[if_pos c65]at H
                     have LMc65:=qM_ c65;clear c65
                     obtain⟨y137,hy137⟩:∃ y_:List Int,y_=(x3_1 ++ y134):=⟨_,rfl⟩
                     replace H:(if y137.length+y119.length < 140737488355328 then(z68_.l0 kj27 l0 (y137 ++ y119) (wrap64 (0+(y119.length:Int))) (wrap64 (x5_1+1)))else(none))=some r:=qh_ hy137 H;have Ny137:=qM_ hy137;clear hy137;by_cases c66:y137.length+y119.length < 140737488355328
                     ·rw[if_pos c66]at H
                      have LMc66:=qM_ c66;clear c66
                      obtain⟨y140,hy140⟩:∃ y_:List Int,y_=(y137 ++ y119):=⟨_,rfl⟩
                      replace H:(z68_.l0 kj27 l0 y140 (wrap64 (0+(y119.length:Int))) (wrap64 (x5_1+1)))=some r:=qh_ hy140 H;have Ny140:=qM_ hy140;clear hy140;have H' := qM_ H;clear H
                      try go_wp2
                      replace HO_3:=qM_ (Kd.R_drew HO_3.out);replace HO_8:=qM_ (Kd.R_drew HO_8.out);replace HB:=qM_ (qE_ HB.out);have p40:0≤((ji37):Int):=qd_;have q40:(ji37) < (16:Int):=qd_;have hx40:=bt_at z68_.b0 (ji37);replace p40:=eq_true p40;replace q40:=eq_true q40;have p44:0≤((ji41):Int):=qd_;have q44:(ji41) < (16:Int):=qd_;have hx44:=bt_at z68_.b0 (ji41);replace p44:=eq_true p44;replace q44:=eq_true q44
                      refine start_ (n:=8) (S:=fun w' => True) (ds:=[]) #[qF,qF,qF,qF,qF,qF,qF,qF] qK rfl rfl trivial (fun hHeld=> ?_);refine with_tabW z68_.tab13 z68_.bits13 (fun HT_ HW_=> ?_)
                      generalize wc.drew=w67 at HO_3 HO_8 HB hHeld ⊢;refine pure_ (i:=0) (N:=some 89) (v:= ?_) (a' := ?_) #[qT,qF,qF,qF,qF,qF,qF,qF] rfl rfl (any_of HT_.out qK) (fun _ _ _ h=>h) (Or.inl ⟨by rfl,?_⟩) ?_ ?_;rotate_left
                      ·intro w'
                       go_simp;with_reducible rfl
                      rotate_left
                      ·simp only[Act.put,qS_,qW_]
                       rfl
                      refine pure_ (i:=1) (N:=some 90) (v:= ?_) (a' := ?_) #[qT,qT,qF,qF,qF,qF,qF,qF] rfl rfl (any_of HT_.out qK) (fun _ _ _ h=>h) (Or.inl ⟨by rfl,?_⟩) ?_ ?_;rotate_left
                      ·intro w'
                       go_simp;with_reducible rfl
                      rotate_left
                      ·simp only[Act.put,qS_,qW_]
                       rfl
                      refine pure_ (i:=3) (N:=some 92) (v:= ?_) (a' := ?_) #[qT,qT,qF,qT,qF,qF,qF,qF] rfl rfl (any_of HT_.out qK) (fun _ _ _ h=>h) (Or.inl ⟨by rfl,?_⟩) ?_ ?_;rotate_left
                      ·intro w'
                       go_simp;with_reducible rfl
                      rotate_left
                      ·simp only[Act.put,qS_,qW_]
                       rfl
                      refine pure_ (i:=4) (N:=some 93) (v:= ?_) (a' := ?_) #[qT,qT,qF,qT,qT,qF,qF,qF] rfl rfl (any_of HT_.out qK) (fun _ _ _ h=>h) (Or.inl ⟨by rfl,?_⟩) ?_ ?_;rotate_left
                      ·intro w'
                       go_simp;with_reducible rfl
                      rotate_left
                      ·simp only[Act.put,qS_,qW_]
                       rfl
                      refine take_ (i:=2) (N:=some 91) (v:= ?_) (a' := ?_) #[qT,qT,qT,qT,qT,qF,qF,qF] rfl rfl (take_ofW HT_.out HW_.out qK) (fun _ _ _ h=>h) (Or.inl ⟨by rfl,?_⟩) hHeld ?_ ?_;rotate_left
                      ·intro w' _
                       go_simp;with_reducible rfl
                      rotate_left
                      ·simp only[Act.put,qS_,qW_]
                       rfl
                      refine take_ (i:=5) (N:=some 94) (v:= ?_) (a' := ?_) #[qT,qT,qT,qT,qT,qT,qF,qF] rfl rfl (take_ofW HT_.out HW_.out qK) (fun _ _ _ h=>h) (Or.inl ⟨by rfl,?_⟩) hHeld ?_ ?_;rotate_left
                      ·intro w' _
                       go_simp;with_reducible rfl
                      rotate_left
                      ·simp only[Act.put,qS_,qW_]
                       rfl
                      refine one_ (i:=6) (N:=some 95) #[qT,qT,qT,qT,qT,qT,qT,qF] rfl rfl (one_of HT_.out qK) (by decide) (fun K hK=> ?_)
                      refine Kd.R_lit_step (Kd.int .u8) _ 5 ?hg (N:=95) ?hd (xs:=([61,bt z68_.b0 (ji37),bt z68_.b0 (ji41)]:List Int)) (inner:=[.int .u8 61,.int .u8 (bt z68_.b0 (ji37)),.int .u8 (bt z68_.b0 (ji41))]) (ok:=fun _=>True) (okp:=fun _=>True) ?hr ?hp (fun _ hk=>hk) trivial (Below.refl _ _) (Nat.le_refl _) (by simp) ?_;(case hd=>rfl);(case hg=>rfl);(case hr=>first|(go_simp;done)|(go_simp;rfl));(case hp=>exact(Reps.one rfl (Reps.one rfl (Reps.one rfl (Reps.none _ _)))))
                      intro v120 w68 ho69 hb hg_ hnew_
                      clear hg_ hnew_
                      (first|rw[← Ny119.out]at ho69|(simp only[Int.reduceToNat]at ho69;rw[← Ny119.out]at ho69))
                      have HO121:=qM_ (Kd.R_lower (Kd.R_new' (Kd.R_new' ho69 (Kd.R_lt (qr_ HO_3))) (Kd.R_lt (qr_ HO_8))) (below_size qBHB));replace HO_3:=qM_ (Kd.R_elder' (qr_ HO_3) (Kd.R_base ho69) hb);replace HO_8:=qM_ (Kd.R_elder' (qr_ HO_8) (Kd.R_base ho69) hb);replace HB:=qM_ (below_step qBHB hb);clear hb ho69;refine hK.out _ _ trivial (fun hHeld=> ?_);clear hK K;refine norm_ (a' := ?_) ?_ ?_;rotate_left
                      ·show Act.put _ (some 95) _=_
                       simp only[Act.put,qS_,qW_];rfl
                      refine pure_ (i:=7) (N:=some 8) (v:= ?_) (a' := ?_) #[qT,qT,qT,qT,qT,qT,qT,qT] rfl rfl (any_of HT_.out qK) (fun _ _ _ h=>h) (Or.inl ⟨by rfl,?_⟩) ?_ ?_;rotate_left
                      ·intro w'
                       go_simp;with_reducible rfl
                      rotate_left
                      ·simp only[Act.put,qS_,qW_]
                       rfl
                      refine done_ (done_of HT_.out qK) ?_;obtain⟨Ao70,co70,eo70⟩:=Kd.R_slice HO121.out;subst eo70
                      try go_wp2_with (first|((with_reducible refine gate_dst (N:=113) rfl ?_);(try(refine gate_guard (by rfl) ?_;dsimp only));refine Kd.R_lit (Kd.int .u8) _ 5 ?hg (N:=113) ?hd (xs:=([61,13,10]:List Int)) (inner:=[.int .u8 61,.int .u8 13,.int .u8 10]) (ok:=fun _=>True) (okp:=fun _=>True) ?hr ?hp (fun _ hk=>hk) trivial (Below.refl _ _) (Nat.le_refl _) (by simp) ?_;(case hd=>rfl);(case hg=>rfl);(case hr=>first|(go_simp;done)|(go_simp;rfl));(case hp=>exact(Reps.one rfl (Reps.one rfl (Reps.one rfl (Reps.none _ _)))));intro v135 w71 ho72 hb hg_ hnew_;clear hg_ hnew_;(first|rw[← Ny134.out]at ho72|(simp only[Int.reduceToNat]at ho72;rw[← Ny134.out]at ho72));have HO136:=qM_ (Kd.R_lower (Kd.R_new' (Kd.R_new' (Kd.R_new' ho72 (Kd.R_lt (qr_ HO_3))) (Kd.R_lt (qr_ HO_8))) (Kd.R_lt (qr_ HO121))) (below_size qBHB));replace HO_3:=qM_ (Kd.R_elder' (qr_ HO_3) (Kd.R_base ho72) hb);replace HO_8:=qM_ (Kd.R_elder' (qr_ HO_8) (Kd.R_base ho72) hb);replace HO121:=qM_ (Kd.R_elder' (qr_ HO121) (Kd.R_base ho72) hb);replace HB:=qM_ (below_step qBHB hb);clear hb ho72;obtain⟨Ao74,co74,eo74⟩:=Kd.R_slice HO136.out;subst eo74)|((with_reducible refine gate_builtin (b:= .append) (xs:=#[.tmp 112,.tmp 113]) rfl ?_);(try(refine gate_guard (by rfl) ?_;dsimp only));at_builtin;refine Kd.R_append_rows (Kd.int .u8) (w0:=w) w.heap.size rfl (.tmp 112) (.tmp 113) 26 5 (.int .u8 0) 1 rfl Try.underlying26 info5 rfl (by decide) (by omega) u3 x3_1 y134 _ _ _ (fun k_=>some k_≠(v116:Value).ownBlock∧some k_≠(.slice Ao70 y119.length co70:Value).ownBlock∧some k_≠(.slice Ao74 y134.length co74:Value).ownBlock) (fun _=>False) rfl rfl ?aO ?aR (fun _ _ h=>h) (fun _ h=>h.elim) ?aF ?aB ?aS ?aL ?_;(case aR=>repeat(first|exact(Kd.R_reads' HO136.out).2.2|(with_reducible refine Kd.C_alloc ?_ _)|(with_reducible refine Kd.C_drewN ?_ _)|(with_reducible refine Kd.C_drew ?_)));(case aB=>exact qBHB);(case aF=>exact(fun k_ hk=>⟨Kd.fresh' (Kd.R_lt (qr_ HO_8)) k_ hk,Kd.fresh' (Kd.R_lt (qr_ HO121)) k_ hk,Kd.fresh' (Kd.R_lt (qr_ HO136)) k_ hk⟩));(case aO=>exact(by(with_reducible repeat(first|apply Kd.R_alloc|apply Kd.R_drewN|apply Kd.R_drew));exact Kd.R_mono HO_3.out (fun _ hk=>⟨hk.1.1,⟨hk.1.2,hk.2⟩⟩)));(case aS=>exact(below_size qBHB));(case aL=>have:=LMc65.out;omega);intro v138 w73 ho hb hg hat;rw[← Ny137.out]at ho;replace HO_8:=qM_ (Kd.R_after (ok:=(fun k_=>some k_≠(.slice Ao70 y119.length co70:Value).ownBlock∧some k_≠(.slice Ao74 y134.length co74:Value).ownBlock)) (by(with_reducible repeat(first|apply Kd.R_alloc|apply Kd.R_drewN|apply Kd.R_drew));exact Kd.R_mono HO_8.out (fun _ hk=>⟨⟨hk.1.2,hk.2⟩,hk.1.1⟩)) hg hat);replace HO121:=qM_ (Kd.R_after (ok:=(fun k_=>some k_≠(v116:Value).ownBlock∧some k_≠(.slice Ao74 y134.length co74:Value).ownBlock)) (by(with_reducible repeat(first|apply Kd.R_alloc|apply Kd.R_drewN|apply Kd.R_drew));exact Kd.R_mono HO121.out (fun _ hk=>⟨⟨hk.1.2,hk.2⟩,hk.1.1.2⟩)) hg hat);replace HO136:=qM_ (Kd.R_after (ok:=(fun k_=>some k_≠(v116:Value).ownBlock∧some k_≠(.slice Ao70 y119.length co70:Value).ownBlock)) (by(with_reducible repeat(first|apply Kd.R_alloc|apply Kd.R_drewN|apply Kd.R_drew));exact Kd.R_mono HO136.out (fun _ hk=>⟨⟨hk.1.2,hk.2⟩,hk.1.1.2⟩)) hg hat);replace HB:=qM_ (hb);have HO139:=qM_ (ho);clear HO_3;clear ho hb hg hat)|((with_reducible refine gate_builtin (b:= .append) (xs:=#[.tmp 115,.tmp 116]) rfl ?_);(try(refine gate_guard (by rfl) ?_;dsimp only));at_builtin;refine Kd.R_append_rows (Kd.int .u8) (w0:=w) w.heap.size rfl (.tmp 115) (.tmp 116) 26 5 (.int .u8 0) 1 rfl Try.underlying26 info5 rfl (by decide) (by omega) v138 y137 y119 _ _ _ (fun k_=>some k_≠(v116:Value).ownBlock∧some k_≠(.slice Ao70 y119.length co70:Value).ownBlock∧some k_≠(.slice Ao74 y134.length co74:Value).ownBlock) (fun _=>False) rfl rfl ?aO ?aR (fun _ _ h=>h) (fun _ h=>h.elim) ?aF ?aB ?aS ?aL ?_;(case aR=>repeat(first|exact(Kd.R_reads' HO121.out).2.2|(with_reducible refine Kd.C_alloc ?_ _)|(with_reducible refine Kd.C_drewN ?_ _)|(with_reducible refine Kd.C_drew ?_)));(case aB=>exact qBHB);(case aF=>exact(fun k_ hk=>⟨Kd.fresh' (Kd.R_lt (qr_ HO_8)) k_ hk,Kd.fresh' (Kd.R_lt (qr_ HO121)) k_ hk,Kd.fresh' (Kd.R_lt (qr_ HO136)) k_ hk⟩));(case aO=>exact(qr_ HO139));(case aS=>exact(below_size qBHB));(case aL=>have:=LMc66.out;omega);intro v141 w75 ho hb hg hat;rw[← Ny140.out]at ho;replace HO_8:=qM_ (Kd.R_after (ok:=(fun k_=>some k_≠(.slice Ao70 y119.length co70:Value).ownBlock∧some k_≠(.slice Ao74 y134.length co74:Value).ownBlock)) (qr_ HO_8) hg hat);replace HO121:=qM_ (Kd.R_after (ok:=(fun k_=>some k_≠(v116:Value).ownBlock∧some k_≠(.slice Ao74 y134.length co74:Value).ownBlock)) (qr_ HO121) hg hat);replace HO136:=qM_ (Kd.R_after (ok:=(fun k_=>some k_≠(v116:Value).ownBlock∧some k_≠(.slice Ao70 y119.length co70:Value).ownBlock)) (qr_ HO136) hg hat);replace HB:=qM_ (hb);have HO142:=qM_ (ho);clear HO139;clear ho hb hg hat))
                      go_roundg kj27
                      case measure=>have:=HK1.out;have:=HJ4.out;have:=HJ18.out;have:=HJ27.out;omega
                      case rel=>exact⟨(y140),(wrap64 (0+(y119.length:Int))),(wrap64 (x5_1+1)),qff_,qff_,H', ⟨by have:=HK1.out;have:=HJ4.out;have:=HJ18.out;have:=HJ27.out;omega⟩,⟨by(with_reducible repeat(first|apply Kd.R_alloc|apply Kd.R_drewN|apply Kd.R_drew));exact Kd.R_mono HO142.out (fun _ hk=>trivial)⟩,⟨qBHB⟩⟩
                     ·rw[if_neg c66]at H
                      exact absurd H (by simp)
                    ·rw[if_neg c65]at H
                     exact absurd H (by simp)
                  ·rw[if_neg c45]at H
                   have c45b0:decide (75 < (wrap64 (x4_1+(y119.length:Int))))=false:=decide_eq_false c45;clear c45;by_cases c76:x3_1.length+y119.length < 140737488355328
                   ·rw[if_pos c76]at H
                    have LMc76:=qM_ c76;clear c76
                    obtain⟨y143,hy143⟩:∃ y_:List Int,y_=(x3_1 ++ y119):=⟨_,rfl⟩
                    replace H:(z68_.l0 kj27 l0 y143 (wrap64 (x4_1+(y119.length:Int))) (wrap64 (x5_1+1)))=some r:=qh_ hy143 H;have Ny143:=qM_ hy143;clear hy143;have H' := qM_ H;clear H
                    try go_wp2
                    replace HO_3:=qM_ (Kd.R_drew HO_3.out);replace HO_8:=qM_ (Kd.R_drew HO_8.out);replace HB:=qM_ (qE_ HB.out);have p40:0≤((ji37):Int):=qd_;have q40:(ji37) < (16:Int):=qd_;have hx40:=bt_at z68_.b0 (ji37);replace p40:=eq_true p40;replace q40:=eq_true q40;have p44:0≤((ji41):Int):=qd_;have q44:(ji41) < (16:Int):=qd_;have hx44:=bt_at z68_.b0 (ji41);replace p44:=eq_true p44;replace q44:=eq_true q44
                    refine start_ (n:=8) (S:=fun w' => True) (ds:=[]) #[qF,qF,qF,qF,qF,qF,qF,qF] qK rfl rfl trivial (fun hHeld=> ?_);refine with_tabW z68_.tab13 z68_.bits13 (fun HT_ HW_=> ?_)
                    generalize wc.drew=w77 at HO_3 HO_8 HB hHeld ⊢;refine pure_ (i:=0) (N:=some 89) (v:= ?_) (a' := ?_) #[qT,qF,qF,qF,qF,qF,qF,qF] rfl rfl (any_of HT_.out qK) (fun _ _ _ h=>h) (Or.inl ⟨by rfl,?_⟩) ?_ ?_;rotate_left
                    ·intro w'
                     go_simp;with_reducible rfl
                    rotate_left
                    ·simp only[Act.put,qS_,qW_]
                     rfl
                    refine pure_ (i:=1) (N:=some 90) (v:= ?_) (a' := ?_) #[qT,qT,qF,qF,qF,qF,qF,qF] rfl rfl (any_of HT_.out qK) (fun _ _ _ h=>h) (Or.inl ⟨by rfl,?_⟩) ?_ ?_;rotate_left
                    ·intro w'
                     go_simp;with_reducible rfl
                    rotate_left
                    ·simp only[Act.put,qS_,qW_]
                     rfl
                    refine pure_ (i:=3) (N:=some 92) (v:= ?_) (a' := ?_) #[qT,qT,qF,qT,qF,qF,qF,qF] rfl rfl (any_of HT_.out qK) (fun _ _ _ h=>h) (Or.inl ⟨by rfl,?_⟩) ?_ ?_;rotate_left
                    ·intro w'
                     go_simp;with_reducible rfl
                    rotate_left
                    ·simp only[Act.put,qS_,qW_]
                     rfl
                    refine pure_ (i:=4) (N:=some 93) (v:= ?_) (a' := ?_) #[qT,qT,qF,qT,qT,qF,qF,qF] rfl rfl (any_of HT_.out qK) (fun _ _ _ h=>h) (Or.inl ⟨by rfl,?_⟩) ?_ ?_;rotate_left
                    ·intro w'
                     go_simp;with_reducible rfl
                    rotate_left
                    ·simp only[Act.put,qS_,qW_]
                     rfl
                    refine take_ (i:=2) (N:=some 91) (v:= ?_) (a' := ?_) #[qT,qT,qT,qT,qT,qF,qF,qF] rfl rfl (take_ofW HT_.out HW_.out qK) (fun _ _ _ h=>h) (Or.inl ⟨by rfl,?_⟩) hHeld ?_ ?_;rotate_left
                    ·intro w' _
                     go_simp;with_reducible rfl
                    rotate_left
                    ·simp only[Act.put,qS_,qW_]
                     rfl
                    refine take_ (i:=5) (N:=some 94) (v:= ?_) (a' := ?_) #[qT,qT,qT,qT,qT,qT,qF,qF] rfl rfl (take_ofW HT_.out HW_.out qK) (fun _ _ _ h=>h) (Or.inl ⟨by rfl,?_⟩) hHeld ?_ ?_;rotate_left
                    ·intro w' _
                     go_simp;with_reducible rfl
                    rotate_left
                    ·simp only[Act.put,qS_,qW_]
                     rfl
                    refine one_ (i:=6) (N:=some 95) #[qT,qT,qT,qT,qT,qT,qT,qF] rfl rfl (one_of HT_.out qK) (by decide) (fun K hK=> ?_)
                    refine Kd.R_lit_step (Kd.int .u8) _ 5 ?hg (N:=95) ?hd (xs:=([61,bt z68_.b0 (ji37),bt z68_.b0 (ji41)]:List Int)) (inner:=[.int .u8 61,.int .u8 (bt z68_.b0 (ji37)),.int .u8 (bt z68_.b0 (ji41))]) (ok:=fun _=>True) (okp:=fun _=>True) ?hr ?hp (fun _ hk=>hk) trivial (Below.refl _ _) (Nat.le_refl _) (by simp) ?_;(case hd=>rfl);(case hg=>rfl);(case hr=>first|(go_simp;done)|(go_simp;rfl));(case hp=>exact(Reps.one rfl (Reps.one rfl (Reps.one rfl (Reps.none _ _)))))
                    intro v120 w78 ho79 hb hg_ hnew_
                    clear hg_ hnew_
                    (first|rw[← Ny119.out]at ho79|(simp only[Int.reduceToNat]at ho79;rw[← Ny119.out]at ho79))
                    have HO121:=qM_ (Kd.R_lower (Kd.R_new' (Kd.R_new' ho79 (Kd.R_lt (qr_ HO_3))) (Kd.R_lt (qr_ HO_8))) (below_size qBHB));replace HO_3:=qM_ (Kd.R_elder' (qr_ HO_3) (Kd.R_base ho79) hb);replace HO_8:=qM_ (Kd.R_elder' (qr_ HO_8) (Kd.R_base ho79) hb);replace HB:=qM_ (below_step qBHB hb);clear hb ho79;refine hK.out _ _ trivial (fun hHeld=> ?_);clear hK K;refine norm_ (a' := ?_) ?_ ?_;rotate_left
                    ·show Act.put _ (some 95) _=_
                     simp only[Act.put,qS_,qW_];rfl
                    refine pure_ (i:=7) (N:=some 8) (v:= ?_) (a' := ?_) #[qT,qT,qT,qT,qT,qT,qT,qT] rfl rfl (any_of HT_.out qK) (fun _ _ _ h=>h) (Or.inl ⟨by rfl,?_⟩) ?_ ?_;rotate_left
                    ·intro w'
                     go_simp;with_reducible rfl
                    rotate_left
                    ·simp only[Act.put,qS_,qW_]
                     rfl
                    refine done_ (done_of HT_.out qK) ?_;obtain⟨Ao80,co80,eo80⟩:=Kd.R_slice HO121.out;subst eo80
                    try go_wp2_with (first|((with_reducible refine gate_builtin (b:= .append) (xs:=#[.tmp 115,.tmp 116]) rfl ?_);(try(refine gate_guard (by rfl) ?_;dsimp only));at_builtin;refine Kd.R_append_rows (Kd.int .u8) (w0:=w) w.heap.size rfl (.tmp 115) (.tmp 116) 26 5 (.int .u8 0) 1 rfl Try.underlying26 info5 rfl (by decide) (by omega) u3 x3_1 y119 _ _ _ (fun k_=>some k_≠(v116:Value).ownBlock∧some k_≠(.slice Ao80 y119.length co80:Value).ownBlock) (fun _=>False) rfl rfl ?aO ?aR (fun _ _ h=>h) (fun _ h=>h.elim) ?aF ?aB ?aS ?aL ?_;(case aR=>repeat(first|exact(Kd.R_reads' HO121.out).2.2|(with_reducible refine Kd.C_alloc ?_ _)|(with_reducible refine Kd.C_drewN ?_ _)|(with_reducible refine Kd.C_drew ?_)));(case aB=>exact qBHB);(case aF=>exact(fun k_ hk=>⟨Kd.fresh' (Kd.R_lt (qr_ HO_8)) k_ hk,Kd.fresh' (Kd.R_lt (qr_ HO121)) k_ hk⟩));(case aO=>exact(qr_ HO_3));(case aS=>exact(below_size qBHB));(case aL=>have:=LMc76.out;omega);intro v144 w81 ho hb hg hat;rw[← Ny143.out]at ho;replace HO_8:=qM_ (Kd.R_after (ok:=(fun k_=>some k_≠(.slice Ao80 y119.length co80:Value).ownBlock)) (by(with_reducible repeat(first|apply Kd.R_alloc|apply Kd.R_drewN|apply Kd.R_drew));exact Kd.R_mono HO_8.out (fun _ hk=>⟨hk.2,hk.1⟩)) hg hat);replace HO121:=qM_ (Kd.R_after (ok:=(fun k_=>some k_≠(v116:Value).ownBlock)) (by(with_reducible repeat(first|apply Kd.R_alloc|apply Kd.R_drewN|apply Kd.R_drew));exact Kd.R_mono HO121.out (fun _ hk=>⟨hk.2,hk.1.2⟩)) hg hat);replace HB:=qM_ (hb);have HO145:=qM_ (ho);clear HO_3;clear ho hb hg hat))
                    go_roundg kj27
                    case measure=>have:=HK1.out;have:=HJ4.out;have:=HJ18.out;have:=HJ27.out;omega
                    case rel=>exact⟨(y143),(wrap64 (x4_1+(y119.length:Int))),(wrap64 (x5_1+1)),qff_,qff_,H', ⟨by have:=HK1.out;have:=HJ4.out;have:=HJ18.out;have:=HJ27.out;omega⟩,⟨by(with_reducible repeat(first|apply Kd.R_alloc|apply Kd.R_drewN|apply Kd.R_drew));exact Kd.R_mono HO145.out (fun _ hk=>trivial)⟩,⟨qBHB⟩⟩
                   ·rw[if_neg c76]at H
                    exact absurd H (by simp)
                 ·rw[if_neg c43]at H
                  exact absurd H (by simp)
                ·rw[if_neg c42]at H
                 exact absurd H (by simp)
               ·rw[if_neg c39]at H
                exact absurd H (by simp)
              ·rw[if_neg c38]at H
               exact absurd H (by simp)
             ·replace c36:=Bool.eq_false_iff.mpr c36
              subst c36
              have H1:(if(wrap64 (x4_1+(y115.length:Int))) > 75 then(if x7_18=true then(if((wrap64 (x4_1+(y115.length:Int)))≤76)then(if x3_1.length+y115.length < 140737488355328 then(z68_.l0 kj27 l0 (x3_1 ++ y115) (wrap64 (x4_1+(y115.length:Int))) (wrap64 (x5_1+1)))else(none))else((some (([61,13,10]:List Int):List Int)).bind fun y149=>(if x3_1.length+y149.length < 140737488355328 then((some (x3_1 ++ y149:List Int)).bind fun y152=>(if y152.length+y115.length < 140737488355328 then(z68_.l0 kj27 l0 (y152 ++ y115) (wrap64 (0+(y115.length:Int))) (wrap64 (x5_1+1)))else(none)))else(none))))else((some (([61,13,10]:List Int):List Int)).bind fun y158=>(if x3_1.length+y158.length < 140737488355328 then((some (x3_1 ++ y158:List Int)).bind fun y161=>(if y161.length+y115.length < 140737488355328 then(z68_.l0 kj27 l0 (y161 ++ y115) (wrap64 (0+(y115.length:Int))) (wrap64 (x5_1+1)))else(none)))else(none))))else(if x3_1.length+y115.length < 140737488355328 then(z68_.l0 kj27 l0 (x3_1 ++ y115) (wrap64 (x4_1+(y115.length:Int))) (wrap64 (x5_1+1)))else(none)))=some r:=by rw[if_neg (show ¬(false=true)by decide)]at H;exact H
              clear H;have H:=H1;clear H1;by_cases c82:(wrap64 (x4_1+(y115.length:Int))) > 75
              ·rw[if_pos c82]at H
               have c82b0:decide (75 < (wrap64 (x4_1+(y115.length:Int))))=true:=decide_eq_true c82;clear c82;by_cases c83:x7_18=true
               ·subst c83
                have H1:(if((wrap64 (x4_1+(y115.length:Int)))≤76)then(if x3_1.length+y115.length < 140737488355328 then(z68_.l0 kj27 l0 (x3_1 ++ y115) (wrap64 (x4_1+(y115.length:Int))) (wrap64 (x5_1+1)))else(none))else((some (([61,13,10]:List Int):List Int)).bind fun y149=>(if x3_1.length+y149.length < 140737488355328 then((some (x3_1 ++ y149:List Int)).bind fun y152=>(if y152.length+y115.length < 140737488355328 then(z68_.l0 kj27 l0 (y152 ++ y115) (wrap64 (0+(y115.length:Int))) (wrap64 (x5_1+1)))else(none)))else(none))))=some r:=by rw[if_pos rfl]at H;exact H
                clear H;have H:=H1;clear H1;by_cases c84:((wrap64 (x4_1+(y115.length:Int)))≤76)
                ·rw[if_pos c84]at H
                 have c84b0:decide ((wrap64 (x4_1+(y115.length:Int)))≤76)=true:=decide_eq_true c84;clear c84;by_cases c85:x3_1.length+y115.length < 140737488355328
                 ·rw[if_pos c85]at H
                  have LMc85:=qM_ c85;clear c85
                  obtain⟨y146,hy146⟩:∃ y_:List Int,y_=(x3_1 ++ y115):=⟨_,rfl⟩
                  replace H:(z68_.l0 kj27 l0 y146 (wrap64 (x4_1+(y115.length:Int))) (wrap64 (x5_1+1)))=some r:=qh_ hy146 H;have Ny146:=qM_ hy146;clear hy146;have H' := qM_ H;clear H;obtain⟨Ao86,co86,eo86⟩:=Kd.R_slice HO_8.out;subst eo86
                  go_wp2_with (first|((with_reducible refine gate_builtin (b:= .append) (xs:=#[.tmp 115,.tmp 116]) rfl ?_);(try(refine gate_guard (by rfl) ?_;dsimp only));at_builtin;refine Kd.R_append_rows (Kd.int .u8) (w0:=w) w.heap.size rfl (.tmp 115) (.tmp 116) 26 5 (.int .u8 0) 1 rfl Try.underlying26 info5 rfl (by decide) (by omega) u3 x3_1 y115 _ _ _ (fun k_=>some k_≠(.slice Ao86 y115.length co86:Value).ownBlock) (fun _=>False) rfl rfl ?aO ?aR (fun _ _ h=>h) (fun _ h=>h.elim) ?aF ?aB ?aS ?aL ?_;(case aR=>repeat(first|exact(Kd.R_reads' HO_8.out).2.2|(with_reducible refine Kd.C_alloc ?_ _)|(with_reducible refine Kd.C_drewN ?_ _)|(with_reducible refine Kd.C_drew ?_)));(case aB=>exact qBHB);(case aF=>exact(fun k_ hk=>Kd.fresh' (Kd.R_lt (qr_ HO_8)) k_ hk));(case aO=>exact(qr_ HO_3));(case aS=>exact(below_size qBHB));(case aL=>have:=LMc85.out;omega);intro v147 w87 ho hb hg hat;rw[← Ny146.out]at ho;replace HO_8:=qM_ (Kd.R_after (ok:=(fun _=>True)) (by(with_reducible repeat(first|apply Kd.R_alloc|apply Kd.R_drewN|apply Kd.R_drew));exact Kd.R_mono HO_8.out (fun _ hk=>⟨trivial,hk⟩)) hg hat);replace HB:=qM_ (hb);have HO148:=qM_ (ho);clear HO_3;clear ho hb hg hat))
                  go_roundg kj27
                  case measure=>have:=HK1.out;have:=HJ4.out;have:=HJ18.out;have:=HJ27.out;omega
                  case rel=>exact⟨(y146),(wrap64 (x4_1+(y115.length:Int))),(wrap64 (x5_1+1)),qff_,qff_,H', ⟨by have:=HK1.out;have:=HJ4.out;have:=HJ18.out;have:=HJ27.out;omega⟩,⟨by(with_reducible repeat(first|apply Kd.R_alloc|apply Kd.R_drewN|apply Kd.R_drew));exact Kd.R_mono HO148.out (fun _ hk=>trivial)⟩,⟨qBHB⟩⟩
                 ·rw[if_neg c85]at H
                  exact absurd H (by simp)
                ·rw[if_neg c84]at H
                 have c84b0:decide ((wrap64 (x4_1+(y115.length:Int)))≤76)=false:=decide_eq_false c84;clear c84
                 obtain⟨y149,hy149⟩:∃ y_:List Int,y_=(([61,13,10]:List Int)):=⟨_,rfl⟩
                 replace H:(if x3_1.length+y149.length < 140737488355328 then((some (x3_1 ++ y149:List Int)).bind fun y152=>(if y152.length+y115.length < 140737488355328 then(z68_.l0 kj27 l0 (y152 ++ y115) (wrap64 (0+(y115.length:Int))) (wrap64 (x5_1+1)))else(none)))else(none))=some r:=qh_ hy149 H;have Ny149:=qM_ hy149;clear hy149;by_cases c88:x3_1.length+y149.length < 140737488355328
                 ·rw[if_pos c88]at H
                  have LMc88:=qM_ c88;clear c88
                  obtain⟨y152,hy152⟩:∃ y_:List Int,y_=(x3_1 ++ y149):=⟨_,rfl⟩
                  replace H:(if y152.length+y115.length < 140737488355328 then(z68_.l0 kj27 l0 (y152 ++ y115) (wrap64 (0+(y115.length:Int))) (wrap64 (x5_1+1)))else(none))=some r:=qh_ hy152 H;have Ny152:=qM_ hy152;clear hy152;by_cases c89:y152.length+y115.length < 140737488355328
                  ·rw[if_pos c89]at H
                   have LMc89:=qM_ c89;clear c89
                   obtain⟨y155,hy155⟩:∃ y_:List Int,y_=(y152 ++ y115):=⟨_,rfl⟩
                   replace H:(z68_.l0 kj27 l0 y155 (wrap64 (0+(y115.length:Int))) (wrap64 (x5_1+1)))=some r:=qh_ hy155 H;have Ny155:=qM_ hy155;clear hy155;have H' := qM_ H;clear H;obtain⟨Ao90,co90,eo90⟩:=Kd.R_slice HO_8.out;subst eo90
                   go_wp2_with (first|((with_reducible refine gate_dst (N:=113) rfl ?_);(try(refine gate_guard (by rfl) ?_;dsimp only));refine Kd.R_lit (Kd.int .u8) _ 5 ?hg (N:=113) ?hd (xs:=([61,13,10]:List Int)) (inner:=[.int .u8 61,.int .u8 13,.int .u8 10]) (ok:=fun _=>True) (okp:=fun _=>True) ?hr ?hp (fun _ hk=>hk) trivial (Below.refl _ _) (Nat.le_refl _) (by simp) ?_;(case hd=>rfl);(case hg=>rfl);(case hr=>first|(go_simp;done)|(go_simp;rfl));(case hp=>exact(Reps.one rfl (Reps.one rfl (Reps.one rfl (Reps.none _ _)))));intro v150 w91 ho92 hb hg_ hnew_;clear hg_ hnew_;(first|rw[← Ny149.out]at ho92|(simp only[Int.reduceToNat]at ho92;rw[← Ny149.out]at ho92));have HO151:=qM_ (Kd.R_lower (Kd.R_new' (Kd.R_new' ho92 (Kd.R_lt (qr_ HO_3))) (Kd.R_lt (qr_ HO_8))) (below_size qBHB));replace HO_3:=qM_ (Kd.R_elder' (qr_ HO_3) (Kd.R_base ho92) hb);replace HO_8:=qM_ (Kd.R_elder' (qr_ HO_8) (Kd.R_base ho92) hb);replace HB:=qM_ (below_step qBHB hb);clear hb ho92;obtain⟨Ao94,co94,eo94⟩:=Kd.R_slice HO151.out;subst eo94)|((with_reducible refine gate_builtin (b:= .append) (xs:=#[.tmp 112,.tmp 113]) rfl ?_);(try(refine gate_guard (by rfl) ?_;dsimp only));at_builtin;refine Kd.R_append_rows (Kd.int .u8) (w0:=w) w.heap.size rfl (.tmp 112) (.tmp 113) 26 5 (.int .u8 0) 1 rfl Try.underlying26 info5 rfl (by decide) (by omega) u3 x3_1 y149 _ _ _ (fun k_=>some k_≠(.slice Ao90 y115.length co90:Value).ownBlock∧some k_≠(.slice Ao94 y149.length co94:Value).ownBlock) (fun _=>False) rfl rfl ?aO ?aR (fun _ _ h=>h) (fun _ h=>h.elim) ?aF ?aB ?aS ?aL ?_;(case aR=>repeat(first|exact(Kd.R_reads' HO151.out).2.2|(with_reducible refine Kd.C_alloc ?_ _)|(with_reducible refine Kd.C_drewN ?_ _)|(with_reducible refine Kd.C_drew ?_)));(case aB=>exact qBHB);(case aF=>exact(fun k_ hk=>⟨Kd.fresh' (Kd.R_lt (qr_ HO_8)) k_ hk,Kd.fresh' (Kd.R_lt (qr_ HO151)) k_ hk⟩));(case aO=>exact(qr_ HO_3));(case aS=>exact(below_size qBHB));(case aL=>have:=LMc88.out;omega);intro v153 w93 ho hb hg hat;rw[← Ny152.out]at ho;replace HO_8:=qM_ (Kd.R_after (ok:=(fun k_=>some k_≠(.slice Ao94 y149.length co94:Value).ownBlock)) (by(with_reducible repeat(first|apply Kd.R_alloc|apply Kd.R_drewN|apply Kd.R_drew));exact Kd.R_mono HO_8.out (fun _ hk=>⟨hk.2,hk.1⟩)) hg hat);replace HO151:=qM_ (Kd.R_after (ok:=(fun k_=>some k_≠(.slice Ao90 y115.length co90:Value).ownBlock)) (by(with_reducible repeat(first|apply Kd.R_alloc|apply Kd.R_drewN|apply Kd.R_drew));exact Kd.R_mono HO151.out (fun _ hk=>⟨hk.2,hk.1.2⟩)) hg hat);replace HB:=qM_ (hb);have HO154:=qM_ (ho);clear HO_3;clear ho hb hg hat)|((with_reducible refine gate_builtin (b:= .append) (xs:=#[.tmp 115,.tmp 116]) rfl ?_);(try(refine gate_guard (by rfl) ?_;dsimp only));at_builtin;refine Kd.R_append_rows (Kd.int .u8) (w0:=w) w.heap.size rfl (.tmp 115) (.tmp 116) 26 5 (.int .u8 0) 1 rfl Try.underlying26 info5 rfl (by decide) (by omega) v153 y152 y115 _ _ _ (fun k_=>some k_≠(.slice Ao90 y115.length co90:Value).ownBlock∧some k_≠(.slice Ao94 y149.length co94:Value).ownBlock) (fun _=>False) rfl rfl ?aO ?aR (fun _ _ h=>h) (fun _ h=>h.elim) ?aF ?aB ?aS ?aL ?_;(case aR=>repeat(first|exact(Kd.R_reads' HO_8.out).2.2|(with_reducible refine Kd.C_alloc ?_ _)|(with_reducible refine Kd.C_drewN ?_ _)|(with_reducible refine Kd.C_drew ?_)));(case aB=>exact qBHB);(case aF=>exact(fun k_ hk=>⟨Kd.fresh' (Kd.R_lt (qr_ HO_8)) k_ hk,Kd.fresh' (Kd.R_lt (qr_ HO151)) k_ hk⟩));(case aO=>exact(qr_ HO154));(case aS=>exact(below_size qBHB));(case aL=>have:=LMc89.out;omega);intro v156 w95 ho hb hg hat;rw[← Ny155.out]at ho;replace HO_8:=qM_ (Kd.R_after (ok:=(fun k_=>some k_≠(.slice Ao94 y149.length co94:Value).ownBlock)) (qr_ HO_8) hg hat);replace HO151:=qM_ (Kd.R_after (ok:=(fun k_=>some k_≠(.slice Ao90 y115.length co90:Value).ownBlock)) (qr_ HO151) hg hat);replace HB:=qM_ (hb);have HO157:=qM_ (ho);clear HO154;clear ho hb hg hat))
                   go_roundg kj27
                   case measure=>have:=HK1.out;have:=HJ4.out;have:=HJ18.out;have:=HJ27.out;omega
                   case rel=>exact⟨(y155),(wrap64 (0+(y115.length:Int))),(wrap64 (x5_1+1)),qff_,qff_,H', ⟨by have:=HK1.out;have:=HJ4.out;have:=HJ18.out;have:=HJ27.out;omega⟩,⟨by(with_reducible repeat(first|apply Kd.R_alloc|apply Kd.R_drewN|apply Kd.R_drew));exact Kd.R_mono HO157.out (fun _ hk=>trivial)⟩,⟨qBHB⟩⟩
                  ·rw[if_neg c89]at H
                   exact absurd H (by simp)
                 ·rw[if_neg c88]at H
                  exact absurd H (by simp)
               ·replace c83:=Bool.eq_false_iff.mpr c83
                subst c83
                have H1:((some (([61,13,10]:List Int):List Int)).bind fun y158=>(if x3_1.length+y158.length < 140737488355328 then((some (x3_1 ++ y158:List Int)).bind fun y161=>(if y161.length+y115.length < 140737488355328 then(z68_.l0 kj27 l0 (y161 ++ y115) (wrap64 (0+(y115.length:Int))) (wrap64 (x5_1+1)))else(none)))else(none)))=some r:=by rw[if_neg (show ¬(false=true)by decide)]at H;exact H
                clear H;have H:=H1;clear H1
                obtain⟨y158,hy158⟩:∃ y_:List Int,y_=(([61,13,10]:List Int)):=⟨_,rfl⟩
                replace H:(if x3_1.length+y158.length < 140737488355328 then((some (x3_1 ++ y158:List Int)).bind fun y161=>(if y161.length+y115.length < 140737488355328 then(z68_.l0 kj27 l0 (y161 ++ y115) (wrap64 (0+(y115.length:Int))) (wrap64 (x5_1+1)))else(none)))else(none))=some r:=qh_ hy158 H;have Ny158:=qM_ hy158;clear hy158;by_cases c96:x3_1.length+y158.length < 140737488355328
                ·rw[if_pos c96]at H
                 have LMc96:=qM_ c96;clear c96
                 obtain⟨y161,hy161⟩:∃ y_:List Int,y_=(x3_1 ++ y158):=⟨_,rfl⟩
                 replace H:(if y161.length+y115.length < 140737488355328 then(z68_.l0 kj27 l0 (y161 ++ y115) (wrap64 (0+(y115.length:Int))) (wrap64 (x5_1+1)))else(none))=some r:=qh_ hy161 H;have Ny161:=qM_ hy161;clear hy161;by_cases c97:y161.length+y115.length < 140737488355328
                 ·rw[if_pos c97]at H
                  have LMc97:=qM_ c97;clear c97
                  obtain⟨y164,hy164⟩:∃ y_:List Int,y_=(y161 ++ y115):=⟨_,rfl⟩
                  replace H:(z68_.l0 kj27 l0 y164 (wrap64 (0+(y115.length:Int))) (wrap64 (x5_1+1)))=some r:=qh_ hy164 H;have Ny164:=qM_ hy164;clear hy164;have H' := qM_ H;clear H;obtain⟨Ao98,co98,eo98⟩:=Kd.R_slice HO_8.out;subst eo98
                  go_wp2_with (first|((with_reducible refine gate_dst (N:=113) rfl ?_);(try(refine gate_guard (by rfl) ?_;dsimp only));refine Kd.R_lit (Kd.int .u8) _ 5 ?hg (N:=113) ?hd (xs:=([61,13,10]:List Int)) (inner:=[.int .u8 61,.int .u8 13,.int .u8 10]) (ok:=fun _=>True) (okp:=fun _=>True) ?hr ?hp (fun _ hk=>hk) trivial (Below.refl _ _) (Nat.le_refl _) (by simp) ?_;(case hd=>rfl);(case hg=>rfl);(case hr=>first|(go_simp;done)|(go_simp;rfl));(case hp=>exact(Reps.one rfl (Reps.one rfl (Reps.one rfl (Reps.none _ _)))));intro v159 w99 ho100 hb hg_ hnew_;clear hg_ hnew_;(first|rw[← Ny158.out]at ho100|(simp only[Int.reduceToNat]at ho100;rw[← Ny158.out]at ho100));have HO160:=qM_ (Kd.R_lower (Kd.R_new' (Kd.R_new' ho100 (Kd.R_lt (qr_ HO_3))) (Kd.R_lt (qr_ HO_8))) (below_size qBHB));replace HO_3:=qM_ (Kd.R_elder' (qr_ HO_3) (Kd.R_base ho100) hb);replace HO_8:=qM_ (Kd.R_elder' (qr_ HO_8) (Kd.R_base ho100) hb);replace HB:=qM_ (below_step qBHB hb);clear hb ho100;obtain⟨Ao102,co102,eo102⟩:=Kd.R_slice HO160.out;subst eo102)|((with_reducible refine gate_builtin (b:= .append) (xs:=#[.tmp 112,.tmp 113]) rfl ?_);(try(refine gate_guard (by rfl) ?_;dsimp only));at_builtin;refine Kd.R_append_rows (Kd.int .u8) (w0:=w) w.heap.size rfl (.tmp 112) (.tmp 113) 26 5 (.int .u8 0) 1 rfl Try.underlying26 info5 rfl (by decide) (by omega) u3 x3_1 y158 _ _ _ (fun k_=>some k_≠(.slice Ao98 y115.length co98:Value).ownBlock∧some k_≠(.slice Ao102 y158.length co102:Value).ownBlock) (fun _=>False) rfl rfl ?aO ?aR (fun _ _ h=>h) (fun _ h=>h.elim) ?aF ?aB ?aS ?aL ?_;(case aR=>repeat(first|exact(Kd.R_reads' HO160.out).2.2|(with_reducible refine Kd.C_alloc ?_ _)|(with_reducible refine Kd.C_drewN ?_ _)|(with_reducible refine Kd.C_drew ?_)));(case aB=>exact qBHB);(case aF=>exact(fun k_ hk=>⟨Kd.fresh' (Kd.R_lt (qr_ HO_8)) k_ hk,Kd.fresh' (Kd.R_lt (qr_ HO160)) k_ hk⟩));(case aO=>exact(qr_ HO_3));(case aS=>exact(below_size qBHB));(case aL=>have:=LMc96.out;omega);intro v162 w101 ho hb hg hat;rw[← Ny161.out]at ho;replace HO_8:=qM_ (Kd.R_after (ok:=(fun k_=>some k_≠(.slice Ao102 y158.length co102:Value).ownBlock)) (by(with_reducible repeat(first|apply Kd.R_alloc|apply Kd.R_drewN|apply Kd.R_drew));exact Kd.R_mono HO_8.out (fun _ hk=>⟨hk.2,hk.1⟩)) hg hat);replace HO160:=qM_ (Kd.R_after (ok:=(fun k_=>some k_≠(.slice Ao98 y115.length co98:Value).ownBlock)) (by(with_reducible repeat(first|apply Kd.R_alloc|apply Kd.R_drewN|apply Kd.R_drew));exact Kd.R_mono HO160.out (fun _ hk=>⟨hk.2,hk.1.2⟩)) hg hat);replace HB:=qM_ (hb);have HO163:=qM_ (ho);clear HO_3;clear ho hb hg hat)|((with_reducible refine gate_builtin (b:= .append) (xs:=#[.tmp 115,.tmp 116]) rfl ?_);(try(refine gate_guard (by rfl) ?_;dsimp only));at_builtin;refine Kd.R_append_rows (Kd.int .u8) (w0:=w) w.heap.size rfl (.tmp 115) (.tmp 116) 26 5 (.int .u8 0) 1 rfl Try.underlying26 info5 rfl (by decide) (by omega) v162 y161 y115 _ _ _ (fun k_=>some k_≠(.slice Ao98 y115.length co98:Value).ownBlock∧some k_≠(.slice Ao102 y158.length co102:Value).ownBlock) (fun _=>False) rfl rfl ?aO ?aR (fun _ _ h=>h) (fun _ h=>h.elim) ?aF ?aB ?aS ?aL ?_;(case aR=>repeat(first|exact(Kd.R_reads' HO_8.out).2.2|(with_reducible refine Kd.C_alloc ?_ _)|(with_reducible refine Kd.C_drewN ?_ _)|(with_reducible refine Kd.C_drew ?_)));(case aB=>exact qBHB);(case aF=>exact(fun k_ hk=>⟨Kd.fresh' (Kd.R_lt (qr_ HO_8)) k_ hk,Kd.fresh' (Kd.R_lt (qr_ HO160)) k_ hk⟩));(case aO=>exact(qr_ HO163));(case aS=>exact(below_size qBHB));(case aL=>have:=LMc97.out;omega);intro v165 w103 ho hb hg hat;rw[← Ny164.out]at ho;replace HO_8:=qM_ (Kd.R_after (ok:=(fun k_=>some k_≠(.slice Ao102 y158.length co102:Value).ownBlock)) (qr_ HO_8) hg hat);replace HO160:=qM_ (Kd.R_after (ok:=(fun k_=>some k_≠(.slice Ao98 y115.length co98:Value).ownBlock)) (qr_ HO160) hg hat);replace HB:=qM_ (hb);have HO166:=qM_ (ho);clear HO163;clear ho hb hg hat))
                  go_roundg kj27
                  case measure=>have:=HK1.out;have:=HJ4.out;have:=HJ18.out;have:=HJ27.out;omega
                  case rel=>exact⟨(y164),(wrap64 (0+(y115.length:Int))),(wrap64 (x5_1+1)),qff_,qff_,H', ⟨by have:=HK1.out;have:=HJ4.out;have:=HJ18.out;have:=HJ27.out;omega⟩,⟨by(with_reducible repeat(first|apply Kd.R_alloc|apply Kd.R_drewN|apply Kd.R_drew));exact Kd.R_mono HO166.out (fun _ hk=>trivial)⟩,⟨qBHB⟩⟩
                 ·rw[if_neg c97]at H
                  exact absurd H (by simp)
                ·rw[if_neg c96]at H
                 exact absurd H (by simp)
              ·rw[if_neg c82]at H
               have c82b0:decide (75 < (wrap64 (x4_1+(y115.length:Int))))=false:=decide_eq_false c82;clear c82;by_cases c104:x3_1.length+y115.length < 140737488355328
               ·rw[if_pos c104]at H
                have LMc104:=qM_ c104;clear c104
                obtain⟨y167,hy167⟩:∃ y_:List Int,y_=(x3_1 ++ y115):=⟨_,rfl⟩
                replace H:(z68_.l0 kj27 l0 y167 (wrap64 (x4_1+(y115.length:Int))) (wrap64 (x5_1+1)))=some r:=qh_ hy167 H;have Ny167:=qM_ hy167;clear hy167;have H' := qM_ H;clear H;obtain⟨Ao105,co105,eo105⟩:=Kd.R_slice HO_8.out;subst eo105
                go_wp2_with (first|((with_reducible refine gate_builtin (b:= .append) (xs:=#[.tmp 115,.tmp 116]) rfl ?_);(try(refine gate_guard (by rfl) ?_;dsimp only));at_builtin;refine Kd.R_append_rows (Kd.int .u8) (w0:=w) w.heap.size rfl (.tmp 115) (.tmp 116) 26 5 (.int .u8 0) 1 rfl Try.underlying26 info5 rfl (by decide) (by omega) u3 x3_1 y115 _ _ _ (fun k_=>some k_≠(.slice Ao105 y115.length co105:Value).ownBlock) (fun _=>False) rfl rfl ?aO ?aR (fun _ _ h=>h) (fun _ h=>h.elim) ?aF ?aB ?aS ?aL ?_;(case aR=>repeat(first|exact(Kd.R_reads' HO_8.out).2.2|(with_reducible refine Kd.C_alloc ?_ _)|(with_reducible refine Kd.C_drewN ?_ _)|(with_reducible refine Kd.C_drew ?_)));(case aB=>exact qBHB);(case aF=>exact(fun k_ hk=>Kd.fresh' (Kd.R_lt (qr_ HO_8)) k_ hk));(case aO=>exact(qr_ HO_3));(case aS=>exact(below_size qBHB));(case aL=>have:=LMc104.out;omega);intro v168 w106 ho hb hg hat;rw[← Ny167.out]at ho;replace HO_8:=qM_ (Kd.R_after (ok:=(fun _=>True)) (by(with_reducible repeat(first|apply Kd.R_alloc|apply Kd.R_drewN|apply Kd.R_drew));exact Kd.R_mono HO_8.out (fun _ hk=>⟨trivial,hk⟩)) hg hat);replace HB:=qM_ (hb);have HO169:=qM_ (ho);clear HO_3;clear ho hb hg hat))
                go_roundg kj27
                case measure=>have:=HK1.out;have:=HJ4.out;have:=HJ18.out;have:=HJ27.out;omega
                case rel=>exact⟨(y167),(wrap64 (x4_1+(y115.length:Int))),(wrap64 (x5_1+1)),qff_,qff_,H', ⟨by have:=HK1.out;have:=HJ4.out;have:=HJ18.out;have:=HJ27.out;omega⟩,⟨by(with_reducible repeat(first|apply Kd.R_alloc|apply Kd.R_drewN|apply Kd.R_drew));exact Kd.R_mono HO169.out (fun _ hk=>trivial)⟩,⟨qBHB⟩⟩
               ·rw[if_neg c104]at H
                exact absurd H (by simp)
        ·rw[if_neg c18]at H
         exact absurd H (by simp)
       ·rw[if_neg c17]at H
        exact absurd H (by simp)
   ·rw[if_neg c4]at H
    have c4b0:decide (x5_1 < (l0.length:Int))=false:=decide_eq_false c4;clear c4;obtain rfl:=Option.some.inj H;have hcv107:=own_string (P:=Try.prog) Try.underlying26 Try.underlying5 Try.underlying9 (Kd.own_of_R HO_3.out)
    go_wp2
    go_ret;exact⟨qee_,qBHB⟩

end Go.Proofs.Ytbjefkeogbophaa.P
