/- Part 4 of what the law FnMutations stands on; the last part ends with the law's row. No condition of mine. -/
import Derived.Test.YtbjefkeogbophaaMFnMutations1
namespace Go.Proofs.Ytbjefkeogbophaa.P
open Go.RowKit Go.Proofs.YtbjefkeogbophaaW.PrintWords Go.Proofs.YtbjefkeogbophaaW.PrintLast Go.Proofs.YtbjefkeogbophaaW.PrintMore
attribute [local go_sem] max2_int min2_int max_two min_two max_three min_three max_four min_four   -- for this text's walks alone
set_option linter.unusedVariables false
set_option linter.unusedSimpArgs false

/-! ### z77_: function 77 -/
mutual
def z77_.l0:Nat→List Int→List Int→Int→Option (ByteArray)
 | 0,_,_,_=>none
 | k+1,x0,x3,x4=>if x4 < (x0.length:Int)then(z77_.l1 k x0 x3 x4 0 0)else(some (strOfNums x3))
def z77_.l1:Nat→List Int→List Int→Int→Int→Int→Option (ByteArray)
 | 0,_,_,_,_,_=>none
 | k+1,x0,x3,x4,x5,x6=>if x6 < 3 then(if(wrap64 (x4+x6)) < (x0.length:Int)then(if 0≤(wrap64 (x4+x6))then(z77_.l1 k x0 x3 x4 (wrap64 ((wrap64 (x5*256))+(wrap64 (rd x0 (wrap64 (x4+x6)))))) (wrap64 (x6+1)))else(none))else(z77_.l1 k x0 x3 x4 (wrap64 (x5*256)) (wrap64 (x6+1))))else(if 0≤(wrap64 (Int.tdiv x5 262144))then(if(wrap64 (Int.tdiv x5 262144)) < 64 then(if 0≤(Int.tmod (wrap64 (Int.tdiv x5 4096)) 64)then(if(Int.tmod (wrap64 (Int.tdiv x5 4096)) 64) < 64 then(if 0≤(Int.tmod (wrap64 (Int.tdiv x5 64)) 64)then(if(Int.tmod (wrap64 (Int.tdiv x5 64)) 64) < 64 then(if 0≤(Int.tmod x5 64)then(if(Int.tmod x5 64) < 64 then((some (([bt (⟨#[65,66,67,68,69,70,71,72,73,74,75,76,77,78,79,80,81,82,83,84,85,86,87,88,89,90,97,98,99,100,101,102,103,104,105,106,107,108,109,110,111,112,113,114,115,116,117,118,119,120,121,122,48,49,50,51,52,53,54,55,56,57,43,47]⟩:ByteArray) (wrap64 (Int.tdiv x5 262144)),bt (⟨#[65,66,67,68,69,70,71,72,73,74,75,76,77,78,79,80,81,82,83,84,85,86,87,88,89,90,97,98,99,100,101,102,103,104,105,106,107,108,109,110,111,112,113,114,115,116,117,118,119,120,121,122,48,49,50,51,52,53,54,55,56,57,43,47]⟩:ByteArray) (Int.tmod (wrap64 (Int.tdiv x5 4096)) 64),bt (⟨#[65,66,67,68,69,70,71,72,73,74,75,76,77,78,79,80,81,82,83,84,85,86,87,88,89,90,97,98,99,100,101,102,103,104,105,106,107,108,109,110,111,112,113,114,115,116,117,118,119,120,121,122,48,49,50,51,52,53,54,55,56,57,43,47]⟩:ByteArray) (Int.tmod (wrap64 (Int.tdiv x5 64)) 64),bt (⟨#[65,66,67,68,69,70,71,72,73,74,75,76,77,78,79,80,81,82,83,84,85,86,87,88,89,90,97,98,99,100,101,102,103,104,105,106,107,108,109,110,111,112,113,114,115,116,117,118,119,120,121,122,48,49,50,51,52,53,54,55,56,57,43,47]⟩:ByteArray) (Int.tmod x5 64)]:List Int):List Int)).bind fun y105=>(if(wrap64 (x4+2))≥(x0.length:Int)then(if 3 < (y105.length:Int)then((some (y105.set (3:Int).toNat 61:List Int)).bind fun y108=>(if(wrap64 (x4+1))≥(x0.length:Int)then(if 2 < (y105.length:Int)then((some (y108.set (2:Int).toNat 61:List Int)).bind fun y109=>(if x3.length+y109.length < 140737488355328 then(z77_.l0 k x0 (x3 ++ y109) (wrap64 (x4+3)))else(none)))else(none))else(if x3.length+y108.length < 140737488355328 then(z77_.l0 k x0 (x3 ++ y108) (wrap64 (x4+3)))else(none))))else(none))else(if(wrap64 (x4+1))≥(x0.length:Int)then(if 2 < (y105.length:Int)then((some (y105.set (2:Int).toNat 61:List Int)).bind fun y116=>(if x3.length+y116.length < 140737488355328 then(z77_.l0 k x0 (x3 ++ y116) (wrap64 (x4+3)))else(none)))else(none))else(if x3.length+y105.length < 140737488355328 then(z77_.l0 k x0 (x3 ++ y105) (wrap64 (x4+3)))else(none)))))else(none))else(none))else(none))else(none))else(none))else(none))else(none))else(none))
end
def z77_.f (k:Nat) (l0:List Int):Option (ByteArray):=z77_.l0 k l0 (([]:List Int)) 0
theorem z77_.mono_l:∀ k,(∀ y0 y1 y2,LeO (z77_.l0 k y0 y1 y2) (z77_.l0 (k+1) y0 y1 y2))∧(∀ y0 y1 y2 y3 y4,LeO (z77_.l1 k y0 y1 y2 y3 y4) (z77_.l1 (k+1) y0 y1 y2 y3 y4))
 | 0=>⟨fun _ _ _ r h=>by simp[z77_.l0]at h,fun _ _ _ _ _ r h=>by simp[z77_.l1]at h⟩
 | k+1=>by
  obtain⟨ih0,ih1⟩:=z77_.mono_l k;refine⟨?_,?_⟩
  ·intro y0 y1 y2
   unfold z77_.l0
   repeat' first
   | (with_reducible exact ih0 _ _ _)
   | (with_reducible exact ih1 _ _ _ _ _)
   | (with_reducible exact LeO.refl _)
   | (with_reducible exact LeO.none _)
   | (with_reducible refine LeO.ite ?_ ?_)
   | (with_reducible refine LeO.bind ?_ (fun _=> ?_))
   | exact ih0 _ _ _
   | exact ih1 _ _ _ _ _
   | exact LeO.none _
   | refine LeO.ite ?_ ?_
   | refine LeO.bind ?_ (fun _=> ?_)
  ·intro y0 y1 y2 y3 y4
   unfold z77_.l1
   repeat' first
   | (with_reducible exact ih0 _ _ _)
   | (with_reducible exact ih1 _ _ _ _ _)
   | (with_reducible exact LeO.refl _)
   | (with_reducible exact LeO.none _)
   | (with_reducible refine LeO.ite ?_ ?_)
   | (with_reducible refine LeO.bind ?_ (fun _=> ?_))
   | exact ih0 _ _ _
   | exact ih1 _ _ _ _ _
   | exact LeO.none _
   | refine LeO.ite ?_ ?_
   | refine LeO.bind ?_ (fun _=> ?_)
theorem z77_.mono:∀ a0 k,LeO (z77_.f k a0) (z77_.f (k+1) a0):=by
 intro a0 k
 obtain⟨ih0,ih1⟩:=z77_.mono_l k
 unfold z77_.f
 repeat' first
   | (with_reducible exact ih0 _ _ _)
   | (with_reducible exact ih1 _ _ _ _ _)
   | (with_reducible exact LeO.refl _)
   | (with_reducible exact LeO.none _)
   | (with_reducible refine LeO.ite ?_ ?_)
   | (with_reducible refine LeO.bind ?_ (fun _=> ?_))
   | exact ih0 _ _ _
   | exact ih1 _ _ _ _ _
   | exact LeO.none _
   | refine LeO.ite ?_ ?_
   | refine LeO.bind ?_ (fun _=> ?_)
def z77_.T12:Bool × List (List Nat × List Nat):=(true,[([],[]),([0],[0]),([1],[1]),([],[]),([3],[3]),([4],[4]),([5],[5]),([],[]),([7],[7]),([8],[8]),([9],[9]),([],[]),([11],[11]),([12],[12]),([2,6,10,13],[2,6,10,13]),([14,0,1,2,3,4,5,6,7,8,9,10,11,12,13,14],[14])])
def z77_.B12:List Nat:=[0,1,3,0,8,24,56,0,128,384,896,0,2048,6144,16383,32767]
theorem z77_.tab12:rtab .any (opsOf Try.f77 12)=z77_.T12:=by kernel_rfl
theorem z77_.bits12:waitsOk z77_.T12.2 z77_.B12=true:=by kernel_rfl
abbrev z77_.b0:ByteArray:=⟨#[65,66,67,68,69,70,71,72,73,74,75,76,77,78,79,80,81,82,83,84,85,86,87,88,89,90,97,98,99,100,101,102,103,104,105,106,107,108,109,110,111,112,113,114,115,116,117,118,119,120,121,122,48,49,50,51,52,53,54,55,56,57,43,47]⟩
set_option maxHeartbeats 8000000 in
set_option maxRecDepth 100000 in
theorem z77_.calls (k:Nat) (A0:Option Addr) (c0:Nat) (l0:List Int) (r:ByteArray) (w:World) (hr0:Kd.C (Kd.int .u8) w A0 l0.length l0) (hc0:l0.length≤c0) (h:z77_.f k l0=some r) :
  Calls Try.prog 77 #[.slice A0 l0.length c0] w fun e w' => e= .returned (.string r)∧Below w.heap.size w w' := by
 have HR0:=qM_ hr0
 have HC0:=qM_ hc0
 clear hr0 hc0
 have HB:=qM_ (Below.refl w.heap.size w)
 have H:(z77_.l0 k l0 (([]:List Int)) 0)=some r:=h
 clear h
 obtain⟨y101,hy101⟩:∃ y_:List Int,y_=(([]:List Int)):=⟨_,rfl⟩
 replace H:(z77_.l0 k l0 y101 0)=some r:=qh_ hy101 H
 have Ny101:=qM_ hy101
 clear hy101
 have H' := qM_ H
 clear H
 go_enter Try.func77,Try.ntmps77
 go_wp2_with (first|((with_reducible refine gate_dst (N:=8) rfl ?_);refine Kd.R_lit (Kd.int .u8) _ 5 ?hg (N:=8) ?hd (xs:=([]:List Int)) (inner:=[]) (ok:=fun _=>True) (okp:=fun _=>True) ?hr ?hp (fun _ hk=>hk) trivial (Below.refl _ _) (Nat.le_refl _) (by simp) ?_;(case hd=>rfl);(case hg=>rfl);(case hr=>first|(go_simp;done)|(go_simp;rfl));(case hp=>exact(Reps.none _ _));intro v102 w2 ho3 hb hg_ hnew_;clear hg_ hnew_;(first|rw[← Ny101.out]at ho3|(simp only[Int.reduceToNat]at ho3;rw[← Ny101.out]at ho3));have HO103:=qM_ (Kd.R_lower ho3 (below_size qBHB));replace HB:=qM_ (below_step qBHB hb);clear hb ho3))
 go_loopg [3,4] k (fun kq v3 v4 w' => ∃(x3_1:List Int) (x4_1:Int),v4= .int .i64 x4_1∧Aside0 (z77_.l0 kq l0 x3_1 x4_1=some r)∧Aside0 (kq≤k)∧Aside0 (Kd.R (Kd.int .u8) 5 w' w.heap.size (fun _=>True) v3 x3_1)∧Aside0 (Below w.heap.size w w'))
 case atStart=>exact⟨(y101),(0),qff_,H', ⟨Nat.le_refl _⟩,⟨qr_ HO103⟩,⟨qBHB⟩⟩
 case round =>
  clear H'
  try clear p2
  obtain⟨x3_1,x4_1,rfl,HA,HK1,HO_3,HB⟩:=hrel
  cases gk with
  | zero=>exact absurd HA.out (by simp[z77_.l0])
  | succ k1 =>
   have H:=HA.out;clear HA;simp only[z77_.l0]at H;by_cases c4:x4_1 < (l0.length:Int)
   ·rw[if_pos c4]at H
    have c4b0:decide (x4_1 < (l0.length:Int))=true:=decide_eq_true c4;clear c4;have H' := qM_ H;clear H
    go_wp2
    go_loopg [5,6] k1 (fun kq v5 v6 w' => ∃(x5_2:Int) (x6_2:Int),v5= .int .i64 x5_2∧v6= .int .i64 x6_2∧Aside0 (z77_.l1 kq l0 x3_1 x4_1 x5_2 x6_2=some r)∧Aside0 (kq≤k1)∧Aside0 (Kd.R (Kd.int .u8) 5 w' w.heap.size (fun _=>True) u3 x3_1)∧Aside0 (Below w.heap.size w w'))
    case atStart=>exact⟨(0),(0),qff_,qff_,H', ⟨Nat.le_refl _⟩,⟨qr_ HO_3⟩,⟨qBHB⟩⟩
    case round =>
     clear H'
     try clear p2
     try clear c4
     try clear c4b0
     try clear p2
     obtain⟨x5_2,x6_2,rfl,rfl,HA,HK2,HO_3,HB⟩:=hrel
     cases gk with
     | zero=>exact absurd HA.out (by simp[z77_.l1])
     | succ k2 =>
      have H:=HA.out;clear HA;simp only[z77_.l1]at H;by_cases c5:x6_2 < 3
      ·rw[if_pos c5]at H
       have c5b0:decide (x6_2 < 3)=true:=decide_eq_true c5;clear c5;by_cases c6:(wrap64 (x4_1+x6_2)) < (l0.length:Int)
       ·rw[if_pos c6]at H
        have c6b0:decide ((wrap64 (x4_1+x6_2)) < (l0.length:Int))=true:=decide_eq_true c6;clear c6
        obtain⟨ji7,hji7⟩:∃ j_:Int,(wrap64 (x4_1+x6_2))=j_:=⟨_,rfl⟩
        replace H:(if 0≤(ji7)then(z77_.l1 k2 l0 x3_1 x4_1 (wrap64 ((wrap64 (x5_2*256))+(wrap64 (rd l0 (ji7))))) (wrap64 (x6_2+1)))else(none))=some r:=qj_ hji7 H
        (try rw[hji7]at c6b0)
        have hji7w:(IntKind.i64.wrap (x4_1+x6_2))=ji7:=(i64_w _).trans hji7;by_cases c8:0≤(ji7)
        ·rw[if_pos c8]at H
         have c8b0:decide (0≤(ji7))=true:=decide_eq_true c8;clear c8;have H' := qM_ H;clear H;have p104:0≤((ji7):Int):=qd_;have q104:(ji7) < (l0.length:Int):=qd_;obtain⟨ad104,e104,hx104_0⟩:=Kd.at_int HR0.out (ji7) p104 q104;cases e104;replace hx104_0:=(HB.out.cell (qL_ w _ hx104_0)).trans hx104_0;replace p104:=eq_true p104;replace q104:=eq_true q104
         go_wp2
         go_roundg k2
         case measure=>have:=HK1.out;have:=HK2.out;omega
         case rel=>exact⟨(wrap64 ((wrap64 (x5_2*256))+(wrap64 (rd l0 (ji7))))),(wrap64 (x6_2+1)),(by first|rfl|(simp;done)|(simp only[← hji7] <;> (first|rfl|simp))|(simp[*];done)),qff_,H', ⟨by have:=HK1.out;have:=HK2.out;omega⟩,⟨qr_ HO_3⟩,⟨qBHB⟩⟩
        ·rw[if_neg c8]at H
         exact absurd H (by simp)
       ·rw[if_neg c6]at H
        have c6b0:decide ((wrap64 (x4_1+x6_2)) < (l0.length:Int))=false:=decide_eq_false c6;clear c6;have H' := qM_ H;clear H
        go_wp2
        go_roundg k2
        case measure=>have:=HK1.out;have:=HK2.out;omega
        case rel=>exact⟨(wrap64 (x5_2*256)),(wrap64 (x6_2+1)),qff_,qff_,H', ⟨by have:=HK1.out;have:=HK2.out;omega⟩,⟨qr_ HO_3⟩,⟨qBHB⟩⟩
      ·rw[if_neg c5]at H
       have c5b0:decide (x6_2 < 3)=false:=decide_eq_false c5;clear c5
       obtain⟨ji9,hji9⟩:∃ j_:Int,(wrap64 (Int.tdiv x5_2 262144))=j_:=⟨_,rfl⟩
       replace H:(if 0≤(ji9)then(if(ji9) < 64 then(if 0≤(Int.tmod (wrap64 (Int.tdiv x5_2 4096)) 64)then(if(Int.tmod (wrap64 (Int.tdiv x5_2 4096)) 64) < 64 then(if 0≤(Int.tmod (wrap64 (Int.tdiv x5_2 64)) 64)then(if(Int.tmod (wrap64 (Int.tdiv x5_2 64)) 64) < 64 then(if 0≤(Int.tmod x5_2 64)then(if(Int.tmod x5_2 64) < 64 then((some (([bt z77_.b0 (ji9),bt z77_.b0 (Int.tmod (wrap64 (Int.tdiv x5_2 4096)) 64),bt z77_.b0 (Int.tmod (wrap64 (Int.tdiv x5_2 64)) 64),bt z77_.b0 (Int.tmod x5_2 64)]:List Int):List Int)).bind fun y105=>(if(wrap64 (x4_1+2))≥(l0.length:Int)then(if 3 < (y105.length:Int)then((some (y105.set (3:Int).toNat 61:List Int)).bind fun y108=>(if(wrap64 (x4_1+1))≥(l0.length:Int)then(if 2 < (y105.length:Int)then((some (y108.set (2:Int).toNat 61:List Int)).bind fun y109=>(if x3_1.length+y109.length < 140737488355328 then(z77_.l0 k2 l0 (x3_1 ++ y109) (wrap64 (x4_1+3)))else(none)))else(none))else(if x3_1.length+y108.length < 140737488355328 then(z77_.l0 k2 l0 (x3_1 ++ y108) (wrap64 (x4_1+3)))else(none))))else(none))else(if(wrap64 (x4_1+1))≥(l0.length:Int)then(if 2 < (y105.length:Int)then((some (y105.set (2:Int).toNat 61:List Int)).bind fun y116=>(if x3_1.length+y116.length < 140737488355328 then(z77_.l0 k2 l0 (x3_1 ++ y116) (wrap64 (x4_1+3)))else(none)))else(none))else(if x3_1.length+y105.length < 140737488355328 then(z77_.l0 k2 l0 (x3_1 ++ y105) (wrap64 (x4_1+3)))else(none)))))else(none))else(none))else(none))else(none))else(none))else(none))else(none))else(none))=some r:=qj_ hji9 H;have hji9w:(IntKind.i64.wrap (Int.tdiv x5_2 262144))=ji9:=(i64_w _).trans hji9;by_cases c10:0≤(ji9)
       ·rw[if_pos c10]at H
        have c10b0:decide (0≤(ji9))=true:=decide_eq_true c10;clear c10;by_cases c11:(ji9) < 64
        ·rw[if_pos c11]at H
         have c11b0:decide ((ji9) < 64)=true:=decide_eq_true c11;clear c11
         obtain⟨ji13,hji13⟩:∃ j_:Int,(Int.tmod (wrap64 (Int.tdiv x5_2 4096)) 64)=j_:=⟨_,rfl⟩
         replace H:(if 0≤(ji13)then(if(ji13) < 64 then(if 0≤(Int.tmod (wrap64 (Int.tdiv x5_2 64)) 64)then(if(Int.tmod (wrap64 (Int.tdiv x5_2 64)) 64) < 64 then(if 0≤(Int.tmod x5_2 64)then(if(Int.tmod x5_2 64) < 64 then((some (([bt z77_.b0 (ji9),bt z77_.b0 (ji13),bt z77_.b0 (Int.tmod (wrap64 (Int.tdiv x5_2 64)) 64),bt z77_.b0 (Int.tmod x5_2 64)]:List Int):List Int)).bind fun y105=>(if(wrap64 (x4_1+2))≥(l0.length:Int)then(if 3 < (y105.length:Int)then((some (y105.set (3:Int).toNat 61:List Int)).bind fun y108=>(if(wrap64 (x4_1+1))≥(l0.length:Int)then(if 2 < (y105.length:Int)then((some (y108.set (2:Int).toNat 61:List Int)).bind fun y109=>(if x3_1.length+y109.length < 140737488355328 then(z77_.l0 k2 l0 (x3_1 ++ y109) (wrap64 (x4_1+3)))else(none)))else(none))else(if x3_1.length+y108.length < 140737488355328 then(z77_.l0 k2 l0 (x3_1 ++ y108) (wrap64 (x4_1+3)))else(none))))else(none))else(if(wrap64 (x4_1+1))≥(l0.length:Int)then(if 2 < (y105.length:Int)then((some (y105.set (2:Int).toNat 61:List Int)).bind fun y116=>(if x3_1.length+y116.length < 140737488355328 then(z77_.l0 k2 l0 (x3_1 ++ y116) (wrap64 (x4_1+3)))else(none)))else(none))else(if x3_1.length+y105.length < 140737488355328 then(z77_.l0 k2 l0 (x3_1 ++ y105) (wrap64 (x4_1+3)))else(none)))))else(none))else(none))else(none))else(none))else(none))else(none))=some r:=qj_ hji13 H;by_cases c14:0≤(ji13)
         ·rw[if_pos c14]at H
          have c14b0:decide (0≤(ji13))=true:=decide_eq_true c14;clear c14;by_cases c15:(ji13) < 64
          ·rw[if_pos c15]at H
           have c15b0:decide ((ji13) < 64)=true:=decide_eq_true c15;clear c15
           obtain⟨ji17,hji17⟩:∃ j_:Int,(Int.tmod (wrap64 (Int.tdiv x5_2 64)) 64)=j_:=⟨_,rfl⟩
           replace H:(if 0≤(ji17)then(if(ji17) < 64 then(if 0≤(Int.tmod x5_2 64)then(if(Int.tmod x5_2 64) < 64 then((some (([bt z77_.b0 (ji9),bt z77_.b0 (ji13),bt z77_.b0 (ji17),bt z77_.b0 (Int.tmod x5_2 64)]:List Int):List Int)).bind fun y105=>(if(wrap64 (x4_1+2))≥(l0.length:Int)then(if 3 < (y105.length:Int)then((some (y105.set (3:Int).toNat 61:List Int)).bind fun y108=>(if(wrap64 (x4_1+1))≥(l0.length:Int)then(if 2 < (y105.length:Int)then((some (y108.set (2:Int).toNat 61:List Int)).bind fun y109=>(if x3_1.length+y109.length < 140737488355328 then(z77_.l0 k2 l0 (x3_1 ++ y109) (wrap64 (x4_1+3)))else(none)))else(none))else(if x3_1.length+y108.length < 140737488355328 then(z77_.l0 k2 l0 (x3_1 ++ y108) (wrap64 (x4_1+3)))else(none))))else(none))else(if(wrap64 (x4_1+1))≥(l0.length:Int)then(if 2 < (y105.length:Int)then((some (y105.set (2:Int).toNat 61:List Int)).bind fun y116=>(if x3_1.length+y116.length < 140737488355328 then(z77_.l0 k2 l0 (x3_1 ++ y116) (wrap64 (x4_1+3)))else(none)))else(none))else(if x3_1.length+y105.length < 140737488355328 then(z77_.l0 k2 l0 (x3_1 ++ y105) (wrap64 (x4_1+3)))else(none)))))else(none))else(none))else(none))else(none))=some r:=qj_ hji17 H;by_cases c18:0≤(ji17)
           ·rw[if_pos c18]at H
            have c18b0:decide (0≤(ji17))=true:=decide_eq_true c18;clear c18;by_cases c19:(ji17) < 64
            ·rw[if_pos c19]at H
             have c19b0:decide ((ji17) < 64)=true:=decide_eq_true c19;clear c19
             obtain⟨ji21,hji21⟩:∃ j_:Int,(Int.tmod x5_2 64)=j_:=⟨_,rfl⟩
             replace H:(if 0≤(ji21)then(if(ji21) < 64 then((some (([bt z77_.b0 (ji9),bt z77_.b0 (ji13),bt z77_.b0 (ji17),bt z77_.b0 (ji21)]:List Int):List Int)).bind fun y105=>(if(wrap64 (x4_1+2))≥(l0.length:Int)then(if 3 < (y105.length:Int)then((some (y105.set (3:Int).toNat 61:List Int)).bind fun y108=>(if(wrap64 (x4_1+1))≥(l0.length:Int)then(if 2 < (y105.length:Int)then((some (y108.set (2:Int).toNat 61:List Int)).bind fun y109=>(if x3_1.length+y109.length < 140737488355328 then(z77_.l0 k2 l0 (x3_1 ++ y109) (wrap64 (x4_1+3)))else(none)))else(none))else(if x3_1.length+y108.length < 140737488355328 then(z77_.l0 k2 l0 (x3_1 ++ y108) (wrap64 (x4_1+3)))else(none))))else(none))else(if(wrap64 (x4_1+1))≥(l0.length:Int)then(if 2 < (y105.length:Int)then((some (y105.set (2:Int).toNat 61:List Int)).bind fun y116=>(if x3_1.length+y116.length < 140737488355328 then(z77_.l0 k2 l0 (x3_1 ++ y116) (wrap64 (x4_1+3)))else(none)))else(none))else(if x3_1.length+y105.length < 140737488355328 then(z77_.l0 k2 l0 (x3_1 ++ y105) (wrap64 (x4_1+3)))else(none)))))else(none))else(none))=some r:=qj_ hji21 H;by_cases c22:0≤(ji21)
             ·rw[if_pos c22]at H
              have c22b0:decide (0≤(ji21))=true:=decide_eq_true c22;clear c22;by_cases c23:(ji21) < 64
              ·rw[if_pos c23]at H
               have c23b0:decide ((ji21) < 64)=true:=decide_eq_true c23;clear c23
               obtain⟨y105,hy105⟩:∃ y_:List Int,y_=(([bt z77_.b0 (ji9),bt z77_.b0 (ji13),bt z77_.b0 (ji17),bt z77_.b0 (ji21)]:List Int)):=⟨_,rfl⟩
               replace H:(if(wrap64 (x4_1+2))≥(l0.length:Int)then(if 3 < (y105.length:Int)then((some (y105.set (3:Int).toNat 61:List Int)).bind fun y108=>(if(wrap64 (x4_1+1))≥(l0.length:Int)then(if 2 < (y105.length:Int)then((some (y108.set (2:Int).toNat 61:List Int)).bind fun y109=>(if x3_1.length+y109.length < 140737488355328 then(z77_.l0 k2 l0 (x3_1 ++ y109) (wrap64 (x4_1+3)))else(none)))else(none))else(if x3_1.length+y108.length < 140737488355328 then(z77_.l0 k2 l0 (x3_1 ++ y108) (wrap64 (x4_1+3)))else(none))))else(none))else(if(wrap64 (x4_1+1))≥(l0.length:Int)then(if 2 < (y105.length:Int)then((some (y105.set (2:Int).toNat 61:List Int)).bind fun y116=>(if x3_1.length+y116.length < 140737488355328 then(z77_.l0 k2 l0 (x3_1 ++ y116) (wrap64 (x4_1+3)))else(none)))else(none))else(if x3_1.length+y105.length < 140737488355328 then(z77_.l0 k2 l0 (x3_1 ++ y105) (wrap64 (x4_1+3)))else(none))))=some r:=qh_ hy105 H;have Ny105:=qM_ hy105;clear hy105;by_cases c25:(wrap64 (x4_1+2))≥(l0.length:Int)
               ·rw[if_pos c25]at H
                have c25b0:decide ((l0.length:Int)≤(wrap64 (x4_1+2)))=true:=decide_eq_true c25;clear c25;by_cases c26:3 < (y105.length:Int)
                ·rw[if_pos c26]at H
                 have c26b0:decide (3 < (y105.length:Int))=true:=decide_eq_true c26;have c26b1:decide (3 < y105.length)=true:=decide_eq_true (by omega);clear c26
                 obtain⟨y108,hy108⟩:∃ y_:List Int,y_=(y105.set (3:Int).toNat 61):=⟨_,rfl⟩
                 replace H:(if(wrap64 (x4_1+1))≥(l0.length:Int)then(if 2 < (y105.length:Int)then((some (y108.set (2:Int).toNat 61:List Int)).bind fun y109=>(if x3_1.length+y109.length < 140737488355328 then(z77_.l0 k2 l0 (x3_1 ++ y109) (wrap64 (x4_1+3)))else(none)))else(none))else(if x3_1.length+y108.length < 140737488355328 then(z77_.l0 k2 l0 (x3_1 ++ y108) (wrap64 (x4_1+3)))else(none)))=some r:=qh_ hy108 H;have Ny108:=qM_ hy108;clear hy108;by_cases c28:(wrap64 (x4_1+1))≥(l0.length:Int)
                 ·rw[if_pos c28]at H
                  have c28b0:decide ((l0.length:Int)≤(wrap64 (x4_1+1)))=true:=decide_eq_true c28;clear c28;by_cases c29:2 < (y105.length:Int)
                  ·rw[if_pos c29]at H
                   have c29b0:decide (2 < (y105.length:Int))=true:=decide_eq_true c29;have c29b1:decide (2 < y105.length)=true:=decide_eq_true (by omega);clear c29
                   obtain⟨y109,hy109⟩:∃ y_:List Int,y_=(y108.set (2:Int).toNat 61):=⟨_,rfl⟩
                   replace H:(if x3_1.length+y109.length < 140737488355328 then(z77_.l0 k2 l0 (x3_1 ++ y109) (wrap64 (x4_1+3)))else(none))=some r:=qh_ hy109 H;have Ny109:=qM_ hy109;clear hy109;by_cases c31:x3_1.length+y109.length < 140737488355328
                   ·rw[if_pos c31]at H
                    have LMc31:=qM_ c31;clear c31
                    obtain⟨y110,hy110⟩:∃ y_:List Int,y_=(x3_1 ++ y109):=⟨_,rfl⟩
                    replace H:(z77_.l0 k2 l0 y110 (wrap64 (x4_1+3)))=some r:=qh_ hy110 H;have Ny110:=qM_ hy110;clear hy110;have H' := qM_ H;clear H
                    try go_wp2
                    replace HO_3:=qM_ (Kd.R_drew HO_3.out);replace HB:=qM_ (qE_ HB.out);have p12:0≤((ji9):Int):=qd_;have q12:(ji9) < (64:Int):=qd_;have hx12:=bt_at z77_.b0 (ji9);replace p12:=eq_true p12;replace q12:=eq_true q12;have p16:0≤((ji13):Int):=qd_;have q16:(ji13) < (64:Int):=qd_;have hx16:=bt_at z77_.b0 (ji13);replace p16:=eq_true p16;replace q16:=eq_true q16;have p20:0≤((ji17):Int):=qd_;have q20:(ji17) < (64:Int):=qd_;have hx20:=bt_at z77_.b0 (ji17);replace p20:=eq_true p20;replace q20:=eq_true q20;have p24:0≤((ji21):Int):=qd_;have q24:(ji21) < (64:Int):=qd_;have hx24:=bt_at z77_.b0 (ji21);replace p24:=eq_true p24;replace q24:=eq_true q24
                    refine start_ (n:=16) (S:=fun w' => True) (ds:=[]) #[qF,qF,qF,qF,qF,qF,qF,qF,qF,qF,qF,qF,qF,qF,qF,qF] qK rfl rfl trivial (fun hHeld=> ?_);refine with_tabW z77_.tab12 z77_.bits12 (fun HT_ HW_=> ?_)
                    generalize wr.drew=w32 at HO_3 HB hHeld ⊢;refine pure_ (i:=0) (N:=some 36) (v:= ?_) (a' := ?_) #[qT,qF,qF,qF,qF,qF,qF,qF,qF,qF,qF,qF,qF,qF,qF,qF] rfl rfl (any_of HT_.out qK) (fun _ _ _ h=>h) (Or.inl ⟨by rfl,?_⟩) ?_ ?_;rotate_left
                    ·intro w'
                     go_simp;with_reducible rfl
                    rotate_left
                    ·simp only[Act.put,qS_,qW_]
                     rfl
                    refine pure_ (i:=1) (N:=some 37) (v:= ?_) (a' := ?_) #[qT,qT,qF,qF,qF,qF,qF,qF,qF,qF,qF,qF,qF,qF,qF,qF] rfl rfl (any_of HT_.out qK) (fun _ _ _ h=>h) (Or.inl ⟨by rfl,?_⟩) ?_ ?_;rotate_left
                    ·intro w'
                     go_simp;with_reducible rfl
                    rotate_left
                    ·simp only[Act.put,qS_,qW_]
                     rfl
                    refine pure_ (i:=3) (N:=some 39) (v:= ?_) (a' := ?_) #[qT,qT,qF,qT,qF,qF,qF,qF,qF,qF,qF,qF,qF,qF,qF,qF] rfl rfl (any_of HT_.out qK) (fun _ _ _ h=>h) (Or.inl ⟨by rfl,?_⟩) ?_ ?_;rotate_left
                    ·intro w'
                     go_simp;with_reducible rfl
                    rotate_left
                    ·simp only[Act.put,qS_,qW_]
                     rfl
                    refine pure_ (i:=4) (N:=some 40) (v:= ?_) (a' := ?_) #[qT,qT,qF,qT,qT,qF,qF,qF,qF,qF,qF,qF,qF,qF,qF,qF] rfl rfl (any_of HT_.out qK) (fun _ _ _ h=>h) (Or.inl ⟨by rfl,?_⟩) ?_ ?_;rotate_left
                    ·intro w'
                     go_simp;with_reducible rfl
                    rotate_left
                    ·simp only[Act.put,qS_,qW_]
                     rfl
                    refine pure_ (i:=5) (N:=some 41) (v:= ?_) (a' := ?_) #[qT,qT,qF,qT,qT,qT,qF,qF,qF,qF,qF,qF,qF,qF,qF,qF] rfl rfl (any_of HT_.out qK) (fun _ _ _ h=>h) (Or.inl ⟨by rfl,?_⟩) ?_ ?_;rotate_left
                    ·intro w'
                     go_simp;with_reducible rfl
                    rotate_left
                    ·simp only[Act.put,qS_,qW_]
                     rfl
                    refine pure_ (i:=7) (N:=some 43) (v:= ?_) (a' := ?_) #[qT,qT,qF,qT,qT,qT,qF,qT,qF,qF,qF,qF,qF,qF,qF,qF] rfl rfl (any_of HT_.out qK) (fun _ _ _ h=>h) (Or.inl ⟨by rfl,?_⟩) ?_ ?_;rotate_left
                    ·intro w'
                     go_simp;with_reducible rfl
                    rotate_left
                    ·simp only[Act.put,qS_,qW_]
                     rfl
                    refine pure_ (i:=8) (N:=some 44) (v:= ?_) (a' := ?_) #[qT,qT,qF,qT,qT,qT,qF,qT,qT,qF,qF,qF,qF,qF,qF,qF] rfl rfl (any_of HT_.out qK) (fun _ _ _ h=>h) (Or.inl ⟨by rfl,?_⟩) ?_ ?_;rotate_left
                    ·intro w'
                     go_simp;with_reducible rfl
                    rotate_left
                    ·simp only[Act.put,qS_,qW_]
                     rfl
                    refine pure_ (i:=9) (N:=some 45) (v:= ?_) (a' := ?_) #[qT,qT,qF,qT,qT,qT,qF,qT,qT,qT,qF,qF,qF,qF,qF,qF] rfl rfl (any_of HT_.out qK) (fun _ _ _ h=>h) (Or.inl ⟨by rfl,?_⟩) ?_ ?_;rotate_left
                    ·intro w'
                     go_simp;with_reducible rfl
                    rotate_left
                    ·simp only[Act.put,qS_,qW_]
                     rfl
                    refine pure_ (i:=11) (N:=some 47) (v:= ?_) (a' := ?_) #[qT,qT,qF,qT,qT,qT,qF,qT,qT,qT,qF,qT,qF,qF,qF,qF] rfl rfl (any_of HT_.out qK) (fun _ _ _ h=>h) (Or.inl ⟨by rfl,?_⟩) ?_ ?_;rotate_left
                    ·intro w'
                     go_simp;with_reducible rfl
                    rotate_left
                    ·simp only[Act.put,qS_,qW_]
                     rfl
                    refine pure_ (i:=12) (N:=some 48) (v:= ?_) (a' := ?_) #[qT,qT,qF,qT,qT,qT,qF,qT,qT,qT,qF,qT,qT,qF,qF,qF] rfl rfl (any_of HT_.out qK) (fun _ _ _ h=>h) (Or.inl ⟨by rfl,?_⟩) ?_ ?_;rotate_left
                    ·intro w'
                     go_simp;with_reducible rfl
                    rotate_left
                    ·simp only[Act.put,qS_,qW_]
                     rfl
                    refine take_ (i:=2) (N:=some 38) (v:= ?_) (a' := ?_) #[qT,qT,qT,qT,qT,qT,qF,qT,qT,qT,qF,qT,qT,qF,qF,qF] rfl rfl (take_ofW HT_.out HW_.out qK) (fun _ _ _ h=>h) (Or.inl ⟨by rfl,?_⟩) hHeld ?_ ?_;rotate_left
                    ·intro w' _
                     go_simp;with_reducible rfl
                    rotate_left
                    ·simp only[Act.put,qS_,qW_]
                     rfl
                    refine take_ (i:=6) (N:=some 42) (v:= ?_) (a' := ?_) #[qT,qT,qT,qT,qT,qT,qT,qT,qT,qT,qF,qT,qT,qF,qF,qF] rfl rfl (take_ofW HT_.out HW_.out qK) (fun _ _ _ h=>h) (Or.inl ⟨by rfl,?_⟩) hHeld ?_ ?_;rotate_left
                    ·intro w' _
                     go_simp;with_reducible rfl
                    rotate_left
                    ·simp only[Act.put,qS_,qW_]
                     rfl
                    refine take_ (i:=10) (N:=some 46) (v:= ?_) (a' := ?_) #[qT,qT,qT,qT,qT,qT,qT,qT,qT,qT,qT,qT,qT,qF,qF,qF] rfl rfl (take_ofW HT_.out HW_.out qK) (fun _ _ _ h=>h) (Or.inl ⟨by rfl,?_⟩) hHeld ?_ ?_;rotate_left
                    ·intro w' _
                     go_simp;with_reducible rfl
                    rotate_left
                    ·simp only[Act.put,qS_,qW_]
                     rfl
                    refine take_ (i:=13) (N:=some 49) (v:= ?_) (a' := ?_) #[qT,qT,qT,qT,qT,qT,qT,qT,qT,qT,qT,qT,qT,qT,qF,qF] rfl rfl (take_ofW HT_.out HW_.out qK) (fun _ _ _ h=>h) (Or.inl ⟨by rfl,?_⟩) hHeld ?_ ?_;rotate_left
                    ·intro w' _
                     go_simp;with_reducible rfl
                    rotate_left
                    ·simp only[Act.put,qS_,qW_]
                     rfl
                    refine one_ (i:=14) (N:=some 50) #[qT,qT,qT,qT,qT,qT,qT,qT,qT,qT,qT,qT,qT,qT,qT,qF] rfl rfl (one_of HT_.out qK) (by decide) (fun K hK=> ?_)
                    refine Kd.R_lit_step (Kd.int .u8) _ 5 ?hg (N:=50) ?hd (xs:=([bt z77_.b0 (ji9),bt z77_.b0 (ji13),bt z77_.b0 (ji17),bt z77_.b0 (ji21)]:List Int)) (inner:=[.int .u8 (bt z77_.b0 (ji9)),.int .u8 (bt z77_.b0 (ji13)),.int .u8 (bt z77_.b0 (ji17)),.int .u8 (bt z77_.b0 (ji21))]) (ok:=fun _=>True) (okp:=fun _=>True) ?hr ?hp (fun _ hk=>hk) trivial (Below.refl _ _) (Nat.le_refl _) (by simp) ?_;(case hd=>rfl);(case hg=>rfl);(case hr=>first|(go_simp;done)|(go_simp;rfl));(case hp=>exact(Reps.one rfl (Reps.one rfl (Reps.one rfl (Reps.one rfl (Reps.none _ _))))))
                    intro v106 w33 ho34 hb hg_ hnew_
                    clear hg_ hnew_
                    (first|rw[← Ny105.out]at ho34|(simp only[Int.reduceToNat]at ho34;rw[← Ny105.out]at ho34))
                    have HO107:=qM_ (Kd.R_lower (Kd.R_new' ho34 (Kd.R_lt (qr_ HO_3))) (below_size qBHB));replace HO_3:=qM_ (Kd.R_elder' (qr_ HO_3) (Kd.R_base ho34) hb);replace HB:=qM_ (below_step qBHB hb);clear hb ho34;refine hK.out _ _ trivial (fun hHeld=> ?_);clear hK K;refine norm_ (a' := ?_) ?_ ?_;rotate_left
                    ·show Act.put _ (some 50) _=_
                     simp only[Act.put,qS_,qW_];rfl
                    refine pure_ (i:=15) (N:=some 7) (v:= ?_) (a' := ?_) #[qT,qT,qT,qT,qT,qT,qT,qT,qT,qT,qT,qT,qT,qT,qT,qT] rfl rfl (any_of HT_.out qK) (fun _ _ _ h=>h) (Or.inl ⟨by rfl,?_⟩) ?_ ?_;rotate_left
                    ·intro w'
                     go_simp;with_reducible rfl
                    rotate_left
                    ·simp only[Act.put,qS_,qW_]
                     rfl
                    refine done_ (done_of HT_.out qK) ?_;have p27:0≤(3:Int):=(by omega);have q27:(3:Int) < ((y105.length:Int):Int):=qd_;have qi27:(3 < y105.length)=True:=eq_true (by omega);obtain⟨go27,co27,eo27,gb27,gl27,cl27,HG27⟩:=Kd.R_form HO107.out (by omega)
                    (first|cases eo27|(injection eo27 with ea_ en_ ec_;(first|subst ea_|(injection ea_ with ea_;subst ea_));subst ec_;clear en_))
                    have GB27:=qM_ gb27;have GG27:=qM_ HG27;clear gb27 gl27 HG27;obtain⟨hx27_0,hf27_0⟩:=Kd.R_celln 0 HO107.out (3:Int) p27 q27
                    (try rw[show((3:Int)).toNat=3 from rfl]at hx27_0)
                    (try simp only[Nat.reduceMul,Nat.zero_mul,Nat.zero_add,Nat.reduceAdd]at hx27_0)
                    (try rw[show((3:Int)).toNat=3 from rfl]at hf27_0)
                    (try simp only[Nat.reduceMul,Nat.zero_mul,Nat.zero_add,Nat.reduceAdd]at hf27_0)
                    replace p27:=eq_true p27;replace q27:=eq_true q27;have n_:=qM_ (Kd.R_mono (ok' := (fun k_=>some k_≠(u3:Value).ownBlock)) HO107.out (fun k_ hk=>hk.2));clear HO107;have HO107:=n_;clear n_;obtain⟨hy35_,hz35_⟩:=Kd.R_celln 0 HO107.out (3:Int) (by omega) (qd_)
                    (try simp only[Int.reduceToNat,Int.toNat_zero,Int.toNat_ofNat,Nat.reduceMul,Nat.zero_mul,Nat.zero_add]at hy35_ hz35_)
                    (try rw[show((3:Int)).toNat=3 from rfl]at hy35_)
                    (try rw[show((3:Int)).toNat=3 from rfl]at hz35_)
                    have HP35:=Kd.R_putg HO107.out (3:Int) 61
                    try go_wp2_with (first|((with_reducible refine gate_store (t:=5) (p:=57) rfl ?_);refine store_event (t:=5) (p:=57) (v:= ?vo_w36) (w1:=(w33.setCell ⟨go27,(3:Int).toNat,none⟩ (.int .u8 61))) ?hg ?ho ?hn ?hr ?_;(case ho=>rfl);(case hg=>rfl);(case hn=>rfl);(case hr=>first|(go_simp;done)|(go_simp;rfl));intro w36 hw;have hg:w33.grownBy w36 (some go27):=(by rw[hw];exact HP35.2);have hp_:Kd.R (Kd.int .u8) 5 w36 w.heap.size (fun k_=>some k_≠(u3:Value).ownBlock) (.slice (some ⟨go27,0,none⟩) y105.length co27) y108:=(by rw[hw,Ny108.out];exact HP35.1);clear HP35;replace HO_3:=qM_ (Kd.R_after (v:=(.slice (some ⟨go27,0,none⟩) y105.length co27)) (v1:=(.slice (some ⟨go27,0,none⟩) y105.length co27)) (ok:=(fun _=>True)) (qr_ HO_3) hg (.inl rfl));replace HO107:=qM_ (hp_);replace HB:=qM_ ((by rw[hw];exact below_set (HB.out) GB27.out:Below w.heap.size w w36));clear hg hw hp_;have p30:0≤(2:Int):=(by omega);have q30:(2:Int) < ((y105.length:Int):Int):=qd_;have qi30:(2 < y105.length)=True:=eq_true (by omega);obtain⟨hx30_0,hf30_0⟩:=Kd.R_celln 0 HO107.out (2:Int) p30 q30;(try rw[show((2:Int)).toNat=2 from rfl]at hx30_0);(try simp only[Nat.reduceMul,Nat.zero_mul,Nat.zero_add,Nat.reduceAdd]at hx30_0);(try rw[show((2:Int)).toNat=2 from rfl]at hf30_0);(try simp only[Nat.reduceMul,Nat.zero_mul,Nat.zero_add,Nat.reduceAdd]at hf30_0);replace p30:=eq_true p30;replace q30:=eq_true q30;obtain⟨hy37_,hz37_⟩:=Kd.R_celln 0 HO107.out (2:Int) (by omega) (qd_);(try simp only[Int.reduceToNat,Int.toNat_zero,Int.toNat_ofNat,Nat.reduceMul,Nat.zero_mul,Nat.zero_add]at hy37_ hz37_);(try rw[show((2:Int)).toNat=2 from rfl]at hy37_);(try rw[show((2:Int)).toNat=2 from rfl]at hz37_);have HP37:=Kd.R_putg HO107.out (2:Int) 61)|((with_reducible refine gate_store (t:=5) (p:=64) rfl ?_);refine store_event (t:=5) (p:=64) (v:= ?vo_w38) (w1:=(w36.setCell ⟨go27,(2:Int).toNat,none⟩ (.int .u8 61))) ?hg ?ho ?hn ?hr ?_;(case ho=>rfl);(case hg=>rfl);(case hn=>rfl);(case hr=>first|(go_simp;done)|(go_simp;rfl));intro w38 hw;have hg:w36.grownBy w38 (some go27):=(by rw[hw];exact HP37.2);have hp_:Kd.R (Kd.int .u8) 5 w38 w.heap.size (fun k_=>some k_≠(u3:Value).ownBlock) (.slice (some ⟨go27,0,none⟩) y105.length co27) y109:=(by rw[hw,Ny109.out];exact HP37.1);clear HP37;replace HO_3:=qM_ (Kd.R_after (v:=(.slice (some ⟨go27,0,none⟩) y105.length co27)) (v1:=(.slice (some ⟨go27,0,none⟩) y105.length co27)) (ok:=(fun _=>True)) (qr_ HO_3) hg (.inl rfl));replace HO107:=qM_ (hp_);replace HB:=qM_ ((by rw[hw];exact below_set (HB.out) GB27.out:Below w.heap.size w w38));clear hg hw hp_)|((with_reducible refine gate_builtin (b:= .append) (xs:=#[.tmp 65,.tmp 66]) rfl ?_);at_builtin;refine Kd.R_append_rows (Kd.int .u8) (w0:=w) w.heap.size rfl (.tmp 65) (.tmp 66) 26 5 (.int .u8 0) 1 rfl Try.underlying26 info5 rfl (by decide) (by omega) u3 x3_1 y109 _ _ _ (fun k_=>some k_≠(.slice (some ⟨go27,0,none⟩) y105.length co27:Value).ownBlock) (fun _=>False) rfl rfl ?aO ?aR (fun _ _ h=>h) (fun _ h=>h.elim) ?aF ?aB ?aS ?aL ?_;(case aR=>rw[show y105.length=y109.length from(Kd.R_reads' HO107.out).1];repeat(first|exact(Kd.R_reads' HO107.out).2.2|(with_reducible refine Kd.C_alloc ?_ _)|(with_reducible refine Kd.C_drewN ?_ _)|(with_reducible refine Kd.C_drew ?_)));(case aB=>exact qBHB);(case aF=>exact(fun k_ hk=>Kd.fresh' (Kd.R_lt (qr_ HO107)) k_ hk));(case aO=>exact(by(with_reducible repeat(first|apply Kd.R_alloc|apply Kd.R_drewN|apply Kd.R_drew));exact Kd.R_mono HO_3.out (fun _ hk=>hk.2)));(case aS=>exact(below_size qBHB));(case aL=>have:=LMc31.out;have hlx_:=(Kd.R_reads' HO107.out).1;omega);intro v111 w39 ho hb hg hat;rw[← Ny110.out]at ho;replace HO107:=qM_ (Kd.R_after (ok:=(fun _=>True)) (by(with_reducible repeat(first|apply Kd.R_alloc|apply Kd.R_drewN|apply Kd.R_drew));exact Kd.R_mono HO107.out (fun _ hk=>⟨trivial,hk⟩)) hg hat);replace HB:=qM_ (hb);have HO112:=qM_ (ho);clear HO_3;clear ho hb hg hat))
                    go_roundg k2
                    case measure=>have:=HK1.out;have:=HK2.out;omega
                    case rel=>exact⟨(y110),(wrap64 (x4_1+3)),qff_,H', ⟨by have:=HK1.out;have:=HK2.out;omega⟩,⟨by(with_reducible repeat(first|apply Kd.R_alloc|apply Kd.R_drewN|apply Kd.R_drew));exact Kd.R_mono HO112.out (fun _ hk=>trivial)⟩,⟨qBHB⟩⟩
                   ·rw[if_neg c31]at H
                    exact absurd H (by simp)
                  ·rw[if_neg c29]at H
                   exact absurd H (by simp)
                 ·rw[if_neg c28]at H
                  have c28b0:decide ((l0.length:Int)≤(wrap64 (x4_1+1)))=false:=decide_eq_false c28;clear c28;by_cases c40:x3_1.length+y108.length < 140737488355328
                  ·rw[if_pos c40]at H
                   have LMc40:=qM_ c40;clear c40
                   obtain⟨y113,hy113⟩:∃ y_:List Int,y_=(x3_1 ++ y108):=⟨_,rfl⟩
                   replace H:(z77_.l0 k2 l0 y113 (wrap64 (x4_1+3)))=some r:=qh_ hy113 H;have Ny113:=qM_ hy113;clear hy113;have H' := qM_ H;clear H
                   try go_wp2
                   replace HO_3:=qM_ (Kd.R_drew HO_3.out);replace HB:=qM_ (qE_ HB.out);have p12:0≤((ji9):Int):=qd_;have q12:(ji9) < (64:Int):=qd_;have hx12:=bt_at z77_.b0 (ji9);replace p12:=eq_true p12;replace q12:=eq_true q12;have p16:0≤((ji13):Int):=qd_;have q16:(ji13) < (64:Int):=qd_;have hx16:=bt_at z77_.b0 (ji13);replace p16:=eq_true p16;replace q16:=eq_true q16;have p20:0≤((ji17):Int):=qd_;have q20:(ji17) < (64:Int):=qd_;have hx20:=bt_at z77_.b0 (ji17);replace p20:=eq_true p20;replace q20:=eq_true q20;have p24:0≤((ji21):Int):=qd_;have q24:(ji21) < (64:Int):=qd_;have hx24:=bt_at z77_.b0 (ji21);replace p24:=eq_true p24;replace q24:=eq_true q24
                   refine start_ (n:=16) (S:=fun w' => True) (ds:=[]) #[qF,qF,qF,qF,qF,qF,qF,qF,qF,qF,qF,qF,qF,qF,qF,qF] qK rfl rfl trivial (fun hHeld=> ?_);refine with_tabW z77_.tab12 z77_.bits12 (fun HT_ HW_=> ?_)
                   generalize wr.drew=w41 at HO_3 HB hHeld ⊢;refine pure_ (i:=0) (N:=some 36) (v:= ?_) (a' := ?_) #[qT,qF,qF,qF,qF,qF,qF,qF,qF,qF,qF,qF,qF,qF,qF,qF] rfl rfl (any_of HT_.out qK) (fun _ _ _ h=>h) (Or.inl ⟨by rfl,?_⟩) ?_ ?_;rotate_left
                   ·intro w'
                    go_simp;with_reducible rfl
                   rotate_left
                   ·simp only[Act.put,qS_,qW_]
                    rfl
                   refine pure_ (i:=1) (N:=some 37) (v:= ?_) (a' := ?_) #[qT,qT,qF,qF,qF,qF,qF,qF,qF,qF,qF,qF,qF,qF,qF,qF] rfl rfl (any_of HT_.out qK) (fun _ _ _ h=>h) (Or.inl ⟨by rfl,?_⟩) ?_ ?_;rotate_left
                   ·intro w'
                    go_simp;with_reducible rfl
                   rotate_left
                   ·simp only[Act.put,qS_,qW_]
                    rfl
                   refine pure_ (i:=3) (N:=some 39) (v:= ?_) (a' := ?_) #[qT,qT,qF,qT,qF,qF,qF,qF,qF,qF,qF,qF,qF,qF,qF,qF] rfl rfl (any_of HT_.out qK) (fun _ _ _ h=>h) (Or.inl ⟨by rfl,?_⟩) ?_ ?_;rotate_left
                   ·intro w'
                    go_simp;with_reducible rfl
                   rotate_left
                   ·simp only[Act.put,qS_,qW_]
                    rfl
                   refine pure_ (i:=4) (N:=some 40) (v:= ?_) (a' := ?_) #[qT,qT,qF,qT,qT,qF,qF,qF,qF,qF,qF,qF,qF,qF,qF,qF] rfl rfl (any_of HT_.out qK) (fun _ _ _ h=>h) (Or.inl ⟨by rfl,?_⟩) ?_ ?_;rotate_left
                   ·intro w'
                    go_simp;with_reducible rfl
                   rotate_left
                   ·simp only[Act.put,qS_,qW_]
                    rfl
                   refine pure_ (i:=5) (N:=some 41) (v:= ?_) (a' := ?_) #[qT,qT,qF,qT,qT,qT,qF,qF,qF,qF,qF,qF,qF,qF,qF,qF] rfl rfl (any_of HT_.out qK) (fun _ _ _ h=>h) (Or.inl ⟨by rfl,?_⟩) ?_ ?_;rotate_left
                   ·intro w'
                    go_simp;with_reducible rfl
                   rotate_left
                   ·simp only[Act.put,qS_,qW_]
                    rfl
                   refine pure_ (i:=7) (N:=some 43) (v:= ?_) (a' := ?_) #[qT,qT,qF,qT,qT,qT,qF,qT,qF,qF,qF,qF,qF,qF,qF,qF] rfl rfl (any_of HT_.out qK) (fun _ _ _ h=>h) (Or.inl ⟨by rfl,?_⟩) ?_ ?_;rotate_left
                   ·intro w'
                    go_simp;with_reducible rfl
                   rotate_left
                   ·simp only[Act.put,qS_,qW_]
                    rfl
                   refine pure_ (i:=8) (N:=some 44) (v:= ?_) (a' := ?_) #[qT,qT,qF,qT,qT,qT,qF,qT,qT,qF,qF,qF,qF,qF,qF,qF] rfl rfl (any_of HT_.out qK) (fun _ _ _ h=>h) (Or.inl ⟨by rfl,?_⟩) ?_ ?_;rotate_left
                   ·intro w'
                    go_simp;with_reducible rfl
                   rotate_left
                   ·simp only[Act.put,qS_,qW_]
                    rfl
                   refine pure_ (i:=9) (N:=some 45) (v:= ?_) (a' := ?_) #[qT,qT,qF,qT,qT,qT,qF,qT,qT,qT,qF,qF,qF,qF,qF,qF] rfl rfl (any_of HT_.out qK) (fun _ _ _ h=>h) (Or.inl ⟨by rfl,?_⟩) ?_ ?_;rotate_left
                   ·intro w'
                    go_simp;with_reducible rfl
                   rotate_left
                   ·simp only[Act.put,qS_,qW_]
                    rfl
                   refine pure_ (i:=11) (N:=some 47) (v:= ?_) (a' := ?_) #[qT,qT,qF,qT,qT,qT,qF,qT,qT,qT,qF,qT,qF,qF,qF,qF] rfl rfl (any_of HT_.out qK) (fun _ _ _ h=>h) (Or.inl ⟨by rfl,?_⟩) ?_ ?_;rotate_left
                   ·intro w'
                    go_simp;with_reducible rfl
                   rotate_left
                   ·simp only[Act.put,qS_,qW_]
                    rfl
                   refine pure_ (i:=12) (N:=some 48) (v:= ?_) (a' := ?_) #[qT,qT,qF,qT,qT,qT,qF,qT,qT,qT,qF,qT,qT,qF,qF,qF] rfl rfl (any_of HT_.out qK) (fun _ _ _ h=>h) (Or.inl ⟨by rfl,?_⟩) ?_ ?_;rotate_left
                   ·intro w'
                    go_simp;with_reducible rfl
                   rotate_left
                   ·simp only[Act.put,qS_,qW_]
                    rfl
                   refine take_ (i:=2) (N:=some 38) (v:= ?_) (a' := ?_) #[qT,qT,qT,qT,qT,qT,qF,qT,qT,qT,qF,qT,qT,qF,qF,qF] rfl rfl (take_ofW HT_.out HW_.out qK) (fun _ _ _ h=>h) (Or.inl ⟨by rfl,?_⟩) hHeld ?_ ?_;rotate_left
                   ·intro w' _
                    go_simp;with_reducible rfl
                   rotate_left
                   ·simp only[Act.put,qS_,qW_]
                    rfl
                   refine take_ (i:=6) (N:=some 42) (v:= ?_) (a' := ?_) #[qT,qT,qT,qT,qT,qT,qT,qT,qT,qT,qF,qT,qT,qF,qF,qF] rfl rfl (take_ofW HT_.out HW_.out qK) (fun _ _ _ h=>h) (Or.inl ⟨by rfl,?_⟩) hHeld ?_ ?_;rotate_left
                   ·intro w' _
                    go_simp;with_reducible rfl
                   rotate_left
                   ·simp only[Act.put,qS_,qW_]
                    rfl
                   refine take_ (i:=10) (N:=some 46) (v:= ?_) (a' := ?_) #[qT,qT,qT,qT,qT,qT,qT,qT,qT,qT,qT,qT,qT,qF,qF,qF] rfl rfl (take_ofW HT_.out HW_.out qK) (fun _ _ _ h=>h) (Or.inl ⟨by rfl,?_⟩) hHeld ?_ ?_;rotate_left
                   ·intro w' _
                    go_simp;with_reducible rfl
                   rotate_left
                   ·simp only[Act.put,qS_,qW_]
                    rfl
                   refine take_ (i:=13) (N:=some 49) (v:= ?_) (a' := ?_) #[qT,qT,qT,qT,qT,qT,qT,qT,qT,qT,qT,qT,qT,qT,qF,qF] rfl rfl (take_ofW HT_.out HW_.out qK) (fun _ _ _ h=>h) (Or.inl ⟨by rfl,?_⟩) hHeld ?_ ?_;rotate_left
                   ·intro w' _
                    go_simp;with_reducible rfl
                   rotate_left
                   ·simp only[Act.put,qS_,qW_]
                    rfl
                   refine one_ (i:=14) (N:=some 50) #[qT,qT,qT,qT,qT,qT,qT,qT,qT,qT,qT,qT,qT,qT,qT,qF] rfl rfl (one_of HT_.out qK) (by decide) (fun K hK=> ?_)
                   refine Kd.R_lit_step (Kd.int .u8) _ 5 ?hg (N:=50) ?hd (xs:=([bt z77_.b0 (ji9),bt z77_.b0 (ji13),bt z77_.b0 (ji17),bt z77_.b0 (ji21)]:List Int)) (inner:=[.int .u8 (bt z77_.b0 (ji9)),.int .u8 (bt z77_.b0 (ji13)),.int .u8 (bt z77_.b0 (ji17)),.int .u8 (bt z77_.b0 (ji21))]) (ok:=fun _=>True) (okp:=fun _=>True) ?hr ?hp (fun _ hk=>hk) trivial (Below.refl _ _) (Nat.le_refl _) (by simp) ?_;(case hd=>rfl);(case hg=>rfl);(case hr=>first|(go_simp;done)|(go_simp;rfl));(case hp=>exact(Reps.one rfl (Reps.one rfl (Reps.one rfl (Reps.one rfl (Reps.none _ _))))))
                   intro v106 w42 ho43 hb hg_ hnew_
                   clear hg_ hnew_
                   (first|rw[← Ny105.out]at ho43|(simp only[Int.reduceToNat]at ho43;rw[← Ny105.out]at ho43))
                   have HO107:=qM_ (Kd.R_lower (Kd.R_new' ho43 (Kd.R_lt (qr_ HO_3))) (below_size qBHB));replace HO_3:=qM_ (Kd.R_elder' (qr_ HO_3) (Kd.R_base ho43) hb);replace HB:=qM_ (below_step qBHB hb);clear hb ho43;refine hK.out _ _ trivial (fun hHeld=> ?_);clear hK K;refine norm_ (a' := ?_) ?_ ?_;rotate_left
                   ·show Act.put _ (some 50) _=_
                    simp only[Act.put,qS_,qW_];rfl
                   refine pure_ (i:=15) (N:=some 7) (v:= ?_) (a' := ?_) #[qT,qT,qT,qT,qT,qT,qT,qT,qT,qT,qT,qT,qT,qT,qT,qT] rfl rfl (any_of HT_.out qK) (fun _ _ _ h=>h) (Or.inl ⟨by rfl,?_⟩) ?_ ?_;rotate_left
                   ·intro w'
                    go_simp;with_reducible rfl
                   rotate_left
                   ·simp only[Act.put,qS_,qW_]
                    rfl
                   refine done_ (done_of HT_.out qK) ?_;have p27:0≤(3:Int):=(by omega);have q27:(3:Int) < ((y105.length:Int):Int):=qd_;have qi27:(3 < y105.length)=True:=eq_true (by omega);obtain⟨go27,co27,eo27,gb27,gl27,cl27,HG27⟩:=Kd.R_form HO107.out (by omega)
                   (first|cases eo27|(injection eo27 with ea_ en_ ec_;(first|subst ea_|(injection ea_ with ea_;subst ea_));subst ec_;clear en_))
                   have GB27:=qM_ gb27;have GG27:=qM_ HG27;clear gb27 gl27 HG27;obtain⟨hx27_0,hf27_0⟩:=Kd.R_celln 0 HO107.out (3:Int) p27 q27
                   (try rw[show((3:Int)).toNat=3 from rfl]at hx27_0)
                   (try simp only[Nat.reduceMul,Nat.zero_mul,Nat.zero_add,Nat.reduceAdd]at hx27_0)
                   (try rw[show((3:Int)).toNat=3 from rfl]at hf27_0)
                   (try simp only[Nat.reduceMul,Nat.zero_mul,Nat.zero_add,Nat.reduceAdd]at hf27_0)
                   replace p27:=eq_true p27;replace q27:=eq_true q27;have n_:=qM_ (Kd.R_mono (ok' := (fun k_=>some k_≠(u3:Value).ownBlock)) HO107.out (fun k_ hk=>hk.2));clear HO107;have HO107:=n_;clear n_;obtain⟨hy44_,hz44_⟩:=Kd.R_celln 0 HO107.out (3:Int) (by omega) (qd_)
                   (try simp only[Int.reduceToNat,Int.toNat_zero,Int.toNat_ofNat,Nat.reduceMul,Nat.zero_mul,Nat.zero_add]at hy44_ hz44_)
                   (try rw[show((3:Int)).toNat=3 from rfl]at hy44_)
                   (try rw[show((3:Int)).toNat=3 from rfl]at hz44_)
                   have HP44:=Kd.R_putg HO107.out (3:Int) 61
                   try go_wp2_with (first|((with_reducible refine gate_store (t:=5) (p:=57) rfl ?_);refine store_event (t:=5) (p:=57) (v:= ?vo_w45) (w1:=(w42.setCell ⟨go27,(3:Int).toNat,none⟩ (.int .u8 61))) ?hg ?ho ?hn ?hr ?_;(case ho=>rfl);(case hg=>rfl);(case hn=>rfl);(case hr=>first|(go_simp;done)|(go_simp;rfl));intro w45 hw;have hg:w42.grownBy w45 (some go27):=(by rw[hw];exact HP44.2);have hp_:Kd.R (Kd.int .u8) 5 w45 w.heap.size (fun k_=>some k_≠(u3:Value).ownBlock) (.slice (some ⟨go27,0,none⟩) y105.length co27) y108:=(by rw[hw,Ny108.out];exact HP44.1);clear HP44;replace HO_3:=qM_ (Kd.R_after (v:=(.slice (some ⟨go27,0,none⟩) y105.length co27)) (v1:=(.slice (some ⟨go27,0,none⟩) y105.length co27)) (ok:=(fun _=>True)) (qr_ HO_3) hg (.inl rfl));replace HO107:=qM_ (hp_);replace HB:=qM_ ((by rw[hw];exact below_set (HB.out) GB27.out:Below w.heap.size w w45));clear hg hw hp_)|((with_reducible refine gate_builtin (b:= .append) (xs:=#[.tmp 65,.tmp 66]) rfl ?_);at_builtin;refine Kd.R_append_rows (Kd.int .u8) (w0:=w) w.heap.size rfl (.tmp 65) (.tmp 66) 26 5 (.int .u8 0) 1 rfl Try.underlying26 info5 rfl (by decide) (by omega) u3 x3_1 y108 _ _ _ (fun k_=>some k_≠(.slice (some ⟨go27,0,none⟩) y105.length co27:Value).ownBlock) (fun _=>False) rfl rfl ?aO ?aR (fun _ _ h=>h) (fun _ h=>h.elim) ?aF ?aB ?aS ?aL ?_;(case aR=>rw[show y105.length=y108.length from(Kd.R_reads' HO107.out).1];repeat(first|exact(Kd.R_reads' HO107.out).2.2|(with_reducible refine Kd.C_alloc ?_ _)|(with_reducible refine Kd.C_drewN ?_ _)|(with_reducible refine Kd.C_drew ?_)));(case aB=>exact qBHB);(case aF=>exact(fun k_ hk=>Kd.fresh' (Kd.R_lt (qr_ HO107)) k_ hk));(case aO=>exact(by(with_reducible repeat(first|apply Kd.R_alloc|apply Kd.R_drewN|apply Kd.R_drew));exact Kd.R_mono HO_3.out (fun _ hk=>hk.2)));(case aS=>exact(below_size qBHB));(case aL=>have:=LMc40.out;have hlx_:=(Kd.R_reads' HO107.out).1;omega);intro v114 w46 ho hb hg hat;rw[← Ny113.out]at ho;replace HO107:=qM_ (Kd.R_after (ok:=(fun _=>True)) (by(with_reducible repeat(first|apply Kd.R_alloc|apply Kd.R_drewN|apply Kd.R_drew));exact Kd.R_mono HO107.out (fun _ hk=>⟨trivial,hk⟩)) hg hat);replace HB:=qM_ (hb);have HO115:=qM_ (ho);clear HO_3;clear ho hb hg hat))
                   go_roundg k2
                   case measure=>have:=HK1.out;have:=HK2.out;omega
                   case rel=>exact⟨(y113),(wrap64 (x4_1+3)),qff_,H', ⟨by have:=HK1.out;have:=HK2.out;omega⟩,⟨by(with_reducible repeat(first|apply Kd.R_alloc|apply Kd.R_drewN|apply Kd.R_drew));exact Kd.R_mono HO115.out (fun _ hk=>trivial)⟩,⟨qBHB⟩⟩
                  ·rw[if_neg c40]at H
                   exact absurd H (by simp)
                ·rw[if_neg c26]at H
                 exact absurd H (by simp)
               ·rw[if_neg c25]at H
                have c25b0:decide ((l0.length:Int)≤(wrap64 (x4_1+2)))=false:=decide_eq_false c25;clear c25;by_cases c47:(wrap64 (x4_1+1))≥(l0.length:Int)
                ·rw[if_pos c47]at H
                 have c47b0:decide ((l0.length:Int)≤(wrap64 (x4_1+1)))=true:=decide_eq_true c47;clear c47;by_cases c48:2 < (y105.length:Int)
                 ·rw[if_pos c48]at H
                  have c48b0:decide (2 < (y105.length:Int))=true:=decide_eq_true c48;have c48b1:decide (2 < y105.length)=true:=decide_eq_true (by omega);clear c48
                  obtain⟨y116,hy116⟩:∃ y_:List Int,y_=(y105.set (2:Int).toNat 61):=⟨_,rfl⟩
                  replace H:(if x3_1.length+y116.length < 140737488355328 then(z77_.l0 k2 l0 (x3_1 ++ y116) (wrap64 (x4_1+3)))else(none))=some r:=qh_ hy116 H;have Ny116:=qM_ hy116;clear hy116;by_cases c50:x3_1.length+y116.length < 140737488355328
                  ·rw[if_pos c50]at H
                   have LMc50:=qM_ c50;clear c50
                   obtain⟨y117,hy117⟩:∃ y_:List Int,y_=(x3_1 ++ y116):=⟨_,rfl⟩
                   replace H:(z77_.l0 k2 l0 y117 (wrap64 (x4_1+3)))=some r:=qh_ hy117 H;have Ny117:=qM_ hy117;clear hy117;have H' := qM_ H;clear H
                   try go_wp2
                   replace HO_3:=qM_ (Kd.R_drew HO_3.out);replace HB:=qM_ (qE_ HB.out);have p12:0≤((ji9):Int):=qd_;have q12:(ji9) < (64:Int):=qd_;have hx12:=bt_at z77_.b0 (ji9);replace p12:=eq_true p12;replace q12:=eq_true q12;have p16:0≤((ji13):Int):=qd_;have q16:(ji13) < (64:Int):=qd_;have hx16:=bt_at z77_.b0 (ji13);replace p16:=eq_true p16;replace q16:=eq_true q16;have p20:0≤((ji17):Int):=qd_;have q20:(ji17) < (64:Int):=qd_;have hx20:=bt_at z77_.b0 (ji17);replace p20:=eq_true p20;replace q20:=eq_true q20;have p24:0≤((ji21):Int):=qd_;have q24:(ji21) < (64:Int):=qd_;have hx24:=bt_at z77_.b0 (ji21);replace p24:=eq_true p24;replace q24:=eq_true q24
                   refine start_ (n:=16) (S:=fun w' => True) (ds:=[]) #[qF,qF,qF,qF,qF,qF,qF,qF,qF,qF,qF,qF,qF,qF,qF,qF] qK rfl rfl trivial (fun hHeld=> ?_);refine with_tabW z77_.tab12 z77_.bits12 (fun HT_ HW_=> ?_)
                   generalize wr.drew=w51 at HO_3 HB hHeld ⊢;refine pure_ (i:=0) (N:=some 36) (v:= ?_) (a' := ?_) #[qT,qF,qF,qF,qF,qF,qF,qF,qF,qF,qF,qF,qF,qF,qF,qF] rfl rfl (any_of HT_.out qK) (fun _ _ _ h=>h) (Or.inl ⟨by rfl,?_⟩) ?_ ?_;rotate_left
                   ·intro w'
                    go_simp;with_reducible rfl
                   rotate_left
                   ·simp only[Act.put,qS_,qW_]
                    rfl
                   refine pure_ (i:=1) (N:=some 37) (v:= ?_) (a' := ?_) #[qT,qT,qF,qF,qF,qF,qF,qF,qF,qF,qF,qF,qF,qF,qF,qF] rfl rfl (any_of HT_.out qK) (fun _ _ _ h=>h) (Or.inl ⟨by rfl,?_⟩) ?_ ?_;rotate_left
                   ·intro w'
                    go_simp;with_reducible rfl
                   rotate_left
                   ·simp only[Act.put,qS_,qW_]
                    rfl
                   refine pure_ (i:=3) (N:=some 39) (v:= ?_) (a' := ?_) #[qT,qT,qF,qT,qF,qF,qF,qF,qF,qF,qF,qF,qF,qF,qF,qF] rfl rfl (any_of HT_.out qK) (fun _ _ _ h=>h) (Or.inl ⟨by rfl,?_⟩) ?_ ?_;rotate_left
                   ·intro w'
                    go_simp;with_reducible rfl
                   rotate_left
                   ·simp only[Act.put,qS_,qW_]
                    rfl
                   refine pure_ (i:=4) (N:=some 40) (v:= ?_) (a' := ?_) #[qT,qT,qF,qT,qT,qF,qF,qF,qF,qF,qF,qF,qF,qF,qF,qF] rfl rfl (any_of HT_.out qK) (fun _ _ _ h=>h) (Or.inl ⟨by rfl,?_⟩) ?_ ?_;rotate_left
                   ·intro w'
                    go_simp;with_reducible rfl
                   rotate_left
                   ·simp only[Act.put,qS_,qW_]
                    rfl
                   refine pure_ (i:=5) (N:=some 41) (v:= ?_) (a' := ?_) #[qT,qT,qF,qT,qT,qT,qF,qF,qF,qF,qF,qF,qF,qF,qF,qF] rfl rfl (any_of HT_.out qK) (fun _ _ _ h=>h) (Or.inl ⟨by rfl,?_⟩) ?_ ?_;rotate_left
                   ·intro w'
                    go_simp;with_reducible rfl
                   rotate_left
                   ·simp only[Act.put,qS_,qW_]
                    rfl
                   refine pure_ (i:=7) (N:=some 43) (v:= ?_) (a' := ?_) #[qT,qT,qF,qT,qT,qT,qF,qT,qF,qF,qF,qF,qF,qF,qF,qF] rfl rfl (any_of HT_.out qK) (fun _ _ _ h=>h) (Or.inl ⟨by rfl,?_⟩) ?_ ?_;rotate_left
                   ·intro w'
                    go_simp;with_reducible rfl
                   rotate_left
                   ·simp only[Act.put,qS_,qW_]
                    rfl
                   refine pure_ (i:=8) (N:=some 44) (v:= ?_) (a' := ?_) #[qT,qT,qF,qT,qT,qT,qF,qT,qT,qF,qF,qF,qF,qF,qF,qF] rfl rfl (any_of HT_.out qK) (fun _ _ _ h=>h) (Or.inl ⟨by rfl,?_⟩) ?_ ?_;rotate_left
                   ·intro w'
                    go_simp;with_reducible rfl
                   rotate_left
                   ·simp only[Act.put,qS_,qW_]
                    rfl
                   refine pure_ (i:=9) (N:=some 45) (v:= ?_) (a' := ?_) #[qT,qT,qF,qT,qT,qT,qF,qT,qT,qT,qF,qF,qF,qF,qF,qF] rfl rfl (any_of HT_.out qK) (fun _ _ _ h=>h) (Or.inl ⟨by rfl,?_⟩) ?_ ?_;rotate_left
                   ·intro w'
                    go_simp;with_reducible rfl
                   rotate_left
                   ·simp only[Act.put,qS_,qW_]
                    rfl
                   refine pure_ (i:=11) (N:=some 47) (v:= ?_) (a' := ?_) #[qT,qT,qF,qT,qT,qT,qF,qT,qT,qT,qF,qT,qF,qF,qF,qF] rfl rfl (any_of HT_.out qK) (fun _ _ _ h=>h) (Or.inl ⟨by rfl,?_⟩) ?_ ?_;rotate_left
                   ·intro w'
                    go_simp;with_reducible rfl
                   rotate_left
                   ·simp only[Act.put,qS_,qW_]
                    rfl
                   refine pure_ (i:=12) (N:=some 48) (v:= ?_) (a' := ?_) #[qT,qT,qF,qT,qT,qT,qF,qT,qT,qT,qF,qT,qT,qF,qF,qF] rfl rfl (any_of HT_.out qK) (fun _ _ _ h=>h) (Or.inl ⟨by rfl,?_⟩) ?_ ?_;rotate_left
                   ·intro w'
                    go_simp;with_reducible rfl
                   rotate_left
                   ·simp only[Act.put,qS_,qW_]
                    rfl
                   refine take_ (i:=2) (N:=some 38) (v:= ?_) (a' := ?_) #[qT,qT,qT,qT,qT,qT,qF,qT,qT,qT,qF,qT,qT,qF,qF,qF] rfl rfl (take_ofW HT_.out HW_.out qK) (fun _ _ _ h=>h) (Or.inl ⟨by rfl,?_⟩) hHeld ?_ ?_;rotate_left
                   ·intro w' _
                    go_simp;with_reducible rfl
                   rotate_left
                   ·simp only[Act.put,qS_,qW_]
                    rfl
                   refine take_ (i:=6) (N:=some 42) (v:= ?_) (a' := ?_) #[qT,qT,qT,qT,qT,qT,qT,qT,qT,qT,qF,qT,qT,qF,qF,qF] rfl rfl (take_ofW HT_.out HW_.out qK) (fun _ _ _ h=>h) (Or.inl ⟨by rfl,?_⟩) hHeld ?_ ?_;rotate_left
                   ·intro w' _
                    go_simp;with_reducible rfl
                   rotate_left
                   ·simp only[Act.put,qS_,qW_]
                    rfl
                   refine take_ (i:=10) (N:=some 46) (v:= ?_) (a' := ?_) #[qT,qT,qT,qT,qT,qT,qT,qT,qT,qT,qT,qT,qT,qF,qF,qF] rfl rfl (take_ofW HT_.out HW_.out qK) (fun _ _ _ h=>h) (Or.inl ⟨by rfl,?_⟩) hHeld ?_ ?_;rotate_left
                   ·intro w' _
                    go_simp;with_reducible rfl
                   rotate_left
                   ·simp only[Act.put,qS_,qW_]
                    rfl
                   refine take_ (i:=13) (N:=some 49) (v:= ?_) (a' := ?_) #[qT,qT,qT,qT,qT,qT,qT,qT,qT,qT,qT,qT,qT,qT,qF,qF] rfl rfl (take_ofW HT_.out HW_.out qK) (fun _ _ _ h=>h) (Or.inl ⟨by rfl,?_⟩) hHeld ?_ ?_;rotate_left
                   ·intro w' _
                    go_simp;with_reducible rfl
                   rotate_left
                   ·simp only[Act.put,qS_,qW_]
                    rfl
                   refine one_ (i:=14) (N:=some 50) #[qT,qT,qT,qT,qT,qT,qT,qT,qT,qT,qT,qT,qT,qT,qT,qF] rfl rfl (one_of HT_.out qK) (by decide) (fun K hK=> ?_)
                   refine Kd.R_lit_step (Kd.int .u8) _ 5 ?hg (N:=50) ?hd (xs:=([bt z77_.b0 (ji9),bt z77_.b0 (ji13),bt z77_.b0 (ji17),bt z77_.b0 (ji21)]:List Int)) (inner:=[.int .u8 (bt z77_.b0 (ji9)),.int .u8 (bt z77_.b0 (ji13)),.int .u8 (bt z77_.b0 (ji17)),.int .u8 (bt z77_.b0 (ji21))]) (ok:=fun _=>True) (okp:=fun _=>True) ?hr ?hp (fun _ hk=>hk) trivial (Below.refl _ _) (Nat.le_refl _) (by simp) ?_;(case hd=>rfl);(case hg=>rfl);(case hr=>first|(go_simp;done)|(go_simp;rfl));(case hp=>exact(Reps.one rfl (Reps.one rfl (Reps.one rfl (Reps.one rfl (Reps.none _ _))))))
                   intro v106 w52 ho53 hb hg_ hnew_
                   clear hg_ hnew_
                   (first|rw[← Ny105.out]at ho53|(simp only[Int.reduceToNat]at ho53;rw[← Ny105.out]at ho53))
                   have HO107:=qM_ (Kd.R_lower (Kd.R_new' ho53 (Kd.R_lt (qr_ HO_3))) (below_size qBHB));replace HO_3:=qM_ (Kd.R_elder' (qr_ HO_3) (Kd.R_base ho53) hb);replace HB:=qM_ (below_step qBHB hb);clear hb ho53;refine hK.out _ _ trivial (fun hHeld=> ?_);clear hK K;refine norm_ (a' := ?_) ?_ ?_;rotate_left
                   ·show Act.put _ (some 50) _=_
                    simp only[Act.put,qS_,qW_];rfl
                   refine pure_ (i:=15) (N:=some 7) (v:= ?_) (a' := ?_) #[qT,qT,qT,qT,qT,qT,qT,qT,qT,qT,qT,qT,qT,qT,qT,qT] rfl rfl (any_of HT_.out qK) (fun _ _ _ h=>h) (Or.inl ⟨by rfl,?_⟩) ?_ ?_;rotate_left
                   ·intro w'
                    go_simp;with_reducible rfl
                   rotate_left
                   ·simp only[Act.put,qS_,qW_]
                    rfl
                   refine done_ (done_of HT_.out qK) ?_;have p49:0≤(2:Int):=(by omega);have q49:(2:Int) < ((y105.length:Int):Int):=qd_;have qi49:(2 < y105.length)=True:=eq_true (by omega);obtain⟨go49,co49,eo49,gb49,gl49,cl49,HG49⟩:=Kd.R_form HO107.out (by omega)
                   (first|cases eo49|(injection eo49 with ea_ en_ ec_;(first|subst ea_|(injection ea_ with ea_;subst ea_));subst ec_;clear en_))
                   have GB49:=qM_ gb49;have GG49:=qM_ HG49;clear gb49 gl49 HG49;obtain⟨hx49_0,hf49_0⟩:=Kd.R_celln 0 HO107.out (2:Int) p49 q49
                   (try rw[show((2:Int)).toNat=2 from rfl]at hx49_0)
                   (try simp only[Nat.reduceMul,Nat.zero_mul,Nat.zero_add,Nat.reduceAdd]at hx49_0)
                   (try rw[show((2:Int)).toNat=2 from rfl]at hf49_0)
                   (try simp only[Nat.reduceMul,Nat.zero_mul,Nat.zero_add,Nat.reduceAdd]at hf49_0)
                   replace p49:=eq_true p49;replace q49:=eq_true q49;have n_:=qM_ (Kd.R_mono (ok' := (fun k_=>some k_≠(u3:Value).ownBlock)) HO107.out (fun k_ hk=>hk.2));clear HO107;have HO107:=n_;clear n_;obtain⟨hy54_,hz54_⟩:=Kd.R_celln 0 HO107.out (2:Int) (by omega) (qd_)
                   (try simp only[Int.reduceToNat,Int.toNat_zero,Int.toNat_ofNat,Nat.reduceMul,Nat.zero_mul,Nat.zero_add]at hy54_ hz54_)
                   (try rw[show((2:Int)).toNat=2 from rfl]at hy54_)
                   (try rw[show((2:Int)).toNat=2 from rfl]at hz54_)
                   have HP54:=Kd.R_putg HO107.out (2:Int) 61
                   try go_wp2_with (first|((with_reducible refine gate_store (t:=5) (p:=64) rfl ?_);refine store_event (t:=5) (p:=64) (v:= ?vo_w55) (w1:=(w52.setCell ⟨go49,(2:Int).toNat,none⟩ (.int .u8 61))) ?hg ?ho ?hn ?hr ?_;(case ho=>rfl);(case hg=>rfl);(case hn=>rfl);(case hr=>first|(go_simp;done)|(go_simp;rfl));intro w55 hw;have hg:w52.grownBy w55 (some go49):=(by rw[hw];exact HP54.2);have hp_:Kd.R (Kd.int .u8) 5 w55 w.heap.size (fun k_=>some k_≠(u3:Value).ownBlock) (.slice (some ⟨go49,0,none⟩) y105.length co49) y116:=(by rw[hw,Ny116.out];exact HP54.1);clear HP54;replace HO_3:=qM_ (Kd.R_after (v:=(.slice (some ⟨go49,0,none⟩) y105.length co49)) (v1:=(.slice (some ⟨go49,0,none⟩) y105.length co49)) (ok:=(fun _=>True)) (qr_ HO_3) hg (.inl rfl));replace HO107:=qM_ (hp_);replace HB:=qM_ ((by rw[hw];exact below_set (HB.out) GB49.out:Below w.heap.size w w55));clear hg hw hp_)|((with_reducible refine gate_builtin (b:= .append) (xs:=#[.tmp 65,.tmp 66]) rfl ?_);at_builtin;refine Kd.R_append_rows (Kd.int .u8) (w0:=w) w.heap.size rfl (.tmp 65) (.tmp 66) 26 5 (.int .u8 0) 1 rfl Try.underlying26 info5 rfl (by decide) (by omega) u3 x3_1 y116 _ _ _ (fun k_=>some k_≠(.slice (some ⟨go49,0,none⟩) y105.length co49:Value).ownBlock) (fun _=>False) rfl rfl ?aO ?aR (fun _ _ h=>h) (fun _ h=>h.elim) ?aF ?aB ?aS ?aL ?_;(case aR=>rw[show y105.length=y116.length from(Kd.R_reads' HO107.out).1];repeat(first|exact(Kd.R_reads' HO107.out).2.2|(with_reducible refine Kd.C_alloc ?_ _)|(with_reducible refine Kd.C_drewN ?_ _)|(with_reducible refine Kd.C_drew ?_)));(case aB=>exact qBHB);(case aF=>exact(fun k_ hk=>Kd.fresh' (Kd.R_lt (qr_ HO107)) k_ hk));(case aO=>exact(by(with_reducible repeat(first|apply Kd.R_alloc|apply Kd.R_drewN|apply Kd.R_drew));exact Kd.R_mono HO_3.out (fun _ hk=>hk.2)));(case aS=>exact(below_size qBHB));(case aL=>have:=LMc50.out;have hlx_:=(Kd.R_reads' HO107.out).1;omega);intro v118 w56 ho hb hg hat;rw[← Ny117.out]at ho;replace HO107:=qM_ (Kd.R_after (ok:=(fun _=>True)) (by(with_reducible repeat(first|apply Kd.R_alloc|apply Kd.R_drewN|apply Kd.R_drew));exact Kd.R_mono HO107.out (fun _ hk=>⟨trivial,hk⟩)) hg hat);replace HB:=qM_ (hb);have HO119:=qM_ (ho);clear HO_3;clear ho hb hg hat))
                   go_roundg k2
                   case measure=>have:=HK1.out;have:=HK2.out;omega
                   case rel=>exact⟨(y117),(wrap64 (x4_1+3)),qff_,H', ⟨by have:=HK1.out;have:=HK2.out;omega⟩,⟨by(with_reducible repeat(first|apply Kd.R_alloc|apply Kd.R_drewN|apply Kd.R_drew));exact Kd.R_mono HO119.out (fun _ hk=>trivial)⟩,⟨qBHB⟩⟩
                  ·rw[if_neg c50]at H
                   exact absurd H (by simp)
                 ·rw[if_neg c48]at H
                  exact absurd H (by simp)
                ·rw[if_neg c47]at H
                 have c47b0:decide ((l0.length:Int)≤(wrap64 (x4_1+1)))=false:=decide_eq_false c47;clear c47;by_cases c57:x3_1.length+y105.length < 140737488355328
                 ·rw[if_pos c57]at H
                  have LMc57:=qM_ c57;clear c57
                  obtain⟨y120,hy120⟩:∃ y_:List Int,y_=(x3_1 ++ y105):=⟨_,rfl⟩
                  replace H:(z77_.l0 k2 l0 y120 (wrap64 (x4_1+3)))=some r:=qh_ hy120 H;have Ny120:=qM_ hy120;clear hy120;have H' := qM_ H;clear H
                  try go_wp2
                  replace HO_3:=qM_ (Kd.R_drew HO_3.out);replace HB:=qM_ (qE_ HB.out);have p12:0≤((ji9):Int):=qd_;have q12:(ji9) < (64:Int):=qd_;have hx12:=bt_at z77_.b0 (ji9);replace p12:=eq_true p12;replace q12:=eq_true q12;have p16:0≤((ji13):Int):=qd_;have q16:(ji13) < (64:Int):=qd_;have hx16:=bt_at z77_.b0 (ji13);replace p16:=eq_true p16;replace q16:=eq_true q16;have p20:0≤((ji17):Int):=qd_;have q20:(ji17) < (64:Int):=qd_;have hx20:=bt_at z77_.b0 (ji17);replace p20:=eq_true p20;replace q20:=eq_true q20;have p24:0≤((ji21):Int):=qd_;have q24:(ji21) < (64:Int):=qd_;have hx24:=bt_at z77_.b0 (ji21);replace p24:=eq_true p24;replace q24:=eq_true q24
                  refine start_ (n:=16) (S:=fun w' => True) (ds:=[]) #[qF,qF,qF,qF,qF,qF,qF,qF,qF,qF,qF,qF,qF,qF,qF,qF] qK rfl rfl trivial (fun hHeld=> ?_);refine with_tabW z77_.tab12 z77_.bits12 (fun HT_ HW_=> ?_)
                  generalize wr.drew=w58 at HO_3 HB hHeld ⊢;refine pure_ (i:=0) (N:=some 36) (v:= ?_) (a' := ?_) #[qT,qF,qF,qF,qF,qF,qF,qF,qF,qF,qF,qF,qF,qF,qF,qF] rfl rfl (any_of HT_.out qK) (fun _ _ _ h=>h) (Or.inl ⟨by rfl,?_⟩) ?_ ?_;rotate_left
                  ·intro w'
                   go_simp;with_reducible rfl
                  rotate_left
                  ·simp only[Act.put,qS_,qW_]
                   rfl
                  refine pure_ (i:=1) (N:=some 37) (v:= ?_) (a' := ?_) #[qT,qT,qF,qF,qF,qF,qF,qF,qF,qF,qF,qF,qF,qF,qF,qF] rfl rfl (any_of HT_.out qK) (fun _ _ _ h=>h) (Or.inl ⟨by rfl,?_⟩) ?_ ?_;rotate_left
                  ·intro w'
                   go_simp;with_reducible rfl
                  rotate_left
                  ·simp only[Act.put,qS_,qW_]
                   rfl
                  refine pure_ (i:=3) (N:=some 39) (v:= ?_) (a' := ?_) #[qT,qT,qF,qT,qF,qF,qF,qF,qF,qF,qF,qF,qF,qF,qF,qF] rfl rfl (any_of HT_.out qK) (fun _ _ _ h=>h) (Or.inl ⟨by rfl,?_⟩) ?_ ?_;rotate_left
                  ·intro w'
                   go_simp;with_reducible rfl
                  rotate_left
                  ·simp only[Act.put,qS_,qW_]
                   rfl
                  refine pure_ (i:=4) (N:=some 40) (v:= ?_) (a' := ?_) #[qT,qT,qF,qT,qT,qF,qF,qF,qF,qF,qF,qF,qF,qF,qF,qF] rfl rfl (any_of HT_.out qK) (fun _ _ _ h=>h) (Or.inl ⟨by rfl,?_⟩) ?_ ?_;rotate_left
                  ·intro w'
                   go_simp;with_reducible rfl
                  rotate_left
                  ·simp only[Act.put,qS_,qW_]
                   rfl
                  refine pure_ (i:=5) (N:=some 41) (v:= ?_) (a' := ?_) #[qT,qT,qF,qT,qT,qT,qF,qF,qF,qF,qF,qF,qF,qF,qF,qF] rfl rfl (any_of HT_.out qK) (fun _ _ _ h=>h) (Or.inl ⟨by rfl,?_⟩) ?_ ?_;rotate_left
                  ·intro w'
                   go_simp;with_reducible rfl
                  rotate_left
                  ·simp only[Act.put,qS_,qW_]
                   rfl
                  refine pure_ (i:=7) (N:=some 43) (v:= ?_) (a' := ?_) #[qT,qT,qF,qT,qT,qT,qF,qT,qF,qF,qF,qF,qF,qF,qF,qF] rfl rfl (any_of HT_.out qK) (fun _ _ _ h=>h) (Or.inl ⟨by rfl,?_⟩) ?_ ?_;rotate_left
                  ·intro w'
                   go_simp;with_reducible rfl
                  rotate_left
                  ·simp only[Act.put,qS_,qW_]
                   rfl
                  refine pure_ (i:=8) (N:=some 44) (v:= ?_) (a' := ?_) #[qT,qT,qF,qT,qT,qT,qF,qT,qT,qF,qF,qF,qF,qF,qF,qF] rfl rfl (any_of HT_.out qK) (fun _ _ _ h=>h) (Or.inl ⟨by rfl,?_⟩) ?_ ?_;rotate_left
                  ·intro w'
                   go_simp;with_reducible rfl
                  rotate_left
                  ·simp only[Act.put,qS_,qW_]
                   rfl
                  refine pure_ (i:=9) (N:=some 45) (v:= ?_) (a' := ?_) #[qT,qT,qF,qT,qT,qT,qF,qT,qT,qT,qF,qF,qF,qF,qF,qF] rfl rfl (any_of HT_.out qK) (fun _ _ _ h=>h) (Or.inl ⟨by rfl,?_⟩) ?_ ?_;rotate_left
                  ·intro w'
                   go_simp;with_reducible rfl
                  rotate_left
                  ·simp only[Act.put,qS_,qW_]
                   rfl
                  refine pure_ (i:=11) (N:=some 47) (v:= ?_) (a' := ?_) #[qT,qT,qF,qT,qT,qT,qF,qT,qT,qT,qF,qT,qF,qF,qF,qF] rfl rfl (any_of HT_.out qK) (fun _ _ _ h=>h) (Or.inl ⟨by rfl,?_⟩) ?_ ?_;rotate_left
                  ·intro w'
                   go_simp;with_reducible rfl
                  rotate_left
                  ·simp only[Act.put,qS_,qW_]
                   rfl
                  refine pure_ (i:=12) (N:=some 48) (v:= ?_) (a' := ?_) #[qT,qT,qF,qT,qT,qT,qF,qT,qT,qT,qF,qT,qT,qF,qF,qF] rfl rfl (any_of HT_.out qK) (fun _ _ _ h=>h) (Or.inl ⟨by rfl,?_⟩) ?_ ?_;rotate_left
                  ·intro w'
                   go_simp;with_reducible rfl
                  rotate_left
                  ·simp only[Act.put,qS_,qW_]
                   rfl
                  refine take_ (i:=2) (N:=some 38) (v:= ?_) (a' := ?_) #[qT,qT,qT,qT,qT,qT,qF,qT,qT,qT,qF,qT,qT,qF,qF,qF] rfl rfl (take_ofW HT_.out HW_.out qK) (fun _ _ _ h=>h) (Or.inl ⟨by rfl,?_⟩) hHeld ?_ ?_;rotate_left
                  ·intro w' _
                   go_simp;with_reducible rfl
                  rotate_left
                  ·simp only[Act.put,qS_,qW_]
                   rfl
                  refine take_ (i:=6) (N:=some 42) (v:= ?_) (a' := ?_) #[qT,qT,qT,qT,qT,qT,qT,qT,qT,qT,qF,qT,qT,qF,qF,qF] rfl rfl (take_ofW HT_.out HW_.out qK) (fun _ _ _ h=>h) (Or.inl ⟨by rfl,?_⟩) hHeld ?_ ?_;rotate_left
                  ·intro w' _
                   go_simp;with_reducible rfl
                  rotate_left
                  ·simp only[Act.put,qS_,qW_]
                   rfl
                  refine take_ (i:=10) (N:=some 46) (v:= ?_) (a' := ?_) #[qT,qT,qT,qT,qT,qT,qT,qT,qT,qT,qT,qT,qT,qF,qF,qF] rfl rfl (take_ofW HT_.out HW_.out qK) (fun _ _ _ h=>h) (Or.inl ⟨by rfl,?_⟩) hHeld ?_ ?_;rotate_left
                  ·intro w' _
                   go_simp;with_reducible rfl
                  rotate_left
                  ·simp only[Act.put,qS_,qW_]
                   rfl
                  refine take_ (i:=13) (N:=some 49) (v:= ?_) (a' := ?_) #[qT,qT,qT,qT,qT,qT,qT,qT,qT,qT,qT,qT,qT,qT,qF,qF] rfl rfl (take_ofW HT_.out HW_.out qK) (fun _ _ _ h=>h) (Or.inl ⟨by rfl,?_⟩) hHeld ?_ ?_;rotate_left
                  ·intro w' _
                   go_simp;with_reducible rfl
                  rotate_left
                  ·simp only[Act.put,qS_,qW_]
                   rfl
                  refine one_ (i:=14) (N:=some 50) #[qT,qT,qT,qT,qT,qT,qT,qT,qT,qT,qT,qT,qT,qT,qT,qF] rfl rfl (one_of HT_.out qK) (by decide) (fun K hK=> ?_)
                  refine Kd.R_lit_step (Kd.int .u8) _ 5 ?hg (N:=50) ?hd (xs:=([bt z77_.b0 (ji9),bt z77_.b0 (ji13),bt z77_.b0 (ji17),bt z77_.b0 (ji21)]:List Int)) (inner:=[.int .u8 (bt z77_.b0 (ji9)),.int .u8 (bt z77_.b0 (ji13)),.int .u8 (bt z77_.b0 (ji17)),.int .u8 (bt z77_.b0 (ji21))]) (ok:=fun _=>True) (okp:=fun _=>True) ?hr ?hp (fun _ hk=>hk) trivial (Below.refl _ _) (Nat.le_refl _) (by simp) ?_;(case hd=>rfl);(case hg=>rfl);(case hr=>first|(go_simp;done)|(go_simp;rfl));(case hp=>exact(Reps.one rfl (Reps.one rfl (Reps.one rfl (Reps.one rfl (Reps.none _ _))))))
                  intro v106 w59 ho60 hb hg_ hnew_
                  clear hg_ hnew_
                  (first|rw[← Ny105.out]at ho60|(simp only[Int.reduceToNat]at ho60;rw[← Ny105.out]at ho60))
                  have HO107:=qM_ (Kd.R_lower (Kd.R_new' ho60 (Kd.R_lt (qr_ HO_3))) (below_size qBHB));replace HO_3:=qM_ (Kd.R_elder' (qr_ HO_3) (Kd.R_base ho60) hb);replace HB:=qM_ (below_step qBHB hb);clear hb ho60;refine hK.out _ _ trivial (fun hHeld=> ?_);clear hK K;refine norm_ (a' := ?_) ?_ ?_;rotate_left
                  ·show Act.put _ (some 50) _=_
                   simp only[Act.put,qS_,qW_];rfl
                  refine pure_ (i:=15) (N:=some 7) (v:= ?_) (a' := ?_) #[qT,qT,qT,qT,qT,qT,qT,qT,qT,qT,qT,qT,qT,qT,qT,qT] rfl rfl (any_of HT_.out qK) (fun _ _ _ h=>h) (Or.inl ⟨by rfl,?_⟩) ?_ ?_;rotate_left
                  ·intro w'
                   go_simp;with_reducible rfl
                  rotate_left
                  ·simp only[Act.put,qS_,qW_]
                   rfl
                  refine done_ (done_of HT_.out qK) ?_;obtain⟨Ao62,co62,eo62⟩:=Kd.R_slice HO107.out;subst eo62
                  try go_wp2_with (first|((with_reducible refine gate_builtin (b:= .append) (xs:=#[.tmp 65,.tmp 66]) rfl ?_);at_builtin;refine Kd.R_append_rows (Kd.int .u8) (w0:=w) w.heap.size rfl (.tmp 65) (.tmp 66) 26 5 (.int .u8 0) 1 rfl Try.underlying26 info5 rfl (by decide) (by omega) u3 x3_1 y105 _ _ _ (fun k_=>some k_≠(.slice Ao62 y105.length co62:Value).ownBlock) (fun _=>False) rfl rfl ?aO ?aR (fun _ _ h=>h) (fun _ h=>h.elim) ?aF ?aB ?aS ?aL ?_;(case aR=>repeat(first|exact(Kd.R_reads' HO107.out).2.2|(with_reducible refine Kd.C_alloc ?_ _)|(with_reducible refine Kd.C_drewN ?_ _)|(with_reducible refine Kd.C_drew ?_)));(case aB=>exact qBHB);(case aF=>exact(fun k_ hk=>Kd.fresh' (Kd.R_lt (qr_ HO107)) k_ hk));(case aO=>exact(by(with_reducible repeat(first|apply Kd.R_alloc|apply Kd.R_drewN|apply Kd.R_drew));exact Kd.R_mono HO_3.out (fun _ hk=>hk.2)));(case aS=>exact(below_size qBHB));(case aL=>have:=LMc57.out;omega);intro v121 w61 ho hb hg hat;rw[← Ny120.out]at ho;replace HO107:=qM_ (Kd.R_after (ok:=(fun _=>True)) (qr_ HO107) hg hat);replace HB:=qM_ (hb);have HO122:=qM_ (ho);clear HO_3;clear ho hb hg hat))
                  go_roundg k2
                  case measure=>have:=HK1.out;have:=HK2.out;omega
                  case rel=>exact⟨(y120),(wrap64 (x4_1+3)),qff_,H', ⟨by have:=HK1.out;have:=HK2.out;omega⟩,⟨by(with_reducible repeat(first|apply Kd.R_alloc|apply Kd.R_drewN|apply Kd.R_drew));exact Kd.R_mono HO122.out (fun _ hk=>trivial)⟩,⟨qBHB⟩⟩
                 ·rw[if_neg c57]at H
                  exact absurd H (by simp)
              ·rw[if_neg c23]at H
               exact absurd H (by simp)
             ·rw[if_neg c22]at H
              exact absurd H (by simp)
            ·rw[if_neg c19]at H
             exact absurd H (by simp)
           ·rw[if_neg c18]at H
            exact absurd H (by simp)
          ·rw[if_neg c15]at H
           exact absurd H (by simp)
         ·rw[if_neg c14]at H
          exact absurd H (by simp)
        ·rw[if_neg c11]at H
         exact absurd H (by simp)
       ·rw[if_neg c10]at H
        exact absurd H (by simp)
   ·rw[if_neg c4]at H
    have c4b0:decide (x4_1 < (l0.length:Int))=false:=decide_eq_false c4;clear c4;obtain rfl:=Option.some.inj H;have hcv63:=own_string (P:=Try.prog) Try.underlying26 Try.underlying5 Try.underlying9 (Kd.own_of_R HO_3.out)
    go_wp2
    go_ret;exact⟨qee_,qBHB⟩

end Go.Proofs.Ytbjefkeogbophaa.P
