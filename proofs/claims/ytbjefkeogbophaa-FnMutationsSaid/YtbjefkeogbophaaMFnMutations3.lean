/- Part 3 of what the law FnMutations stands on; the last part ends with the law's row. No condition of mine. -/
import Derived.Test.YtbjefkeogbophaaMFnMutations1
import Derived.Test.YtbjefkeogbophaaMFnMutations2
namespace Go.Proofs.Ytbjefkeogbophaa.P
open Go.RowKit Go.Proofs.YtbjefkeogbophaaW.PrintWords Go.Proofs.YtbjefkeogbophaaW.PrintLast Go.Proofs.YtbjefkeogbophaaW.PrintMore
attribute [local go_sem] max2_int min2_int max_two min_two max_three min_three max_four min_four   -- for this text's walks alone
set_option linter.unusedVariables false
set_option linter.unusedSimpArgs false

/-! ### z83_: function 83 -/
def z83_.l0:Nat→ByteArray→Int→Int→Option (Bool)
 | 0,_,_,_=>none
 | k+1,x0,x3,x4=>if x4 < (x0.size:Int)then(if 0≤x4 then((z37_.f (wrap64 (bt x0 x4)) 32 126).bind fun t101=>(if t101=true then(if(bt x0 x4)=32 then(if x3=0 then(some false)else(if(wrap64 (x4+1))=(x0.size:Int)then(some false)else(z83_.l0 k x0 0 (wrap64 (x4+1)))))else(if(wrap64 (x3+1)) > 200 then(some false)else(z83_.l0 k x0 (wrap64 (x3+1)) (wrap64 (x4+1)))))else(some false)))else(none))else(some true)
def z83_.f (k:Nat) (a0:ByteArray):Option (Bool):=if(a0.size:Int) > 65536 then(some false)else(if(a0.size:Int) > 2000 then(some false)else(z83_.l0 k a0 0 0))
theorem z83_.mono_l:∀ k,(∀ y0 y1 y2,LeO (z83_.l0 k y0 y1 y2) (z83_.l0 (k+1) y0 y1 y2))
 | 0=>fun _ _ _ r h=>by simp[z83_.l0]at h
 | k+1=>by
  have ih0:=z83_.mono_l k
  ·intro y0 y1 y2
   unfold z83_.l0
   repeat' first
   | (with_reducible exact ih0 _ _ _)
   | (with_reducible exact LeO.refl _)
   | (with_reducible exact LeO.none _)
   | (with_reducible refine LeO.ite ?_ ?_)
   | (with_reducible refine LeO.bind ?_ (fun _=> ?_))
   | exact ih0 _ _ _
   | exact LeO.none _
   | refine LeO.ite ?_ ?_
   | refine LeO.bind ?_ (fun _=> ?_)
theorem z83_.mono:∀ a0 k,LeO (z83_.f k a0) (z83_.f (k+1) a0):=by
 intro a0 k
 have ih0:=z83_.mono_l k
 unfold z83_.f
 repeat' first
   | (with_reducible exact ih0 _ _ _)
   | (with_reducible exact LeO.refl _)
   | (with_reducible exact LeO.none _)
   | (with_reducible refine LeO.ite ?_ ?_)
   | (with_reducible refine LeO.bind ?_ (fun _=> ?_))
   | exact ih0 _ _ _
   | exact LeO.none _
   | refine LeO.ite ?_ ?_
   | refine LeO.bind ?_ (fun _=> ?_)
set_option maxHeartbeats 8000000 in
set_option maxRecDepth 100000 in
theorem z83_.calls (k:Nat) (a0:ByteArray) (r:Bool) (w:World) (h:z83_.f k a0=some r) :
  Calls Try.prog 83 #[.string a0] w fun e w' => e= .returned (.bool r)∧Drawn0 w w' := by
 have H:(if(a0.size:Int) > 65536 then(some false)else(if(a0.size:Int) > 2000 then(some false)else(z83_.l0 k a0 0 0)))=some r:=h
 clear h
 by_cases c2:(a0.size:Int) > 65536
 ·rw[if_pos c2]at H
  have c2b0:decide (65536 < (a0.size:Int))=true:=decide_eq_true c2;have c2b1:decide (65536 < a0.size)=true:=decide_eq_true (by omega);clear c2;obtain rfl:=Option.some.inj H;go_enter Try.func83,Try.ntmps83
  go_wp2
  go_ret;exact⟨by first|rfl|(simp;done)|(simp[*];done),by repeat(first|exact Drawn0.refl _|apply Drawn0.step)⟩
 ·rw[if_neg c2]at H
  have c2b0:decide (65536 < (a0.size:Int))=false:=decide_eq_false c2;have c2b1:decide (65536 < a0.size)=false:=decide_eq_false (by omega);clear c2;by_cases c3:(a0.size:Int) > 2000
  ·rw[if_pos c3]at H
   have c3b0:decide (2000 < (a0.size:Int))=true:=decide_eq_true c3;have c3b1:decide (2000 < a0.size)=true:=decide_eq_true (by omega);clear c3;obtain rfl:=Option.some.inj H;go_enter Try.func83,Try.ntmps83
   go_wp2
   go_ret;exact⟨by first|rfl|(simp;done)|(simp[*];done),by repeat(first|exact Drawn0.refl _|apply Drawn0.step)⟩
  ·rw[if_neg c3]at H
   have c3b0:decide (2000 < (a0.size:Int))=false:=decide_eq_false c3;have c3b1:decide (2000 < a0.size)=false:=decide_eq_false (by omega);clear c3;have H' := qM_ H;clear H;go_enter Try.func83,Try.ntmps83
   go_wp2
   go_loopg [3,4] k (fun kq v3 v4 w' => ∃(x3_1:Int) (x4_1:Int),v3= .int .i64 x3_1∧v4= .int .i64 x4_1∧Aside0 (z83_.l0 kq a0 x3_1 x4_1=some r)∧Aside0 (kq≤k)∧Drawn0 w w')
   case atStart=>exact⟨(0),(0),qff_,qff_,H', ⟨Nat.le_refl _⟩,by repeat(first|exact Drawn0.refl _|apply Drawn0.step)⟩
   case round =>
    clear H'
    try clear c2
    try clear c2b0
    try clear c2b1
    try clear p2
    try clear c3
    try clear c3b0
    try clear c3b1
    obtain⟨x3_1,x4_1,rfl,rfl,HA,HK1,⟨m1,rfl⟩⟩:=hrel
    cases gk with
    | zero=>exact absurd HA.out (by simp[z83_.l0])
    | succ k1 =>
     have H:=HA.out;clear HA;simp only[z83_.l0]at H;by_cases c4:x4_1 < (a0.size:Int)
     ·rw[if_pos c4]at H
      have c4b0:decide (x4_1 < (a0.size:Int))=true:=decide_eq_true c4;clear c4;by_cases c5:0≤x4_1
      ·rw[if_pos c5]at H
       have c5b0:decide (0≤x4_1)=true:=decide_eq_true c5;clear c5;replace H:=Option.bind_eq_some_iff.mp H;obtain⟨t101,A70,H⟩:=H;have A7:=qM_ A70;clear A70;by_cases c8:t101=true
       ·subst c8
        have H1:(if(bt a0 x4_1)=32 then(if x3_1=0 then(some false)else(if(wrap64 (x4_1+1))=(a0.size:Int)then(some false)else(z83_.l0 k1 a0 0 (wrap64 (x4_1+1)))))else(if(wrap64 (x3_1+1)) > 200 then(some false)else(z83_.l0 k1 a0 (wrap64 (x3_1+1)) (wrap64 (x4_1+1)))))=some r:=by rw[if_pos rfl]at H;exact H
        clear H;have H:=H1;clear H1;by_cases c10:(bt a0 x4_1)=32
        ·rw[if_pos c10]at H
         have c10b0:((bt a0 x4_1) == 32)=true:=beq_iff_eq.mpr c10;have c10b1:((bt a0 x4_1) != 32)=false:=bne_eq_false_iff_eq.mpr c10;clear c10;by_cases c11:x3_1=0
         ·rw[if_pos c11]at H
          have c11b0:(x3_1 == 0)=true:=beq_iff_eq.mpr c11;have c11b1:(x3_1 != 0)=false:=bne_eq_false_iff_eq.mpr c11;clear c11;obtain rfl:=Option.some.inj H;have p6:0≤(x4_1:Int):=qd_;have q6:x4_1 < (a0.size:Int):=qd_;have hx6:=bt_at a0 x4_1;replace p6:=eq_true p6;replace q6:=eq_true q6
          go_wp2_with (first|((with_reducible refine gate_callee (f:=37) rfl ?_);refine goesL_ (some 21) rfl rfl Try.func37 qK rfl #[.int .i64 (wrap64 (bt a0 x4_1)),.int .i64 32,.int .i64 126] rfl qll_ ?_;(with_reducible refine(z37_.calls (wrap64 (bt a0 x4_1)) 32 126 true _ A7.out).mono ?_);rintro e w' ⟨rfl,⟨nd,rfl⟩⟩;refine⟨_,rfl,?_⟩;have p9:0≤(x4_1:Int):=qd_;have q9:x4_1 < (a0.size:Int):=qd_;have hx9:=bt_at a0 x4_1;replace p9:=eq_true p9;replace q9:=eq_true q9))
          go_ret;exact⟨by first|rfl|(simp;done)|(simp[*];done),by repeat(first|exact Drawn0.refl _|apply Drawn0.step)⟩
         ·rw[if_neg c11]at H
          have c11b0:(x3_1 == 0)=false:=beq_eq_false_iff_ne.mpr c11;have c11b1:(x3_1 != 0)=true:=bne_iff_ne.mpr c11;by_cases c12:(wrap64 (x4_1+1))=(a0.size:Int)
          ·rw[if_pos c12]at H
           have c12b0:((wrap64 (x4_1+1)) == (a0.size:Int))=true:=beq_iff_eq.mpr c12;have c12b1:((wrap64 (x4_1+1)) != (a0.size:Int))=false:=bne_eq_false_iff_eq.mpr c12;clear c12;obtain rfl:=Option.some.inj H;have p6:0≤(x4_1:Int):=qd_;have q6:x4_1 < (a0.size:Int):=qd_;have hx6:=bt_at a0 x4_1;replace p6:=eq_true p6;replace q6:=eq_true q6
           go_wp2_with (first|((with_reducible refine gate_callee (f:=37) rfl ?_);refine goesL_ (some 21) rfl rfl Try.func37 qK rfl #[.int .i64 (wrap64 (bt a0 x4_1)),.int .i64 32,.int .i64 126] rfl qll_ ?_;(with_reducible refine(z37_.calls (wrap64 (bt a0 x4_1)) 32 126 true _ A7.out).mono ?_);rintro e w' ⟨rfl,⟨nd,rfl⟩⟩;refine⟨_,rfl,?_⟩;have p9:0≤(x4_1:Int):=qd_;have q9:x4_1 < (a0.size:Int):=qd_;have hx9:=bt_at a0 x4_1;replace p9:=eq_true p9;replace q9:=eq_true q9))
           go_ret;exact⟨by first|rfl|(simp;done)|(simp[*];done),by repeat(first|exact Drawn0.refl _|apply Drawn0.step)⟩
          ·rw[if_neg c12]at H
           have c12b0:((wrap64 (x4_1+1)) == (a0.size:Int))=false:=beq_eq_false_iff_ne.mpr c12;have c12b1:((wrap64 (x4_1+1)) != (a0.size:Int))=true:=bne_iff_ne.mpr c12;have H' := qM_ H;clear H;have p6:0≤(x4_1:Int):=qd_;have q6:x4_1 < (a0.size:Int):=qd_;have hx6:=bt_at a0 x4_1;replace p6:=eq_true p6;replace q6:=eq_true q6
           go_wp2_with (first|((with_reducible refine gate_callee (f:=37) rfl ?_);refine goesL_ (some 21) rfl rfl Try.func37 qK rfl #[.int .i64 (wrap64 (bt a0 x4_1)),.int .i64 32,.int .i64 126] rfl qll_ ?_;(with_reducible refine(z37_.calls (wrap64 (bt a0 x4_1)) 32 126 true _ A7.out).mono ?_);rintro e w' ⟨rfl,⟨nd,rfl⟩⟩;refine⟨_,rfl,?_⟩;have p9:0≤(x4_1:Int):=qd_;have q9:x4_1 < (a0.size:Int):=qd_;have hx9:=bt_at a0 x4_1;replace p9:=eq_true p9;replace q9:=eq_true q9))
           go_roundg k1
           case measure=>have:=HK1.out;omega
           case rel=>exact⟨(0),(wrap64 (x4_1+1)),qff_,qff_,H', ⟨by have:=HK1.out;omega⟩,by repeat(first|exact Drawn0.refl _|apply Drawn0.step)⟩
        ·rw[if_neg c10]at H
         have c10b0:((bt a0 x4_1) == 32)=false:=beq_eq_false_iff_ne.mpr c10;have c10b1:((bt a0 x4_1) != 32)=true:=bne_iff_ne.mpr c10;by_cases c13:(wrap64 (x3_1+1)) > 200
         ·rw[if_pos c13]at H
          have c13b0:decide (200 < (wrap64 (x3_1+1)))=true:=decide_eq_true c13;clear c13;obtain rfl:=Option.some.inj H;have p6:0≤(x4_1:Int):=qd_;have q6:x4_1 < (a0.size:Int):=qd_;have hx6:=bt_at a0 x4_1;replace p6:=eq_true p6;replace q6:=eq_true q6
          go_wp2_with (first|((with_reducible refine gate_callee (f:=37) rfl ?_);refine goesL_ (some 21) rfl rfl Try.func37 qK rfl #[.int .i64 (wrap64 (bt a0 x4_1)),.int .i64 32,.int .i64 126] rfl qll_ ?_;(with_reducible refine(z37_.calls (wrap64 (bt a0 x4_1)) 32 126 true _ A7.out).mono ?_);rintro e w' ⟨rfl,⟨nd,rfl⟩⟩;refine⟨_,rfl,?_⟩;have p9:0≤(x4_1:Int):=qd_;have q9:x4_1 < (a0.size:Int):=qd_;have hx9:=bt_at a0 x4_1;replace p9:=eq_true p9;replace q9:=eq_true q9))
          go_ret;exact⟨by first|rfl|(simp;done)|(simp[*];done),by repeat(first|exact Drawn0.refl _|apply Drawn0.step)⟩
         ·rw[if_neg c13]at H
          have c13b0:decide (200 < (wrap64 (x3_1+1)))=false:=decide_eq_false c13;clear c13;have H' := qM_ H;clear H;have p6:0≤(x4_1:Int):=qd_;have q6:x4_1 < (a0.size:Int):=qd_;have hx6:=bt_at a0 x4_1;replace p6:=eq_true p6;replace q6:=eq_true q6
          go_wp2_with (first|((with_reducible refine gate_callee (f:=37) rfl ?_);refine goesL_ (some 21) rfl rfl Try.func37 qK rfl #[.int .i64 (wrap64 (bt a0 x4_1)),.int .i64 32,.int .i64 126] rfl qll_ ?_;(with_reducible refine(z37_.calls (wrap64 (bt a0 x4_1)) 32 126 true _ A7.out).mono ?_);rintro e w' ⟨rfl,⟨nd,rfl⟩⟩;refine⟨_,rfl,?_⟩;have p9:0≤(x4_1:Int):=qd_;have q9:x4_1 < (a0.size:Int):=qd_;have hx9:=bt_at a0 x4_1;replace p9:=eq_true p9;replace q9:=eq_true q9))
          go_roundg k1
          case measure=>have:=HK1.out;omega
          case rel=>exact⟨(wrap64 (x3_1+1)),(wrap64 (x4_1+1)),qff_,qff_,H', ⟨by have:=HK1.out;omega⟩,by repeat(first|exact Drawn0.refl _|apply Drawn0.step)⟩
       ·replace c8:=Bool.eq_false_iff.mpr c8
        subst c8
        have H1:(some false)=some r:=by rw[if_neg (show ¬(false=true)by decide)]at H;exact H
        clear H;have H:=H1;clear H1;obtain rfl:=Option.some.inj H;have p6:0≤(x4_1:Int):=qd_;have q6:x4_1 < (a0.size:Int):=qd_;have hx6:=bt_at a0 x4_1;replace p6:=eq_true p6;replace q6:=eq_true q6
        go_wp2_with (first|((with_reducible refine gate_callee (f:=37) rfl ?_);refine goesL_ (some 21) rfl rfl Try.func37 qK rfl #[.int .i64 (wrap64 (bt a0 x4_1)),.int .i64 32,.int .i64 126] rfl qll_ ?_;(with_reducible refine(z37_.calls (wrap64 (bt a0 x4_1)) 32 126 false _ A7.out).mono ?_);rintro e w' ⟨rfl,⟨nd,rfl⟩⟩;refine⟨_,rfl,?_⟩))
        go_ret;exact⟨by first|rfl|(simp;done)|(simp[*];done),by repeat(first|exact Drawn0.refl _|apply Drawn0.step)⟩
      ·rw[if_neg c5]at H
       exact absurd H (by simp)
     ·rw[if_neg c4]at H
      have c4b0:decide (x4_1 < (a0.size:Int))=false:=decide_eq_false c4;clear c4;obtain rfl:=Option.some.inj H
      go_wp2
      go_ret;exact⟨by first|rfl|(simp;done)|(simp[*];done),by repeat(first|exact Drawn0.refl _|apply Drawn0.step)⟩


/-! ### z75_: function 75 -/
def z75_.l0:Nat→ByteArray→Int→Option (Bool)
 | 0,_,_=>none
 | k+1,x0,x3=>if(wrap64 (x3+1)) < (x0.size:Int)then(if 0≤x3 then(if x3 < (x0.size:Int)then(if(bt x0 x3)=61 then(if 0≤(wrap64 (x3+1))then(if(bt x0 (wrap64 (x3+1)))=63 then(some false)else(z75_.l0 k x0 (wrap64 (x3+1))))else(none))else(z75_.l0 k x0 (wrap64 (x3+1))))else(none))else(none))else(some true)
def z75_.f (k:Nat) (a0:ByteArray):Option (Bool):=(z83_.f k a0).bind fun t101=>(if t101=true then(z75_.l0 k a0 0)else(some false))
theorem z75_.mono_l:∀ k,(∀ y0 y1,LeO (z75_.l0 k y0 y1) (z75_.l0 (k+1) y0 y1))
 | 0=>fun _ _ r h=>by simp[z75_.l0]at h
 | k+1=>by
  have ih0:=z75_.mono_l k
  ·intro y0 y1
   unfold z75_.l0
   repeat' first
   | (with_reducible exact ih0 _ _)
   | (with_reducible exact z83_.mono _ _)
   | (with_reducible exact LeO.refl _)
   | (with_reducible exact LeO.none _)
   | (with_reducible refine LeO.ite ?_ ?_)
   | (with_reducible refine LeO.bind ?_ (fun _=> ?_))
   | exact ih0 _ _
   | exact z83_.mono _ _
   | exact LeO.none _
   | refine LeO.ite ?_ ?_
   | refine LeO.bind ?_ (fun _=> ?_)
theorem z75_.mono:∀ a0 k,LeO (z75_.f k a0) (z75_.f (k+1) a0):=by
 intro a0 k
 have ih0:=z75_.mono_l k
 unfold z75_.f
 repeat' first
   | (with_reducible exact ih0 _ _)
   | (with_reducible exact z83_.mono _ _)
   | (with_reducible exact LeO.refl _)
   | (with_reducible exact LeO.none _)
   | (with_reducible refine LeO.ite ?_ ?_)
   | (with_reducible refine LeO.bind ?_ (fun _=> ?_))
   | exact ih0 _ _
   | exact z83_.mono _ _
   | exact LeO.none _
   | refine LeO.ite ?_ ?_
   | refine LeO.bind ?_ (fun _=> ?_)
set_option maxHeartbeats 8000000 in
set_option maxRecDepth 100000 in
theorem z75_.calls (k:Nat) (a0:ByteArray) (r:Bool) (w:World) (h:z75_.f k a0=some r) :
  Calls Try.prog 75 #[.string a0] w fun e w' => e= .returned (.bool r)∧Drawn0 w w' := by
 have H:((z83_.f k a0).bind fun t101=>(if t101=true then(z75_.l0 k a0 0)else(some false)))=some r:=h
 clear h
 replace H:=Option.bind_eq_some_iff.mp H
 obtain⟨t101,A20,H⟩:=H
 have A2:=qM_ A20
 clear A20
 by_cases c3:t101=true
 ·subst c3
  have H1:(z75_.l0 k a0 0)=some r:=by rw[if_pos rfl]at H;exact H
  clear H;have H:=H1;clear H1;have H' := qM_ H;clear H;go_enter Try.func75,Try.ntmps75
  go_wp2_with (first|((with_reducible refine gate_callee (f:=83) rfl ?_);refine goesL_ (some 5) rfl rfl Try.func83 qK rfl #[.string a0] rfl qll_ ?_;(with_reducible refine(z83_.calls k a0 true _ A2.out).mono ?_);rintro e w' ⟨rfl,⟨nd,rfl⟩⟩;refine⟨_,rfl,?_⟩))
  go_loopg [3] k (fun kq v3 w' => ∃(x3_1:Int),v3= .int .i64 x3_1∧Aside0 (z75_.l0 kq a0 x3_1=some r)∧Aside0 (kq≤k)∧Drawn0 w w')
  case atStart=>exact⟨(0),qff_,H', ⟨Nat.le_refl _⟩,by repeat(first|exact Drawn0.refl _|apply Drawn0.step)⟩
  case round =>
   clear H'
   try clear p2
   try clear c3
   obtain⟨x3_1,rfl,HA,HK1,⟨m1,rfl⟩⟩:=hrel
   cases gk with
   | zero=>exact absurd HA.out (by simp[z75_.l0])
   | succ k1 =>
    have H:=HA.out;clear HA;simp only[z75_.l0]at H;by_cases c4:(wrap64 (x3_1+1)) < (a0.size:Int)
    ·rw[if_pos c4]at H
     have c4b0:decide ((wrap64 (x3_1+1)) < (a0.size:Int))=true:=decide_eq_true c4;clear c4;by_cases c5:0≤x3_1
     ·rw[if_pos c5]at H
      have c5b0:decide (0≤x3_1)=true:=decide_eq_true c5;clear c5;by_cases c6:x3_1 < (a0.size:Int)
      ·rw[if_pos c6]at H
       have c6b0:decide (x3_1 < (a0.size:Int))=true:=decide_eq_true c6;clear c6;by_cases c8:(bt a0 x3_1)=61
       ·rw[if_pos c8]at H
        have c8b0:((bt a0 x3_1) == 61)=true:=beq_iff_eq.mpr c8;have c8b1:((bt a0 x3_1) != 61)=false:=bne_eq_false_iff_eq.mpr c8;clear c8
        obtain⟨ji9,hji9⟩:∃ j_:Int,(wrap64 (x3_1+1))=j_:=⟨_,rfl⟩
        replace H:(if 0≤(ji9)then(if(bt a0 (ji9))=63 then(some false)else(z75_.l0 k1 a0 ji9))else(none))=some r:=qj_ hji9 H
        (try rw[hji9]at c4b0)
        have hji9w:(IntKind.i64.wrap (x3_1+1))=ji9:=(i64_w _).trans hji9;by_cases c10:0≤(ji9)
        ·rw[if_pos c10]at H
         have c10b0:decide (0≤(ji9))=true:=decide_eq_true c10;clear c10;by_cases c12:(bt a0 (ji9))=63
         ·rw[if_pos c12]at H
          have c12b0:((bt a0 (ji9)) == 63)=true:=beq_iff_eq.mpr c12;have c12b1:((bt a0 (ji9)) != 63)=false:=bne_eq_false_iff_eq.mpr c12;clear c12;obtain rfl:=Option.some.inj H;have p7:0≤(x3_1:Int):=qd_;have q7:x3_1 < (a0.size:Int):=qd_;have hx7:=bt_at a0 x3_1;replace p7:=eq_true p7;replace q7:=eq_true q7;have p11:0≤((ji9):Int):=qd_;have q11:(ji9) < (a0.size:Int):=qd_;have hx11:=bt_at a0 (ji9);replace p11:=eq_true p11;replace q11:=eq_true q11
          go_wp2
          go_ret;exact⟨by first|rfl|(simp;done)|(simp only[← hji9] <;> (first|rfl|simp))|(simp[*];done),by repeat(first|exact Drawn0.refl _|apply Drawn0.step)⟩
         ·rw[if_neg c12]at H
          have c12b0:((bt a0 (ji9)) == 63)=false:=beq_eq_false_iff_ne.mpr c12;have c12b1:((bt a0 (ji9)) != 63)=true:=bne_iff_ne.mpr c12;have H' := qM_ H;clear H;have p7:0≤(x3_1:Int):=qd_;have q7:x3_1 < (a0.size:Int):=qd_;have hx7:=bt_at a0 x3_1;replace p7:=eq_true p7;replace q7:=eq_true q7;have p11:0≤((ji9):Int):=qd_;have q11:(ji9) < (a0.size:Int):=qd_;have hx11:=bt_at a0 (ji9);replace p11:=eq_true p11;replace q11:=eq_true q11
          go_wp2
          go_roundg k1
          case measure=>have:=HK1.out;omega
          case rel=>exact⟨(ji9),(by first|rfl|(simp;done)|(simp only[← hji9] <;> (first|rfl|simp))|(simp[*];done)),H', ⟨by have:=HK1.out;omega⟩,by repeat(first|exact Drawn0.refl _|apply Drawn0.step)⟩
        ·rw[if_neg c10]at H
         exact absurd H (by simp)
       ·rw[if_neg c8]at H
        have c8b0:((bt a0 x3_1) == 61)=false:=beq_eq_false_iff_ne.mpr c8;have c8b1:((bt a0 x3_1) != 61)=true:=bne_iff_ne.mpr c8;have H' := qM_ H;clear H;have p7:0≤(x3_1:Int):=qd_;have q7:x3_1 < (a0.size:Int):=qd_;have hx7:=bt_at a0 x3_1;replace p7:=eq_true p7;replace q7:=eq_true q7
        go_wp2
        go_roundg k1
        case measure=>have:=HK1.out;omega
        case rel=>exact⟨(wrap64 (x3_1+1)),qff_,H', ⟨by have:=HK1.out;omega⟩,by repeat(first|exact Drawn0.refl _|apply Drawn0.step)⟩
      ·rw[if_neg c6]at H
       exact absurd H (by simp)
     ·rw[if_neg c5]at H
      exact absurd H (by simp)
    ·rw[if_neg c4]at H
     have c4b0:decide ((wrap64 (x3_1+1)) < (a0.size:Int))=false:=decide_eq_false c4;clear c4;obtain rfl:=Option.some.inj H
     go_wp2
     go_ret;exact⟨by first|rfl|(simp;done)|(simp[*];done),by repeat(first|exact Drawn0.refl _|apply Drawn0.step)⟩
 ·replace c3:=Bool.eq_false_iff.mpr c3
  subst c3
  have H1:(some false)=some r:=by rw[if_neg (show ¬(false=true)by decide)]at H;exact H
  clear H;have H:=H1;clear H1;obtain rfl:=Option.some.inj H;go_enter Try.func75,Try.ntmps75
  go_wp2_with (first|((with_reducible refine gate_callee (f:=83) rfl ?_);refine goesL_ (some 5) rfl rfl Try.func83 qK rfl #[.string a0] rfl qll_ ?_;(with_reducible refine(z83_.calls k a0 false _ A2.out).mono ?_);rintro e w' ⟨rfl,⟨nd,rfl⟩⟩;refine⟨_,rfl,?_⟩))
  go_ret;exact⟨by first|rfl|(simp;done)|(simp[*];done),by repeat(first|exact Drawn0.refl _|apply Drawn0.step)⟩


/-! ### z88_: function 88 -/
def z88_.f (a0:Int):Option (Bool):=(z37_.f a0 0 55295).bind fun t101=>(if t101=true then(some true)else((z37_.f a0 57344 1114111).bind fun t102=>(some t102)))
set_option maxHeartbeats 8000000 in
set_option maxRecDepth 100000 in
theorem z88_.calls (a0:Int) (r:Bool) (w:World) (h:z88_.f a0=some r) :
  Calls Try.prog 88 #[.int .i64 a0] w fun e w' => e= .returned (.bool r)∧Drawn0 w w' := by
 have H:((z37_.f a0 0 55295).bind fun t101=>(if t101=true then(some true)else((z37_.f a0 57344 1114111).bind fun t102=>(some t102))))=some r:=h
 clear h
 replace H:=Option.bind_eq_some_iff.mp H
 obtain⟨t101,A20,H⟩:=H
 have A2:=qM_ A20
 clear A20
 by_cases c3:t101=true
 ·subst c3
  have H1:(some true)=some r:=by rw[if_pos rfl]at H;exact H
  clear H;have H:=H1;clear H1;obtain rfl:=Option.some.inj H;go_enter Try.func88,Try.ntmps88
  go_wp2_with (first|((with_reducible refine gate_callee (f:=37) rfl ?_);refine goesL_ (some 4) rfl rfl Try.func37 qK rfl #[.int .i64 a0,.int .i64 0,.int .i64 55295] rfl qll_ ?_;(with_reducible refine(z37_.calls a0 0 55295 true _ A2.out).mono ?_);rintro e w' ⟨rfl,⟨nd,rfl⟩⟩;refine⟨_,rfl,?_⟩))
  go_ret;exact⟨by first|rfl|(simp;done)|(simp[*];done),by repeat(first|exact Drawn0.refl _|apply Drawn0.step)⟩
 ·replace c3:=Bool.eq_false_iff.mpr c3
  subst c3
  have H1:((z37_.f a0 57344 1114111).bind fun t102=>(some t102))=some r:=by rw[if_neg (show ¬(false=true)by decide)]at H;exact H
  clear H;have H:=H1;clear H1;replace H:=Option.bind_eq_some_iff.mp H;obtain⟨t102,A40,H⟩:=H;have A4:=qM_ A40;clear A40;obtain rfl:=Option.some.inj H;go_enter Try.func88,Try.ntmps88
  go_wp2_with (first|((with_reducible refine gate_callee (f:=37) rfl ?_);refine goesL_ (some 4) rfl rfl Try.func37 qK rfl #[.int .i64 a0,.int .i64 0,.int .i64 55295] rfl qll_ ?_;(with_reducible refine(z37_.calls a0 0 55295 false _ A2.out).mono ?_);rintro e w' ⟨rfl,⟨nd,rfl⟩⟩;refine⟨_,rfl,?_⟩)|(go_at_call 37;(with_reducible refine(z37_.calls a0 57344 1114111 t102 _ A4.out).mono ?_);rintro e w' ⟨rfl,⟨nd,rfl⟩⟩))
  go_ret;exact⟨by first|rfl|(simp;done)|(simp[*];done),by repeat(first|exact Drawn0.refl _|apply Drawn0.step)⟩


/-! ### z84_: function 84 -/
def z84_.f (a0:Int):Option (Int):=(z88_.f a0).bind fun t101=>(if t101=true then(if a0 < 128 then(some 1)else(if a0 < 2048 then(some 2)else(if a0 < 65536 then(some 3)else(some 4))))else(some 0))
set_option maxHeartbeats 8000000 in
set_option maxRecDepth 100000 in
theorem z84_.calls (a0:Int) (r:Int) (w:World) (h:z84_.f a0=some r) :
  Calls Try.prog 84 #[.int .i64 a0] w fun e w' => e= .returned (.int .i64 r)∧Drawn0 w w' := by
 have H:((z88_.f a0).bind fun t101=>(if t101=true then(if a0 < 128 then(some 1)else(if a0 < 2048 then(some 2)else(if a0 < 65536 then(some 3)else(some 4))))else(some 0)))=some r:=h
 clear h
 replace H:=Option.bind_eq_some_iff.mp H
 obtain⟨t101,A20,H⟩:=H
 have A2:=qM_ A20
 clear A20
 by_cases c3:t101=true
 ·subst c3
  have H1:(if a0 < 128 then(some 1)else(if a0 < 2048 then(some 2)else(if a0 < 65536 then(some 3)else(some 4))))=some r:=by rw[if_pos rfl]at H;exact H
  clear H;have H:=H1;clear H1;by_cases c4:a0 < 128
  ·rw[if_pos c4]at H
   have c4b0:decide (a0 < 128)=true:=decide_eq_true c4;clear c4;obtain rfl:=Option.some.inj H;go_enter Try.func84,Try.ntmps84
   go_wp2_with (first|((with_reducible refine gate_callee (f:=88) rfl ?_);refine goesL_ (some 5) rfl rfl Try.func88 qK rfl #[.int .i64 a0] rfl qll_ ?_;(with_reducible refine(z88_.calls a0 true _ A2.out).mono ?_);rintro e w' ⟨rfl,⟨nd,rfl⟩⟩;refine⟨_,rfl,?_⟩))
   go_ret;exact⟨by first|rfl|(simp;done)|(simp[*];done),by repeat(first|exact Drawn0.refl _|apply Drawn0.step)⟩
  ·rw[if_neg c4]at H
   have c4b0:decide (a0 < 128)=false:=decide_eq_false c4;clear c4;by_cases c5:a0 < 2048
   ·rw[if_pos c5]at H
    have c5b0:decide (a0 < 2048)=true:=decide_eq_true c5;clear c5;obtain rfl:=Option.some.inj H;go_enter Try.func84,Try.ntmps84
    go_wp2_with (first|((with_reducible refine gate_callee (f:=88) rfl ?_);refine goesL_ (some 5) rfl rfl Try.func88 qK rfl #[.int .i64 a0] rfl qll_ ?_;(with_reducible refine(z88_.calls a0 true _ A2.out).mono ?_);rintro e w' ⟨rfl,⟨nd,rfl⟩⟩;refine⟨_,rfl,?_⟩))
    go_ret;exact⟨by first|rfl|(simp;done)|(simp[*];done),by repeat(first|exact Drawn0.refl _|apply Drawn0.step)⟩
   ·rw[if_neg c5]at H
    have c5b0:decide (a0 < 2048)=false:=decide_eq_false c5;clear c5;by_cases c6:a0 < 65536
    ·rw[if_pos c6]at H
     have c6b0:decide (a0 < 65536)=true:=decide_eq_true c6;clear c6;obtain rfl:=Option.some.inj H;go_enter Try.func84,Try.ntmps84
     go_wp2_with (first|((with_reducible refine gate_callee (f:=88) rfl ?_);refine goesL_ (some 5) rfl rfl Try.func88 qK rfl #[.int .i64 a0] rfl qll_ ?_;(with_reducible refine(z88_.calls a0 true _ A2.out).mono ?_);rintro e w' ⟨rfl,⟨nd,rfl⟩⟩;refine⟨_,rfl,?_⟩))
     go_ret;exact⟨by first|rfl|(simp;done)|(simp[*];done),by repeat(first|exact Drawn0.refl _|apply Drawn0.step)⟩
    ·rw[if_neg c6]at H
     have c6b0:decide (a0 < 65536)=false:=decide_eq_false c6;clear c6;obtain rfl:=Option.some.inj H;go_enter Try.func84,Try.ntmps84
     go_wp2_with (first|((with_reducible refine gate_callee (f:=88) rfl ?_);refine goesL_ (some 5) rfl rfl Try.func88 qK rfl #[.int .i64 a0] rfl qll_ ?_;(with_reducible refine(z88_.calls a0 true _ A2.out).mono ?_);rintro e w' ⟨rfl,⟨nd,rfl⟩⟩;refine⟨_,rfl,?_⟩))
     go_ret;exact⟨by first|rfl|(simp;done)|(simp[*];done),by repeat(first|exact Drawn0.refl _|apply Drawn0.step)⟩
 ·replace c3:=Bool.eq_false_iff.mpr c3
  subst c3
  have H1:(some 0)=some r:=by rw[if_neg (show ¬(false=true)by decide)]at H;exact H
  clear H;have H:=H1;clear H1;obtain rfl:=Option.some.inj H;go_enter Try.func84,Try.ntmps84
  go_wp2_with (first|((with_reducible refine gate_callee (f:=88) rfl ?_);refine goesL_ (some 5) rfl rfl Try.func88 qK rfl #[.int .i64 a0] rfl qll_ ?_;(with_reducible refine(z88_.calls a0 false _ A2.out).mono ?_);rintro e w' ⟨rfl,⟨nd,rfl⟩⟩;refine⟨_,rfl,?_⟩))
  go_ret;exact⟨by first|rfl|(simp;done)|(simp[*];done),by repeat(first|exact Drawn0.refl _|apply Drawn0.step)⟩


/-! ### z76_: function 76 -/
mutual
def z76_.j0:Nat→ByteArray→Int→Int→Int→Option (Int × Int × Bool)
 | 0,_,_,_,_=>none
 | k+1,x0,x1,x8,x9=>if(wrap64 (x1+x8)) > (x0.size:Int)then(some (0,1,false))else(z76_.l0 k x0 x1 x8 x9 1)
def z76_.l0:Nat→ByteArray→Int→Int→Int→Int→Option (Int × Int × Bool)
 | 0,_,_,_,_,_=>none
 | k+1,x0,x1,x8,x9,x10=>if x10 < x8 then(if 0≤(wrap64 (x1+x10))then(if(wrap64 (x1+x10)) < (x0.size:Int)then((z37_.f (wrap64 (bt x0 (wrap64 (x1+x10)))) 128 191).bind fun t104=>(if t104=true then(z76_.l0 k x0 x1 x8 (wrap64 ((wrap64 ((wrap64 (x9*64))+(wrap64 (bt x0 (wrap64 (x1+x10)))))) - 128)) (wrap64 (x10+1)))else(some (0,1,false))))else(none))else(none))else((z84_.f x9).bind fun t105=>(if t105=x8 then(some (x9,x8,true))else(some (0,1,false))))
end
def z76_.f (k:Nat) (a0:ByteArray) (a1:Int):Option (Int × Int × Bool):=if 0≤a1 then(if a1 < (a0.size:Int)then(if(wrap64 (bt a0 a1)) < 128 then(some (wrap64 (bt a0 a1),1,true))else((z37_.f (wrap64 (bt a0 a1)) 194 223).bind fun t101=>(if t101=true then(z76_.j0 k a0 a1 2 (wrap64 ((wrap64 (bt a0 a1)) - 192)))else((z37_.f (wrap64 (bt a0 a1)) 224 239).bind fun t102=>(if t102=true then(z76_.j0 k a0 a1 3 (wrap64 ((wrap64 (bt a0 a1)) - 224)))else((z37_.f (wrap64 (bt a0 a1)) 240 244).bind fun t103=>(if t103=true then(z76_.j0 k a0 a1 4 (wrap64 ((wrap64 (bt a0 a1)) - 240)))else(some (0,1,false)))))))))else(none))else(none)
theorem z76_.mono_l:∀ k,(∀ y0 y1 y2 y3,LeO (z76_.j0 k y0 y1 y2 y3) (z76_.j0 (k+1) y0 y1 y2 y3))∧(∀ y0 y1 y2 y3 y4,LeO (z76_.l0 k y0 y1 y2 y3 y4) (z76_.l0 (k+1) y0 y1 y2 y3 y4))
 | 0=>⟨fun _ _ _ _ r h=>by simp[z76_.j0]at h,fun _ _ _ _ _ r h=>by simp[z76_.l0]at h⟩
 | k+1=>by
  obtain⟨ih0,ih1⟩:=z76_.mono_l k;refine⟨?_,?_⟩
  ·intro y0 y1 y2 y3
   unfold z76_.j0
   repeat' first
   | (with_reducible exact ih0 _ _ _ _)
   | (with_reducible exact ih1 _ _ _ _ _)
   | (with_reducible exact LeO.refl _)
   | (with_reducible exact LeO.none _)
   | (with_reducible refine LeO.ite ?_ ?_)
   | (with_reducible refine LeO.bind ?_ (fun _=> ?_))
   | exact ih0 _ _ _ _
   | exact ih1 _ _ _ _ _
   | exact LeO.none _
   | refine LeO.ite ?_ ?_
   | refine LeO.bind ?_ (fun _=> ?_)
  ·intro y0 y1 y2 y3 y4
   unfold z76_.l0
   repeat' first
   | (with_reducible exact ih0 _ _ _ _)
   | (with_reducible exact ih1 _ _ _ _ _)
   | (with_reducible exact LeO.refl _)
   | (with_reducible exact LeO.none _)
   | (with_reducible refine LeO.ite ?_ ?_)
   | (with_reducible refine LeO.bind ?_ (fun _=> ?_))
   | exact ih0 _ _ _ _
   | exact ih1 _ _ _ _ _
   | exact LeO.none _
   | refine LeO.ite ?_ ?_
   | refine LeO.bind ?_ (fun _=> ?_)
theorem z76_.mono:∀ a0 a1 k,LeO (z76_.f k a0 a1) (z76_.f (k+1) a0 a1):=by
 intro a0 a1 k
 obtain⟨ih0,ih1⟩:=z76_.mono_l k
 unfold z76_.f
 repeat' first
   | (with_reducible exact ih0 _ _ _ _)
   | (with_reducible exact ih1 _ _ _ _ _)
   | (with_reducible exact LeO.refl _)
   | (with_reducible exact LeO.none _)
   | (with_reducible refine LeO.ite ?_ ?_)
   | (with_reducible refine LeO.bind ?_ (fun _=> ?_))
   | exact ih0 _ _ _ _
   | exact ih1 _ _ _ _ _
   | exact LeO.none _
   | refine LeO.ite ?_ ?_
   | refine LeO.bind ?_ (fun _=> ?_)
set_option maxHeartbeats 8000000 in
set_option maxRecDepth 100000 in
theorem z76_.calls (k:Nat) (a0:ByteArray) (a1:Int) (r1:Int) (r2:Int) (r3:Bool) (w:World) (h:z76_.f k a0 a1=some (r1,r2,r3)) :
  Calls Try.prog 76 #[.string a0,.int .i64 a1] w fun e w' => e= .returned (.tuple #[.int .i64 r1,.int .i64 r2,.bool r3])∧Drawn0 w w' := by
 have H:(if 0≤a1 then(if a1 < (a0.size:Int)then(if(wrap64 (bt a0 a1)) < 128 then(some (wrap64 (bt a0 a1),1,true))else((z37_.f (wrap64 (bt a0 a1)) 194 223).bind fun t101=>(if t101=true then(z76_.j0 k a0 a1 2 (wrap64 ((wrap64 (bt a0 a1)) - 192)))else((z37_.f (wrap64 (bt a0 a1)) 224 239).bind fun t102=>(if t102=true then(z76_.j0 k a0 a1 3 (wrap64 ((wrap64 (bt a0 a1)) - 224)))else((z37_.f (wrap64 (bt a0 a1)) 240 244).bind fun t103=>(if t103=true then(z76_.j0 k a0 a1 4 (wrap64 ((wrap64 (bt a0 a1)) - 240)))else(some (0,1,false)))))))))else(none))else(none))=some (r1,r2,r3):=h
 clear h
 by_cases c3:0≤a1
 ·rw[if_pos c3]at H
  have c3b0:decide (0≤a1)=true:=decide_eq_true c3;clear c3;by_cases c4:a1 < (a0.size:Int)
  ·rw[if_pos c4]at H
   have c4b0:decide (a1 < (a0.size:Int))=true:=decide_eq_true c4;clear c4;have HC6:=qM_ H;clear H;have p5:0≤(a1:Int):=qd_;have q5:a1 < (a0.size:Int):=qd_;have hx5:=bt_at a0 a1;replace p5:=eq_true p5;replace q5:=eq_true q5;go_enter Try.func76,Try.ntmps76
   go_upto_block 0 with (fail)
   go_cut [8,9] (fun v8 v9 wc=>∃(kq:Nat) (x8_5:Int) (x9_5:Int),v8= .int .i64 x8_5∧v9= .int .i64 x9_5∧Aside0 (z76_.j0 kq a0 a1 x8_5 x9_5=some (r1,r2,r3))∧Aside0 (kq≤k)∧Drawn0 w wc)
   case first =>
    have H:=HC6.out;clear HC6;by_cases c7:(wrap64 (bt a0 a1)) < 128
    ·rw[if_pos c7]at H
     have c7b0:decide ((wrap64 (bt a0 a1)) < 128)=true:=decide_eq_true c7;clear c7
     (first|rw[c7b0]|(simp only[i64_w,i32_w];rw[c7b0])|skip)
     simp only[Option.some.injEq,Prod.mk.injEq]at H;obtain⟨rfl,rfl,rfl⟩:=H
     go_wp2
     go_ret3
     exact⟨by first|rfl|(simp;done)|(simp[*];done),by repeat(first|exact Drawn0.refl _|apply Drawn0.step)⟩
    ·rw[if_neg c7]at H
     have c7b0:decide ((wrap64 (bt a0 a1)) < 128)=false:=decide_eq_false c7;clear c7
     (first|rw[c7b0]|(simp only[i64_w,i32_w];rw[c7b0])|skip)
     replace H:=Option.bind_eq_some_iff.mp H;obtain⟨t101,A80,H⟩:=H;have A8:=qM_ A80;clear A80;by_cases c9:t101=true
     ·subst c9
      have H1:(z76_.j0 k a0 a1 2 (wrap64 ((wrap64 (bt a0 a1)) - 192)))=some (r1,r2,r3):=by rw[if_pos rfl]at H;exact H
      clear H;have H:=H1;clear H1;have H' := qM_ H;clear H
      go_wp2_with (first|((with_reducible refine gate_callee (f:=37) rfl ?_);refine goesL_ (some 22) rfl rfl Try.func37 qK rfl #[.int .i64 (wrap64 (bt a0 a1)),.int .i64 194,.int .i64 223] rfl qll_ ?_;(with_reducible refine(z37_.calls (wrap64 (bt a0 a1)) 194 223 true _ A8.out).mono ?_);rintro e w' ⟨rfl,⟨nd,rfl⟩⟩;refine⟨_,rfl,?_⟩))
      go_meet
      case rel=>exact⟨_,(2),(wrap64 ((wrap64 (bt a0 a1)) - 192)),qff_,qff_,H', ⟨by first|omega|exact Nat.le_refl _⟩,by repeat(first|exact Drawn0.refl _|apply Drawn0.step)⟩
     ·replace c9:=Bool.eq_false_iff.mpr c9
      subst c9
      have H1:((z37_.f (wrap64 (bt a0 a1)) 224 239).bind fun t102=>(if t102=true then(z76_.j0 k a0 a1 3 (wrap64 ((wrap64 (bt a0 a1)) - 224)))else((z37_.f (wrap64 (bt a0 a1)) 240 244).bind fun t103=>(if t103=true then(z76_.j0 k a0 a1 4 (wrap64 ((wrap64 (bt a0 a1)) - 240)))else(some (0,1,false))))))=some (r1,r2,r3):=by rw[if_neg (show ¬(false=true)by decide)]at H;exact H
      clear H;have H:=H1;clear H1;replace H:=Option.bind_eq_some_iff.mp H;obtain⟨t102,A100,H⟩:=H;have A10:=qM_ A100;clear A100;by_cases c11:t102=true
      ·subst c11
       have H1:(z76_.j0 k a0 a1 3 (wrap64 ((wrap64 (bt a0 a1)) - 224)))=some (r1,r2,r3):=by rw[if_pos rfl]at H;exact H
       clear H;have H:=H1;clear H1;have H' := qM_ H;clear H
       go_wp2_with (first|((with_reducible refine gate_callee (f:=37) rfl ?_);refine goesL_ (some 22) rfl rfl Try.func37 qK rfl #[.int .i64 (wrap64 (bt a0 a1)),.int .i64 194,.int .i64 223] rfl qll_ ?_;(with_reducible refine(z37_.calls (wrap64 (bt a0 a1)) 194 223 false _ A8.out).mono ?_);rintro e w' ⟨rfl,⟨nd,rfl⟩⟩;refine⟨_,rfl,?_⟩)|((with_reducible refine gate_callee (f:=37) rfl ?_);refine goesL_ (some 27) rfl rfl Try.func37 qK rfl #[.int .i64 (wrap64 (bt a0 a1)),.int .i64 224,.int .i64 239] rfl qll_ ?_;(with_reducible refine(z37_.calls (wrap64 (bt a0 a1)) 224 239 true _ A10.out).mono ?_);rintro e w' ⟨rfl,⟨nd,rfl⟩⟩;refine⟨_,rfl,?_⟩))
       go_meet
       case rel=>exact⟨_,(3),(wrap64 ((wrap64 (bt a0 a1)) - 224)),qff_,qff_,H', ⟨by first|omega|exact Nat.le_refl _⟩,by repeat(first|exact Drawn0.refl _|apply Drawn0.step)⟩
      ·replace c11:=Bool.eq_false_iff.mpr c11
       subst c11
       have H1:((z37_.f (wrap64 (bt a0 a1)) 240 244).bind fun t103=>(if t103=true then(z76_.j0 k a0 a1 4 (wrap64 ((wrap64 (bt a0 a1)) - 240)))else(some (0,1,false))))=some (r1,r2,r3):=by rw[if_neg (show ¬(false=true)by decide)]at H;exact H
       clear H;have H:=H1;clear H1;replace H:=Option.bind_eq_some_iff.mp H;obtain⟨t103,A120,H⟩:=H;have A12:=qM_ A120;clear A120;by_cases c13:t103=true
       ·subst c13
        have H1:(z76_.j0 k a0 a1 4 (wrap64 ((wrap64 (bt a0 a1)) - 240)))=some (r1,r2,r3):=by rw[if_pos rfl]at H;exact H
        clear H;have H:=H1;clear H1;have H' := qM_ H;clear H
        go_wp2_with (first|((with_reducible refine gate_callee (f:=37) rfl ?_);refine goesL_ (some 22) rfl rfl Try.func37 qK rfl #[.int .i64 (wrap64 (bt a0 a1)),.int .i64 194,.int .i64 223] rfl qll_ ?_;(with_reducible refine(z37_.calls (wrap64 (bt a0 a1)) 194 223 false _ A8.out).mono ?_);rintro e w' ⟨rfl,⟨nd,rfl⟩⟩;refine⟨_,rfl,?_⟩)|((with_reducible refine gate_callee (f:=37) rfl ?_);refine goesL_ (some 27) rfl rfl Try.func37 qK rfl #[.int .i64 (wrap64 (bt a0 a1)),.int .i64 224,.int .i64 239] rfl qll_ ?_;(with_reducible refine(z37_.calls (wrap64 (bt a0 a1)) 224 239 false _ A10.out).mono ?_);rintro e w' ⟨rfl,⟨nd,rfl⟩⟩;refine⟨_,rfl,?_⟩)|((with_reducible refine gate_callee (f:=37) rfl ?_);refine goesL_ (some 32) rfl rfl Try.func37 qK rfl #[.int .i64 (wrap64 (bt a0 a1)),.int .i64 240,.int .i64 244] rfl qll_ ?_;(with_reducible refine(z37_.calls (wrap64 (bt a0 a1)) 240 244 true _ A12.out).mono ?_);rintro e w' ⟨rfl,⟨nd,rfl⟩⟩;refine⟨_,rfl,?_⟩))
        go_meet
        case rel=>exact⟨_,(4),(wrap64 ((wrap64 (bt a0 a1)) - 240)),qff_,qff_,H', ⟨by first|omega|exact Nat.le_refl _⟩,by repeat(first|exact Drawn0.refl _|apply Drawn0.step)⟩
       ·replace c13:=Bool.eq_false_iff.mpr c13
        subst c13
        have H1:(some (0,1,false))=some (r1,r2,r3):=by rw[if_neg (show ¬(false=true)by decide)]at H;exact H
        clear H;have H:=H1;clear H1;simp only[Option.some.injEq,Prod.mk.injEq]at H;obtain⟨rfl,rfl,rfl⟩:=H
        go_wp2_with (first|((with_reducible refine gate_callee (f:=37) rfl ?_);refine goesL_ (some 22) rfl rfl Try.func37 qK rfl #[.int .i64 (wrap64 (bt a0 a1)),.int .i64 194,.int .i64 223] rfl qll_ ?_;(with_reducible refine(z37_.calls (wrap64 (bt a0 a1)) 194 223 false _ A8.out).mono ?_);rintro e w' ⟨rfl,⟨nd,rfl⟩⟩;refine⟨_,rfl,?_⟩)|((with_reducible refine gate_callee (f:=37) rfl ?_);refine goesL_ (some 27) rfl rfl Try.func37 qK rfl #[.int .i64 (wrap64 (bt a0 a1)),.int .i64 224,.int .i64 239] rfl qll_ ?_;(with_reducible refine(z37_.calls (wrap64 (bt a0 a1)) 224 239 false _ A10.out).mono ?_);rintro e w' ⟨rfl,⟨nd,rfl⟩⟩;refine⟨_,rfl,?_⟩)|((with_reducible refine gate_callee (f:=37) rfl ?_);refine goesL_ (some 32) rfl rfl Try.func37 qK rfl #[.int .i64 (wrap64 (bt a0 a1)),.int .i64 240,.int .i64 244] rfl qll_ ?_;(with_reducible refine(z37_.calls (wrap64 (bt a0 a1)) 240 244 false _ A12.out).mono ?_);rintro e w' ⟨rfl,⟨nd,rfl⟩⟩;refine⟨_,rfl,?_⟩))
        go_ret3
        exact⟨by first|rfl|(simp;done)|(simp[*];done),by repeat(first|exact Drawn0.refl _|apply Drawn0.step)⟩
   case rest =>
    clear HC6
    try clear c1
    try clear p2
    try clear c3
    try clear c3b0
    try clear c4
    try clear c4b0
    try clear p5
    try clear q5
    try clear hx5
    try clear p6
    try clear c7
    try clear c7b0
    try clear c9
    try clear c11
    try clear c13
    try clear p5
    try clear q5
    obtain⟨kq,x8_5,x9_5,rfl,rfl,HA,HJ5,⟨mc5,rfl⟩⟩:=hcut
    cases kq with
    | zero=>exact absurd HA.out (by simp[z76_.j0])
    | succ kj5 =>
     have H:=HA.out;clear HA;simp only[z76_.j0]at H;by_cases c14:(wrap64 (a1+x8_5)) > (a0.size:Int)
     ·rw[if_pos c14]at H
      have c14b0:decide ((a0.size:Int) < (wrap64 (a1+x8_5)))=true:=decide_eq_true c14;clear c14;simp only[Option.some.injEq,Prod.mk.injEq]at H;obtain⟨rfl,rfl,rfl⟩:=H
      go_wp2
      go_ret3
      exact⟨by first|rfl|(simp;done)|(simp[*];done),by repeat(first|exact Drawn0.refl _|apply Drawn0.step)⟩
     ·rw[if_neg c14]at H
      have c14b0:decide ((a0.size:Int) < (wrap64 (a1+x8_5)))=false:=decide_eq_false c14;clear c14;have H' := qM_ H;clear H
      go_wp2
      go_loopg [9,10] kj5 (fun kq v9 v10 w' => ∃(x9_2:Int) (x10_2:Int),v9= .int .i64 x9_2∧v10= .int .i64 x10_2∧Aside0 (z76_.l0 kq a0 a1 x8_5 x9_2 x10_2=some (r1,r2,r3))∧Aside0 (kq≤kj5)∧Drawn0 w w')
      case atStart=>exact⟨(x9_5),(1),qff_,qff_,H', ⟨Nat.le_refl _⟩,by repeat(first|exact Drawn0.refl _|apply Drawn0.step)⟩
      case round =>
       clear H'
       try clear c1
       try clear p2
       try clear c3
       try clear c3b0
       try clear c4
       try clear c4b0
       try clear c5
       try clear p5
       try clear q5
       try clear hx5
       try clear p6
       try clear c7
       try clear c7b0
       try clear c9
       try clear c11
       try clear c13
       try clear c14
       try clear c14b0
       try clear p2
       try clear p5
       try clear p6
       try clear q5
       obtain⟨x9_2,x10_2,rfl,rfl,HA,HK2,⟨m2,rfl⟩⟩:=hrel
       cases gk with
       | zero=>exact absurd HA.out (by simp[z76_.l0])
       | succ k2 =>
        have H:=HA.out;clear HA;simp only[z76_.l0]at H;by_cases c15:x10_2 < x8_5
        ·rw[if_pos c15]at H
         have c15b0:decide (x10_2 < x8_5)=true:=decide_eq_true c15;clear c15
         obtain⟨ji16,hji16⟩:∃ j_:Int,(wrap64 (a1+x10_2))=j_:=⟨_,rfl⟩
         replace H:(if 0≤(ji16)then(if(ji16) < (a0.size:Int)then((z37_.f (wrap64 (bt a0 (ji16))) 128 191).bind fun t104=>(if t104=true then(z76_.l0 k2 a0 a1 x8_5 (wrap64 ((wrap64 ((wrap64 (x9_2*64))+(wrap64 (bt a0 (ji16))))) - 128)) (wrap64 (x10_2+1)))else(some (0,1,false))))else(none))else(none))=some (r1,r2,r3):=qj_ hji16 H;have hji16w:(IntKind.i64.wrap (a1+x10_2))=ji16:=(i64_w _).trans hji16;by_cases c17:0≤(ji16)
         ·rw[if_pos c17]at H
          have c17b0:decide (0≤(ji16))=true:=decide_eq_true c17;clear c17;by_cases c18:(ji16) < (a0.size:Int)
          ·rw[if_pos c18]at H
           have c18b0:decide ((ji16) < (a0.size:Int))=true:=decide_eq_true c18;clear c18;replace H:=Option.bind_eq_some_iff.mp H;obtain⟨t104,A200,H⟩:=H;have A20:=qM_ A200;clear A200;by_cases c21:t104=true
           ·subst c21
            have H1:(z76_.l0 k2 a0 a1 x8_5 (wrap64 ((wrap64 ((wrap64 (x9_2*64))+(wrap64 (bt a0 (ji16))))) - 128)) (wrap64 (x10_2+1)))=some (r1,r2,r3):=by rw[if_pos rfl]at H;exact H
            clear H;have H:=H1;clear H1;have H' := qM_ H;clear H;have p19:0≤((ji16):Int):=qd_;have q19:(ji16) < (a0.size:Int):=qd_;have hx19:=bt_at a0 (ji16);replace p19:=eq_true p19;replace q19:=eq_true q19
            go_wp2_with (first|((with_reducible refine gate_callee (f:=37) rfl ?_);refine goesL_ (some 53) rfl rfl Try.func37 qK rfl #[.int .i64 (wrap64 (bt a0 (ji16))),.int .i64 128,.int .i64 191] rfl (by(try simp only[List.map_toArray,List.map_cons,List.map_nil]);first|done|(simp only[hji16];rfl)|rfl|(simp only[List.length_drop,List.length_take];rfl)) ?_;(with_reducible refine(z37_.calls (wrap64 (bt a0 (ji16))) 128 191 true _ A20.out).mono ?_);rintro e w' ⟨rfl,⟨nd,rfl⟩⟩;refine⟨_,rfl,?_⟩))
            go_roundg k2
            case measure=>have:=HJ5.out;have:=HK2.out;omega
            case rel=>exact⟨(wrap64 ((wrap64 ((wrap64 (x9_2*64))+(wrap64 (bt a0 (ji16))))) - 128)),(wrap64 (x10_2+1)),(by first|rfl|(simp;done)|(simp only[← hji16] <;> (first|rfl|simp))|(simp[*];done)),qff_,H', ⟨by have:=HJ5.out;have:=HK2.out;omega⟩,by repeat(first|exact Drawn0.refl _|apply Drawn0.step)⟩
           ·replace c21:=Bool.eq_false_iff.mpr c21
            subst c21
            have H1:(some (0,1,false))=some (r1,r2,r3):=by rw[if_neg (show ¬(false=true)by decide)]at H;exact H
            clear H;have H:=H1;clear H1;simp only[Option.some.injEq,Prod.mk.injEq]at H;obtain⟨rfl,rfl,rfl⟩:=H;have p19:0≤((ji16):Int):=qd_;have q19:(ji16) < (a0.size:Int):=qd_;have hx19:=bt_at a0 (ji16);replace p19:=eq_true p19;replace q19:=eq_true q19
            go_wp2_with (first|((with_reducible refine gate_callee (f:=37) rfl ?_);refine goesL_ (some 53) rfl rfl Try.func37 qK rfl #[.int .i64 (wrap64 (bt a0 (ji16))),.int .i64 128,.int .i64 191] rfl (by(try simp only[List.map_toArray,List.map_cons,List.map_nil]);first|done|(simp only[hji16];rfl)|rfl|(simp only[List.length_drop,List.length_take];rfl)) ?_;(with_reducible refine(z37_.calls (wrap64 (bt a0 (ji16))) 128 191 false _ A20.out).mono ?_);rintro e w' ⟨rfl,⟨nd,rfl⟩⟩;refine⟨_,rfl,?_⟩))
            go_ret3
            exact⟨by first|rfl|(simp;done)|(simp only[← hji16] <;> (first|rfl|simp))|(simp[*];done),by repeat(first|exact Drawn0.refl _|apply Drawn0.step)⟩
          ·rw[if_neg c18]at H
           exact absurd H (by simp)
         ·rw[if_neg c17]at H
          exact absurd H (by simp)
        ·rw[if_neg c15]at H
         have c15b0:decide (x10_2 < x8_5)=false:=decide_eq_false c15;clear c15;replace H:=Option.bind_eq_some_iff.mp H;obtain⟨t105,A220,H⟩:=H;have A22:=qM_ A220;clear A220;by_cases c23:t105=x8_5
         ·rw[if_pos c23]at H
          have c23b0:(t105 == x8_5)=true:=beq_iff_eq.mpr c23;have c23b1:(t105 != x8_5)=false:=bne_eq_false_iff_eq.mpr c23;clear c23;simp only[Option.some.injEq,Prod.mk.injEq]at H;obtain⟨rfl,rfl,rfl⟩:=H
          go_wp2_with (first|((with_reducible refine gate_callee (f:=84) rfl ?_);refine goesL_ (some 61) rfl rfl Try.func84 qK rfl #[.int .i64 x9_2] rfl qll_ ?_;(with_reducible refine(z84_.calls x9_2 t105 _ A22.out).mono ?_);rintro e w' ⟨rfl,⟨nd,rfl⟩⟩;refine⟨_,rfl,?_⟩))
          go_ret3
          exact⟨by first|rfl|(simp;done)|(simp[*];done),by repeat(first|exact Drawn0.refl _|apply Drawn0.step)⟩
         ·rw[if_neg c23]at H
          have c23b0:(t105 == x8_5)=false:=beq_eq_false_iff_ne.mpr c23;have c23b1:(t105 != x8_5)=true:=bne_iff_ne.mpr c23;simp only[Option.some.injEq,Prod.mk.injEq]at H;obtain⟨rfl,rfl,rfl⟩:=H
          go_wp2_with (first|((with_reducible refine gate_callee (f:=84) rfl ?_);refine goesL_ (some 61) rfl rfl Try.func84 qK rfl #[.int .i64 x9_2] rfl qll_ ?_;(with_reducible refine(z84_.calls x9_2 t105 _ A22.out).mono ?_);rintro e w' ⟨rfl,⟨nd,rfl⟩⟩;refine⟨_,rfl,?_⟩))
          go_ret3
          exact⟨by first|rfl|(simp;done)|(simp[*];done),by repeat(first|exact Drawn0.refl _|apply Drawn0.step)⟩
  ·rw[if_neg c4]at H
   exact absurd H (by simp)
 ·rw[if_neg c3]at H
  exact absurd H (by simp)

end Go.Proofs.Ytbjefkeogbophaa.P
