/- Part 12 of what the law FnMutations stands on; the last part ends with the law's row. No condition of mine. -/
import Derived.Test.YtbjefkeogbophaaMFnMutations1
import Derived.Test.YtbjefkeogbophaaMFnMutations2
namespace Go.Proofs.Ytbjefkeogbophaa.P
open Go.RowKit Go.Proofs.YtbjefkeogbophaaW.PrintWords Go.Proofs.YtbjefkeogbophaaW.PrintLast Go.Proofs.YtbjefkeogbophaaW.PrintMore
attribute [local go_sem] max2_int min2_int max_two min_two max_three min_three max_four min_four   -- for this text's walks alone
set_option linter.unusedVariables false
set_option linter.unusedSimpArgs false

/-! ### z71_: function 71 -/
def z71_.f (a0:Int):Option (Bool):=if a0≥97 then(if a0≤122 then(some true)else(if a0≥65 then(if a0≤90 then(some true)else(some (a0 == 95)))else(some (a0 == 95))))else(if a0≥65 then(if a0≤90 then(some true)else(some (a0 == 95)))else(some (a0 == 95)))
set_option maxHeartbeats 8000000 in
set_option maxRecDepth 100000 in
theorem z71_.calls (a0:Int) (r:Bool) (w:World) (h:z71_.f a0=some r) :
  Calls Try.prog 71 #[.int .u8 a0] w fun e w' => e= .returned (.bool r)∧Drawn0 w w' := by
 have H:(if a0≥97 then(if a0≤122 then(some true)else(if a0≥65 then(if a0≤90 then(some true)else(some (a0 == 95)))else(some (a0 == 95))))else(if a0≥65 then(if a0≤90 then(some true)else(some (a0 == 95)))else(some (a0 == 95))))=some r:=h
 clear h
 by_cases c2:a0≥97
 ·rw[if_pos c2]at H
  have c2b0:decide (97≤a0)=true:=decide_eq_true c2;clear c2;by_cases c3:a0≤122
  ·rw[if_pos c3]at H
   have c3b0:decide (a0≤122)=true:=decide_eq_true c3;clear c3;obtain rfl:=Option.some.inj H;go_enter Try.func71,Try.ntmps71
   go_wp2
   go_ret;exact⟨by first|rfl|(simp;done)|(simp[*];done),by repeat(first|exact Drawn0.refl _|apply Drawn0.step)⟩
  ·rw[if_neg c3]at H
   have c3b0:decide (a0≤122)=false:=decide_eq_false c3;clear c3;by_cases c4:a0≥65
   ·rw[if_pos c4]at H
    have c4b0:decide (65≤a0)=true:=decide_eq_true c4;clear c4;by_cases c5:a0≤90
    ·rw[if_pos c5]at H
     have c5b0:decide (a0≤90)=true:=decide_eq_true c5;clear c5;obtain rfl:=Option.some.inj H;go_enter Try.func71,Try.ntmps71
     go_wp2
     go_ret;exact⟨by first|rfl|(simp;done)|(simp[*];done),by repeat(first|exact Drawn0.refl _|apply Drawn0.step)⟩
    ·rw[if_neg c5]at H
     have c5b0:decide (a0≤90)=false:=decide_eq_false c5;clear c5;obtain rfl:=Option.some.inj H;go_enter Try.func71,Try.ntmps71
     go_wp2
     go_ret;exact⟨by first|rfl|(simp;done)|(simp[*];done),by repeat(first|exact Drawn0.refl _|apply Drawn0.step)⟩
   ·rw[if_neg c4]at H
    have c4b0:decide (65≤a0)=false:=decide_eq_false c4;clear c4;obtain rfl:=Option.some.inj H;go_enter Try.func71,Try.ntmps71
    go_wp2
    go_ret;exact⟨by first|rfl|(simp;done)|(simp[*];done),by repeat(first|exact Drawn0.refl _|apply Drawn0.step)⟩
 ·rw[if_neg c2]at H
  have c2b0:decide (97≤a0)=false:=decide_eq_false c2;clear c2;by_cases c6:a0≥65
  ·rw[if_pos c6]at H
   have c6b0:decide (65≤a0)=true:=decide_eq_true c6;clear c6;by_cases c7:a0≤90
   ·rw[if_pos c7]at H
    have c7b0:decide (a0≤90)=true:=decide_eq_true c7;clear c7;obtain rfl:=Option.some.inj H;go_enter Try.func71,Try.ntmps71
    go_wp2
    go_ret;exact⟨by first|rfl|(simp;done)|(simp[*];done),by repeat(first|exact Drawn0.refl _|apply Drawn0.step)⟩
   ·rw[if_neg c7]at H
    have c7b0:decide (a0≤90)=false:=decide_eq_false c7;clear c7;obtain rfl:=Option.some.inj H;go_enter Try.func71,Try.ntmps71
    go_wp2
    go_ret;exact⟨by first|rfl|(simp;done)|(simp[*];done),by repeat(first|exact Drawn0.refl _|apply Drawn0.step)⟩
  ·rw[if_neg c6]at H
   have c6b0:decide (65≤a0)=false:=decide_eq_false c6;clear c6;obtain rfl:=Option.some.inj H;go_enter Try.func71,Try.ntmps71
   go_wp2
   go_ret;exact⟨by first|rfl|(simp;done)|(simp[*];done),by repeat(first|exact Drawn0.refl _|apply Drawn0.step)⟩


/-! ### z72_: function 72 -/
def z72_.f (a0:Int):Option (Bool):=if a0≥48 then(some (decide (a0≤57)))else(some false)
set_option maxHeartbeats 8000000 in
set_option maxRecDepth 100000 in
theorem z72_.calls (a0:Int) (r:Bool) (w:World) (h:z72_.f a0=some r) :
  Calls Try.prog 72 #[.int .u8 a0] w fun e w' => e= .returned (.bool r)∧Drawn0 w w' := by
 have H:(if a0≥48 then(some (decide (a0≤57)))else(some false))=some r:=h
 clear h
 by_cases c2:a0≥48
 ·rw[if_pos c2]at H
  have c2b0:decide (48≤a0)=true:=decide_eq_true c2;clear c2;obtain rfl:=Option.some.inj H;go_enter Try.func72,Try.ntmps72
  go_wp2
  go_ret;exact⟨by first|rfl|(simp;done)|(simp[*];done),by repeat(first|exact Drawn0.refl _|apply Drawn0.step)⟩
 ·rw[if_neg c2]at H
  have c2b0:decide (48≤a0)=false:=decide_eq_false c2;clear c2;obtain rfl:=Option.some.inj H;go_enter Try.func72,Try.ntmps72
  go_wp2
  go_ret;exact⟨by first|rfl|(simp;done)|(simp[*];done),by repeat(first|exact Drawn0.refl _|apply Drawn0.step)⟩


/-! ### z58_: function 58 -/
mutual
def z58_.j0:Nat→ByteArray→Bool→Option (Bool)
 | 0,_,_=>none
 | k+1,x0,x17=>if x17=true then(some false)else(z58_.l0 k x0 1)
def z58_.l0:Nat→ByteArray→Int→Option (Bool)
 | 0,_,_=>none
 | k+1,x0,x3=>if x3 < (x0.size:Int)then(if 0≤x3 then((z71_.f (bt x0 x3)).bind fun t102=>(if t102=true then(z58_.l0 k x0 (wrap64 (x3+1)))else((z72_.f (bt x0 x3)).bind fun t103=>(if t103=true then(z58_.l0 k x0 (wrap64 (x3+1)))else(some false)))))else(none))else(some true)
end
def z58_.f (k:Nat) (a0:ByteArray):Option (Bool):=if(a0.size:Int) < 1 then(z58_.j0 k a0 true)else(if(a0.size:Int) > 40 then(z58_.j0 k a0 true)else(if 0 < (a0.size:Int)then((z71_.f (bt a0 0)).bind fun t101=>(z58_.j0 k a0 (!t101)))else(none)))
theorem z58_.mono_l:∀ k,(∀ y0 y1,LeO (z58_.j0 k y0 y1) (z58_.j0 (k+1) y0 y1))∧(∀ y0 y1,LeO (z58_.l0 k y0 y1) (z58_.l0 (k+1) y0 y1))
 | 0=>⟨fun _ _ r h=>by simp[z58_.j0]at h,fun _ _ r h=>by simp[z58_.l0]at h⟩
 | k+1=>by
  obtain⟨ih0,ih1⟩:=z58_.mono_l k;refine⟨?_,?_⟩
  ·intro y0 y1
   unfold z58_.j0
   repeat' first
   | (with_reducible exact ih0 _ _)
   | (with_reducible exact ih1 _ _)
   | (with_reducible exact LeO.refl _)
   | (with_reducible exact LeO.none _)
   | (with_reducible refine LeO.ite ?_ ?_)
   | (with_reducible refine LeO.bind ?_ (fun _=> ?_))
   | exact ih0 _ _
   | exact ih1 _ _
   | exact LeO.none _
   | refine LeO.ite ?_ ?_
   | refine LeO.bind ?_ (fun _=> ?_)
  ·intro y0 y1
   unfold z58_.l0
   repeat' first
   | (with_reducible exact ih0 _ _)
   | (with_reducible exact ih1 _ _)
   | (with_reducible exact LeO.refl _)
   | (with_reducible exact LeO.none _)
   | (with_reducible refine LeO.ite ?_ ?_)
   | (with_reducible refine LeO.bind ?_ (fun _=> ?_))
   | exact ih0 _ _
   | exact ih1 _ _
   | exact LeO.none _
   | refine LeO.ite ?_ ?_
   | refine LeO.bind ?_ (fun _=> ?_)
theorem z58_.mono:∀ a0 k,LeO (z58_.f k a0) (z58_.f (k+1) a0):=by
 intro a0 k
 obtain⟨ih0,ih1⟩:=z58_.mono_l k
 unfold z58_.f
 repeat' first
   | (with_reducible exact ih0 _ _)
   | (with_reducible exact ih1 _ _)
   | (with_reducible exact LeO.refl _)
   | (with_reducible exact LeO.none _)
   | (with_reducible refine LeO.ite ?_ ?_)
   | (with_reducible refine LeO.bind ?_ (fun _=> ?_))
   | exact ih0 _ _
   | exact ih1 _ _
   | exact LeO.none _
   | refine LeO.ite ?_ ?_
   | refine LeO.bind ?_ (fun _=> ?_)
set_option maxHeartbeats 8000000 in
set_option maxRecDepth 100000 in
theorem z58_.calls (k:Nat) (a0:ByteArray) (r:Bool) (w:World) (h:z58_.f k a0=some r) :
  Calls Try.prog 58 #[.string a0] w fun e w' => e= .returned (.bool r)∧Drawn0 w w' := by
 have H:(if(a0.size:Int) < 1 then(z58_.j0 k a0 true)else(if(a0.size:Int) > 40 then(z58_.j0 k a0 true)else(if 0 < (a0.size:Int)then((z71_.f (bt a0 0)).bind fun t101=>(z58_.j0 k a0 (!t101)))else(none))))=some r:=h
 clear h
 have HC2:=qM_ H
 clear H
 go_enter Try.func58,Try.ntmps58
 go_upto_region 1 with (fail)
 go_cut [17] (fun v17 wc=>∃(kq:Nat) (x17_1:Bool),v17= .bool x17_1∧Aside0 (z58_.j0 kq a0 x17_1=some r)∧Aside0 (kq≤k)∧Drawn0 w wc)
 case first =>
  have H:=HC2.out;clear HC2;by_cases c3:(a0.size:Int) < 1
  ·rw[if_pos c3]at H
   have c3b0:decide ((a0.size:Int) < 1)=true:=decide_eq_true c3;have c3b1:decide (a0.size < 1)=true:=decide_eq_true (by omega);clear c3
   (first|rw[c3b0]|(simp only[i64_w,i32_w];rw[c3b0])|skip)
   have H' := qM_ H;clear H
   go_wp2
   go_meet
   case rel=>exact⟨_,(true),qff_,H', ⟨by first|omega|exact Nat.le_refl _⟩,by repeat(first|exact Drawn0.refl _|apply Drawn0.step)⟩
  ·rw[if_neg c3]at H
   have c3b0:decide ((a0.size:Int) < 1)=false:=decide_eq_false c3;have c3b1:decide (a0.size < 1)=false:=decide_eq_false (by omega);clear c3
   (first|rw[c3b0]|(simp only[i64_w,i32_w];rw[c3b0])|skip)
   by_cases c4:(a0.size:Int) > 40
   ·rw[if_pos c4]at H
    have c4b0:decide (40 < (a0.size:Int))=true:=decide_eq_true c4;have c4b1:decide (40 < a0.size)=true:=decide_eq_true (by omega);clear c4;have H' := qM_ H;clear H
    go_wp2
    go_meet
    case rel=>exact⟨_,(true),qff_,H', ⟨by first|omega|exact Nat.le_refl _⟩,by repeat(first|exact Drawn0.refl _|apply Drawn0.step)⟩
   ·rw[if_neg c4]at H
    have c4b0:decide (40 < (a0.size:Int))=false:=decide_eq_false c4;have c4b1:decide (40 < a0.size)=false:=decide_eq_false (by omega);clear c4;by_cases c5:0 < (a0.size:Int)
    ·rw[if_pos c5]at H
     have c5b0:decide (0 < (a0.size:Int))=true:=decide_eq_true c5;have c5b1:decide (0 < a0.size)=true:=decide_eq_true (by omega);clear c5;replace H:=Option.bind_eq_some_iff.mp H;obtain⟨t101,A70,H⟩:=H;have A7:=qM_ A70;clear A70;have H' := qM_ H;clear H;have p6:0≤(0:Int):=(by omega);have q6:0 < a0.size:=(by have:(0:Int) < (a0.size:Int):=qd_;omega)
     have hx6:∀ h:0 < a0.size,((a0[0]'h).toNat:Int)=bt a0 0:=bt_at a0 0
     clear p6;have qi6:(0 < (a0.size:Int))=True:=eq_true (qd_);replace q6:=eq_true q6
     go_wp2_with (first|(go_at_call 71;(with_reducible refine(z71_.calls (bt a0 0) t101 _ A7.out).mono ?_);rintro e w' ⟨rfl,⟨nd,rfl⟩⟩))
     go_meet
     case rel=>exact⟨_,(!t101),qff_,H', ⟨by first|omega|exact Nat.le_refl _⟩,by repeat(first|exact Drawn0.refl _|apply Drawn0.step)⟩
    ·rw[if_neg c5]at H
     exact absurd H (by simp)
 case rest =>
  clear HC2
  try clear p2
  try clear c3
  try clear c3b0
  try clear c3b1
  try clear c4
  try clear c4b0
  try clear c4b1
  try clear c5
  try clear c5b0
  try clear c5b1
  try clear p6
  try clear q6
  try clear hx6
  try clear qi6
  try clear p6
  try clear q6
  obtain⟨kq,x17_1,rfl,HA,HJ1,⟨mc1,rfl⟩⟩:=hcut
  cases kq with
  | zero=>exact absurd HA.out (by simp[z58_.j0])
  | succ kj1 =>
   have H:=HA.out;clear HA;simp only[z58_.j0]at H;by_cases c8:x17_1=true
   ·subst c8
    have H1:(some false)=some r:=by rw[if_pos rfl]at H;exact H
    clear H;have H:=H1;clear H1;obtain rfl:=Option.some.inj H
    go_wp2
    go_ret;exact⟨by first|rfl|(simp;done)|(simp[*];done),by repeat(first|exact Drawn0.refl _|apply Drawn0.step)⟩
   ·replace c8:=Bool.eq_false_iff.mpr c8
    subst c8
    have H1:(z58_.l0 kj1 a0 1)=some r:=by rw[if_neg (show ¬(false=true)by decide)]at H;exact H
    clear H;have H:=H1;clear H1;have H' := qM_ H;clear H
    go_wp2
    go_loopg [3] kj1 (fun kq v3 w' => ∃(x3_2:Int),v3= .int .i64 x3_2∧Aside0 (z58_.l0 kq a0 x3_2=some r)∧Aside0 (kq≤kj1)∧Drawn0 w w')
    case atStart=>exact⟨(1),qff_,H', ⟨Nat.le_refl _⟩,by repeat(first|exact Drawn0.refl _|apply Drawn0.step)⟩
    case round =>
     clear H'
     try clear c1
     try clear p2
     try clear c3
     try clear c3b0
     try clear c3b1
     try clear c4
     try clear c4b0
     try clear c4b1
     try clear c5
     try clear c5b0
     try clear c5b1
     try clear p6
     try clear q6
     try clear hx6
     try clear qi6
     try clear c8
     try clear p2
     try clear p6
     try clear q6
     obtain⟨x3_2,rfl,HA,HK2,⟨m2,rfl⟩⟩:=hrel
     cases gk with
     | zero=>exact absurd HA.out (by simp[z58_.l0])
     | succ k2 =>
      have H:=HA.out;clear HA;simp only[z58_.l0]at H;by_cases c9:x3_2 < (a0.size:Int)
      ·rw[if_pos c9]at H
       have c9b0:decide (x3_2 < (a0.size:Int))=true:=decide_eq_true c9;clear c9;by_cases c10:0≤x3_2
       ·rw[if_pos c10]at H
        have c10b0:decide (0≤x3_2)=true:=decide_eq_true c10;clear c10;replace H:=Option.bind_eq_some_iff.mp H;obtain⟨t102,A120,H⟩:=H;have A12:=qM_ A120;clear A120;by_cases c13:t102=true
        ·subst c13
         have H1:(z58_.l0 k2 a0 (wrap64 (x3_2+1)))=some r:=by rw[if_pos rfl]at H;exact H
         clear H;have H:=H1;clear H1;have H' := qM_ H;clear H;have p11:0≤(x3_2:Int):=qd_;have q11:x3_2 < (a0.size:Int):=qd_;have hx11:=bt_at a0 x3_2;replace p11:=eq_true p11;replace q11:=eq_true q11
         go_wp2_with (first|((with_reducible refine gate_callee (f:=71) rfl ?_);refine goesL_ (some 27) rfl rfl Try.func71 qK rfl #[.int .u8 (bt a0 x3_2)] rfl qll_ ?_;(with_reducible refine(z71_.calls (bt a0 x3_2) true _ A12.out).mono ?_);rintro e w' ⟨rfl,⟨nd,rfl⟩⟩;refine⟨_,rfl,?_⟩))
         go_roundg k2
         case measure=>have:=HJ1.out;have:=HK2.out;omega
         case rel=>exact⟨(wrap64 (x3_2+1)),qff_,H', ⟨by have:=HJ1.out;have:=HK2.out;omega⟩,by repeat(first|exact Drawn0.refl _|apply Drawn0.step)⟩
        ·replace c13:=Bool.eq_false_iff.mpr c13
         subst c13
         have H1:((z72_.f (bt a0 x3_2)).bind fun t103=>(if t103=true then(z58_.l0 k2 a0 (wrap64 (x3_2+1)))else(some false)))=some r:=by rw[if_neg (show ¬(false=true)by decide)]at H;exact H
         clear H;have H:=H1;clear H1;replace H:=Option.bind_eq_some_iff.mp H;obtain⟨t103,A150,H⟩:=H;have A15:=qM_ A150;clear A150;by_cases c16:t103=true
         ·subst c16
          have H1:(z58_.l0 k2 a0 (wrap64 (x3_2+1)))=some r:=by rw[if_pos rfl]at H;exact H
          clear H;have H:=H1;clear H1;have H' := qM_ H;clear H;have p11:0≤(x3_2:Int):=qd_;have q11:x3_2 < (a0.size:Int):=qd_;have hx11:=bt_at a0 x3_2;replace p11:=eq_true p11;replace q11:=eq_true q11
          go_wp2_with (first|((with_reducible refine gate_callee (f:=71) rfl ?_);refine goesL_ (some 27) rfl rfl Try.func71 qK rfl #[.int .u8 (bt a0 x3_2)] rfl qll_ ?_;(with_reducible refine(z71_.calls (bt a0 x3_2) false _ A12.out).mono ?_);rintro e w' ⟨rfl,⟨nd,rfl⟩⟩;refine⟨_,rfl,?_⟩;have p14:0≤(x3_2:Int):=qd_;have q14:x3_2 < (a0.size:Int):=qd_;have hx14:=bt_at a0 x3_2;replace p14:=eq_true p14;replace q14:=eq_true q14)|(go_at_call 72;(with_reducible refine(z72_.calls (bt a0 x3_2) true _ A15.out).mono ?_);rintro e w' ⟨rfl,⟨nd,rfl⟩⟩))
          go_roundg k2
          case measure=>have:=HJ1.out;have:=HK2.out;omega
          case rel=>exact⟨(wrap64 (x3_2+1)),qff_,H', ⟨by have:=HJ1.out;have:=HK2.out;omega⟩,by repeat(first|exact Drawn0.refl _|apply Drawn0.step)⟩
         ·replace c16:=Bool.eq_false_iff.mpr c16
          subst c16
          have H1:(some false)=some r:=by rw[if_neg (show ¬(false=true)by decide)]at H;exact H
          clear H;have H:=H1;clear H1;obtain rfl:=Option.some.inj H;have p11:0≤(x3_2:Int):=qd_;have q11:x3_2 < (a0.size:Int):=qd_;have hx11:=bt_at a0 x3_2;replace p11:=eq_true p11;replace q11:=eq_true q11
          go_wp2_with (first|((with_reducible refine gate_callee (f:=71) rfl ?_);refine goesL_ (some 27) rfl rfl Try.func71 qK rfl #[.int .u8 (bt a0 x3_2)] rfl qll_ ?_;(with_reducible refine(z71_.calls (bt a0 x3_2) false _ A12.out).mono ?_);rintro e w' ⟨rfl,⟨nd,rfl⟩⟩;refine⟨_,rfl,?_⟩;have p14:0≤(x3_2:Int):=qd_;have q14:x3_2 < (a0.size:Int):=qd_;have hx14:=bt_at a0 x3_2;replace p14:=eq_true p14;replace q14:=eq_true q14)|(go_at_call 72;(with_reducible refine(z72_.calls (bt a0 x3_2) false _ A15.out).mono ?_);rintro e w' ⟨rfl,⟨nd,rfl⟩⟩))
          go_ret;exact⟨by first|rfl|(simp;done)|(simp[*];done),by repeat(first|exact Drawn0.refl _|apply Drawn0.step)⟩
       ·rw[if_neg c10]at H
        exact absurd H (by simp)
      ·rw[if_neg c9]at H
       have c9b0:decide (x3_2 < (a0.size:Int))=false:=decide_eq_false c9;clear c9;obtain rfl:=Option.some.inj H
       go_wp2
       go_ret;exact⟨by first|rfl|(simp;done)|(simp[*];done),by repeat(first|exact Drawn0.refl _|apply Drawn0.step)⟩


/-! ### z36_: function 36 -/
def z36_.f (k:Nat) (a0:ByteArray):Option (Bool):=(z58_.f k a0).bind fun t101=>(some t101)
theorem z36_.mono:∀ a0 k,LeO (z36_.f k a0) (z36_.f (k+1) a0):=by
 intro a0 k
 unfold z36_.f
 repeat' first
   | (with_reducible exact z58_.mono _ _)
   | (with_reducible exact LeO.refl _)
   | (with_reducible exact LeO.none _)
   | (with_reducible refine LeO.ite ?_ ?_)
   | (with_reducible refine LeO.bind ?_ (fun _=> ?_))
   | exact z58_.mono _ _
   | exact LeO.none _
   | refine LeO.ite ?_ ?_
   | refine LeO.bind ?_ (fun _=> ?_)
set_option maxHeartbeats 8000000 in
set_option maxRecDepth 100000 in
theorem z36_.calls (k:Nat) (a0:ByteArray) (r:Bool) (w:World) (h:z36_.f k a0=some r) :
  Calls Try.prog 36 #[.string a0] w fun e w' => e= .returned (.bool r)∧Drawn0 w w' := by
 have H:((z58_.f k a0).bind fun t101=>(some t101))=some r:=h
 clear h
 replace H:=Option.bind_eq_some_iff.mp H
 obtain⟨t101,A20,H⟩:=H
 have A2:=qM_ A20
 clear A20
 obtain rfl:=Option.some.inj H
 go_enter Try.func36,Try.ntmps36
 go_wp2_with (first|((with_reducible refine gate_callee (f:=58) rfl ?_);refine goesL_ (some 4) rfl rfl Try.func58 qK rfl #[.string a0] rfl qll_ ?_;(with_reducible refine(z58_.calls k a0 t101 _ A2.out).mono ?_);rintro e w' ⟨rfl,⟨nd,rfl⟩⟩;refine⟨_,rfl,?_⟩))
 go_ret
 exact⟨by first|rfl|(simp;done)|(simp[*];done),by repeat(first|exact Drawn0.refl _|apply Drawn0.step)⟩


/-! ### z20_: function 20 -/
mutual
def z20_.j0:Nat→Bool→Int→Int→Int→Int→ByteArray→List (S54)→Option (Bool)
 | 0,_,_,_,_,_,_,_=>none
 | k+1,x13,x102000,x102001,x102002,x102003,x102004,x102005=>if x13=true then(some false)else(z20_.l0 k 0 x102000 x102001 x102002 x102003 x102004 x102005)
def z20_.l0:Nat→Int→Int→Int→Int→Int→ByteArray→List (S54)→Option (Bool)
 | 0,_,_,_,_,_,_,_=>none
 | k+1,x3,x102000,x102001,x102002,x102003,x102004,x102005=>if x3 < (x102005.length:Int)then(if 0≤x3 then((z37_.f (((rd_T54 x102005 x3).f0).size:Int) 1 200).bind fun t104=>(if t104=true then(if(((rd_T54 x102005 x3).f1).size:Int) > 4000 then(some false)else(z20_.l0 k (wrap64 (x3+1)) x102000 x102001 x102002 x102003 x102004 x102005))else(some false)))else(none))else(if x102000=1 then(z20_.j2 k x102000 (x102000 == 1) x102000 x102001 x102002 x102003 x102004 x102005)else(z20_.j2 k x102000 (x102000 == 4) x102000 x102001 x102002 x102003 x102004 x102005))
def z20_.j2:Nat→Int→Bool→Int→Int→Int→Int→ByteArray→List (S54)→Option (Bool)
 | 0,_,_,_,_,_,_,_,_=>none
 | k+1,x41,x42,x102000,x102001,x102002,x102003,x102004,x102005=>if x42=true then(if x102001=0 then(if x102002=0 then(if x102003=0 then(some ((x102005.length:Int) == 0))else(some false))else(some false))else(some false))else(if x41=2 then(if x102001=0 then(if x102002=0 then(if x102003=0 then(some (decide ((x102005.length:Int) > 0)))else(some false))else(some false))else(some false))else(if x41=3 then((z37_.f x102001 1 1000).bind fun t106=>(if t106=true then((z37_.f x102002 1 3).bind fun t107=>(if t107=true then((z37_.f x102003 0 31).bind fun t108=>(if t108=true then(some ((x102005.length:Int) == 0))else(some false)))else(some false)))else(some false)))else(some false)))
end
def z20_.f (k:Nat) (a0_0:Int) (a0_1:Int) (a0_2:Int) (a0_3:Int) (a0_4:ByteArray) (l0_5:List (S54)):Option (Bool):=(z36_.f k a0_4).bind fun t102=>(if t102=true then(z20_.j0 k (decide ((l0_5.length:Int) > 20)) a0_0 a0_1 a0_2 a0_3 a0_4 l0_5)else(z20_.j0 k true a0_0 a0_1 a0_2 a0_3 a0_4 l0_5))
theorem z20_.mono_l:∀ k,(∀ y0 y1 y2 y3 y4 y5 y6,LeO (z20_.j0 k y0 y1 y2 y3 y4 y5 y6) (z20_.j0 (k+1) y0 y1 y2 y3 y4 y5 y6))∧(∀ y0 y1 y2 y3 y4 y5 y6,LeO (z20_.l0 k y0 y1 y2 y3 y4 y5 y6) (z20_.l0 (k+1) y0 y1 y2 y3 y4 y5 y6))∧(∀ y0 y1 y2 y3 y4 y5 y6 y7,LeO (z20_.j2 k y0 y1 y2 y3 y4 y5 y6 y7) (z20_.j2 (k+1) y0 y1 y2 y3 y4 y5 y6 y7))
 | 0=>⟨fun _ _ _ _ _ _ _ r h=>by simp[z20_.j0]at h,fun _ _ _ _ _ _ _ r h=>by simp[z20_.l0]at h,fun _ _ _ _ _ _ _ _ r h=>by simp[z20_.j2]at h⟩
 | k+1=>by
  obtain⟨ih0,ih1,ih2⟩:=z20_.mono_l k;refine⟨?_,?_,?_⟩
  ·intro y0 y1 y2 y3 y4 y5 y6
   unfold z20_.j0
   repeat' first
   | (with_reducible exact ih0 _ _ _ _ _ _ _)
   | (with_reducible exact ih1 _ _ _ _ _ _ _)
   | (with_reducible exact ih2 _ _ _ _ _ _ _ _)
   | (with_reducible exact z36_.mono _ _)
   | (with_reducible exact LeO.refl _)
   | (with_reducible exact LeO.none _)
   | (with_reducible refine LeO.ite ?_ ?_)
   | (with_reducible refine LeO.bind ?_ (fun _=> ?_))
   | exact ih0 _ _ _ _ _ _ _
   | exact ih1 _ _ _ _ _ _ _
   | exact ih2 _ _ _ _ _ _ _ _
   | exact z36_.mono _ _
   | exact LeO.none _
   | refine LeO.ite ?_ ?_
   | refine LeO.bind ?_ (fun _=> ?_)
  ·intro y0 y1 y2 y3 y4 y5 y6
   unfold z20_.l0
   repeat' first
   | (with_reducible exact ih0 _ _ _ _ _ _ _)
   | (with_reducible exact ih1 _ _ _ _ _ _ _)
   | (with_reducible exact ih2 _ _ _ _ _ _ _ _)
   | (with_reducible exact z36_.mono _ _)
   | (with_reducible exact LeO.refl _)
   | (with_reducible exact LeO.none _)
   | (with_reducible refine LeO.ite ?_ ?_)
   | (with_reducible refine LeO.bind ?_ (fun _=> ?_))
   | exact ih0 _ _ _ _ _ _ _
   | exact ih1 _ _ _ _ _ _ _
   | exact ih2 _ _ _ _ _ _ _ _
   | exact z36_.mono _ _
   | exact LeO.none _
   | refine LeO.ite ?_ ?_
   | refine LeO.bind ?_ (fun _=> ?_)
  ·intro y0 y1 y2 y3 y4 y5 y6 y7
   unfold z20_.j2
   repeat' first
   | (with_reducible exact ih0 _ _ _ _ _ _ _)
   | (with_reducible exact ih1 _ _ _ _ _ _ _)
   | (with_reducible exact ih2 _ _ _ _ _ _ _ _)
   | (with_reducible exact z36_.mono _ _)
   | (with_reducible exact LeO.refl _)
   | (with_reducible exact LeO.none _)
   | (with_reducible refine LeO.ite ?_ ?_)
   | (with_reducible refine LeO.bind ?_ (fun _=> ?_))
   | exact ih0 _ _ _ _ _ _ _
   | exact ih1 _ _ _ _ _ _ _
   | exact ih2 _ _ _ _ _ _ _ _
   | exact z36_.mono _ _
   | exact LeO.none _
   | refine LeO.ite ?_ ?_
   | refine LeO.bind ?_ (fun _=> ?_)
theorem z20_.mono:∀ a0 a1 a2 a3 a4 a5 k,LeO (z20_.f k a0 a1 a2 a3 a4 a5) (z20_.f (k+1) a0 a1 a2 a3 a4 a5):=by
 intro a0 a1 a2 a3 a4 a5 k
 obtain⟨ih0,ih1,ih2⟩:=z20_.mono_l k
 unfold z20_.f
 repeat' first
   | (with_reducible exact ih0 _ _ _ _ _ _ _)
   | (with_reducible exact ih1 _ _ _ _ _ _ _)
   | (with_reducible exact ih2 _ _ _ _ _ _ _ _)
   | (with_reducible exact z36_.mono _ _)
   | (with_reducible exact LeO.refl _)
   | (with_reducible exact LeO.none _)
   | (with_reducible refine LeO.ite ?_ ?_)
   | (with_reducible refine LeO.bind ?_ (fun _=> ?_))
   | exact ih0 _ _ _ _ _ _ _
   | exact ih1 _ _ _ _ _ _ _
   | exact ih2 _ _ _ _ _ _ _ _
   | exact z36_.mono _ _
   | exact LeO.none _
   | refine LeO.ite ?_ ?_
   | refine LeO.bind ?_ (fun _=> ?_)
set_option maxHeartbeats 8000000 in
set_option maxRecDepth 100000 in
theorem z20_.calls (k:Nat) (a0_0:Int) (a0_1:Int) (a0_2:Int) (a0_3:Int) (a0_4:ByteArray) (A0_5:Option Addr) (c0_5:Nat) (l0_5:List (S54)) (r:Bool) (w:World) (hr0_5:Kd.C k54 w A0_5 l0_5.length l0_5) (hc0_5:l0_5.length≤c0_5) (h:z20_.f k a0_0 a0_1 a0_2 a0_3 a0_4 l0_5=some r) :
  Calls Try.prog 20 #[.agg #[.int .i64 a0_0,.int .i64 a0_1,.int .i64 a0_2,.int .i64 a0_3,.string a0_4,.slice A0_5 l0_5.length c0_5]] w fun e w' => e= .returned (.bool r)∧Below w.heap.size w w' := by
 have hu31:=Try.underlying31
 have HR0_5:=qM_ hr0_5
 have HC0_5:=qM_ hc0_5
 clear hr0_5 hc0_5
 have HB:=qM_ (Below.refl w.heap.size w)
 have H:((z36_.f k a0_4).bind fun t102=>(if t102=true then(z20_.j0 k (decide ((l0_5.length:Int) > 20)) a0_0 a0_1 a0_2 a0_3 a0_4 l0_5)else(z20_.j0 k true a0_0 a0_1 a0_2 a0_3 a0_4 l0_5)))=some r:=h
 clear h
 have HC2:=qM_ H
 clear H
 go_enter Try.func20,Try.ntmps20
 go_upto_region 1 with (first|((with_reducible refine gate_dst (N:=1) rfl ?_);(try(refine gate_guard (by rfl) ?_;dsimp only));refine box_event ?hg (N:=1) ?hd (cs:=#[.int .i64 a0_0,.int .i64 a0_1,.int .i64 a0_2,.int .i64 a0_3,.string a0_4,.slice A0_5 l0_5.length c0_5]) (t:=31) ?hr ?_;(case hd=>rfl);(case hg=>rfl);(case hr=>first|(go_simp;done)|(go_simp;rfl));intro gb101 hg w3 hbox hb;have BK101:=qM_ (hbox);have GW101:=qM_ ((by rw[hg];exact(below_size qBHB):w.heap.size≤gb101));have GE101:=qM_ ((by rw[hg];exact(below_size qBHB):w.heap.size≤gb101));replace HB:=qM_ (below_step qBHB hb);clear hb hbox hg))
 (try simp only[Act.put,List.setIfInBounds_toArray,List.set_cons_zero,List.set_cons_succ])
 go_cut [13] (fun v13 wc=>∃(kq:Nat) (x13_1:Bool),v13= .bool x13_1∧Aside0 (z20_.j0 kq x13_1 a0_0 a0_1 a0_2 a0_3 a0_4 l0_5=some r)∧Aside0 (kq≤k)∧Aside0 (wc.heap[gb101]? = some (.cells #[.int .i64 a0_0,.int .i64 a0_1,.int .i64 a0_2,.int .i64 a0_3,.string a0_4,(.slice A0_5 l0_5.length c0_5)] 31 (0,0)))∧Aside0 (Below w.heap.size w wc))
 case first =>
  have H:=HC2.out;clear HC2;replace H:=Option.bind_eq_some_iff.mp H;obtain⟨t102,A40,H⟩:=H;have A4:=qM_ A40;clear A40;by_cases c5:t102=true
  ·subst c5
   have H1:(z20_.j0 k (decide ((l0_5.length:Int) > 20)) a0_0 a0_1 a0_2 a0_3 a0_4 l0_5)=some r:=by rw[if_pos rfl]at H;exact H
   clear H;have H:=H1;clear H1;have H' := qM_ H;clear H;obtain⟨hcz6_0,hcz6_1,hcz6_2,hcz6_3,hcz6_4,hcz6_5,hfz6_0⟩:=qc6_ BK101
   go_wp2_with (first|((with_reducible refine gate_callee (f:=36) rfl ?_);refine goesL_ (some 6) rfl rfl Try.func36 qK rfl #[.string a0_4] rfl qll_ ?_;(with_reducible refine(z36_.calls k a0_4 true _ A4.out).mono ?_);rintro e w' ⟨rfl,⟨nd,rfl⟩⟩;refine⟨_,rfl,?_⟩))
   go_meet
   case rel=>exact⟨_,(decide ((l0_5.length:Int) > 20)),qff_,H', ⟨by first|omega|exact Nat.le_refl _⟩,⟨qk_ BK101⟩,⟨qBHB⟩⟩
  ·replace c5:=Bool.eq_false_iff.mpr c5
   subst c5
   have H1:(z20_.j0 k true a0_0 a0_1 a0_2 a0_3 a0_4 l0_5)=some r:=by rw[if_neg (show ¬(false=true)by decide)]at H;exact H
   clear H;have H:=H1;clear H1;have H' := qM_ H;clear H;obtain⟨hcz7_0,hcz7_1,hcz7_2,hcz7_3,hcz7_4,hcz7_5,hfz7_0⟩:=qc6_ BK101
   go_wp2_with (first|((with_reducible refine gate_callee (f:=36) rfl ?_);refine goesL_ (some 6) rfl rfl Try.func36 qK rfl #[.string a0_4] rfl qll_ ?_;(with_reducible refine(z36_.calls k a0_4 false _ A4.out).mono ?_);rintro e w' ⟨rfl,⟨nd,rfl⟩⟩;refine⟨_,rfl,?_⟩))
   go_meet
   case rel=>exact⟨_,(true),qff_,H', ⟨by first|omega|exact Nat.le_refl _⟩,⟨qk_ BK101⟩,⟨qBHB⟩⟩
 case rest =>
  clear HC2
  try clear c2
  try clear p2
  try clear c3
  try clear c5
  try clear hcz6_0 hcz6_1 hcz6_2 hcz6_3 hcz6_4 hcz6_5
  try clear hcz7_0 hcz7_1 hcz7_2 hcz7_3 hcz7_4 hcz7_5
  try clear hfz6_0
  try clear hfz7_0
  obtain⟨kq,x13_1,rfl,HA,HJ1,BK101,HB⟩:=hcut
  cases kq with
  | zero=>exact absurd HA.out (by simp[z20_.j0])
  | succ kj1 =>
   have H:=HA.out;clear HA;simp only[z20_.j0]at H;by_cases c8:x13_1=true
   ·subst c8
    have H1:(some false)=some r:=by rw[if_pos rfl]at H;exact H
    clear H;have H:=H1;clear H1;obtain rfl:=Option.some.inj H
    go_wp2
    go_ret;exact⟨qee_,qBHB⟩
   ·replace c8:=Bool.eq_false_iff.mpr c8
    subst c8
    have H1:(z20_.l0 kj1 0 a0_0 a0_1 a0_2 a0_3 a0_4 l0_5)=some r:=by rw[if_neg (show ¬(false=true)by decide)]at H;exact H
    clear H;have H:=H1;clear H1;have H' := qM_ H;clear H
    go_wp2
    go_loopg [3] kj1 (fun kq v3 w' => ∃(x3_2:Int),v3= .int .i64 x3_2∧Aside0 (z20_.l0 kq x3_2 a0_0 a0_1 a0_2 a0_3 a0_4 l0_5=some r)∧Aside0 (kq≤kj1)∧Aside0 (w'.heap[gb101]? = some (.cells #[.int .i64 a0_0,.int .i64 a0_1,.int .i64 a0_2,.int .i64 a0_3,.string a0_4,(.slice A0_5 l0_5.length c0_5)] 31 (0,0)))∧Aside0 (Below w.heap.size w w'))
    case atStart=>exact⟨(0),qff_,H', ⟨Nat.le_refl _⟩,⟨qk_ BK101⟩,⟨qBHB⟩⟩
    case round =>
     clear H'
     try clear c2
     try clear p2
     try clear c3
     try clear c5
     try clear c8
     try clear hcz6_0 hcz6_1 hcz6_2 hcz6_3 hcz6_4 hcz6_5
     try clear hcz7_0 hcz7_1 hcz7_2 hcz7_3 hcz7_4 hcz7_5
     try clear hfz6_0
     try clear hfz7_0
     try clear p2
     obtain⟨x3_2,rfl,HA,HK2,BK101,HB⟩:=hrel
     cases gk with
     | zero=>exact absurd HA.out (by simp[z20_.l0])
     | succ k2 =>
      have H:=HA.out;clear HA;simp only[z20_.l0]at H;by_cases c9:x3_2 < (l0_5.length:Int)
      ·rw[if_pos c9]at H
       have c9b0:decide (x3_2 < (l0_5.length:Int))=true:=decide_eq_true c9;clear c9;by_cases c10:0≤x3_2
       ·rw[if_pos c10]at H
        have c10b0:decide (0≤x3_2)=true:=decide_eq_true c10;clear c10;replace H:=Option.bind_eq_some_iff.mp H;obtain⟨t104,A110,H⟩:=H;have A11:=qM_ A110;clear A110;by_cases c12:t104=true
        ·subst c12
         have H1:(if(((rd_T54 l0_5 x3_2).f1).size:Int) > 4000 then(some false)else(z20_.l0 k2 (wrap64 (x3_2+1)) a0_0 a0_1 a0_2 a0_3 a0_4 l0_5))=some r:=by rw[if_pos rfl]at H;exact H
         clear H;have H:=H1;clear H1;by_cases c13:(((rd_T54 l0_5 x3_2).f1).size:Int) > 4000
         ·rw[if_pos c13]at H
          have c13b0:decide (4000 < (((rd_T54 l0_5 x3_2).f1).size:Int))=true:=decide_eq_true c13;have c13b1:decide (4000 < ((rd_T54 l0_5 x3_2).f1).size)=true:=decide_eq_true (by omega);clear c13;obtain rfl:=Option.some.inj H;obtain⟨hcz14_0,hcz14_1,hcz14_2,hcz14_3,hcz14_4,hcz14_5,hfz14_0⟩:=qc6_ BK101;have p103:0≤(x3_2:Int):=qd_;have q103:x3_2 < (l0_5.length:Int):=qd_;obtain⟨ad103,e103,hx103_0,hx103_1⟩:=at_T54 HR0_5.out x3_2 p103 q103;cases e103;replace hx103_0:=(HB.out.cell (qL_ w _ hx103_0)).trans hx103_0;replace hx103_1:=(HB.out.cell (qL_ w _ hx103_1)).trans hx103_1;replace p103:=eq_true p103;replace q103:=eq_true q103
          go_wp2_with (first|((with_reducible refine gate_callee (f:=37) rfl ?_);refine goesL_ (some 28) rfl rfl Try.func37 qK rfl #[.int .i64 (((rd_T54 l0_5 x3_2).f0).size:Int),.int .i64 1,.int .i64 200] rfl qll_ ?_;(with_reducible refine(z37_.calls (((rd_T54 l0_5 x3_2).f0).size:Int) 1 200 true _ A11.out).mono ?_);rintro e w' ⟨rfl,⟨nd,rfl⟩⟩;refine⟨_,rfl,?_⟩;have p105:0≤(x3_2:Int):=qd_;have q105:x3_2 < (l0_5.length:Int):=qd_;obtain⟨ad105,e105,hx105_0,hx105_1⟩:=at_T54 HR0_5.out x3_2 p105 q105;obtain rfl:ad103=ad105:=(by injection e105);replace hx105_0:=(HB.out.cell (qL_ w _ hx105_0)).trans hx105_0;replace hx105_1:=(HB.out.cell (qL_ w _ hx105_1)).trans hx105_1;replace p105:=eq_true p105;replace q105:=eq_true q105))
          go_ret;exact⟨qee_,qBHB⟩
         ·rw[if_neg c13]at H
          have c13b0:decide (4000 < (((rd_T54 l0_5 x3_2).f1).size:Int))=false:=decide_eq_false c13;have c13b1:decide (4000 < ((rd_T54 l0_5 x3_2).f1).size)=false:=decide_eq_false (by omega);clear c13;have H' := qM_ H;clear H;obtain⟨hcz15_0,hcz15_1,hcz15_2,hcz15_3,hcz15_4,hcz15_5,hfz15_0⟩:=qc6_ BK101;have p103:0≤(x3_2:Int):=qd_;have q103:x3_2 < (l0_5.length:Int):=qd_;obtain⟨ad103,e103,hx103_0,hx103_1⟩:=at_T54 HR0_5.out x3_2 p103 q103;cases e103;replace hx103_0:=(HB.out.cell (qL_ w _ hx103_0)).trans hx103_0;replace hx103_1:=(HB.out.cell (qL_ w _ hx103_1)).trans hx103_1;replace p103:=eq_true p103;replace q103:=eq_true q103
          go_wp2_with (first|((with_reducible refine gate_callee (f:=37) rfl ?_);refine goesL_ (some 28) rfl rfl Try.func37 qK rfl #[.int .i64 (((rd_T54 l0_5 x3_2).f0).size:Int),.int .i64 1,.int .i64 200] rfl qll_ ?_;(with_reducible refine(z37_.calls (((rd_T54 l0_5 x3_2).f0).size:Int) 1 200 true _ A11.out).mono ?_);rintro e w' ⟨rfl,⟨nd,rfl⟩⟩;refine⟨_,rfl,?_⟩;have p105:0≤(x3_2:Int):=qd_;have q105:x3_2 < (l0_5.length:Int):=qd_;obtain⟨ad105,e105,hx105_0,hx105_1⟩:=at_T54 HR0_5.out x3_2 p105 q105;obtain rfl:ad103=ad105:=(by injection e105);replace hx105_0:=(HB.out.cell (qL_ w _ hx105_0)).trans hx105_0;replace hx105_1:=(HB.out.cell (qL_ w _ hx105_1)).trans hx105_1;replace p105:=eq_true p105;replace q105:=eq_true q105))
          go_roundg k2
          case measure=>have:=HJ1.out;have:=HK2.out;omega
          case rel=>exact⟨(wrap64 (x3_2+1)),qff_,H', ⟨by have:=HJ1.out;have:=HK2.out;omega⟩,⟨qk_ BK101⟩,⟨qBHB⟩⟩
        ·replace c12:=Bool.eq_false_iff.mpr c12
         subst c12
         have H1:(some false)=some r:=by rw[if_neg (show ¬(false=true)by decide)]at H;exact H
         clear H;have H:=H1;clear H1;obtain rfl:=Option.some.inj H;obtain⟨hcz16_0,hcz16_1,hcz16_2,hcz16_3,hcz16_4,hcz16_5,hfz16_0⟩:=qc6_ BK101;have p103:0≤(x3_2:Int):=qd_;have q103:x3_2 < (l0_5.length:Int):=qd_;obtain⟨ad103,e103,hx103_0,hx103_1⟩:=at_T54 HR0_5.out x3_2 p103 q103;cases e103;replace hx103_0:=(HB.out.cell (qL_ w _ hx103_0)).trans hx103_0;replace hx103_1:=(HB.out.cell (qL_ w _ hx103_1)).trans hx103_1;replace p103:=eq_true p103;replace q103:=eq_true q103
         go_wp2_with (first|((with_reducible refine gate_callee (f:=37) rfl ?_);refine goesL_ (some 28) rfl rfl Try.func37 qK rfl #[.int .i64 (((rd_T54 l0_5 x3_2).f0).size:Int),.int .i64 1,.int .i64 200] rfl qll_ ?_;(with_reducible refine(z37_.calls (((rd_T54 l0_5 x3_2).f0).size:Int) 1 200 false _ A11.out).mono ?_);rintro e w' ⟨rfl,⟨nd,rfl⟩⟩;refine⟨_,rfl,?_⟩))
         go_ret;exact⟨qee_,qBHB⟩
       ·rw[if_neg c10]at H
        exact absurd H (by simp)
      ·rw[if_neg c9]at H
       have c9b0:decide (x3_2 < (l0_5.length:Int))=false:=decide_eq_false c9;clear c9;have HC17:=qM_ H;clear H;obtain⟨hcz18_0,hcz18_1,hcz18_2,hcz18_3,hcz18_4,hcz18_5,hfz18_0⟩:=qc6_ BK101
       go_upto_if 42 with (fail)
       go_cut [42] (fun v42 wc=>∃(kq:Nat) (x42_16:Bool),v42= .bool x42_16∧Aside0 (z20_.j2 kq a0_0 x42_16 a0_0 a0_1 a0_2 a0_3 a0_4 l0_5=some r)∧Aside0 (kq≤k2)∧Aside0 (wc.heap[gb101]? = some (.cells #[.int .i64 a0_0,.int .i64 a0_1,.int .i64 a0_2,.int .i64 a0_3,.string a0_4,(.slice A0_5 l0_5.length c0_5)] 31 (0,0)))∧Aside0 (Below w.heap.size w wc))
       case first =>
        have H:=HC17.out;clear HC17;by_cases c19:a0_0=1
        ·rw[if_pos c19]at H
         have c19b0:(a0_0 == 1)=true:=beq_iff_eq.mpr c19;have c19b1:(a0_0 != 1)=false:=bne_eq_false_iff_eq.mpr c19;clear c19
         (first|rw[c19b0]|(simp only[i64_w,i32_w];rw[c19b0])|skip)
         have H' := qM_ H;clear H
         go_wp2
         go_meet
         case rel=>exact⟨_,((a0_0 == 1)),qff_,H', ⟨by have:=HJ1.out;have:=HK2.out;first|omega|exact Nat.le_refl _⟩,⟨qk_ BK101⟩,⟨qBHB⟩⟩
        ·rw[if_neg c19]at H
         have c19b0:(a0_0 == 1)=false:=beq_eq_false_iff_ne.mpr c19;have c19b1:(a0_0 != 1)=true:=bne_iff_ne.mpr c19
         (first|rw[c19b0]|(simp only[i64_w,i32_w];rw[c19b0])|skip)
         have H' := qM_ H;clear H
         go_wp2
         go_meet
         case rel=>exact⟨_,((a0_0 == 4)),qff_,H', ⟨by have:=HJ1.out;have:=HK2.out;first|omega|exact Nat.le_refl _⟩,⟨qk_ BK101⟩,⟨qBHB⟩⟩
       case rest =>
        clear HC17
        try clear c1
        try clear p1
        try clear q1
        try clear hx1
        try clear c2
        try clear p2
        try clear c3
        try clear c5
        try clear p6
        try clear c8
        try clear c9
        try clear c9b0
        try clear c10
        try clear c10b0
        try clear p10
        try clear q10
        try clear hx10
        try clear c12
        try clear c13
        try clear c13b0
        try clear c13b1
        try clear c19
        try clear c19b0
        try clear c19b1
        try clear hcz14_0 hcz14_1 hcz14_2 hcz14_3 hcz14_4 hcz14_5
        try clear hcz15_0 hcz15_1 hcz15_2 hcz15_3 hcz15_4 hcz15_5
        try clear hcz16_0 hcz16_1 hcz16_2 hcz16_3 hcz16_4 hcz16_5
        try clear hcz18_0 hcz18_1 hcz18_2 hcz18_3 hcz18_4 hcz18_5
        try clear hcz6_0 hcz6_1 hcz6_2 hcz6_3 hcz6_4 hcz6_5
        try clear hcz7_0 hcz7_1 hcz7_2 hcz7_3 hcz7_4 hcz7_5
        try clear hfz14_0
        try clear hfz15_0
        try clear hfz16_0
        try clear hfz18_0
        try clear hfz6_0
        try clear hfz7_0
        try clear hx103_0
        try clear hx103_1
        try clear hx105_0
        try clear hx105_1
        try clear p103
        try clear p105
        try clear p2
        try clear q103
        try clear q105
        obtain⟨kq,x42_16,rfl,HA,HJ16,BK101,HB⟩:=hcut
        cases kq with
        | zero=>exact absurd HA.out (by simp[z20_.j2])
        | succ kj16 =>
         have H:=HA.out;clear HA;simp only[z20_.j2]at H;by_cases c20:x42_16=true
         ·subst c20
          have H1:(if a0_1=0 then(if a0_2=0 then(if a0_3=0 then(some ((l0_5.length:Int) == 0))else(some false))else(some false))else(some false))=some r:=by rw[if_pos rfl]at H;exact H
          clear H;have H:=H1;clear H1;by_cases c21:a0_1=0
          ·rw[if_pos c21]at H
           have c21b0:(a0_1 == 0)=true:=beq_iff_eq.mpr c21;have c21b1:(a0_1 != 0)=false:=bne_eq_false_iff_eq.mpr c21;clear c21;by_cases c22:a0_2=0
           ·rw[if_pos c22]at H
            have c22b0:(a0_2 == 0)=true:=beq_iff_eq.mpr c22;have c22b1:(a0_2 != 0)=false:=bne_eq_false_iff_eq.mpr c22;clear c22;by_cases c23:a0_3=0
            ·rw[if_pos c23]at H
             have c23b0:(a0_3 == 0)=true:=beq_iff_eq.mpr c23;have c23b1:(a0_3 != 0)=false:=bne_eq_false_iff_eq.mpr c23;clear c23;obtain rfl:=Option.some.inj H;obtain⟨hcz24_0,hcz24_1,hcz24_2,hcz24_3,hcz24_4,hcz24_5,hfz24_0⟩:=qc6_ BK101
             go_wp2
             go_ret;exact⟨qee_,qBHB⟩
            ·rw[if_neg c23]at H
             have c23b0:(a0_3 == 0)=false:=beq_eq_false_iff_ne.mpr c23;have c23b1:(a0_3 != 0)=true:=bne_iff_ne.mpr c23;obtain rfl:=Option.some.inj H;obtain⟨hcz25_0,hcz25_1,hcz25_2,hcz25_3,hcz25_4,hcz25_5,hfz25_0⟩:=qc6_ BK101
             go_wp2
             go_ret;exact⟨qee_,qBHB⟩
           ·rw[if_neg c22]at H
            have c22b0:(a0_2 == 0)=false:=beq_eq_false_iff_ne.mpr c22;have c22b1:(a0_2 != 0)=true:=bne_iff_ne.mpr c22;obtain rfl:=Option.some.inj H;obtain⟨hcz26_0,hcz26_1,hcz26_2,hcz26_3,hcz26_4,hcz26_5,hfz26_0⟩:=qc6_ BK101
            go_wp2
            go_ret;exact⟨qee_,qBHB⟩
          ·rw[if_neg c21]at H
           have c21b0:(a0_1 == 0)=false:=beq_eq_false_iff_ne.mpr c21;have c21b1:(a0_1 != 0)=true:=bne_iff_ne.mpr c21;obtain rfl:=Option.some.inj H;obtain⟨hcz27_0,hcz27_1,hcz27_2,hcz27_3,hcz27_4,hcz27_5,hfz27_0⟩:=qc6_ BK101
           go_wp2
           go_ret;exact⟨qee_,qBHB⟩
         ·replace c20:=Bool.eq_false_iff.mpr c20
          subst c20
          have H1:(if a0_0=2 then(if a0_1=0 then(if a0_2=0 then(if a0_3=0 then(some (decide ((l0_5.length:Int) > 0)))else(some false))else(some false))else(some false))else(if a0_0=3 then((z37_.f a0_1 1 1000).bind fun t106=>(if t106=true then((z37_.f a0_2 1 3).bind fun t107=>(if t107=true then((z37_.f a0_3 0 31).bind fun t108=>(if t108=true then(some ((l0_5.length:Int) == 0))else(some false)))else(some false)))else(some false)))else(some false)))=some r:=by rw[if_neg (show ¬(false=true)by decide)]at H;exact H
          clear H;have H:=H1;clear H1;by_cases c28:a0_0=2
          ·rw[if_pos c28]at H
           have c28b0:(a0_0 == 2)=true:=beq_iff_eq.mpr c28;have c28b1:(a0_0 != 2)=false:=bne_eq_false_iff_eq.mpr c28;clear c28;by_cases c29:a0_1=0
           ·rw[if_pos c29]at H
            have c29b0:(a0_1 == 0)=true:=beq_iff_eq.mpr c29;have c29b1:(a0_1 != 0)=false:=bne_eq_false_iff_eq.mpr c29;clear c29;by_cases c30:a0_2=0
            ·rw[if_pos c30]at H
             have c30b0:(a0_2 == 0)=true:=beq_iff_eq.mpr c30;have c30b1:(a0_2 != 0)=false:=bne_eq_false_iff_eq.mpr c30;clear c30;by_cases c31:a0_3=0
             ·rw[if_pos c31]at H
              have c31b0:(a0_3 == 0)=true:=beq_iff_eq.mpr c31;have c31b1:(a0_3 != 0)=false:=bne_eq_false_iff_eq.mpr c31;clear c31;obtain rfl:=Option.some.inj H;obtain⟨hcz32_0,hcz32_1,hcz32_2,hcz32_3,hcz32_4,hcz32_5,hfz32_0⟩:=qc6_ BK101
              go_wp2
              go_ret;exact⟨qee_,qBHB⟩
             ·rw[if_neg c31]at H
              have c31b0:(a0_3 == 0)=false:=beq_eq_false_iff_ne.mpr c31;have c31b1:(a0_3 != 0)=true:=bne_iff_ne.mpr c31;obtain rfl:=Option.some.inj H;obtain⟨hcz33_0,hcz33_1,hcz33_2,hcz33_3,hcz33_4,hcz33_5,hfz33_0⟩:=qc6_ BK101
              go_wp2
              go_ret;exact⟨qee_,qBHB⟩
            ·rw[if_neg c30]at H
             have c30b0:(a0_2 == 0)=false:=beq_eq_false_iff_ne.mpr c30;have c30b1:(a0_2 != 0)=true:=bne_iff_ne.mpr c30;obtain rfl:=Option.some.inj H;obtain⟨hcz34_0,hcz34_1,hcz34_2,hcz34_3,hcz34_4,hcz34_5,hfz34_0⟩:=qc6_ BK101
             go_wp2
             go_ret;exact⟨qee_,qBHB⟩
           ·rw[if_neg c29]at H
            have c29b0:(a0_1 == 0)=false:=beq_eq_false_iff_ne.mpr c29;have c29b1:(a0_1 != 0)=true:=bne_iff_ne.mpr c29;obtain rfl:=Option.some.inj H;obtain⟨hcz35_0,hcz35_1,hcz35_2,hcz35_3,hcz35_4,hcz35_5,hfz35_0⟩:=qc6_ BK101
            go_wp2
            go_ret;exact⟨qee_,qBHB⟩
          ·rw[if_neg c28]at H
           have c28b0:(a0_0 == 2)=false:=beq_eq_false_iff_ne.mpr c28;have c28b1:(a0_0 != 2)=true:=bne_iff_ne.mpr c28;by_cases c36:a0_0=3
           ·rw[if_pos c36]at H
            have c36b0:(a0_0 == 3)=true:=beq_iff_eq.mpr c36;have c36b1:(a0_0 != 3)=false:=bne_eq_false_iff_eq.mpr c36;clear c36;replace H:=Option.bind_eq_some_iff.mp H;obtain⟨t106,A370,H⟩:=H;have A37:=qM_ A370;clear A370;by_cases c38:t106=true
            ·subst c38
             have H1:((z37_.f a0_2 1 3).bind fun t107=>(if t107=true then((z37_.f a0_3 0 31).bind fun t108=>(if t108=true then(some ((l0_5.length:Int) == 0))else(some false)))else(some false)))=some r:=by rw[if_pos rfl]at H;exact H
             clear H;have H:=H1;clear H1;replace H:=Option.bind_eq_some_iff.mp H;obtain⟨t107,A390,H⟩:=H;have A39:=qM_ A390;clear A390;by_cases c40:t107=true
             ·subst c40
              have H1:((z37_.f a0_3 0 31).bind fun t108=>(if t108=true then(some ((l0_5.length:Int) == 0))else(some false)))=some r:=by rw[if_pos rfl]at H;exact H
              clear H;have H:=H1;clear H1;replace H:=Option.bind_eq_some_iff.mp H;obtain⟨t108,A410,H⟩:=H;have A41:=qM_ A410;clear A410;by_cases c42:t108=true
              ·subst c42
               have H1:(some ((l0_5.length:Int) == 0))=some r:=by rw[if_pos rfl]at H;exact H
               clear H;have H:=H1;clear H1;obtain rfl:=Option.some.inj H;obtain⟨hcz43_0,hcz43_1,hcz43_2,hcz43_3,hcz43_4,hcz43_5,hfz43_0⟩:=qc6_ BK101
               go_wp2_with (first|((with_reducible refine gate_callee (f:=37) rfl ?_);refine goesL_ (some 89) rfl rfl Try.func37 qK rfl #[.int .i64 a0_1,.int .i64 1,.int .i64 1000] rfl qll_ ?_;(with_reducible refine(z37_.calls a0_1 1 1000 true _ A37.out).mono ?_);rintro e w' ⟨rfl,⟨nd,rfl⟩⟩;refine⟨_,rfl,?_⟩)|(go_at_call 37;(with_reducible refine(z37_.calls a0_2 1 3 true _ A39.out).mono ?_);rintro e w' ⟨rfl,⟨nd,rfl⟩⟩)|(go_at_call 37;(with_reducible refine(z37_.calls a0_3 0 31 true _ A41.out).mono ?_);rintro e w' ⟨rfl,⟨nd,rfl⟩⟩))
               go_ret;exact⟨qee_,qBHB⟩
              ·replace c42:=Bool.eq_false_iff.mpr c42
               subst c42
               have H1:(some false)=some r:=by rw[if_neg (show ¬(false=true)by decide)]at H;exact H
               clear H;have H:=H1;clear H1;obtain rfl:=Option.some.inj H;obtain⟨hcz44_0,hcz44_1,hcz44_2,hcz44_3,hcz44_4,hcz44_5,hfz44_0⟩:=qc6_ BK101
               go_wp2_with (first|((with_reducible refine gate_callee (f:=37) rfl ?_);refine goesL_ (some 89) rfl rfl Try.func37 qK rfl #[.int .i64 a0_1,.int .i64 1,.int .i64 1000] rfl qll_ ?_;(with_reducible refine(z37_.calls a0_1 1 1000 true _ A37.out).mono ?_);rintro e w' ⟨rfl,⟨nd,rfl⟩⟩;refine⟨_,rfl,?_⟩)|(go_at_call 37;(with_reducible refine(z37_.calls a0_2 1 3 true _ A39.out).mono ?_);rintro e w' ⟨rfl,⟨nd,rfl⟩⟩)|(go_at_call 37;(with_reducible refine(z37_.calls a0_3 0 31 false _ A41.out).mono ?_);rintro e w' ⟨rfl,⟨nd,rfl⟩⟩))
               go_ret;exact⟨qee_,qBHB⟩
             ·replace c40:=Bool.eq_false_iff.mpr c40
              subst c40
              have H1:(some false)=some r:=by rw[if_neg (show ¬(false=true)by decide)]at H;exact H
              clear H;have H:=H1;clear H1;obtain rfl:=Option.some.inj H;obtain⟨hcz45_0,hcz45_1,hcz45_2,hcz45_3,hcz45_4,hcz45_5,hfz45_0⟩:=qc6_ BK101
              go_wp2_with (first|((with_reducible refine gate_callee (f:=37) rfl ?_);refine goesL_ (some 89) rfl rfl Try.func37 qK rfl #[.int .i64 a0_1,.int .i64 1,.int .i64 1000] rfl qll_ ?_;(with_reducible refine(z37_.calls a0_1 1 1000 true _ A37.out).mono ?_);rintro e w' ⟨rfl,⟨nd,rfl⟩⟩;refine⟨_,rfl,?_⟩)|(go_at_call 37;(with_reducible refine(z37_.calls a0_2 1 3 false _ A39.out).mono ?_);rintro e w' ⟨rfl,⟨nd,rfl⟩⟩))
              go_ret;exact⟨qee_,qBHB⟩
            ·replace c38:=Bool.eq_false_iff.mpr c38
             subst c38
             have H1:(some false)=some r:=by rw[if_neg (show ¬(false=true)by decide)]at H;exact H
             clear H;have H:=H1;clear H1;obtain rfl:=Option.some.inj H;obtain⟨hcz46_0,hcz46_1,hcz46_2,hcz46_3,hcz46_4,hcz46_5,hfz46_0⟩:=qc6_ BK101
             go_wp2_with (first|((with_reducible refine gate_callee (f:=37) rfl ?_);refine goesL_ (some 89) rfl rfl Try.func37 qK rfl #[.int .i64 a0_1,.int .i64 1,.int .i64 1000] rfl qll_ ?_;(with_reducible refine(z37_.calls a0_1 1 1000 false _ A37.out).mono ?_);rintro e w' ⟨rfl,⟨nd,rfl⟩⟩;refine⟨_,rfl,?_⟩))
             go_ret;exact⟨qee_,qBHB⟩
           ·rw[if_neg c36]at H
            have c36b0:(a0_0 == 3)=false:=beq_eq_false_iff_ne.mpr c36;have c36b1:(a0_0 != 3)=true:=bne_iff_ne.mpr c36;obtain rfl:=Option.some.inj H
            go_wp2
            go_ret;exact⟨qee_,qBHB⟩


/-! ### z57_: function 57 -/
def z57_.l0:Nat→ByteArray→Int→Int→Option (Int)
 | 0,_,_,_=>none
 | k+1,x0,x3,x4=>if x4 < (x0.size:Int)then(if 0≤x4 then(z57_.l0 k x0 (wrap64 ((wrap64 (x3*256))+(wrap64 (bt x0 x4)))) (wrap64 (x4+1)))else(none))else(some x3)
def z57_.f (k:Nat) (a0:ByteArray):Option (Int):=z57_.l0 k a0 0 0
theorem z57_.mono_l:∀ k,(∀ y0 y1 y2,LeO (z57_.l0 k y0 y1 y2) (z57_.l0 (k+1) y0 y1 y2))
 | 0=>fun _ _ _ r h=>by simp[z57_.l0]at h
 | k+1=>by
  have ih0:=z57_.mono_l k
  ·intro y0 y1 y2
   unfold z57_.l0
   repeat' first
   | (with_reducible exact ih0 _ _ _)
   | (with_reducible exact LeO.refl _)
   | (with_reducible exact LeO.none _)
   | (with_reducible refine LeO.ite ?_ ?_)
   | (with_reducible refine LeO.bind ?_ (fun _=> ?_))
   | exact ih0 _ _ _
   | exact LeO.none _
   | refine LeO.ite ?_ ?_
   | refine LeO.bind ?_ (fun _=> ?_)
theorem z57_.mono:∀ a0 k,LeO (z57_.f k a0) (z57_.f (k+1) a0):=by
 intro a0 k
 have ih0:=z57_.mono_l k
 unfold z57_.f
 repeat' first
   | (with_reducible exact ih0 _ _ _)
   | (with_reducible exact LeO.refl _)
   | (with_reducible exact LeO.none _)
   | (with_reducible refine LeO.ite ?_ ?_)
   | (with_reducible refine LeO.bind ?_ (fun _=> ?_))
   | exact ih0 _ _ _
   | exact LeO.none _
   | refine LeO.ite ?_ ?_
   | refine LeO.bind ?_ (fun _=> ?_)
set_option maxHeartbeats 8000000 in
set_option maxRecDepth 100000 in
theorem z57_.calls (k:Nat) (a0:ByteArray) (r:Int) (w:World) (h:z57_.f k a0=some r) :
  Calls Try.prog 57 #[.string a0] w fun e w' => e= .returned (.int .i64 r)∧Drawn0 w w' := by
 have H:(z57_.l0 k a0 0 0)=some r:=h
 clear h
 have H' := qM_ H
 clear H
 go_enter Try.func57,Try.ntmps57
 go_wp2
 go_loopg [3,4] k (fun kq v3 v4 w' => ∃(x3_1:Int) (x4_1:Int),v3= .int .i64 x3_1∧v4= .int .i64 x4_1∧Aside0 (z57_.l0 kq a0 x3_1 x4_1=some r)∧Aside0 (kq≤k)∧Drawn0 w w')
 case atStart=>exact⟨(0),(0),qff_,qff_,H', ⟨Nat.le_refl _⟩,by repeat(first|exact Drawn0.refl _|apply Drawn0.step)⟩
 case round =>
  clear H'; obtain⟨x3_1,x4_1,rfl,rfl,HA,HK1,⟨m1,rfl⟩⟩:=hrel
  cases gk with
  | zero=>exact absurd HA.out (by simp[z57_.l0])
  | succ k1 =>
   have H:=HA.out;clear HA;simp only[z57_.l0]at H;by_cases c2:x4_1 < (a0.size:Int)
   ·rw[if_pos c2]at H
    have c2b0:decide (x4_1 < (a0.size:Int))=true:=decide_eq_true c2;clear c2;by_cases c3:0≤x4_1
    ·rw[if_pos c3]at H
     have c3b0:decide (0≤x4_1)=true:=decide_eq_true c3;clear c3;have H' := qM_ H;clear H;have p4:0≤(x4_1:Int):=qd_;have q4:x4_1 < (a0.size:Int):=qd_;have hx4:=bt_at a0 x4_1;replace p4:=eq_true p4;replace q4:=eq_true q4
     go_wp2
     go_roundg k1
     case measure=>have:=HK1.out;omega
     case rel=>exact⟨(wrap64 ((wrap64 (x3_1*256))+(wrap64 (bt a0 x4_1)))),(wrap64 (x4_1+1)),qff_,qff_,H', ⟨by have:=HK1.out;omega⟩,by repeat(first|exact Drawn0.refl _|apply Drawn0.step)⟩
    ·rw[if_neg c3]at H
     exact absurd H (by simp)
   ·rw[if_neg c2]at H
    have c2b0:decide (x4_1 < (a0.size:Int))=false:=decide_eq_false c2;clear c2;obtain rfl:=Option.some.inj H
    go_wp2
    go_ret;exact⟨by first|rfl|(simp;done)|(simp[*];done),by repeat(first|exact Drawn0.refl _|apply Drawn0.step)⟩

end Go.Proofs.Ytbjefkeogbophaa.P
