/- Part 6 of what the law FnMutations stands on; the last part ends with the law's row. No condition of mine. -/
import Derived.Test.YtbjefkeogbophaaMFnMutations1
import Derived.Test.YtbjefkeogbophaaMFnMutations2
import Derived.Test.YtbjefkeogbophaaMFnMutations5
namespace Go.Proofs.Ytbjefkeogbophaa.P
open Go.RowKit Go.Proofs.YtbjefkeogbophaaW.PrintWords Go.Proofs.YtbjefkeogbophaaW.PrintLast Go.Proofs.YtbjefkeogbophaaW.PrintMore
attribute [local go_sem] max2_int min2_int max_two min_two max_three min_three max_four min_four   -- for this text's walks alone
set_option linter.unusedVariables false
set_option linter.unusedSimpArgs false

/-! ### z66_: function 66 -/
def z66_.f (k:Nat) (a0:Int):Option (ByteArray):=(z78_.f k a0).bind fun bt101=>((z79_.f (Int.tmod (wrap64 ((wrap64 (Int.tdiv a0 86400))+4)) 7)).bind fun t108=>(if t108.size+2≤9223372036854775807 then((z80_.f bt101.2.2.1).bind fun t109=>(if(t108 ++ (⟨#[44,32]⟩:ByteArray)).size+t109.size≤9223372036854775807 then(if((t108 ++ (⟨#[44,32]⟩:ByteArray)) ++ t109).size+1≤9223372036854775807 then((z81_.f bt101.2.1).bind fun t110=>(if(((t108 ++ (⟨#[44,32]⟩:ByteArray)) ++ t109) ++ (⟨#[32]⟩:ByteArray)).size+t110.size≤9223372036854775807 then(if((((t108 ++ (⟨#[44,32]⟩:ByteArray)) ++ t109) ++ (⟨#[32]⟩:ByteArray)) ++ t110).size+1≤9223372036854775807 then((z49_.f k bt101.1).bind fun t111=>(if(((((t108 ++ (⟨#[44,32]⟩:ByteArray)) ++ t109) ++ (⟨#[32]⟩:ByteArray)) ++ t110) ++ (⟨#[32]⟩:ByteArray)).size+t111.size≤9223372036854775807 then(if((((((t108 ++ (⟨#[44,32]⟩:ByteArray)) ++ t109) ++ (⟨#[32]⟩:ByteArray)) ++ t110) ++ (⟨#[32]⟩:ByteArray)) ++ t111).size+1≤9223372036854775807 then((z82_.f bt101.1 bt101.2.1 bt101.2.2.1 bt101.2.2.2.1 bt101.2.2.2.2.1 bt101.2.2.2.2.2).bind fun t112=>(if(((((((t108 ++ (⟨#[44,32]⟩:ByteArray)) ++ t109) ++ (⟨#[32]⟩:ByteArray)) ++ t110) ++ (⟨#[32]⟩:ByteArray)) ++ t111) ++ (⟨#[32]⟩:ByteArray)).size+t112.size≤9223372036854775807 then(if((((((((t108 ++ (⟨#[44,32]⟩:ByteArray)) ++ t109) ++ (⟨#[32]⟩:ByteArray)) ++ t110) ++ (⟨#[32]⟩:ByteArray)) ++ t111) ++ (⟨#[32]⟩:ByteArray)) ++ t112).size+6≤9223372036854775807 then(some (((((((((t108 ++ (⟨#[44,32]⟩:ByteArray)) ++ t109) ++ (⟨#[32]⟩:ByteArray)) ++ t110) ++ (⟨#[32]⟩:ByteArray)) ++ t111) ++ (⟨#[32]⟩:ByteArray)) ++ t112) ++ (⟨#[32,43,48,48,48,48]⟩:ByteArray)))else(none))else(none)))else(none))else(none)))else(none))else(none)))else(none))else(none)))else(none)))
theorem z66_.mono:∀ a0 k,LeO (z66_.f k a0) (z66_.f (k+1) a0):=by
 intro a0 k
 unfold z66_.f
 repeat' first
   | (with_reducible exact z49_.mono _ _)
   | (with_reducible exact z78_.mono _ _)
   | (with_reducible exact LeO.refl _)
   | (with_reducible exact LeO.none _)
   | (with_reducible refine LeO.ite ?_ ?_)
   | (with_reducible refine LeO.bind ?_ (fun _=> ?_))
   | exact z49_.mono _ _
   | exact z78_.mono _ _
   | exact LeO.none _
   | refine LeO.ite ?_ ?_
   | refine LeO.bind ?_ (fun _=> ?_)
def z66_.T2:Bool × List (List Nat × List Nat):=(true,[([],[]),([0],[0]),([1],[1]),([2],[2]),([3],[3]),([4],[4]),([],[]),([6],[6]),([7,4],[7]),([5,8],[5,8]),([9],[9]),([],[]),([11],[11]),([12,8],[12]),([10,13],[10,13]),([14],[14]),([],[]),([16],[16]),([17,13],[17]),([15,18],[15,18]),([19],[19]),([],[]),([21,18],[21]),([20,22],[20,22]),([23],[23]),([24,22,0,1,2,3,4,5,6,7,8,9,10,11,12,13,14,15,16,17,18,19,20,21,22,23,24],[24])])
def z66_.B2:List Nat:=[0,1,3,7,15,31,0,64,223,511,1023,0,2048,6623,16383,32767,0,65536,211423,524287,1048575,0,2570719,8388607,16777215,33554431]
theorem z66_.tab2:rtab .any (opsOf Try.f66 2)=z66_.T2:=by kernel_rfl
theorem z66_.bits2:waitsOk z66_.T2.2 z66_.B2=true:=by kernel_rfl
set_option maxHeartbeats 8000000 in
set_option maxRecDepth 100000 in
theorem z66_.calls (k:Nat) (a0:Int) (r:ByteArray) (w:World) (h:z66_.f k a0=some r) :
  Calls Try.prog 66 #[.int .i64 a0] w fun e w' => e= .returned (.string r)∧Below w.heap.size w w' := by
 have hu105:=Try.underlying105
 have HB:=qM_ (Below.refl w.heap.size w)
 have H:((z78_.f k a0).bind fun bt101=>((z79_.f (Int.tmod (wrap64 ((wrap64 (Int.tdiv a0 86400))+4)) 7)).bind fun t108=>(if t108.size+2≤9223372036854775807 then((z80_.f bt101.2.2.1).bind fun t109=>(if(t108 ++ (⟨#[44,32]⟩:BA_)).size+t109.size≤9223372036854775807 then(if((t108 ++ (⟨#[44,32]⟩:BA_)) ++ t109).size+1≤9223372036854775807 then((z81_.f bt101.2.1).bind fun t110=>(if(((t108 ++ (⟨#[44,32]⟩:BA_)) ++ t109) ++ (⟨#[32]⟩:BA_)).size+t110.size≤9223372036854775807 then(if((((t108 ++ (⟨#[44,32]⟩:BA_)) ++ t109) ++ (⟨#[32]⟩:BA_)) ++ t110).size+1≤9223372036854775807 then((z49_.f k bt101.1).bind fun t111=>(if(((((t108 ++ (⟨#[44,32]⟩:BA_)) ++ t109) ++ (⟨#[32]⟩:BA_)) ++ t110) ++ (⟨#[32]⟩:BA_)).size+t111.size≤9223372036854775807 then(if((((((t108 ++ (⟨#[44,32]⟩:BA_)) ++ t109) ++ (⟨#[32]⟩:BA_)) ++ t110) ++ (⟨#[32]⟩:BA_)) ++ t111).size+1≤9223372036854775807 then((z82_.f bt101.1 bt101.2.1 bt101.2.2.1 bt101.2.2.2.1 bt101.2.2.2.2.1 bt101.2.2.2.2.2).bind fun t112=>(if(((((((t108 ++ (⟨#[44,32]⟩:BA_)) ++ t109) ++ (⟨#[32]⟩:BA_)) ++ t110) ++ (⟨#[32]⟩:BA_)) ++ t111) ++ (⟨#[32]⟩:BA_)).size+t112.size≤9223372036854775807 then(if((((((((t108 ++ (⟨#[44,32]⟩:BA_)) ++ t109) ++ (⟨#[32]⟩:BA_)) ++ t110) ++ (⟨#[32]⟩:BA_)) ++ t111) ++ (⟨#[32]⟩:BA_)) ++ t112).size+6≤9223372036854775807 then(some (((((((((t108 ++ (⟨#[44,32]⟩:BA_)) ++ t109) ++ (⟨#[32]⟩:BA_)) ++ t110) ++ (⟨#[32]⟩:BA_)) ++ t111) ++ (⟨#[32]⟩:BA_)) ++ t112) ++ (⟨#[32,43,48,48,48,48]⟩:BA_)))else(none))else(none)))else(none))else(none)))else(none))else(none)))else(none))else(none)))else(none))))=some r:=h
 clear h
 replace H:=Option.bind_eq_some_iff.mp H
 obtain⟨⟨t101,t102,t103,t104,t105,t106⟩,A20,H⟩:=H
 dsimp only at H
 have A2:=qM_ A20
 clear A20
 replace H:=Option.bind_eq_some_iff.mp H
 obtain⟨t108,A30,H⟩:=H
 have A3:=qM_ A30
 clear A30
 by_cases c4:t108.size+2≤9223372036854775807
 ·rw[if_pos c4]at H
  have c4b0:=eq_true c4;have c4b1:decide (t108.size+2≤9223372036854775807)=true:=decide_eq_true c4
  try have c4b2:(9223372036854775807 < t108.size+2)=False:=eq_false (Nat.not_lt.2 c4)
  replace H:=Option.bind_eq_some_iff.mp H;obtain⟨t109,A50,H⟩:=H;have A5:=qM_ A50;clear A50;by_cases c6:(t108 ++ (⟨#[44,32]⟩:BA_)).size+t109.size≤9223372036854775807
  ·rw[if_pos c6]at H
   have c6b0:=eq_true c6;have c6b1:decide ((t108 ++ (⟨#[44,32]⟩:BA_)).size+t109.size≤9223372036854775807)=true:=decide_eq_true c6
   try have c6b2:(9223372036854775807 < (t108 ++ (⟨#[44,32]⟩:BA_)).size+t109.size)=False:=eq_false (Nat.not_lt.2 c6)
   try(have hz_:=c6;have ez_:(t108 ++ (⟨#[44,32]⟩:BA_)).size+t109.size=t108.size+2+t109.size:=(by simp only[ByteArray.size_append] <;> rfl);rw[ez_]at hz_;clear ez_;have c6z0:=eq_false (Nat.not_lt.2 hz_);have c6z1:=eq_true hz_;clear hz_)
   by_cases c7:((t108 ++ (⟨#[44,32]⟩:BA_)) ++ t109).size+1≤9223372036854775807
   ·rw[if_pos c7]at H
    have c7b0:=eq_true c7;have c7b1:decide (((t108 ++ (⟨#[44,32]⟩:BA_)) ++ t109).size+1≤9223372036854775807)=true:=decide_eq_true c7
    try have c7b2:(9223372036854775807 < ((t108 ++ (⟨#[44,32]⟩:BA_)) ++ t109).size+1)=False:=eq_false (Nat.not_lt.2 c7)
    try(have hz_:=c7;have ez_:((t108 ++ (⟨#[44,32]⟩:BA_)) ++ t109).size+1=t108.size+2+t109.size+1:=(by simp only[ByteArray.size_append] <;> rfl);rw[ez_]at hz_;clear ez_;have c7z0:=eq_false (Nat.not_lt.2 hz_);have c7z1:=eq_true hz_;clear hz_)
    replace H:=Option.bind_eq_some_iff.mp H;obtain⟨t110,A80,H⟩:=H;have A8:=qM_ A80;clear A80;by_cases c9:(((t108 ++ (⟨#[44,32]⟩:BA_)) ++ t109) ++ (⟨#[32]⟩:BA_)).size+t110.size≤9223372036854775807
    ·rw[if_pos c9]at H
     have c9b0:=eq_true c9;have c9b1:decide ((((t108 ++ (⟨#[44,32]⟩:BA_)) ++ t109) ++ (⟨#[32]⟩:BA_)).size+t110.size≤9223372036854775807)=true:=decide_eq_true c9
     try have c9b2:(9223372036854775807 < (((t108 ++ (⟨#[44,32]⟩:BA_)) ++ t109) ++ (⟨#[32]⟩:BA_)).size+t110.size)=False:=eq_false (Nat.not_lt.2 c9)
     try(have hz_:=c9;have ez_:(((t108 ++ (⟨#[44,32]⟩:BA_)) ++ t109) ++ (⟨#[32]⟩:BA_)).size+t110.size=t108.size+2+t109.size+1+t110.size:=(by simp only[ByteArray.size_append] <;> rfl);rw[ez_]at hz_;clear ez_;have c9z0:=eq_false (Nat.not_lt.2 hz_);have c9z1:=eq_true hz_;clear hz_)
     by_cases c10:((((t108 ++ (⟨#[44,32]⟩:BA_)) ++ t109) ++ (⟨#[32]⟩:BA_)) ++ t110).size+1≤9223372036854775807
     ·rw[if_pos c10]at H
      have c10b0:=eq_true c10;have c10b1:decide (((((t108 ++ (⟨#[44,32]⟩:BA_)) ++ t109) ++ (⟨#[32]⟩:BA_)) ++ t110).size+1≤9223372036854775807)=true:=decide_eq_true c10
      try have c10b2:(9223372036854775807 < ((((t108 ++ (⟨#[44,32]⟩:BA_)) ++ t109) ++ (⟨#[32]⟩:BA_)) ++ t110).size+1)=False:=eq_false (Nat.not_lt.2 c10)
      try(have hz_:=c10;have ez_:((((t108 ++ (⟨#[44,32]⟩:BA_)) ++ t109) ++ (⟨#[32]⟩:BA_)) ++ t110).size+1=t108.size+2+t109.size+1+t110.size+1:=(by simp only[ByteArray.size_append] <;> rfl);rw[ez_]at hz_;clear ez_;have c10z0:=eq_false (Nat.not_lt.2 hz_);have c10z1:=eq_true hz_;clear hz_)
      replace H:=Option.bind_eq_some_iff.mp H;obtain⟨t111,A110,H⟩:=H;have A11:=qM_ A110;clear A110;by_cases c12:(((((t108 ++ (⟨#[44,32]⟩:BA_)) ++ t109) ++ (⟨#[32]⟩:BA_)) ++ t110) ++ (⟨#[32]⟩:BA_)).size+t111.size≤9223372036854775807
      ·rw[if_pos c12]at H
       have c12b0:=eq_true c12;have c12b1:decide ((((((t108 ++ (⟨#[44,32]⟩:BA_)) ++ t109) ++ (⟨#[32]⟩:BA_)) ++ t110) ++ (⟨#[32]⟩:BA_)).size+t111.size≤9223372036854775807)=true:=decide_eq_true c12
       try have c12b2:(9223372036854775807 < (((((t108 ++ (⟨#[44,32]⟩:BA_)) ++ t109) ++ (⟨#[32]⟩:BA_)) ++ t110) ++ (⟨#[32]⟩:BA_)).size+t111.size)=False:=eq_false (Nat.not_lt.2 c12)
       try(have hz_:=c12;have ez_:(((((t108 ++ (⟨#[44,32]⟩:BA_)) ++ t109) ++ (⟨#[32]⟩:BA_)) ++ t110) ++ (⟨#[32]⟩:BA_)).size+t111.size=t108.size+2+t109.size+1+t110.size+1+t111.size:=(by simp only[ByteArray.size_append] <;> rfl);rw[ez_]at hz_;clear ez_;have c12z0:=eq_false (Nat.not_lt.2 hz_);have c12z1:=eq_true hz_;clear hz_)
       by_cases c13:((((((t108 ++ (⟨#[44,32]⟩:BA_)) ++ t109) ++ (⟨#[32]⟩:BA_)) ++ t110) ++ (⟨#[32]⟩:BA_)) ++ t111).size+1≤9223372036854775807
       ·rw[if_pos c13]at H
        have c13b0:=eq_true c13;have c13b1:decide (((((((t108 ++ (⟨#[44,32]⟩:BA_)) ++ t109) ++ (⟨#[32]⟩:BA_)) ++ t110) ++ (⟨#[32]⟩:BA_)) ++ t111).size+1≤9223372036854775807)=true:=decide_eq_true c13
        try have c13b2:(9223372036854775807 < ((((((t108 ++ (⟨#[44,32]⟩:BA_)) ++ t109) ++ (⟨#[32]⟩:BA_)) ++ t110) ++ (⟨#[32]⟩:BA_)) ++ t111).size+1)=False:=eq_false (Nat.not_lt.2 c13)
        try(have hz_:=c13;have ez_:((((((t108 ++ (⟨#[44,32]⟩:BA_)) ++ t109) ++ (⟨#[32]⟩:BA_)) ++ t110) ++ (⟨#[32]⟩:BA_)) ++ t111).size+1=t108.size+2+t109.size+1+t110.size+1+t111.size+1:=(by simp only[ByteArray.size_append] <;> rfl);rw[ez_]at hz_;clear ez_;have c13z0:=eq_false (Nat.not_lt.2 hz_);have c13z1:=eq_true hz_;clear hz_)
        replace H:=Option.bind_eq_some_iff.mp H;obtain⟨t112,A140,H⟩:=H;have A14:=qM_ A140;clear A140;by_cases c15:(((((((t108 ++ (⟨#[44,32]⟩:BA_)) ++ t109) ++ (⟨#[32]⟩:BA_)) ++ t110) ++ (⟨#[32]⟩:BA_)) ++ t111) ++ (⟨#[32]⟩:BA_)).size+t112.size≤9223372036854775807
        ·rw[if_pos c15]at H
         have c15b0:=eq_true c15;have c15b1:decide ((((((((t108 ++ (⟨#[44,32]⟩:BA_)) ++ t109) ++ (⟨#[32]⟩:BA_)) ++ t110) ++ (⟨#[32]⟩:BA_)) ++ t111) ++ (⟨#[32]⟩:BA_)).size+t112.size≤9223372036854775807)=true:=decide_eq_true c15
         try have c15b2:(9223372036854775807 < (((((((t108 ++ (⟨#[44,32]⟩:BA_)) ++ t109) ++ (⟨#[32]⟩:BA_)) ++ t110) ++ (⟨#[32]⟩:BA_)) ++ t111) ++ (⟨#[32]⟩:BA_)).size+t112.size)=False:=eq_false (Nat.not_lt.2 c15)
         try(have hz_:=c15;have ez_:(((((((t108 ++ (⟨#[44,32]⟩:BA_)) ++ t109) ++ (⟨#[32]⟩:BA_)) ++ t110) ++ (⟨#[32]⟩:BA_)) ++ t111) ++ (⟨#[32]⟩:BA_)).size+t112.size=t108.size+2+t109.size+1+t110.size+1+t111.size+1+t112.size:=(by simp only[ByteArray.size_append] <;> rfl);rw[ez_]at hz_;clear ez_;have c15z0:=eq_false (Nat.not_lt.2 hz_);have c15z1:=eq_true hz_;clear hz_)
         by_cases c16:((((((((t108 ++ (⟨#[44,32]⟩:BA_)) ++ t109) ++ (⟨#[32]⟩:BA_)) ++ t110) ++ (⟨#[32]⟩:BA_)) ++ t111) ++ (⟨#[32]⟩:BA_)) ++ t112).size+6≤9223372036854775807
         ·rw[if_pos c16]at H
          have c16b0:=eq_true c16;have c16b1:decide (((((((((t108 ++ (⟨#[44,32]⟩:BA_)) ++ t109) ++ (⟨#[32]⟩:BA_)) ++ t110) ++ (⟨#[32]⟩:BA_)) ++ t111) ++ (⟨#[32]⟩:BA_)) ++ t112).size+6≤9223372036854775807)=true:=decide_eq_true c16
          try have c16b2:(9223372036854775807 < ((((((((t108 ++ (⟨#[44,32]⟩:BA_)) ++ t109) ++ (⟨#[32]⟩:BA_)) ++ t110) ++ (⟨#[32]⟩:BA_)) ++ t111) ++ (⟨#[32]⟩:BA_)) ++ t112).size+6)=False:=eq_false (Nat.not_lt.2 c16)
          try(have hz_:=c16;have ez_:((((((((t108 ++ (⟨#[44,32]⟩:BA_)) ++ t109) ++ (⟨#[32]⟩:BA_)) ++ t110) ++ (⟨#[32]⟩:BA_)) ++ t111) ++ (⟨#[32]⟩:BA_)) ++ t112).size+6=t108.size+2+t109.size+1+t110.size+1+t111.size+1+t112.size+6:=(by simp only[ByteArray.size_append] <;> rfl);rw[ez_]at hz_;clear ez_;have c16z0:=eq_false (Nat.not_lt.2 hz_);have c16z1:=eq_true hz_;clear hz_)
          obtain rfl:=Option.some.inj H;go_enter Try.func66,Try.ntmps66
          try go_wp2_with (first|((with_reducible refine gate_callee (f:=78) rfl ?_);refine goesL_ (some 5) rfl rfl Try.func78 qK rfl #[.int .i64 a0] rfl qll_ ?_;(with_reducible refine(z78_.calls k a0 t101 t102 t103 t104 t105 t106 _ A2.out).mono ?_);rintro e w17 ⟨rfl,hb⟩;refine⟨_,rfl,?_⟩;replace HB:=qM_ (below_step qBHB hb);(try clear hb);(try clear hb2);(try clear hk);(try clear hi))|((with_reducible refine gate_dst (N:=3) rfl ?_);refine box_event ?hg (N:=3) ?hd (cs:=#[.int .i64 0,.int .i64 0,.int .i64 0,.int .i64 0,.int .i64 0,.int .i64 0]) (t:=105) ?hr ?_;(case hd=>rfl);(case hg=>rfl);(case hr=>first|(go_simp;done)|(go_simp;rfl));intro gb107 hg w18 hbox hb;have BK107:=qM_ (hbox);have GW107:=qM_ ((by rw[hg];exact(below_size qBHB):w.heap.size≤gb107));have GE107:=qM_ ((by rw[hg];exact(below_size qBHB):w.heap.size≤gb107));replace HB:=qM_ (below_step qBHB hb);clear hb hbox hg;obtain⟨hcz19_0,hcz19_1,hcz19_2,hcz19_3,hcz19_4,hcz19_5,hfz19_0⟩:=qc6_ BK107))
          have n0_:Aside0 (((((((w18.setCell ⟨gb107,0,none⟩ (.int .i64 t101)).setCell ⟨gb107,1,none⟩ (.int .i64 t102)).setCell ⟨gb107,2,none⟩ (.int .i64 t103)).setCell ⟨gb107,3,none⟩ (.int .i64 t104)).setCell ⟨gb107,4,none⟩ (.int .i64 t105)).setCell ⟨gb107,5,none⟩ (.int .i64 t106)).heap[gb107]? = some (.cells #[.int .i64 t101,.int .i64 t102,.int .i64 t103,.int .i64 t104,.int .i64 t105,.int .i64 t106] 105 (0,0))):=⟨qp_ BK107⟩;have n1_:Aside0 (Below w.heap.size w ((((((w18.setCell ⟨gb107,0,none⟩ (.int .i64 t101)).setCell ⟨gb107,1,none⟩ (.int .i64 t102)).setCell ⟨gb107,2,none⟩ (.int .i64 t103)).setCell ⟨gb107,3,none⟩ (.int .i64 t104)).setCell ⟨gb107,4,none⟩ (.int .i64 t105)).setCell ⟨gb107,5,none⟩ (.int .i64 t106))):=⟨qBHB⟩
          (try clear BK107)
          (try clear HB)
          generalize ((((((w18.setCell ⟨gb107,0,none⟩ (.int .i64 t101)).setCell ⟨gb107,1,none⟩ (.int .i64 t102)).setCell ⟨gb107,2,none⟩ (.int .i64 t103)).setCell ⟨gb107,3,none⟩ (.int .i64 t104)).setCell ⟨gb107,4,none⟩ (.int .i64 t105)).setCell ⟨gb107,5,none⟩ (.int .i64 t106))=w20 at n0_ n1_ ⊢;have BK107:=n0_;have HB:=n1_;clear n0_ n1_;replace BK107:=qM_ (blk_drew BK107.out);replace HB:=qM_ (qE_ HB.out)
          refine start_ (n:=26) (S:=fun w' => w'.cell? ⟨gb107,0,none⟩=some (.int .i64 t101)∧w'.cell? ⟨gb107,1,none⟩=some (.int .i64 t102)∧w'.cell? ⟨gb107,2,none⟩=some (.int .i64 t103)∧w'.cell? ⟨gb107,3,none⟩=some (.int .i64 t104)∧w'.cell? ⟨gb107,4,none⟩=some (.int .i64 t105)∧w'.cell? ⟨gb107,5,none⟩=some (.int .i64 t106)) (ds:=[]) #[qF,qF,qF,qF,qF,qF,qF,qF,qF,qF,qF,qF,qF,qF,qF,qF,qF,qF,qF,qF,qF,qF,qF,qF,qF,qF] qK rfl rfl ⟨(qC_ BK107.out 0).trans rfl,(qC_ BK107.out 1).trans rfl,(qC_ BK107.out 2).trans rfl,(qC_ BK107.out 3).trans rfl,(qC_ BK107.out 4).trans rfl,(qC_ BK107.out 5).trans rfl⟩ (fun hHeld=> ?_);refine with_tabW z66_.tab2 z66_.bits2 (fun HT_ HW_=> ?_)
          generalize w20.drew=w21 at BK107 HB hHeld ⊢;refine pure_ (i:=0) (N:=some 6) (v:= ?_) (a' := ?_) #[qT,qF,qF,qF,qF,qF,qF,qF,qF,qF,qF,qF,qF,qF,qF,qF,qF,qF,qF,qF,qF,qF,qF,qF,qF,qF] rfl rfl (any_of HT_.out qK) (fun _ _ _ h=>h) (Or.inl ⟨by rfl,?_⟩) ?_ ?_;rotate_left
          ·intro w'
           go_simp;with_reducible rfl
          rotate_left
          ·simp only[Act.put,qS_,qW_]
           rfl
          refine pure_ (i:=1) (N:=some 7) (v:= ?_) (a' := ?_) #[qT,qT,qF,qF,qF,qF,qF,qF,qF,qF,qF,qF,qF,qF,qF,qF,qF,qF,qF,qF,qF,qF,qF,qF,qF,qF] rfl rfl (any_of HT_.out qK) (fun _ _ _ h=>h) (Or.inl ⟨by rfl,?_⟩) ?_ ?_;rotate_left
          ·intro w'
           go_simp;with_reducible rfl
          rotate_left
          ·simp only[Act.put,qS_,qW_]
           rfl
          refine pure_ (i:=2) (N:=some 8) (v:= ?_) (a' := ?_) #[qT,qT,qT,qF,qF,qF,qF,qF,qF,qF,qF,qF,qF,qF,qF,qF,qF,qF,qF,qF,qF,qF,qF,qF,qF,qF] rfl rfl (any_of HT_.out qK) (fun _ _ _ h=>h) (Or.inl ⟨by rfl,?_⟩) ?_ ?_;rotate_left
          ·intro w'
           go_simp;with_reducible rfl
          rotate_left
          ·simp only[Act.put,qS_,qW_]
           rfl
          refine pure_ (i:=3) (N:=some 9) (v:= ?_) (a' := ?_) #[qT,qT,qT,qT,qF,qF,qF,qF,qF,qF,qF,qF,qF,qF,qF,qF,qF,qF,qF,qF,qF,qF,qF,qF,qF,qF] rfl rfl (any_of HT_.out qK) (fun _ _ _ h=>h) (Or.inl ⟨by rfl,?_⟩) ?_ ?_;rotate_left
          ·intro w'
           go_simp;with_reducible rfl
          rotate_left
          ·simp only[Act.put,qS_,qW_]
           rfl
          refine pure_ (i:=6) (N:=some 12) (v:= ?_) (a' := ?_) #[qT,qT,qT,qT,qF,qF,qT,qF,qF,qF,qF,qF,qF,qF,qF,qF,qF,qF,qF,qF,qF,qF,qF,qF,qF,qF] rfl rfl (any_of HT_.out qK) (fun _ _ _ h=>h) (Or.inl ⟨by rfl,?_⟩) ?_ ?_;rotate_left
          ·intro w'
           go_simp;with_reducible rfl
          rotate_left
          ·simp only[Act.put,qS_,qW_]
           rfl
          refine pure_ (i:=11) (N:=some 17) (v:= ?_) (a' := ?_) #[qT,qT,qT,qT,qF,qF,qT,qF,qF,qF,qF,qT,qF,qF,qF,qF,qF,qF,qF,qF,qF,qF,qF,qF,qF,qF] rfl rfl (any_of HT_.out qK) (fun _ _ _ h=>h) (Or.inl ⟨by rfl,?_⟩) ?_ ?_;rotate_left
          ·intro w'
           go_simp;with_reducible rfl
          rotate_left
          ·simp only[Act.put,qS_,qW_]
           rfl
          refine pure_ (i:=16) (N:=some 22) (v:= ?_) (a' := ?_) #[qT,qT,qT,qT,qF,qF,qT,qF,qF,qF,qF,qT,qF,qF,qF,qF,qT,qF,qF,qF,qF,qF,qF,qF,qF,qF] rfl rfl (any_of HT_.out qK) (fun _ _ _ h=>h) (Or.inl ⟨by rfl,?_⟩) ?_ ?_;rotate_left
          ·intro w'
           go_simp;with_reducible rfl
          rotate_left
          ·simp only[Act.put,qS_,qW_]
           rfl
          refine take_ (i:=7) (N:=some 13) (v:= ?_) (a' := ?_) #[qT,qT,qT,qT,qF,qF,qT,qT,qF,qF,qF,qT,qF,qF,qF,qF,qT,qF,qF,qF,qF,qF,qF,qF,qF,qF] rfl rfl (take_ofW HT_.out HW_.out qK) (fun _ _ _ h=>h) (Or.inl ⟨by rfl,?_⟩) hHeld ?_ ?_;rotate_left
          ·rintro w' ⟨s0,s1,s2,s3,s4,s5⟩
           go_simp;with_reducible rfl
          rotate_left
          ·simp only[Act.put,qS_,qW_]
           rfl
          refine take_ (i:=12) (N:=some 18) (v:= ?_) (a' := ?_) #[qT,qT,qT,qT,qF,qF,qT,qT,qF,qF,qF,qT,qT,qF,qF,qF,qT,qF,qF,qF,qF,qF,qF,qF,qF,qF] rfl rfl (take_ofW HT_.out HW_.out qK) (fun _ _ _ h=>h) (Or.inl ⟨by rfl,?_⟩) hHeld ?_ ?_;rotate_left
          ·rintro w' ⟨s0,s1,s2,s3,s4,s5⟩
           go_simp;with_reducible rfl
          rotate_left
          ·simp only[Act.put,qS_,qW_]
           rfl
          refine take_ (i:=17) (N:=some 23) (v:= ?_) (a' := ?_) #[qT,qT,qT,qT,qF,qF,qT,qT,qF,qF,qF,qT,qT,qF,qF,qF,qT,qT,qF,qF,qF,qF,qF,qF,qF,qF] rfl rfl (take_ofW HT_.out HW_.out qK) (fun _ _ _ h=>h) (Or.inl ⟨by rfl,?_⟩) hHeld ?_ ?_;rotate_left
          ·rintro w' ⟨s0,s1,s2,s3,s4,s5⟩
           go_simp;with_reducible rfl
          rotate_left
          ·simp only[Act.put,qS_,qW_]
           rfl
          refine take_ (i:=21) (N:=some 27) (v:= ?_) (a' := ?_) #[qT,qT,qT,qT,qF,qF,qT,qT,qF,qF,qF,qT,qT,qF,qF,qF,qT,qT,qF,qF,qF,qT,qF,qF,qF,qF] rfl rfl (take_ofW HT_.out HW_.out qK) (fun _ _ _ h=>h) (Or.inl ⟨by rfl,?_⟩) hHeld ?_ ?_;rotate_left
          ·rintro w' ⟨s0,s1,s2,s3,s4,s5⟩
           go_simp;with_reducible rfl
          rotate_left
          ·simp only[Act.put,qS_,qW_]
           rfl
          refine one_ (i:=4) (N:=some 10) #[qT,qT,qT,qT,qT,qF,qT,qT,qF,qF,qF,qT,qT,qF,qF,qF,qT,qT,qF,qF,qF,qT,qF,qF,qF,qF] rfl rfl (one_of HT_.out qK) (by decide) (fun K hK=> ?_);refine goes_ Try.func79 qK rfl #[.int .i64 (Int.tmod (wrap64 ((wrap64 (Int.tdiv a0 86400))+4)) 7)] (by rfl) rfl rfl qll_ ?_
          with_reducible refine(z79_.calls (Int.tmod (wrap64 ((wrap64 (Int.tdiv a0 86400))+4)) 7) t108 _ A3.out).mono ?_
          rintro e w22 ⟨rfl,hb⟩
          refine⟨_,rfl,?_⟩;replace BK107:=qM_ (blk_below (qk_ BK107) hb);replace HB:=qM_ (below_step qBHB hb)
          (try clear hb)
          (try clear hb2)
          (try clear hk)
          (try clear hi)
          refine hK.out _ _ ⟨(qC_ BK107.out 0).trans rfl,(qC_ BK107.out 1).trans rfl,(qC_ BK107.out 2).trans rfl,(qC_ BK107.out 3).trans rfl,(qC_ BK107.out 4).trans rfl,(qC_ BK107.out 5).trans rfl⟩ (fun hHeld=> ?_);clear hK K;refine norm_ (a' := ?_) ?_ ?_;rotate_left
          ·show Act.put _ (some 10) _=_
           simp only[Act.put,qS_,qW_];rfl
          refine pure_ (i:=5) (N:=some 11) (v:= ?_) (a' := ?_) #[qT,qT,qT,qT,qT,qT,qT,qT,qF,qF,qF,qT,qT,qF,qF,qF,qT,qT,qF,qF,qF,qT,qF,qF,qF,qF] rfl rfl (any_of HT_.out qK) (fun _ _ _ h=>h) (Or.inl ⟨by rfl,?_⟩) ?_ ?_;rotate_left
          ·intro w'
           go_simp;with_reducible rfl
          rotate_left
          ·simp only[Act.put,qS_,qW_]
           rfl
          refine one_ (i:=8) (N:=some 14) #[qT,qT,qT,qT,qT,qT,qT,qT,qT,qF,qF,qT,qT,qF,qF,qF,qT,qT,qF,qF,qF,qT,qF,qF,qF,qF] rfl rfl (one_of HT_.out qK) (by decide) (fun K hK=> ?_);refine goes_ Try.func80 qK rfl #[.int .i64 t103] (by rfl) rfl rfl qll_ ?_
          with_reducible refine(z80_.calls t103 t109 _ A5.out).mono ?_
          rintro e w23 ⟨rfl,hb⟩
          refine⟨_,rfl,?_⟩;replace BK107:=qM_ (blk_below (qk_ BK107) hb);replace HB:=qM_ (below_step qBHB hb)
          (try clear hb)
          (try clear hb2)
          (try clear hk)
          (try clear hi)
          refine hK.out _ _ ⟨(qC_ BK107.out 0).trans rfl,(qC_ BK107.out 1).trans rfl,(qC_ BK107.out 2).trans rfl,(qC_ BK107.out 3).trans rfl,(qC_ BK107.out 4).trans rfl,(qC_ BK107.out 5).trans rfl⟩ (fun hHeld=> ?_);clear hK K;refine norm_ (a' := ?_) ?_ ?_;rotate_left
          ·show Act.put _ (some 14) _=_
           simp only[Act.put,qS_,qW_];rfl
          refine pure_ (i:=9) (N:=some 15) (v:= ?_) (a' := ?_) #[qT,qT,qT,qT,qT,qT,qT,qT,qT,qT,qF,qT,qT,qF,qF,qF,qT,qT,qF,qF,qF,qT,qF,qF,qF,qF] rfl rfl (any_of HT_.out qK) (fun _ _ _ h=>h) (Or.inl ⟨by rfl,?_⟩) ?_ ?_;rotate_left
          ·intro w'
           go_simp;with_reducible rfl
          rotate_left
          ·simp only[Act.put,qS_,qW_]
           rfl
          refine pure_ (i:=10) (N:=some 16) (v:= ?_) (a' := ?_) #[qT,qT,qT,qT,qT,qT,qT,qT,qT,qT,qT,qT,qT,qF,qF,qF,qT,qT,qF,qF,qF,qT,qF,qF,qF,qF] rfl rfl (any_of HT_.out qK) (fun _ _ _ h=>h) (Or.inl ⟨by rfl,?_⟩) ?_ ?_;rotate_left
          ·intro w'
           go_simp;with_reducible rfl
          rotate_left
          ·simp only[Act.put,qS_,qW_]
           rfl
          refine one_ (i:=13) (N:=some 19) #[qT,qT,qT,qT,qT,qT,qT,qT,qT,qT,qT,qT,qT,qT,qF,qF,qT,qT,qF,qF,qF,qT,qF,qF,qF,qF] rfl rfl (one_of HT_.out qK) (by decide) (fun K hK=> ?_);refine goes_ Try.func81 qK rfl #[.int .i64 t102] (by rfl) rfl rfl qll_ ?_
          with_reducible refine(z81_.calls t102 t110 _ A8.out).mono ?_
          rintro e w24 ⟨rfl,hb⟩
          refine⟨_,rfl,?_⟩;replace BK107:=qM_ (blk_below (qk_ BK107) hb);replace HB:=qM_ (below_step qBHB hb)
          (try clear hb)
          (try clear hb2)
          (try clear hk)
          (try clear hi)
          refine hK.out _ _ ⟨(qC_ BK107.out 0).trans rfl,(qC_ BK107.out 1).trans rfl,(qC_ BK107.out 2).trans rfl,(qC_ BK107.out 3).trans rfl,(qC_ BK107.out 4).trans rfl,(qC_ BK107.out 5).trans rfl⟩ (fun hHeld=> ?_);clear hK K;refine norm_ (a' := ?_) ?_ ?_;rotate_left
          ·show Act.put _ (some 19) _=_
           simp only[Act.put,qS_,qW_];rfl
          refine pure_ (i:=14) (N:=some 20) (v:= ?_) (a' := ?_) #[qT,qT,qT,qT,qT,qT,qT,qT,qT,qT,qT,qT,qT,qT,qT,qF,qT,qT,qF,qF,qF,qT,qF,qF,qF,qF] rfl rfl (any_of HT_.out qK) (fun _ _ _ h=>h) (Or.inl ⟨by rfl,?_⟩) ?_ ?_;rotate_left
          ·intro w'
           go_simp;with_reducible rfl
          rotate_left
          ·simp only[Act.put,qS_,qW_]
           rfl
          refine pure_ (i:=15) (N:=some 21) (v:= ?_) (a' := ?_) #[qT,qT,qT,qT,qT,qT,qT,qT,qT,qT,qT,qT,qT,qT,qT,qT,qT,qT,qF,qF,qF,qT,qF,qF,qF,qF] rfl rfl (any_of HT_.out qK) (fun _ _ _ h=>h) (Or.inl ⟨by rfl,?_⟩) ?_ ?_;rotate_left
          ·intro w'
           go_simp;with_reducible rfl
          rotate_left
          ·simp only[Act.put,qS_,qW_]
           rfl
          refine one_ (i:=18) (N:=some 24) #[qT,qT,qT,qT,qT,qT,qT,qT,qT,qT,qT,qT,qT,qT,qT,qT,qT,qT,qT,qF,qF,qT,qF,qF,qF,qF] rfl rfl (one_of HT_.out qK) (by decide) (fun K hK=> ?_);refine goes_ Try.func49 qK rfl #[.int .i64 t101] (by rfl) rfl rfl qll_ ?_
          with_reducible refine(z49_.calls k t101 t111 _ A11.out).mono ?_
          rintro e w25 ⟨rfl,hb⟩
          refine⟨_,rfl,?_⟩;replace BK107:=qM_ (blk_below (qk_ BK107) hb);replace HB:=qM_ (below_step qBHB hb)
          (try clear hb)
          (try clear hb2)
          (try clear hk)
          (try clear hi)
          refine hK.out _ _ ⟨(qC_ BK107.out 0).trans rfl,(qC_ BK107.out 1).trans rfl,(qC_ BK107.out 2).trans rfl,(qC_ BK107.out 3).trans rfl,(qC_ BK107.out 4).trans rfl,(qC_ BK107.out 5).trans rfl⟩ (fun hHeld=> ?_);clear hK K;refine norm_ (a' := ?_) ?_ ?_;rotate_left
          ·show Act.put _ (some 24) _=_
           simp only[Act.put,qS_,qW_];rfl
          refine pure_ (i:=19) (N:=some 25) (v:= ?_) (a' := ?_) #[qT,qT,qT,qT,qT,qT,qT,qT,qT,qT,qT,qT,qT,qT,qT,qT,qT,qT,qT,qT,qF,qT,qF,qF,qF,qF] rfl rfl (any_of HT_.out qK) (fun _ _ _ h=>h) (Or.inl ⟨by rfl,?_⟩) ?_ ?_;rotate_left
          ·intro w'
           go_simp;with_reducible rfl
          rotate_left
          ·simp only[Act.put,qS_,qW_]
           rfl
          refine pure_ (i:=20) (N:=some 26) (v:= ?_) (a' := ?_) #[qT,qT,qT,qT,qT,qT,qT,qT,qT,qT,qT,qT,qT,qT,qT,qT,qT,qT,qT,qT,qT,qT,qF,qF,qF,qF] rfl rfl (any_of HT_.out qK) (fun _ _ _ h=>h) (Or.inl ⟨by rfl,?_⟩) ?_ ?_;rotate_left
          ·intro w'
           go_simp;with_reducible rfl
          rotate_left
          ·simp only[Act.put,qS_,qW_]
           rfl
          refine one_ (i:=22) (N:=some 28) #[qT,qT,qT,qT,qT,qT,qT,qT,qT,qT,qT,qT,qT,qT,qT,qT,qT,qT,qT,qT,qT,qT,qT,qF,qF,qF] rfl rfl (one_of HT_.out qK) (by decide) (fun K hK=> ?_);refine goes_ Try.func82 qK rfl #[.agg #[.int .i64 t101,.int .i64 t102,.int .i64 t103,.int .i64 t104,.int .i64 t105,.int .i64 t106]] (by rfl) rfl rfl qll_ ?_
          with_reducible refine(z82_.calls t101 t102 t103 t104 t105 t106 t112 _ A14.out).mono ?_
          rintro e w26 ⟨rfl,hb⟩
          refine⟨_,rfl,?_⟩;replace BK107:=qM_ (blk_below (qk_ BK107) hb);replace HB:=qM_ (below_step qBHB hb)
          (try clear hb)
          (try clear hb2)
          (try clear hk)
          (try clear hi)
          refine hK.out _ _ ⟨(qC_ BK107.out 0).trans rfl,(qC_ BK107.out 1).trans rfl,(qC_ BK107.out 2).trans rfl,(qC_ BK107.out 3).trans rfl,(qC_ BK107.out 4).trans rfl,(qC_ BK107.out 5).trans rfl⟩ (fun hHeld=> ?_);clear hK K;refine norm_ (a' := ?_) ?_ ?_;rotate_left
          ·show Act.put _ (some 28) _=_
           simp only[Act.put,qS_,qW_];rfl
          refine pure_ (i:=23) (N:=some 29) (v:= ?_) (a' := ?_) #[qT,qT,qT,qT,qT,qT,qT,qT,qT,qT,qT,qT,qT,qT,qT,qT,qT,qT,qT,qT,qT,qT,qT,qT,qF,qF] rfl rfl (any_of HT_.out qK) (fun _ _ _ h=>h) (Or.inl ⟨by rfl,?_⟩) ?_ ?_;rotate_left
          ·intro w'
           go_simp;with_reducible rfl
          rotate_left
          ·simp only[Act.put,qS_,qW_]
           rfl
          refine pure_ (i:=24) (N:=some 30) (v:= ?_) (a' := ?_) #[qT,qT,qT,qT,qT,qT,qT,qT,qT,qT,qT,qT,qT,qT,qT,qT,qT,qT,qT,qT,qT,qT,qT,qT,qT,qF] rfl rfl (any_of HT_.out qK) (fun _ _ _ h=>h) (Or.inl ⟨by rfl,?_⟩) ?_ ?_;rotate_left
          ·intro w'
           go_simp;with_reducible rfl
          rotate_left
          ·simp only[Act.put,qS_,qW_]
           rfl
          refine pure_ (i:=25) (N:=some 2) (v:= ?_) (a' := ?_) #[qT,qT,qT,qT,qT,qT,qT,qT,qT,qT,qT,qT,qT,qT,qT,qT,qT,qT,qT,qT,qT,qT,qT,qT,qT,qT] rfl rfl (any_of HT_.out qK) (fun _ _ _ h=>h) (Or.inl ⟨by rfl,?_⟩) ?_ ?_;rotate_left
          ·intro w'
           go_simp;with_reducible rfl
          rotate_left
          ·simp only[Act.put,qS_,qW_]
           rfl
          refine done_ (done_of HT_.out qK) ?_
          try go_wp2
          go_ret;exact⟨qee_,qBHB⟩
         ·rw[if_neg c16]at H
          exact absurd H (by simp)
        ·rw[if_neg c15]at H
         exact absurd H (by simp)
       ·rw[if_neg c13]at H
        exact absurd H (by simp)
      ·rw[if_neg c12]at H
       exact absurd H (by simp)
     ·rw[if_neg c10]at H
      exact absurd H (by simp)
    ·rw[if_neg c9]at H
     exact absurd H (by simp)
   ·rw[if_neg c7]at H
    exact absurd H (by simp)
  ·rw[if_neg c6]at H
   exact absurd H (by simp)
 ·rw[if_neg c4]at H
  exact absurd H (by simp)


/-! ### z67_: function 67 -/
mutual
def z67_.l0:Nat→List Int→Int→Int→Option (Int)
 | 0,_,_,_=>none
 | k+1,x0,x3,x4=>if x4 < (x0.length:Int)then(if 0≤x4 then(z67_.l1 k x0 (Go.bits .xor .i64 x3 (wrap64 (rd x0 x4))) x4 0)else(none))else(some (Go.bits .xor .i64 x3 4294967295))
def z67_.l1:Nat→List Int→Int→Int→Int→Option (Int)
 | 0,_,_,_,_=>none
 | k+1,x0,x3,x4,x5=>if x5 < 8 then(if(Int.tmod x3 2)=1 then(z67_.l1 k x0 (Go.bits .xor .i64 (wrap64 (Int.tdiv x3 2)) 3988292384) x4 (wrap64 (x5+1)))else(z67_.l1 k x0 (wrap64 (Int.tdiv x3 2)) x4 (wrap64 (x5+1))))else(z67_.l0 k x0 x3 (wrap64 (x4+1)))
end
def z67_.f (k:Nat) (l0:List Int):Option (Int):=z67_.l0 k l0 4294967295 0
theorem z67_.mono_l:∀ k,(∀ y0 y1 y2,LeO (z67_.l0 k y0 y1 y2) (z67_.l0 (k+1) y0 y1 y2))∧(∀ y0 y1 y2 y3,LeO (z67_.l1 k y0 y1 y2 y3) (z67_.l1 (k+1) y0 y1 y2 y3))
 | 0=>⟨fun _ _ _ r h=>by simp[z67_.l0]at h,fun _ _ _ _ r h=>by simp[z67_.l1]at h⟩
 | k+1=>by
  obtain⟨ih0,ih1⟩:=z67_.mono_l k;refine⟨?_,?_⟩
  ·intro y0 y1 y2
   unfold z67_.l0
   repeat' first
   | (with_reducible exact ih0 _ _ _)
   | (with_reducible exact ih1 _ _ _ _)
   | (with_reducible exact LeO.refl _)
   | (with_reducible exact LeO.none _)
   | (with_reducible refine LeO.ite ?_ ?_)
   | (with_reducible refine LeO.bind ?_ (fun _=> ?_))
   | exact ih0 _ _ _
   | exact ih1 _ _ _ _
   | exact LeO.none _
   | refine LeO.ite ?_ ?_
   | refine LeO.bind ?_ (fun _=> ?_)
  ·intro y0 y1 y2 y3
   unfold z67_.l1
   repeat' first
   | (with_reducible exact ih0 _ _ _)
   | (with_reducible exact ih1 _ _ _ _)
   | (with_reducible exact LeO.refl _)
   | (with_reducible exact LeO.none _)
   | (with_reducible refine LeO.ite ?_ ?_)
   | (with_reducible refine LeO.bind ?_ (fun _=> ?_))
   | exact ih0 _ _ _
   | exact ih1 _ _ _ _
   | exact LeO.none _
   | refine LeO.ite ?_ ?_
   | refine LeO.bind ?_ (fun _=> ?_)
theorem z67_.mono:∀ a0 k,LeO (z67_.f k a0) (z67_.f (k+1) a0):=by
 intro a0 k
 obtain⟨ih0,ih1⟩:=z67_.mono_l k
 unfold z67_.f
 repeat' first
   | (with_reducible exact ih0 _ _ _)
   | (with_reducible exact ih1 _ _ _ _)
   | (with_reducible exact LeO.refl _)
   | (with_reducible exact LeO.none _)
   | (with_reducible refine LeO.ite ?_ ?_)
   | (with_reducible refine LeO.bind ?_ (fun _=> ?_))
   | exact ih0 _ _ _
   | exact ih1 _ _ _ _
   | exact LeO.none _
   | refine LeO.ite ?_ ?_
   | refine LeO.bind ?_ (fun _=> ?_)
set_option maxHeartbeats 8000000 in
set_option maxRecDepth 100000 in
theorem z67_.calls (k:Nat) (A0:Option Addr) (c0:Nat) (l0:List Int) (r:Int) (w:World) (hr0:Kd.C (Kd.int .u8) w A0 l0.length l0) (hc0:l0.length≤c0) (h:z67_.f k l0=some r) :
  Calls Try.prog 67 #[.slice A0 l0.length c0] w fun e w' => e= .returned (.int .i64 r)∧Drawn0 w w' := by
 have HR0:=qM_ hr0
 have HC0:=qM_ hc0
 clear hr0 hc0
 have H:(z67_.l0 k l0 4294967295 0)=some r:=h
 clear h
 have H' := qM_ H
 clear H
 go_enter Try.func67,Try.ntmps67
 go_wp2
 go_loopg [3,4] k (fun kq v3 v4 w' => ∃(x3_1:Int) (x4_1:Int),v3= .int .i64 x3_1∧v4= .int .i64 x4_1∧Aside0 (z67_.l0 kq l0 x3_1 x4_1=some r)∧Aside0 (kq≤k)∧Drawn0 w w')
 case atStart=>exact⟨(4294967295),(0),qff_,qff_,H', ⟨Nat.le_refl _⟩,by repeat(first|exact Drawn0.refl _|apply Drawn0.step)⟩
 case round =>
  clear H'; obtain⟨x3_1,x4_1,rfl,rfl,HA,HK1,⟨m1,rfl⟩⟩:=hrel
  cases gk with
  | zero=>exact absurd HA.out (by simp[z67_.l0])
  | succ k1 =>
   have H:=HA.out;clear HA;simp only[z67_.l0]at H;by_cases c2:x4_1 < (l0.length:Int)
   ·rw[if_pos c2]at H
    have c2b0:decide (x4_1 < (l0.length:Int))=true:=decide_eq_true c2;clear c2;by_cases c3:0≤x4_1
    ·rw[if_pos c3]at H
     have c3b0:decide (0≤x4_1)=true:=decide_eq_true c3;clear c3;have H' := qM_ H;clear H;have p101:0≤(x4_1:Int):=qd_;have q101:x4_1 < (l0.length:Int):=qd_;obtain⟨ad101,e101,hx101_0⟩:=Kd.at_int HR0.out x4_1 p101 q101;cases e101;replace p101:=eq_true p101;replace q101:=eq_true q101
     go_wp2
     go_loopg [3,5] k1 (fun kq v3 v5 w' => ∃(x3_2:Int) (x5_2:Int),v3= .int .i64 x3_2∧v5= .int .i64 x5_2∧Aside0 (z67_.l1 kq l0 x3_2 x4_1 x5_2=some r)∧Aside0 (kq≤k1)∧Drawn0 w w')
     case atStart=>exact⟨(Go.bits .xor .i64 x3_1 (wrap64 (rd l0 x4_1))),(0),qff_,qff_,H', ⟨Nat.le_refl _⟩,by repeat(first|exact Drawn0.refl _|apply Drawn0.step)⟩
     case round =>
      clear H'
      try clear p1
      try clear q1
      try clear hx1
      try clear c2
      try clear c2b0
      try clear p2
      try clear c3
      try clear c3b0
      try clear hx101_0
      try clear p101
      try clear q101
      obtain⟨x3_2,x5_2,rfl,rfl,HA,HK2,⟨m2,rfl⟩⟩:=hrel
      cases gk with
      | zero=>exact absurd HA.out (by simp[z67_.l1])
      | succ k2 =>
       have H:=HA.out;clear HA;simp only[z67_.l1]at H;by_cases c4:x5_2 < 8
       ·rw[if_pos c4]at H
        have c4b0:decide (x5_2 < 8)=true:=decide_eq_true c4;clear c4;by_cases c5:(Int.tmod x3_2 2)=1
        ·rw[if_pos c5]at H
         have c5b0:((Int.tmod x3_2 2) == 1)=true:=beq_iff_eq.mpr c5;have c5b1:((Int.tmod x3_2 2) != 1)=false:=bne_eq_false_iff_eq.mpr c5;clear c5;have H' := qM_ H;clear H
         go_wp2
         go_roundg k2
         case measure=>have:=HK1.out;have:=HK2.out;omega
         case rel=>exact⟨(Go.bits .xor .i64 (wrap64 (Int.tdiv x3_2 2)) 3988292384),(wrap64 (x5_2+1)),qff_,qff_,H', ⟨by have:=HK1.out;have:=HK2.out;omega⟩,by repeat(first|exact Drawn0.refl _|apply Drawn0.step)⟩
        ·rw[if_neg c5]at H
         have c5b0:((Int.tmod x3_2 2) == 1)=false:=beq_eq_false_iff_ne.mpr c5;have c5b1:((Int.tmod x3_2 2) != 1)=true:=bne_iff_ne.mpr c5;have H' := qM_ H;clear H
         go_wp2
         go_roundg k2
         case measure=>have:=HK1.out;have:=HK2.out;omega
         case rel=>exact⟨(wrap64 (Int.tdiv x3_2 2)),(wrap64 (x5_2+1)),qff_,qff_,H', ⟨by have:=HK1.out;have:=HK2.out;omega⟩,by repeat(first|exact Drawn0.refl _|apply Drawn0.step)⟩
       ·rw[if_neg c4]at H
        have c4b0:decide (x5_2 < 8)=false:=decide_eq_false c4;clear c4;have H' := qM_ H;clear H
        go_wp2
        go_roundg k2
        case measure=>have:=HK1.out;have:=HK2.out;omega
        case rel=>exact⟨(x3_2),(wrap64 (x4_1+1)),qff_,qff_,H', ⟨by have:=HK1.out;have:=HK2.out;omega⟩,by repeat(first|exact Drawn0.refl _|apply Drawn0.step)⟩
    ·rw[if_neg c3]at H
     exact absurd H (by simp)
   ·rw[if_neg c2]at H
    have c2b0:decide (x4_1 < (l0.length:Int))=false:=decide_eq_false c2;clear c2;obtain rfl:=Option.some.inj H
    go_wp2
    go_ret;exact⟨by first|rfl|(simp;done)|(simp[*];done),by repeat(first|exact Drawn0.refl _|apply Drawn0.step)⟩

end Go.Proofs.Ytbjefkeogbophaa.P
