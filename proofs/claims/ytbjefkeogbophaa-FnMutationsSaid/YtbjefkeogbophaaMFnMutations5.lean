/- Part 5 of what the law FnMutations stands on; the last part ends with the law's row. No condition of mine. -/
import Derived.Test.YtbjefkeogbophaaMFnMutations1
import Derived.Test.YtbjefkeogbophaaMFnMutations3
import Derived.Test.YtbjefkeogbophaaMFnMutations4
namespace Go.Proofs.Ytbjefkeogbophaa.P
open Go.RowKit Go.Proofs.YtbjefkeogbophaaW.PrintWords Go.Proofs.YtbjefkeogbophaaW.PrintLast Go.Proofs.YtbjefkeogbophaaW.PrintMore
attribute [local go_sem] max2_int min2_int max_two min_two max_three min_three max_four min_four   -- for this text's walks alone
set_option linter.unusedVariables false
set_option linter.unusedSimpArgs false

/-! ### z65_: function 65 -/
mutual
def z65_.l0:Nat→ByteArray→ByteArray→Option (ByteArray)
 | 0,_,_=>none
 | k+1,x0,x3=>if x0.toList=([]:List UInt8)then(some x3)else(z65_.l1 k x0 x3 0)
def z65_.l1:Nat→ByteArray→ByteArray→Int→Option (ByteArray)
 | 0,_,_,_=>none
 | k+1,x0,x3,x4=>if x4 < (x0.size:Int)then((z76_.f k x0 x4).bind fun bt102=>(if(wrap64 (x4+bt102.2.1)) > 45 then(if x3.toList=([]:List UInt8)then(if 0≤x4 then(if x4≤(x0.size:Int)then(if(x0.extract 0 (x4:Int).toNat).size≤9223372036854775807 then((z77_.f k (bytesOf (x0.extract 0 (x4:Int).toNat))).bind fun t108=>(if 10+t108.size≤9223372036854775807 then(if((⟨#[61,63,117,116,102,45,56,63,66,63]⟩:ByteArray) ++ t108).size+2≤9223372036854775807 then(if x3.size+(((⟨#[61,63,117,116,102,45,56,63,66,63]⟩:ByteArray) ++ t108) ++ (⟨#[63,61]⟩:ByteArray)).size≤9223372036854775807 then(z65_.l0 k (x0.extract (x4:Int).toNat x0.size) (x3 ++ (((⟨#[61,63,117,116,102,45,56,63,66,63]⟩:ByteArray) ++ t108) ++ (⟨#[63,61]⟩:ByteArray))))else(none))else(none))else(none)))else(none))else(none))else(none))else(if x3.size+1≤9223372036854775807 then(if 0≤x4 then(if x4≤(x0.size:Int)then(if(x0.extract 0 (x4:Int).toNat).size≤9223372036854775807 then((z77_.f k (bytesOf (x0.extract 0 (x4:Int).toNat))).bind fun t112=>(if 10+t112.size≤9223372036854775807 then(if((⟨#[61,63,117,116,102,45,56,63,66,63]⟩:ByteArray) ++ t112).size+2≤9223372036854775807 then(if(x3 ++ (⟨#[32]⟩:ByteArray)).size+(((⟨#[61,63,117,116,102,45,56,63,66,63]⟩:ByteArray) ++ t112) ++ (⟨#[63,61]⟩:ByteArray)).size≤9223372036854775807 then(z65_.l0 k (x0.extract (x4:Int).toNat x0.size) ((x3 ++ (⟨#[32]⟩:ByteArray)) ++ (((⟨#[61,63,117,116,102,45,56,63,66,63]⟩:ByteArray) ++ t112) ++ (⟨#[63,61]⟩:ByteArray))))else(none))else(none))else(none)))else(none))else(none))else(none))else(none)))else(z65_.l1 k x0 x3 (wrap64 (x4+bt102.2.1)))))else(if x3.toList=([]:List UInt8)then(if 0≤x4 then(if x4≤(x0.size:Int)then(if(x0.extract 0 (x4:Int).toNat).size≤9223372036854775807 then((z77_.f k (bytesOf (x0.extract 0 (x4:Int).toNat))).bind fun t116=>(if 10+t116.size≤9223372036854775807 then(if((⟨#[61,63,117,116,102,45,56,63,66,63]⟩:ByteArray) ++ t116).size+2≤9223372036854775807 then(if x3.size+(((⟨#[61,63,117,116,102,45,56,63,66,63]⟩:ByteArray) ++ t116) ++ (⟨#[63,61]⟩:ByteArray)).size≤9223372036854775807 then(z65_.l0 k (x0.extract (x4:Int).toNat x0.size) (x3 ++ (((⟨#[61,63,117,116,102,45,56,63,66,63]⟩:ByteArray) ++ t116) ++ (⟨#[63,61]⟩:ByteArray))))else(none))else(none))else(none)))else(none))else(none))else(none))else(if x3.size+1≤9223372036854775807 then(if 0≤x4 then(if x4≤(x0.size:Int)then(if(x0.extract 0 (x4:Int).toNat).size≤9223372036854775807 then((z77_.f k (bytesOf (x0.extract 0 (x4:Int).toNat))).bind fun t120=>(if 10+t120.size≤9223372036854775807 then(if((⟨#[61,63,117,116,102,45,56,63,66,63]⟩:ByteArray) ++ t120).size+2≤9223372036854775807 then(if(x3 ++ (⟨#[32]⟩:ByteArray)).size+(((⟨#[61,63,117,116,102,45,56,63,66,63]⟩:ByteArray) ++ t120) ++ (⟨#[63,61]⟩:ByteArray)).size≤9223372036854775807 then(z65_.l0 k (x0.extract (x4:Int).toNat x0.size) ((x3 ++ (⟨#[32]⟩:ByteArray)) ++ (((⟨#[61,63,117,116,102,45,56,63,66,63]⟩:ByteArray) ++ t120) ++ (⟨#[63,61]⟩:ByteArray))))else(none))else(none))else(none)))else(none))else(none))else(none))else(none)))
end
def z65_.f (k:Nat) (a0:ByteArray):Option (ByteArray):=(z75_.f k a0).bind fun t101=>(if t101=true then(some a0)else(z65_.l0 k a0 (⟨#[]⟩:ByteArray)))
theorem z65_.mono_l:∀ k,(∀ y0 y1,LeO (z65_.l0 k y0 y1) (z65_.l0 (k+1) y0 y1))∧(∀ y0 y1 y2,LeO (z65_.l1 k y0 y1 y2) (z65_.l1 (k+1) y0 y1 y2))
 | 0=>⟨fun _ _ r h=>by simp[z65_.l0]at h,fun _ _ _ r h=>by simp[z65_.l1]at h⟩
 | k+1=>by
  obtain⟨ih0,ih1⟩:=z65_.mono_l k;refine⟨?_,?_⟩
  ·intro y0 y1
   unfold z65_.l0
   repeat' first
   | (with_reducible exact ih0 _ _)
   | (with_reducible exact ih1 _ _ _)
   | (with_reducible exact z76_.mono _ _ _)
   | (with_reducible exact z77_.mono _ _)
   | (with_reducible exact z75_.mono _ _)
   | (with_reducible exact LeO.refl _)
   | (with_reducible exact LeO.none _)
   | (with_reducible refine LeO.ite ?_ ?_)
   | (with_reducible refine LeO.bind ?_ (fun _=> ?_))
   | exact ih0 _ _
   | exact ih1 _ _ _
   | exact z76_.mono _ _ _
   | exact z77_.mono _ _
   | exact z75_.mono _ _
   | exact LeO.none _
   | refine LeO.ite ?_ ?_
   | refine LeO.bind ?_ (fun _=> ?_)
  ·intro y0 y1 y2
   unfold z65_.l1
   repeat' first
   | (with_reducible exact ih0 _ _)
   | (with_reducible exact ih1 _ _ _)
   | (with_reducible exact z76_.mono _ _ _)
   | (with_reducible exact z77_.mono _ _)
   | (with_reducible exact z75_.mono _ _)
   | (with_reducible exact LeO.refl _)
   | (with_reducible exact LeO.none _)
   | (with_reducible refine LeO.ite ?_ ?_)
   | (with_reducible refine LeO.bind ?_ (fun _=> ?_))
   | exact ih0 _ _
   | exact ih1 _ _ _
   | exact z76_.mono _ _ _
   | exact z77_.mono _ _
   | exact z75_.mono _ _
   | exact LeO.none _
   | refine LeO.ite ?_ ?_
   | refine LeO.bind ?_ (fun _=> ?_)
theorem z65_.mono:∀ a0 k,LeO (z65_.f k a0) (z65_.f (k+1) a0):=by
 intro a0 k
 obtain⟨ih0,ih1⟩:=z65_.mono_l k
 unfold z65_.f
 repeat' first
   | (with_reducible exact ih0 _ _)
   | (with_reducible exact ih1 _ _ _)
   | (with_reducible exact z76_.mono _ _ _)
   | (with_reducible exact z77_.mono _ _)
   | (with_reducible exact z75_.mono _ _)
   | (with_reducible exact LeO.refl _)
   | (with_reducible exact LeO.none _)
   | (with_reducible refine LeO.ite ?_ ?_)
   | (with_reducible refine LeO.bind ?_ (fun _=> ?_))
   | exact ih0 _ _
   | exact ih1 _ _ _
   | exact z76_.mono _ _ _
   | exact z77_.mono _ _
   | exact z75_.mono _ _
   | exact LeO.none _
   | refine LeO.ite ?_ ?_
   | refine LeO.bind ?_ (fun _=> ?_)
set_option maxHeartbeats 8000000 in
set_option maxRecDepth 100000 in
theorem z65_.calls (k:Nat) (a0:ByteArray) (r:ByteArray) (w:World) (h:z65_.f k a0=some r) :
  Calls Try.prog 65 #[.string a0] w fun e w' => e= .returned (.string r)∧Below w.heap.size w w' := by
 have HB:=qM_ (Below.refl w.heap.size w)
 have H:((z75_.f k a0).bind fun t101=>(if t101=true then(some a0)else(z65_.l0 k a0 (⟨#[]⟩:BA_))))=some r:=h
 clear h
 replace H:=Option.bind_eq_some_iff.mp H
 obtain⟨t101,A20,H⟩:=H
 have A2:=qM_ A20
 clear A20
 by_cases c3:t101=true
 ·subst c3
  have H1:(some a0)=some r:=by rw[if_pos rfl]at H;exact H
  clear H;have H:=H1;clear H1;obtain rfl:=Option.some.inj H;go_enter Try.func65,Try.ntmps65
  go_wp2_with (first|((with_reducible refine gate_callee (f:=75) rfl ?_);refine goesL_ (some 9) rfl rfl Try.func75 qK rfl #[.string a0] rfl qll_ ?_;(with_reducible refine(z75_.calls k a0 true _ A2.out).mono ?_);rintro e w' ⟨rfl,⟨nd,rfl⟩⟩;refine⟨_,rfl,?_⟩))
  go_ret;exact⟨qee_,qBHB⟩
 ·replace c3:=Bool.eq_false_iff.mpr c3
  subst c3
  have H1:(z65_.l0 k a0 (⟨#[]⟩:BA_))=some r:=by rw[if_neg (show ¬(false=true)by decide)]at H;exact H
  clear H;have H:=H1;clear H1;have H' := qM_ H;clear H;go_enter Try.func65,Try.ntmps65
  go_wp2_with (first|((with_reducible refine gate_callee (f:=75) rfl ?_);refine goesL_ (some 9) rfl rfl Try.func75 qK rfl #[.string a0] rfl qll_ ?_;(with_reducible refine(z75_.calls k a0 false _ A2.out).mono ?_);rintro e w' ⟨rfl,⟨nd,rfl⟩⟩;refine⟨_,rfl,?_⟩))
  go_loopg [0,3] k (fun kq v0 v3 w' => ∃(x0_1:ByteArray) (x3_1:ByteArray),v0= .string x0_1∧v3= .string x3_1∧Aside0 (z65_.l0 kq x0_1 x3_1=some r)∧Aside0 (kq≤k)∧Aside0 (Below w.heap.size w w'))
  case atStart=>exact⟨(a0),((⟨#[]⟩:BA_)),qff_,qff_,H', ⟨Nat.le_refl _⟩,⟨qBHB⟩⟩
  case round =>
   clear H'
   try clear p2
   try clear c3
   obtain⟨x0_1,x3_1,rfl,rfl,HA,HK1,HB⟩:=hrel
   cases gk with
   | zero=>exact absurd HA.out (by simp[z65_.l0])
   | succ k1 =>
    have H:=HA.out;clear HA;simp only[z65_.l0]at H;by_cases c4:x0_1.toList=([]:List UInt8)
    ·rw[if_pos c4]at H
     have c4b0:(x0_1.toList == ([]:List UInt8))=true:=beq_iff_eq.mpr c4;have c4b1:(x0_1.toList != ([]:List UInt8))=false:=bne_eq_false_iff_eq.mpr c4;clear c4;obtain rfl:=Option.some.inj H
     go_wp2
     go_ret;exact⟨qee_,qBHB⟩
    ·rw[if_neg c4]at H
     have c4b0:(x0_1.toList == ([]:List UInt8))=false:=beq_eq_false_iff_ne.mpr c4;have c4b1:(x0_1.toList != ([]:List UInt8))=true:=bne_iff_ne.mpr c4;have H' := qM_ H;clear H
     go_wp2
     go_loopg [4] k1 (fun kq v4 w' => ∃(x4_2:Int),v4= .int .i64 x4_2∧Aside0 (z65_.l1 kq x0_1 x3_1 x4_2=some r)∧Aside0 (kq≤k1)∧Aside0 (Below w.heap.size w w'))
     case atStart=>exact⟨(0),qff_,H', ⟨Nat.le_refl _⟩,⟨qBHB⟩⟩
     case round =>
      clear H'
      try clear p2
      try clear c3
      try clear c4
      try clear c4b0
      try clear c4b1
      try clear p2
      obtain⟨x4_2,rfl,HA,HK2,HB⟩:=hrel
      cases gk with
      | zero=>exact absurd HA.out (by simp[z65_.l1])
      | succ k2 =>
       have H:=HA.out;clear HA;simp only[z65_.l1]at H;by_cases c5:x4_2 < (x0_1.size:Int)
       ·rw[if_pos c5]at H
        have c5b0:decide (x4_2 < (x0_1.size:Int))=true:=decide_eq_true c5;clear c5;replace H:=Option.bind_eq_some_iff.mp H;obtain⟨⟨t102,t103,t104⟩,A60,H⟩:=H;dsimp only at H;have A6:=qM_ A60;clear A60;by_cases c7:(wrap64 (x4_2+t103)) > 45
        ·rw[if_pos c7]at H
         have c7b0:decide (45 < (wrap64 (x4_2+t103)))=true:=decide_eq_true c7;clear c7;by_cases c8:x3_1.toList=([]:List UInt8)
         ·rw[if_pos c8]at H
          have c8b0:(x3_1.toList == ([]:List UInt8))=true:=beq_iff_eq.mpr c8;have c8b1:(x3_1.toList != ([]:List UInt8))=false:=bne_eq_false_iff_eq.mpr c8;clear c8;by_cases c9:0≤x4_2
          ·rw[if_pos c9]at H
           have c9b0:=eq_true c9;have c9b1:decide (0≤x4_2)=true:=decide_eq_true c9;clear c9;by_cases c10:x4_2≤(x0_1.size:Int)
           ·rw[if_pos c10]at H
            have c10b0:=eq_true c10;have c10b1:decide (x4_2≤(x0_1.size:Int))=true:=decide_eq_true c10;clear c10;by_cases c11:(x0_1.extract 0 (x4_2:Int).toNat).size≤9223372036854775807
            ·rw[if_pos c11]at H
             have c11b0:=eq_true c11;have c11b1:decide ((x0_1.extract 0 (x4_2:Int).toNat).size≤9223372036854775807)=true:=decide_eq_true c11
             try have c11b2:(9223372036854775807 < (x0_1.extract 0 (x4_2:Int).toNat).size)=False:=eq_false (Nat.not_lt.2 c11)
             try(have c11x0:=c11b0;simp only[ByteArray.size_extract,Nat.min_self,Nat.sub_zero,Int.toNat_natCast]at c11x0)
             try(have c11x1:=c11b1;simp only[ByteArray.size_extract,Nat.min_self,Nat.sub_zero,Int.toNat_natCast]at c11x1)
             clear c11
             obtain⟨y105,hy105⟩:∃ y_:List Int,y_=(bytesOf (x0_1.extract 0 (x4_2:Int).toNat)):=⟨_,rfl⟩
             replace H:((z77_.f k2 y105).bind fun t108=>(if 10+t108.size≤9223372036854775807 then(if((⟨#[61,63,117,116,102,45,56,63,66,63]⟩:BA_) ++ t108).size+2≤9223372036854775807 then(if x3_1.size+(((⟨#[61,63,117,116,102,45,56,63,66,63]⟩:BA_) ++ t108) ++ (⟨#[63,61]⟩:BA_)).size≤9223372036854775807 then(z65_.l0 k2 (x0_1.extract (x4_2:Int).toNat x0_1.size) (x3_1 ++ (((⟨#[61,63,117,116,102,45,56,63,66,63]⟩:BA_) ++ t108) ++ (⟨#[63,61]⟩:BA_))))else(none))else(none))else(none)))=some r:=qh_ hy105 H;have Ny105:=qM_ hy105;clear hy105;replace H:=Option.bind_eq_some_iff.mp H;obtain⟨t108,A120,H⟩:=H;have A12:=qM_ A120;clear A120;by_cases c13:10+t108.size≤9223372036854775807
             ·rw[if_pos c13]at H
              have c13b0:=eq_true c13;have c13b1:decide (10+t108.size≤9223372036854775807)=true:=decide_eq_true c13
              try have c13b2:(9223372036854775807 < 10+t108.size)=False:=eq_false (Nat.not_lt.2 c13)
              by_cases c14:((⟨#[61,63,117,116,102,45,56,63,66,63]⟩:BA_) ++ t108).size+2≤9223372036854775807
              ·rw[if_pos c14]at H
               have c14b0:=eq_true c14;have c14b1:decide (((⟨#[61,63,117,116,102,45,56,63,66,63]⟩:BA_) ++ t108).size+2≤9223372036854775807)=true:=decide_eq_true c14
               try have c14b2:(9223372036854775807 < ((⟨#[61,63,117,116,102,45,56,63,66,63]⟩:BA_) ++ t108).size+2)=False:=eq_false (Nat.not_lt.2 c14)
               try(have hz_:=c14;have ez_:((⟨#[61,63,117,116,102,45,56,63,66,63]⟩:BA_) ++ t108).size+2=10+t108.size+2:=(by simp only[ByteArray.size_append] <;> rfl);rw[ez_]at hz_;clear ez_;have c14z0:=eq_false (Nat.not_lt.2 hz_);have c14z1:=eq_true hz_;clear hz_)
               by_cases c15:x3_1.size+(((⟨#[61,63,117,116,102,45,56,63,66,63]⟩:BA_) ++ t108) ++ (⟨#[63,61]⟩:BA_)).size≤9223372036854775807
               ·rw[if_pos c15]at H
                have c15b0:=eq_true c15;have c15b1:decide (x3_1.size+(((⟨#[61,63,117,116,102,45,56,63,66,63]⟩:BA_) ++ t108) ++ (⟨#[63,61]⟩:BA_)).size≤9223372036854775807)=true:=decide_eq_true c15
                try have c15b2:(9223372036854775807 < x3_1.size+(((⟨#[61,63,117,116,102,45,56,63,66,63]⟩:BA_) ++ t108) ++ (⟨#[63,61]⟩:BA_)).size)=False:=eq_false (Nat.not_lt.2 c15)
                try(have hz_:=c15;have ez_:x3_1.size+(((⟨#[61,63,117,116,102,45,56,63,66,63]⟩:BA_) ++ t108) ++ (⟨#[63,61]⟩:BA_)).size=x3_1.size+(10+t108.size+2):=(by simp only[ByteArray.size_append] <;> rfl);rw[ez_]at hz_;clear ez_;have c15z0:=eq_false (Nat.not_lt.2 hz_);have c15z1:=eq_true hz_;clear hz_)
                have c16b0:=eq_true (qd_:0≤x4_2);have c17b0:=eq_true (qd_:x4_2≤(x0_1.size:Int));have H' := qM_ H;clear H
                go_wp2_with (first|((with_reducible refine gate_callee (f:=76) rfl ?_);refine goesL_ (some 20) rfl rfl Try.func76 qK rfl #[.string x0_1,.int .i64 x4_2] rfl qll_ ?_;(with_reducible refine(z76_.calls k2 x0_1 x4_2 t102 t103 t104 _ A6.out).mono ?_);rintro e w' ⟨rfl,⟨nd,rfl⟩⟩;refine⟨_,rfl,?_⟩)|((with_reducible refine gate_dst (N:=39) rfl ?_);refine Kd.V_conv _ rfl (N' := 39) rfl 9 26 5 _ rfl (x0_1.extract 0 (x4_2:Int).toNat) rfl Try.underlying9 Try.underlying26 Try.underlying5 (qd_) (Below.refl _ _) (Nat.le_refl _) ?_;intro v106 w18 ho19 hb hg_ hnew_;clear hg_ hnew_;(first|rw[← Ny105.out]at ho19|(simp only[Int.reduceToNat]at ho19;rw[← Ny105.out]at ho19));have HO107:=qM_ (Kd.V_lower (Kd.V_mono (ok' := fun k_=>True) ho19 (fun k_ hk_=>trivial)) (below_size qBHB));replace HB:=qM_ (below_step qBHB hb);clear hb ho19;obtain⟨Ao20,co20,eo20⟩:=Kd.V_slice HO107.out;subst eo20)|((with_reducible refine gate_callee (f:=77) rfl ?_);refine goesL_ (some 40) rfl rfl Try.func77 qK rfl #[.slice Ao20 y105.length co20] rfl qll_ ?_;(with_reducible refine(z77_.calls k2 _ _ y105 t108 _ ?side1 ?side2 A12.out).mono ?_);(case side1=>exact qcc_ (Kd.V_reads' HO107.out).2.2);(case side2=>exact(Kd.V_reads' HO107.out).2.1);rintro e w21 ⟨rfl,hb⟩;refine⟨_,rfl,?_⟩;replace HO107:=qM_ (Kd.V_below (qv_ HO107) hb);replace HB:=qM_ (below_step qBHB hb);(try clear hb);(try clear hb2);(try clear hk);(try clear hi)))
                go_roundg k2
                case measure=>have:=HK1.out;have:=HK2.out;omega
                case rel=>exact⟨(x0_1.extract (x4_2:Int).toNat x0_1.size),(x3_1 ++ (((⟨#[61,63,117,116,102,45,56,63,66,63]⟩:BA_) ++ t108) ++ (⟨#[63,61]⟩:BA_))),qff_,qff_,H', ⟨by have:=HK1.out;have:=HK2.out;omega⟩,⟨qBHB⟩⟩
               ·rw[if_neg c15]at H
                exact absurd H (by simp)
              ·rw[if_neg c14]at H
               exact absurd H (by simp)
             ·rw[if_neg c13]at H
              exact absurd H (by simp)
            ·rw[if_neg c11]at H
             exact absurd H (by simp)
           ·rw[if_neg c10]at H
            exact absurd H (by simp)
          ·rw[if_neg c9]at H
           exact absurd H (by simp)
         ·rw[if_neg c8]at H
          have c8b0:(x3_1.toList == ([]:List UInt8))=false:=beq_eq_false_iff_ne.mpr c8;have c8b1:(x3_1.toList != ([]:List UInt8))=true:=bne_iff_ne.mpr c8;by_cases c22:x3_1.size+1≤9223372036854775807
          ·rw[if_pos c22]at H
           have c22b0:=eq_true c22;have c22b1:decide (x3_1.size+1≤9223372036854775807)=true:=decide_eq_true c22
           try have c22b2:(9223372036854775807 < x3_1.size+1)=False:=eq_false (Nat.not_lt.2 c22)
           by_cases c23:0≤x4_2
           ·rw[if_pos c23]at H
            have c23b0:=eq_true c23;have c23b1:decide (0≤x4_2)=true:=decide_eq_true c23;clear c23;by_cases c24:x4_2≤(x0_1.size:Int)
            ·rw[if_pos c24]at H
             have c24b0:=eq_true c24;have c24b1:decide (x4_2≤(x0_1.size:Int))=true:=decide_eq_true c24;clear c24;by_cases c25:(x0_1.extract 0 (x4_2:Int).toNat).size≤9223372036854775807
             ·rw[if_pos c25]at H
              have c25b0:=eq_true c25;have c25b1:decide ((x0_1.extract 0 (x4_2:Int).toNat).size≤9223372036854775807)=true:=decide_eq_true c25
              try have c25b2:(9223372036854775807 < (x0_1.extract 0 (x4_2:Int).toNat).size)=False:=eq_false (Nat.not_lt.2 c25)
              try(have c25x0:=c25b0;simp only[ByteArray.size_extract,Nat.min_self,Nat.sub_zero,Int.toNat_natCast]at c25x0)
              try(have c25x1:=c25b1;simp only[ByteArray.size_extract,Nat.min_self,Nat.sub_zero,Int.toNat_natCast]at c25x1)
              clear c25
              obtain⟨y109,hy109⟩:∃ y_:List Int,y_=(bytesOf (x0_1.extract 0 (x4_2:Int).toNat)):=⟨_,rfl⟩
              replace H:((z77_.f k2 y109).bind fun t112=>(if 10+t112.size≤9223372036854775807 then(if((⟨#[61,63,117,116,102,45,56,63,66,63]⟩:BA_) ++ t112).size+2≤9223372036854775807 then(if(x3_1 ++ (⟨#[32]⟩:BA_)).size+(((⟨#[61,63,117,116,102,45,56,63,66,63]⟩:BA_) ++ t112) ++ (⟨#[63,61]⟩:BA_)).size≤9223372036854775807 then(z65_.l0 k2 (x0_1.extract (x4_2:Int).toNat x0_1.size) ((x3_1 ++ (⟨#[32]⟩:BA_)) ++ (((⟨#[61,63,117,116,102,45,56,63,66,63]⟩:BA_) ++ t112) ++ (⟨#[63,61]⟩:BA_))))else(none))else(none))else(none)))=some r:=qh_ hy109 H;have Ny109:=qM_ hy109;clear hy109;replace H:=Option.bind_eq_some_iff.mp H;obtain⟨t112,A260,H⟩:=H;have A26:=qM_ A260;clear A260;by_cases c27:10+t112.size≤9223372036854775807
              ·rw[if_pos c27]at H
               have c27b0:=eq_true c27;have c27b1:decide (10+t112.size≤9223372036854775807)=true:=decide_eq_true c27
               try have c27b2:(9223372036854775807 < 10+t112.size)=False:=eq_false (Nat.not_lt.2 c27)
               by_cases c28:((⟨#[61,63,117,116,102,45,56,63,66,63]⟩:BA_) ++ t112).size+2≤9223372036854775807
               ·rw[if_pos c28]at H
                have c28b0:=eq_true c28;have c28b1:decide (((⟨#[61,63,117,116,102,45,56,63,66,63]⟩:BA_) ++ t112).size+2≤9223372036854775807)=true:=decide_eq_true c28
                try have c28b2:(9223372036854775807 < ((⟨#[61,63,117,116,102,45,56,63,66,63]⟩:BA_) ++ t112).size+2)=False:=eq_false (Nat.not_lt.2 c28)
                try(have hz_:=c28;have ez_:((⟨#[61,63,117,116,102,45,56,63,66,63]⟩:BA_) ++ t112).size+2=10+t112.size+2:=(by simp only[ByteArray.size_append] <;> rfl);rw[ez_]at hz_;clear ez_;have c28z0:=eq_false (Nat.not_lt.2 hz_);have c28z1:=eq_true hz_;clear hz_)
                by_cases c29:(x3_1 ++ (⟨#[32]⟩:BA_)).size+(((⟨#[61,63,117,116,102,45,56,63,66,63]⟩:BA_) ++ t112) ++ (⟨#[63,61]⟩:BA_)).size≤9223372036854775807
                ·rw[if_pos c29]at H
                 have c29b0:=eq_true c29;have c29b1:decide ((x3_1 ++ (⟨#[32]⟩:BA_)).size+(((⟨#[61,63,117,116,102,45,56,63,66,63]⟩:BA_) ++ t112) ++ (⟨#[63,61]⟩:BA_)).size≤9223372036854775807)=true:=decide_eq_true c29
                 try have c29b2:(9223372036854775807 < (x3_1 ++ (⟨#[32]⟩:BA_)).size+(((⟨#[61,63,117,116,102,45,56,63,66,63]⟩:BA_) ++ t112) ++ (⟨#[63,61]⟩:BA_)).size)=False:=eq_false (Nat.not_lt.2 c29)
                 try(have hz_:=c29;have ez_:(x3_1 ++ (⟨#[32]⟩:BA_)).size+(((⟨#[61,63,117,116,102,45,56,63,66,63]⟩:BA_) ++ t112) ++ (⟨#[63,61]⟩:BA_)).size=x3_1.size+1+(10+t112.size+2):=(by simp only[ByteArray.size_append] <;> rfl);rw[ez_]at hz_;clear ez_;have c29z0:=eq_false (Nat.not_lt.2 hz_);have c29z1:=eq_true hz_;clear hz_)
                 have c30b0:=eq_true (qd_:0≤x4_2);have c31b0:=eq_true (qd_:x4_2≤(x0_1.size:Int));have H' := qM_ H;clear H
                 go_wp2_with (first|((with_reducible refine gate_callee (f:=76) rfl ?_);refine goesL_ (some 20) rfl rfl Try.func76 qK rfl #[.string x0_1,.int .i64 x4_2] rfl qll_ ?_;(with_reducible refine(z76_.calls k2 x0_1 x4_2 t102 t103 t104 _ A6.out).mono ?_);rintro e w' ⟨rfl,⟨nd,rfl⟩⟩;refine⟨_,rfl,?_⟩)|((with_reducible refine gate_dst (N:=39) rfl ?_);refine Kd.V_conv _ rfl (N' := 39) rfl 9 26 5 _ rfl (x0_1.extract 0 (x4_2:Int).toNat) rfl Try.underlying9 Try.underlying26 Try.underlying5 (qd_) (Below.refl _ _) (Nat.le_refl _) ?_;intro v110 w32 ho33 hb hg_ hnew_;clear hg_ hnew_;(first|rw[← Ny109.out]at ho33|(simp only[Int.reduceToNat]at ho33;rw[← Ny109.out]at ho33));have HO111:=qM_ (Kd.V_lower (Kd.V_mono (ok' := fun k_=>True) ho33 (fun k_ hk_=>trivial)) (below_size qBHB));replace HB:=qM_ (below_step qBHB hb);clear hb ho33;obtain⟨Ao34,co34,eo34⟩:=Kd.V_slice HO111.out;subst eo34)|((with_reducible refine gate_callee (f:=77) rfl ?_);refine goesL_ (some 40) rfl rfl Try.func77 qK rfl #[.slice Ao34 y109.length co34] rfl qll_ ?_;(with_reducible refine(z77_.calls k2 _ _ y109 t112 _ ?side1 ?side2 A26.out).mono ?_);(case side1=>exact qcc_ (Kd.V_reads' HO111.out).2.2);(case side2=>exact(Kd.V_reads' HO111.out).2.1);rintro e w35 ⟨rfl,hb⟩;refine⟨_,rfl,?_⟩;replace HO111:=qM_ (Kd.V_below (qv_ HO111) hb);replace HB:=qM_ (below_step qBHB hb);(try clear hb);(try clear hb2);(try clear hk);(try clear hi)))
                 go_roundg k2
                 case measure=>have:=HK1.out;have:=HK2.out;omega
                 case rel=>exact⟨(x0_1.extract (x4_2:Int).toNat x0_1.size),((x3_1 ++ (⟨#[32]⟩:BA_)) ++ (((⟨#[61,63,117,116,102,45,56,63,66,63]⟩:BA_) ++ t112) ++ (⟨#[63,61]⟩:BA_))),qff_,qff_,H', ⟨by have:=HK1.out;have:=HK2.out;omega⟩,⟨qBHB⟩⟩
                ·rw[if_neg c29]at H
                 exact absurd H (by simp)
               ·rw[if_neg c28]at H
                exact absurd H (by simp)
              ·rw[if_neg c27]at H
               exact absurd H (by simp)
             ·rw[if_neg c25]at H
              exact absurd H (by simp)
            ·rw[if_neg c24]at H
             exact absurd H (by simp)
           ·rw[if_neg c23]at H
            exact absurd H (by simp)
          ·rw[if_neg c22]at H
           exact absurd H (by simp)
        ·rw[if_neg c7]at H
         have c7b0:decide (45 < (wrap64 (x4_2+t103)))=false:=decide_eq_false c7;clear c7;have H' := qM_ H;clear H
         go_wp2_with (first|((with_reducible refine gate_callee (f:=76) rfl ?_);refine goesL_ (some 20) rfl rfl Try.func76 qK rfl #[.string x0_1,.int .i64 x4_2] rfl qll_ ?_;(with_reducible refine(z76_.calls k2 x0_1 x4_2 t102 t103 t104 _ A6.out).mono ?_);rintro e w' ⟨rfl,⟨nd,rfl⟩⟩;refine⟨_,rfl,?_⟩))
         go_roundg k2
         case measure=>have:=HK1.out;have:=HK2.out;omega
         case rel=>exact⟨(wrap64 (x4_2+t103)),qff_,H', ⟨by have:=HK1.out;have:=HK2.out;omega⟩,⟨qBHB⟩⟩
       ·rw[if_neg c5]at H
        have c5b0:decide (x4_2 < (x0_1.size:Int))=false:=decide_eq_false c5;clear c5;by_cases c36:x3_1.toList=([]:List UInt8)
        ·rw[if_pos c36]at H
         have c36b0:(x3_1.toList == ([]:List UInt8))=true:=beq_iff_eq.mpr c36;have c36b1:(x3_1.toList != ([]:List UInt8))=false:=bne_eq_false_iff_eq.mpr c36;clear c36;by_cases c37:0≤x4_2
         ·rw[if_pos c37]at H
          have c37b0:=eq_true c37;have c37b1:decide (0≤x4_2)=true:=decide_eq_true c37;clear c37;by_cases c38:x4_2≤(x0_1.size:Int)
          ·rw[if_pos c38]at H
           have c38b0:=eq_true c38;have c38b1:decide (x4_2≤(x0_1.size:Int))=true:=decide_eq_true c38;clear c38;by_cases c39:(x0_1.extract 0 (x4_2:Int).toNat).size≤9223372036854775807
           ·rw[if_pos c39]at H
            have c39b0:=eq_true c39;have c39b1:decide ((x0_1.extract 0 (x4_2:Int).toNat).size≤9223372036854775807)=true:=decide_eq_true c39
            try have c39b2:(9223372036854775807 < (x0_1.extract 0 (x4_2:Int).toNat).size)=False:=eq_false (Nat.not_lt.2 c39)
            try(have c39x0:=c39b0;simp only[ByteArray.size_extract,Nat.min_self,Nat.sub_zero,Int.toNat_natCast]at c39x0)
            try(have c39x1:=c39b1;simp only[ByteArray.size_extract,Nat.min_self,Nat.sub_zero,Int.toNat_natCast]at c39x1)
            clear c39
            obtain⟨y113,hy113⟩:∃ y_:List Int,y_=(bytesOf (x0_1.extract 0 (x4_2:Int).toNat)):=⟨_,rfl⟩
            replace H:((z77_.f k2 y113).bind fun t116=>(if 10+t116.size≤9223372036854775807 then(if((⟨#[61,63,117,116,102,45,56,63,66,63]⟩:BA_) ++ t116).size+2≤9223372036854775807 then(if x3_1.size+(((⟨#[61,63,117,116,102,45,56,63,66,63]⟩:BA_) ++ t116) ++ (⟨#[63,61]⟩:BA_)).size≤9223372036854775807 then(z65_.l0 k2 (x0_1.extract (x4_2:Int).toNat x0_1.size) (x3_1 ++ (((⟨#[61,63,117,116,102,45,56,63,66,63]⟩:BA_) ++ t116) ++ (⟨#[63,61]⟩:BA_))))else(none))else(none))else(none)))=some r:=qh_ hy113 H;have Ny113:=qM_ hy113;clear hy113;replace H:=Option.bind_eq_some_iff.mp H;obtain⟨t116,A400,H⟩:=H;have A40:=qM_ A400;clear A400;by_cases c41:10+t116.size≤9223372036854775807
            ·rw[if_pos c41]at H
             have c41b0:=eq_true c41;have c41b1:decide (10+t116.size≤9223372036854775807)=true:=decide_eq_true c41
             try have c41b2:(9223372036854775807 < 10+t116.size)=False:=eq_false (Nat.not_lt.2 c41)
             by_cases c42:((⟨#[61,63,117,116,102,45,56,63,66,63]⟩:BA_) ++ t116).size+2≤9223372036854775807
             ·rw[if_pos c42]at H
              have c42b0:=eq_true c42;have c42b1:decide (((⟨#[61,63,117,116,102,45,56,63,66,63]⟩:BA_) ++ t116).size+2≤9223372036854775807)=true:=decide_eq_true c42
              try have c42b2:(9223372036854775807 < ((⟨#[61,63,117,116,102,45,56,63,66,63]⟩:BA_) ++ t116).size+2)=False:=eq_false (Nat.not_lt.2 c42)
              try(have hz_:=c42;have ez_:((⟨#[61,63,117,116,102,45,56,63,66,63]⟩:BA_) ++ t116).size+2=10+t116.size+2:=(by simp only[ByteArray.size_append] <;> rfl);rw[ez_]at hz_;clear ez_;have c42z0:=eq_false (Nat.not_lt.2 hz_);have c42z1:=eq_true hz_;clear hz_)
              by_cases c43:x3_1.size+(((⟨#[61,63,117,116,102,45,56,63,66,63]⟩:BA_) ++ t116) ++ (⟨#[63,61]⟩:BA_)).size≤9223372036854775807
              ·rw[if_pos c43]at H
               have c43b0:=eq_true c43;have c43b1:decide (x3_1.size+(((⟨#[61,63,117,116,102,45,56,63,66,63]⟩:BA_) ++ t116) ++ (⟨#[63,61]⟩:BA_)).size≤9223372036854775807)=true:=decide_eq_true c43
               try have c43b2:(9223372036854775807 < x3_1.size+(((⟨#[61,63,117,116,102,45,56,63,66,63]⟩:BA_) ++ t116) ++ (⟨#[63,61]⟩:BA_)).size)=False:=eq_false (Nat.not_lt.2 c43)
               try(have hz_:=c43;have ez_:x3_1.size+(((⟨#[61,63,117,116,102,45,56,63,66,63]⟩:BA_) ++ t116) ++ (⟨#[63,61]⟩:BA_)).size=x3_1.size+(10+t116.size+2):=(by simp only[ByteArray.size_append] <;> rfl);rw[ez_]at hz_;clear ez_;have c43z0:=eq_false (Nat.not_lt.2 hz_);have c43z1:=eq_true hz_;clear hz_)
               have c44b0:=eq_true (qd_:0≤x4_2);have c45b0:=eq_true (qd_:x4_2≤(x0_1.size:Int));have H' := qM_ H;clear H
               go_wp2_with (first|((with_reducible refine gate_dst (N:=39) rfl ?_);refine Kd.V_conv _ rfl (N' := 39) rfl 9 26 5 _ rfl (x0_1.extract 0 (x4_2:Int).toNat) rfl Try.underlying9 Try.underlying26 Try.underlying5 (qd_) (Below.refl _ _) (Nat.le_refl _) ?_;intro v114 w46 ho47 hb hg_ hnew_;clear hg_ hnew_;(first|rw[← Ny113.out]at ho47|(simp only[Int.reduceToNat]at ho47;rw[← Ny113.out]at ho47));have HO115:=qM_ (Kd.V_lower (Kd.V_mono (ok' := fun k_=>True) ho47 (fun k_ hk_=>trivial)) (below_size qBHB));replace HB:=qM_ (below_step qBHB hb);clear hb ho47;obtain⟨Ao48,co48,eo48⟩:=Kd.V_slice HO115.out;subst eo48)|((with_reducible refine gate_callee (f:=77) rfl ?_);refine goesL_ (some 40) rfl rfl Try.func77 qK rfl #[.slice Ao48 y113.length co48] rfl qll_ ?_;(with_reducible refine(z77_.calls k2 _ _ y113 t116 _ ?side1 ?side2 A40.out).mono ?_);(case side1=>exact qcc_ (Kd.V_reads' HO115.out).2.2);(case side2=>exact(Kd.V_reads' HO115.out).2.1);rintro e w49 ⟨rfl,hb⟩;refine⟨_,rfl,?_⟩;replace HO115:=qM_ (Kd.V_below (qv_ HO115) hb);replace HB:=qM_ (below_step qBHB hb);(try clear hb);(try clear hb2);(try clear hk);(try clear hi)))
               go_roundg k2
               case measure=>have:=HK1.out;have:=HK2.out;omega
               case rel=>exact⟨(x0_1.extract (x4_2:Int).toNat x0_1.size),(x3_1 ++ (((⟨#[61,63,117,116,102,45,56,63,66,63]⟩:BA_) ++ t116) ++ (⟨#[63,61]⟩:BA_))),qff_,qff_,H', ⟨by have:=HK1.out;have:=HK2.out;omega⟩,⟨qBHB⟩⟩
              ·rw[if_neg c43]at H
               exact absurd H (by simp)
             ·rw[if_neg c42]at H
              exact absurd H (by simp)
            ·rw[if_neg c41]at H
             exact absurd H (by simp)
           ·rw[if_neg c39]at H
            exact absurd H (by simp)
          ·rw[if_neg c38]at H
           exact absurd H (by simp)
         ·rw[if_neg c37]at H
          exact absurd H (by simp)
        ·rw[if_neg c36]at H
         have c36b0:(x3_1.toList == ([]:List UInt8))=false:=beq_eq_false_iff_ne.mpr c36;have c36b1:(x3_1.toList != ([]:List UInt8))=true:=bne_iff_ne.mpr c36;by_cases c50:x3_1.size+1≤9223372036854775807
         ·rw[if_pos c50]at H
          have c50b0:=eq_true c50;have c50b1:decide (x3_1.size+1≤9223372036854775807)=true:=decide_eq_true c50
          try have c50b2:(9223372036854775807 < x3_1.size+1)=False:=eq_false (Nat.not_lt.2 c50)
          by_cases c51:0≤x4_2
          ·rw[if_pos c51]at H
           have c51b0:=eq_true c51;have c51b1:decide (0≤x4_2)=true:=decide_eq_true c51;clear c51;by_cases c52:x4_2≤(x0_1.size:Int)
           ·rw[if_pos c52]at H
            have c52b0:=eq_true c52;have c52b1:decide (x4_2≤(x0_1.size:Int))=true:=decide_eq_true c52;clear c52;by_cases c53:(x0_1.extract 0 (x4_2:Int).toNat).size≤9223372036854775807
            ·rw[if_pos c53]at H
             have c53b0:=eq_true c53;have c53b1:decide ((x0_1.extract 0 (x4_2:Int).toNat).size≤9223372036854775807)=true:=decide_eq_true c53
             try have c53b2:(9223372036854775807 < (x0_1.extract 0 (x4_2:Int).toNat).size)=False:=eq_false (Nat.not_lt.2 c53)
             try(have c53x0:=c53b0;simp only[ByteArray.size_extract,Nat.min_self,Nat.sub_zero,Int.toNat_natCast]at c53x0)
             try(have c53x1:=c53b1;simp only[ByteArray.size_extract,Nat.min_self,Nat.sub_zero,Int.toNat_natCast]at c53x1)
             clear c53
             obtain⟨y117,hy117⟩:∃ y_:List Int,y_=(bytesOf (x0_1.extract 0 (x4_2:Int).toNat)):=⟨_,rfl⟩
             replace H:((z77_.f k2 y117).bind fun t120=>(if 10+t120.size≤9223372036854775807 then(if((⟨#[61,63,117,116,102,45,56,63,66,63]⟩:BA_) ++ t120).size+2≤9223372036854775807 then(if(x3_1 ++ (⟨#[32]⟩:BA_)).size+(((⟨#[61,63,117,116,102,45,56,63,66,63]⟩:BA_) ++ t120) ++ (⟨#[63,61]⟩:BA_)).size≤9223372036854775807 then(z65_.l0 k2 (x0_1.extract (x4_2:Int).toNat x0_1.size) ((x3_1 ++ (⟨#[32]⟩:BA_)) ++ (((⟨#[61,63,117,116,102,45,56,63,66,63]⟩:BA_) ++ t120) ++ (⟨#[63,61]⟩:BA_))))else(none))else(none))else(none)))=some r:=qh_ hy117 H;have Ny117:=qM_ hy117;clear hy117;replace H:=Option.bind_eq_some_iff.mp H;obtain⟨t120,A540,H⟩:=H;have A54:=qM_ A540;clear A540;by_cases c55:10+t120.size≤9223372036854775807
             ·rw[if_pos c55]at H
              have c55b0:=eq_true c55;have c55b1:decide (10+t120.size≤9223372036854775807)=true:=decide_eq_true c55
              try have c55b2:(9223372036854775807 < 10+t120.size)=False:=eq_false (Nat.not_lt.2 c55)
              by_cases c56:((⟨#[61,63,117,116,102,45,56,63,66,63]⟩:BA_) ++ t120).size+2≤9223372036854775807
              ·rw[if_pos c56]at H
               have c56b0:=eq_true c56;have c56b1:decide (((⟨#[61,63,117,116,102,45,56,63,66,63]⟩:BA_) ++ t120).size+2≤9223372036854775807)=true:=decide_eq_true c56
               try have c56b2:(9223372036854775807 < ((⟨#[61,63,117,116,102,45,56,63,66,63]⟩:BA_) ++ t120).size+2)=False:=eq_false (Nat.not_lt.2 c56)
               try(have hz_:=c56;have ez_:((⟨#[61,63,117,116,102,45,56,63,66,63]⟩:BA_) ++ t120).size+2=10+t120.size+2:=(by simp only[ByteArray.size_append] <;> rfl);rw[ez_]at hz_;clear ez_;have c56z0:=eq_false (Nat.not_lt.2 hz_);have c56z1:=eq_true hz_;clear hz_)
               by_cases c57:(x3_1 ++ (⟨#[32]⟩:BA_)).size+(((⟨#[61,63,117,116,102,45,56,63,66,63]⟩:BA_) ++ t120) ++ (⟨#[63,61]⟩:BA_)).size≤9223372036854775807
               ·rw[if_pos c57]at H
                have c57b0:=eq_true c57;have c57b1:decide ((x3_1 ++ (⟨#[32]⟩:BA_)).size+(((⟨#[61,63,117,116,102,45,56,63,66,63]⟩:BA_) ++ t120) ++ (⟨#[63,61]⟩:BA_)).size≤9223372036854775807)=true:=decide_eq_true c57
                try have c57b2:(9223372036854775807 < (x3_1 ++ (⟨#[32]⟩:BA_)).size+(((⟨#[61,63,117,116,102,45,56,63,66,63]⟩:BA_) ++ t120) ++ (⟨#[63,61]⟩:BA_)).size)=False:=eq_false (Nat.not_lt.2 c57)
                try(have hz_:=c57;have ez_:(x3_1 ++ (⟨#[32]⟩:BA_)).size+(((⟨#[61,63,117,116,102,45,56,63,66,63]⟩:BA_) ++ t120) ++ (⟨#[63,61]⟩:BA_)).size=x3_1.size+1+(10+t120.size+2):=(by simp only[ByteArray.size_append] <;> rfl);rw[ez_]at hz_;clear ez_;have c57z0:=eq_false (Nat.not_lt.2 hz_);have c57z1:=eq_true hz_;clear hz_)
                have c58b0:=eq_true (qd_:0≤x4_2);have c59b0:=eq_true (qd_:x4_2≤(x0_1.size:Int));have H' := qM_ H;clear H
                go_wp2_with (first|((with_reducible refine gate_dst (N:=39) rfl ?_);refine Kd.V_conv _ rfl (N' := 39) rfl 9 26 5 _ rfl (x0_1.extract 0 (x4_2:Int).toNat) rfl Try.underlying9 Try.underlying26 Try.underlying5 (qd_) (Below.refl _ _) (Nat.le_refl _) ?_;intro v118 w60 ho61 hb hg_ hnew_;clear hg_ hnew_;(first|rw[← Ny117.out]at ho61|(simp only[Int.reduceToNat]at ho61;rw[← Ny117.out]at ho61));have HO119:=qM_ (Kd.V_lower (Kd.V_mono (ok' := fun k_=>True) ho61 (fun k_ hk_=>trivial)) (below_size qBHB));replace HB:=qM_ (below_step qBHB hb);clear hb ho61;obtain⟨Ao62,co62,eo62⟩:=Kd.V_slice HO119.out;subst eo62)|((with_reducible refine gate_callee (f:=77) rfl ?_);refine goesL_ (some 40) rfl rfl Try.func77 qK rfl #[.slice Ao62 y117.length co62] rfl qll_ ?_;(with_reducible refine(z77_.calls k2 _ _ y117 t120 _ ?side1 ?side2 A54.out).mono ?_);(case side1=>exact qcc_ (Kd.V_reads' HO119.out).2.2);(case side2=>exact(Kd.V_reads' HO119.out).2.1);rintro e w63 ⟨rfl,hb⟩;refine⟨_,rfl,?_⟩;replace HO119:=qM_ (Kd.V_below (qv_ HO119) hb);replace HB:=qM_ (below_step qBHB hb);(try clear hb);(try clear hb2);(try clear hk);(try clear hi)))
                go_roundg k2
                case measure=>have:=HK1.out;have:=HK2.out;omega
                case rel=>exact⟨(x0_1.extract (x4_2:Int).toNat x0_1.size),((x3_1 ++ (⟨#[32]⟩:BA_)) ++ (((⟨#[61,63,117,116,102,45,56,63,66,63]⟩:BA_) ++ t120) ++ (⟨#[63,61]⟩:BA_))),qff_,qff_,H', ⟨by have:=HK1.out;have:=HK2.out;omega⟩,⟨qBHB⟩⟩
               ·rw[if_neg c57]at H
                exact absurd H (by simp)
              ·rw[if_neg c56]at H
               exact absurd H (by simp)
             ·rw[if_neg c55]at H
              exact absurd H (by simp)
            ·rw[if_neg c53]at H
             exact absurd H (by simp)
           ·rw[if_neg c52]at H
            exact absurd H (by simp)
          ·rw[if_neg c51]at H
           exact absurd H (by simp)
         ·rw[if_neg c50]at H
          exact absurd H (by simp)


/-! ### z85_: function 85 -/
def z85_.f (a0:Bool):Option (Int):=if a0=true then(some 1)else(some 0)
set_option maxHeartbeats 8000000 in
set_option maxRecDepth 100000 in
theorem z85_.calls (a0:Bool) (r:Int) (w:World) (h:z85_.f a0=some r) :
  Calls Try.prog 85 #[.bool a0] w fun e w' => e= .returned (.int .i64 r)∧Drawn0 w w' := by
 have H:(if a0=true then(some 1)else(some 0))=some r:=h
 clear h
 by_cases c2:a0=true
 ·subst c2
  have H1:(some 1)=some r:=by rw[if_pos rfl]at H;exact H
  clear H;have H:=H1;clear H1;obtain rfl:=Option.some.inj H;go_enter Try.func85,Try.ntmps85
  go_wp2
  go_ret;exact⟨by first|rfl|(simp;done)|(simp[*];done),by repeat(first|exact Drawn0.refl _|apply Drawn0.step)⟩
 ·replace c2:=Bool.eq_false_iff.mpr c2
  subst c2
  have H1:(some 0)=some r:=by rw[if_neg (show ¬(false=true)by decide)]at H;exact H
  clear H;have H:=H1;clear H1;obtain rfl:=Option.some.inj H;go_enter Try.func85,Try.ntmps85
  go_wp2
  go_ret;exact⟨by first|rfl|(simp;done)|(simp[*];done),by repeat(first|exact Drawn0.refl _|apply Drawn0.step)⟩


/-! ### z86_: function 86 -/
def z86_.f (a0:Int):Option (Bool):=if(Int.tmod a0 4)=0 then(if(Int.tmod a0 100)=0 then(some ((Int.tmod a0 400) == 0))else(some true))else(some false)
set_option maxHeartbeats 8000000 in
set_option maxRecDepth 100000 in
theorem z86_.calls (a0:Int) (r:Bool) (w:World) (h:z86_.f a0=some r) :
  Calls Try.prog 86 #[.int .i64 a0] w fun e w' => e= .returned (.bool r)∧Drawn0 w w' := by
 have H:(if(Int.tmod a0 4)=0 then(if(Int.tmod a0 100)=0 then(some ((Int.tmod a0 400) == 0))else(some true))else(some false))=some r:=h
 clear h
 by_cases c2:(Int.tmod a0 4)=0
 ·rw[if_pos c2]at H
  have c2b0:((Int.tmod a0 4) == 0)=true:=beq_iff_eq.mpr c2;have c2b1:((Int.tmod a0 4) != 0)=false:=bne_eq_false_iff_eq.mpr c2;clear c2;by_cases c3:(Int.tmod a0 100)=0
  ·rw[if_pos c3]at H
   have c3b0:((Int.tmod a0 100) == 0)=true:=beq_iff_eq.mpr c3;have c3b1:((Int.tmod a0 100) != 0)=false:=bne_eq_false_iff_eq.mpr c3;clear c3;obtain rfl:=Option.some.inj H;go_enter Try.func86,Try.ntmps86
   go_wp2
   go_ret;exact⟨by first|rfl|(simp;done)|(simp[*];done),by repeat(first|exact Drawn0.refl _|apply Drawn0.step)⟩
  ·rw[if_neg c3]at H
   have c3b0:((Int.tmod a0 100) == 0)=false:=beq_eq_false_iff_ne.mpr c3;have c3b1:((Int.tmod a0 100) != 0)=true:=bne_iff_ne.mpr c3;obtain rfl:=Option.some.inj H;go_enter Try.func86,Try.ntmps86
   go_wp2
   go_ret;exact⟨by first|rfl|(simp;done)|(simp[*];done),by repeat(first|exact Drawn0.refl _|apply Drawn0.step)⟩
 ·rw[if_neg c2]at H
  have c2b0:((Int.tmod a0 4) == 0)=false:=beq_eq_false_iff_ne.mpr c2;have c2b1:((Int.tmod a0 4) != 0)=true:=bne_iff_ne.mpr c2;obtain rfl:=Option.some.inj H;go_enter Try.func86,Try.ntmps86
  go_wp2
  go_ret;exact⟨by first|rfl|(simp;done)|(simp[*];done),by repeat(first|exact Drawn0.refl _|apply Drawn0.step)⟩


/-! ### z87_: function 87 -/
def z87_.f (a0:Int) (a1:Int):Option (Int):=if a1=2 then((z86_.f a0).bind fun t101=>((z85_.f t101).bind fun t102=>(some (wrap64 (28+t102)))))else(if a1=4 then(some 30)else(if a1=6 then(some 30)else(if a1=9 then(some 30)else(if a1=11 then(some 30)else(some 31)))))
set_option maxHeartbeats 8000000 in
set_option maxRecDepth 100000 in
theorem z87_.calls (a0:Int) (a1:Int) (r:Int) (w:World) (h:z87_.f a0 a1=some r) :
  Calls Try.prog 87 #[.int .i64 a0,.int .i64 a1] w fun e w' => e= .returned (.int .i64 r)∧Drawn0 w w' := by
 have H:(if a1=2 then((z86_.f a0).bind fun t101=>((z85_.f t101).bind fun t102=>(some (wrap64 (28+t102)))))else(if a1=4 then(some 30)else(if a1=6 then(some 30)else(if a1=9 then(some 30)else(if a1=11 then(some 30)else(some 31))))))=some r:=h
 clear h
 by_cases c3:a1=2
 ·rw[if_pos c3]at H
  have c3b0:(a1 == 2)=true:=beq_iff_eq.mpr c3;have c3b1:(a1 != 2)=false:=bne_eq_false_iff_eq.mpr c3;clear c3;replace H:=Option.bind_eq_some_iff.mp H;obtain⟨t101,A40,H⟩:=H;have A4:=qM_ A40;clear A40;replace H:=Option.bind_eq_some_iff.mp H;obtain⟨t102,A50,H⟩:=H;have A5:=qM_ A50;clear A50;obtain rfl:=Option.some.inj H;go_enter Try.func87,Try.ntmps87
  go_wp2_with (first|((with_reducible refine gate_callee (f:=86) rfl ?_);refine goesL_ (some 8) rfl rfl Try.func86 qK rfl #[.int .i64 a0] rfl qll_ ?_;(with_reducible refine(z86_.calls a0 t101 _ A4.out).mono ?_);rintro e w' ⟨rfl,⟨nd,rfl⟩⟩;refine⟨_,rfl,?_⟩)|((with_reducible refine gate_callee (f:=85) rfl ?_);refine goesL_ (some 9) rfl rfl Try.func85 qK rfl #[.bool t101] rfl qll_ ?_;(with_reducible refine(z85_.calls t101 t102 _ A5.out).mono ?_);rintro e w' ⟨rfl,⟨nd,rfl⟩⟩;refine⟨_,rfl,?_⟩))
  go_ret;exact⟨by first|rfl|(simp;done)|(simp[*];done),by repeat(first|exact Drawn0.refl _|apply Drawn0.step)⟩
 ·rw[if_neg c3]at H
  have c3b0:(a1 == 2)=false:=beq_eq_false_iff_ne.mpr c3;have c3b1:(a1 != 2)=true:=bne_iff_ne.mpr c3;by_cases c6:a1=4
  ·rw[if_pos c6]at H
   have c6b0:(a1 == 4)=true:=beq_iff_eq.mpr c6;have c6b1:(a1 != 4)=false:=bne_eq_false_iff_eq.mpr c6;clear c6;obtain rfl:=Option.some.inj H;go_enter Try.func87,Try.ntmps87
   go_wp2
   go_ret;exact⟨by first|rfl|(simp;done)|(simp[*];done),by repeat(first|exact Drawn0.refl _|apply Drawn0.step)⟩
  ·rw[if_neg c6]at H
   have c6b0:(a1 == 4)=false:=beq_eq_false_iff_ne.mpr c6;have c6b1:(a1 != 4)=true:=bne_iff_ne.mpr c6;by_cases c7:a1=6
   ·rw[if_pos c7]at H
    have c7b0:(a1 == 6)=true:=beq_iff_eq.mpr c7;have c7b1:(a1 != 6)=false:=bne_eq_false_iff_eq.mpr c7;clear c7;obtain rfl:=Option.some.inj H;go_enter Try.func87,Try.ntmps87
    go_wp2
    go_ret;exact⟨by first|rfl|(simp;done)|(simp[*];done),by repeat(first|exact Drawn0.refl _|apply Drawn0.step)⟩
   ·rw[if_neg c7]at H
    have c7b0:(a1 == 6)=false:=beq_eq_false_iff_ne.mpr c7;have c7b1:(a1 != 6)=true:=bne_iff_ne.mpr c7;by_cases c8:a1=9
    ·rw[if_pos c8]at H
     have c8b0:(a1 == 9)=true:=beq_iff_eq.mpr c8;have c8b1:(a1 != 9)=false:=bne_eq_false_iff_eq.mpr c8;clear c8;obtain rfl:=Option.some.inj H;go_enter Try.func87,Try.ntmps87
     go_wp2
     go_ret;exact⟨by first|rfl|(simp;done)|(simp[*];done),by repeat(first|exact Drawn0.refl _|apply Drawn0.step)⟩
    ·rw[if_neg c8]at H
     have c8b0:(a1 == 9)=false:=beq_eq_false_iff_ne.mpr c8;have c8b1:(a1 != 9)=true:=bne_iff_ne.mpr c8;by_cases c9:a1=11
     ·rw[if_pos c9]at H
      have c9b0:(a1 == 11)=true:=beq_iff_eq.mpr c9;have c9b1:(a1 != 11)=false:=bne_eq_false_iff_eq.mpr c9;clear c9;obtain rfl:=Option.some.inj H;go_enter Try.func87,Try.ntmps87
      go_wp2
      go_ret;exact⟨by first|rfl|(simp;done)|(simp[*];done),by repeat(first|exact Drawn0.refl _|apply Drawn0.step)⟩
     ·rw[if_neg c9]at H
      have c9b0:(a1 == 11)=false:=beq_eq_false_iff_ne.mpr c9;have c9b1:(a1 != 11)=true:=bne_iff_ne.mpr c9;obtain rfl:=Option.some.inj H;go_enter Try.func87,Try.ntmps87
      go_wp2
      go_ret;exact⟨by first|rfl|(simp;done)|(simp[*];done),by repeat(first|exact Drawn0.refl _|apply Drawn0.step)⟩


/-! ### z78_: function 78 -/
mutual
def z78_.l0:Nat→Int→Int→Int→Int→Int→Int→Int→Option (Int × Int × Int × Int × Int × Int)
 | 0,_,_,_,_,_,_,_=>none
 | k+1,x4,x103000,x103001,x103002,x103003,x103004,x103005=>(z86_.f x103000).bind fun t103=>((z85_.f t103).bind fun t104=>(if x4≥(wrap64 (365+t104))then((z86_.f x103000).bind fun t105=>((z85_.f t105).bind fun t106=>(z78_.l0 k (wrap64 (x4 - (wrap64 (365+t106)))) (wrap64 (x103000+1)) x103001 x103002 x103003 x103004 x103005)))else(z78_.l1 k x4 x103000 x103001 x103002 x103003 x103004 x103005)))
def z78_.l1:Nat→Int→Int→Int→Int→Int→Int→Int→Option (Int × Int × Int × Int × Int × Int)
 | 0,_,_,_,_,_,_,_=>none
 | k+1,x4,x103000,x103001,x103002,x103003,x103004,x103005=>(z87_.f x103000 x103001).bind fun t107=>(if x4≥t107 then((z87_.f x103000 x103001).bind fun t108=>(z78_.l1 k (wrap64 (x4 - t108)) x103000 (wrap64 (x103001+1)) x103002 x103003 x103004 x103005))else(some (x103000,x103001,wrap64 (x4+1),x103003,x103004,x103005)))
end
def z78_.f (k:Nat) (a0:Int):Option (Int × Int × Int × Int × Int × Int):=z78_.l0 k (wrap64 (Int.tdiv a0 86400)) 1970 1 0 (Int.tmod (wrap64 (Int.tdiv a0 3600)) 24) (Int.tmod (wrap64 (Int.tdiv a0 60)) 60) (Int.tmod a0 60)
theorem z78_.mono_l:∀ k,(∀ y0 y1 y2 y3 y4 y5 y6,LeO (z78_.l0 k y0 y1 y2 y3 y4 y5 y6) (z78_.l0 (k+1) y0 y1 y2 y3 y4 y5 y6))∧(∀ y0 y1 y2 y3 y4 y5 y6,LeO (z78_.l1 k y0 y1 y2 y3 y4 y5 y6) (z78_.l1 (k+1) y0 y1 y2 y3 y4 y5 y6))
 | 0=>⟨fun _ _ _ _ _ _ _ r h=>by simp[z78_.l0]at h,fun _ _ _ _ _ _ _ r h=>by simp[z78_.l1]at h⟩
 | k+1=>by
  obtain⟨ih0,ih1⟩:=z78_.mono_l k;refine⟨?_,?_⟩
  ·intro y0 y1 y2 y3 y4 y5 y6
   unfold z78_.l0
   repeat' first
   | (with_reducible exact ih0 _ _ _ _ _ _ _)
   | (with_reducible exact ih1 _ _ _ _ _ _ _)
   | (with_reducible exact LeO.refl _)
   | (with_reducible exact LeO.none _)
   | (with_reducible refine LeO.ite ?_ ?_)
   | (with_reducible refine LeO.bind ?_ (fun _=> ?_))
   | exact ih0 _ _ _ _ _ _ _
   | exact ih1 _ _ _ _ _ _ _
   | exact LeO.none _
   | refine LeO.ite ?_ ?_
   | refine LeO.bind ?_ (fun _=> ?_)
  ·intro y0 y1 y2 y3 y4 y5 y6
   unfold z78_.l1
   repeat' first
   | (with_reducible exact ih0 _ _ _ _ _ _ _)
   | (with_reducible exact ih1 _ _ _ _ _ _ _)
   | (with_reducible exact LeO.refl _)
   | (with_reducible exact LeO.none _)
   | (with_reducible refine LeO.ite ?_ ?_)
   | (with_reducible refine LeO.bind ?_ (fun _=> ?_))
   | exact ih0 _ _ _ _ _ _ _
   | exact ih1 _ _ _ _ _ _ _
   | exact LeO.none _
   | refine LeO.ite ?_ ?_
   | refine LeO.bind ?_ (fun _=> ?_)
theorem z78_.mono:∀ a0 k,LeO (z78_.f k a0) (z78_.f (k+1) a0):=by
 intro a0 k
 obtain⟨ih0,ih1⟩:=z78_.mono_l k
 unfold z78_.f
 repeat' first
   | (with_reducible exact ih0 _ _ _ _ _ _ _)
   | (with_reducible exact ih1 _ _ _ _ _ _ _)
   | (with_reducible exact LeO.refl _)
   | (with_reducible exact LeO.none _)
   | (with_reducible refine LeO.ite ?_ ?_)
   | (with_reducible refine LeO.bind ?_ (fun _=> ?_))
   | exact ih0 _ _ _ _ _ _ _
   | exact ih1 _ _ _ _ _ _ _
   | exact LeO.none _
   | refine LeO.ite ?_ ?_
   | refine LeO.bind ?_ (fun _=> ?_)
abbrev z78_.b0:Array Value:=#[.int .i64 0,.int .i64 0,.int .i64 0,.int .i64 0,.int .i64 0,.int .i64 0]
set_option maxHeartbeats 8000000 in
set_option maxRecDepth 100000 in
theorem z78_.calls (k:Nat) (a0:Int) (r1:Int) (r2:Int) (r3:Int) (r4:Int) (r5:Int) (r6:Int) (w:World) (h:z78_.f k a0=some (r1,r2,r3,r4,r5,r6)) :
  Calls Try.prog 78 #[.int .i64 a0] w fun e w' => e= .returned (.agg #[.int .i64 r1,.int .i64 r2,.int .i64 r3,.int .i64 r4,.int .i64 r5,.int .i64 r6])∧Below w.heap.size w w' := by
 have hu105:=Try.underlying105
 have HB:=qM_ (Below.refl w.heap.size w)
 have H:(z78_.l0 k (wrap64 (Int.tdiv a0 86400)) 1970 1 0 (Int.tmod (wrap64 (Int.tdiv a0 3600)) 24) (Int.tmod (wrap64 (Int.tdiv a0 60)) 60) (Int.tmod a0 60))=some (r1,r2,r3,r4,r5,r6):=h
 clear h
 have H' := qM_ H
 clear H
 go_enter Try.func78,Try.ntmps78
 go_wp2_with (first|((with_reducible refine gate_dst (N:=2) rfl ?_);refine box_event ?hg (N:=2) ?hd (cs:=z78_.b0) (t:=105) ?hr ?_;(case hd=>rfl);(case hg=>rfl);(case hr=>first|(go_simp;done)|(go_simp;rfl));intro gb101 hg w2 hbox hb;have BK101:=qM_ (hbox);have GW101:=qM_ ((by rw[hg];exact(below_size qBHB):w.heap.size≤gb101));have GE101:=qM_ ((by rw[hg];exact(below_size qBHB):w.heap.size≤gb101));replace HB:=qM_ (below_step qBHB hb);clear hb hbox hg)|((with_reducible refine gate_dst (N:=3) rfl ?_);refine box_event ?hg (N:=3) ?hd (cs:=z78_.b0) (t:=105) ?hr ?_;(case hd=>rfl);(case hg=>rfl);(case hr=>first|(go_simp;done)|(go_simp;rfl));intro gb102 hg w3 hbox hb;have BK102:=qM_ (hbox);have GW102:=qM_ ((by rw[hg];exact(below_size qBHB):w.heap.size≤gb102));have GE102:=qM_ ((by rw[hg];exact(below_size qBHB):w.heap.size≤gb102));replace HB:=qM_ (below_step qBHB hb);have NB101_102:=qM_ ((by rw[hg];exact Nat.ne_of_lt (blk_lt (qk_ BK101)):gb101≠gb102));have NB102_101:=qM_ ((by rw[hg];exact Nat.ne_of_gt (blk_lt (qk_ BK101)):gb102≠gb101));replace BK101:=qM_ (blk_below (qk_ BK101) hb);clear hb hbox hg;have hnb4:=NB102_101.out;have hnc4:=NB101_102.out;obtain⟨hcz5_0,hcz5_1,hcz5_2,hcz5_3,hcz5_4,hcz5_5,hfz5_0⟩:=qc6_ BK102))
 go_loopg [4] k (fun kq v4 w' => ∃(x4_1:Int) (x103000_1:Int),v4= .int .i64 x4_1∧Aside0 (z78_.l0 kq x4_1 x103000_1 1 0 (Int.tmod (wrap64 (Int.tdiv a0 3600)) 24) (Int.tmod (wrap64 (Int.tdiv a0 60)) 60) (Int.tmod a0 60)=some (r1,r2,r3,r4,r5,r6))∧Aside0 (kq≤k)∧Aside0 (w'.heap[gb101]? = some (.cells z78_.b0 105 (0,0)))∧Aside0 (w'.heap[gb102]? = some (.cells #[.int .i64 x103000_1,.int .i64 1,.int .i64 0,.int .i64 (Int.tmod (wrap64 (Int.tdiv a0 3600)) 24),.int .i64 (Int.tmod (wrap64 (Int.tdiv a0 60)) 60),.int .i64 (Int.tmod a0 60)] 105 (0,0)))∧Aside0 (Below w.heap.size w w'))
 case atStart=>exact⟨(wrap64 (Int.tdiv a0 86400)),(1970),qff_,H', ⟨Nat.le_refl _⟩,⟨qp_ BK101⟩,⟨by(with_reducible repeat(first|refine blk_drewN ?_ _|refine blk_drew ?_|refine blk_alloc ?_ _));refine blk_put (cs:=#[.int .i64 1970,.int .i64 1,.int .i64 0,.int .i64 (Int.tmod (wrap64 (Int.tdiv a0 3600)) 24),.int .i64 (Int.tmod (wrap64 (Int.tdiv a0 60)) 60),.int .i64 0]) ?_ 5 _ rfl;(with_reducible repeat(first|refine blk_drewN ?_ _|refine blk_drew ?_|refine blk_alloc ?_ _));refine blk_put (cs:=#[.int .i64 1970,.int .i64 1,.int .i64 0,.int .i64 (Int.tmod (wrap64 (Int.tdiv a0 3600)) 24),.int .i64 0,.int .i64 0]) ?_ 4 _ rfl;(with_reducible repeat(first|refine blk_drewN ?_ _|refine blk_drew ?_|refine blk_alloc ?_ _));refine blk_put (cs:=#[.int .i64 1970,.int .i64 1,.int .i64 0,.int .i64 0,.int .i64 0,.int .i64 0]) ?_ 3 _ rfl;(with_reducible repeat(first|refine blk_drewN ?_ _|refine blk_drew ?_|refine blk_alloc ?_ _));refine blk_put (cs:=#[.int .i64 1970,.int .i64 1,.int .i64 0,.int .i64 0,.int .i64 0,.int .i64 0]) ?_ 2 _ rfl;(with_reducible repeat(first|refine blk_drewN ?_ _|refine blk_drew ?_|refine blk_alloc ?_ _));refine blk_put (cs:=#[.int .i64 1970,.int .i64 0,.int .i64 0,.int .i64 0,.int .i64 0,.int .i64 0]) ?_ 1 _ rfl;(with_reducible repeat(first|refine blk_drewN ?_ _|refine blk_drew ?_|refine blk_alloc ?_ _));refine blk_put (cs:=z78_.b0) ?_ 0 _ rfl;(with_reducible repeat(first|refine blk_drewN ?_ _|refine blk_drew ?_|refine blk_alloc ?_ _));exact BK102.out⟩,⟨qBHB⟩⟩
 case round =>
  clear H'
  try clear p2
  try clear c4
  try clear hcz5_0 hcz5_1 hcz5_2 hcz5_3 hcz5_4 hcz5_5
  try clear hfz5_0
  obtain⟨x4_1,x103000_1,rfl,HA,HK1,BK101,BK102,HB⟩:=hrel
  cases gk with
  | zero=>exact absurd HA.out (by simp[z78_.l0])
  | succ k1 =>
   have H:=HA.out;clear HA;simp only[z78_.l0]at H;replace H:=Option.bind_eq_some_iff.mp H;obtain⟨t103,A60,H⟩:=H;have A6:=qM_ A60;clear A60;replace H:=Option.bind_eq_some_iff.mp H;obtain⟨t104,A70,H⟩:=H;have A7:=qM_ A70;clear A70;by_cases c8:x4_1≥(wrap64 (365+t104))
   ·rw[if_pos c8]at H
    have c8b0:decide ((wrap64 (365+t104))≤x4_1)=true:=decide_eq_true c8;clear c8;replace H:=Option.bind_eq_some_iff.mp H;obtain⟨t105,A90,H⟩:=H;have A9:=qM_ A90;clear A90;replace H:=Option.bind_eq_some_iff.mp H;obtain⟨t106,A100,H⟩:=H;have A10:=qM_ A100;clear A100;have H' := qM_ H;clear H;have hnb11:=NB102_101.out;have hnc11:=NB101_102.out;obtain⟨hcz12_0,hcz12_1,hcz12_2,hcz12_3,hcz12_4,hcz12_5,hfz12_0⟩:=qc6_ BK102
    go_wp2_with (first|((with_reducible refine gate_callee (f:=86) rfl ?_);refine goesL_ (some 19) rfl rfl Try.func86 qK rfl #[.int .i64 x103000_1] rfl qll_ ?_;(with_reducible refine(z86_.calls x103000_1 t103 _ A6.out).mono ?_);rintro e w' ⟨rfl,⟨nd,rfl⟩⟩;refine⟨_,rfl,?_⟩;(try(rw[drewN_self wr];generalize hq_:World.drewN wr _=wr;replace BK101:Aside0 (wr.heap[gb101]? = some (.cells z78_.b0 105 (0,0))):=⟨by rw[← hq_];exact(qk_ BK101)⟩;replace BK102:Aside0 (wr.heap[gb102]? = some (.cells #[.int .i64 x103000_1,.int .i64 1,.int .i64 0,.int .i64 (Int.tmod (wrap64 (Int.tdiv a0 3600)) 24),.int .i64 (Int.tmod (wrap64 (Int.tdiv a0 60)) 60),.int .i64 (Int.tmod a0 60)] 105 (0,0))):=⟨by rw[← hq_];exact(qk_ BK102)⟩;replace HB:Aside0 (Below w.heap.size w wr):=⟨by rw[← hq_];exact qBHB⟩;clear hq_;obtain⟨hcy101_0,hfy101_0⟩:=qc1_ BK101;have hcy101_1:wr.cell? ⟨gb101,1,none⟩=some (.int .i64 0):=(qC_ BK101.out 1).trans rfl;have hfy101_1:=qF_ BK101.out 1;have hcy101_2:wr.cell? ⟨gb101,2,none⟩=some (.int .i64 0):=(qC_ BK101.out 2).trans rfl;have hfy101_2:=qF_ BK101.out 2;have hcy101_3:wr.cell? ⟨gb101,3,none⟩=some (.int .i64 0):=(qC_ BK101.out 3).trans rfl;have hfy101_3:=qF_ BK101.out 3;have hcy101_4:wr.cell? ⟨gb101,4,none⟩=some (.int .i64 0):=(qC_ BK101.out 4).trans rfl;have hfy101_4:=qF_ BK101.out 4;have hcy101_5:wr.cell? ⟨gb101,5,none⟩=some (.int .i64 0):=(qC_ BK101.out 5).trans rfl;have hfy101_5:=qF_ BK101.out 5;obtain⟨hcy102_0,hfy102_0⟩:=qc1_ BK102;have hcy102_1:wr.cell? ⟨gb102,1,none⟩=some (.int .i64 1):=(qC_ BK102.out 1).trans rfl;have hfy102_1:=qF_ BK102.out 1;have hcy102_2:wr.cell? ⟨gb102,2,none⟩=some (.int .i64 0):=(qC_ BK102.out 2).trans rfl;have hfy102_2:=qF_ BK102.out 2;have hcy102_3:wr.cell? ⟨gb102,3,none⟩=some (.int .i64 (Int.tmod (wrap64 (Int.tdiv a0 3600)) 24)):=(qC_ BK102.out 3).trans rfl;have hfy102_3:=qF_ BK102.out 3;have hcy102_4:wr.cell? ⟨gb102,4,none⟩=some (.int .i64 (Int.tmod (wrap64 (Int.tdiv a0 60)) 60)):=(qC_ BK102.out 4).trans rfl;have hfy102_4:=qF_ BK102.out 4;have hcy102_5:wr.cell? ⟨gb102,5,none⟩=some (.int .i64 (Int.tmod a0 60)):=(qC_ BK102.out 5).trans rfl;have hfy102_5:=qF_ BK102.out 5)))|((with_reducible refine gate_callee (f:=85) rfl ?_);refine goesL_ (some 20) rfl rfl Try.func85 qK rfl #[.bool t103] rfl qll_ ?_;(with_reducible refine(z85_.calls t103 t104 _ A7.out).mono ?_);rintro e w' ⟨rfl,⟨nd,rfl⟩⟩;refine⟨_,rfl,?_⟩;(try(rw[drewN_self wr];generalize hq_:World.drewN wr _=wr;replace BK101:Aside0 (wr.heap[gb101]? = some (.cells z78_.b0 105 (0,0))):=⟨by rw[← hq_];exact(qk_ BK101)⟩;replace BK102:Aside0 (wr.heap[gb102]? = some (.cells #[.int .i64 x103000_1,.int .i64 1,.int .i64 0,.int .i64 (Int.tmod (wrap64 (Int.tdiv a0 3600)) 24),.int .i64 (Int.tmod (wrap64 (Int.tdiv a0 60)) 60),.int .i64 (Int.tmod a0 60)] 105 (0,0))):=⟨by rw[← hq_];exact(qk_ BK102)⟩;replace HB:Aside0 (Below w.heap.size w wr):=⟨by rw[← hq_];exact qBHB⟩;clear hq_;obtain⟨hcy101_0,hfy101_0⟩:=qc1_ BK101;have hcy101_1:wr.cell? ⟨gb101,1,none⟩=some (.int .i64 0):=(qC_ BK101.out 1).trans rfl;have hfy101_1:=qF_ BK101.out 1;have hcy101_2:wr.cell? ⟨gb101,2,none⟩=some (.int .i64 0):=(qC_ BK101.out 2).trans rfl;have hfy101_2:=qF_ BK101.out 2;have hcy101_3:wr.cell? ⟨gb101,3,none⟩=some (.int .i64 0):=(qC_ BK101.out 3).trans rfl;have hfy101_3:=qF_ BK101.out 3;have hcy101_4:wr.cell? ⟨gb101,4,none⟩=some (.int .i64 0):=(qC_ BK101.out 4).trans rfl;have hfy101_4:=qF_ BK101.out 4;have hcy101_5:wr.cell? ⟨gb101,5,none⟩=some (.int .i64 0):=(qC_ BK101.out 5).trans rfl;have hfy101_5:=qF_ BK101.out 5;obtain⟨hcy102_0,hfy102_0⟩:=qc1_ BK102;have hcy102_1:wr.cell? ⟨gb102,1,none⟩=some (.int .i64 1):=(qC_ BK102.out 1).trans rfl;have hfy102_1:=qF_ BK102.out 1;have hcy102_2:wr.cell? ⟨gb102,2,none⟩=some (.int .i64 0):=(qC_ BK102.out 2).trans rfl;have hfy102_2:=qF_ BK102.out 2;have hcy102_3:wr.cell? ⟨gb102,3,none⟩=some (.int .i64 (Int.tmod (wrap64 (Int.tdiv a0 3600)) 24)):=(qC_ BK102.out 3).trans rfl;have hfy102_3:=qF_ BK102.out 3;have hcy102_4:wr.cell? ⟨gb102,4,none⟩=some (.int .i64 (Int.tmod (wrap64 (Int.tdiv a0 60)) 60)):=(qC_ BK102.out 4).trans rfl;have hfy102_4:=qF_ BK102.out 4;have hcy102_5:wr.cell? ⟨gb102,5,none⟩=some (.int .i64 (Int.tmod a0 60)):=(qC_ BK102.out 5).trans rfl;have hfy102_5:=qF_ BK102.out 5)))|((with_reducible refine gate_callee (f:=86) rfl ?_);refine goesL_ (some 26) rfl rfl Try.func86 qK rfl #[.int .i64 x103000_1] rfl qll_ ?_;(with_reducible refine(z86_.calls x103000_1 t105 _ A9.out).mono ?_);rintro e w' ⟨rfl,⟨nd,rfl⟩⟩;refine⟨_,rfl,?_⟩;(try(rw[drewN_self wr];generalize hq_:World.drewN wr _=wr;replace BK101:Aside0 (wr.heap[gb101]? = some (.cells z78_.b0 105 (0,0))):=⟨by rw[← hq_];exact(qk_ BK101)⟩;replace BK102:Aside0 (wr.heap[gb102]? = some (.cells #[.int .i64 x103000_1,.int .i64 1,.int .i64 0,.int .i64 (Int.tmod (wrap64 (Int.tdiv a0 3600)) 24),.int .i64 (Int.tmod (wrap64 (Int.tdiv a0 60)) 60),.int .i64 (Int.tmod a0 60)] 105 (0,0))):=⟨by rw[← hq_];exact(qk_ BK102)⟩;replace HB:Aside0 (Below w.heap.size w wr):=⟨by rw[← hq_];exact qBHB⟩;clear hq_;obtain⟨hcy101_0,hfy101_0⟩:=qc1_ BK101;have hcy101_1:wr.cell? ⟨gb101,1,none⟩=some (.int .i64 0):=(qC_ BK101.out 1).trans rfl;have hfy101_1:=qF_ BK101.out 1;have hcy101_2:wr.cell? ⟨gb101,2,none⟩=some (.int .i64 0):=(qC_ BK101.out 2).trans rfl;have hfy101_2:=qF_ BK101.out 2;have hcy101_3:wr.cell? ⟨gb101,3,none⟩=some (.int .i64 0):=(qC_ BK101.out 3).trans rfl;have hfy101_3:=qF_ BK101.out 3;have hcy101_4:wr.cell? ⟨gb101,4,none⟩=some (.int .i64 0):=(qC_ BK101.out 4).trans rfl;have hfy101_4:=qF_ BK101.out 4;have hcy101_5:wr.cell? ⟨gb101,5,none⟩=some (.int .i64 0):=(qC_ BK101.out 5).trans rfl;have hfy101_5:=qF_ BK101.out 5;obtain⟨hcy102_0,hfy102_0⟩:=qc1_ BK102;have hcy102_1:wr.cell? ⟨gb102,1,none⟩=some (.int .i64 1):=(qC_ BK102.out 1).trans rfl;have hfy102_1:=qF_ BK102.out 1;have hcy102_2:wr.cell? ⟨gb102,2,none⟩=some (.int .i64 0):=(qC_ BK102.out 2).trans rfl;have hfy102_2:=qF_ BK102.out 2;have hcy102_3:wr.cell? ⟨gb102,3,none⟩=some (.int .i64 (Int.tmod (wrap64 (Int.tdiv a0 3600)) 24)):=(qC_ BK102.out 3).trans rfl;have hfy102_3:=qF_ BK102.out 3;have hcy102_4:wr.cell? ⟨gb102,4,none⟩=some (.int .i64 (Int.tmod (wrap64 (Int.tdiv a0 60)) 60)):=(qC_ BK102.out 4).trans rfl;have hfy102_4:=qF_ BK102.out 4;have hcy102_5:wr.cell? ⟨gb102,5,none⟩=some (.int .i64 (Int.tmod a0 60)):=(qC_ BK102.out 5).trans rfl;have hfy102_5:=qF_ BK102.out 5)))|((with_reducible refine gate_callee (f:=85) rfl ?_);refine goesL_ (some 27) rfl rfl Try.func85 qK rfl #[.bool t105] rfl qll_ ?_;(with_reducible refine(z85_.calls t105 t106 _ A10.out).mono ?_);rintro e w' ⟨rfl,⟨nd,rfl⟩⟩;refine⟨_,rfl,?_⟩;(try(rw[drewN_self wr];generalize hq_:World.drewN wr _=wr;replace BK101:Aside0 (wr.heap[gb101]? = some (.cells z78_.b0 105 (0,0))):=⟨by rw[← hq_];exact(qk_ BK101)⟩;replace BK102:Aside0 (wr.heap[gb102]? = some (.cells #[.int .i64 x103000_1,.int .i64 1,.int .i64 0,.int .i64 (Int.tmod (wrap64 (Int.tdiv a0 3600)) 24),.int .i64 (Int.tmod (wrap64 (Int.tdiv a0 60)) 60),.int .i64 (Int.tmod a0 60)] 105 (0,0))):=⟨by rw[← hq_];exact(qk_ BK102)⟩;replace HB:Aside0 (Below w.heap.size w wr):=⟨by rw[← hq_];exact qBHB⟩;clear hq_;obtain⟨hcy101_0,hfy101_0⟩:=qc1_ BK101;have hcy101_1:wr.cell? ⟨gb101,1,none⟩=some (.int .i64 0):=(qC_ BK101.out 1).trans rfl;have hfy101_1:=qF_ BK101.out 1;have hcy101_2:wr.cell? ⟨gb101,2,none⟩=some (.int .i64 0):=(qC_ BK101.out 2).trans rfl;have hfy101_2:=qF_ BK101.out 2;have hcy101_3:wr.cell? ⟨gb101,3,none⟩=some (.int .i64 0):=(qC_ BK101.out 3).trans rfl;have hfy101_3:=qF_ BK101.out 3;have hcy101_4:wr.cell? ⟨gb101,4,none⟩=some (.int .i64 0):=(qC_ BK101.out 4).trans rfl;have hfy101_4:=qF_ BK101.out 4;have hcy101_5:wr.cell? ⟨gb101,5,none⟩=some (.int .i64 0):=(qC_ BK101.out 5).trans rfl;have hfy101_5:=qF_ BK101.out 5;obtain⟨hcy102_0,hfy102_0⟩:=qc1_ BK102;have hcy102_1:wr.cell? ⟨gb102,1,none⟩=some (.int .i64 1):=(qC_ BK102.out 1).trans rfl;have hfy102_1:=qF_ BK102.out 1;have hcy102_2:wr.cell? ⟨gb102,2,none⟩=some (.int .i64 0):=(qC_ BK102.out 2).trans rfl;have hfy102_2:=qF_ BK102.out 2;have hcy102_3:wr.cell? ⟨gb102,3,none⟩=some (.int .i64 (Int.tmod (wrap64 (Int.tdiv a0 3600)) 24)):=(qC_ BK102.out 3).trans rfl;have hfy102_3:=qF_ BK102.out 3;have hcy102_4:wr.cell? ⟨gb102,4,none⟩=some (.int .i64 (Int.tmod (wrap64 (Int.tdiv a0 60)) 60)):=(qC_ BK102.out 4).trans rfl;have hfy102_4:=qF_ BK102.out 4;have hcy102_5:wr.cell? ⟨gb102,5,none⟩=some (.int .i64 (Int.tmod a0 60)):=(qC_ BK102.out 5).trans rfl;have hfy102_5:=qF_ BK102.out 5))))
    go_roundg k1
    case measure=>have:=HK1.out;omega
    case rel=>exact⟨(wrap64 (x4_1 - (wrap64 (365+t106)))),(wrap64 (x103000_1+1)),qff_,H', ⟨by have:=HK1.out;omega⟩,⟨qp_ BK101⟩,⟨by(with_reducible repeat(first|refine blk_drewN ?_ _|refine blk_drew ?_|refine blk_alloc ?_ _));refine blk_put (cs:=#[.int .i64 x103000_1,.int .i64 1,.int .i64 0,.int .i64 (Int.tmod (wrap64 (Int.tdiv a0 3600)) 24),.int .i64 (Int.tmod (wrap64 (Int.tdiv a0 60)) 60),.int .i64 (Int.tmod a0 60)]) ?_ 0 _ rfl;(with_reducible repeat(first|refine blk_drewN ?_ _|refine blk_drew ?_|refine blk_alloc ?_ _));exact BK102.out⟩,⟨qBHB⟩⟩
   ·rw[if_neg c8]at H
    have c8b0:decide ((wrap64 (365+t104))≤x4_1)=false:=decide_eq_false c8;clear c8;have H' := qM_ H;clear H;have hnb13:=NB102_101.out;have hnc13:=NB101_102.out;obtain⟨hcz14_0,hcz14_1,hcz14_2,hcz14_3,hcz14_4,hcz14_5,hfz14_0⟩:=qc6_ BK102
    go_wp2_with (first|((with_reducible refine gate_callee (f:=86) rfl ?_);refine goesL_ (some 19) rfl rfl Try.func86 qK rfl #[.int .i64 x103000_1] rfl qll_ ?_;(with_reducible refine(z86_.calls x103000_1 t103 _ A6.out).mono ?_);rintro e w' ⟨rfl,⟨nd,rfl⟩⟩;refine⟨_,rfl,?_⟩)|((with_reducible refine gate_callee (f:=85) rfl ?_);refine goesL_ (some 20) rfl rfl Try.func85 qK rfl #[.bool t103] rfl qll_ ?_;(with_reducible refine(z85_.calls t103 t104 _ A7.out).mono ?_);rintro e w' ⟨rfl,⟨nd,rfl⟩⟩;refine⟨_,rfl,?_⟩))
    go_loopg [4] k1 (fun kq v4 w' => ∃(x4_2:Int) (x103001_2:Int),v4= .int .i64 x4_2∧Aside0 (z78_.l1 kq x4_2 x103000_1 x103001_2 0 (Int.tmod (wrap64 (Int.tdiv a0 3600)) 24) (Int.tmod (wrap64 (Int.tdiv a0 60)) 60) (Int.tmod a0 60)=some (r1,r2,r3,r4,r5,r6))∧Aside0 (kq≤k1)∧Aside0 (w'.heap[gb101]? = some (.cells z78_.b0 105 (0,0)))∧Aside0 (w'.heap[gb102]? = some (.cells #[.int .i64 x103000_1,.int .i64 x103001_2,.int .i64 0,.int .i64 (Int.tmod (wrap64 (Int.tdiv a0 3600)) 24),.int .i64 (Int.tmod (wrap64 (Int.tdiv a0 60)) 60),.int .i64 (Int.tmod a0 60)] 105 (0,0)))∧Aside0 (Below w.heap.size w w'))
    case atStart=>exact⟨(x4_1),(1),qff_,H', ⟨Nat.le_refl _⟩,⟨qk_ BK101⟩,⟨qk_ BK102⟩,⟨qBHB⟩⟩
    case round =>
     clear H'
     try clear c1
     try clear p2
     try clear c4
     try clear p6
     try clear c7
     try clear c8
     try clear c8b0
     try clear c11
     try clear c13
     try clear hcz12_0 hcz12_1 hcz12_2 hcz12_3 hcz12_4 hcz12_5
     try clear hcz14_0 hcz14_1 hcz14_2 hcz14_3 hcz14_4 hcz14_5
     try clear hcz5_0 hcz5_1 hcz5_2 hcz5_3 hcz5_4 hcz5_5
     try clear hfz12_0
     try clear hfz14_0
     try clear hfz5_0
     try clear p2
     obtain⟨x4_2,x103001_2,rfl,HA,HK2,BK101,BK102,HB⟩:=hrel
     cases gk with
     | zero=>exact absurd HA.out (by simp[z78_.l1])
     | succ k2 =>
      have H:=HA.out;clear HA;simp only[z78_.l1]at H;replace H:=Option.bind_eq_some_iff.mp H;obtain⟨t107,A150,H⟩:=H;have A15:=qM_ A150;clear A150;by_cases c16:x4_2≥t107
      ·rw[if_pos c16]at H
       have c16b0:decide (t107≤x4_2)=true:=decide_eq_true c16;clear c16;replace H:=Option.bind_eq_some_iff.mp H;obtain⟨t108,A170,H⟩:=H;have A17:=qM_ A170;clear A170;have H' := qM_ H;clear H;have hnb18:=NB102_101.out;have hnc18:=NB101_102.out;obtain⟨hcz19_0,hcz19_1,hcz19_2,hcz19_3,hcz19_4,hcz19_5,hfz19_0⟩:=qc6_ BK102
       go_wp2_with (first|((with_reducible refine gate_callee (f:=87) rfl ?_);refine goesL_ (some 39) rfl rfl Try.func87 qK rfl #[.int .i64 x103000_1,.int .i64 x103001_2] rfl qll_ ?_;(with_reducible refine(z87_.calls x103000_1 x103001_2 t107 _ A15.out).mono ?_);rintro e w' ⟨rfl,⟨nd,rfl⟩⟩;refine⟨_,rfl,?_⟩;(try(rw[drewN_self wr];generalize hq_:World.drewN wr _=wr;replace BK101:Aside0 (wr.heap[gb101]? = some (.cells z78_.b0 105 (0,0))):=⟨by rw[← hq_];exact(qk_ BK101)⟩;replace BK102:Aside0 (wr.heap[gb102]? = some (.cells #[.int .i64 x103000_1,.int .i64 x103001_2,.int .i64 0,.int .i64 (Int.tmod (wrap64 (Int.tdiv a0 3600)) 24),.int .i64 (Int.tmod (wrap64 (Int.tdiv a0 60)) 60),.int .i64 (Int.tmod a0 60)] 105 (0,0))):=⟨by rw[← hq_];exact(qk_ BK102)⟩;replace HB:Aside0 (Below w.heap.size w wr):=⟨by rw[← hq_];exact qBHB⟩;clear hq_;obtain⟨hcy101_0,hfy101_0⟩:=qc1_ BK101;have hcy101_1:wr.cell? ⟨gb101,1,none⟩=some (.int .i64 0):=(qC_ BK101.out 1).trans rfl;have hfy101_1:=qF_ BK101.out 1;have hcy101_2:wr.cell? ⟨gb101,2,none⟩=some (.int .i64 0):=(qC_ BK101.out 2).trans rfl;have hfy101_2:=qF_ BK101.out 2;have hcy101_3:wr.cell? ⟨gb101,3,none⟩=some (.int .i64 0):=(qC_ BK101.out 3).trans rfl;have hfy101_3:=qF_ BK101.out 3;have hcy101_4:wr.cell? ⟨gb101,4,none⟩=some (.int .i64 0):=(qC_ BK101.out 4).trans rfl;have hfy101_4:=qF_ BK101.out 4;have hcy101_5:wr.cell? ⟨gb101,5,none⟩=some (.int .i64 0):=(qC_ BK101.out 5).trans rfl;have hfy101_5:=qF_ BK101.out 5;obtain⟨hcy102_0,hfy102_0⟩:=qc1_ BK102;have hcy102_1:wr.cell? ⟨gb102,1,none⟩=some (.int .i64 x103001_2):=(qC_ BK102.out 1).trans rfl;have hfy102_1:=qF_ BK102.out 1;have hcy102_2:wr.cell? ⟨gb102,2,none⟩=some (.int .i64 0):=(qC_ BK102.out 2).trans rfl;have hfy102_2:=qF_ BK102.out 2;have hcy102_3:wr.cell? ⟨gb102,3,none⟩=some (.int .i64 (Int.tmod (wrap64 (Int.tdiv a0 3600)) 24)):=(qC_ BK102.out 3).trans rfl;have hfy102_3:=qF_ BK102.out 3;have hcy102_4:wr.cell? ⟨gb102,4,none⟩=some (.int .i64 (Int.tmod (wrap64 (Int.tdiv a0 60)) 60)):=(qC_ BK102.out 4).trans rfl;have hfy102_4:=qF_ BK102.out 4;have hcy102_5:wr.cell? ⟨gb102,5,none⟩=some (.int .i64 (Int.tmod a0 60)):=(qC_ BK102.out 5).trans rfl;have hfy102_5:=qF_ BK102.out 5)))|((with_reducible refine gate_callee (f:=87) rfl ?_);refine goesL_ (some 46) rfl rfl Try.func87 qK rfl #[.int .i64 x103000_1,.int .i64 x103001_2] rfl qll_ ?_;(with_reducible refine(z87_.calls x103000_1 x103001_2 t108 _ A17.out).mono ?_);rintro e w' ⟨rfl,⟨nd,rfl⟩⟩;refine⟨_,rfl,?_⟩;(try(rw[drewN_self wr];generalize hq_:World.drewN wr _=wr;replace BK101:Aside0 (wr.heap[gb101]? = some (.cells z78_.b0 105 (0,0))):=⟨by rw[← hq_];exact(qk_ BK101)⟩;replace BK102:Aside0 (wr.heap[gb102]? = some (.cells #[.int .i64 x103000_1,.int .i64 x103001_2,.int .i64 0,.int .i64 (Int.tmod (wrap64 (Int.tdiv a0 3600)) 24),.int .i64 (Int.tmod (wrap64 (Int.tdiv a0 60)) 60),.int .i64 (Int.tmod a0 60)] 105 (0,0))):=⟨by rw[← hq_];exact(qk_ BK102)⟩;replace HB:Aside0 (Below w.heap.size w wr):=⟨by rw[← hq_];exact qBHB⟩;clear hq_;obtain⟨hcy101_0,hfy101_0⟩:=qc1_ BK101;have hcy101_1:wr.cell? ⟨gb101,1,none⟩=some (.int .i64 0):=(qC_ BK101.out 1).trans rfl;have hfy101_1:=qF_ BK101.out 1;have hcy101_2:wr.cell? ⟨gb101,2,none⟩=some (.int .i64 0):=(qC_ BK101.out 2).trans rfl;have hfy101_2:=qF_ BK101.out 2;have hcy101_3:wr.cell? ⟨gb101,3,none⟩=some (.int .i64 0):=(qC_ BK101.out 3).trans rfl;have hfy101_3:=qF_ BK101.out 3;have hcy101_4:wr.cell? ⟨gb101,4,none⟩=some (.int .i64 0):=(qC_ BK101.out 4).trans rfl;have hfy101_4:=qF_ BK101.out 4;have hcy101_5:wr.cell? ⟨gb101,5,none⟩=some (.int .i64 0):=(qC_ BK101.out 5).trans rfl;have hfy101_5:=qF_ BK101.out 5;obtain⟨hcy102_0,hfy102_0⟩:=qc1_ BK102;have hcy102_1:wr.cell? ⟨gb102,1,none⟩=some (.int .i64 x103001_2):=(qC_ BK102.out 1).trans rfl;have hfy102_1:=qF_ BK102.out 1;have hcy102_2:wr.cell? ⟨gb102,2,none⟩=some (.int .i64 0):=(qC_ BK102.out 2).trans rfl;have hfy102_2:=qF_ BK102.out 2;have hcy102_3:wr.cell? ⟨gb102,3,none⟩=some (.int .i64 (Int.tmod (wrap64 (Int.tdiv a0 3600)) 24)):=(qC_ BK102.out 3).trans rfl;have hfy102_3:=qF_ BK102.out 3;have hcy102_4:wr.cell? ⟨gb102,4,none⟩=some (.int .i64 (Int.tmod (wrap64 (Int.tdiv a0 60)) 60)):=(qC_ BK102.out 4).trans rfl;have hfy102_4:=qF_ BK102.out 4;have hcy102_5:wr.cell? ⟨gb102,5,none⟩=some (.int .i64 (Int.tmod a0 60)):=(qC_ BK102.out 5).trans rfl;have hfy102_5:=qF_ BK102.out 5))))
       go_roundg k2
       case measure=>have:=HK1.out;have:=HK2.out;omega
       case rel=>exact⟨(wrap64 (x4_2 - t108)),(wrap64 (x103001_2+1)),qff_,H', ⟨by have:=HK1.out;have:=HK2.out;omega⟩,⟨qp_ BK101⟩,⟨by(with_reducible repeat(first|refine blk_drewN ?_ _|refine blk_drew ?_|refine blk_alloc ?_ _));refine blk_put (cs:=#[.int .i64 x103000_1,.int .i64 x103001_2,.int .i64 0,.int .i64 (Int.tmod (wrap64 (Int.tdiv a0 3600)) 24),.int .i64 (Int.tmod (wrap64 (Int.tdiv a0 60)) 60),.int .i64 (Int.tmod a0 60)]) ?_ 1 _ rfl;(with_reducible repeat(first|refine blk_drewN ?_ _|refine blk_drew ?_|refine blk_alloc ?_ _));exact BK102.out⟩,⟨qBHB⟩⟩
      ·rw[if_neg c16]at H
       have c16b0:decide (t107≤x4_2)=false:=decide_eq_false c16;clear c16;simp only[Option.some.injEq,Prod.mk.injEq]at H;obtain⟨rfl,rfl,rfl,rfl,rfl,rfl⟩:=H;have hnb20:=NB102_101.out;have hnc20:=NB101_102.out;obtain⟨hcz21_0,hcz21_1,hcz21_2,hcz21_3,hcz21_4,hcz21_5,hfz21_0⟩:=qc6_ BK102
       go_wp2_with (first|((with_reducible refine gate_callee (f:=87) rfl ?_);refine goesL_ (some 39) rfl rfl Try.func87 qK rfl #[.int .i64 x103000_1,.int .i64 x103001_2] rfl qll_ ?_;(with_reducible refine(z87_.calls x103000_1 x103001_2 t107 _ A15.out).mono ?_);rintro e w' ⟨rfl,⟨nd,rfl⟩⟩;refine⟨_,rfl,?_⟩;(try(rw[drewN_self wr];generalize hq_:World.drewN wr _=wr;replace BK101:Aside0 (wr.heap[gb101]? = some (.cells z78_.b0 105 (0,0))):=⟨by rw[← hq_];exact(qk_ BK101)⟩;replace BK102:Aside0 (wr.heap[gb102]? = some (.cells #[.int .i64 x103000_1,.int .i64 x103001_2,.int .i64 0,.int .i64 (Int.tmod (wrap64 (Int.tdiv a0 3600)) 24),.int .i64 (Int.tmod (wrap64 (Int.tdiv a0 60)) 60),.int .i64 (Int.tmod a0 60)] 105 (0,0))):=⟨by rw[← hq_];exact(qk_ BK102)⟩;replace HB:Aside0 (Below w.heap.size w wr):=⟨by rw[← hq_];exact qBHB⟩;clear hq_;obtain⟨hcy101_0,hfy101_0⟩:=qc1_ BK101;have hcy101_1:wr.cell? ⟨gb101,1,none⟩=some (.int .i64 0):=(qC_ BK101.out 1).trans rfl;have hfy101_1:=qF_ BK101.out 1;have hcy101_2:wr.cell? ⟨gb101,2,none⟩=some (.int .i64 0):=(qC_ BK101.out 2).trans rfl;have hfy101_2:=qF_ BK101.out 2;have hcy101_3:wr.cell? ⟨gb101,3,none⟩=some (.int .i64 0):=(qC_ BK101.out 3).trans rfl;have hfy101_3:=qF_ BK101.out 3;have hcy101_4:wr.cell? ⟨gb101,4,none⟩=some (.int .i64 0):=(qC_ BK101.out 4).trans rfl;have hfy101_4:=qF_ BK101.out 4;have hcy101_5:wr.cell? ⟨gb101,5,none⟩=some (.int .i64 0):=(qC_ BK101.out 5).trans rfl;have hfy101_5:=qF_ BK101.out 5;obtain⟨hcy102_0,hfy102_0⟩:=qc1_ BK102;have hcy102_1:wr.cell? ⟨gb102,1,none⟩=some (.int .i64 x103001_2):=(qC_ BK102.out 1).trans rfl;have hfy102_1:=qF_ BK102.out 1;have hcy102_2:wr.cell? ⟨gb102,2,none⟩=some (.int .i64 0):=(qC_ BK102.out 2).trans rfl;have hfy102_2:=qF_ BK102.out 2;have hcy102_3:wr.cell? ⟨gb102,3,none⟩=some (.int .i64 (Int.tmod (wrap64 (Int.tdiv a0 3600)) 24)):=(qC_ BK102.out 3).trans rfl;have hfy102_3:=qF_ BK102.out 3;have hcy102_4:wr.cell? ⟨gb102,4,none⟩=some (.int .i64 (Int.tmod (wrap64 (Int.tdiv a0 60)) 60)):=(qC_ BK102.out 4).trans rfl;have hfy102_4:=qF_ BK102.out 4;have hcy102_5:wr.cell? ⟨gb102,5,none⟩=some (.int .i64 (Int.tmod a0 60)):=(qC_ BK102.out 5).trans rfl;have hfy102_5:=qF_ BK102.out 5));obtain⟨hcz22_0,hcz22_1,hcz22_2,hcz22_3,hcz22_4,hcz22_5,hfz22_0⟩:=qc6_ BK101))
       refine bodyPost_ret (results_cell_row rfl _ _ gb101 105 #[.int .i64 x103000_1,.int .i64 x103001_2,.int .i64 (wrap64 (x4_2+1)),.int .i64 (Int.tmod (wrap64 (Int.tdiv a0 3600)) 24),.int .i64 (Int.tmod (wrap64 (Int.tdiv a0 60)) 60),.int .i64 (Int.tmod a0 60)] (0,0) _ rfl (by(with_reducible repeat(first|refine blk_drewN ?_ _|refine blk_drew ?_|refine blk_alloc ?_ _));refine blk_put (cs:=#[.int .i64 x103000_1,.int .i64 x103001_2,.int .i64 (wrap64 (x4_2+1)),.int .i64 (Int.tmod (wrap64 (Int.tdiv a0 3600)) 24),.int .i64 (Int.tmod (wrap64 (Int.tdiv a0 60)) 60),.int .i64 0]) ?_ 5 _ rfl;(with_reducible repeat(first|refine blk_drewN ?_ _|refine blk_drew ?_|refine blk_alloc ?_ _));refine blk_put (cs:=#[.int .i64 x103000_1,.int .i64 x103001_2,.int .i64 (wrap64 (x4_2+1)),.int .i64 (Int.tmod (wrap64 (Int.tdiv a0 3600)) 24),.int .i64 0,.int .i64 0]) ?_ 4 _ rfl;(with_reducible repeat(first|refine blk_drewN ?_ _|refine blk_drew ?_|refine blk_alloc ?_ _));refine blk_put (cs:=#[.int .i64 x103000_1,.int .i64 x103001_2,.int .i64 (wrap64 (x4_2+1)),.int .i64 0,.int .i64 0,.int .i64 0]) ?_ 3 _ rfl;(with_reducible repeat(first|refine blk_drewN ?_ _|refine blk_drew ?_|refine blk_alloc ?_ _));refine blk_put (cs:=#[.int .i64 x103000_1,.int .i64 x103001_2,.int .i64 0,.int .i64 0,.int .i64 0,.int .i64 0]) ?_ 2 _ rfl;(with_reducible repeat(first|refine blk_drewN ?_ _|refine blk_drew ?_|refine blk_alloc ?_ _));refine blk_put (cs:=#[.int .i64 x103000_1,.int .i64 0,.int .i64 0,.int .i64 0,.int .i64 0,.int .i64 0]) ?_ 1 _ rfl;(with_reducible repeat(first|refine blk_drewN ?_ _|refine blk_drew ?_|refine blk_alloc ?_ _));refine blk_put (cs:=z78_.b0) ?_ 0 _ rfl;(with_reducible repeat(first|refine blk_drewN ?_ _|refine blk_drew ?_|refine blk_alloc ?_ _));refine blk_far ?_ NB101_102.out _;(with_reducible repeat(first|refine blk_drewN ?_ _|refine blk_drew ?_|refine blk_alloc ?_ _));exact BK101.out) Try.underlying105 rfl qK) rfl ?_;exact⟨qee_,qBHB⟩


/-! ### z79_: function 79 -/
def z79_.f (a0:Int):Option (ByteArray):=(some (([(⟨#[83,117,110]⟩:ByteArray),(⟨#[77,111,110]⟩:ByteArray),(⟨#[84,117,101]⟩:ByteArray),(⟨#[87,101,100]⟩:ByteArray),(⟨#[84,104,117]⟩:ByteArray),(⟨#[70,114,105]⟩:ByteArray),(⟨#[83,97,116]⟩:ByteArray)]:List ByteArray):List ByteArray)).bind fun y101=>(if 0≤a0 then(if a0 < (y101.length:Int)then(some (rdOf ByteArray.empty y101 a0))else(none))else(none))
set_option maxHeartbeats 8000000 in
set_option maxRecDepth 100000 in
theorem z79_.calls (a0:Int) (r:ByteArray) (w:World) (h:z79_.f a0=some r) :
  Calls Try.prog 79 #[.int .i64 a0] w fun e w' => e= .returned (.string r)∧Below w.heap.size w w' := by
 have HB:=qM_ (Below.refl w.heap.size w)
 have H:((some (([(⟨#[83,117,110]⟩:BA_),(⟨#[77,111,110]⟩:BA_),(⟨#[84,117,101]⟩:BA_),(⟨#[87,101,100]⟩:BA_),(⟨#[84,104,117]⟩:BA_),(⟨#[70,114,105]⟩:BA_),(⟨#[83,97,116]⟩:BA_)]:List ByteArray):List ByteArray)).bind fun y101=>(if 0≤a0 then(if a0 < (y101.length:Int)then(some (rdOf ByteArray.empty y101 a0))else(none))else(none)))=some r:=h
 clear h
 obtain⟨y101,hy101⟩:∃ y_:List ByteArray,y_=(([(⟨#[83,117,110]⟩:BA_),(⟨#[77,111,110]⟩:BA_),(⟨#[84,117,101]⟩:BA_),(⟨#[87,101,100]⟩:BA_),(⟨#[84,104,117]⟩:BA_),(⟨#[70,114,105]⟩:BA_),(⟨#[83,97,116]⟩:BA_)]:List ByteArray)):=⟨_,rfl⟩
 replace H:(if 0≤a0 then(if a0 < (y101.length:Int)then(some (rdOf ByteArray.empty y101 a0))else(none))else(none))=some r:=qh_ hy101 H
 have Ny101:=qM_ hy101
 clear hy101
 by_cases c2:0≤a0
 ·rw[if_pos c2]at H
  have c2b0:decide (0≤a0)=true:=decide_eq_true c2;clear c2;by_cases c3:a0 < (y101.length:Int)
  ·rw[if_pos c3]at H
   have c3b0:decide (a0 < (y101.length:Int))=true:=decide_eq_true c3;clear c3;obtain rfl:=Option.some.inj H;go_enter Try.func79,Try.ntmps79
   go_wp2_with (first|((with_reducible refine gate_dst (N:=3) rfl ?_);refine Kd.R_lit Kd.string _ 9 ?hg (N:=3) ?hd (xs:=([(⟨#[83,117,110]⟩:BA_),(⟨#[77,111,110]⟩:BA_),(⟨#[84,117,101]⟩:BA_),(⟨#[87,101,100]⟩:BA_),(⟨#[84,104,117]⟩:BA_),(⟨#[70,114,105]⟩:BA_),(⟨#[83,97,116]⟩:BA_)]:List ByteArray)) (inner:=[.string (⟨#[83,117,110]⟩:BA_),.string (⟨#[77,111,110]⟩:BA_),.string (⟨#[84,117,101]⟩:BA_),.string (⟨#[87,101,100]⟩:BA_),.string (⟨#[84,104,117]⟩:BA_),.string (⟨#[70,114,105]⟩:BA_),.string (⟨#[83,97,116]⟩:BA_)]) (ok:=fun _=>True) (okp:=fun _=>True) ?hr ?hp (fun _ hk=>hk) trivial (Below.refl _ _) (Nat.le_refl _) (by simp) ?_;(case hd=>rfl);(case hg=>rfl);(case hr=>first|(go_simp;done)|(go_simp;rfl));(case hp=>exact(Reps.one rfl (Reps.one rfl (Reps.one rfl (Reps.one rfl (Reps.one rfl (Reps.one rfl (Reps.one rfl (Reps.none _ _)))))))));intro v102 w4 ho5 hb hg_ hnew_;clear hg_ hnew_;(first|rw[← Ny101.out]at ho5|(simp only[Int.reduceToNat]at ho5;rw[← Ny101.out]at ho5));have HO103:=qM_ (Kd.R_lower ho5 (below_size qBHB));replace HB:=qM_ (below_step qBHB hb);clear hb ho5;obtain⟨Ao6,co6,eo6⟩:=Kd.R_slice HO103.out;subst eo6;have p104:0≤(a0:Int):=qd_;have q104:a0 < (y101.length:Int):=qd_;obtain⟨ad104,e104,hx104_0⟩:=Kd.at_string (Kd.R_reads' HO103.out).2.2 a0 p104 q104;cases e104;replace p104:=eq_true p104;replace q104:=eq_true q104))
   go_ret;exact⟨qee_,qBHB⟩
  ·rw[if_neg c3]at H
   exact absurd H (by simp)
 ·rw[if_neg c2]at H
  exact absurd H (by simp)


/-! ### z80_: function 80 -/
def z80_.f (a0:Int):Option (ByteArray):=some (strOfNums (([(wrap64 (48+(Int.tmod (wrap64 (Int.tdiv a0 10)) 10))) % 256,(wrap64 (48+(Int.tmod a0 10))) % 256]:List Int)))
set_option maxHeartbeats 8000000 in
set_option maxRecDepth 100000 in
theorem z80_.calls (a0:Int) (r:ByteArray) (w:World) (h:z80_.f a0=some r) :
  Calls Try.prog 80 #[.int .i64 a0] w fun e w' => e= .returned (.string r)∧Below w.heap.size w w' := by
 have HB:=qM_ (Below.refl w.heap.size w)
 have H:(some (strOfNums (([(wrap64 (48+(Int.tmod (wrap64 (Int.tdiv a0 10)) 10))) % 256,(wrap64 (48+(Int.tmod a0 10))) % 256]:List Int))))=some r:=h
 clear h
 obtain⟨y101,hy101⟩:∃ y_:List Int,y_=(([(wrap64 (48+(Int.tmod (wrap64 (Int.tdiv a0 10)) 10))) % 256,(wrap64 (48+(Int.tmod a0 10))) % 256]:List Int)):=⟨_,rfl⟩
 replace H:(some (strOfNums y101))=some r:=qh_ hy101 H
 have Ny101:=qM_ hy101
 clear hy101
 obtain rfl:=Option.some.inj H
 go_enter Try.func80,Try.ntmps80
 go_wp2_with (first|((with_reducible refine gate_dst (N:=12) rfl ?_);refine Kd.R_lit (Kd.int .u8) _ 5 ?hg (N:=12) ?hd (xs:=([(wrap64 (48+(Int.tmod (wrap64 (Int.tdiv a0 10)) 10))) % 256,(wrap64 (48+(Int.tmod a0 10))) % 256]:List Int)) (inner:=[.int .u8 ((wrap64 (48+(Int.tmod (wrap64 (Int.tdiv a0 10)) 10))) % 256),.int .u8 ((wrap64 (48+(Int.tmod a0 10))) % 256)]) (ok:=fun _=>True) (okp:=fun _=>True) ?hr ?hp (fun _ hk=>hk) trivial (Below.refl _ _) (Nat.le_refl _) (by simp) ?_;(case hd=>rfl);(case hg=>rfl);(case hr=>first|(go_simp;done)|(go_simp;rfl));(case hp=>exact(Reps.one rfl (Reps.one rfl (Reps.none _ _))));intro v102 w2 ho3 hb hg_ hnew_;clear hg_ hnew_;(first|rw[← Ny101.out]at ho3|(simp only[Int.reduceToNat]at ho3;rw[← Ny101.out]at ho3));have HO103:=qM_ (Kd.R_lower ho3 (below_size qBHB));replace HB:=qM_ (below_step qBHB hb);clear hb ho3;have hcv4:=own_string (P:=Try.prog) Try.underlying26 Try.underlying5 Try.underlying9 (Kd.own_of_R HO103.out)))
 go_ret
 exact⟨qee_,qBHB⟩


/-! ### z81_: function 81 -/
def z81_.f (a0:Int):Option (ByteArray):=(some (([(⟨#[74,97,110]⟩:ByteArray),(⟨#[70,101,98]⟩:ByteArray),(⟨#[77,97,114]⟩:ByteArray),(⟨#[65,112,114]⟩:ByteArray),(⟨#[77,97,121]⟩:ByteArray),(⟨#[74,117,110]⟩:ByteArray),(⟨#[74,117,108]⟩:ByteArray),(⟨#[65,117,103]⟩:ByteArray),(⟨#[83,101,112]⟩:ByteArray),(⟨#[79,99,116]⟩:ByteArray),(⟨#[78,111,118]⟩:ByteArray),(⟨#[68,101,99]⟩:ByteArray)]:List ByteArray):List ByteArray)).bind fun y101=>(if 0≤(wrap64 (a0 - 1))then(if(wrap64 (a0 - 1)) < (y101.length:Int)then(some (rdOf ByteArray.empty y101 (wrap64 (a0 - 1))))else(none))else(none))
set_option maxHeartbeats 8000000 in
set_option maxRecDepth 100000 in
theorem z81_.calls (a0:Int) (r:ByteArray) (w:World) (h:z81_.f a0=some r) :
  Calls Try.prog 81 #[.int .i64 a0] w fun e w' => e= .returned (.string r)∧Below w.heap.size w w' := by
 have HB:=qM_ (Below.refl w.heap.size w)
 have H:((some (([(⟨#[74,97,110]⟩:BA_),(⟨#[70,101,98]⟩:BA_),(⟨#[77,97,114]⟩:BA_),(⟨#[65,112,114]⟩:BA_),(⟨#[77,97,121]⟩:BA_),(⟨#[74,117,110]⟩:BA_),(⟨#[74,117,108]⟩:BA_),(⟨#[65,117,103]⟩:BA_),(⟨#[83,101,112]⟩:BA_),(⟨#[79,99,116]⟩:BA_),(⟨#[78,111,118]⟩:BA_),(⟨#[68,101,99]⟩:BA_)]:List ByteArray):List ByteArray)).bind fun y101=>(if 0≤(wrap64 (a0 - 1))then(if(wrap64 (a0 - 1)) < (y101.length:Int)then(some (rdOf ByteArray.empty y101 (wrap64 (a0 - 1))))else(none))else(none)))=some r:=h
 clear h
 obtain⟨y101,hy101⟩:∃ y_:List ByteArray,y_=(([(⟨#[74,97,110]⟩:BA_),(⟨#[70,101,98]⟩:BA_),(⟨#[77,97,114]⟩:BA_),(⟨#[65,112,114]⟩:BA_),(⟨#[77,97,121]⟩:BA_),(⟨#[74,117,110]⟩:BA_),(⟨#[74,117,108]⟩:BA_),(⟨#[65,117,103]⟩:BA_),(⟨#[83,101,112]⟩:BA_),(⟨#[79,99,116]⟩:BA_),(⟨#[78,111,118]⟩:BA_),(⟨#[68,101,99]⟩:BA_)]:List ByteArray)):=⟨_,rfl⟩
 replace H:(if 0≤(wrap64 (a0 - 1))then(if(wrap64 (a0 - 1)) < (y101.length:Int)then(some (rdOf ByteArray.empty y101 (wrap64 (a0 - 1))))else(none))else(none))=some r:=qh_ hy101 H
 have Ny101:=qM_ hy101
 clear hy101
 obtain⟨ji2,hji2⟩:∃ j_:Int,(wrap64 (a0 - 1))=j_:=⟨_,rfl⟩
 replace H:(if 0≤(ji2)then(if(ji2) < (y101.length:Int)then(some (rdOf ByteArray.empty y101 (ji2)))else(none))else(none))=some r:=qj_ hji2 H
 have hji2w:(IntKind.i64.wrap (a0 - 1))=ji2:=(i64_w _).trans hji2
 by_cases c3:0≤(ji2)
 ·rw[if_pos c3]at H
  have c3b0:decide (0≤(ji2))=true:=decide_eq_true c3;clear c3;by_cases c4:(ji2) < (y101.length:Int)
  ·rw[if_pos c4]at H
   have c4b0:decide ((ji2) < (y101.length:Int))=true:=decide_eq_true c4;clear c4;obtain rfl:=Option.some.inj H;go_enter Try.func81,Try.ntmps81
   go_wp2_with (first|((with_reducible refine gate_dst (N:=3) rfl ?_);refine Kd.R_lit Kd.string _ 9 ?hg (N:=3) ?hd (xs:=([(⟨#[74,97,110]⟩:BA_),(⟨#[70,101,98]⟩:BA_),(⟨#[77,97,114]⟩:BA_),(⟨#[65,112,114]⟩:BA_),(⟨#[77,97,121]⟩:BA_),(⟨#[74,117,110]⟩:BA_),(⟨#[74,117,108]⟩:BA_),(⟨#[65,117,103]⟩:BA_),(⟨#[83,101,112]⟩:BA_),(⟨#[79,99,116]⟩:BA_),(⟨#[78,111,118]⟩:BA_),(⟨#[68,101,99]⟩:BA_)]:List ByteArray)) (inner:=[.string (⟨#[74,97,110]⟩:BA_),.string (⟨#[70,101,98]⟩:BA_),.string (⟨#[77,97,114]⟩:BA_),.string (⟨#[65,112,114]⟩:BA_),.string (⟨#[77,97,121]⟩:BA_),.string (⟨#[74,117,110]⟩:BA_),.string (⟨#[74,117,108]⟩:BA_),.string (⟨#[65,117,103]⟩:BA_),.string (⟨#[83,101,112]⟩:BA_),.string (⟨#[79,99,116]⟩:BA_),.string (⟨#[78,111,118]⟩:BA_),.string (⟨#[68,101,99]⟩:BA_)]) (ok:=fun _=>True) (okp:=fun _=>True) ?hr ?hp (fun _ hk=>hk) trivial (Below.refl _ _) (Nat.le_refl _) (by simp) ?_;(case hd=>rfl);(case hg=>rfl);(case hr=>first|(go_simp;done)|(go_simp;rfl));(case hp=>exact(Reps.one rfl (Reps.one rfl (Reps.one rfl (Reps.one rfl (Reps.one rfl (Reps.one rfl (Reps.one rfl (Reps.one rfl (Reps.one rfl (Reps.one rfl (Reps.one rfl (Reps.one rfl (Reps.none _ _))))))))))))));intro v102 w5 ho6 hb hg_ hnew_;clear hg_ hnew_;(first|rw[← Ny101.out]at ho6|(simp only[Int.reduceToNat]at ho6;rw[← Ny101.out]at ho6));have HO103:=qM_ (Kd.R_lower ho6 (below_size qBHB));replace HB:=qM_ (below_step qBHB hb);clear hb ho6;obtain⟨Ao7,co7,eo7⟩:=Kd.R_slice HO103.out;subst eo7;have p104:0≤((ji2):Int):=qd_;have q104:(ji2) < (y101.length:Int):=qd_;obtain⟨ad104,e104,hx104_0⟩:=Kd.at_string (Kd.R_reads' HO103.out).2.2 (ji2) p104 q104;cases e104;replace p104:=eq_true p104;replace q104:=eq_true q104))
   go_ret;exact⟨by first|rfl|(simp[errW_none,errW_some] <;> rfl)|(simp only[← hji2];first|rfl|(simp[errW_none,errW_some] <;> rfl))|(simp[*,errW_none,errW_some] <;> rfl),qBHB⟩
  ·rw[if_neg c4]at H
   exact absurd H (by simp)
 ·rw[if_neg c3]at H
  exact absurd H (by simp)


/-! ### z82_: function 82 -/
def z82_.f (a0_0:Int) (a0_1:Int) (a0_2:Int) (a0_3:Int) (a0_4:Int) (a0_5:Int):Option (ByteArray):=(z80_.f a0_3).bind fun t102=>(if t102.size+1≤9223372036854775807 then((z80_.f a0_4).bind fun t103=>(if(t102 ++ (⟨#[58]⟩:ByteArray)).size+t103.size≤9223372036854775807 then(if((t102 ++ (⟨#[58]⟩:ByteArray)) ++ t103).size+1≤9223372036854775807 then((z80_.f a0_5).bind fun t104=>(if(((t102 ++ (⟨#[58]⟩:ByteArray)) ++ t103) ++ (⟨#[58]⟩:ByteArray)).size+t104.size≤9223372036854775807 then(some ((((t102 ++ (⟨#[58]⟩:ByteArray)) ++ t103) ++ (⟨#[58]⟩:ByteArray)) ++ t104))else(none)))else(none))else(none)))else(none))
def z82_.T1:Bool × List (List Nat × List Nat):=(true,[([],[]),([0],[0]),([1],[1]),([2],[2]),([],[]),([4],[4]),([5,2],[5]),([3,6],[3,6]),([7],[7]),([],[]),([9],[9]),([10,6],[10]),([8,11],[8,11]),([12,11,0,1,2,3,4,5,6,7,8,9,10,11,12],[12])])
def z82_.B1:List Nat:=[0,1,3,7,0,16,55,127,255,0,512,1655,4095,8191]
theorem z82_.tab1:rtab .any (opsOf Try.f82 1)=z82_.T1:=by kernel_rfl
theorem z82_.bits1:waitsOk z82_.T1.2 z82_.B1=true:=by kernel_rfl
set_option maxHeartbeats 8000000 in
set_option maxRecDepth 100000 in
theorem z82_.calls (a0_0:Int) (a0_1:Int) (a0_2:Int) (a0_3:Int) (a0_4:Int) (a0_5:Int) (r:ByteArray) (w:World) (h:z82_.f a0_0 a0_1 a0_2 a0_3 a0_4 a0_5=some r) :
  Calls Try.prog 82 #[.agg #[.int .i64 a0_0,.int .i64 a0_1,.int .i64 a0_2,.int .i64 a0_3,.int .i64 a0_4,.int .i64 a0_5]] w fun e w' => e= .returned (.string r)∧Below w.heap.size w w' := by
 have hu105:=Try.underlying105
 have HB:=qM_ (Below.refl w.heap.size w)
 have H:((z80_.f a0_3).bind fun t102=>(if t102.size+1≤9223372036854775807 then((z80_.f a0_4).bind fun t103=>(if(t102 ++ (⟨#[58]⟩:BA_)).size+t103.size≤9223372036854775807 then(if((t102 ++ (⟨#[58]⟩:BA_)) ++ t103).size+1≤9223372036854775807 then((z80_.f a0_5).bind fun t104=>(if(((t102 ++ (⟨#[58]⟩:BA_)) ++ t103) ++ (⟨#[58]⟩:BA_)).size+t104.size≤9223372036854775807 then(some ((((t102 ++ (⟨#[58]⟩:BA_)) ++ t103) ++ (⟨#[58]⟩:BA_)) ++ t104))else(none)))else(none))else(none)))else(none)))=some r:=h
 clear h
 replace H:=Option.bind_eq_some_iff.mp H
 obtain⟨t102,A20,H⟩:=H
 have A2:=qM_ A20
 clear A20
 by_cases c3:t102.size+1≤9223372036854775807
 ·rw[if_pos c3]at H
  have c3b0:=eq_true c3;have c3b1:decide (t102.size+1≤9223372036854775807)=true:=decide_eq_true c3
  try have c3b2:(9223372036854775807 < t102.size+1)=False:=eq_false (Nat.not_lt.2 c3)
  replace H:=Option.bind_eq_some_iff.mp H;obtain⟨t103,A40,H⟩:=H;have A4:=qM_ A40;clear A40;by_cases c5:(t102 ++ (⟨#[58]⟩:BA_)).size+t103.size≤9223372036854775807
  ·rw[if_pos c5]at H
   have c5b0:=eq_true c5;have c5b1:decide ((t102 ++ (⟨#[58]⟩:BA_)).size+t103.size≤9223372036854775807)=true:=decide_eq_true c5
   try have c5b2:(9223372036854775807 < (t102 ++ (⟨#[58]⟩:BA_)).size+t103.size)=False:=eq_false (Nat.not_lt.2 c5)
   try(have hz_:=c5;have ez_:(t102 ++ (⟨#[58]⟩:BA_)).size+t103.size=t102.size+1+t103.size:=(by simp only[ByteArray.size_append] <;> rfl);rw[ez_]at hz_;clear ez_;have c5z0:=eq_false (Nat.not_lt.2 hz_);have c5z1:=eq_true hz_;clear hz_)
   by_cases c6:((t102 ++ (⟨#[58]⟩:BA_)) ++ t103).size+1≤9223372036854775807
   ·rw[if_pos c6]at H
    have c6b0:=eq_true c6;have c6b1:decide (((t102 ++ (⟨#[58]⟩:BA_)) ++ t103).size+1≤9223372036854775807)=true:=decide_eq_true c6
    try have c6b2:(9223372036854775807 < ((t102 ++ (⟨#[58]⟩:BA_)) ++ t103).size+1)=False:=eq_false (Nat.not_lt.2 c6)
    try(have hz_:=c6;have ez_:((t102 ++ (⟨#[58]⟩:BA_)) ++ t103).size+1=t102.size+1+t103.size+1:=(by simp only[ByteArray.size_append] <;> rfl);rw[ez_]at hz_;clear ez_;have c6z0:=eq_false (Nat.not_lt.2 hz_);have c6z1:=eq_true hz_;clear hz_)
    replace H:=Option.bind_eq_some_iff.mp H;obtain⟨t104,A70,H⟩:=H;have A7:=qM_ A70;clear A70;by_cases c8:(((t102 ++ (⟨#[58]⟩:BA_)) ++ t103) ++ (⟨#[58]⟩:BA_)).size+t104.size≤9223372036854775807
    ·rw[if_pos c8]at H
     have c8b0:=eq_true c8;have c8b1:decide ((((t102 ++ (⟨#[58]⟩:BA_)) ++ t103) ++ (⟨#[58]⟩:BA_)).size+t104.size≤9223372036854775807)=true:=decide_eq_true c8
     try have c8b2:(9223372036854775807 < (((t102 ++ (⟨#[58]⟩:BA_)) ++ t103) ++ (⟨#[58]⟩:BA_)).size+t104.size)=False:=eq_false (Nat.not_lt.2 c8)
     try(have hz_:=c8;have ez_:(((t102 ++ (⟨#[58]⟩:BA_)) ++ t103) ++ (⟨#[58]⟩:BA_)).size+t104.size=t102.size+1+t103.size+1+t104.size:=(by simp only[ByteArray.size_append] <;> rfl);rw[ez_]at hz_;clear ez_;have c8z0:=eq_false (Nat.not_lt.2 hz_);have c8z1:=eq_true hz_;clear hz_)
     obtain rfl:=Option.some.inj H;go_enter Try.func82,Try.ntmps82
     try go_wp2_with (first|((with_reducible refine gate_dst (N:=1) rfl ?_);refine box_event ?hg (N:=1) ?hd (cs:=#[.int .i64 a0_0,.int .i64 a0_1,.int .i64 a0_2,.int .i64 a0_3,.int .i64 a0_4,.int .i64 a0_5]) (t:=105) ?hr ?_;(case hd=>rfl);(case hg=>rfl);(case hr=>first|(go_simp;done)|(go_simp;rfl));intro gb101 hg w9 hbox hb;have BK101:=qM_ (hbox);have GW101:=qM_ ((by rw[hg];exact(below_size qBHB):w.heap.size≤gb101));have GE101:=qM_ ((by rw[hg];exact(below_size qBHB):w.heap.size≤gb101));replace HB:=qM_ (below_step qBHB hb);clear hb hbox hg))
     replace BK101:=qM_ (blk_drew BK101.out);replace HB:=qM_ (qE_ HB.out)
     refine start_ (n:=14) (S:=fun w' => w'.cell? ⟨gb101,0,none⟩=some (.int .i64 a0_0)∧w'.cell? ⟨gb101,1,none⟩=some (.int .i64 a0_1)∧w'.cell? ⟨gb101,2,none⟩=some (.int .i64 a0_2)∧w'.cell? ⟨gb101,3,none⟩=some (.int .i64 a0_3)∧w'.cell? ⟨gb101,4,none⟩=some (.int .i64 a0_4)∧w'.cell? ⟨gb101,5,none⟩=some (.int .i64 a0_5)) (ds:=[]) #[qF,qF,qF,qF,qF,qF,qF,qF,qF,qF,qF,qF,qF,qF] qK rfl rfl ⟨(qC_ BK101.out 0).trans rfl,(qC_ BK101.out 1).trans rfl,(qC_ BK101.out 2).trans rfl,(qC_ BK101.out 3).trans rfl,(qC_ BK101.out 4).trans rfl,(qC_ BK101.out 5).trans rfl⟩ (fun hHeld=> ?_);refine with_tabW z82_.tab1 z82_.bits1 (fun HT_ HW_=> ?_)
     generalize w9.drew=w10 at BK101 HB hHeld ⊢;refine pure_ (i:=0) (N:=some 3) (v:= ?_) (a' := ?_) #[qT,qF,qF,qF,qF,qF,qF,qF,qF,qF,qF,qF,qF,qF] rfl rfl (any_of HT_.out qK) (fun _ _ _ h=>h) (Or.inl ⟨by rfl,?_⟩) ?_ ?_;rotate_left
     ·intro w'
      go_simp;with_reducible rfl
     rotate_left
     ·simp only[Act.put,qS_,qW_]
      rfl
     refine pure_ (i:=4) (N:=some 7) (v:= ?_) (a' := ?_) #[qT,qF,qF,qF,qT,qF,qF,qF,qF,qF,qF,qF,qF,qF] rfl rfl (any_of HT_.out qK) (fun _ _ _ h=>h) (Or.inl ⟨by rfl,?_⟩) ?_ ?_;rotate_left
     ·intro w'
      go_simp;with_reducible rfl
     rotate_left
     ·simp only[Act.put,qS_,qW_]
      rfl
     refine pure_ (i:=9) (N:=some 12) (v:= ?_) (a' := ?_) #[qT,qF,qF,qF,qT,qF,qF,qF,qF,qT,qF,qF,qF,qF] rfl rfl (any_of HT_.out qK) (fun _ _ _ h=>h) (Or.inl ⟨by rfl,?_⟩) ?_ ?_;rotate_left
     ·intro w'
      go_simp;with_reducible rfl
     rotate_left
     ·simp only[Act.put,qS_,qW_]
      rfl
     refine take_ (i:=1) (N:=some 4) (v:= ?_) (a' := ?_) #[qT,qT,qF,qF,qT,qF,qF,qF,qF,qT,qF,qF,qF,qF] rfl rfl (take_ofW HT_.out HW_.out qK) (fun _ _ _ h=>h) (Or.inl ⟨by rfl,?_⟩) hHeld ?_ ?_;rotate_left
     ·rintro w' ⟨s0,s1,s2,s3,s4,s5⟩
      go_simp;with_reducible rfl
     rotate_left
     ·simp only[Act.put,qS_,qW_]
      rfl
     refine take_ (i:=5) (N:=some 8) (v:= ?_) (a' := ?_) #[qT,qT,qF,qF,qT,qT,qF,qF,qF,qT,qF,qF,qF,qF] rfl rfl (take_ofW HT_.out HW_.out qK) (fun _ _ _ h=>h) (Or.inl ⟨by rfl,?_⟩) hHeld ?_ ?_;rotate_left
     ·rintro w' ⟨s0,s1,s2,s3,s4,s5⟩
      go_simp;with_reducible rfl
     rotate_left
     ·simp only[Act.put,qS_,qW_]
      rfl
     refine take_ (i:=10) (N:=some 13) (v:= ?_) (a' := ?_) #[qT,qT,qF,qF,qT,qT,qF,qF,qF,qT,qT,qF,qF,qF] rfl rfl (take_ofW HT_.out HW_.out qK) (fun _ _ _ h=>h) (Or.inl ⟨by rfl,?_⟩) hHeld ?_ ?_;rotate_left
     ·rintro w' ⟨s0,s1,s2,s3,s4,s5⟩
      go_simp;with_reducible rfl
     rotate_left
     ·simp only[Act.put,qS_,qW_]
      rfl
     refine one_ (i:=2) (N:=some 5) #[qT,qT,qT,qF,qT,qT,qF,qF,qF,qT,qT,qF,qF,qF] rfl rfl (one_of HT_.out qK) (by decide) (fun K hK=> ?_);refine goes_ Try.func80 qK rfl #[.int .i64 a0_3] (by rfl) rfl rfl qll_ ?_
     with_reducible refine(z80_.calls a0_3 t102 _ A2.out).mono ?_
     rintro e w11 ⟨rfl,hb⟩
     refine⟨_,rfl,?_⟩;replace BK101:=qM_ (blk_below (qk_ BK101) hb);replace HB:=qM_ (below_step qBHB hb)
     (try clear hb)
     (try clear hb2)
     (try clear hk)
     (try clear hi)
     refine hK.out _ _ ⟨(qC_ BK101.out 0).trans rfl,(qC_ BK101.out 1).trans rfl,(qC_ BK101.out 2).trans rfl,(qC_ BK101.out 3).trans rfl,(qC_ BK101.out 4).trans rfl,(qC_ BK101.out 5).trans rfl⟩ (fun hHeld=> ?_);clear hK K;refine norm_ (a' := ?_) ?_ ?_;rotate_left
     ·show Act.put _ (some 5) _=_
      simp only[Act.put,qS_,qW_];rfl
     refine pure_ (i:=3) (N:=some 6) (v:= ?_) (a' := ?_) #[qT,qT,qT,qT,qT,qT,qF,qF,qF,qT,qT,qF,qF,qF] rfl rfl (any_of HT_.out qK) (fun _ _ _ h=>h) (Or.inl ⟨by rfl,?_⟩) ?_ ?_;rotate_left
     ·intro w'
      go_simp;with_reducible rfl
     rotate_left
     ·simp only[Act.put,qS_,qW_]
      rfl
     refine one_ (i:=6) (N:=some 9) #[qT,qT,qT,qT,qT,qT,qT,qF,qF,qT,qT,qF,qF,qF] rfl rfl (one_of HT_.out qK) (by decide) (fun K hK=> ?_);refine goes_ Try.func80 qK rfl #[.int .i64 a0_4] (by rfl) rfl rfl qll_ ?_
     with_reducible refine(z80_.calls a0_4 t103 _ A4.out).mono ?_
     rintro e w12 ⟨rfl,hb⟩
     refine⟨_,rfl,?_⟩;replace BK101:=qM_ (blk_below (qk_ BK101) hb);replace HB:=qM_ (below_step qBHB hb)
     (try clear hb)
     (try clear hb2)
     (try clear hk)
     (try clear hi)
     refine hK.out _ _ ⟨(qC_ BK101.out 0).trans rfl,(qC_ BK101.out 1).trans rfl,(qC_ BK101.out 2).trans rfl,(qC_ BK101.out 3).trans rfl,(qC_ BK101.out 4).trans rfl,(qC_ BK101.out 5).trans rfl⟩ (fun hHeld=> ?_);clear hK K;refine norm_ (a' := ?_) ?_ ?_;rotate_left
     ·show Act.put _ (some 9) _=_
      simp only[Act.put,qS_,qW_];rfl
     refine pure_ (i:=7) (N:=some 10) (v:= ?_) (a' := ?_) #[qT,qT,qT,qT,qT,qT,qT,qT,qF,qT,qT,qF,qF,qF] rfl rfl (any_of HT_.out qK) (fun _ _ _ h=>h) (Or.inl ⟨by rfl,?_⟩) ?_ ?_;rotate_left
     ·intro w'
      go_simp;with_reducible rfl
     rotate_left
     ·simp only[Act.put,qS_,qW_]
      rfl
     refine pure_ (i:=8) (N:=some 11) (v:= ?_) (a' := ?_) #[qT,qT,qT,qT,qT,qT,qT,qT,qT,qT,qT,qF,qF,qF] rfl rfl (any_of HT_.out qK) (fun _ _ _ h=>h) (Or.inl ⟨by rfl,?_⟩) ?_ ?_;rotate_left
     ·intro w'
      go_simp;with_reducible rfl
     rotate_left
     ·simp only[Act.put,qS_,qW_]
      rfl
     refine one_ (i:=11) (N:=some 14) #[qT,qT,qT,qT,qT,qT,qT,qT,qT,qT,qT,qT,qF,qF] rfl rfl (one_of HT_.out qK) (by decide) (fun K hK=> ?_);refine goes_ Try.func80 qK rfl #[.int .i64 a0_5] (by rfl) rfl rfl qll_ ?_
     with_reducible refine(z80_.calls a0_5 t104 _ A7.out).mono ?_
     rintro e w13 ⟨rfl,hb⟩
     refine⟨_,rfl,?_⟩;replace BK101:=qM_ (blk_below (qk_ BK101) hb);replace HB:=qM_ (below_step qBHB hb)
     (try clear hb)
     (try clear hb2)
     (try clear hk)
     (try clear hi)
     refine hK.out _ _ ⟨(qC_ BK101.out 0).trans rfl,(qC_ BK101.out 1).trans rfl,(qC_ BK101.out 2).trans rfl,(qC_ BK101.out 3).trans rfl,(qC_ BK101.out 4).trans rfl,(qC_ BK101.out 5).trans rfl⟩ (fun hHeld=> ?_);clear hK K;refine norm_ (a' := ?_) ?_ ?_;rotate_left
     ·show Act.put _ (some 14) _=_
      simp only[Act.put,qS_,qW_];rfl
     refine pure_ (i:=12) (N:=some 15) (v:= ?_) (a' := ?_) #[qT,qT,qT,qT,qT,qT,qT,qT,qT,qT,qT,qT,qT,qF] rfl rfl (any_of HT_.out qK) (fun _ _ _ h=>h) (Or.inl ⟨by rfl,?_⟩) ?_ ?_;rotate_left
     ·intro w'
      go_simp;with_reducible rfl
     rotate_left
     ·simp only[Act.put,qS_,qW_]
      rfl
     refine pure_ (i:=13) (N:=some 2) (v:= ?_) (a' := ?_) #[qT,qT,qT,qT,qT,qT,qT,qT,qT,qT,qT,qT,qT,qT] rfl rfl (any_of HT_.out qK) (fun _ _ _ h=>h) (Or.inl ⟨by rfl,?_⟩) ?_ ?_;rotate_left
     ·intro w'
      go_simp;with_reducible rfl
     rotate_left
     ·simp only[Act.put,qS_,qW_]
      rfl
     refine done_ (done_of HT_.out qK) ?_
     try go_wp2
     go_ret;exact⟨qee_,qBHB⟩
    ·rw[if_neg c8]at H
     exact absurd H (by simp)
   ·rw[if_neg c6]at H
    exact absurd H (by simp)
  ·rw[if_neg c5]at H
   exact absurd H (by simp)
 ·rw[if_neg c3]at H
  exact absurd H (by simp)

end Go.Proofs.Ytbjefkeogbophaa.P
