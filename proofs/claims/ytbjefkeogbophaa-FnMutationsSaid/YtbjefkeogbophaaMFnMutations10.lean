/- Part 10 of what the law FnMutations stands on; the last part ends with the law's row. No condition of mine. -/
import Derived.Test.YtbjefkeogbophaaMFnMutations1
import Derived.Test.YtbjefkeogbophaaMFnMutations9
namespace Go.Proofs.Ytbjefkeogbophaa.P
open Go.RowKit Go.Proofs.YtbjefkeogbophaaW.PrintWords Go.Proofs.YtbjefkeogbophaaW.PrintLast Go.Proofs.YtbjefkeogbophaaW.PrintMore
attribute [local go_sem] max2_int min2_int max_two min_two max_three min_three max_four min_four   -- for this text's walks alone
set_option linter.unusedVariables false
set_option linter.unusedSimpArgs false

/-! ### z31_: function 31 -/
def z31_.f (a0_0:ByteArray) (a0_1:ByteArray):Option (Bool):=(z32_.f a0_0 a0_1).bind fun t102=>(some (!t102))
set_option maxHeartbeats 8000000 in
set_option maxRecDepth 100000 in
theorem z31_.calls (a0_0:ByteArray) (a0_1:ByteArray) (r:Bool) (w:World) (h:z31_.f a0_0 a0_1=some r) :
  Calls Try.prog 31 #[.agg #[.string a0_0,.string a0_1]] w fun e w' => e= .returned (.bool r)∧Below w.heap.size w w' := by
 have hu54:=Try.underlying54
 have HB:=qM_ (Below.refl w.heap.size w)
 have H:((z32_.f a0_0 a0_1).bind fun t102=>(some (!t102)))=some r:=h
 clear h
 replace H:=Option.bind_eq_some_iff.mp H
 obtain⟨t102,A20,H⟩:=H
 have A2:=qM_ A20
 clear A20
 obtain rfl:=Option.some.inj H
 go_enter Try.func31,Try.ntmps31
 go_wp2_with (first|((with_reducible refine gate_dst (N:=1) rfl ?_);refine box_event ?hg (N:=1) ?hd (cs:=#[.string a0_0,.string a0_1]) (t:=54) ?hr ?_;(case hd=>rfl);(case hg=>rfl);(case hr=>first|(go_simp;done)|(go_simp;rfl));intro gb101 hg w3 hbox hb;have BK101:=qM_ (hbox);have GW101:=qM_ ((by rw[hg];exact(below_size qBHB):w.heap.size≤gb101));have GE101:=qM_ ((by rw[hg];exact(below_size qBHB):w.heap.size≤gb101));replace HB:=qM_ (below_step qBHB hb);clear hb hbox hg;obtain⟨hcz4_0,hcz4_1,hfz4_0⟩:=qc2_ BK101)|((with_reducible refine gate_callee (f:=32) rfl ?_);refine goesL_ (some 4) rfl rfl Try.func32 qK rfl #[.agg #[.string a0_0,.string a0_1]] rfl qll_ ?_;(with_reducible refine(z32_.calls a0_0 a0_1 t102 _ A2.out).mono ?_);rintro e w5 ⟨rfl,hb⟩;refine⟨_,rfl,?_⟩;replace BK101:=qM_ (blk_below (qk_ BK101) hb);replace HB:=qM_ (below_step qBHB hb);(try clear hb);(try clear hb2);(try clear hk);(try clear hi)))
 go_ret
 exact⟨qee_,qBHB⟩


/-! ### z900030031_: function 900030031 (a text of mine) -/
def z900030031_.f (l0:List S54):Option Bool:=if l0.length≤9223372036854775807∧(l0.all fun x=>(z31_.f (x.f0) (x.f1)).isSome)=true then some (l0.any fun x=>(z31_.f (x.f0) (x.f1)) == some true)else none
theorem z900030031_.calls (A0:Option Addr) (c0:Nat) (l0:List S54) (r:Bool) (w:World) (hr0:Kd.C k54 w A0 l0.length l0) (hc0:l0.length≤c0) (h:z900030031_.f l0=some r) :
  Calls Try.prog 30 #[.slice A0 l0.length c0,.func (.func 31) #[] #[]] w fun e w' => e= .returned (.bool r)∧Below w.heap.size w w' := by
 unfold z900030031_.f at h
 split at h
 ·rename_i hh
  obtain⟨hn0,ha0⟩:=hh;obtain rfl:=Option.some.inj h;refine z30_.calls (fun x=>(z31_.f (x.f0) (x.f1)) == some true) 31 #[] (enters_ Try.func31 qK rfl) A0 c0 l0 w (fun W i_ h0_ h1_ hB_=> ?_) hr0 hc0 hn0
  have hs_:(z31_.f ((rd_T54 l0 i_).f0) ((rd_T54 l0 i_).f1)).isSome=true:=by
   have:=List.all_eq_true.mp ha0 (rd_T54 l0 i_) (mem_getD l0 z54 i_ h0_ h1_);exact this
  obtain⟨b_,hb_⟩:=Option.isSome_iff_exists.mp hs_
  have e_:((z31_.f ((rd_T54 l0 i_).f0) ((rd_T54 l0 i_).f1)) == some true)=b_:=by rw[hb_];cases b_ <;> rfl
  show Calls Try.prog 31 _ W fun e w' => e= .returned (.bool ((z31_.f ((rd_T54 l0 i_).f0) ((rd_T54 l0 i_).f1)) == some true))∧Below w.heap.size w w'
  rw[e_]
  refine(z31_.calls (rd_T54 l0 i_).f0 (rd_T54 l0 i_).f1 b_ W hb_).mono fun e w2 ⟨he,hb2⟩=>⟨he,?_⟩
  exact below_step hB_ hb2
 ·cases h


/-! ### z17_: function 17 -/
mutual
def z17_.j0:Nat→Bool→Int→Int→Int→Int→ByteArray→List (S54)→Option (Bool)
 | 0,_,_,_,_,_,_,_=>none
 | k+1,x18,x102000,x102001,x102002,x102003,x102004,x102005=>if x18=true then(some false)else(if x102001=0 then(if x102002=0 then(z17_.j1 k (x102003 == 0) x102000 x102001 x102002 x102003 x102004 x102005)else(z17_.j1 k false x102000 x102001 x102002 x102003 x102004 x102005))else(z17_.j1 k false x102000 x102001 x102002 x102003 x102004 x102005))
def z17_.j1:Nat→Bool→Int→Int→Int→Int→ByteArray→List (S54)→Option (Bool)
 | 0,_,_,_,_,_,_,_=>none
 | k+1,x3,x102000,x102001,x102002,x102003,x102004,x102005=>if x102000=1 then(z17_.j2 k x3 x102000 (x102000 == 1) x102000 x102001 x102002 x102003 x102004 x102005)else(z17_.j2 k x3 x102000 (x102000 == 4) x102000 x102001 x102002 x102003 x102004 x102005)
def z17_.j2:Nat→Bool→Int→Bool→Int→Int→Int→Int→ByteArray→List (S54)→Option (Bool)
 | 0,_,_,_,_,_,_,_,_,_=>none
 | k+1,x3,x33,x34,x102000,x102001,x102002,x102003,x102004,x102005=>if x34=true then(if x3=true then(some ((x102005.length:Int) == 0))else(some false))else(if x33=2 then(if x3=true then(some (decide ((x102005.length:Int) > 0)))else(some false))else(if x33=3 then(if(x102005.length:Int)=0 then((z33_.f x102001 1 1000).bind fun t104=>(if t104=true then((z33_.f x102002 1 3).bind fun t105=>(if t105=true then((z33_.f x102003 0 31).bind fun t106=>(some t106))else(some false)))else(some false)))else(some false))else(some false)))
end
def z17_.f (k:Nat) (a0_0:Int) (a0_1:Int) (a0_2:Int) (a0_3:Int) (a0_4:ByteArray) (l0_5:List (S54)):Option (Bool):=(z29_.f k a0_4).bind fun t102=>(if t102=true then(if(l0_5.length:Int) > 20 then(z17_.j0 k true a0_0 a0_1 a0_2 a0_3 a0_4 l0_5)else((z900030031_.f l0_5).bind fun t103=>(z17_.j0 k t103 a0_0 a0_1 a0_2 a0_3 a0_4 l0_5)))else(z17_.j0 k true a0_0 a0_1 a0_2 a0_3 a0_4 l0_5))
theorem z17_.mono_l:∀ k,(∀ y0 y1 y2 y3 y4 y5 y6,LeO (z17_.j0 k y0 y1 y2 y3 y4 y5 y6) (z17_.j0 (k+1) y0 y1 y2 y3 y4 y5 y6))∧(∀ y0 y1 y2 y3 y4 y5 y6,LeO (z17_.j1 k y0 y1 y2 y3 y4 y5 y6) (z17_.j1 (k+1) y0 y1 y2 y3 y4 y5 y6))∧(∀ y0 y1 y2 y3 y4 y5 y6 y7 y8,LeO (z17_.j2 k y0 y1 y2 y3 y4 y5 y6 y7 y8) (z17_.j2 (k+1) y0 y1 y2 y3 y4 y5 y6 y7 y8))
 | 0=>⟨fun _ _ _ _ _ _ _ r h=>by simp[z17_.j0]at h,fun _ _ _ _ _ _ _ r h=>by simp[z17_.j1]at h,fun _ _ _ _ _ _ _ _ _ r h=>by simp[z17_.j2]at h⟩
 | k+1=>by
  obtain⟨ih0,ih1,ih2⟩:=z17_.mono_l k;refine⟨?_,?_,?_⟩
  ·intro y0 y1 y2 y3 y4 y5 y6
   unfold z17_.j0
   repeat' first
   | (with_reducible exact ih0 _ _ _ _ _ _ _)
   | (with_reducible exact ih1 _ _ _ _ _ _ _)
   | (with_reducible exact ih2 _ _ _ _ _ _ _ _ _)
   | (with_reducible exact z29_.mono _ _)
   | (with_reducible exact LeO.refl _)
   | (with_reducible exact LeO.none _)
   | (with_reducible refine LeO.ite ?_ ?_)
   | (with_reducible refine LeO.bind ?_ (fun _=> ?_))
   | exact ih0 _ _ _ _ _ _ _
   | exact ih1 _ _ _ _ _ _ _
   | exact ih2 _ _ _ _ _ _ _ _ _
   | exact z29_.mono _ _
   | exact LeO.none _
   | refine LeO.ite ?_ ?_
   | refine LeO.bind ?_ (fun _=> ?_)
  ·intro y0 y1 y2 y3 y4 y5 y6
   unfold z17_.j1
   repeat' first
   | (with_reducible exact ih0 _ _ _ _ _ _ _)
   | (with_reducible exact ih1 _ _ _ _ _ _ _)
   | (with_reducible exact ih2 _ _ _ _ _ _ _ _ _)
   | (with_reducible exact z29_.mono _ _)
   | (with_reducible exact LeO.refl _)
   | (with_reducible exact LeO.none _)
   | (with_reducible refine LeO.ite ?_ ?_)
   | (with_reducible refine LeO.bind ?_ (fun _=> ?_))
   | exact ih0 _ _ _ _ _ _ _
   | exact ih1 _ _ _ _ _ _ _
   | exact ih2 _ _ _ _ _ _ _ _ _
   | exact z29_.mono _ _
   | exact LeO.none _
   | refine LeO.ite ?_ ?_
   | refine LeO.bind ?_ (fun _=> ?_)
  ·intro y0 y1 y2 y3 y4 y5 y6 y7 y8
   unfold z17_.j2
   repeat' first
   | (with_reducible exact ih0 _ _ _ _ _ _ _)
   | (with_reducible exact ih1 _ _ _ _ _ _ _)
   | (with_reducible exact ih2 _ _ _ _ _ _ _ _ _)
   | (with_reducible exact z29_.mono _ _)
   | (with_reducible exact LeO.refl _)
   | (with_reducible exact LeO.none _)
   | (with_reducible refine LeO.ite ?_ ?_)
   | (with_reducible refine LeO.bind ?_ (fun _=> ?_))
   | exact ih0 _ _ _ _ _ _ _
   | exact ih1 _ _ _ _ _ _ _
   | exact ih2 _ _ _ _ _ _ _ _ _
   | exact z29_.mono _ _
   | exact LeO.none _
   | refine LeO.ite ?_ ?_
   | refine LeO.bind ?_ (fun _=> ?_)
theorem z17_.mono:∀ a0 a1 a2 a3 a4 a5 k,LeO (z17_.f k a0 a1 a2 a3 a4 a5) (z17_.f (k+1) a0 a1 a2 a3 a4 a5):=by
 intro a0 a1 a2 a3 a4 a5 k
 obtain⟨ih0,ih1,ih2⟩:=z17_.mono_l k
 unfold z17_.f
 repeat' first
   | (with_reducible exact ih0 _ _ _ _ _ _ _)
   | (with_reducible exact ih1 _ _ _ _ _ _ _)
   | (with_reducible exact ih2 _ _ _ _ _ _ _ _ _)
   | (with_reducible exact z29_.mono _ _)
   | (with_reducible exact LeO.refl _)
   | (with_reducible exact LeO.none _)
   | (with_reducible refine LeO.ite ?_ ?_)
   | (with_reducible refine LeO.bind ?_ (fun _=> ?_))
   | exact ih0 _ _ _ _ _ _ _
   | exact ih1 _ _ _ _ _ _ _
   | exact ih2 _ _ _ _ _ _ _ _ _
   | exact z29_.mono _ _
   | exact LeO.none _
   | refine LeO.ite ?_ ?_
   | refine LeO.bind ?_ (fun _=> ?_)
set_option maxHeartbeats 8000000 in
set_option maxRecDepth 100000 in
theorem z17_.calls (k:Nat) (a0_0:Int) (a0_1:Int) (a0_2:Int) (a0_3:Int) (a0_4:ByteArray) (A0_5:Option Addr) (c0_5:Nat) (l0_5:List (S54)) (r:Bool) (w:World) (hr0_5:Kd.C k54 w A0_5 l0_5.length l0_5) (hc0_5:l0_5.length≤c0_5) (h:z17_.f k a0_0 a0_1 a0_2 a0_3 a0_4 l0_5=some r) :
  Calls Try.prog 17 #[.agg #[.int .i64 a0_0,.int .i64 a0_1,.int .i64 a0_2,.int .i64 a0_3,.string a0_4,.slice A0_5 l0_5.length c0_5]] w fun e w' => e= .returned (.bool r)∧Below w.heap.size w w' := by
 have hu31:=Try.underlying31
 have HR0_5:=qM_ hr0_5
 have HC0_5:=qM_ hc0_5
 clear hr0_5 hc0_5
 have HB:=qM_ (Below.refl w.heap.size w)
 have H:((z29_.f k a0_4).bind fun t102=>(if t102=true then(if(l0_5.length:Int) > 20 then(z17_.j0 k true a0_0 a0_1 a0_2 a0_3 a0_4 l0_5)else((z900030031_.f l0_5).bind fun t103=>(z17_.j0 k t103 a0_0 a0_1 a0_2 a0_3 a0_4 l0_5)))else(z17_.j0 k true a0_0 a0_1 a0_2 a0_3 a0_4 l0_5)))=some r:=h
 clear h
 have HC2:=qM_ H
 clear H
 go_enter Try.func17,Try.ntmps17
 go_upto_region 1 with (first|((with_reducible refine gate_dst (N:=1) rfl ?_);(try(refine gate_guard (by rfl) ?_;dsimp only));refine box_event ?hg (N:=1) ?hd (cs:=#[.int .i64 a0_0,.int .i64 a0_1,.int .i64 a0_2,.int .i64 a0_3,.string a0_4,.slice A0_5 l0_5.length c0_5]) (t:=31) ?hr ?_;(case hd=>rfl);(case hg=>rfl);(case hr=>first|(go_simp;done)|(go_simp;rfl));intro gb101 hg w3 hbox hb;have BK101:=qM_ (hbox);have GW101:=qM_ ((by rw[hg];exact(below_size qBHB):w.heap.size≤gb101));have GE101:=qM_ ((by rw[hg];exact(below_size qBHB):w.heap.size≤gb101));replace HB:=qM_ (below_step qBHB hb);clear hb hbox hg))
 (try simp only[Act.put,List.setIfInBounds_toArray,List.set_cons_zero,List.set_cons_succ])
 go_cut [18] (fun v18 wc=>∃(kq:Nat) (x18_1:Bool),v18= .bool x18_1∧Aside0 (z17_.j0 kq x18_1 a0_0 a0_1 a0_2 a0_3 a0_4 l0_5=some r)∧Aside0 (kq≤k)∧Aside0 (wc.heap[gb101]? = some (.cells #[.int .i64 a0_0,.int .i64 a0_1,.int .i64 a0_2,.int .i64 a0_3,.string a0_4,(.slice A0_5 l0_5.length c0_5)] 31 (0,0)))∧Aside0 (Below w.heap.size w wc))
 case first =>
  have H:=HC2.out;clear HC2;replace H:=Option.bind_eq_some_iff.mp H;obtain⟨t102,A40,H⟩:=H;have A4:=qM_ A40;clear A40;by_cases c5:t102=true
  ·subst c5
   have H1:(if(l0_5.length:Int) > 20 then(z17_.j0 k true a0_0 a0_1 a0_2 a0_3 a0_4 l0_5)else((z900030031_.f l0_5).bind fun t103=>(z17_.j0 k t103 a0_0 a0_1 a0_2 a0_3 a0_4 l0_5)))=some r:=by rw[if_pos rfl]at H;exact H
   clear H;have H:=H1;clear H1;by_cases c6:(l0_5.length:Int) > 20
   ·rw[if_pos c6]at H
    have c6b0:decide (20 < (l0_5.length:Int))=true:=decide_eq_true c6;have c6b1:decide (20 < l0_5.length)=true:=decide_eq_true (by omega);clear c6
    (first|rw[c6b0]|(simp only[i64_w,i32_w];rw[c6b0])|skip)
    have H' := qM_ H;clear H;obtain⟨hcz7_0,hcz7_1,hcz7_2,hcz7_3,hcz7_4,hcz7_5,hfz7_0⟩:=qc6_ BK101
    go_wp2_with (first|((with_reducible refine gate_callee (f:=29) rfl ?_);refine goesL_ (some 6) rfl rfl Try.func29 qK rfl #[.string a0_4] rfl qll_ ?_;(with_reducible refine(z29_.calls k a0_4 true _ A4.out).mono ?_);rintro e w' ⟨rfl,⟨nd,rfl⟩⟩;refine⟨_,rfl,?_⟩))
    go_meet
    case rel=>exact⟨_,(true),qff_,H', ⟨by first|omega|exact Nat.le_refl _⟩,⟨qk_ BK101⟩,⟨qBHB⟩⟩
   ·rw[if_neg c6]at H
    have c6b0:decide (20 < (l0_5.length:Int))=false:=decide_eq_false c6;have c6b1:decide (20 < l0_5.length)=false:=decide_eq_false (by omega);clear c6
    (first|rw[c6b0]|(simp only[i64_w,i32_w];rw[c6b0])|skip)
    replace H:=Option.bind_eq_some_iff.mp H;obtain⟨t103,A80,H⟩:=H;have A8:=qM_ A80;clear A80;have H' := qM_ H;clear H;obtain⟨hcz9_0,hcz9_1,hcz9_2,hcz9_3,hcz9_4,hcz9_5,hfz9_0⟩:=qc6_ BK101
    go_wp2_with (first|((with_reducible refine gate_callee (f:=29) rfl ?_);refine goesL_ (some 6) rfl rfl Try.func29 qK rfl #[.string a0_4] rfl qll_ ?_;(with_reducible refine(z29_.calls k a0_4 true _ A4.out).mono ?_);rintro e w' ⟨rfl,⟨nd,rfl⟩⟩;refine⟨_,rfl,?_⟩)|(go_at_call 30;(with_reducible refine(z900030031_.calls _ _ l0_5 t103 _ ?side1 ?side2 A8.out).mono ?_);(case side1=>exact qcc_ (Kd.C_below HR0_5.out qBHB));(case side2=>exact HC0_5.out);rintro e w10 ⟨rfl,hb⟩;replace BK101:=qM_ (blk_below (qk_ BK101) hb);replace HB:=qM_ (below_step qBHB hb);(try clear hb);(try clear hb2);(try clear hk);(try clear hi)))
    go_meet
    case rel=>exact⟨_,(t103),qff_,H', ⟨by first|omega|exact Nat.le_refl _⟩,⟨qk_ BK101⟩,⟨qBHB⟩⟩
  ·replace c5:=Bool.eq_false_iff.mpr c5
   subst c5
   have H1:(z17_.j0 k true a0_0 a0_1 a0_2 a0_3 a0_4 l0_5)=some r:=by rw[if_neg (show ¬(false=true)by decide)]at H;exact H
   clear H;have H:=H1;clear H1;have H' := qM_ H;clear H;obtain⟨hcz11_0,hcz11_1,hcz11_2,hcz11_3,hcz11_4,hcz11_5,hfz11_0⟩:=qc6_ BK101
   go_wp2_with (first|((with_reducible refine gate_callee (f:=29) rfl ?_);refine goesL_ (some 6) rfl rfl Try.func29 qK rfl #[.string a0_4] rfl qll_ ?_;(with_reducible refine(z29_.calls k a0_4 false _ A4.out).mono ?_);rintro e w' ⟨rfl,⟨nd,rfl⟩⟩;refine⟨_,rfl,?_⟩))
   go_meet
   case rel=>exact⟨_,(true),qff_,H', ⟨by first|omega|exact Nat.le_refl _⟩,⟨qk_ BK101⟩,⟨qBHB⟩⟩
 case rest =>
  clear HC2
  try clear c1
  try clear c2
  try clear p2
  try clear c5
  try clear c6
  try clear c6b0
  try clear c6b1
  try clear hcz11_0 hcz11_1 hcz11_2 hcz11_3 hcz11_4 hcz11_5
  try clear hcz7_0 hcz7_1 hcz7_2 hcz7_3 hcz7_4 hcz7_5
  try clear hcz9_0 hcz9_1 hcz9_2 hcz9_3 hcz9_4 hcz9_5
  try clear hfz11_0
  try clear hfz7_0
  try clear hfz9_0
  obtain⟨kq,x18_1,rfl,HA,HJ1,BK101,HB⟩:=hcut
  cases kq with
  | zero=>exact absurd HA.out (by simp[z17_.j0])
  | succ kj1 =>
   have H:=HA.out;clear HA;simp only[z17_.j0]at H;by_cases c12:x18_1=true
   ·subst c12
    have H1:(some false)=some r:=by rw[if_pos rfl]at H;exact H
    clear H;have H:=H1;clear H1;obtain rfl:=Option.some.inj H
    go_wp2
    go_ret;exact⟨qee_,qBHB⟩
   ·replace c12:=Bool.eq_false_iff.mpr c12
    subst c12
    have H1:(if a0_1=0 then(if a0_2=0 then(z17_.j1 kj1 (a0_3 == 0) a0_0 a0_1 a0_2 a0_3 a0_4 l0_5)else(z17_.j1 kj1 false a0_0 a0_1 a0_2 a0_3 a0_4 l0_5))else(z17_.j1 kj1 false a0_0 a0_1 a0_2 a0_3 a0_4 l0_5))=some r:=by rw[if_neg (show ¬(false=true)by decide)]at H;exact H
    clear H;have H:=H1;clear H1;have HC13:=qM_ H;clear H
    go_upto_region 3 with (fail)
    go_cut [3] (fun v3 wc=>∃(kq:Nat) (x3_12:Bool),v3= .bool x3_12∧Aside0 (z17_.j1 kq x3_12 a0_0 a0_1 a0_2 a0_3 a0_4 l0_5=some r)∧Aside0 (kq≤kj1)∧Aside0 (wc.heap[gb101]? = some (.cells #[.int .i64 a0_0,.int .i64 a0_1,.int .i64 a0_2,.int .i64 a0_3,.string a0_4,(.slice A0_5 l0_5.length c0_5)] 31 (0,0)))∧Aside0 (Below w.heap.size w wc))
    case first =>
     have H:=HC13.out;clear HC13;by_cases c14:a0_1=0
     ·rw[if_pos c14]at H
      have c14b0:(a0_1 == 0)=true:=beq_iff_eq.mpr c14;have c14b1:(a0_1 != 0)=false:=bne_eq_false_iff_eq.mpr c14;clear c14
      (first|rw[c14b0]|(simp only[i64_w,i32_w];rw[c14b0])|skip)
      by_cases c15:a0_2=0
      ·rw[if_pos c15]at H
       have c15b0:(a0_2 == 0)=true:=beq_iff_eq.mpr c15;have c15b1:(a0_2 != 0)=false:=bne_eq_false_iff_eq.mpr c15;clear c15;have H' := qM_ H;clear H;obtain⟨hcz16_0,hcz16_1,hcz16_2,hcz16_3,hcz16_4,hcz16_5,hfz16_0⟩:=qc6_ BK101
       go_wp2
       go_meet
       case rel=>exact⟨_,((a0_3 == 0)),qff_,H', ⟨by have:=HJ1.out;first|omega|exact Nat.le_refl _⟩,⟨qk_ BK101⟩,⟨qBHB⟩⟩
      ·rw[if_neg c15]at H
       have c15b0:(a0_2 == 0)=false:=beq_eq_false_iff_ne.mpr c15;have c15b1:(a0_2 != 0)=true:=bne_iff_ne.mpr c15;have H' := qM_ H;clear H;obtain⟨hcz17_0,hcz17_1,hcz17_2,hcz17_3,hcz17_4,hcz17_5,hfz17_0⟩:=qc6_ BK101
       go_wp2
       go_meet
       case rel=>exact⟨_,(false),qff_,H', ⟨by have:=HJ1.out;first|omega|exact Nat.le_refl _⟩,⟨qk_ BK101⟩,⟨qBHB⟩⟩
     ·rw[if_neg c14]at H
      have c14b0:(a0_1 == 0)=false:=beq_eq_false_iff_ne.mpr c14;have c14b1:(a0_1 != 0)=true:=bne_iff_ne.mpr c14
      (first|rw[c14b0]|(simp only[i64_w,i32_w];rw[c14b0])|skip)
      have H' := qM_ H;clear H;obtain⟨hcz18_0,hcz18_1,hcz18_2,hcz18_3,hcz18_4,hcz18_5,hfz18_0⟩:=qc6_ BK101
      go_wp2
      go_meet
      case rel=>exact⟨_,(false),qff_,H', ⟨by have:=HJ1.out;first|omega|exact Nat.le_refl _⟩,⟨qk_ BK101⟩,⟨qBHB⟩⟩
    case rest =>
     clear HC13
     try clear c1
     try clear c2
     try clear p2
     try clear c5
     try clear c6
     try clear c6b0
     try clear c6b1
     try clear c12
     try clear c14
     try clear c14b0
     try clear c14b1
     try clear c15
     try clear c15b0
     try clear c15b1
     try clear c17
     try clear hcz11_0 hcz11_1 hcz11_2 hcz11_3 hcz11_4 hcz11_5
     try clear hcz16_0 hcz16_1 hcz16_2 hcz16_3 hcz16_4 hcz16_5
     try clear hcz17_0 hcz17_1 hcz17_2 hcz17_3 hcz17_4 hcz17_5
     try clear hcz18_0 hcz18_1 hcz18_2 hcz18_3 hcz18_4 hcz18_5
     try clear hcz7_0 hcz7_1 hcz7_2 hcz7_3 hcz7_4 hcz7_5
     try clear hcz9_0 hcz9_1 hcz9_2 hcz9_3 hcz9_4 hcz9_5
     try clear hfz11_0
     try clear hfz16_0
     try clear hfz17_0
     try clear hfz18_0
     try clear hfz7_0
     try clear hfz9_0
     try clear p2
     obtain⟨kq,x3_12,rfl,HA,HJ12,BK101,HB⟩:=hcut
     cases kq with
     | zero=>exact absurd HA.out (by simp[z17_.j1])
     | succ kj12 =>
      have H:=HA.out;clear HA;simp only[z17_.j1]at H;have HC19:=qM_ H;clear H;obtain⟨hcz20_0,hcz20_1,hcz20_2,hcz20_3,hcz20_4,hcz20_5,hfz20_0⟩:=qc6_ BK101
      go_upto_if 34 with (fail)
      go_cut [34] (fun v34 wc=>∃(kq:Nat) (x34_18:Bool),v34= .bool x34_18∧Aside0 (z17_.j2 kq x3_12 a0_0 x34_18 a0_0 a0_1 a0_2 a0_3 a0_4 l0_5=some r)∧Aside0 (kq≤kj12)∧Aside0 (wc.heap[gb101]? = some (.cells #[.int .i64 a0_0,.int .i64 a0_1,.int .i64 a0_2,.int .i64 a0_3,.string a0_4,(.slice A0_5 l0_5.length c0_5)] 31 (0,0)))∧Aside0 (Below w.heap.size w wc))
      case first =>
       have H:=HC19.out;clear HC19;by_cases c21:a0_0=1
       ·rw[if_pos c21]at H
        have c21b0:(a0_0 == 1)=true:=beq_iff_eq.mpr c21;have c21b1:(a0_0 != 1)=false:=bne_eq_false_iff_eq.mpr c21;clear c21
        (first|rw[c21b0]|(simp only[i64_w,i32_w];rw[c21b0])|skip)
        have H' := qM_ H;clear H
        go_wp2
        go_meet
        case rel=>exact⟨_,((a0_0 == 1)),qff_,H', ⟨by have:=HJ1.out;have:=HJ12.out;first|omega|exact Nat.le_refl _⟩,⟨qk_ BK101⟩,⟨qBHB⟩⟩
       ·rw[if_neg c21]at H
        have c21b0:(a0_0 == 1)=false:=beq_eq_false_iff_ne.mpr c21;have c21b1:(a0_0 != 1)=true:=bne_iff_ne.mpr c21
        (first|rw[c21b0]|(simp only[i64_w,i32_w];rw[c21b0])|skip)
        have H' := qM_ H;clear H
        go_wp2
        go_meet
        case rel=>exact⟨_,((a0_0 == 4)),qff_,H', ⟨by have:=HJ1.out;have:=HJ12.out;first|omega|exact Nat.le_refl _⟩,⟨qk_ BK101⟩,⟨qBHB⟩⟩
      case rest =>
       clear HC19
       try clear c1
       try clear c2
       try clear p2
       try clear c5
       try clear c6
       try clear c6b0
       try clear c6b1
       try clear c12
       try clear c14
       try clear c14b0
       try clear c14b1
       try clear c15
       try clear c15b0
       try clear c15b1
       try clear c17
       try clear c21
       try clear c21b0
       try clear c21b1
       try clear hcz11_0 hcz11_1 hcz11_2 hcz11_3 hcz11_4 hcz11_5
       try clear hcz16_0 hcz16_1 hcz16_2 hcz16_3 hcz16_4 hcz16_5
       try clear hcz17_0 hcz17_1 hcz17_2 hcz17_3 hcz17_4 hcz17_5
       try clear hcz18_0 hcz18_1 hcz18_2 hcz18_3 hcz18_4 hcz18_5
       try clear hcz20_0 hcz20_1 hcz20_2 hcz20_3 hcz20_4 hcz20_5
       try clear hcz7_0 hcz7_1 hcz7_2 hcz7_3 hcz7_4 hcz7_5
       try clear hcz9_0 hcz9_1 hcz9_2 hcz9_3 hcz9_4 hcz9_5
       try clear hfz11_0
       try clear hfz16_0
       try clear hfz17_0
       try clear hfz18_0
       try clear hfz20_0
       try clear hfz7_0
       try clear hfz9_0
       try clear p2
       obtain⟨kq,x34_18,rfl,HA,HJ18,BK101,HB⟩:=hcut
       cases kq with
       | zero=>exact absurd HA.out (by simp[z17_.j2])
       | succ kj18 =>
        have H:=HA.out;clear HA;simp only[z17_.j2]at H;by_cases c22:x34_18=true
        ·subst c22
         have H1:(if x3_12=true then(some ((l0_5.length:Int) == 0))else(some false))=some r:=by rw[if_pos rfl]at H;exact H
         clear H;have H:=H1;clear H1;by_cases c23:x3_12=true
         ·subst c23
          have H1:(some ((l0_5.length:Int) == 0))=some r:=by rw[if_pos rfl]at H;exact H
          clear H;have H:=H1;clear H1;obtain rfl:=Option.some.inj H;obtain⟨hcz24_0,hcz24_1,hcz24_2,hcz24_3,hcz24_4,hcz24_5,hfz24_0⟩:=qc6_ BK101
          go_wp2
          go_ret;exact⟨qee_,qBHB⟩
         ·replace c23:=Bool.eq_false_iff.mpr c23
          subst c23
          have H1:(some false)=some r:=by rw[if_neg (show ¬(false=true)by decide)]at H;exact H
          clear H;have H:=H1;clear H1;obtain rfl:=Option.some.inj H
          go_wp2
          go_ret;exact⟨qee_,qBHB⟩
        ·replace c22:=Bool.eq_false_iff.mpr c22
         subst c22
         have H1:(if a0_0=2 then(if x3_12=true then(some (decide ((l0_5.length:Int) > 0)))else(some false))else(if a0_0=3 then(if(l0_5.length:Int)=0 then((z33_.f a0_1 1 1000).bind fun t104=>(if t104=true then((z33_.f a0_2 1 3).bind fun t105=>(if t105=true then((z33_.f a0_3 0 31).bind fun t106=>(some t106))else(some false)))else(some false)))else(some false))else(some false)))=some r:=by rw[if_neg (show ¬(false=true)by decide)]at H;exact H
         clear H;have H:=H1;clear H1;by_cases c25:a0_0=2
         ·rw[if_pos c25]at H
          have c25b0:(a0_0 == 2)=true:=beq_iff_eq.mpr c25;have c25b1:(a0_0 != 2)=false:=bne_eq_false_iff_eq.mpr c25;clear c25;by_cases c26:x3_12=true
          ·subst c26
           have H1:(some (decide ((l0_5.length:Int) > 0)))=some r:=by rw[if_pos rfl]at H;exact H
           clear H;have H:=H1;clear H1;obtain rfl:=Option.some.inj H;obtain⟨hcz27_0,hcz27_1,hcz27_2,hcz27_3,hcz27_4,hcz27_5,hfz27_0⟩:=qc6_ BK101
           go_wp2
           go_ret;exact⟨qee_,qBHB⟩
          ·replace c26:=Bool.eq_false_iff.mpr c26
           subst c26
           have H1:(some false)=some r:=by rw[if_neg (show ¬(false=true)by decide)]at H;exact H
           clear H;have H:=H1;clear H1;obtain rfl:=Option.some.inj H
           go_wp2
           go_ret;exact⟨qee_,qBHB⟩
         ·rw[if_neg c25]at H
          have c25b0:(a0_0 == 2)=false:=beq_eq_false_iff_ne.mpr c25;have c25b1:(a0_0 != 2)=true:=bne_iff_ne.mpr c25;by_cases c28:a0_0=3
          ·rw[if_pos c28]at H
           have c28b0:(a0_0 == 3)=true:=beq_iff_eq.mpr c28;have c28b1:(a0_0 != 3)=false:=bne_eq_false_iff_eq.mpr c28;clear c28;by_cases c29:(l0_5.length:Int)=0
           ·rw[if_pos c29]at H
            have c29b0:((l0_5.length:Int) == 0)=true:=beq_iff_eq.mpr c29;have c29b1:((l0_5.length:Int) != 0)=false:=bne_eq_false_iff_eq.mpr c29;clear c29;replace H:=Option.bind_eq_some_iff.mp H;obtain⟨t104,A300,H⟩:=H;have A30:=qM_ A300;clear A300;by_cases c31:t104=true
            ·subst c31
             have H1:((z33_.f a0_2 1 3).bind fun t105=>(if t105=true then((z33_.f a0_3 0 31).bind fun t106=>(some t106))else(some false)))=some r:=by rw[if_pos rfl]at H;exact H
             clear H;have H:=H1;clear H1;replace H:=Option.bind_eq_some_iff.mp H;obtain⟨t105,A320,H⟩:=H;have A32:=qM_ A320;clear A320;by_cases c33:t105=true
             ·subst c33
              have H1:((z33_.f a0_3 0 31).bind fun t106=>(some t106))=some r:=by rw[if_pos rfl]at H;exact H
              clear H;have H:=H1;clear H1;replace H:=Option.bind_eq_some_iff.mp H;obtain⟨t106,A340,H⟩:=H;have A34:=qM_ A340;clear A340;obtain rfl:=Option.some.inj H;obtain⟨hcz35_0,hcz35_1,hcz35_2,hcz35_3,hcz35_4,hcz35_5,hfz35_0⟩:=qc6_ BK101
              go_wp2_with (first|(go_at_call 33;(with_reducible refine(z33_.calls a0_1 1 1000 true _ A30.out).mono ?_);rintro e w' ⟨rfl,⟨nd,rfl⟩⟩)|(go_at_call 33;(with_reducible refine(z33_.calls a0_2 1 3 true _ A32.out).mono ?_);rintro e w' ⟨rfl,⟨nd,rfl⟩⟩)|(go_at_call 33;(with_reducible refine(z33_.calls a0_3 0 31 t106 _ A34.out).mono ?_);rintro e w' ⟨rfl,⟨nd,rfl⟩⟩))
              go_ret;exact⟨qee_,qBHB⟩
             ·replace c33:=Bool.eq_false_iff.mpr c33
              subst c33
              have H1:(some false)=some r:=by rw[if_neg (show ¬(false=true)by decide)]at H;exact H
              clear H;have H:=H1;clear H1;obtain rfl:=Option.some.inj H;obtain⟨hcz36_0,hcz36_1,hcz36_2,hcz36_3,hcz36_4,hcz36_5,hfz36_0⟩:=qc6_ BK101
              go_wp2_with (first|(go_at_call 33;(with_reducible refine(z33_.calls a0_1 1 1000 true _ A30.out).mono ?_);rintro e w' ⟨rfl,⟨nd,rfl⟩⟩)|(go_at_call 33;(with_reducible refine(z33_.calls a0_2 1 3 false _ A32.out).mono ?_);rintro e w' ⟨rfl,⟨nd,rfl⟩⟩))
              go_ret;exact⟨qee_,qBHB⟩
            ·replace c31:=Bool.eq_false_iff.mpr c31
             subst c31
             have H1:(some false)=some r:=by rw[if_neg (show ¬(false=true)by decide)]at H;exact H
             clear H;have H:=H1;clear H1;obtain rfl:=Option.some.inj H;obtain⟨hcz37_0,hcz37_1,hcz37_2,hcz37_3,hcz37_4,hcz37_5,hfz37_0⟩:=qc6_ BK101
             go_wp2_with (first|(go_at_call 33;(with_reducible refine(z33_.calls a0_1 1 1000 false _ A30.out).mono ?_);rintro e w' ⟨rfl,⟨nd,rfl⟩⟩))
             go_ret;exact⟨qee_,qBHB⟩
           ·rw[if_neg c29]at H
            have c29b0:((l0_5.length:Int) == 0)=false:=beq_eq_false_iff_ne.mpr c29;have c29b1:((l0_5.length:Int) != 0)=true:=bne_iff_ne.mpr c29
            have c29b2:¬(l0_5=[]):=fun h_=>c29 (by rw[h_];rfl)
            obtain rfl:=Option.some.inj H;obtain⟨hcz38_0,hcz38_1,hcz38_2,hcz38_3,hcz38_4,hcz38_5,hfz38_0⟩:=qc6_ BK101
            go_wp2
            go_ret;exact⟨qee_,qBHB⟩
          ·rw[if_neg c28]at H
           have c28b0:(a0_0 == 3)=false:=beq_eq_false_iff_ne.mpr c28;have c28b1:(a0_0 != 3)=true:=bne_iff_ne.mpr c28;obtain rfl:=Option.some.inj H
           go_wp2
           go_ret;exact⟨qee_,qBHB⟩


/-- A state of type 84 at block g of W; what its slices lead to came in by w0. -/
def IsS84 (w0 W:World) (g:Nat) (f0:ByteArray) (f1:Bool):Prop:=W.heap[g]? = some (.cells #[.string f0,.bool f1] 84 (0,0))∧w0.heap.size≤g
theorem IsS84.grown {w0 W:World} {g:Nat} {f0:ByteArray} {f1:Bool} {W1:World} {row:Option Nat} (h:IsS84 w0 W g f0 f1) (hw:W.grownBy W1 row) (hne:some g≠row):IsS84 w0 W1 g f0 f1:=by
 obtain⟨hb,hg⟩:=h
 exact⟨blk_grown hb hw hne,hg⟩
theorem IsS84.own_neN {w0 W:World} {g:Nat} {f0:ByteArray} {f1:Bool} {α:Type} {d:Kd α} {e:Nat} {base:Nat} {ok:Nat→Prop} {v:Value} {xs:List α} (h:IsS84 w0 W g f0 f1) (ho:Kd.N d e W base ok v xs) (ht:e≠84):some g≠v.ownBlock:=by
 obtain⟨hb,hg⟩:=h
 exact Kd.N_ne ho hb ht
theorem IsS84.fresh {w0 W:World} {g:Nat} {f0:ByteArray} {f1:Bool} (h:IsS84 w0 W g f0 f1):∀ k,W.heap.size≤k→k≠g:=by
 obtain⟨hb,hg⟩:=h
 exact Kd.freshB hb
theorem IsS84.kept {w0 W:World} {g:Nat} {f0:ByteArray} {f1:Bool} {W1:World} {S:Nat→Prop} (h:IsS84 w0 W g f0 f1) (hk:Kept W W1 S) (hne:¬ S g):IsS84 w0 W1 g f0 f1:=by
 obtain⟨hb,hg⟩:=h
 exact⟨blk_kept hb hk hne,hg⟩
theorem IsS84.below {w0 W:World} {g:Nat} {f0:ByteArray} {f1:Bool} {W1:World} (h:IsS84 w0 W g f0 f1) (hw:Below W.heap.size W W1):IsS84 w0 W1 g f0 f1:=h.grown (grown_of_below hw none) (by simp)
theorem IsS84.alloc {w0 W:World} {g:Nat} {f0:ByteArray} {f1:Bool} (h:IsS84 w0 W g f0 f1) (o:Obj):IsS84 w0 (W.alloc o) g f0 f1:=h.below (qA_ (Below.refl _ _) o)
theorem IsS84.drewN {w0 W:World} {g:Nat} {f0:ByteArray} {f1:Bool} (h:IsS84 w0 W g f0 f1) (m:Nat):IsS84 w0 (W.drewN m) g f0 f1:=h
theorem IsS84.drew {w0 W:World} {g:Nat} {f0:ByteArray} {f1:Bool} (h:IsS84 w0 W g f0 f1):IsS84 w0 W.drew g f0 f1:=h
theorem IsS84.at_ {w0 W:World} {g:Nat} {f0:ByteArray} {f1:Bool} {w' : World} {m:Nat} (hq:W.drewN m=w') (h:IsS84 w0 W g f0 f1):IsS84 w0 w' g f0 f1:=by subst hq;exact IsS84.drewN h m
theorem IsS84.apart {w0 W:World} {g:Nat} {f0:ByteArray} {f1:Bool} {α:Type} {d:Kd α} {e:Nat} {base:Nat} {ok:Nat→Prop} {v:Value} {xs:List α} (h:IsS84 w0 W g f0 f1) (ho:d.R e W base ok v xs) (ht:∀ q,q ∈ e :: d.E→q≠84):d.R e W base (fun k=>ok k∧k≠g) v xs:=by
 obtain⟨hb,hg⟩:=h
 exact Kd.R_types ho hb ht
theorem IsS84.own_ne {w0 W:World} {g:Nat} {f0:ByteArray} {f1:Bool} {α:Type} {d:Kd α} {e:Nat} {base:Nat} {ok:Nat→Prop} {v:Value} {xs:List α} (h:IsS84 w0 W g f0 f1) (ho:d.R e W base ok v xs) (ht:e≠84):some g≠v.ownBlock:=by
 obtain⟨hb,hg⟩:=h
 exact Kd.R_ne ho hb ht
theorem IsS84.apartQ {w0 W:World} {g:Nat} {f0:ByteArray} {f1:Bool} {α:Type} {d:Kd α} {e:Nat} {base:Nat} {ok:Nat→Prop} {v:Value} {xs:List α} (h:IsS84 w0 W g f0 f1) (ho:d.Q e W base ok v xs) (ht:∀ q,q ∈ e :: d.E→q≠84):d.Q e W base (fun k=>ok k∧k≠g) v xs:=by
 obtain⟨hb,hg⟩:=h
 exact Kd.Q_types ho hb ht
theorem IsS84.own_neQ {w0 W:World} {g:Nat} {f0:ByteArray} {f1:Bool} {α:Type} {d:Kd α} {e:Nat} {base:Nat} {ok:Nat→Prop} {v:Value} {xs:List α} (h:IsS84 w0 W g f0 f1) (ho:d.Q e W base ok v xs) (ht:e≠84):some g≠v.ownBlock:=by
 obtain⟨hb,hg⟩:=h
 exact Kd.Q_ne ho hb ht
theorem IsS84.apartS {w0 W:World} {g:Nat} {f0:ByteArray} {f1:Bool} {α:Type} {d:Kd α} {e:Nat} {base:Nat} {ok:Nat→Prop} {v:Value} {xs:List α} (h:IsS84 w0 W g f0 f1) (ho:d.S e W base ok v xs) (ht:∀ q,q ∈ e :: d.E→q≠84):d.S e W base (fun k=>ok k∧k≠g) v xs:=by
 obtain⟨hb,hg⟩:=h
 exact Kd.S_types ho hb ht
theorem IsS84.own_neS {w0 W:World} {g:Nat} {f0:ByteArray} {f1:Bool} {α:Type} {d:Kd α} {e:Nat} {base:Nat} {ok:Nat→Prop} {v:Value} {xs:List α} (h:IsS84 w0 W g f0 f1) (ho:d.S e W base ok v xs) (ht:e≠84):some g≠v.ownBlock:=by
 obtain⟨hb,hg⟩:=h
 exact Kd.S_ne ho hb ht
theorem IsS84.lt {w0 W:World} {g:Nat} {f0:ByteArray} {f1:Bool} (h:IsS84 w0 W g f0 f1):g < W.heap.size:=by
 obtain⟨hb,hg⟩:=h
 exact blk_lt hb
theorem IsS84.ge {w0 W:World} {g:Nat} {f0:ByteArray} {f1:Bool} (h:IsS84 w0 W g f0 f1):w0.heap.size≤g:=by
 obtain⟨hb,hg⟩:=h
 exact hg
theorem IsS84.ne_blk {w0 W:World} {g:Nat} {f0:ByteArray} {f1:Bool} {a:Nat} {cs:Array Value} {t:TypeId} {fr:Nat × Nat} (h:IsS84 w0 W g f0 f1) (hb2:W.heap[a]? = some (.cells cs t fr)) (ht:t≠84):g≠a:=by
 obtain⟨hb,hg⟩:=h
 rintro rfl
 rw[hb]at hb2
 injection hb2 with hb2
 injection hb2 with _ ht2
 exact ht ht2.symm
theorem IsS84.far {w0 W:World} {g:Nat} {f0:ByteArray} {f1:Bool} {p:Addr} (h:IsS84 w0 W g f0 f1) (hne:g≠p.block) (u:Value):IsS84 w0 (W.setCell p u) g f0 f1:=by
 obtain⟨hb,hg⟩:=h
 exact⟨blk_far hb hne u,hg⟩
theorem cellS84_0 {W:World} {g:Nat} {f0:ByteArray} {f1:Bool} (h:W.heap[g]? = some (.cells #[.string f0,.bool f1] 84 (0,0))):W.cell? ⟨g,0,none⟩=some (.string f0):=(qC_ h 0).trans rfl
theorem IsS84.set_0 {w0 W:World} {g:Nat} {f0:ByteArray} {f1:Bool} (h:IsS84 w0 W g f0 f1) (x:ByteArray):IsS84 w0 (W.setCell ⟨g,0,none⟩ (.string x)) g x f1:=by
 obtain⟨hb,hg⟩:=h
 exact⟨by simpa using blk_set hb 0 (.string x),hg⟩
theorem cellS84_1 {W:World} {g:Nat} {f0:ByteArray} {f1:Bool} (h:W.heap[g]? = some (.cells #[.string f0,.bool f1] 84 (0,0))):W.cell? ⟨g,1,none⟩=some (.bool f1):=(qC_ h 1).trans rfl
theorem IsS84.set_1 {w0 W:World} {g:Nat} {f0:ByteArray} {f1:Bool} (h:IsS84 w0 W g f0 f1) (x:Bool):IsS84 w0 (W.setCell ⟨g,1,none⟩ (.bool x)) g f0 x:=by
 obtain⟨hb,hg⟩:=h
 exact⟨by simpa using blk_set hb 1 (.bool x),hg⟩
theorem IsS84.new (w0 W:World) (f0:ByteArray) (f1:Bool) (hB:Below w0.heap.size w0 W):IsS84 w0 (W.alloc (.cells #[.string f0,.bool f1] 84)) W.heap.size f0 f1:=⟨by simpa using heap_alloc_new W _,hB.size⟩

/-! ### z52_: function 52 -/
def z52_.f (s0_0:ByteArray) (s0_1:Bool) (a1:Int):Option (ByteArray × ByteArray × Bool):=if a1 > (s0_0.size:Int)then(some ((⟨#[]⟩:ByteArray),s0_0,true))else(if 0≤a1 then(if a1≤(s0_0.size:Int)then(some (s0_0.extract 0 (a1:Int).toNat,s0_0.extract (a1:Int).toNat s0_0.size,s0_1))else(none))else(none))
set_option maxHeartbeats 8000000 in
set_option maxRecDepth 100000 in
theorem z52_.calls (g:Nat) (s0_0:ByteArray) (s0_1:Bool) (a1:Int) (r1:ByteArray) (r2:ByteArray) (r3:Bool) (w0 w:World) (hI:IsS84 w0 w g s0_0 s0_1) (hB:Below w0.heap.size w0 w) (h:z52_.f s0_0 s0_1 a1=some (r1,r2,r3)) :
  Calls Try.prog 52 #[.pointer (some ⟨g,0,none⟩),.int .i64 a1] w fun e w' => e= .returned (.string r1)∧IsS84 w0 w' g r2 r3∧Below w0.heap.size w0 w' ∧ KeepBut w w' g none:=by
 have HI0:=qM_ hI
 have HK:=qM_ (KeepBut.refl w g none)
 have HL:=qM_ hB.size
 clear hI
 have HW0:=qM_ hB.size
 have HB:=qM_ hB
 clear hB
 have H:(if a1 > (s0_0.size:Int)then(some ((⟨#[]⟩:BA_),s0_0,true))else(if 0≤a1 then(if a1≤(s0_0.size:Int)then(some (s0_0.extract 0 (a1:Int).toNat,s0_0.extract (a1:Int).toNat s0_0.size,s0_1))else(none))else(none)))=some (r1,r2,r3):=h
 clear h
 by_cases c3:a1 > (s0_0.size:Int)
 ·rw[if_pos c3]at H
  have c3b0:decide ((s0_0.size:Int) < a1)=true:=decide_eq_true c3;clear c3;simp only[Option.some.injEq,Prod.mk.injEq]at H;obtain⟨rfl,rfl,rfl⟩:=H;obtain⟨HGz4,hgz4⟩:=HI0.out;have hcz4_0:=cellS84_0 HGz4;have hcz4_1:=cellS84_1 HGz4;have hfz4_0:=qF_ HGz4 0;have hfz4_1:=qF_ HGz4 1;clear HGz4 hgz4;go_enter Try.func52,Try.ntmps52
  go_wp2
  go_ret;exact⟨qee_,qI84HI0,qBHB,qKHK⟩
 ·rw[if_neg c3]at H
  have c3b0:decide ((s0_0.size:Int) < a1)=false:=decide_eq_false c3;clear c3;by_cases c5:0≤a1
  ·rw[if_pos c5]at H
   have c5b0:=eq_true c5;have c5b1:decide (0≤a1)=true:=decide_eq_true c5;clear c5;by_cases c6:a1≤(s0_0.size:Int)
   ·rw[if_pos c6]at H
    have c6b0:=eq_true c6;have c6b1:decide (a1≤(s0_0.size:Int))=true:=decide_eq_true c6;clear c6;have c7b0:=eq_true (qd_:0≤a1);have c8b0:=eq_true (qd_:a1≤(s0_0.size:Int));simp only[Option.some.injEq,Prod.mk.injEq]at H;obtain⟨rfl,rfl,rfl⟩:=H;obtain⟨HGz9,hgz9⟩:=HI0.out;have hcz9_0:=cellS84_0 HGz9;have hcz9_1:=cellS84_1 HGz9;have hfz9_0:=qF_ HGz9 0;have hfz9_1:=qF_ HGz9 1;clear HGz9 hgz9;go_enter Try.func52,Try.ntmps52
    go_wp2
    go_ret;exact⟨qee_,qI84HI0,qBHB,qKHK⟩
   ·rw[if_neg c6]at H
    exact absurd H (by simp)
  ·rw[if_neg c5]at H
   exact absurd H (by simp)


/-! ### z70_: function 70 -/
def z70_.l0:Nat→ByteArray→Int→Int→Int→Option (Int)
 | 0,_,_,_,_=>none
 | k+1,x0,x3,x6,x7=>if x7 < x6 then(if 0≤x7 then(if x7 < (x0.size:Int)then(z70_.l0 k x0 (Go.bits .or .i64 (wrap64 (x3*256)) (wrap64 (bt x0 x7))) x6 (wrap64 (x7+1)))else(none))else(none))else(some x3)
def z70_.f (k:Nat) (a0:ByteArray):Option (Int):=z70_.l0 k a0 0 (a0.size:Int) 0
theorem z70_.mono_l:∀ k,(∀ y0 y1 y2 y3,LeO (z70_.l0 k y0 y1 y2 y3) (z70_.l0 (k+1) y0 y1 y2 y3))
 | 0=>fun _ _ _ _ r h=>by simp[z70_.l0]at h
 | k+1=>by
  have ih0:=z70_.mono_l k
  ·intro y0 y1 y2 y3
   unfold z70_.l0
   repeat' first
   | (with_reducible exact ih0 _ _ _ _)
   | (with_reducible exact LeO.refl _)
   | (with_reducible exact LeO.none _)
   | (with_reducible refine LeO.ite ?_ ?_)
   | (with_reducible refine LeO.bind ?_ (fun _=> ?_))
   | exact ih0 _ _ _ _
   | exact LeO.none _
   | refine LeO.ite ?_ ?_
   | refine LeO.bind ?_ (fun _=> ?_)
theorem z70_.mono:∀ a0 k,LeO (z70_.f k a0) (z70_.f (k+1) a0):=by
 intro a0 k
 have ih0:=z70_.mono_l k
 unfold z70_.f
 repeat' first
   | (with_reducible exact ih0 _ _ _ _)
   | (with_reducible exact LeO.refl _)
   | (with_reducible exact LeO.none _)
   | (with_reducible refine LeO.ite ?_ ?_)
   | (with_reducible refine LeO.bind ?_ (fun _=> ?_))
   | exact ih0 _ _ _ _
   | exact LeO.none _
   | refine LeO.ite ?_ ?_
   | refine LeO.bind ?_ (fun _=> ?_)
set_option maxHeartbeats 8000000 in
set_option maxRecDepth 100000 in
theorem z70_.calls (k:Nat) (a0:ByteArray) (r:Int) (w:World) (h:z70_.f k a0=some r) :
  Calls Try.prog 70 #[.string a0] w fun e w' => e= .returned (.int .i64 r)∧Drawn0 w w' := by
 have H:(z70_.l0 k a0 0 (a0.size:Int) 0)=some r:=h
 clear h
 have H' := qM_ H
 clear H
 go_enter Try.func70,Try.ntmps70
 go_wp2
 go_loopg [3,7] k (fun kq v3 v7 w' => ∃(x3_1:Int) (x7_1:Int),v3= .int .i64 x3_1∧v7= .int .i64 x7_1∧Aside0 (z70_.l0 kq a0 x3_1 (a0.size:Int) x7_1=some r)∧Aside0 (kq≤k)∧Drawn0 w w')
 case atStart=>exact⟨(0),(0),qff_,qff_,H', ⟨Nat.le_refl _⟩,by repeat(first|exact Drawn0.refl _|apply Drawn0.step)⟩
 case round =>
  clear H'; obtain⟨x3_1,x7_1,rfl,rfl,HA,HK1,⟨m1,rfl⟩⟩:=hrel
  cases gk with
  | zero=>exact absurd HA.out (by simp[z70_.l0])
  | succ k1 =>
   have H:=HA.out;clear HA;simp only[z70_.l0]at H;by_cases c2:x7_1 < (a0.size:Int)
   ·rw[if_pos c2]at H
    have c2b0:decide (x7_1 < (a0.size:Int))=true:=decide_eq_true c2;clear c2;by_cases c3:0≤x7_1
    ·rw[if_pos c3]at H
     have c3b0:decide (0≤x7_1)=true:=decide_eq_true c3;clear c3;by_cases c4:x7_1 < (a0.size:Int)
     ·rw[if_pos c4]at H
      have c4b0:decide (x7_1 < (a0.size:Int))=true:=decide_eq_true c4;clear c4;have H' := qM_ H;clear H;have p5:0≤(x7_1:Int):=qd_;have q5:x7_1 < (a0.size:Int):=qd_;have hx5:=bt_at a0 x7_1;replace p5:=eq_true p5;replace q5:=eq_true q5
      go_wp2
      go_roundg k1
      case measure=>have:=HK1.out;omega
      case rel=>exact⟨(Go.bits .or .i64 (wrap64 (x3_1*256)) (wrap64 (bt a0 x7_1))),(wrap64 (x7_1+1)),qff_,qff_,H', ⟨by have:=HK1.out;omega⟩,by repeat(first|exact Drawn0.refl _|apply Drawn0.step)⟩
     ·rw[if_neg c4]at H
      exact absurd H (by simp)
    ·rw[if_neg c3]at H
     exact absurd H (by simp)
   ·rw[if_neg c2]at H
    have c2b0:decide (x7_1 < (a0.size:Int))=false:=decide_eq_false c2;clear c2;obtain rfl:=Option.some.inj H
    go_wp2
    go_ret;exact⟨by first|rfl|(simp;done)|(simp[*];done),by repeat(first|exact Drawn0.refl _|apply Drawn0.step)⟩


/-! ### z51_: function 51 -/
def z51_.f (k:Nat) (s0_0:ByteArray) (s0_1:Bool) (a1:Int):Option (Int × ByteArray × Bool):=(z52_.f s0_0 s0_1 a1).bind fun bt101=>((z70_.f k bt101.1).bind fun t104=>(some (t104,bt101.2.1,bt101.2.2)))
theorem z51_.mono:∀ a0 a1 a2 k,LeO (z51_.f k a0 a1 a2) (z51_.f (k+1) a0 a1 a2):=by
 intro a0 a1 a2 k
 unfold z51_.f
 repeat' first
   | (with_reducible exact z70_.mono _ _)
   | (with_reducible exact LeO.refl _)
   | (with_reducible exact LeO.none _)
   | (with_reducible refine LeO.ite ?_ ?_)
   | (with_reducible refine LeO.bind ?_ (fun _=> ?_))
   | exact z70_.mono _ _
   | exact LeO.none _
   | refine LeO.ite ?_ ?_
   | refine LeO.bind ?_ (fun _=> ?_)
set_option maxHeartbeats 8000000 in
set_option maxRecDepth 100000 in
theorem z51_.calls (k:Nat) (g:Nat) (s0_0:ByteArray) (s0_1:Bool) (a1:Int) (r1:Int) (r2:ByteArray) (r3:Bool) (w0 w:World) (hI:IsS84 w0 w g s0_0 s0_1) (hB:Below w0.heap.size w0 w) (h:z51_.f k s0_0 s0_1 a1=some (r1,r2,r3)) :
  Calls Try.prog 51 #[.pointer (some ⟨g,0,none⟩),.int .i64 a1] w fun e w' => e= .returned (.int .i64 r1)∧IsS84 w0 w' g r2 r3∧Below w0.heap.size w0 w' ∧ KeepBut w w' g none:=by
 have HI0:=qM_ hI
 have HK:=qM_ (KeepBut.refl w g none)
 have HL:=qM_ hB.size
 clear hI
 have HW0:=qM_ hB.size
 have HB:=qM_ hB
 clear hB
 have H:((z52_.f s0_0 s0_1 a1).bind fun bt101=>((z70_.f k bt101.1).bind fun t104=>(some (t104,bt101.2.1,bt101.2.2))))=some (r1,r2,r3):=h
 clear h
 replace H:=Option.bind_eq_some_iff.mp H
 obtain⟨⟨t101,t102,t103⟩,A30,H⟩:=H
 dsimp only at H
 have A3:=qM_ A30
 clear A30
 replace H:=Option.bind_eq_some_iff.mp H
 obtain⟨t104,A40,H⟩:=H
 have A4:=qM_ A40
 clear A40
 simp only[Option.some.injEq,Prod.mk.injEq]at H
 obtain⟨rfl,rfl,rfl⟩:=H
 go_enter Try.func51,Try.ntmps51
 go_wp2_with (first|((with_reducible refine gate_callee (f:=52) rfl ?_);refine goesL_ (some 7) rfl rfl Try.func52 qK rfl #[.pointer (some ⟨g,0,none⟩),.int .i64 a1] rfl qll_ ?_;(with_reducible refine(z52_.calls g s0_0 s0_1 a1 t101 t102 t103 w0 _ ?side1 ?side2 A3.out).mono ?_);(case side1=>exact qI84HI0);(case side2=>exact qBHB);rintro e w5 ⟨rfl,hi,hb,hk⟩;refine⟨_,rfl,?_⟩;replace HK:=qM_ (KeepBut.trans qKHK hk (.inl rfl));replace HB:=qM_ (hb);replace HI0:=qM_ (hi);(try clear hb);(try clear hb2);(try clear hk);(try clear hi))|((with_reducible refine gate_callee (f:=70) rfl ?_);refine goesL_ (some 8) rfl rfl Try.func70 qK rfl #[.string t101] rfl qll_ ?_;(with_reducible refine(z70_.calls k t101 t104 _ A4.out).mono ?_);rintro e w' ⟨rfl,⟨nd,rfl⟩⟩;refine⟨_,rfl,?_⟩))
 go_ret
 exact⟨qee_,qI84HI0,qBHB,qKHK⟩

end Go.Proofs.Ytbjefkeogbophaa.P
