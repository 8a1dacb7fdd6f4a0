/- Part 8 of what the law FnMutations stands on; the last part ends with the law's row. No condition of mine. -/
import Derived.Test.YtbjefkeogbophaaMFnMutations1
import Derived.Test.YtbjefkeogbophaaMFnMutations2
import Derived.Test.YtbjefkeogbophaaMFnMutations5
import Derived.Test.YtbjefkeogbophaaMFnMutations6
import Derived.Test.YtbjefkeogbophaaMFnMutations7
import Derived.Deep.RegionHeld3
import Derived.Deep.DrawnRows
import Derived.Lib.ConvBytes
namespace Go.Proofs.Ytbjefkeogbophaa.P
open Go.RowKit Go.Proofs.YtbjefkeogbophaaW.PrintWords Go.Proofs.YtbjefkeogbophaaW.PrintLast Go.Proofs.YtbjefkeogbophaaW.PrintMore
attribute [local go_sem] max2_int min2_int max_two min_two max_three min_three max_four min_four   -- for this text's walks alone
set_option linter.unusedVariables false
set_option linter.unusedSimpArgs false

/-! ### z69_: function 69 -/
def z69_.l0:Nat→ByteArray→List Int→Int→Option (List Int)
 | 0,_,_,_=>none
 | k+1,x0,x3,x4=>if x4 < (x0.size:Int)then(if 0≤x4 then(if(bt x0 x4)=10 then(if x3.length < 140737488355328 then((some (x3 ++ [13]:List Int)).bind fun y104=>(if y104.length < 140737488355328 then(z69_.l0 k x0 (y104 ++ [bt x0 x4]) (wrap64 (x4+1)))else(none)))else(none))else(if x3.length < 140737488355328 then(z69_.l0 k x0 (x3 ++ [bt x0 x4]) (wrap64 (x4+1)))else(none)))else(none))else(some x3)
def z69_.f (k:Nat) (a0:ByteArray):Option (List Int):=z69_.l0 k a0 (([]:List Int)) 0
theorem z69_.mono_l:∀ k,(∀ y0 y1 y2,LeO (z69_.l0 k y0 y1 y2) (z69_.l0 (k+1) y0 y1 y2))
 | 0=>fun _ _ _ r h=>by simp[z69_.l0]at h
 | k+1=>by
  have ih0:=z69_.mono_l k
  ·intro y0 y1 y2
   unfold z69_.l0
   repeat' first
   | (with_reducible exact ih0 _ _ _)
   | (with_reducible exact LeO.refl _)
   | (with_reducible exact LeO.none _)
   | (with_reducible refine LeO.ite ?_ ?_)
   | (with_reducible refine LeO.bind ?_ (fun _=> ?_))
   | exact ih0 _ _ _
   | exact LeO.none _
   | refine LeO.ite ?_ ?_
   | refine LeO.bind ?_ (fun _=> ?_)
theorem z69_.mono:∀ a0 k,LeO (z69_.f k a0) (z69_.f (k+1) a0):=by
 intro a0 k
 have ih0:=z69_.mono_l k
 unfold z69_.f
 repeat' first
   | (with_reducible exact ih0 _ _ _)
   | (with_reducible exact LeO.refl _)
   | (with_reducible exact LeO.none _)
   | (with_reducible refine LeO.ite ?_ ?_)
   | (with_reducible refine LeO.bind ?_ (fun _=> ?_))
   | exact ih0 _ _ _
   | exact LeO.none _
   | refine LeO.ite ?_ ?_
   | refine LeO.bind ?_ (fun _=> ?_)
set_option maxHeartbeats 8000000 in
set_option maxRecDepth 100000 in
theorem z69_.calls (k:Nat) (a0:ByteArray) (r:List Int) (w:World) (h:z69_.f k a0=some r) :
  Calls Try.prog 69 #[.string a0] w fun e w' => ∃ v0_:Value,e= .returned (v0_)∧Kd.R (Kd.int .u8) 5 w' w.heap.size (fun _=>True) v0_ r∧Below w.heap.size w w' := by
 have HB:=qM_ (Below.refl w.heap.size w)
 have H:(z69_.l0 k a0 (([]:List Int)) 0)=some r:=h
 clear h
 obtain⟨y101,hy101⟩:∃ y_:List Int,y_=(([]:List Int)):=⟨_,rfl⟩
 replace H:(z69_.l0 k a0 y101 0)=some r:=qh_ hy101 H
 have Ny101:=qM_ hy101
 clear hy101
 have H' := qM_ H
 clear H
 go_enter Try.func69,Try.ntmps69
 go_wp2_with (first|((with_reducible refine gate_dst (N:=5) rfl ?_);refine Kd.R_lit (Kd.int .u8) _ 5 ?hg (N:=5) ?hd (xs:=([]:List Int)) (inner:=[]) (ok:=fun _=>True) (okp:=fun _=>True) ?hr ?hp (fun _ hk=>hk) trivial (Below.refl _ _) (Nat.le_refl _) (by simp) ?_;(case hd=>rfl);(case hg=>rfl);(case hr=>first|(go_simp;done)|(go_simp;rfl));(case hp=>exact(Reps.none _ _));intro v102 w2 ho3 hb hg_ hnew_;clear hg_ hnew_;(first|rw[← Ny101.out]at ho3|(simp only[Int.reduceToNat]at ho3;rw[← Ny101.out]at ho3));have HO103:=qM_ (Kd.R_lower ho3 (below_size qBHB));replace HB:=qM_ (below_step qBHB hb);clear hb ho3))
 go_loopg [3,4] k (fun kq v3 v4 w' => ∃(x3_1:List Int) (x4_1:Int),v4= .int .i64 x4_1∧Aside0 (z69_.l0 kq a0 x3_1 x4_1=some r)∧Aside0 (kq≤k)∧Aside0 (Kd.R (Kd.int .u8) 5 w' w.heap.size (fun _=>True) v3 x3_1)∧Aside0 (Below w.heap.size w w'))
 case atStart=>exact⟨(y101),(0),qff_,H', ⟨Nat.le_refl _⟩,⟨qr_ HO103⟩,⟨qBHB⟩⟩
 case round =>
  clear H'
  try clear p2
  obtain⟨x3_1,x4_1,rfl,HA,HK1,HO_3,HB⟩:=hrel
  cases gk with
  | zero=>exact absurd HA.out (by simp[z69_.l0])
  | succ k1 =>
   have H:=HA.out;clear HA;simp only[z69_.l0]at H;by_cases c4:x4_1 < (a0.size:Int)
   ·rw[if_pos c4]at H
    have c4b0:decide (x4_1 < (a0.size:Int))=true:=decide_eq_true c4;clear c4;by_cases c5:0≤x4_1
    ·rw[if_pos c5]at H
     have c5b0:decide (0≤x4_1)=true:=decide_eq_true c5;clear c5;by_cases c7:(bt a0 x4_1)=10
     ·rw[if_pos c7]at H
      have c7b0:((bt a0 x4_1) == 10)=true:=beq_iff_eq.mpr c7;have c7b1:((bt a0 x4_1) != 10)=false:=bne_eq_false_iff_eq.mpr c7;clear c7;by_cases c8:x3_1.length < 140737488355328
      ·rw[if_pos c8]at H
       have LMc8:=qM_ c8;clear c8
       obtain⟨y104,hy104⟩:∃ y_:List Int,y_=(x3_1 ++ [13]):=⟨_,rfl⟩
       replace H:(if y104.length < 140737488355328 then(z69_.l0 k1 a0 (y104 ++ [bt a0 x4_1]) (wrap64 (x4_1+1)))else(none))=some r:=qh_ hy104 H;have Ny104:=qM_ hy104;clear hy104;by_cases c10:y104.length < 140737488355328
       ·rw[if_pos c10]at H
        have LMc10:=qM_ c10;clear c10
        obtain⟨y107,hy107⟩:∃ y_:List Int,y_=(y104 ++ [bt a0 x4_1]):=⟨_,rfl⟩
        replace H:(z69_.l0 k1 a0 y107 (wrap64 (x4_1+1)))=some r:=qh_ hy107 H;have Ny107:=qM_ hy107;clear hy107;have H' := qM_ H;clear H;have p6:0≤(x4_1:Int):=qd_;have q6:x4_1 < (a0.size:Int):=qd_;have hx6:=bt_at a0 x4_1;replace p6:=eq_true p6;replace q6:=eq_true q6
        go_wp2_with (first|((with_reducible refine gate_builtin (b:= .append) (xs:=#[.tmp 16,.tmp 17]) rfl ?_);at_builtin;refine Kd.R_append (Kd.int .u8) (w0:=w) w.heap.size rfl (.tmp 16) (.tmp 17) 26 5 (.int .u8 0) 1 rfl Try.underlying26 info5 rfl (by decide) (by omega) u3 x3_1 13 [.int .u8 13] (fun _=>True) (fun _=>False) rfl rfl ?aP (fun _ hk=>hk.elim) ?aF ?aO ?aB ?aS ?aL ?_;(case aP=>exact rfl);(case aB=>exact qBHB);(case aF=>exact(fun _ _=>trivial));(case aO=>exact(qr_ HO_3));(case aS=>exact(below_size qBHB));(case aL=>have:=LMc8.out;omega);intro v105 w11 ho hb hg hat;rw[← Ny104.out]at ho;replace HB:=qM_ (hb);have HO106:=qM_ (ho);clear HO_3;clear ho hb hg hat;have p9:0≤(x4_1:Int):=qd_;have q9:x4_1 < (a0.size:Int):=qd_;have hx9:=bt_at a0 x4_1;replace p9:=eq_true p9;replace q9:=eq_true q9)|((with_reducible refine gate_builtin (b:= .append) (xs:=#[.tmp 19,.tmp 23]) rfl ?_);at_builtin;refine Kd.R_append (Kd.int .u8) (w0:=w) w.heap.size rfl (.tmp 19) (.tmp 23) 26 5 (.int .u8 0) 1 rfl Try.underlying26 info5 rfl (by decide) (by omega) v105 y104 (bt a0 x4_1) [.int .u8 (bt a0 x4_1)] (fun _=>True) (fun _=>False) rfl rfl ?aP (fun _ hk=>hk.elim) ?aF ?aO ?aB ?aS ?aL ?_;(case aP=>exact rfl);(case aB=>exact qBHB);(case aF=>exact(fun _ _=>trivial));(case aO=>exact(qr_ HO106));(case aS=>exact(below_size qBHB));(case aL=>have:=LMc10.out;omega);intro v108 w12 ho hb hg hat;rw[← Ny107.out]at ho;replace HB:=qM_ (hb);have HO109:=qM_ (ho);clear HO106;clear ho hb hg hat))
        go_roundg k1
        case measure=>have:=HK1.out;omega
        case rel=>exact⟨(y107),(wrap64 (x4_1+1)),qff_,H', ⟨by have:=HK1.out;omega⟩,⟨qr_ HO109⟩,⟨qBHB⟩⟩
       ·rw[if_neg c10]at H
        exact absurd H (by simp)
      ·rw[if_neg c8]at H
       exact absurd H (by simp)
     ·rw[if_neg c7]at H
      have c7b0:((bt a0 x4_1) == 10)=false:=beq_eq_false_iff_ne.mpr c7;have c7b1:((bt a0 x4_1) != 10)=true:=bne_iff_ne.mpr c7;by_cases c14:x3_1.length < 140737488355328
      ·rw[if_pos c14]at H
       have LMc14:=qM_ c14;clear c14
       obtain⟨y110,hy110⟩:∃ y_:List Int,y_=(x3_1 ++ [bt a0 x4_1]):=⟨_,rfl⟩
       replace H:(z69_.l0 k1 a0 y110 (wrap64 (x4_1+1)))=some r:=qh_ hy110 H;have Ny110:=qM_ hy110;clear hy110;have H' := qM_ H;clear H;have p6:0≤(x4_1:Int):=qd_;have q6:x4_1 < (a0.size:Int):=qd_;have hx6:=bt_at a0 x4_1;replace p6:=eq_true p6;replace q6:=eq_true q6;have p13:0≤(x4_1:Int):=qd_;have q13:x4_1 < (a0.size:Int):=qd_;have hx13:=bt_at a0 x4_1;replace p13:=eq_true p13;replace q13:=eq_true q13
       go_wp2_with (first|((with_reducible refine gate_builtin (b:= .append) (xs:=#[.tmp 19,.tmp 23]) rfl ?_);at_builtin;refine Kd.R_append (Kd.int .u8) (w0:=w) w.heap.size rfl (.tmp 19) (.tmp 23) 26 5 (.int .u8 0) 1 rfl Try.underlying26 info5 rfl (by decide) (by omega) u3 x3_1 (bt a0 x4_1) [.int .u8 (bt a0 x4_1)] (fun _=>True) (fun _=>False) rfl rfl ?aP (fun _ hk=>hk.elim) ?aF ?aO ?aB ?aS ?aL ?_;(case aP=>exact rfl);(case aB=>exact qBHB);(case aF=>exact(fun _ _=>trivial));(case aO=>exact(qr_ HO_3));(case aS=>exact(below_size qBHB));(case aL=>have:=LMc14.out;omega);intro v111 w15 ho hb hg hat;rw[← Ny110.out]at ho;replace HB:=qM_ (hb);have HO112:=qM_ (ho);clear HO_3;clear ho hb hg hat))
       go_roundg k1
       case measure=>have:=HK1.out;omega
       case rel=>exact⟨(y110),(wrap64 (x4_1+1)),qff_,H', ⟨by have:=HK1.out;omega⟩,⟨qr_ HO112⟩,⟨qBHB⟩⟩
      ·rw[if_neg c14]at H
       exact absurd H (by simp)
    ·rw[if_neg c5]at H
     exact absurd H (by simp)
   ·rw[if_neg c4]at H
    have c4b0:decide (x4_1 < (a0.size:Int))=false:=decide_eq_false c4;clear c4;obtain rfl:=Option.some.inj H
    go_wp2
    go_ret;exact⟨_,qee_,qr_ HO_3,qBHB⟩


/-! ### z50_: function 50 (a text of mine) -/
def z50_.f (k:Nat) (id title link author:ByteArray) (date:Int) (content box:ByteArray):Option ByteArray:=(z65_.f k author).bind fun a1=>((z64_.f k (⟨#[70,114,111,109]⟩:ByteArray) a1).bind fun p1=>((z66_.f k date).bind fun a2=>((z64_.f k (⟨#[68,97,116,101]⟩:ByteArray) a2).bind fun p2=>((z65_.f k title).bind fun a3=>((z64_.f k (⟨#[83,117,98,106,101,99,116]⟩:ByteArray) a3).bind fun p3=>((z67_.f k (bytesOf id)).bind fun n=>((z49_.f k n).bind fun dg=>((z64_.f k (⟨#[77,101,115,115,97,103,101,45,73,68]⟩:ByteArray) (((((⟨#[60]⟩:ByteArray) ++ dg) ++ (⟨#[64]⟩:ByteArray)) ++ box) ++ (⟨#[62]⟩:ByteArray))).bind fun p4=>((z65_.f k id).bind fun a5=>((z64_.f k (⟨#[88,45,73,100]⟩:ByteArray) a5).bind fun p5=>((z65_.f k link).bind fun a6=>((z64_.f k (⟨#[88,45,76,105,110,107]⟩:ByteArray) a6).bind fun p6=>((z64_.f k (⟨#[77,73,77,69,45,86,101,114,115,105,111,110]⟩:ByteArray) (⟨#[49,46,48]⟩:ByteArray)).bind fun p7=>((z64_.f k (⟨#[67,111,110,116,101,110,116,45,84,121,112,101]⟩:ByteArray) (⟨#[116,101,120,116,47,112,108,97,105,110,59,32,99,104,97,114,115,101,116,61,117,116,102,45,56]⟩:ByteArray)).bind fun p8=>((z64_.f k (⟨#[67,111,110,116,101,110,116,45,84,114,97,110,115,102,101,114,45,69,110,99,111,100,105,110,103]⟩:ByteArray) (⟨#[113,117,111,116,101,100,45,112,114,105,110,116,97,98,108,101]⟩:ByteArray)).bind fun p9=>((z69_.f k content).bind fun cr=>((z68_.f k cr).bind fun q=>(if dg.size≤1000000000000∧p1.size≤1000000000000∧p2.size≤1000000000000∧p3.size≤1000000000000∧p4.size≤1000000000000∧p5.size≤1000000000000∧p6.size≤1000000000000∧p7.size≤1000000000000∧p8.size≤1000000000000∧p9.size≤1000000000000∧q.size≤1000000000000∧id.size≤1000000000000∧box.size≤1000000000000∧cr.length≤1000000000000 then some (((((((p1 ++ p2) ++ p3) ++ ((p4 ++ p5) ++ p6)) ++ ((p7 ++ p8) ++ p9)) ++ (⟨#[13,10]⟩:ByteArray)) ++ q) ++ (⟨#[13,10]⟩:ByteArray))else none))))))))))))))))))
theorem z50_.mono:∀ id title link author date content box k,LeO (z50_.f k id title link author date content box) (z50_.f (k+1) id title link author date content box):=by
 intro id title link author date content box k
 unfold z50_.f
 repeat' first
   | (with_reducible exact z65_.mono _ _)
   | (with_reducible exact z64_.mono _ _ _)
   | (with_reducible exact z66_.mono _ _)
   | (with_reducible exact z67_.mono _ _)
   | (with_reducible exact z49_.mono _ _)
   | (with_reducible exact z69_.mono _ _)
   | (with_reducible exact z68_.mono _ _)
   | (with_reducible exact LeO.refl _)
   | (with_reducible refine LeO.bind ?_ (fun _=> ?_))
/-- The sum over a text turned into a row. -/
theorem render_check (k:Nat) (id:ByteArray) (n:Int) (b cap:Nat) (W W' : World) (hW:W' = Lib.bytesWorld W 5 id) (hb:b=W.heap.size) (hcap:id.size≤cap) (hs:id.size≤9223372036854775807) (hc:z67_.f k (bytesOf id)=some n) :
  Calls Try.prog 67 #[.slice (some ⟨b,0,none⟩) id.size cap] W' fun e w' => e= .returned (.int .i64 n)∧Drawn0 W' w' := by
 have hl:id.size=(bytesOf id).length:=by simp[bytesOf]
 subst hW hb
 have:=z67_.calls k (some ⟨W.heap.size,0,none⟩) cap (bytesOf id) n (Lib.bytesWorld W 5 id) (conv_C W _ 5 id hs rfl) (by rw[← hl];exact hcap) hc
 rw[← hl]at this
 exact this
set_option maxHeartbeats 8000000 in
set_option maxRecDepth 100000 in
theorem render_walk (k:Nat) (id title link author:ByteArray) (date:Int) (content box:ByteArray) (a1 p1 a2 p2 a3 p3 dg p4 a5 p5 a6 p6 p7 p8 p9 q:ByteArray) (n:Int) (cr:List Int) (w:World)
  (E_a1:Aside0 (z65_.f k author=some a1))
  (E_p1:Aside0 (z64_.f k (⟨#[70,114,111,109]⟩:ByteArray) a1=some p1))
  (E_a2:Aside0 (z66_.f k date=some a2))
  (E_p2:Aside0 (z64_.f k (⟨#[68,97,116,101]⟩:ByteArray) a2=some p2))
  (E_a3:Aside0 (z65_.f k title=some a3))
  (E_p3:Aside0 (z64_.f k (⟨#[83,117,98,106,101,99,116]⟩:ByteArray) a3=some p3))
  (E_n:Aside0 (z67_.f k (bytesOf id)=some n))
  (E_dg:Aside0 (z49_.f k n=some dg))
  (E_p4:Aside0 (z64_.f k (⟨#[77,101,115,115,97,103,101,45,73,68]⟩:ByteArray) (((((⟨#[60]⟩:ByteArray) ++ dg) ++ (⟨#[64]⟩:ByteArray)) ++ box) ++ (⟨#[62]⟩:ByteArray))=some p4))
  (E_a5:Aside0 (z65_.f k id=some a5))
  (E_p5:Aside0 (z64_.f k (⟨#[88,45,73,100]⟩:ByteArray) a5=some p5))
  (E_a6:Aside0 (z65_.f k link=some a6))
  (E_p6:Aside0 (z64_.f k (⟨#[88,45,76,105,110,107]⟩:ByteArray) a6=some p6))
  (E_p7:Aside0 (z64_.f k (⟨#[77,73,77,69,45,86,101,114,115,105,111,110]⟩:ByteArray) (⟨#[49,46,48]⟩:ByteArray)=some p7))
  (E_p8:Aside0 (z64_.f k (⟨#[67,111,110,116,101,110,116,45,84,121,112,101]⟩:ByteArray) (⟨#[116,101,120,116,47,112,108,97,105,110,59,32,99,104,97,114,115,101,116,61,117,116,102,45,56]⟩:ByteArray)=some p8))
  (E_p9:Aside0 (z64_.f k (⟨#[67,111,110,116,101,110,116,45,84,114,97,110,115,102,101,114,45,69,110,99,111,100,105,110,103]⟩:ByteArray) (⟨#[113,117,111,116,101,100,45,112,114,105,110,116,97,98,108,101]⟩:ByteArray)=some p9))
  (E_cr:Aside0 (z69_.f k content=some cr))
  (E_q:Aside0 (z68_.f k cr=some q))
  (Z:Aside0 (dg.size≤1000000000000∧p1.size≤1000000000000∧p2.size≤1000000000000∧p3.size≤1000000000000∧p4.size≤1000000000000∧p5.size≤1000000000000∧p6.size≤1000000000000∧p7.size≤1000000000000∧p8.size≤1000000000000∧p9.size≤1000000000000∧q.size≤1000000000000∧id.size≤1000000000000∧box.size≤1000000000000∧cr.length≤1000000000000)) :
  Calls Try.prog 50 #[.agg #[.string id,.string title,.string link,.string author,.int .i64 date,.string content],.string box] w fun e w' => e= .returned (.string (((((((p1 ++ p2) ++ p3) ++ ((p4 ++ p5) ++ p6)) ++ ((p7 ++ p8) ++ p9)) ++ (⟨#[13,10]⟩:ByteArray)) ++ q) ++ (⟨#[13,10]⟩:ByteArray)))∧Below w.heap.size w w' := by
 have huE:=Try.underlying80
 have HB:=qM_ (Below.refl w.heap.size w)
 go_enter Try.func50,Try.ntmps50
 go_wp2_with ((with_reducible refine gate_dst (N:=2) rfl ?_);refine box_event ?hg (N:=2) ?hd (cs:=#[.string id,.string title,.string link,.string author,.int .i64 date,.string content]) (t:=80) ?hr ?_;(case hd=>rfl);(case hg=>rfl);(case hr=>first|(go_simp;done)|(go_simp;rfl));intro gb hg w1 hbox hb;have HB1:=qM_ (below_step HB.out hb);have BK:=qM_ hbox;clear hb hbox hg)
 have c0:w1.cell? ⟨gb,0,none⟩=some (.string id):=(qC_ BK.out 0).trans rfl
 have C0:Aside0 (∀ W,Below w1.heap.size w1 W→W.cell? ⟨gb,0,none⟩=some (.string id)):=⟨fun W hB=>(hB.cell (qL_ _ _ c0)).trans c0⟩
 have c1:w1.cell? ⟨gb,1,none⟩=some (.string title):=(qC_ BK.out 1).trans rfl
 have C1:Aside0 (∀ W,Below w1.heap.size w1 W→W.cell? ⟨gb,1,none⟩=some (.string title)):=⟨fun W hB=>(hB.cell (qL_ _ _ c1)).trans c1⟩
 have c2:w1.cell? ⟨gb,2,none⟩=some (.string link):=(qC_ BK.out 2).trans rfl
 have C2:Aside0 (∀ W,Below w1.heap.size w1 W→W.cell? ⟨gb,2,none⟩=some (.string link)):=⟨fun W hB=>(hB.cell (qL_ _ _ c2)).trans c2⟩
 have c3:w1.cell? ⟨gb,3,none⟩=some (.string author):=(qC_ BK.out 3).trans rfl
 have C3:Aside0 (∀ W,Below w1.heap.size w1 W→W.cell? ⟨gb,3,none⟩=some (.string author)):=⟨fun W hB=>(hB.cell (qL_ _ _ c3)).trans c3⟩
 have c4:w1.cell? ⟨gb,4,none⟩=some (.int .i64 date):=(qC_ BK.out 4).trans rfl
 have C4:Aside0 (∀ W,Below w1.heap.size w1 W→W.cell? ⟨gb,4,none⟩=some (.int .i64 date)):=⟨fun W hB=>(hB.cell (qL_ _ _ c4)).trans c4⟩
 have c5:w1.cell? ⟨gb,5,none⟩=some (.string content):=(qC_ BK.out 5).trans rfl
 have C5:Aside0 (∀ W,Below w1.heap.size w1 W→W.cell? ⟨gb,5,none⟩=some (.string content)):=⟨fun W hB=>(hB.cell (qL_ _ _ c5)).trans c5⟩
 have HBw:=qM_ (Below.refl w1.heap.size w1)
 have za:∀ a b:ByteArray,(a ++ b).size=a.size+b.size:=fun a b=>by simp
 have ZA:=qM_ za
 clear za
 have g1:=C1.out _ HBw.out
 have g3:=C3.out _ HBw.out
 have g4:=C4.out _ HBw.out
 have S0:Aside0 (p1.size+p2.size≤9000000000000000):=⟨by(try simp only[ZA.out]);have:=Z.out;(have l1:(⟨#[60]⟩:ByteArray).size=1:=rfl;have l2:(⟨#[64]⟩:ByteArray).size=1:=rfl;have l3:(⟨#[62]⟩:ByteArray).size=1:=rfl;have l4:(⟨#[13,10]⟩:ByteArray).size=2:=rfl;omega)⟩
 have q0_0:(p1.size+p2.size≤9223372036854775807)=True:=eq_true (by have h_:=S0.out;(try simp only[ZA.out]at h_ ⊢);(have l1:(⟨#[60]⟩:ByteArray).size=1:=rfl;have l2:(⟨#[64]⟩:ByteArray).size=1:=rfl;have l3:(⟨#[62]⟩:ByteArray).size=1:=rfl;have l4:(⟨#[13,10]⟩:ByteArray).size=2:=rfl;omega))
 have r0_0:(9223372036854775807 < p1.size+p2.size)=False:=eq_false (by have h_:=S0.out;(try simp only[ZA.out]at h_ ⊢);(have l1:(⟨#[60]⟩:ByteArray).size=1:=rfl;have l2:(⟨#[64]⟩:ByteArray).size=1:=rfl;have l3:(⟨#[62]⟩:ByteArray).size=1:=rfl;have l4:(⟨#[13,10]⟩:ByteArray).size=2:=rfl;omega))
 have S1:Aside0 ((p1 ++ p2).size+p3.size≤9000000000000000):=⟨by(try simp only[ZA.out]);have:=Z.out;(have l1:(⟨#[60]⟩:ByteArray).size=1:=rfl;have l2:(⟨#[64]⟩:ByteArray).size=1:=rfl;have l3:(⟨#[62]⟩:ByteArray).size=1:=rfl;have l4:(⟨#[13,10]⟩:ByteArray).size=2:=rfl;omega)⟩
 have q1_0:((p1 ++ p2).size+p3.size≤9223372036854775807)=True:=eq_true (by have h_:=S1.out;(try simp only[ZA.out]at h_ ⊢);(have l1:(⟨#[60]⟩:ByteArray).size=1:=rfl;have l2:(⟨#[64]⟩:ByteArray).size=1:=rfl;have l3:(⟨#[62]⟩:ByteArray).size=1:=rfl;have l4:(⟨#[13,10]⟩:ByteArray).size=2:=rfl;omega))
 have r1_0:(9223372036854775807 < (p1 ++ p2).size+p3.size)=False:=eq_false (by have h_:=S1.out;(try simp only[ZA.out]at h_ ⊢);(have l1:(⟨#[60]⟩:ByteArray).size=1:=rfl;have l2:(⟨#[64]⟩:ByteArray).size=1:=rfl;have l3:(⟨#[62]⟩:ByteArray).size=1:=rfl;have l4:(⟨#[13,10]⟩:ByteArray).size=2:=rfl;omega))
 have q1_1:(p1.size+p2.size+p3.size≤9223372036854775807)=True:=eq_true (by have h_:=S1.out;(try simp only[ZA.out]at h_ ⊢);(have l1:(⟨#[60]⟩:ByteArray).size=1:=rfl;have l2:(⟨#[64]⟩:ByteArray).size=1:=rfl;have l3:(⟨#[62]⟩:ByteArray).size=1:=rfl;have l4:(⟨#[13,10]⟩:ByteArray).size=2:=rfl;omega))
 have r1_1:(9223372036854775807 < p1.size+p2.size+p3.size)=False:=eq_false (by have h_:=S1.out;(try simp only[ZA.out]at h_ ⊢);(have l1:(⟨#[60]⟩:ByteArray).size=1:=rfl;have l2:(⟨#[64]⟩:ByteArray).size=1:=rfl;have l3:(⟨#[62]⟩:ByteArray).size=1:=rfl;have l4:(⟨#[13,10]⟩:ByteArray).size=2:=rfl;omega))
 go_wp2
 go_region_held3 (fun w' => w'.cell? ⟨gb,1,none⟩=some (.string title)∧w'.cell? ⟨gb,3,none⟩=some (.string author)∧w'.cell? ⟨gb,4,none⟩=some (.int .i64 date)) (first|go_keep) (first|(go_at_call_of 65 (Value.string author);refine(z65_.calls k author a1 _ E_a1.out).mono ?_;rintro e w4 ⟨rfl,hb4⟩;have hb2:Below w1.heap.size w1 w4:=(below_step qBHBw hb4);have g1:=C1.out w4 hb2;have g3:=C3.out w4 hb2;have g4:=C4.out w4 hb2;clear HBw;have HBw:=qM_ hb2;clear hb4 hb2)|(go_at_call_of 64 (Value.string (⟨#[70,114,111,109]⟩:ByteArray));refine(z64_.calls k _ a1 p1 _ E_p1.out).mono ?_;rintro e w4 ⟨rfl,hb4⟩;have hb2:Below w1.heap.size w1 w4:=(below_step qBHBw hb4);have g1:=C1.out w4 hb2;have g3:=C3.out w4 hb2;have g4:=C4.out w4 hb2;clear HBw;have HBw:=qM_ hb2;clear hb4 hb2)|(go_at_call 66;refine(z66_.calls k date a2 _ E_a2.out).mono ?_;rintro e w4 ⟨rfl,hb4⟩;have hb2:Below w1.heap.size w1 w4:=(below_step qBHBw hb4);have g1:=C1.out w4 hb2;have g3:=C3.out w4 hb2;have g4:=C4.out w4 hb2;clear HBw;have HBw:=qM_ hb2;clear hb4 hb2)|(go_at_call_of 64 (Value.string (⟨#[68,97,116,101]⟩:ByteArray));refine(z64_.calls k _ a2 p2 _ E_p2.out).mono ?_;rintro e w4 ⟨rfl,hb4⟩;have hb2:Below w1.heap.size w1 w4:=(below_step qBHBw hb4);have g1:=C1.out w4 hb2;have g3:=C3.out w4 hb2;have g4:=C4.out w4 hb2;clear HBw;have HBw:=qM_ hb2;clear hb4 hb2)|(go_at_call_of 65 (Value.string title);refine(z65_.calls k title a3 _ E_a3.out).mono ?_;rintro e w4 ⟨rfl,hb4⟩;have hb2:Below w1.heap.size w1 w4:=(below_step qBHBw hb4);have g1:=C1.out w4 hb2;have g3:=C3.out w4 hb2;have g4:=C4.out w4 hb2;clear HBw;have HBw:=qM_ hb2;clear hb4 hb2)|(go_at_call_of 64 (Value.string (⟨#[83,117,98,106,101,99,116]⟩:ByteArray));refine(z64_.calls k _ a3 p3 _ E_p3.out).mono ?_;rintro e w4 ⟨rfl,hb4⟩;have hb2:Below w1.heap.size w1 w4:=(below_step qBHBw hb4);have g1:=C1.out w4 hb2;have g3:=C3.out w4 hb2;have g4:=C4.out w4 hb2;clear HBw;have HBw:=qM_ hb2;clear hb4 hb2))
 clear q0_0 r0_0 q1_0 r1_0 q1_1 r1_1
 have ZI:Aside0 (id.size≤9223372036854775807):=⟨by have:=Z.out;omega⟩
 obtain⟨o1,ho1⟩:∃ o_:ByteArray,o_=(p1 ++ p2) ++ p3:=⟨_,rfl⟩
 rw[← ho1]
 have Ho1:=qM_ ho1
 have Zo1:Aside0 (o1.size≤3000000000000):=⟨by rw[ho1];simp only[ZA.out];have:=Z.out;omega⟩
 clear ho1
 have kc:=fun(W:World)=>Lib.run_convert_string_bytes (P:=Try.prog) W 9 26 5 id Try.underlying9 Try.underlying26 Try.underlying5
 have g0:=C0.out _ HBw.out
 have g2:=C2.out _ HBw.out
 have S2:Aside0 ((⟨#[60]⟩:ByteArray).size+dg.size≤9000000000000000):=⟨by(try simp only[ZA.out]);have:=Z.out;have:=Zo1.out;(have l1:(⟨#[60]⟩:ByteArray).size=1:=rfl;have l2:(⟨#[64]⟩:ByteArray).size=1:=rfl;have l3:(⟨#[62]⟩:ByteArray).size=1:=rfl;have l4:(⟨#[13,10]⟩:ByteArray).size=2:=rfl;omega)⟩
 have q2_0:((⟨#[60]⟩:ByteArray).size+dg.size≤9223372036854775807)=True:=eq_true (by have h_:=S2.out;(try simp only[ZA.out]at h_ ⊢);(have l1:(⟨#[60]⟩:ByteArray).size=1:=rfl;have l2:(⟨#[64]⟩:ByteArray).size=1:=rfl;have l3:(⟨#[62]⟩:ByteArray).size=1:=rfl;have l4:(⟨#[13,10]⟩:ByteArray).size=2:=rfl;omega))
 have r2_0:(9223372036854775807 < (⟨#[60]⟩:ByteArray).size+dg.size)=False:=eq_false (by have h_:=S2.out;(try simp only[ZA.out]at h_ ⊢);(have l1:(⟨#[60]⟩:ByteArray).size=1:=rfl;have l2:(⟨#[64]⟩:ByteArray).size=1:=rfl;have l3:(⟨#[62]⟩:ByteArray).size=1:=rfl;have l4:(⟨#[13,10]⟩:ByteArray).size=2:=rfl;omega))
 have q2_1:(1+dg.size≤9223372036854775807)=True:=eq_true (by have h_:=S2.out;(try simp only[ZA.out]at h_ ⊢);(have l1:(⟨#[60]⟩:ByteArray).size=1:=rfl;have l2:(⟨#[64]⟩:ByteArray).size=1:=rfl;have l3:(⟨#[62]⟩:ByteArray).size=1:=rfl;have l4:(⟨#[13,10]⟩:ByteArray).size=2:=rfl;omega))
 have r2_1:(9223372036854775807 < 1+dg.size)=False:=eq_false (by have h_:=S2.out;(try simp only[ZA.out]at h_ ⊢);(have l1:(⟨#[60]⟩:ByteArray).size=1:=rfl;have l2:(⟨#[64]⟩:ByteArray).size=1:=rfl;have l3:(⟨#[62]⟩:ByteArray).size=1:=rfl;have l4:(⟨#[13,10]⟩:ByteArray).size=2:=rfl;omega))
 have S3:Aside0 (((⟨#[60]⟩:ByteArray) ++ dg).size+(⟨#[64]⟩:ByteArray).size≤9000000000000000):=⟨by(try simp only[ZA.out]);have:=Z.out;have:=Zo1.out;(have l1:(⟨#[60]⟩:ByteArray).size=1:=rfl;have l2:(⟨#[64]⟩:ByteArray).size=1:=rfl;have l3:(⟨#[62]⟩:ByteArray).size=1:=rfl;have l4:(⟨#[13,10]⟩:ByteArray).size=2:=rfl;omega)⟩
 have q3_0:(((⟨#[60]⟩:ByteArray) ++ dg).size+(⟨#[64]⟩:ByteArray).size≤9223372036854775807)=True:=eq_true (by have h_:=S3.out;(try simp only[ZA.out]at h_ ⊢);(have l1:(⟨#[60]⟩:ByteArray).size=1:=rfl;have l2:(⟨#[64]⟩:ByteArray).size=1:=rfl;have l3:(⟨#[62]⟩:ByteArray).size=1:=rfl;have l4:(⟨#[13,10]⟩:ByteArray).size=2:=rfl;omega))
 have r3_0:(9223372036854775807 < ((⟨#[60]⟩:ByteArray) ++ dg).size+(⟨#[64]⟩:ByteArray).size)=False:=eq_false (by have h_:=S3.out;(try simp only[ZA.out]at h_ ⊢);(have l1:(⟨#[60]⟩:ByteArray).size=1:=rfl;have l2:(⟨#[64]⟩:ByteArray).size=1:=rfl;have l3:(⟨#[62]⟩:ByteArray).size=1:=rfl;have l4:(⟨#[13,10]⟩:ByteArray).size=2:=rfl;omega))
 have q3_1:((⟨#[60]⟩:ByteArray).size+dg.size+(⟨#[64]⟩:ByteArray).size≤9223372036854775807)=True:=eq_true (by have h_:=S3.out;(try simp only[ZA.out]at h_ ⊢);(have l1:(⟨#[60]⟩:ByteArray).size=1:=rfl;have l2:(⟨#[64]⟩:ByteArray).size=1:=rfl;have l3:(⟨#[62]⟩:ByteArray).size=1:=rfl;have l4:(⟨#[13,10]⟩:ByteArray).size=2:=rfl;omega))
 have r3_1:(9223372036854775807 < (⟨#[60]⟩:ByteArray).size+dg.size+(⟨#[64]⟩:ByteArray).size)=False:=eq_false (by have h_:=S3.out;(try simp only[ZA.out]at h_ ⊢);(have l1:(⟨#[60]⟩:ByteArray).size=1:=rfl;have l2:(⟨#[64]⟩:ByteArray).size=1:=rfl;have l3:(⟨#[62]⟩:ByteArray).size=1:=rfl;have l4:(⟨#[13,10]⟩:ByteArray).size=2:=rfl;omega))
 have q3_2:(1+dg.size+1≤9223372036854775807)=True:=eq_true (by have h_:=S3.out;(try simp only[ZA.out]at h_ ⊢);(have l1:(⟨#[60]⟩:ByteArray).size=1:=rfl;have l2:(⟨#[64]⟩:ByteArray).size=1:=rfl;have l3:(⟨#[62]⟩:ByteArray).size=1:=rfl;have l4:(⟨#[13,10]⟩:ByteArray).size=2:=rfl;omega))
 have r3_2:(9223372036854775807 < 1+dg.size+1)=False:=eq_false (by have h_:=S3.out;(try simp only[ZA.out]at h_ ⊢);(have l1:(⟨#[60]⟩:ByteArray).size=1:=rfl;have l2:(⟨#[64]⟩:ByteArray).size=1:=rfl;have l3:(⟨#[62]⟩:ByteArray).size=1:=rfl;have l4:(⟨#[13,10]⟩:ByteArray).size=2:=rfl;omega))
 have S4:Aside0 ((((⟨#[60]⟩:ByteArray) ++ dg) ++ (⟨#[64]⟩:ByteArray)).size+box.size≤9000000000000000):=⟨by(try simp only[ZA.out]);have:=Z.out;have:=Zo1.out;(have l1:(⟨#[60]⟩:ByteArray).size=1:=rfl;have l2:(⟨#[64]⟩:ByteArray).size=1:=rfl;have l3:(⟨#[62]⟩:ByteArray).size=1:=rfl;have l4:(⟨#[13,10]⟩:ByteArray).size=2:=rfl;omega)⟩
 have q4_0:((((⟨#[60]⟩:ByteArray) ++ dg) ++ (⟨#[64]⟩:ByteArray)).size+box.size≤9223372036854775807)=True:=eq_true (by have h_:=S4.out;(try simp only[ZA.out]at h_ ⊢);(have l1:(⟨#[60]⟩:ByteArray).size=1:=rfl;have l2:(⟨#[64]⟩:ByteArray).size=1:=rfl;have l3:(⟨#[62]⟩:ByteArray).size=1:=rfl;have l4:(⟨#[13,10]⟩:ByteArray).size=2:=rfl;omega))
 have r4_0:(9223372036854775807 < (((⟨#[60]⟩:ByteArray) ++ dg) ++ (⟨#[64]⟩:ByteArray)).size+box.size)=False:=eq_false (by have h_:=S4.out;(try simp only[ZA.out]at h_ ⊢);(have l1:(⟨#[60]⟩:ByteArray).size=1:=rfl;have l2:(⟨#[64]⟩:ByteArray).size=1:=rfl;have l3:(⟨#[62]⟩:ByteArray).size=1:=rfl;have l4:(⟨#[13,10]⟩:ByteArray).size=2:=rfl;omega))
 have q4_1:((⟨#[60]⟩:ByteArray).size+dg.size+(⟨#[64]⟩:ByteArray).size+box.size≤9223372036854775807)=True:=eq_true (by have h_:=S4.out;(try simp only[ZA.out]at h_ ⊢);(have l1:(⟨#[60]⟩:ByteArray).size=1:=rfl;have l2:(⟨#[64]⟩:ByteArray).size=1:=rfl;have l3:(⟨#[62]⟩:ByteArray).size=1:=rfl;have l4:(⟨#[13,10]⟩:ByteArray).size=2:=rfl;omega))
 have r4_1:(9223372036854775807 < (⟨#[60]⟩:ByteArray).size+dg.size+(⟨#[64]⟩:ByteArray).size+box.size)=False:=eq_false (by have h_:=S4.out;(try simp only[ZA.out]at h_ ⊢);(have l1:(⟨#[60]⟩:ByteArray).size=1:=rfl;have l2:(⟨#[64]⟩:ByteArray).size=1:=rfl;have l3:(⟨#[62]⟩:ByteArray).size=1:=rfl;have l4:(⟨#[13,10]⟩:ByteArray).size=2:=rfl;omega))
 have q4_2:(1+dg.size+1+box.size≤9223372036854775807)=True:=eq_true (by have h_:=S4.out;(try simp only[ZA.out]at h_ ⊢);(have l1:(⟨#[60]⟩:ByteArray).size=1:=rfl;have l2:(⟨#[64]⟩:ByteArray).size=1:=rfl;have l3:(⟨#[62]⟩:ByteArray).size=1:=rfl;have l4:(⟨#[13,10]⟩:ByteArray).size=2:=rfl;omega))
 have r4_2:(9223372036854775807 < 1+dg.size+1+box.size)=False:=eq_false (by have h_:=S4.out;(try simp only[ZA.out]at h_ ⊢);(have l1:(⟨#[60]⟩:ByteArray).size=1:=rfl;have l2:(⟨#[64]⟩:ByteArray).size=1:=rfl;have l3:(⟨#[62]⟩:ByteArray).size=1:=rfl;have l4:(⟨#[13,10]⟩:ByteArray).size=2:=rfl;omega))
 have S5:Aside0 (((((⟨#[60]⟩:ByteArray) ++ dg) ++ (⟨#[64]⟩:ByteArray)) ++ box).size+(⟨#[62]⟩:ByteArray).size≤9000000000000000):=⟨by(try simp only[ZA.out]);have:=Z.out;have:=Zo1.out;(have l1:(⟨#[60]⟩:ByteArray).size=1:=rfl;have l2:(⟨#[64]⟩:ByteArray).size=1:=rfl;have l3:(⟨#[62]⟩:ByteArray).size=1:=rfl;have l4:(⟨#[13,10]⟩:ByteArray).size=2:=rfl;omega)⟩
 have q5_0:(((((⟨#[60]⟩:ByteArray) ++ dg) ++ (⟨#[64]⟩:ByteArray)) ++ box).size+(⟨#[62]⟩:ByteArray).size≤9223372036854775807)=True:=eq_true (by have h_:=S5.out;(try simp only[ZA.out]at h_ ⊢);(have l1:(⟨#[60]⟩:ByteArray).size=1:=rfl;have l2:(⟨#[64]⟩:ByteArray).size=1:=rfl;have l3:(⟨#[62]⟩:ByteArray).size=1:=rfl;have l4:(⟨#[13,10]⟩:ByteArray).size=2:=rfl;omega))
 have r5_0:(9223372036854775807 < ((((⟨#[60]⟩:ByteArray) ++ dg) ++ (⟨#[64]⟩:ByteArray)) ++ box).size+(⟨#[62]⟩:ByteArray).size)=False:=eq_false (by have h_:=S5.out;(try simp only[ZA.out]at h_ ⊢);(have l1:(⟨#[60]⟩:ByteArray).size=1:=rfl;have l2:(⟨#[64]⟩:ByteArray).size=1:=rfl;have l3:(⟨#[62]⟩:ByteArray).size=1:=rfl;have l4:(⟨#[13,10]⟩:ByteArray).size=2:=rfl;omega))
 have q5_1:((⟨#[60]⟩:ByteArray).size+dg.size+(⟨#[64]⟩:ByteArray).size+box.size+(⟨#[62]⟩:ByteArray).size≤9223372036854775807)=True:=eq_true (by have h_:=S5.out;(try simp only[ZA.out]at h_ ⊢);(have l1:(⟨#[60]⟩:ByteArray).size=1:=rfl;have l2:(⟨#[64]⟩:ByteArray).size=1:=rfl;have l3:(⟨#[62]⟩:ByteArray).size=1:=rfl;have l4:(⟨#[13,10]⟩:ByteArray).size=2:=rfl;omega))
 have r5_1:(9223372036854775807 < (⟨#[60]⟩:ByteArray).size+dg.size+(⟨#[64]⟩:ByteArray).size+box.size+(⟨#[62]⟩:ByteArray).size)=False:=eq_false (by have h_:=S5.out;(try simp only[ZA.out]at h_ ⊢);(have l1:(⟨#[60]⟩:ByteArray).size=1:=rfl;have l2:(⟨#[64]⟩:ByteArray).size=1:=rfl;have l3:(⟨#[62]⟩:ByteArray).size=1:=rfl;have l4:(⟨#[13,10]⟩:ByteArray).size=2:=rfl;omega))
 have q5_2:(1+dg.size+1+box.size+1≤9223372036854775807)=True:=eq_true (by have h_:=S5.out;(try simp only[ZA.out]at h_ ⊢);(have l1:(⟨#[60]⟩:ByteArray).size=1:=rfl;have l2:(⟨#[64]⟩:ByteArray).size=1:=rfl;have l3:(⟨#[62]⟩:ByteArray).size=1:=rfl;have l4:(⟨#[13,10]⟩:ByteArray).size=2:=rfl;omega))
 have r5_2:(9223372036854775807 < 1+dg.size+1+box.size+1)=False:=eq_false (by have h_:=S5.out;(try simp only[ZA.out]at h_ ⊢);(have l1:(⟨#[60]⟩:ByteArray).size=1:=rfl;have l2:(⟨#[64]⟩:ByteArray).size=1:=rfl;have l3:(⟨#[62]⟩:ByteArray).size=1:=rfl;have l4:(⟨#[13,10]⟩:ByteArray).size=2:=rfl;omega))
 have S6:Aside0 (p4.size+p5.size≤9000000000000000):=⟨by(try simp only[ZA.out]);have:=Z.out;have:=Zo1.out;(have l1:(⟨#[60]⟩:ByteArray).size=1:=rfl;have l2:(⟨#[64]⟩:ByteArray).size=1:=rfl;have l3:(⟨#[62]⟩:ByteArray).size=1:=rfl;have l4:(⟨#[13,10]⟩:ByteArray).size=2:=rfl;omega)⟩
 have q6_0:(p4.size+p5.size≤9223372036854775807)=True:=eq_true (by have h_:=S6.out;(try simp only[ZA.out]at h_ ⊢);(have l1:(⟨#[60]⟩:ByteArray).size=1:=rfl;have l2:(⟨#[64]⟩:ByteArray).size=1:=rfl;have l3:(⟨#[62]⟩:ByteArray).size=1:=rfl;have l4:(⟨#[13,10]⟩:ByteArray).size=2:=rfl;omega))
 have r6_0:(9223372036854775807 < p4.size+p5.size)=False:=eq_false (by have h_:=S6.out;(try simp only[ZA.out]at h_ ⊢);(have l1:(⟨#[60]⟩:ByteArray).size=1:=rfl;have l2:(⟨#[64]⟩:ByteArray).size=1:=rfl;have l3:(⟨#[62]⟩:ByteArray).size=1:=rfl;have l4:(⟨#[13,10]⟩:ByteArray).size=2:=rfl;omega))
 have S7:Aside0 ((p4 ++ p5).size+p6.size≤9000000000000000):=⟨by(try simp only[ZA.out]);have:=Z.out;have:=Zo1.out;(have l1:(⟨#[60]⟩:ByteArray).size=1:=rfl;have l2:(⟨#[64]⟩:ByteArray).size=1:=rfl;have l3:(⟨#[62]⟩:ByteArray).size=1:=rfl;have l4:(⟨#[13,10]⟩:ByteArray).size=2:=rfl;omega)⟩
 have q7_0:((p4 ++ p5).size+p6.size≤9223372036854775807)=True:=eq_true (by have h_:=S7.out;(try simp only[ZA.out]at h_ ⊢);(have l1:(⟨#[60]⟩:ByteArray).size=1:=rfl;have l2:(⟨#[64]⟩:ByteArray).size=1:=rfl;have l3:(⟨#[62]⟩:ByteArray).size=1:=rfl;have l4:(⟨#[13,10]⟩:ByteArray).size=2:=rfl;omega))
 have r7_0:(9223372036854775807 < (p4 ++ p5).size+p6.size)=False:=eq_false (by have h_:=S7.out;(try simp only[ZA.out]at h_ ⊢);(have l1:(⟨#[60]⟩:ByteArray).size=1:=rfl;have l2:(⟨#[64]⟩:ByteArray).size=1:=rfl;have l3:(⟨#[62]⟩:ByteArray).size=1:=rfl;have l4:(⟨#[13,10]⟩:ByteArray).size=2:=rfl;omega))
 have q7_1:(p4.size+p5.size+p6.size≤9223372036854775807)=True:=eq_true (by have h_:=S7.out;(try simp only[ZA.out]at h_ ⊢);(have l1:(⟨#[60]⟩:ByteArray).size=1:=rfl;have l2:(⟨#[64]⟩:ByteArray).size=1:=rfl;have l3:(⟨#[62]⟩:ByteArray).size=1:=rfl;have l4:(⟨#[13,10]⟩:ByteArray).size=2:=rfl;omega))
 have r7_1:(9223372036854775807 < p4.size+p5.size+p6.size)=False:=eq_false (by have h_:=S7.out;(try simp only[ZA.out]at h_ ⊢);(have l1:(⟨#[60]⟩:ByteArray).size=1:=rfl;have l2:(⟨#[64]⟩:ByteArray).size=1:=rfl;have l3:(⟨#[62]⟩:ByteArray).size=1:=rfl;have l4:(⟨#[13,10]⟩:ByteArray).size=2:=rfl;omega))
 have S8:Aside0 (o1.size+((p4 ++ p5) ++ p6).size≤9000000000000000):=⟨by(try simp only[ZA.out]);have:=Z.out;have:=Zo1.out;(have l1:(⟨#[60]⟩:ByteArray).size=1:=rfl;have l2:(⟨#[64]⟩:ByteArray).size=1:=rfl;have l3:(⟨#[62]⟩:ByteArray).size=1:=rfl;have l4:(⟨#[13,10]⟩:ByteArray).size=2:=rfl;omega)⟩
 have q8_0:(o1.size+((p4 ++ p5) ++ p6).size≤9223372036854775807)=True:=eq_true (by have h_:=S8.out;(try simp only[ZA.out]at h_ ⊢);(have l1:(⟨#[60]⟩:ByteArray).size=1:=rfl;have l2:(⟨#[64]⟩:ByteArray).size=1:=rfl;have l3:(⟨#[62]⟩:ByteArray).size=1:=rfl;have l4:(⟨#[13,10]⟩:ByteArray).size=2:=rfl;omega))
 have r8_0:(9223372036854775807 < o1.size+((p4 ++ p5) ++ p6).size)=False:=eq_false (by have h_:=S8.out;(try simp only[ZA.out]at h_ ⊢);(have l1:(⟨#[60]⟩:ByteArray).size=1:=rfl;have l2:(⟨#[64]⟩:ByteArray).size=1:=rfl;have l3:(⟨#[62]⟩:ByteArray).size=1:=rfl;have l4:(⟨#[13,10]⟩:ByteArray).size=2:=rfl;omega))
 have q8_1:(o1.size+(p4.size+p5.size+p6.size)≤9223372036854775807)=True:=eq_true (by have h_:=S8.out;(try simp only[ZA.out]at h_ ⊢);(have l1:(⟨#[60]⟩:ByteArray).size=1:=rfl;have l2:(⟨#[64]⟩:ByteArray).size=1:=rfl;have l3:(⟨#[62]⟩:ByteArray).size=1:=rfl;have l4:(⟨#[13,10]⟩:ByteArray).size=2:=rfl;omega))
 have r8_1:(9223372036854775807 < o1.size+(p4.size+p5.size+p6.size))=False:=eq_false (by have h_:=S8.out;(try simp only[ZA.out]at h_ ⊢);(have l1:(⟨#[60]⟩:ByteArray).size=1:=rfl;have l2:(⟨#[64]⟩:ByteArray).size=1:=rfl;have l3:(⟨#[62]⟩:ByteArray).size=1:=rfl;have l4:(⟨#[13,10]⟩:ByteArray).size=2:=rfl;omega))
 go_wp2
 go_region_held (fun w' => w'.cell? ⟨gb,0,none⟩=some (.string id)∧w'.cell? ⟨gb,2,none⟩=some (.string link)) (first|go_keep|exact⟨C0.out _ qBHBw,C2.out _ qBHBw⟩) (first|(go_at_call 67;refine(render_check k id n _ _ _ _ rfl ?hb ?hcap ZI.out E_n.out).mono ?_;(case hb=>first|rfl|simp);(case hcap=>first|exact(by simpa using grownCap_ge _ _ _ _)|exact grownCap_ge _ _ _ _);rintro e w4 ⟨rfl,hd4⟩;have hb4:=hd4.below;have hb2:Below w1.heap.size w1 w4:=(below_step qBHBw hb4);have g0:=C0.out w4 hb2;have g2:=C2.out w4 hb2;clear HBw;have HBw:=qM_ hb2;clear hb4 hb2)|(go_at_call 49;refine(z49_.calls k n dg _ E_dg.out).mono ?_;rintro e w4 ⟨rfl,hb4⟩;have hb2:Below w1.heap.size w1 w4:=(below_step qBHBw hb4);have g0:=C0.out w4 hb2;have g2:=C2.out w4 hb2;clear HBw;have HBw:=qM_ hb2;clear hb4 hb2)|(go_at_call_of 64 (Value.string (⟨#[77,101,115,115,97,103,101,45,73,68]⟩:ByteArray));refine(z64_.calls k _ (((((⟨#[60]⟩:ByteArray) ++ dg) ++ (⟨#[64]⟩:ByteArray)) ++ box) ++ (⟨#[62]⟩:ByteArray)) p4 _ E_p4.out).mono ?_;rintro e w4 ⟨rfl,hb4⟩;have hb2:Below w1.heap.size w1 w4:=(below_step qBHBw hb4);have g0:=C0.out w4 hb2;have g2:=C2.out w4 hb2;clear HBw;have HBw:=qM_ hb2;clear hb4 hb2)|(go_at_call_of 65 (Value.string id);refine(z65_.calls k id a5 _ E_a5.out).mono ?_;rintro e w4 ⟨rfl,hb4⟩;have hb2:Below w1.heap.size w1 w4:=(below_step qBHBw hb4);have g0:=C0.out w4 hb2;have g2:=C2.out w4 hb2;clear HBw;have HBw:=qM_ hb2;clear hb4 hb2)|(go_at_call_of 64 (Value.string (⟨#[88,45,73,100]⟩:ByteArray));refine(z64_.calls k _ a5 p5 _ E_p5.out).mono ?_;rintro e w4 ⟨rfl,hb4⟩;have hb2:Below w1.heap.size w1 w4:=(below_step qBHBw hb4);have g0:=C0.out w4 hb2;have g2:=C2.out w4 hb2;clear HBw;have HBw:=qM_ hb2;clear hb4 hb2)|(go_at_call_of 65 (Value.string link);refine(z65_.calls k link a6 _ E_a6.out).mono ?_;rintro e w4 ⟨rfl,hb4⟩;have hb2:Below w1.heap.size w1 w4:=(below_step qBHBw hb4);have g0:=C0.out w4 hb2;have g2:=C2.out w4 hb2;clear HBw;have HBw:=qM_ hb2;clear hb4 hb2)|(go_at_call_of 64 (Value.string (⟨#[88,45,76,105,110,107]⟩:ByteArray));refine(z64_.calls k _ a6 p6 _ E_p6.out).mono ?_;rintro e w4 ⟨rfl,hb4⟩;have hb2:Below w1.heap.size w1 w4:=(below_step qBHBw hb4);have g0:=C0.out w4 hb2;have g2:=C2.out w4 hb2;clear HBw;have HBw:=qM_ hb2;clear hb4 hb2))
 clear q2_0 r2_0 q2_1 r2_1 q3_0 r3_0 q3_1 r3_1 q3_2 r3_2 q4_0 r4_0 q4_1 r4_1 q4_2 r4_2 q5_0 r5_0 q5_1 r5_1 q5_2 r5_2 q6_0 r6_0 q7_0 r7_0 q7_1 r7_1 q8_0 r8_0 q8_1 r8_1
 obtain⟨o2,ho2⟩:∃ o_:ByteArray,o_=o1 ++ ((p4 ++ p5) ++ p6):=⟨_,rfl⟩
 rw[← ho2]
 have Ho2:=qM_ ho2
 have Zo2:Aside0 (o2.size≤6000000000000):=⟨by rw[ho2];simp only[ZA.out];have:=Z.out;have:=Zo1.out;omega⟩
 clear ho2
 have g5:=C5.out _ HBw.out
 have S9:Aside0 (p7.size+p8.size≤9000000000000000):=⟨by(try simp only[ZA.out]);have:=Z.out;have:=Zo2.out;(have l1:(⟨#[60]⟩:ByteArray).size=1:=rfl;have l2:(⟨#[64]⟩:ByteArray).size=1:=rfl;have l3:(⟨#[62]⟩:ByteArray).size=1:=rfl;have l4:(⟨#[13,10]⟩:ByteArray).size=2:=rfl;omega)⟩
 have q9_0:(p7.size+p8.size≤9223372036854775807)=True:=eq_true (by have h_:=S9.out;(try simp only[ZA.out]at h_ ⊢);(have l1:(⟨#[60]⟩:ByteArray).size=1:=rfl;have l2:(⟨#[64]⟩:ByteArray).size=1:=rfl;have l3:(⟨#[62]⟩:ByteArray).size=1:=rfl;have l4:(⟨#[13,10]⟩:ByteArray).size=2:=rfl;omega))
 have r9_0:(9223372036854775807 < p7.size+p8.size)=False:=eq_false (by have h_:=S9.out;(try simp only[ZA.out]at h_ ⊢);(have l1:(⟨#[60]⟩:ByteArray).size=1:=rfl;have l2:(⟨#[64]⟩:ByteArray).size=1:=rfl;have l3:(⟨#[62]⟩:ByteArray).size=1:=rfl;have l4:(⟨#[13,10]⟩:ByteArray).size=2:=rfl;omega))
 have S10:Aside0 ((p7 ++ p8).size+p9.size≤9000000000000000):=⟨by(try simp only[ZA.out]);have:=Z.out;have:=Zo2.out;(have l1:(⟨#[60]⟩:ByteArray).size=1:=rfl;have l2:(⟨#[64]⟩:ByteArray).size=1:=rfl;have l3:(⟨#[62]⟩:ByteArray).size=1:=rfl;have l4:(⟨#[13,10]⟩:ByteArray).size=2:=rfl;omega)⟩
 have q10_0:((p7 ++ p8).size+p9.size≤9223372036854775807)=True:=eq_true (by have h_:=S10.out;(try simp only[ZA.out]at h_ ⊢);(have l1:(⟨#[60]⟩:ByteArray).size=1:=rfl;have l2:(⟨#[64]⟩:ByteArray).size=1:=rfl;have l3:(⟨#[62]⟩:ByteArray).size=1:=rfl;have l4:(⟨#[13,10]⟩:ByteArray).size=2:=rfl;omega))
 have r10_0:(9223372036854775807 < (p7 ++ p8).size+p9.size)=False:=eq_false (by have h_:=S10.out;(try simp only[ZA.out]at h_ ⊢);(have l1:(⟨#[60]⟩:ByteArray).size=1:=rfl;have l2:(⟨#[64]⟩:ByteArray).size=1:=rfl;have l3:(⟨#[62]⟩:ByteArray).size=1:=rfl;have l4:(⟨#[13,10]⟩:ByteArray).size=2:=rfl;omega))
 have q10_1:(p7.size+p8.size+p9.size≤9223372036854775807)=True:=eq_true (by have h_:=S10.out;(try simp only[ZA.out]at h_ ⊢);(have l1:(⟨#[60]⟩:ByteArray).size=1:=rfl;have l2:(⟨#[64]⟩:ByteArray).size=1:=rfl;have l3:(⟨#[62]⟩:ByteArray).size=1:=rfl;have l4:(⟨#[13,10]⟩:ByteArray).size=2:=rfl;omega))
 have r10_1:(9223372036854775807 < p7.size+p8.size+p9.size)=False:=eq_false (by have h_:=S10.out;(try simp only[ZA.out]at h_ ⊢);(have l1:(⟨#[60]⟩:ByteArray).size=1:=rfl;have l2:(⟨#[64]⟩:ByteArray).size=1:=rfl;have l3:(⟨#[62]⟩:ByteArray).size=1:=rfl;have l4:(⟨#[13,10]⟩:ByteArray).size=2:=rfl;omega))
 have S11:Aside0 (o2.size+((p7 ++ p8) ++ p9).size≤9000000000000000):=⟨by(try simp only[ZA.out]);have:=Z.out;have:=Zo2.out;(have l1:(⟨#[60]⟩:ByteArray).size=1:=rfl;have l2:(⟨#[64]⟩:ByteArray).size=1:=rfl;have l3:(⟨#[62]⟩:ByteArray).size=1:=rfl;have l4:(⟨#[13,10]⟩:ByteArray).size=2:=rfl;omega)⟩
 have q11_0:(o2.size+((p7 ++ p8) ++ p9).size≤9223372036854775807)=True:=eq_true (by have h_:=S11.out;(try simp only[ZA.out]at h_ ⊢);(have l1:(⟨#[60]⟩:ByteArray).size=1:=rfl;have l2:(⟨#[64]⟩:ByteArray).size=1:=rfl;have l3:(⟨#[62]⟩:ByteArray).size=1:=rfl;have l4:(⟨#[13,10]⟩:ByteArray).size=2:=rfl;omega))
 have r11_0:(9223372036854775807 < o2.size+((p7 ++ p8) ++ p9).size)=False:=eq_false (by have h_:=S11.out;(try simp only[ZA.out]at h_ ⊢);(have l1:(⟨#[60]⟩:ByteArray).size=1:=rfl;have l2:(⟨#[64]⟩:ByteArray).size=1:=rfl;have l3:(⟨#[62]⟩:ByteArray).size=1:=rfl;have l4:(⟨#[13,10]⟩:ByteArray).size=2:=rfl;omega))
 have q11_1:(o2.size+(p7.size+p8.size+p9.size)≤9223372036854775807)=True:=eq_true (by have h_:=S11.out;(try simp only[ZA.out]at h_ ⊢);(have l1:(⟨#[60]⟩:ByteArray).size=1:=rfl;have l2:(⟨#[64]⟩:ByteArray).size=1:=rfl;have l3:(⟨#[62]⟩:ByteArray).size=1:=rfl;have l4:(⟨#[13,10]⟩:ByteArray).size=2:=rfl;omega))
 have r11_1:(9223372036854775807 < o2.size+(p7.size+p8.size+p9.size))=False:=eq_false (by have h_:=S11.out;(try simp only[ZA.out]at h_ ⊢);(have l1:(⟨#[60]⟩:ByteArray).size=1:=rfl;have l2:(⟨#[64]⟩:ByteArray).size=1:=rfl;have l3:(⟨#[62]⟩:ByteArray).size=1:=rfl;have l4:(⟨#[13,10]⟩:ByteArray).size=2:=rfl;omega))
 have S12:Aside0 ((o2 ++ ((p7 ++ p8) ++ p9)).size+(⟨#[13,10]⟩:ByteArray).size≤9000000000000000):=⟨by(try simp only[ZA.out]);have:=Z.out;have:=Zo2.out;(have l1:(⟨#[60]⟩:ByteArray).size=1:=rfl;have l2:(⟨#[64]⟩:ByteArray).size=1:=rfl;have l3:(⟨#[62]⟩:ByteArray).size=1:=rfl;have l4:(⟨#[13,10]⟩:ByteArray).size=2:=rfl;omega)⟩
 have q12_0:((o2 ++ ((p7 ++ p8) ++ p9)).size+(⟨#[13,10]⟩:ByteArray).size≤9223372036854775807)=True:=eq_true (by have h_:=S12.out;(try simp only[ZA.out]at h_ ⊢);(have l1:(⟨#[60]⟩:ByteArray).size=1:=rfl;have l2:(⟨#[64]⟩:ByteArray).size=1:=rfl;have l3:(⟨#[62]⟩:ByteArray).size=1:=rfl;have l4:(⟨#[13,10]⟩:ByteArray).size=2:=rfl;omega))
 have r12_0:(9223372036854775807 < (o2 ++ ((p7 ++ p8) ++ p9)).size+(⟨#[13,10]⟩:ByteArray).size)=False:=eq_false (by have h_:=S12.out;(try simp only[ZA.out]at h_ ⊢);(have l1:(⟨#[60]⟩:ByteArray).size=1:=rfl;have l2:(⟨#[64]⟩:ByteArray).size=1:=rfl;have l3:(⟨#[62]⟩:ByteArray).size=1:=rfl;have l4:(⟨#[13,10]⟩:ByteArray).size=2:=rfl;omega))
 have q12_1:(o2.size+(p7.size+p8.size+p9.size)+(⟨#[13,10]⟩:ByteArray).size≤9223372036854775807)=True:=eq_true (by have h_:=S12.out;(try simp only[ZA.out]at h_ ⊢);(have l1:(⟨#[60]⟩:ByteArray).size=1:=rfl;have l2:(⟨#[64]⟩:ByteArray).size=1:=rfl;have l3:(⟨#[62]⟩:ByteArray).size=1:=rfl;have l4:(⟨#[13,10]⟩:ByteArray).size=2:=rfl;omega))
 have r12_1:(9223372036854775807 < o2.size+(p7.size+p8.size+p9.size)+(⟨#[13,10]⟩:ByteArray).size)=False:=eq_false (by have h_:=S12.out;(try simp only[ZA.out]at h_ ⊢);(have l1:(⟨#[60]⟩:ByteArray).size=1:=rfl;have l2:(⟨#[64]⟩:ByteArray).size=1:=rfl;have l3:(⟨#[62]⟩:ByteArray).size=1:=rfl;have l4:(⟨#[13,10]⟩:ByteArray).size=2:=rfl;omega))
 have q12_2:(o2.size+(p7.size+p8.size+p9.size)+2≤9223372036854775807)=True:=eq_true (by have h_:=S12.out;(try simp only[ZA.out]at h_ ⊢);(have l1:(⟨#[60]⟩:ByteArray).size=1:=rfl;have l2:(⟨#[64]⟩:ByteArray).size=1:=rfl;have l3:(⟨#[62]⟩:ByteArray).size=1:=rfl;have l4:(⟨#[13,10]⟩:ByteArray).size=2:=rfl;omega))
 have r12_2:(9223372036854775807 < o2.size+(p7.size+p8.size+p9.size)+2)=False:=eq_false (by have h_:=S12.out;(try simp only[ZA.out]at h_ ⊢);(have l1:(⟨#[60]⟩:ByteArray).size=1:=rfl;have l2:(⟨#[64]⟩:ByteArray).size=1:=rfl;have l3:(⟨#[62]⟩:ByteArray).size=1:=rfl;have l4:(⟨#[13,10]⟩:ByteArray).size=2:=rfl;omega))
 have S13:Aside0 (((o2 ++ ((p7 ++ p8) ++ p9)) ++ (⟨#[13,10]⟩:ByteArray)).size+q.size≤9000000000000000):=⟨by(try simp only[ZA.out]);have:=Z.out;have:=Zo2.out;(have l1:(⟨#[60]⟩:ByteArray).size=1:=rfl;have l2:(⟨#[64]⟩:ByteArray).size=1:=rfl;have l3:(⟨#[62]⟩:ByteArray).size=1:=rfl;have l4:(⟨#[13,10]⟩:ByteArray).size=2:=rfl;omega)⟩
 have q13_0:(((o2 ++ ((p7 ++ p8) ++ p9)) ++ (⟨#[13,10]⟩:ByteArray)).size+q.size≤9223372036854775807)=True:=eq_true (by have h_:=S13.out;(try simp only[ZA.out]at h_ ⊢);(have l1:(⟨#[60]⟩:ByteArray).size=1:=rfl;have l2:(⟨#[64]⟩:ByteArray).size=1:=rfl;have l3:(⟨#[62]⟩:ByteArray).size=1:=rfl;have l4:(⟨#[13,10]⟩:ByteArray).size=2:=rfl;omega))
 have r13_0:(9223372036854775807 < ((o2 ++ ((p7 ++ p8) ++ p9)) ++ (⟨#[13,10]⟩:ByteArray)).size+q.size)=False:=eq_false (by have h_:=S13.out;(try simp only[ZA.out]at h_ ⊢);(have l1:(⟨#[60]⟩:ByteArray).size=1:=rfl;have l2:(⟨#[64]⟩:ByteArray).size=1:=rfl;have l3:(⟨#[62]⟩:ByteArray).size=1:=rfl;have l4:(⟨#[13,10]⟩:ByteArray).size=2:=rfl;omega))
 have q13_1:(o2.size+(p7.size+p8.size+p9.size)+(⟨#[13,10]⟩:ByteArray).size+q.size≤9223372036854775807)=True:=eq_true (by have h_:=S13.out;(try simp only[ZA.out]at h_ ⊢);(have l1:(⟨#[60]⟩:ByteArray).size=1:=rfl;have l2:(⟨#[64]⟩:ByteArray).size=1:=rfl;have l3:(⟨#[62]⟩:ByteArray).size=1:=rfl;have l4:(⟨#[13,10]⟩:ByteArray).size=2:=rfl;omega))
 have r13_1:(9223372036854775807 < o2.size+(p7.size+p8.size+p9.size)+(⟨#[13,10]⟩:ByteArray).size+q.size)=False:=eq_false (by have h_:=S13.out;(try simp only[ZA.out]at h_ ⊢);(have l1:(⟨#[60]⟩:ByteArray).size=1:=rfl;have l2:(⟨#[64]⟩:ByteArray).size=1:=rfl;have l3:(⟨#[62]⟩:ByteArray).size=1:=rfl;have l4:(⟨#[13,10]⟩:ByteArray).size=2:=rfl;omega))
 have q13_2:(o2.size+(p7.size+p8.size+p9.size)+2+q.size≤9223372036854775807)=True:=eq_true (by have h_:=S13.out;(try simp only[ZA.out]at h_ ⊢);(have l1:(⟨#[60]⟩:ByteArray).size=1:=rfl;have l2:(⟨#[64]⟩:ByteArray).size=1:=rfl;have l3:(⟨#[62]⟩:ByteArray).size=1:=rfl;have l4:(⟨#[13,10]⟩:ByteArray).size=2:=rfl;omega))
 have r13_2:(9223372036854775807 < o2.size+(p7.size+p8.size+p9.size)+2+q.size)=False:=eq_false (by have h_:=S13.out;(try simp only[ZA.out]at h_ ⊢);(have l1:(⟨#[60]⟩:ByteArray).size=1:=rfl;have l2:(⟨#[64]⟩:ByteArray).size=1:=rfl;have l3:(⟨#[62]⟩:ByteArray).size=1:=rfl;have l4:(⟨#[13,10]⟩:ByteArray).size=2:=rfl;omega))
 have S14:Aside0 ((((o2 ++ ((p7 ++ p8) ++ p9)) ++ (⟨#[13,10]⟩:ByteArray)) ++ q).size+(⟨#[13,10]⟩:ByteArray).size≤9000000000000000):=⟨by(try simp only[ZA.out]);have:=Z.out;have:=Zo2.out;(have l1:(⟨#[60]⟩:ByteArray).size=1:=rfl;have l2:(⟨#[64]⟩:ByteArray).size=1:=rfl;have l3:(⟨#[62]⟩:ByteArray).size=1:=rfl;have l4:(⟨#[13,10]⟩:ByteArray).size=2:=rfl;omega)⟩
 have q14_0:((((o2 ++ ((p7 ++ p8) ++ p9)) ++ (⟨#[13,10]⟩:ByteArray)) ++ q).size+(⟨#[13,10]⟩:ByteArray).size≤9223372036854775807)=True:=eq_true (by have h_:=S14.out;(try simp only[ZA.out]at h_ ⊢);(have l1:(⟨#[60]⟩:ByteArray).size=1:=rfl;have l2:(⟨#[64]⟩:ByteArray).size=1:=rfl;have l3:(⟨#[62]⟩:ByteArray).size=1:=rfl;have l4:(⟨#[13,10]⟩:ByteArray).size=2:=rfl;omega))
 have r14_0:(9223372036854775807 < (((o2 ++ ((p7 ++ p8) ++ p9)) ++ (⟨#[13,10]⟩:ByteArray)) ++ q).size+(⟨#[13,10]⟩:ByteArray).size)=False:=eq_false (by have h_:=S14.out;(try simp only[ZA.out]at h_ ⊢);(have l1:(⟨#[60]⟩:ByteArray).size=1:=rfl;have l2:(⟨#[64]⟩:ByteArray).size=1:=rfl;have l3:(⟨#[62]⟩:ByteArray).size=1:=rfl;have l4:(⟨#[13,10]⟩:ByteArray).size=2:=rfl;omega))
 have q14_1:(o2.size+(p7.size+p8.size+p9.size)+(⟨#[13,10]⟩:ByteArray).size+q.size+(⟨#[13,10]⟩:ByteArray).size≤9223372036854775807)=True:=eq_true (by have h_:=S14.out;(try simp only[ZA.out]at h_ ⊢);(have l1:(⟨#[60]⟩:ByteArray).size=1:=rfl;have l2:(⟨#[64]⟩:ByteArray).size=1:=rfl;have l3:(⟨#[62]⟩:ByteArray).size=1:=rfl;have l4:(⟨#[13,10]⟩:ByteArray).size=2:=rfl;omega))
 have r14_1:(9223372036854775807 < o2.size+(p7.size+p8.size+p9.size)+(⟨#[13,10]⟩:ByteArray).size+q.size+(⟨#[13,10]⟩:ByteArray).size)=False:=eq_false (by have h_:=S14.out;(try simp only[ZA.out]at h_ ⊢);(have l1:(⟨#[60]⟩:ByteArray).size=1:=rfl;have l2:(⟨#[64]⟩:ByteArray).size=1:=rfl;have l3:(⟨#[62]⟩:ByteArray).size=1:=rfl;have l4:(⟨#[13,10]⟩:ByteArray).size=2:=rfl;omega))
 have q14_2:(o2.size+(p7.size+p8.size+p9.size)+2+q.size+2≤9223372036854775807)=True:=eq_true (by have h_:=S14.out;(try simp only[ZA.out]at h_ ⊢);(have l1:(⟨#[60]⟩:ByteArray).size=1:=rfl;have l2:(⟨#[64]⟩:ByteArray).size=1:=rfl;have l3:(⟨#[62]⟩:ByteArray).size=1:=rfl;have l4:(⟨#[13,10]⟩:ByteArray).size=2:=rfl;omega))
 have r14_2:(9223372036854775807 < o2.size+(p7.size+p8.size+p9.size)+2+q.size+2)=False:=eq_false (by have h_:=S14.out;(try simp only[ZA.out]at h_ ⊢);(have l1:(⟨#[60]⟩:ByteArray).size=1:=rfl;have l2:(⟨#[64]⟩:ByteArray).size=1:=rfl;have l3:(⟨#[62]⟩:ByteArray).size=1:=rfl;have l4:(⟨#[13,10]⟩:ByteArray).size=2:=rfl;omega))
 go_wp2_with (first|(go_at_call_of 64 (Value.string (⟨#[77,73,77,69,45,86,101,114,115,105,111,110]⟩:ByteArray));refine(z64_.calls k _ (⟨#[49,46,48]⟩:ByteArray) p7 _ E_p7.out).mono ?_;rintro e w4 ⟨rfl,hb4⟩;have hb2:Below w1.heap.size w1 w4:=(below_step qBHBw hb4);have g5:=C5.out w4 hb2;clear HBw;have HBw:=qM_ hb2;clear hb4 hb2)|(go_at_call_of 64 (Value.string (⟨#[67,111,110,116,101,110,116,45,84,121,112,101]⟩:ByteArray));refine(z64_.calls k _ (⟨#[116,101,120,116,47,112,108,97,105,110,59,32,99,104,97,114,115,101,116,61,117,116,102,45,56]⟩:ByteArray) p8 _ E_p8.out).mono ?_;rintro e w4 ⟨rfl,hb4⟩;have hb2:Below w1.heap.size w1 w4:=(below_step qBHBw hb4);have g5:=C5.out w4 hb2;clear HBw;have HBw:=qM_ hb2;clear hb4 hb2)|(go_at_call_of 64 (Value.string (⟨#[67,111,110,116,101,110,116,45,84,114,97,110,115,102,101,114,45,69,110,99,111,100,105,110,103]⟩:ByteArray));refine(z64_.calls k _ (⟨#[113,117,111,116,101,100,45,112,114,105,110,116,97,98,108,101]⟩:ByteArray) p9 _ E_p9.out).mono ?_;rintro e w4 ⟨rfl,hb4⟩;have hb2:Below w1.heap.size w1 w4:=(below_step qBHBw hb4);have g5:=C5.out w4 hb2;clear HBw;have HBw:=qM_ hb2;clear hb4 hb2)|(go_at_call 69;refine(z69_.calls k content cr _ E_cr.out).mono ?_;rintro e w4 ⟨v0,rfl,ho,hb4⟩;obtain⟨A0,c0,rfl,hle0,hC0⟩:=Kd.R_reads ho;have hb2:Below w1.heap.size w1 w4:=(below_step qBHBw hb4);clear HBw;have HBw:=qM_ hb2;have HCC:=qM_ hC0;have HCL:=qM_ hle0;clear hb4 hb2 ho hC0 hle0)|(go_at_call 68;refine(z68_.calls k _ _ cr q _ ?hqc HCL.out E_q.out).mono ?_;(case hqc=>repeat(first|exact HCC.out|refine Kd.C_drewN ?_ _|refine Kd.C_drew ?_|refine Kd.C_alloc ?_ _));rintro e w4 ⟨rfl,hb4⟩;have hb2:Below w1.heap.size w1 w4:=(below_step qBHBw hb4);clear HBw;have HBw:=qM_ hb2;clear hb4 hb2))
 clear q9_0 r9_0 q10_0 r10_0 q10_1 r10_1 q11_0 r11_0 q11_1 r11_1 q12_0 r12_0 q12_1 r12_1 q12_2 r12_2 q13_0 r13_0 q13_1 r13_1 q13_2 r13_2 q14_0 r14_0 q14_1 r14_1 q14_2 r14_2
 go_ret
 exact⟨by rw[Ho2.out,Ho1.out];rfl,below_step HB1.out qBHBw⟩
theorem z50_.calls (k:Nat) (id title link author:ByteArray) (date:Int) (content box:ByteArray) (r:ByteArray) (w:World) (h:z50_.f k id title link author date content box=some r) :
  Calls Try.prog 50 #[.agg #[.string id,.string title,.string link,.string author,.int .i64 date,.string content],.string box] w fun e w' => e= .returned (.string r)∧Below w.heap.size w w' := by
 unfold z50_.f at h
 obtain⟨a1,E_a1,h⟩:=Option.bind_eq_some_iff.1 h
 obtain⟨p1,E_p1,h⟩:=Option.bind_eq_some_iff.1 h
 obtain⟨a2,E_a2,h⟩:=Option.bind_eq_some_iff.1 h
 obtain⟨p2,E_p2,h⟩:=Option.bind_eq_some_iff.1 h
 obtain⟨a3,E_a3,h⟩:=Option.bind_eq_some_iff.1 h
 obtain⟨p3,E_p3,h⟩:=Option.bind_eq_some_iff.1 h
 obtain⟨n,E_n,h⟩:=Option.bind_eq_some_iff.1 h
 obtain⟨dg,E_dg,h⟩:=Option.bind_eq_some_iff.1 h
 obtain⟨p4,E_p4,h⟩:=Option.bind_eq_some_iff.1 h
 obtain⟨a5,E_a5,h⟩:=Option.bind_eq_some_iff.1 h
 obtain⟨p5,E_p5,h⟩:=Option.bind_eq_some_iff.1 h
 obtain⟨a6,E_a6,h⟩:=Option.bind_eq_some_iff.1 h
 obtain⟨p6,E_p6,h⟩:=Option.bind_eq_some_iff.1 h
 obtain⟨p7,E_p7,h⟩:=Option.bind_eq_some_iff.1 h
 obtain⟨p8,E_p8,h⟩:=Option.bind_eq_some_iff.1 h
 obtain⟨p9,E_p9,h⟩:=Option.bind_eq_some_iff.1 h
 obtain⟨cr,E_cr,h⟩:=Option.bind_eq_some_iff.1 h
 obtain⟨q,E_q,h⟩:=Option.bind_eq_some_iff.1 h
 split at h
 ·rename_i hz
  obtain rfl:=Option.some.inj h;exact render_walk k id title link author date content box a1 p1 a2 p2 a3 p3 dg p4 a5 p5 a6 p6 p7 p8 p9 q n cr w ⟨E_a1⟩ ⟨E_p1⟩ ⟨E_a2⟩ ⟨E_p2⟩ ⟨E_a3⟩ ⟨E_p3⟩ ⟨E_n⟩ ⟨E_dg⟩ ⟨E_p4⟩ ⟨E_a5⟩ ⟨E_p5⟩ ⟨E_a6⟩ ⟨E_p6⟩ ⟨E_p7⟩ ⟨E_p8⟩ ⟨E_p9⟩ ⟨E_cr⟩ ⟨E_q⟩ ⟨hz⟩
 ·cases h

end Go.Proofs.Ytbjefkeogbophaa.P
