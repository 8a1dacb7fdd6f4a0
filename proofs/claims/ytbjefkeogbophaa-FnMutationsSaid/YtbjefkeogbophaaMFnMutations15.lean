/- Part 15 of what the law FnMutations stands on; the last part ends with the law's row. No condition of mine. -/
import Derived.Test.YtbjefkeogbophaaMFnMutations1
import Derived.Test.YtbjefkeogbophaaMFnMutations14
import Derived.Deep.RegionHeld3
import Derived.Deep.DrawnRows
import Derived.Shelf.Strings.Builder1
import Derived.Test.YtbjefkeogbophaaMFnMutations10
namespace Go.Proofs.Ytbjefkeogbophaa.P
open Go.RowKit Go.Proofs.YtbjefkeogbophaaW.PrintWords Go.Proofs.YtbjefkeogbophaaW.PrintLast Go.Proofs.YtbjefkeogbophaaW.PrintMore
attribute [local go_sem] max2_int min2_int max_two min_two max_three min_three max_four min_four   -- for this text's walks alone
set_option linter.unusedVariables false
set_option linter.unusedSimpArgs false

/-! ### z23_: function 23 (a text of mine) -/
def hbM (n:Int):UInt8:=UInt8.ofNat (n % 256).toNat
def b2M (n:Int):ByteArray:=strOfNums [n / 256 % 256,n % 256]
def itemM (x:S54):ByteArray:=((b2M x.f0.size ++ b2M x.f1.size) ++ x.f0) ++ x.f1
def totM (kind uid mode flags:Int) (box:ByteArray) (l:List S54):List UInt8:=([hbM kind,hbM mode,hbM flags,hbM l.length,hbM box.size] ++ (b2M uid ++ box).data.toList) ++ l.flatMap fun x=>(itemM x).data.toList
def condM (uid:Int) (box:ByteArray) (l:List S54):Prop:=(0≤uid∧uid≤1000000)∧l.length≤1000∧box.size≤1000000∧(l.all fun x=>decide (x.f0.size≤1000000) && decide (x.f1.size≤1000000))=true
theorem condM_at {uid:Int} {box:ByteArray} {l:List S54} (h:condM uid box l):∀ x ∈ l,x.f0.size≤1000000∧x.f1.size≤1000000:=fun x hx=>by
 have:=List.all_eq_true.1 h.2.2.2 x hx
 simpa using this
instance condM_dec (uid:Int) (box:ByteArray) (l:List S54):Decidable (condM uid box l):=by unfold condM;infer_instance
def z23_.f (a0_0 a0_1 a0_2 a0_3:Int) (a0_4:ByteArray) (l0_5:List S54):Option ByteArray:=if condM a0_1 a0_4 l0_5 then some ⟨(totM a0_0 a0_1 a0_2 a0_3 a0_4 l0_5).toArray⟩else none
theorem hbM_val (n:Int):((hbM n).toNat:Int)=n % 256:=by
 unfold hbM
 rw[UInt8.toNat_ofNat']
 omega
theorem cells_snoc (hd:List UInt8) (j:Nat) (v:Int) (h:hd[j]? = some (hbM v)):Lib.byteCells (hd.take j) ++ [.int .u8 (v % 256)]=Lib.byteCells (hd.take (j+1)):=by
 rw[List.take_add_one,h]
 simp[Lib.byteCells,hbM_val]
theorem cells_len (hd:List UInt8) (j:Nat) (h:hd.length=5):(Lib.byteCells (hd.take j)).length+1≤140737488355328:=by
 simp[Lib.byteCells]
 omega
theorem inB2 (n:Int) (h:0≤n):z42_.f 4 n 2=some (b2M n):=by
 obtain⟨m,rfl⟩:∃ m:Nat,n=(m:Int):=⟨n.toNat,(Int.toNat_of_nonneg h).symm⟩
 simp[z42_.f,z42_.l0,wrap64,List.replicate,b2M]
theorem bSet {B b:Nat} {bs:List Value} {w:World} (h:Lib.IsBuilder 65 5 B b bs w) {g t:Nat} {c:Array Value} (hg:w.heap[g]? = some (.cells c t (0,0))) (ht:t≠5) (hne:b≠g) (j:Nat) (v:Value):Lib.IsBuilder 65 5 B b bs (w.setCell ⟨g,j,none⟩ v):=by
 have go:∀ p,Lib.BuilderAt 65 5 B b p bs w→Lib.BuilderAt 65 5 B b p bs (w.setCell ⟨g,j,none⟩ v):=by
  rintro p ⟨hB,u,hk,hown,hn⟩
  refine⟨hB,u,(heap_setCell_other w ⟨g,j,none⟩ b v hne).trans hk,⟨hown.1,?_⟩,hn⟩
  rcases hown.2 with h0|⟨g', cap,cur,e,h1,h2,h3⟩
  ·exact .inl h0
  ·refine .inr ⟨g', cap,cur,e,h1,(heap_setCell_other w ⟨g,j,none⟩ g' v ?_).trans h2,h3⟩
   intro e2
   have e3:g' = g:=e2;rw[e3,hg]at h2
   injection h2 with h2
   injection h2 with _ h2
   exact ht h2
 exact h.imp (go _) (go _)
theorem cells_str (l:List UInt8) (s:ByteArray):Lib.byteCells l ++ Lib.strCells s=Lib.byteCells (l ++ s.data.toList):=by
 simp[Lib.byteCells,Lib.strCells]
def totX (hd:List UInt8) (uid:Int) (box:ByteArray) (l:List S54) (x:Nat):List UInt8:=(hd ++ (b2M uid ++ box).data.toList) ++ (l.take x).flatMap fun y=>(itemM y).data.toList
theorem totX_zero (hd:List UInt8) (uid:Int) (box:ByteArray) (l:List S54):totX hd uid box l 0=hd ++ (b2M uid ++ box).data.toList:=by simp[totX]
theorem totX_succ (hd:List UInt8) (uid:Int) (box:ByteArray) (l:List S54) (x:Nat) (y:S54) (h:l[x]? = some y):totX hd uid box l (x+1)=totX hd uid box l x ++ (itemM y).data.toList:=by
 unfold totX
 rw[List.take_add_one,h]
 simp
theorem totX_end (kind uid mode flags:Int) (box:ByteArray) (l:List S54):totX [hbM kind,hbM mode,hbM flags,hbM l.length,hbM box.size] uid box l l.length=totM kind uid mode flags box l:=by
 unfold totX totM
 rw[List.take_length]
theorem item_len (x:S54) (h:x.f0.size≤1000000∧x.f1.size≤1000000):(itemM x).data.toList.length≤2000004:=by
 unfold itemM
 have e:∀ n,(b2M n).size=2:=fun _=>rfl
 have ht:∀ y:ByteArray,y.data.toList.length=y.size:=fun _=>rfl
 rw[ht]
 simp only[ByteArray.size_append,e]
 omega
theorem flat_len (l:List S54) (h:∀ x ∈ l,x.f0.size≤1000000∧x.f1.size≤1000000):(l.flatMap fun y=>(itemM y).data.toList).length≤2000004*l.length:=by
 induction l with
 | nil=>simp
 | cons x xs ih =>
  have h1:=item_len x (h x (by simp));have h2:=ih (fun y hy=>h y (by simp[hy]));simp only[List.flatMap_cons,List.length_append,List.length_cons]
  omega
theorem totX_len (hd:List UInt8) (uid:Int) (box:ByteArray) (l:List S54) (x:Nat) (h5:hd.length=5) (h:condM uid box l):(totX hd uid box l x).length≤3000000000:=by
 unfold totX
 have h1:=flat_len (l.take x) (fun y hy=>condM_at h y (List.mem_of_mem_take hy))
 have h2:(l.take x).length≤1000:=by rw[List.length_take];have:=h.2.1;omega
 have e:∀ n,(b2M n).size=2:=fun _=>rfl
 have ht:∀ y:ByteArray,y.data.toList.length=y.size:=fun _=>rfl
 have h3:=h.2.2.1
 simp only[List.length_append,ht,ByteArray.size_append,e,h5]
 omega
set_option maxHeartbeats 8000000 in
set_option maxRecDepth 100000 in
theorem mutB (a0_0:Int) (a0_1:Int) (a0_2:Int) (a0_3:Int) (a0_4:ByteArray) (A0_5:Option Addr) (c0_5:Nat) (l0_5:List (S54)) (w:World) (hr0_5:Kd.C k54 w A0_5 l0_5.length l0_5) (hc0_5:l0_5.length≤c0_5) (h:condM a0_1 a0_4 l0_5) :
  Calls Try.prog 23 #[.agg #[.int .i64 a0_0,.int .i64 a0_1,.int .i64 a0_2,.int .i64 a0_3,.string a0_4,.slice A0_5 l0_5.length c0_5]] w fun e w' => e= .returned (.string ⟨(totM a0_0 a0_1 a0_2 a0_3 a0_4 l0_5).toArray⟩)∧Below w.heap.size w w' := by
 have huM:=Try.underlying31
 have huB:=Try.underlying65
 have huI:=Try.underlying54
 have HR:=qM_ hr0_5
 have HC:=qM_ hc0_5
 have HH:=qM_ h
 clear hr0_5 hc0_5 h
 have HB:=qM_ (Below.refl w.heap.size w)
 go_enter Try.func23,Try.ntmps23
 go_wp2_with (first|((with_reducible refine gate_dst (N:=1) rfl ?_);refine box_event ?hg (N:=1) ?hd (cs:=#[.int .i64 a0_0,.int .i64 a0_1,.int .i64 a0_2,.int .i64 a0_3,.string a0_4,.slice A0_5 l0_5.length c0_5]) (t:=31) ?hr ?_;(case hd=>rfl);(case hg=>rfl);(case hr=>first|(go_simp;done)|(go_simp;rfl));intro gb hg w1 hbox hb;have HB1:=qM_ (below_step HB.out hb);have BK:=qM_ hbox;have GE:=qM_ ((by rw[hg];exact Nat.le_refl _:w.heap.size≤gb));have h0c:w1.cell? ⟨gb,0,none⟩=some (.int .i64 a0_0):=(qC_ BK.out 0).trans rfl;have h1c:w1.cell? ⟨gb,1,none⟩=some (.int .i64 a0_1):=(qC_ BK.out 1).trans rfl;have h2c:w1.cell? ⟨gb,2,none⟩=some (.int .i64 a0_2):=(qC_ BK.out 2).trans rfl;have h3c:w1.cell? ⟨gb,3,none⟩=some (.int .i64 a0_3):=(qC_ BK.out 3).trans rfl;have h4c:w1.cell? ⟨gb,4,none⟩=some (.string a0_4):=(qC_ BK.out 4).trans rfl;have h5c:w1.cell? ⟨gb,5,none⟩=some (.slice A0_5 l0_5.length c0_5):=(qC_ BK.out 5).trans rfl;clear hb hbox hg)|((with_reducible refine gate_dst (N:=3) rfl ?_);refine box_event ?hg (N:=3) ?hd (cs:=#[.pointer none,.slice none 0 0]) (t:=65) ?hr ?_;(case hd=>rfl);(case hg=>rfl);(case hr=>first|(go_simp;done)|(go_simp;rfl));intro bb hg2 w2 hbox2 hb2;have HB2:=qM_ (below_step HB1.out hb2);have BB:=qM_ hbox2;have BK2:=qM_ (blk_below (g:=gb) (o:= .cells #[.int .i64 a0_0,.int .i64 a0_1,.int .i64 a0_2,.int .i64 a0_3,.string a0_4,.slice A0_5 l0_5.length c0_5] 31 (0,0)) BK.out hb2);have GB:=qM_ ((by rw[hg2];exact HB1.out.size:w.heap.size≤bb));have NB:=qM_ ((by rw[hg2];exact Nat.ne_of_lt (blk_lt (g:=gb) (o:= .cells #[.int .i64 a0_0,.int .i64 a0_1,.int .i64 a0_2,.int .i64 a0_3,.string a0_4,.slice A0_5 l0_5.length c0_5] 31 (0,0)) BK.out):gb≠bb));have nb0:=NB.out;have nb1:=Ne.symm nb0;have k0:w2.cell? ⟨bb,0,none⟩=some (.pointer none):=(qC_ BB.out 0).trans rfl;have k1:w2.cell? ⟨bb,1,none⟩=some (.slice none 0 0):=(qC_ BB.out 1).trans rfl;have f0:=qF_ BB.out 0;have f1:=qF_ BB.out 1;clear h0c h1c h2c h3c h4c h5c;have h0c:w2.cell? ⟨gb,0,none⟩=some (.int .i64 a0_0):=(qC_ BK2.out 0).trans rfl;have h2c:w2.cell? ⟨gb,2,none⟩=some (.int .i64 a0_2):=(qC_ BK2.out 2).trans rfl;have h3c:w2.cell? ⟨gb,3,none⟩=some (.int .i64 a0_3):=(qC_ BK2.out 3).trans rfl;have h4c:w2.cell? ⟨gb,4,none⟩=some (.string a0_4):=(qC_ BK2.out 4).trans rfl;have h5c:w2.cell? ⟨gb,5,none⟩=some (.slice A0_5 l0_5.length c0_5):=(qC_ BK2.out 5).trans rfl;clear hb2 hbox2 hg2))
 obtain⟨hd,hhd⟩:∃ hd:List UInt8,hd=[hbM a0_0,hbM a0_2,hbM a0_3,hbM l0_5.length,hbM a0_4.size]:=⟨_,rfl⟩
 have HD:=qM_ hhd
 clear hhd nb0 nb1 k0 k1 f0 f1 h0c h2c h3c h4c h5c
 go_loopg [5,23] 5 (fun gg s5 s23 wr=>∃ x:Nat,s23= .int .i64 (x:Int)∧Aside0 (x≤5∧5 - x≤gg)∧Aside0 (Lib.IsBuilder 65 5 w.heap.size bb (Lib.byteCells (hd.take x)) wr)∧Aside0 (wr.heap[gb]? = some (.cells #[.int .i64 a0_0,.int .i64 a0_1,.int .i64 a0_2,.int .i64 a0_3,.string a0_4,.slice A0_5 l0_5.length c0_5] 31 (0,0)))∧Aside0 (wr.heap[w2.heap.size]? = some (.cells #[.int .i64 a0_0,.int .i64 a0_2,.int .i64 a0_3,.int .i64 (l0_5.length:Int),.int .i64 (a0_4.size:Int)] 3 (0,0)))∧Aside0 (Below w.heap.size w wr)∧Aside0 (w2.heap.size≠bb))
 case atStart =>
  have hs:((w2.setCell ⟨bb,0,none⟩ (.pointer none)).setCell ⟨bb,1,none⟩ (.slice none 0 0)).heap.size=w2.heap.size:=by simp
  refine⟨0,rfl,⟨by omega,by omega⟩,⟨bNew GB.out ?_⟩,⟨?_⟩,⟨?_⟩,⟨?_⟩,⟨?_⟩⟩
  ·refine blk_alloc ?_ _
   refine blk_put (cs:=#[.pointer none,.slice none 0 0]) ?_ 1 _ rfl;refine blk_put (cs:=#[.pointer none,.slice none 0 0]) ?_ 0 _ rfl;exact BB.out
  ·refine blk_alloc ?_ _
   refine blk_far ?_ NB.out _;refine blk_far ?_ NB.out _;exact BK2.out
  ·have e:∀(W:World) (o:Obj) (n:Nat),W.heap.size=n→(W.alloc o).heap[n]? = some o:=fun W o n h=>by subst h;exact Array.getElem?_push_size
   exact e _ _ _ hs
  ·apply qA_
   refine below_set ?_ GB.out;refine below_set ?_ GB.out;exact HB2.out
  ·exact Nat.ne_of_gt (blk_lt BB.out)
 case round =>
  obtain⟨x,rfl,HX,HI,HG,HRb,HBr,HNr⟩:=hrel;by_cases hlt:x < 5
  ·have hx:x=0∨x=1∨x=2∨x=3∨x=4:=by omega
   rcases hx with rfl|rfl|rfl|rfl|rfl
   ·have hc:wr.cell? ⟨w2.heap.size,0,none⟩=some (.int .i64 a0_0):=(qC_ HRb.out 0).trans rfl
    clear hlt
    go_wp2_with (go_at_call 40;refine(bWriteByte w.heap.size bb _ _ _ HI.out ?hl ?hz).mono ?_;(case hl=>exact cells_len hd _ (by rw[HD.out];rfl));(case hz=>exact HBr.out.size);rintro e w3 ⟨rfl,hBA,hBB,hK⟩)
    go_roundg (4 - 0)
    case measure=>have:=HX.out;omega
    case rel =>
     exact⟨1,rfl,⟨by omega,by have:=HX.out;omega⟩,⟨.inr (by rw[← cells_snoc hd 0 a0_0 (by rw[HD.out];rfl)];exact hBA)⟩,⟨hK _ _ _ HG.out (by decide) NB.out⟩,⟨hK _ _ _ HRb.out (by decide) HNr.out⟩,⟨HBr.out.trans hBB⟩,HNr⟩
   ·have hc:wr.cell? ⟨w2.heap.size,1,none⟩=some (.int .i64 a0_2):=(qC_ HRb.out 1).trans rfl
    clear hlt
    go_wp2_with (go_at_call 40;refine(bWriteByte w.heap.size bb _ _ _ HI.out ?hl ?hz).mono ?_;(case hl=>exact cells_len hd _ (by rw[HD.out];rfl));(case hz=>exact HBr.out.size);rintro e w3 ⟨rfl,hBA,hBB,hK⟩)
    go_roundg (4 - 1)
    case measure=>have:=HX.out;omega
    case rel =>
     exact⟨2,rfl,⟨by omega,by have:=HX.out;omega⟩,⟨.inr (by rw[← cells_snoc hd 1 a0_2 (by rw[HD.out];rfl)];exact hBA)⟩,⟨hK _ _ _ HG.out (by decide) NB.out⟩,⟨hK _ _ _ HRb.out (by decide) HNr.out⟩,⟨HBr.out.trans hBB⟩,HNr⟩
   ·have hc:wr.cell? ⟨w2.heap.size,2,none⟩=some (.int .i64 a0_3):=(qC_ HRb.out 2).trans rfl
    clear hlt
    go_wp2_with (go_at_call 40;refine(bWriteByte w.heap.size bb _ _ _ HI.out ?hl ?hz).mono ?_;(case hl=>exact cells_len hd _ (by rw[HD.out];rfl));(case hz=>exact HBr.out.size);rintro e w3 ⟨rfl,hBA,hBB,hK⟩)
    go_roundg (4 - 2)
    case measure=>have:=HX.out;omega
    case rel =>
     exact⟨3,rfl,⟨by omega,by have:=HX.out;omega⟩,⟨.inr (by rw[← cells_snoc hd 2 a0_3 (by rw[HD.out];rfl)];exact hBA)⟩,⟨hK _ _ _ HG.out (by decide) NB.out⟩,⟨hK _ _ _ HRb.out (by decide) HNr.out⟩,⟨HBr.out.trans hBB⟩,HNr⟩
   ·have hc:wr.cell? ⟨w2.heap.size,3,none⟩=some (.int .i64 (l0_5.length:Int)):=(qC_ HRb.out 3).trans rfl
    clear hlt
    go_wp2_with (go_at_call 40;refine(bWriteByte w.heap.size bb _ _ _ HI.out ?hl ?hz).mono ?_;(case hl=>exact cells_len hd _ (by rw[HD.out];rfl));(case hz=>exact HBr.out.size);rintro e w3 ⟨rfl,hBA,hBB,hK⟩)
    go_roundg (4 - 3)
    case measure=>have:=HX.out;omega
    case rel =>
     exact⟨4,rfl,⟨by omega,by have:=HX.out;omega⟩,⟨.inr (by rw[← cells_snoc hd 3 (l0_5.length:Int) (by rw[HD.out];rfl)];exact hBA)⟩,⟨hK _ _ _ HG.out (by decide) NB.out⟩,⟨hK _ _ _ HRb.out (by decide) HNr.out⟩,⟨HBr.out.trans hBB⟩,HNr⟩
   ·have hc:wr.cell? ⟨w2.heap.size,4,none⟩=some (.int .i64 (a0_4.size:Int)):=(qC_ HRb.out 4).trans rfl
    clear hlt
    go_wp2_with (go_at_call 40;refine(bWriteByte w.heap.size bb _ _ _ HI.out ?hl ?hz).mono ?_;(case hl=>exact cells_len hd _ (by rw[HD.out];rfl));(case hz=>exact HBr.out.size);rintro e w3 ⟨rfl,hBA,hBB,hK⟩)
    go_roundg (4 - 4)
    case measure=>have:=HX.out;omega
    case rel =>
     exact⟨5,rfl,⟨by omega,by have:=HX.out;omega⟩,⟨.inr (by rw[← cells_snoc hd 4 (a0_4.size:Int) (by rw[HD.out];rfl)];exact hBA)⟩,⟨hK _ _ _ HG.out (by decide) NB.out⟩,⟨hK _ _ _ HRb.out (by decide) HNr.out⟩,⟨HBr.out.trans hBB⟩,HNr⟩
  ·have hx:x=5:=by have:=HX.out;omega
   subst hx;clear hlt;have HI5:Aside0 (Lib.IsBuilder 65 5 w.heap.size bb (Lib.byteCells hd) wr):=⟨by have:=HI.out;rwa [List.take_of_length_le (by rw[HD.out];exact Nat.le_refl _)]at this⟩
   clear HI;have h1c:wr.cell? ⟨gb,1,none⟩=some (.int .i64 a0_1):=(qC_ HG.out 1).trans rfl;have h4c:wr.cell? ⟨gb,4,none⟩=some (.string a0_4):=(qC_ HG.out 4).trans rfl;have E1:Aside0 (z42_.f 4 a0_1 2=some (b2M a0_1)):=⟨inB2 a0_1 HH.out.1.1⟩;have HBw:=qM_ (Below.refl wr.heap.size wr);have H4:Aside0 (∀ W,Below wr.heap.size wr W→W.cell? ⟨gb,4,none⟩=some (.string a0_4)):=⟨fun W hB=>(hB.cell (qL_ _ _ h4c)).trans h4c⟩;have HZ:=qM_ (show(b2M a0_1).size=2 from rfl);have HS1:Aside0 ((b2M a0_1).size+a0_4.size≤1000002):=⟨by have:=HZ.out;have:=HH.out.2.2.1;omega⟩
   have HL5:Aside0 ((Lib.byteCells hd).length+(b2M a0_1 ++ a0_4).size≤140737488355328):=⟨by
    have h1:=HS1.out
    have h2:(b2M a0_1 ++ a0_4).size=(b2M a0_1).size+a0_4.size:=by simp
    have h3:(Lib.byteCells hd).length=5:=by rw[HD.out];rfl
    omega⟩
   have q0:((b2M a0_1).size+a0_4.size≤9223372036854775807)=True:=eq_true (by have:=HS1.out;omega);have q1:decide ((b2M a0_1).size+a0_4.size≤9223372036854775807)=true:=decide_eq_true (by have:=HS1.out;omega)
   have q2:(9223372036854775807 < (b2M a0_1).size+a0_4.size)=False:=eq_false (by have:=HS1.out;omega)
   go_wp2
   clear q0 q1 q2;have q0:((b2M a0_1).size+a0_4.size≤9223372036854775807)=True:=eq_true (by have:=HS1.out;omega)
   have q1:decide ((b2M a0_1).size+a0_4.size≤9223372036854775807)=true:=decide_eq_true (by have:=HS1.out;omega);have q2:(9223372036854775807 < (b2M a0_1).size+a0_4.size)=False:=eq_false (by have:=HS1.out;omega)
   have H1:Aside0 (∀ W,Below wr.heap.size wr W→W.cell? ⟨gb,1,none⟩=some (.int .i64 a0_1)):=⟨fun W hB=>(hB.cell (qL_ _ _ h1c)).trans h1c⟩
   go_region_held3 (fun w' => w'.cell? ⟨gb,1,none⟩=some (.int .i64 a0_1)∧w'.cell? ⟨gb,4,none⟩=some (.string a0_4)) (go_keep) (first|(go_at_call 42;refine(z42_.calls 4 a0_1 2 (b2M a0_1) _ E1.out).mono ?_;rintro e w4 ⟨rfl,hb4⟩;have hb2:Below wr.heap.size wr w4:=(below_step qBHBw hb4);have h4d:=H4.out w4 hb2;have h1d:=H1.out w4 hb2;have HB4:=qM_ hb2;clear hb4 hb2)|(go_at_call 41;refine(bWriteString w.heap.size bb (Lib.byteCells hd) (b2M a0_1 ++ a0_4) _ ?hi ?hl ?hz).mono ?_;(case hi=>exact bBelow HI5.out (by repeat(first|exact HB4.out|apply qD_|apply qE_)));(case hl=>exact HL5.out);(case hz=>exact Nat.le_trans HBr.out.size (by have:=HB4.out.size;simpa using this));rintro e w5 ⟨rfl,hBA,hBB,hK⟩;have hblk5:=hK _ _ _ (((show Below wr.heap.size wr _ from(by repeat(first|exact HB4.out|apply qD_|apply qE_))).block gb (lt_of_blk HG.out)).trans HG.out) (by decide) NB.out;have h1e:w5.cell? ⟨gb,1,none⟩=some (.int .i64 a0_1):=(qC_ hblk5 1).trans rfl;have h4e:w5.cell? ⟨gb,4,none⟩=some (.string a0_4):=(qC_ hblk5 4).trans rfl))
   have HI6:Aside0 (Lib.IsBuilder 65 5 w.heap.size bb (Lib.byteCells (totX hd a0_1 a0_4 l0_5 0)) w5):=⟨.inr (by rw[totX_zero,← cells_str];exact hBA)⟩;have HG6:=qM_ hblk5;have HB6:Aside0 (Below w.heap.size w w5):=⟨(below_step HBr.out HB4.out).trans hBB⟩;have h5e:w5.cell? ⟨gb,5,none⟩=some (.slice A0_5 l0_5.length c0_5):=(qC_ HG6.out 5).trans rfl;have hlen5:([hbM a0_0,hbM a0_2,hbM a0_3,hbM l0_5.length,hbM a0_4.size]:List UInt8).length=5:=rfl;clear hblk5 hBA hBB hK HB4 HG HI5 HBr HRb HNr H4 H1 HBw h1c h4c q0 q1 q2 h1d h4d h1e h4e
   go_wp2
   go_loopg [7,41] l0_5.length (fun gg s7 s41 wr=>∃ x:Nat,s41= .int .i64 (x:Int)∧Aside0 (x≤l0_5.length∧l0_5.length - x≤gg)∧Aside0 (Lib.IsBuilder 65 5 w.heap.size bb (Lib.byteCells (totX hd a0_1 a0_4 l0_5 x)) wr)∧Aside0 (wr.heap[gb]? = some (.cells #[.int .i64 a0_0,.int .i64 a0_1,.int .i64 a0_2,.int .i64 a0_3,.string a0_4,.slice A0_5 l0_5.length c0_5] 31 (0,0)))∧Aside0 (Below w.heap.size w wr))
   case atStart=>exact⟨0,rfl,⟨by omega,by omega⟩,HI6,HG6,HB6⟩
   case round =>
    obtain⟨x,rfl,HX,HI,HG,HB7⟩:=hrel;by_cases hlt:x < l0_5.length
    ·have hx:l0_5[x]? = some (l0_5[x]'hlt):=List.getElem?_eq_getElem hlt
     have hmem:=List.getElem_mem hlt
     have hrd:rd_T54 l0_5 (x:Int)=l0_5[x]'hlt:=by
      simp only[rd_T54,Int.toNat_natCast,List.getD_eq_getElem?_getD]
      rw[hx];rfl
     obtain⟨ad,e1,hx0,hx1⟩:=at_T54 HR.out (x:Int) (by omega) (by omega);rw[hrd]at hx0 hx1;have hsz:=condM_at HH.out _ hmem;have HT:=qM_ hx;generalize l0_5[x]'hlt=y at hx0 hx1 hsz HT;obtain⟨k,t⟩:=y;simp only[Int.toNat_natCast]at hx0 hx1;replace hx0:=(HB7.out.cell (qL_ w _ hx0)).trans hx0;replace hx1:=(HB7.out.cell (qL_ w _ hx1)).trans hx1;have hp:decide ((x:Int) < (l0_5.length:Int))=true:=decide_eq_true (by omega);have p0:(0≤(x:Int))=True:=eq_true (by omega);have p1:(x < l0_5.length)=True:=eq_true hlt;have p2:((x:Int) < (l0_5.length:Int))=True:=eq_true (by omega);have HL:=qM_ hlt;have HSZ:=qM_ hsz;clear hlt hx hmem hrd hsz;subst e1
     go_wp2
     have hBlk:(wr.alloc (.cells #[.string k,.string t] 54 (0,0))).heap[wr.heap.size]? = some (.cells #[.string k,.string t] 54 (0,0)):=Array.getElem?_push_size
     have hblt:bb < wr.heap.size:=by
      rcases HI.out with h|h
      ·exact h.lt
      ·exact h.lt
     have hnb:bb≠wr.heap.size:=Nat.ne_of_lt hblt;have hng:gb≠wr.heap.size:=Nat.ne_of_lt (lt_of_blk HG.out);have hI9:=bBelow HI.out (qA_ (Below.refl wr.heap.size wr) (.cells #[.string k,.string t] 54 (0,0)));have hG9:(wr.alloc (.cells #[.string k,.string t] 54 (0,0))).heap[gb]? = some (.cells #[.int .i64 a0_0,.int .i64 a0_1,.int .i64 a0_2,.int .i64 a0_3,.string a0_4,.slice (some ad) l0_5.length c0_5] 31 (0,0)):=(Lib.alloc_old wr _ gb (lt_of_blk HG.out)).trans HG.out;have hB9:Below w.heap.size w (wr.alloc (.cells #[.string k,.string t] 54 (0,0))):=qA_ HB7.out _;generalize (wr.alloc (.cells #[.string k,.string t] 54 (0,0)))=w9 at hBlk hI9 hG9 hB9 ⊢;clear HI HG HB7 hx0 hx1 hblt;generalize wr.heap.size=ib at hBlk hnb hng ⊢;have HBlk:=qM_ hBlk;have HI9:=qM_ hI9;have HG9:=qM_ hG9;have HB9:=qM_ hB9;clear hBlk hI9 hG9 hB9;have c0:w9.cell? ⟨ib,0,none⟩=some (.string k):=(qC_ HBlk.out 0).trans rfl;have c1:w9.cell? ⟨ib,1,none⟩=some (.string t):=(qC_ HBlk.out 1).trans rfl;have HBw:=qM_ (Below.refl w9.heap.size w9);have C0:Aside0 (∀ W,Below w9.heap.size w9 W→W.cell? ⟨ib,0,none⟩=some (.string k)):=⟨fun W hB=>(hB.cell (qL_ _ _ c0)).trans c0⟩;have C1:Aside0 (∀ W,Below w9.heap.size w9 W→W.cell? ⟨ib,1,none⟩=some (.string t)):=⟨fun W hB=>(hB.cell (qL_ _ _ c1)).trans c1⟩;have F1:Aside0 (z42_.f 4 (k.size:Int) 2=some (b2M k.size)):=⟨inB2 _ (by omega)⟩;have F2:Aside0 (z42_.f 4 (t.size:Int) 2=some (b2M t.size)):=⟨inB2 _ (by omega)⟩;have z1:(b2M (k.size:Int)).size=2:=rfl;have z2:(b2M (t.size:Int)).size=2:=rfl
     have za:∀ a b:ByteArray,(a ++ b).size=a.size+b.size:=fun a b=>by simp
     have S1:Aside0 ((b2M (k.size:Int)).size+(b2M (t.size:Int)).size≤9000000):=⟨by omega⟩;have S2:Aside0 ((b2M (k.size:Int) ++ b2M (t.size:Int)).size+k.size≤9000000):=⟨by rw[za];have:=HSZ.out.1;(try simp only at this);omega⟩
     have S3:Aside0 (((b2M (k.size:Int) ++ b2M (t.size:Int)) ++ k).size+t.size≤9000000):=⟨by rw[za,za];have:=HSZ.out;(try simp only at this);omega⟩;have q10:((b2M (k.size:Int)).size+(b2M (t.size:Int)).size≤9223372036854775807)=True:=eq_true (by have:=S1.out;omega)
     have q12:(9223372036854775807 < (b2M (k.size:Int)).size+(b2M (t.size:Int)).size)=False:=eq_false (by have:=S1.out;omega);have q20:((b2M (k.size:Int) ++ b2M (t.size:Int)).size+k.size≤9223372036854775807)=True:=eq_true (by have:=S2.out;omega)
     have q22:(9223372036854775807 < (b2M (k.size:Int) ++ b2M (t.size:Int)).size+k.size)=False:=eq_false (by have:=S2.out;omega);have S4:Aside0 ((b2M (k.size:Int)).size+(b2M (t.size:Int)).size+k.size+t.size≤9000000):=⟨by have:=HSZ.out;(try simp only at this);omega⟩
     have q21:((b2M (k.size:Int)).size+(b2M (t.size:Int)).size+k.size≤9223372036854775807)=True:=eq_true (by have:=S4.out;omega);have q23:(9223372036854775807 < (b2M (k.size:Int)).size+(b2M (t.size:Int)).size+k.size)=False:=eq_false (by have:=S4.out;omega)
     have q31:((b2M (k.size:Int)).size+(b2M (t.size:Int)).size+k.size+t.size≤9223372036854775807)=True:=eq_true (by have:=S4.out;omega);have q33:(9223372036854775807 < (b2M (k.size:Int)).size+(b2M (t.size:Int)).size+k.size+t.size)=False:=eq_false (by have:=S4.out;omega)
     have q30:(((b2M (k.size:Int) ++ b2M (t.size:Int)) ++ k).size+t.size≤9223372036854775807)=True:=eq_true (by have:=S3.out;omega);have q32:(9223372036854775807 < ((b2M (k.size:Int) ++ b2M (t.size:Int)) ++ k).size+t.size)=False:=eq_false (by have:=S3.out;omega)
     clear z1 z2 za
     have HLN:Aside0 ((Lib.byteCells (totX hd a0_1 a0_4 l0_5 x)).length+(((b2M (k.size:Int) ++ b2M (t.size:Int)) ++ k) ++ t).size≤140737488355328):=⟨by
      have h1:=totX_len hd a0_1 a0_4 l0_5 x (by rw[HD.out];rfl) HH.out;have h2:=item_len (⟨k,t⟩:S54) HSZ.out;have h3:(itemM (⟨k,t⟩:S54)).data.toList.length=(((b2M (k.size:Int) ++ b2M (t.size:Int)) ++ k) ++ t).size:=rfl
      have h4:(Lib.byteCells (totX hd a0_1 a0_4 l0_5 x)).length=(totX hd a0_1 a0_4 l0_5 x).length:=by simp[Lib.byteCells]
      omega⟩
     go_region_held3 (fun w' => w'.cell? ⟨ib,0,none⟩=some (.string k)∧w'.cell? ⟨ib,1,none⟩=some (.string t)) (go_keep) (first|(go_at_call_of 42 (Value.int .i64 (k.size:Int));refine(z42_.calls 4 (k.size:Int) 2 (b2M k.size) _ F1.out).mono ?_;rintro e w4 ⟨rfl,hb4⟩;have hb2:Below w9.heap.size w9 w4:=(below_step qBHBw hb4);have g0:=C0.out w4 hb2;have g1:=C1.out w4 hb2;clear HBw;have HBw:=qM_ hb2;clear hb4 hb2)|(go_at_call_of 42 (Value.int .i64 (t.size:Int));refine(z42_.calls 4 (t.size:Int) 2 (b2M t.size) _ F2.out).mono ?_;rintro e w4 ⟨rfl,hb4⟩;have hb2:Below w9.heap.size w9 w4:=(below_step qBHBw hb4);have g0:=C0.out w4 hb2;have g1:=C1.out w4 hb2;clear HBw;have HBw:=qM_ hb2;clear hb4 hb2)|(go_at_call 41;refine(bWriteString w.heap.size bb (Lib.byteCells (totX hd a0_1 a0_4 l0_5 x)) (((b2M (k.size:Int) ++ b2M (t.size:Int)) ++ k) ++ t) _ ?hi ?hl ?hz).mono ?_;(case hi=>exact bBelow HI9.out (by repeat(first|exact HBw.out|apply qD_|apply qE_)));(case hl=>exact HLN.out);(case hz=>exact Nat.le_trans HB9.out.size (by have:=HBw.out.size;simpa using this));rintro e w5 ⟨rfl,hBA,hBB,hK⟩;have hblk5:=hK _ _ _ (((show Below w9.heap.size w9 _ from(by repeat(first|exact HBw.out|apply qD_|apply qE_))).block ib (lt_of_blk HBlk.out)).trans HBlk.out) (by decide) (Ne.symm hnb);have g0' : w5.cell? ⟨ib,0,none⟩=some (.string k):=(qC_ hblk5 0).trans rfl;have g1' : w5.cell? ⟨ib,1,none⟩=some (.string t):=(qC_ hblk5 1).trans rfl;have hblkG:=hK _ _ _ (((show Below w9.heap.size w9 _ from(by repeat(first|exact HBw.out|apply qD_|apply qE_))).block gb (lt_of_blk HG9.out)).trans HG9.out) (by decide) NB.out))
     go_wp2
     go_roundg (l0_5.length - (x+1))
     case measure=>have:=HX.out;have:=HL.out;omega
     case rel =>
      refine⟨x+1,by(have h1:=HL.out;have h2:=HH.out.2.1;have e:wrap64 ((x:Int)+1)=((x+1:Nat):Int):=(by unfold wrap64;omega);rw[e]),⟨by have:=HL.out;omega,by omega⟩,⟨.inr ?_⟩,⟨hblkG⟩,⟨(below_step HB9.out HBw.out).trans hBB⟩⟩;rw[totX_succ hd a0_1 a0_4 l0_5 x ⟨k,t⟩ HT.out,← cells_str];exact hBA
    ·have hx:x=l0_5.length:=by have:=HX.out;omega
     subst hx;have hp:decide ((l0_5.length:Int) < (l0_5.length:Int))=false:=decide_eq_false (by omega);have p2:((l0_5.length:Int) < (l0_5.length:Int))=False:=eq_false (by omega);clear hlt
     go_wp2_with (go_at_call 43;refine(bString w.heap.size bb _ _ HI.out HB7.out.size).mono ?_;rintro e w6 ⟨rfl,hb6⟩)
     go_ret;exact⟨by have e:=totX_end a0_0 a0_1 a0_2 a0_3 a0_4 l0_5;rw[← HD.out]at e;rw[← e];rfl,HB7.out.trans hb6⟩
theorem z23_.calls (a0_0:Int) (a0_1:Int) (a0_2:Int) (a0_3:Int) (a0_4:ByteArray) (A0_5:Option Addr) (c0_5:Nat) (l0_5:List (S54)) (r:ByteArray) (w:World) (hr0_5:Kd.C k54 w A0_5 l0_5.length l0_5) (hc0_5:l0_5.length≤c0_5) (h:z23_.f a0_0 a0_1 a0_2 a0_3 a0_4 l0_5=some r) :
  Calls Try.prog 23 #[.agg #[.int .i64 a0_0,.int .i64 a0_1,.int .i64 a0_2,.int .i64 a0_3,.string a0_4,.slice A0_5 l0_5.length c0_5]] w fun e w' => e= .returned (.string r)∧Below w.heap.size w w' := by
 unfold z23_.f at h
 split at h
 ·rename_i hh
  obtain rfl:=Option.some.inj h;exact mutB a0_0 a0_1 a0_2 a0_3 a0_4 A0_5 c0_5 l0_5 w hr0_5 hc0_5 hh
 ·cases h


/-! ### z8_: function 8 -/
def z8_.f (k:Nat) (a0_0:Int) (a0_1:Int) (a0_2:Int) (a0_3:Int) (a0_4:ByteArray) (l0_5:List (S54)):Option (List Int × Int):=(z17_.f k a0_0 a0_1 a0_2 a0_3 a0_4 l0_5).bind fun t102=>(if t102=true then((z23_.f a0_0 a0_1 a0_2 a0_3 a0_4 l0_5).bind fun t103=>(if(t103.size:Int) > 20000 then(some (([]:List Int),7))else(if t103.size≤9223372036854775807 then(some ((bytesOf t103),0))else(none))))else(some (([]:List Int),1)))
theorem z8_.mono:∀ a0 a1 a2 a3 a4 a5 k,LeO (z8_.f k a0 a1 a2 a3 a4 a5) (z8_.f (k+1) a0 a1 a2 a3 a4 a5):=by
 intro a0 a1 a2 a3 a4 a5 k
 unfold z8_.f
 repeat' first
   | (with_reducible exact z17_.mono _ _ _ _ _ _ _)
   | (with_reducible exact LeO.refl _)
   | (with_reducible exact LeO.none _)
   | (with_reducible refine LeO.ite ?_ ?_)
   | (with_reducible refine LeO.bind ?_ (fun _=> ?_))
   | exact z17_.mono _ _ _ _ _ _ _
   | exact LeO.none _
   | refine LeO.ite ?_ ?_
   | refine LeO.bind ?_ (fun _=> ?_)
set_option maxHeartbeats 8000000 in
set_option maxRecDepth 100000 in
theorem z8_.calls (k:Nat) (a0_0:Int) (a0_1:Int) (a0_2:Int) (a0_3:Int) (a0_4:ByteArray) (A0_5:Option Addr) (c0_5:Nat) (l0_5:List (S54)) (r1:List Int) (r2:Int) (w:World) (hr0_5:Kd.C k54 w A0_5 l0_5.length l0_5) (hc0_5:l0_5.length≤c0_5) (h:z8_.f k a0_0 a0_1 a0_2 a0_3 a0_4 l0_5=some (r1,r2)) :
  Calls Try.prog 8 #[.agg #[.int .i64 a0_0,.int .i64 a0_1,.int .i64 a0_2,.int .i64 a0_3,.string a0_4,.slice A0_5 l0_5.length c0_5]] w fun e w' => ∃ v0_:Value,e= .returned (.tuple #[v0_,.int .i64 r2])∧Kd.V (Kd.int .u8) 5 w' w.heap.size (fun k_=>(w.heap.size≤k_)) v0_ r1∧Below w.heap.size w w' := by
 have hu31:=Try.underlying31
 have HR0_5:=qM_ hr0_5
 have HC0_5:=qM_ hc0_5
 clear hr0_5 hc0_5
 have HB:=qM_ (Below.refl w.heap.size w)
 have H:((z17_.f k a0_0 a0_1 a0_2 a0_3 a0_4 l0_5).bind fun t102=>(if t102=true then((z23_.f a0_0 a0_1 a0_2 a0_3 a0_4 l0_5).bind fun t103=>(if(t103.size:Int) > 20000 then(some (([]:List Int),7))else(if t103.size≤9223372036854775807 then(some ((bytesOf t103),0))else(none))))else(some (([]:List Int),1))))=some (r1,r2):=h
 clear h
 replace H:=Option.bind_eq_some_iff.mp H
 obtain⟨t102,A20,H⟩:=H
 have A2:=qM_ A20
 clear A20
 by_cases c3:t102=true
 ·subst c3
  have H1:((z23_.f a0_0 a0_1 a0_2 a0_3 a0_4 l0_5).bind fun t103=>(if(t103.size:Int) > 20000 then(some (([]:List Int),7))else(if t103.size≤9223372036854775807 then(some ((bytesOf t103),0))else(none))))=some (r1,r2):=by rw[if_pos rfl]at H;exact H
  clear H;have H:=H1;clear H1;replace H:=Option.bind_eq_some_iff.mp H;obtain⟨t103,A40,H⟩:=H;have A4:=qM_ A40;clear A40;by_cases c5:(t103.size:Int) > 20000
  ·rw[if_pos c5]at H
   have c5b0:decide (20000 < (t103.size:Int))=true:=decide_eq_true c5;have c5b1:decide (20000 < t103.size)=true:=decide_eq_true (by omega);clear c5;simp only[Option.some.injEq,Prod.mk.injEq]at H;obtain⟨rfl,rfl⟩:=H;go_enter Try.func8,Try.ntmps8
   go_wp2_with (first|((with_reducible refine gate_dst (N:=1) rfl ?_);refine box_event ?hg (N:=1) ?hd (cs:=#[.int .i64 a0_0,.int .i64 a0_1,.int .i64 a0_2,.int .i64 a0_3,.string a0_4,.slice A0_5 l0_5.length c0_5]) (t:=31) ?hr ?_;(case hd=>rfl);(case hg=>rfl);(case hr=>first|(go_simp;done)|(go_simp;rfl));intro gb101 hg w6 hbox hb;have BK101:=qM_ (hbox);have GW101:=qM_ ((by rw[hg];exact(below_size qBHB):w.heap.size≤gb101));have GE101:=qM_ ((by rw[hg];exact(below_size qBHB):w.heap.size≤gb101));replace HB:=qM_ (below_step qBHB hb);clear hb hbox hg;obtain⟨hcz7_0,hcz7_1,hcz7_2,hcz7_3,hcz7_4,hcz7_5,hfz7_0⟩:=qc6_ BK101)|((with_reducible refine gate_callee (f:=17) rfl ?_);refine goesL_ (some 6) rfl rfl Try.func17 qK rfl #[.agg #[.int .i64 a0_0,.int .i64 a0_1,.int .i64 a0_2,.int .i64 a0_3,.string a0_4,.slice A0_5 l0_5.length c0_5]] rfl qll_ ?_;(with_reducible refine(z17_.calls k a0_0 a0_1 a0_2 a0_3 a0_4 _ _ l0_5 true _ ?side1 ?side2 A2.out).mono ?_);(case side1=>exact qcc_ (Kd.C_below HR0_5.out HB.out));(case side2=>exact HC0_5.out);rintro e w8 ⟨rfl,hb⟩;refine⟨_,rfl,?_⟩;replace BK101:=qM_ (blk_below (qk_ BK101) hb);replace HB:=qM_ (below_step qBHB hb);(try clear hb);(try clear hb2);(try clear hk);(try clear hi);obtain⟨hcz9_0,hcz9_1,hcz9_2,hcz9_3,hcz9_4,hcz9_5,hfz9_0⟩:=qc6_ BK101)|((with_reducible refine gate_callee (f:=23) rfl ?_);refine goesL_ (some 9) rfl rfl Try.func23 qK rfl #[.agg #[.int .i64 a0_0,.int .i64 a0_1,.int .i64 a0_2,.int .i64 a0_3,.string a0_4,.slice A0_5 l0_5.length c0_5]] rfl qll_ ?_;(with_reducible refine(z23_.calls a0_0 a0_1 a0_2 a0_3 a0_4 _ _ l0_5 t103 _ ?side1 ?side2 A4.out).mono ?_);(case side1=>exact qcc_ (Kd.C_below HR0_5.out HB.out));(case side2=>exact HC0_5.out);rintro e w10 ⟨rfl,hb⟩;refine⟨_,rfl,?_⟩;replace BK101:=qM_ (blk_below (qk_ BK101) hb);replace HB:=qM_ (below_step qBHB hb);(try clear hb);(try clear hb2);(try clear hk);(try clear hi)))
   go_ret2
   exact⟨_,qee_,Kd.R_V (base:=0) (by first|exact Kd.R_nil _ _ _ _ _|exact Kd.N_nil _ _ _ _ _|exact Kd.V_nil _ _ _ _ _|exact Kd.Q_nil _ _ _ _ _|exact Kd.S_nil _ _ _ _ _),qBHB⟩
  ·rw[if_neg c5]at H
   have c5b0:decide (20000 < (t103.size:Int))=false:=decide_eq_false c5;have c5b1:decide (20000 < t103.size)=false:=decide_eq_false (by omega);clear c5;by_cases c11:t103.size≤9223372036854775807
   ·rw[if_pos c11]at H
    have c11b0:=eq_true c11;have c11b1:decide (t103.size≤9223372036854775807)=true:=decide_eq_true c11
    try have c11b2:(9223372036854775807 < t103.size)=False:=eq_false (Nat.not_lt.2 c11)
    clear c11
    obtain⟨y104,hy104⟩:∃ y_:List Int,y_=(bytesOf t103):=⟨_,rfl⟩
    replace H:(some (y104,0))=some (r1,r2):=qh_ hy104 H;have Ny104:=qM_ hy104;clear hy104;simp only[Option.some.injEq,Prod.mk.injEq]at H;obtain⟨rfl,rfl⟩:=H;go_enter Try.func8,Try.ntmps8
    go_wp2_with (first|((with_reducible refine gate_dst (N:=1) rfl ?_);refine box_event ?hg (N:=1) ?hd (cs:=#[.int .i64 a0_0,.int .i64 a0_1,.int .i64 a0_2,.int .i64 a0_3,.string a0_4,.slice A0_5 l0_5.length c0_5]) (t:=31) ?hr ?_;(case hd=>rfl);(case hg=>rfl);(case hr=>first|(go_simp;done)|(go_simp;rfl));intro gb101 hg w12 hbox hb;have BK101:=qM_ (hbox);have GW101:=qM_ ((by rw[hg];exact(below_size qBHB):w.heap.size≤gb101));have GE101:=qM_ ((by rw[hg];exact(below_size qBHB):w.heap.size≤gb101));replace HB:=qM_ (below_step qBHB hb);clear hb hbox hg;obtain⟨hcz13_0,hcz13_1,hcz13_2,hcz13_3,hcz13_4,hcz13_5,hfz13_0⟩:=qc6_ BK101)|((with_reducible refine gate_callee (f:=17) rfl ?_);refine goesL_ (some 6) rfl rfl Try.func17 qK rfl #[.agg #[.int .i64 a0_0,.int .i64 a0_1,.int .i64 a0_2,.int .i64 a0_3,.string a0_4,.slice A0_5 l0_5.length c0_5]] rfl qll_ ?_;(with_reducible refine(z17_.calls k a0_0 a0_1 a0_2 a0_3 a0_4 _ _ l0_5 true _ ?side1 ?side2 A2.out).mono ?_);(case side1=>exact qcc_ (Kd.C_below HR0_5.out HB.out));(case side2=>exact HC0_5.out);rintro e w14 ⟨rfl,hb⟩;refine⟨_,rfl,?_⟩;replace BK101:=qM_ (blk_below (qk_ BK101) hb);replace HB:=qM_ (below_step qBHB hb);(try clear hb);(try clear hb2);(try clear hk);(try clear hi);obtain⟨hcz15_0,hcz15_1,hcz15_2,hcz15_3,hcz15_4,hcz15_5,hfz15_0⟩:=qc6_ BK101)|((with_reducible refine gate_callee (f:=23) rfl ?_);refine goesL_ (some 9) rfl rfl Try.func23 qK rfl #[.agg #[.int .i64 a0_0,.int .i64 a0_1,.int .i64 a0_2,.int .i64 a0_3,.string a0_4,.slice A0_5 l0_5.length c0_5]] rfl qll_ ?_;(with_reducible refine(z23_.calls a0_0 a0_1 a0_2 a0_3 a0_4 _ _ l0_5 t103 _ ?side1 ?side2 A4.out).mono ?_);(case side1=>exact qcc_ (Kd.C_below HR0_5.out HB.out));(case side2=>exact HC0_5.out);rintro e w16 ⟨rfl,hb⟩;refine⟨_,rfl,?_⟩;replace BK101:=qM_ (blk_below (qk_ BK101) hb);replace HB:=qM_ (below_step qBHB hb);(try clear hb);(try clear hb2);(try clear hk);(try clear hi))|((with_reducible refine gate_dst (N:=14) rfl ?_);refine Kd.V_conv _ rfl (N' := 14) rfl 9 26 5 _ rfl t103 rfl Try.underlying9 Try.underlying26 Try.underlying5 (qd_) (Below.refl _ _) (Nat.le_refl _) ?_;intro v105 w17 ho18 hb hg_ hnew_;clear hg_ hnew_;(first|rw[← Ny104.out]at ho18|(simp only[Int.reduceToNat]at ho18;rw[← Ny104.out]at ho18));have HO106:=qM_ (Kd.V_lower (Kd.V_mono (ok' := fun k_=>(w.heap.size≤k_)∧k_≠gb101) ho18 (fun k_ hk_=>⟨(Nat.le_trans (below_size qBHB) hk_),(Kd.freshB (qk_ BK101) k_ hk_)⟩)) (below_size qBHB));replace BK101:=qM_ (blk_below (qk_ BK101) hb);replace HB:=qM_ (below_step qBHB hb);clear hb ho18))
    go_ret2
    exact⟨_,qee_,by(with_reducible repeat(first|apply Kd.V_alloc|apply Kd.V_drewN|apply Kd.V_drew));exact Kd.V_mono HO106.out (fun _ hk=>hk.1),qBHB⟩
   ·rw[if_neg c11]at H
    exact absurd H (by simp)
 ·replace c3:=Bool.eq_false_iff.mpr c3
  subst c3
  have H1:(some (([]:List Int),1))=some (r1,r2):=by rw[if_neg (show ¬(false=true)by decide)]at H;exact H
  clear H;have H:=H1;clear H1;simp only[Option.some.injEq,Prod.mk.injEq]at H;obtain⟨rfl,rfl⟩:=H;go_enter Try.func8,Try.ntmps8
  go_wp2_with (first|((with_reducible refine gate_dst (N:=1) rfl ?_);refine box_event ?hg (N:=1) ?hd (cs:=#[.int .i64 a0_0,.int .i64 a0_1,.int .i64 a0_2,.int .i64 a0_3,.string a0_4,.slice A0_5 l0_5.length c0_5]) (t:=31) ?hr ?_;(case hd=>rfl);(case hg=>rfl);(case hr=>first|(go_simp;done)|(go_simp;rfl));intro gb101 hg w19 hbox hb;have BK101:=qM_ (hbox);have GW101:=qM_ ((by rw[hg];exact(below_size qBHB):w.heap.size≤gb101));have GE101:=qM_ ((by rw[hg];exact(below_size qBHB):w.heap.size≤gb101));replace HB:=qM_ (below_step qBHB hb);clear hb hbox hg;obtain⟨hcz20_0,hcz20_1,hcz20_2,hcz20_3,hcz20_4,hcz20_5,hfz20_0⟩:=qc6_ BK101)|((with_reducible refine gate_callee (f:=17) rfl ?_);refine goesL_ (some 6) rfl rfl Try.func17 qK rfl #[.agg #[.int .i64 a0_0,.int .i64 a0_1,.int .i64 a0_2,.int .i64 a0_3,.string a0_4,.slice A0_5 l0_5.length c0_5]] rfl qll_ ?_;(with_reducible refine(z17_.calls k a0_0 a0_1 a0_2 a0_3 a0_4 _ _ l0_5 false _ ?side1 ?side2 A2.out).mono ?_);(case side1=>exact qcc_ (Kd.C_below HR0_5.out HB.out));(case side2=>exact HC0_5.out);rintro e w21 ⟨rfl,hb⟩;refine⟨_,rfl,?_⟩;replace BK101:=qM_ (blk_below (qk_ BK101) hb);replace HB:=qM_ (below_step qBHB hb);(try clear hb);(try clear hb2);(try clear hk);(try clear hi)))
  go_ret2
  exact⟨_,qee_,Kd.R_V (base:=0) (by first|exact Kd.R_nil _ _ _ _ _|exact Kd.N_nil _ _ _ _ _|exact Kd.V_nil _ _ _ _ _|exact Kd.Q_nil _ _ _ _ _|exact Kd.S_nil _ _ _ _ _),qBHB⟩
def impl_MutationBytesF.f (k:Nat) (a0_0:Int) (a0_1:Int) (a0_2:Int) (a0_3:Int) (a0_4:ByteArray) (l0_5:List (S54)):=z8_.f k a0_0 a0_1 a0_2 a0_3 a0_4 l0_5
theorem impl_MutationBytesF.mono:∀ a0 a1 a2 a3 a4 a5 k,LeO (impl_MutationBytesF.f k a0 a1 a2 a3 a4 a5) (impl_MutationBytesF.f (k+1) a0 a1 a2 a3 a4 a5):=z8_.mono
set_option maxHeartbeats 8000000 in
set_option maxRecDepth 100000 in
theorem impl_MutationBytesF.calls (k:Nat) (a0_0:Int) (a0_1:Int) (a0_2:Int) (a0_3:Int) (a0_4:ByteArray) (A0_5:Option Addr) (c0_5:Nat) (l0_5:List (S54)) (r1:List Int) (r2:Int) (w:World) (hr0_5:Kd.C k54 w A0_5 l0_5.length l0_5) (hc0_5:l0_5.length≤c0_5) (h:impl_MutationBytesF.f k a0_0 a0_1 a0_2 a0_3 a0_4 l0_5=some (r1,r2)) :
  Calls Try.prog 8 #[.agg #[.int .i64 a0_0,.int .i64 a0_1,.int .i64 a0_2,.int .i64 a0_3,.string a0_4,.slice A0_5 l0_5.length c0_5]] w fun e w' => ∃ v0_:Value,e= .returned (.tuple #[v0_,.int .i64 r2])∧Kd.G (Kd.int .u8) 5 w' w.heap.size (fun _=>True) v0_ r1∧Below w.heap.size w w' := by
 have hu31:=Try.underlying31
 have HR0_5:=qM_ hr0_5
 have HC0_5:=qM_ hc0_5
 clear hr0_5 hc0_5
 have HB:=qM_ (Below.refl w.heap.size w)
 have H:((z17_.f k a0_0 a0_1 a0_2 a0_3 a0_4 l0_5).bind fun t102=>(if t102=true then((z23_.f a0_0 a0_1 a0_2 a0_3 a0_4 l0_5).bind fun t103=>(if(t103.size:Int) > 20000 then(some (([]:List Int),7))else(if t103.size≤9223372036854775807 then(some ((bytesOf t103),0))else(none))))else(some (([]:List Int),1))))=some (r1,r2):=h
 clear h
 replace H:=Option.bind_eq_some_iff.mp H
 obtain⟨t102,A20,H⟩:=H
 have A2:=qM_ A20
 clear A20
 by_cases c3:t102=true
 ·subst c3
  have H1:((z23_.f a0_0 a0_1 a0_2 a0_3 a0_4 l0_5).bind fun t103=>(if(t103.size:Int) > 20000 then(some (([]:List Int),7))else(if t103.size≤9223372036854775807 then(some ((bytesOf t103),0))else(none))))=some (r1,r2):=by rw[if_pos rfl]at H;exact H
  clear H;have H:=H1;clear H1;replace H:=Option.bind_eq_some_iff.mp H;obtain⟨t103,A40,H⟩:=H;have A4:=qM_ A40;clear A40;by_cases c5:(t103.size:Int) > 20000
  ·rw[if_pos c5]at H
   have c5b0:decide (20000 < (t103.size:Int))=true:=decide_eq_true c5;have c5b1:decide (20000 < t103.size)=true:=decide_eq_true (by omega);clear c5;simp only[Option.some.injEq,Prod.mk.injEq]at H;obtain⟨rfl,rfl⟩:=H;go_enter Try.func8,Try.ntmps8
   go_wp2_with (first|((with_reducible refine gate_dst (N:=1) rfl ?_);refine box_event ?hg (N:=1) ?hd (cs:=#[.int .i64 a0_0,.int .i64 a0_1,.int .i64 a0_2,.int .i64 a0_3,.string a0_4,.slice A0_5 l0_5.length c0_5]) (t:=31) ?hr ?_;(case hd=>rfl);(case hg=>rfl);(case hr=>first|(go_simp;done)|(go_simp;rfl));intro gb101 hg w6 hbox hb;have BK101:=qM_ (hbox);have GW101:=qM_ ((by rw[hg];exact(below_size qBHB):w.heap.size≤gb101));have GE101:=qM_ ((by rw[hg];exact(below_size qBHB):w.heap.size≤gb101));replace HB:=qM_ (below_step qBHB hb);clear hb hbox hg;obtain⟨hcz7_0,hcz7_1,hcz7_2,hcz7_3,hcz7_4,hcz7_5,hfz7_0⟩:=qc6_ BK101)|((with_reducible refine gate_callee (f:=17) rfl ?_);refine goesL_ (some 6) rfl rfl Try.func17 qK rfl #[.agg #[.int .i64 a0_0,.int .i64 a0_1,.int .i64 a0_2,.int .i64 a0_3,.string a0_4,.slice A0_5 l0_5.length c0_5]] rfl qll_ ?_;(with_reducible refine(z17_.calls k a0_0 a0_1 a0_2 a0_3 a0_4 _ _ l0_5 true _ ?side1 ?side2 A2.out).mono ?_);(case side1=>exact qcc_ (Kd.C_below HR0_5.out HB.out));(case side2=>exact HC0_5.out);rintro e w8 ⟨rfl,hb⟩;refine⟨_,rfl,?_⟩;replace BK101:=qM_ (blk_below (qk_ BK101) hb);replace HB:=qM_ (below_step qBHB hb);(try clear hb);(try clear hb2);(try clear hk);(try clear hi);obtain⟨hcz9_0,hcz9_1,hcz9_2,hcz9_3,hcz9_4,hcz9_5,hfz9_0⟩:=qc6_ BK101)|((with_reducible refine gate_callee (f:=23) rfl ?_);refine goesL_ (some 9) rfl rfl Try.func23 qK rfl #[.agg #[.int .i64 a0_0,.int .i64 a0_1,.int .i64 a0_2,.int .i64 a0_3,.string a0_4,.slice A0_5 l0_5.length c0_5]] rfl qll_ ?_;(with_reducible refine(z23_.calls a0_0 a0_1 a0_2 a0_3 a0_4 _ _ l0_5 t103 _ ?side1 ?side2 A4.out).mono ?_);(case side1=>exact qcc_ (Kd.C_below HR0_5.out HB.out));(case side2=>exact HC0_5.out);rintro e w10 ⟨rfl,hb⟩;refine⟨_,rfl,?_⟩;replace BK101:=qM_ (blk_below (qk_ BK101) hb);replace HB:=qM_ (below_step qBHB hb);(try clear hb);(try clear hb2);(try clear hk);(try clear hi)))
   go_ret2
   exact⟨_,qee_,Kd.G_of_R (Kd.R_nil _ _ _ _ _),qBHB⟩
  ·rw[if_neg c5]at H
   have c5b0:decide (20000 < (t103.size:Int))=false:=decide_eq_false c5;have c5b1:decide (20000 < t103.size)=false:=decide_eq_false (by omega);clear c5;by_cases c11:t103.size≤9223372036854775807
   ·rw[if_pos c11]at H
    have c11b0:=eq_true c11;have c11b1:decide (t103.size≤9223372036854775807)=true:=decide_eq_true c11
    try have c11b2:(9223372036854775807 < t103.size)=False:=eq_false (Nat.not_lt.2 c11)
    clear c11
    obtain⟨y104,hy104⟩:∃ y_:List Int,y_=(bytesOf t103):=⟨_,rfl⟩
    replace H:(some (y104,0))=some (r1,r2):=qh_ hy104 H;have Ny104:=qM_ hy104;clear hy104;simp only[Option.some.injEq,Prod.mk.injEq]at H;obtain⟨rfl,rfl⟩:=H;go_enter Try.func8,Try.ntmps8
    go_wp2_with (first|((with_reducible refine gate_dst (N:=1) rfl ?_);refine box_event ?hg (N:=1) ?hd (cs:=#[.int .i64 a0_0,.int .i64 a0_1,.int .i64 a0_2,.int .i64 a0_3,.string a0_4,.slice A0_5 l0_5.length c0_5]) (t:=31) ?hr ?_;(case hd=>rfl);(case hg=>rfl);(case hr=>first|(go_simp;done)|(go_simp;rfl));intro gb101 hg w12 hbox hb;have BK101:=qM_ (hbox);have GW101:=qM_ ((by rw[hg];exact(below_size qBHB):w.heap.size≤gb101));have GE101:=qM_ ((by rw[hg];exact(below_size qBHB):w.heap.size≤gb101));replace HB:=qM_ (below_step qBHB hb);clear hb hbox hg;obtain⟨hcz13_0,hcz13_1,hcz13_2,hcz13_3,hcz13_4,hcz13_5,hfz13_0⟩:=qc6_ BK101)|((with_reducible refine gate_callee (f:=17) rfl ?_);refine goesL_ (some 6) rfl rfl Try.func17 qK rfl #[.agg #[.int .i64 a0_0,.int .i64 a0_1,.int .i64 a0_2,.int .i64 a0_3,.string a0_4,.slice A0_5 l0_5.length c0_5]] rfl qll_ ?_;(with_reducible refine(z17_.calls k a0_0 a0_1 a0_2 a0_3 a0_4 _ _ l0_5 true _ ?side1 ?side2 A2.out).mono ?_);(case side1=>exact qcc_ (Kd.C_below HR0_5.out HB.out));(case side2=>exact HC0_5.out);rintro e w14 ⟨rfl,hb⟩;refine⟨_,rfl,?_⟩;replace BK101:=qM_ (blk_below (qk_ BK101) hb);replace HB:=qM_ (below_step qBHB hb);(try clear hb);(try clear hb2);(try clear hk);(try clear hi);obtain⟨hcz15_0,hcz15_1,hcz15_2,hcz15_3,hcz15_4,hcz15_5,hfz15_0⟩:=qc6_ BK101)|((with_reducible refine gate_callee (f:=23) rfl ?_);refine goesL_ (some 9) rfl rfl Try.func23 qK rfl #[.agg #[.int .i64 a0_0,.int .i64 a0_1,.int .i64 a0_2,.int .i64 a0_3,.string a0_4,.slice A0_5 l0_5.length c0_5]] rfl qll_ ?_;(with_reducible refine(z23_.calls a0_0 a0_1 a0_2 a0_3 a0_4 _ _ l0_5 t103 _ ?side1 ?side2 A4.out).mono ?_);(case side1=>exact qcc_ (Kd.C_below HR0_5.out HB.out));(case side2=>exact HC0_5.out);rintro e w16 ⟨rfl,hb⟩;refine⟨_,rfl,?_⟩;replace BK101:=qM_ (blk_below (qk_ BK101) hb);replace HB:=qM_ (below_step qBHB hb);(try clear hb);(try clear hb2);(try clear hk);(try clear hi))|((with_reducible refine gate_dst (N:=14) rfl ?_);refine Kd.G_conv _ rfl (N' := 14) rfl 9 26 5 _ rfl t103 rfl Try.underlying9 Try.underlying26 Try.underlying5 (qd_) (Below.refl _ _) (Nat.le_refl _) ?_;intro v105 w17 ho18 hb hg_ hnew_;clear hg_ hnew_;(first|rw[← Ny104.out]at ho18|(simp only[Int.reduceToNat]at ho18;rw[← Ny104.out]at ho18));have HO106:=qM_ (Kd.G_lower (Kd.G_mono (ok' := fun k_=>(w.heap.size≤k_)∧k_≠gb101) ho18 (fun k_ hk_=>⟨(Nat.le_trans (below_size qBHB) hk_),(Kd.freshB (qk_ BK101) k_ hk_)⟩)) (below_size qBHB));replace BK101:=qM_ (blk_below (qk_ BK101) hb);replace HB:=qM_ (below_step qBHB hb);clear hb ho18))
    go_ret2
    exact⟨_,qee_,by(with_reducible repeat(first|apply Kd.G_alloc|apply Kd.G_drewN|apply Kd.G_drew));exact Kd.G_mono HO106.out (fun _ _=>trivial),qBHB⟩
   ·rw[if_neg c11]at H
    exact absurd H (by simp)
 ·replace c3:=Bool.eq_false_iff.mpr c3
  subst c3
  have H1:(some (([]:List Int),1))=some (r1,r2):=by rw[if_neg (show ¬(false=true)by decide)]at H;exact H
  clear H;have H:=H1;clear H1;simp only[Option.some.injEq,Prod.mk.injEq]at H;obtain⟨rfl,rfl⟩:=H;go_enter Try.func8,Try.ntmps8
  go_wp2_with (first|((with_reducible refine gate_dst (N:=1) rfl ?_);refine box_event ?hg (N:=1) ?hd (cs:=#[.int .i64 a0_0,.int .i64 a0_1,.int .i64 a0_2,.int .i64 a0_3,.string a0_4,.slice A0_5 l0_5.length c0_5]) (t:=31) ?hr ?_;(case hd=>rfl);(case hg=>rfl);(case hr=>first|(go_simp;done)|(go_simp;rfl));intro gb101 hg w19 hbox hb;have BK101:=qM_ (hbox);have GW101:=qM_ ((by rw[hg];exact(below_size qBHB):w.heap.size≤gb101));have GE101:=qM_ ((by rw[hg];exact(below_size qBHB):w.heap.size≤gb101));replace HB:=qM_ (below_step qBHB hb);clear hb hbox hg;obtain⟨hcz20_0,hcz20_1,hcz20_2,hcz20_3,hcz20_4,hcz20_5,hfz20_0⟩:=qc6_ BK101)|((with_reducible refine gate_callee (f:=17) rfl ?_);refine goesL_ (some 6) rfl rfl Try.func17 qK rfl #[.agg #[.int .i64 a0_0,.int .i64 a0_1,.int .i64 a0_2,.int .i64 a0_3,.string a0_4,.slice A0_5 l0_5.length c0_5]] rfl qll_ ?_;(with_reducible refine(z17_.calls k a0_0 a0_1 a0_2 a0_3 a0_4 _ _ l0_5 false _ ?side1 ?side2 A2.out).mono ?_);(case side1=>exact qcc_ (Kd.C_below HR0_5.out HB.out));(case side2=>exact HC0_5.out);rintro e w21 ⟨rfl,hb⟩;refine⟨_,rfl,?_⟩;replace BK101:=qM_ (blk_below (qk_ BK101) hb);replace HB:=qM_ (below_step qBHB hb);(try clear hb);(try clear hb2);(try clear hk);(try clear hi)))
  go_ret2
  exact⟨_,qee_,Kd.G_of_R (Kd.R_nil _ _ _ _ _),qBHB⟩

end Go.Proofs.Ytbjefkeogbophaa.P
