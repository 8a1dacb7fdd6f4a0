/- Part 2 of what the law FnMutations stands on; the last part ends with the law's row. No condition of mine. -/
import Derived.Test.YtbjefkeogbophaaMFnMutations1
import Derived.StillTailTactics
import Derived.RegionTactic
import Derived.ChangeAlike
import Derived.BigRegion
namespace Go.Proofs.Ytbjefkeogbophaa.P
open Go.RowKit Go.Proofs.YtbjefkeogbophaaW.PrintWords Go.Proofs.YtbjefkeogbophaaW.PrintLast Go.Proofs.YtbjefkeogbophaaW.PrintMore
attribute [local go_sem] max2_int min2_int max_two min_two max_three min_three max_four min_four   -- for this text's walks alone
set_option linter.unusedVariables false
set_option linter.unusedSimpArgs false

/-- A state of type 77 at block g of W; what its slices lead to came in by w0. -/
def IsS77 (w0 W:World) (g:Nat) (f0:List Int) (f1:Int) (f2:Int):Prop:=∃ A0 c0,W.heap[g]? = some (.cells #[.slice A0 f0.length c0,.int .i64 f1,.int .i64 f2] 77 (0,0))∧w0.heap.size≤g∧Kd.C (Kd.int .u8) w0 A0 f0.length f0
theorem IsS77.grown {w0 W:World} {g:Nat} {f0:List Int} {f1:Int} {f2:Int} {W1:World} {row:Option Nat} (h:IsS77 w0 W g f0 f1 f2) (hw:W.grownBy W1 row) (hne:some g≠row):IsS77 w0 W1 g f0 f1 f2:=by
 obtain⟨A0,c0,hb,hg,hr0⟩:=h
 exact⟨A0,c0,blk_grown hb hw hne,hg,hr0⟩
theorem IsS77.own_neN {w0 W:World} {g:Nat} {f0:List Int} {f1:Int} {f2:Int} {α:Type} {d:Kd α} {e:Nat} {base:Nat} {ok:Nat→Prop} {v:Value} {xs:List α} (h:IsS77 w0 W g f0 f1 f2) (ho:Kd.N d e W base ok v xs) (ht:e≠77):some g≠v.ownBlock:=by
 obtain⟨A0,c0,hb,hg,hr0⟩:=h
 exact Kd.N_ne ho hb ht
theorem IsS77.fresh {w0 W:World} {g:Nat} {f0:List Int} {f1:Int} {f2:Int} (h:IsS77 w0 W g f0 f1 f2):∀ k,W.heap.size≤k→k≠g:=by
 obtain⟨A0,c0,hb,hg,hr0⟩:=h
 exact Kd.freshB hb
theorem IsS77.kept {w0 W:World} {g:Nat} {f0:List Int} {f1:Int} {f2:Int} {W1:World} {S:Nat→Prop} (h:IsS77 w0 W g f0 f1 f2) (hk:Kept W W1 S) (hne:¬ S g):IsS77 w0 W1 g f0 f1 f2:=by
 obtain⟨A0,c0,hb,hg,hr0⟩:=h
 exact⟨A0,c0,blk_kept hb hk hne,hg,hr0⟩
theorem IsS77.below {w0 W:World} {g:Nat} {f0:List Int} {f1:Int} {f2:Int} {W1:World} (h:IsS77 w0 W g f0 f1 f2) (hw:Below W.heap.size W W1):IsS77 w0 W1 g f0 f1 f2:=h.grown (grown_of_below hw none) (by simp)
theorem IsS77.alloc {w0 W:World} {g:Nat} {f0:List Int} {f1:Int} {f2:Int} (h:IsS77 w0 W g f0 f1 f2) (o:Obj):IsS77 w0 (W.alloc o) g f0 f1 f2:=h.below (qA_ (Below.refl _ _) o)
theorem IsS77.drewN {w0 W:World} {g:Nat} {f0:List Int} {f1:Int} {f2:Int} (h:IsS77 w0 W g f0 f1 f2) (m:Nat):IsS77 w0 (W.drewN m) g f0 f1 f2:=h
theorem IsS77.drew {w0 W:World} {g:Nat} {f0:List Int} {f1:Int} {f2:Int} (h:IsS77 w0 W g f0 f1 f2):IsS77 w0 W.drew g f0 f1 f2:=h
theorem IsS77.at_ {w0 W:World} {g:Nat} {f0:List Int} {f1:Int} {f2:Int} {w' : World} {m:Nat} (hq:W.drewN m=w') (h:IsS77 w0 W g f0 f1 f2):IsS77 w0 w' g f0 f1 f2:=by subst hq;exact IsS77.drewN h m
theorem IsS77.apart {w0 W:World} {g:Nat} {f0:List Int} {f1:Int} {f2:Int} {α:Type} {d:Kd α} {e:Nat} {base:Nat} {ok:Nat→Prop} {v:Value} {xs:List α} (h:IsS77 w0 W g f0 f1 f2) (ho:d.R e W base ok v xs) (ht:∀ q,q ∈ e :: d.E→q≠77):d.R e W base (fun k=>ok k∧k≠g) v xs:=by
 obtain⟨A0,c0,hb,hg,hr0⟩:=h
 exact Kd.R_types ho hb ht
theorem IsS77.own_ne {w0 W:World} {g:Nat} {f0:List Int} {f1:Int} {f2:Int} {α:Type} {d:Kd α} {e:Nat} {base:Nat} {ok:Nat→Prop} {v:Value} {xs:List α} (h:IsS77 w0 W g f0 f1 f2) (ho:d.R e W base ok v xs) (ht:e≠77):some g≠v.ownBlock:=by
 obtain⟨A0,c0,hb,hg,hr0⟩:=h
 exact Kd.R_ne ho hb ht
theorem IsS77.apartQ {w0 W:World} {g:Nat} {f0:List Int} {f1:Int} {f2:Int} {α:Type} {d:Kd α} {e:Nat} {base:Nat} {ok:Nat→Prop} {v:Value} {xs:List α} (h:IsS77 w0 W g f0 f1 f2) (ho:d.Q e W base ok v xs) (ht:∀ q,q ∈ e :: d.E→q≠77):d.Q e W base (fun k=>ok k∧k≠g) v xs:=by
 obtain⟨A0,c0,hb,hg,hr0⟩:=h
 exact Kd.Q_types ho hb ht
theorem IsS77.own_neQ {w0 W:World} {g:Nat} {f0:List Int} {f1:Int} {f2:Int} {α:Type} {d:Kd α} {e:Nat} {base:Nat} {ok:Nat→Prop} {v:Value} {xs:List α} (h:IsS77 w0 W g f0 f1 f2) (ho:d.Q e W base ok v xs) (ht:e≠77):some g≠v.ownBlock:=by
 obtain⟨A0,c0,hb,hg,hr0⟩:=h
 exact Kd.Q_ne ho hb ht
theorem IsS77.apartS {w0 W:World} {g:Nat} {f0:List Int} {f1:Int} {f2:Int} {α:Type} {d:Kd α} {e:Nat} {base:Nat} {ok:Nat→Prop} {v:Value} {xs:List α} (h:IsS77 w0 W g f0 f1 f2) (ho:d.S e W base ok v xs) (ht:∀ q,q ∈ e :: d.E→q≠77):d.S e W base (fun k=>ok k∧k≠g) v xs:=by
 obtain⟨A0,c0,hb,hg,hr0⟩:=h
 exact Kd.S_types ho hb ht
theorem IsS77.own_neS {w0 W:World} {g:Nat} {f0:List Int} {f1:Int} {f2:Int} {α:Type} {d:Kd α} {e:Nat} {base:Nat} {ok:Nat→Prop} {v:Value} {xs:List α} (h:IsS77 w0 W g f0 f1 f2) (ho:d.S e W base ok v xs) (ht:e≠77):some g≠v.ownBlock:=by
 obtain⟨A0,c0,hb,hg,hr0⟩:=h
 exact Kd.S_ne ho hb ht
theorem IsS77.lt {w0 W:World} {g:Nat} {f0:List Int} {f1:Int} {f2:Int} (h:IsS77 w0 W g f0 f1 f2):g < W.heap.size:=by
 obtain⟨A0,c0,hb,hg,hr0⟩:=h
 exact blk_lt hb
theorem IsS77.ge {w0 W:World} {g:Nat} {f0:List Int} {f1:Int} {f2:Int} (h:IsS77 w0 W g f0 f1 f2):w0.heap.size≤g:=by
 obtain⟨A0,c0,hb,hg,hr0⟩:=h
 exact hg
theorem IsS77.ne_blk {w0 W:World} {g:Nat} {f0:List Int} {f1:Int} {f2:Int} {a:Nat} {cs:Array Value} {t:TypeId} {fr:Nat × Nat} (h:IsS77 w0 W g f0 f1 f2) (hb2:W.heap[a]? = some (.cells cs t fr)) (ht:t≠77):g≠a:=by
 obtain⟨A0,c0,hb,hg,hr0⟩:=h
 rintro rfl
 rw[hb]at hb2
 injection hb2 with hb2
 injection hb2 with _ ht2
 exact ht ht2.symm
theorem IsS77.far {w0 W:World} {g:Nat} {f0:List Int} {f1:Int} {f2:Int} {p:Addr} (h:IsS77 w0 W g f0 f1 f2) (hne:g≠p.block) (u:Value):IsS77 w0 (W.setCell p u) g f0 f1 f2:=by
 obtain⟨A0,c0,hb,hg,hr0⟩:=h
 exact⟨A0,c0,blk_far hb hne u,hg,hr0⟩
theorem cellS77_0 {W:World} {g:Nat} {A0:Option Addr} {c0:Nat} {f0:List Int} {f1:Int} {f2:Int} (h:W.heap[g]? = some (.cells #[.slice A0 f0.length c0,.int .i64 f1,.int .i64 f2] 77 (0,0))):W.cell? ⟨g,0,none⟩=some (.slice A0 f0.length c0):=(qC_ h 0).trans rfl
theorem cellS77_1 {W:World} {g:Nat} {A0:Option Addr} {c0:Nat} {f0:List Int} {f1:Int} {f2:Int} (h:W.heap[g]? = some (.cells #[.slice A0 f0.length c0,.int .i64 f1,.int .i64 f2] 77 (0,0))):W.cell? ⟨g,1,none⟩=some (.int .i64 f1):=(qC_ h 1).trans rfl
theorem IsS77.set_1 {w0 W:World} {g:Nat} {f0:List Int} {f1:Int} {f2:Int} (h:IsS77 w0 W g f0 f1 f2) (x:Int):IsS77 w0 (W.setCell ⟨g,1,none⟩ (.int .i64 x)) g f0 x f2:=by
 obtain⟨A0,c0,hb,hg,hr0⟩:=h
 exact⟨A0,c0,by simpa using blk_set hb 1 (.int .i64 x),hg,hr0⟩
theorem cellS77_2 {W:World} {g:Nat} {A0:Option Addr} {c0:Nat} {f0:List Int} {f1:Int} {f2:Int} (h:W.heap[g]? = some (.cells #[.slice A0 f0.length c0,.int .i64 f1,.int .i64 f2] 77 (0,0))):W.cell? ⟨g,2,none⟩=some (.int .i64 f2):=(qC_ h 2).trans rfl
theorem IsS77.set_2 {w0 W:World} {g:Nat} {f0:List Int} {f1:Int} {f2:Int} (h:IsS77 w0 W g f0 f1 f2) (x:Int):IsS77 w0 (W.setCell ⟨g,2,none⟩ (.int .i64 x)) g f0 f1 x:=by
 obtain⟨A0,c0,hb,hg,hr0⟩:=h
 exact⟨A0,c0,by simpa using blk_set hb 2 (.int .i64 x),hg,hr0⟩
theorem IsS77.new (w0 W:World) (A0:Option Addr) (c0:Nat) (f0:List Int) (f1:Int) (f2:Int) (hB:Below w0.heap.size w0 W) (hr0:Kd.C (Kd.int .u8) w0 A0 f0.length f0):IsS77 w0 (W.alloc (.cells #[.slice A0 f0.length c0,.int .i64 f1,.int .i64 f2] 77)) W.heap.size f0 f1 f2:=⟨A0,c0,by simpa using heap_alloc_new W _,hB.size,hr0⟩

/-! ### z26_: function 26 -/
def z26_.f (l0:List Int):Option (List Int × Int × Int):=some (l0,0,(l0.length:Int) % 1000)
set_option maxHeartbeats 8000000 in
set_option maxRecDepth 100000 in
theorem z26_.calls (A0:Option Addr) (c0:Nat) (l0:List Int) (r1:List Int) (r2:Int) (r3:Int) (w0 w:World) (hB:Below w0.heap.size w0 w) (hr0:Kd.C (Kd.int .u8) w0 A0 l0.length l0) (hc0:l0.length≤c0) (h:z26_.f l0=some (r1,r2,r3)) :
  Calls Try.prog 26 #[.slice A0 l0.length c0] w fun e w' => ∃ g_:Nat,e= .returned (.pointer (some ⟨g_,0,none⟩))∧IsS77 w0 w' g_ r1 r2 r3∧Below w0.heap.size w0 w' ∧ Below w.heap.size w w' := by
 have hu77:=Try.underlying77
 have HR0:=qM_ hr0
 have HC0:=qM_ hc0
 clear hr0 hc0
 have HBW:=qM_ (Below.refl w.heap.size w)
 have HW0:=qM_ hB.size
 have HB:=qM_ hB
 clear hB
 have H:(some (l0,0,(l0.length:Int) % 1000))=some (r1,r2,r3):=h
 clear h
 simp only[Option.some.injEq,Prod.mk.injEq]at H
 obtain⟨rfl,rfl,rfl⟩:=H
 go_enter Try.func26,Try.ntmps26
 go_wp2_with (first|((with_reducible refine gate_dst (N:=8) rfl ?_);refine box_event ?hg (N:=8) ?hd (cs:=#[.slice A0 l0.length c0,.int .i64 0,.int .i64 ((l0.length:Int) % 1000)]) (t:=77) ?hr ?_;(case hd=>rfl);(case hg=>rfl);(case hr=>first|(go_simp;done)|(go_simp;rfl));intro gb101 hg w2 hbox hb;replace HB:=qM_ (below_step qBHB hb);have BK101:=qM_ (hbox);have GW101:=qM_ ((by rw[hg];exact(below_size qBHBW):w.heap.size≤gb101));have GE101:=qM_ ((Nat.le_trans HW0.out (by rw[hg];exact(below_size qBHBW):w.heap.size≤gb101):w0.heap.size≤gb101));replace HBW:=qM_ (below_step HBW.out hb);clear hb hbox hg))
 go_ret
 exact⟨_,rfl,(show IsS77 w0 _ gb101 l0 0 ((l0.length:Int) % 1000)from⟨_,_,qk_ BK101,GE101.out,HR0.out⟩),qBHB,qBHBW⟩


/-! ### z61_: function 61 (a text of mine) -/
def z61_.f (s0_0:List Int) (s0_1:Int) (s0_2:Int):Option (Int × Int × Int) :=
 if 0≤s0_1∧s0_1≤4611686018427387904∧0≤s0_2∧s0_2 < 2147483648 then
  (if s0_1+1≤(s0_0.length:Int)then(if 0≤rd s0_0 s0_1∧rd s0_0 s0_1≤255 then some (rd s0_0 s0_1,s0_1+1,(s0_2*31+rd s0_0 s0_1+7) % 2147483648)else none)
  else if s0_1+1 > 3000 then some (0,s0_1+1,s0_2)
  else some ((s0_2*1103515245+12345) % 2147483648 / 65536 % 256,s0_1+1,(s0_2*1103515245+12345) % 2147483648))
 else none
set_option maxHeartbeats 8000000 in
set_option maxRecDepth 100000 in
theorem z61_.calls (g:Nat) (s0_0:List Int) (s0_1:Int) (s0_2:Int) (r1:Int) (r2:Int) (r3:Int) (w0 w:World) (hI:IsS77 w0 w g s0_0 s0_1 s0_2) (hB:Below w0.heap.size w0 w) (h:z61_.f s0_0 s0_1 s0_2=some (r1,r2,r3)) :
  Calls Try.prog 61 #[.pointer (some ⟨g,0,none⟩)] w fun e w' => e= .returned (.int .i64 r1)∧IsS77 w0 w' g s0_0 r2 r3∧Below w0.heap.size w0 w' ∧ KeepBut w w' g none:=by
 have HI0:=qM_ hI
 have HK:=qM_ (KeepBut.refl w g none)
 have HL:=qM_ hB.size
 clear hI
 have HB:=qM_ hB
 clear hB
 unfold z61_.f at h
 split at h
 ·rename_i hbd
  obtain⟨a0,a1,a2,a3⟩:=hbd;obtain⟨A0,c0,HG,hg,hC⟩:=HI0.out;have HC:=qM_ hC;clear hC;have hz0:=cellS77_0 HG;have hz1:=cellS77_1 HG;have hz2:=cellS77_2 HG;have hf0:=qF_ HG 0;have hf1:=qF_ HG 1;have hf2:=qF_ HG 2;clear HG hg
  split at h
  ·rename_i c1
   split at h
   ·rename_i c2
    simp only[Option.some.injEq,Prod.mk.injEq]at h;obtain⟨rfl,rfl,rfl⟩:=h;obtain⟨ad,e1,hx⟩:=Kd.at_int HC.out s0_1 a0 (by omega);cases e1;have hd:decide (s0_1+1≤(s0_0.length:Int))=true:=decide_eq_true c1
    have hc1:s0_1+1 - 1=s0_1:=by omega
    have hlt:s0_1 < (s0_0.length:Int):=by omega
    obtain⟨c2a,c2b⟩:=c2;have hgl:g < w.heap.size:=IsS77.lt HI0.out;have hgb:w0.heap.size≤g:=IsS77.ge HI0.out;have hxl:=qL_ _ _ hx;have hxw:=(HB.out.cell (p:=(ad.add s0_1.toNat)) hxl).trans hx
    have hne:∀ o:Nat,(⟨g,o,none⟩:Addr)≠ad.add s0_1.toNat:=fun o e=>by
     have e2:g=(ad.add s0_1.toNat).block:=congrArg Addr.block e
     omega
    have hx2:(w.setCell ⟨g,1,none⟩ (.int .i64 (s0_1+1))).cell? (ad.add s0_1.toNat)=some (.int .u8 (rd s0_0 s0_1)):=by
     rw[World.cell?_setCell_other]
     ·exact hxw
     ·exact hne 1
    have hx3:∀ m:Nat,(((w.setCell ⟨g,1,none⟩ (.int .i64 (s0_1+1))).drewN m).setCell ⟨g,2,none⟩ (.int .i64 ((s0_2*31+rd s0_0 s0_1+7) % 2147483648))).cell? (ad.add s0_1.toNat)=some (.int .u8 (rd s0_0 s0_1)):=fun m=>by
     rw[World.cell?_setCell_other]
     ·exact hx2
     ·exact hne 2
    clear hne;go_enter Try.func61,Try.ntmps61
    go_wp2
    go_quiet (fail)
    go_wp2
    go_region
    go_wp2
    go_region
    go_wp2
    go_ret;exact⟨qee_,qI77HI0,qBHB,qKHK⟩
   ·cases h
  ·rename_i c1
   have hd:decide (s0_1+1≤(s0_0.length:Int))=false:=decide_eq_false c1
   split at h
   ·rename_i c2
    simp only[Option.some.injEq,Prod.mk.injEq]at h;obtain⟨rfl,rfl,rfl⟩:=h;have hd2:decide (3000 < s0_1+1)=true:=decide_eq_true c2;go_enter Try.func61,Try.ntmps61
    go_wp2
    go_quiet (fail)
    go_wp2
    go_ret;exact⟨qee_,qI77HI0,qBHB,qKHK⟩
   ·rename_i c2
    simp only[Option.some.injEq,Prod.mk.injEq]at h;obtain⟨rfl,rfl,rfl⟩:=h;have hd2:decide (3000 < s0_1+1)=false:=decide_eq_false c2;go_enter Try.func61,Try.ntmps61
    go_wp2
    go_quiet (fail)
    go_wp2
    go_ret;exact⟨qee_,qI77HI0,qBHB,qKHK⟩
 ·cases h


/-! ### z47_: function 47 -/
def z47_.f (s0_0:List Int) (s0_1:Int) (s0_2:Int) (a1:Int):Option (Int × Int × Int):=if a1≤1 then(some (0,s0_1,s0_2))else(if a1≤256 then((z61_.f s0_0 s0_1 s0_2).bind fun bt101=>(if a1=0 then(none)else(some (Int.tmod bt101.1 a1,bt101.2.1,bt101.2.2))))else((z61_.f s0_0 s0_1 s0_2).bind fun bt104=>((z61_.f s0_0 bt104.2.1 bt104.2.2).bind fun bt107=>((z61_.f s0_0 bt107.2.1 bt107.2.2).bind fun bt110=>(if a1=0 then(none)else(some (Int.tmod (wrap64 ((wrap64 ((wrap64 (bt104.1*65536))+(wrap64 (bt107.1*256))))+bt110.1)) a1,bt110.2.1,bt110.2.2)))))))
set_option maxHeartbeats 8000000 in
set_option maxRecDepth 100000 in
theorem z47_.calls (g:Nat) (s0_0:List Int) (s0_1:Int) (s0_2:Int) (a1:Int) (r1:Int) (r2:Int) (r3:Int) (w0 w:World) (hI:IsS77 w0 w g s0_0 s0_1 s0_2) (hB:Below w0.heap.size w0 w) (h:z47_.f s0_0 s0_1 s0_2 a1=some (r1,r2,r3)) :
  Calls Try.prog 47 #[.pointer (some ⟨g,0,none⟩),.int .i64 a1] w fun e w' => e= .returned (.int .i64 r1)∧IsS77 w0 w' g s0_0 r2 r3∧Below w0.heap.size w0 w' ∧ KeepBut w w' g none:=by
 have HI0:=qM_ hI
 have HK:=qM_ (KeepBut.refl w g none)
 have HL:=qM_ hB.size
 clear hI
 have HW0:=qM_ hB.size
 have HB:=qM_ hB
 clear hB
 have H:(if a1≤1 then(some (0,s0_1,s0_2))else(if a1≤256 then((z61_.f s0_0 s0_1 s0_2).bind fun bt101=>(if a1=0 then(none)else(some (Int.tmod bt101.1 a1,bt101.2.1,bt101.2.2))))else((z61_.f s0_0 s0_1 s0_2).bind fun bt104=>((z61_.f s0_0 bt104.2.1 bt104.2.2).bind fun bt107=>((z61_.f s0_0 bt107.2.1 bt107.2.2).bind fun bt110=>(if a1=0 then(none)else(some (Int.tmod (wrap64 ((wrap64 ((wrap64 (bt104.1*65536))+(wrap64 (bt107.1*256))))+bt110.1)) a1,bt110.2.1,bt110.2.2))))))))=some (r1,r2,r3):=h
 clear h
 by_cases c3:a1≤1
 ·rw[if_pos c3]at H
  have c3b0:decide (a1≤1)=true:=decide_eq_true c3;clear c3;simp only[Option.some.injEq,Prod.mk.injEq]at H;obtain⟨rfl,rfl,rfl⟩:=H;go_enter Try.func47,Try.ntmps47
  go_wp2
  go_ret;exact⟨qee_,qI77HI0,qBHB,qKHK⟩
 ·rw[if_neg c3]at H
  have c3b0:decide (a1≤1)=false:=decide_eq_false c3;clear c3;by_cases c4:a1≤256
  ·rw[if_pos c4]at H
   have c4b0:decide (a1≤256)=true:=decide_eq_true c4;clear c4;replace H:=Option.bind_eq_some_iff.mp H;obtain⟨⟨t101,t102,t103⟩,A50,H⟩:=H;dsimp only at H;have A5:=qM_ A50;clear A50;by_cases c6:a1=0
   ·rw[if_pos c6]at H
    exact absurd H (by simp)
   ·rw[if_neg c6]at H
    have c6b0:(a1 == 0)=false:=beq_eq_false_iff_ne.mpr c6;have c6b1:(a1 != 0)=true:=bne_iff_ne.mpr c6;simp only[Option.some.injEq,Prod.mk.injEq]at H;obtain⟨rfl,rfl,rfl⟩:=H;go_enter Try.func47,Try.ntmps47
    go_wp2_with (first|((with_reducible refine gate_callee (f:=61) rfl ?_);refine goesL_ (some 13) rfl rfl Try.func61 qK rfl #[.pointer (some ⟨g,0,none⟩)] rfl qll_ ?_;(with_reducible refine(z61_.calls g s0_0 s0_1 s0_2 t101 t102 t103 w0 _ ?side1 ?side2 A5.out).mono ?_);(case side1=>exact qI77HI0);(case side2=>exact qBHB);rintro e w7 ⟨rfl,hi,hb,hk⟩;refine⟨_,rfl,?_⟩;replace HK:=qM_ (KeepBut.trans qKHK hk (.inl rfl));replace HB:=qM_ (hb);replace HI0:=qM_ (hi);(try clear hb);(try clear hb2);(try clear hk);(try clear hi)))
    go_ret;exact⟨qee_,qI77HI0,qBHB,qKHK⟩
  ·rw[if_neg c4]at H
   have c4b0:decide (a1≤256)=false:=decide_eq_false c4;clear c4;replace H:=Option.bind_eq_some_iff.mp H;obtain⟨⟨t104,t105,t106⟩,A80,H⟩:=H;dsimp only at H;have A8:=qM_ A80;clear A80;replace H:=Option.bind_eq_some_iff.mp H;obtain⟨⟨t107,t108,t109⟩,A90,H⟩:=H;dsimp only at H;have A9:=qM_ A90;clear A90;replace H:=Option.bind_eq_some_iff.mp H;obtain⟨⟨t110,t111,t112⟩,A100,H⟩:=H;dsimp only at H;have A10:=qM_ A100;clear A100;by_cases c11:a1=0
   ·rw[if_pos c11]at H
    exact absurd H (by simp)
   ·rw[if_neg c11]at H
    have c11b0:(a1 == 0)=false:=beq_eq_false_iff_ne.mpr c11;have c11b1:(a1 != 0)=true:=bne_iff_ne.mpr c11;simp only[Option.some.injEq,Prod.mk.injEq]at H;obtain⟨rfl,rfl,rfl⟩:=H;go_enter Try.func47,Try.ntmps47
    go_wp2_with (first|((with_reducible refine gate_callee (f:=61) rfl ?_);refine goesL_ (some 17) rfl rfl Try.func61 qK rfl #[.pointer (some ⟨g,0,none⟩)] rfl qll_ ?_;(with_reducible refine(z61_.calls g s0_0 s0_1 s0_2 t104 t105 t106 w0 _ ?side1 ?side2 A8.out).mono ?_);(case side1=>exact qI77HI0);(case side2=>exact qBHB);rintro e w12 ⟨rfl,hi,hb,hk⟩;refine⟨_,rfl,?_⟩;replace HK:=qM_ (KeepBut.trans qKHK hk (.inl rfl));replace HB:=qM_ (hb);replace HI0:=qM_ (hi);(try clear hb);(try clear hb2);(try clear hk);(try clear hi))|((with_reducible refine gate_callee (f:=61) rfl ?_);refine goesL_ (some 19) rfl rfl Try.func61 qK rfl #[.pointer (some ⟨g,0,none⟩)] rfl qll_ ?_;(with_reducible refine(z61_.calls g s0_0 t105 t106 t107 t108 t109 w0 _ ?side1 ?side2 A9.out).mono ?_);(case side1=>exact qI77HI0);(case side2=>exact qBHB);rintro e w13 ⟨rfl,hi,hb,hk⟩;refine⟨_,rfl,?_⟩;replace HK:=qM_ (KeepBut.trans qKHK hk (.inl rfl));replace HB:=qM_ (hb);replace HI0:=qM_ (hi);(try clear hb);(try clear hb2);(try clear hk);(try clear hi))|((with_reducible refine gate_callee (f:=61) rfl ?_);refine goesL_ (some 21) rfl rfl Try.func61 qK rfl #[.pointer (some ⟨g,0,none⟩)] rfl qll_ ?_;(with_reducible refine(z61_.calls g s0_0 t108 t109 t110 t111 t112 w0 _ ?side1 ?side2 A10.out).mono ?_);(case side1=>exact qI77HI0);(case side2=>exact qBHB);rintro e w14 ⟨rfl,hi,hb,hk⟩;refine⟨_,rfl,?_⟩;replace HK:=qM_ (KeepBut.trans qKHK hk (.inl rfl));replace HB:=qM_ (hb);replace HI0:=qM_ (hi);(try clear hb);(try clear hb2);(try clear hk);(try clear hi)))
    go_ret;exact⟨qee_,qI77HI0,qBHB,qKHK⟩


/-! ### z60_: function 60 -/
def z60_.f (s0_0:List Int) (s0_1:Int) (s0_2:Int) (l1:List ByteArray):Option (ByteArray × Int × Int):=if(l1.length:Int)=0 then(some ((⟨#[]⟩:ByteArray),s0_1,s0_2))else((z47_.f s0_0 s0_1 s0_2 (l1.length:Int)).bind fun bt101=>(if 0≤bt101.1 then(if bt101.1 < (l1.length:Int)then(some (rdOf ByteArray.empty l1 bt101.1,bt101.2.1,bt101.2.2))else(none))else(none)))
set_option maxHeartbeats 8000000 in
set_option maxRecDepth 100000 in
theorem z60_.calls (g:Nat) (s0_0:List Int) (s0_1:Int) (s0_2:Int) (A1:Option Addr) (c1:Nat) (l1:List ByteArray) (r1:ByteArray) (r2:Int) (r3:Int) (w0 w:World) (hI:IsS77 w0 w g s0_0 s0_1 s0_2) (hB:Below w0.heap.size w0 w) (hr1:Kd.C Kd.string w A1 l1.length l1) (hc1:l1.length≤c1) (hf1:∀ ad,A1=some ad→0 < l1.length→ad.block≠g) (h:z60_.f s0_0 s0_1 s0_2 l1=some (r1,r2,r3)) :
  Calls Try.prog 60 #[.pointer (some ⟨g,0,none⟩),.slice A1 l1.length c1] w fun e w' => e= .returned (.string r1)∧IsS77 w0 w' g s0_0 r2 r3∧Below w0.heap.size w0 w' ∧ KeepBut w w' g none:=by
 have HR1:=qM_ hr1
 have HC1:=qM_ hc1
 clear hr1 hc1
 have HI0:=qM_ hI
 have HK:=qM_ (KeepBut.refl w g none)
 have HL:=qM_ hB.size
 clear hI
 have HW0:=qM_ hB.size
 have HB:=qM_ hB
 clear hB
 have H:(if(l1.length:Int)=0 then(some ((⟨#[]⟩:BA_),s0_1,s0_2))else((z47_.f s0_0 s0_1 s0_2 (l1.length:Int)).bind fun bt101=>(if 0≤bt101.1 then(if bt101.1 < (l1.length:Int)then(some (rdOf ByteArray.empty l1 bt101.1,bt101.2.1,bt101.2.2))else(none))else(none))))=some (r1,r2,r3):=h
 clear h
 by_cases c3:(l1.length:Int)=0
 ·rw[if_pos c3]at H
  have c3b0:((l1.length:Int) == 0)=true:=beq_iff_eq.mpr c3;have c3b1:((l1.length:Int) != 0)=false:=bne_eq_false_iff_eq.mpr c3;clear c3;simp only[Option.some.injEq,Prod.mk.injEq]at H;obtain⟨rfl,rfl,rfl⟩:=H;go_enter Try.func60,Try.ntmps60
  go_wp2
  go_ret;exact⟨qee_,qI77HI0,qBHB,qKHK⟩
 ·rw[if_neg c3]at H
  have c3b0:((l1.length:Int) == 0)=false:=beq_eq_false_iff_ne.mpr c3;have c3b1:((l1.length:Int) != 0)=true:=bne_iff_ne.mpr c3
  have c3b2:¬(l1=[]):=fun h_=>c3 (by rw[h_];rfl)
  replace H:=Option.bind_eq_some_iff.mp H;obtain⟨⟨t101,t102,t103⟩,A40,H⟩:=H;dsimp only at H;have A4:=qM_ A40;clear A40;by_cases c5:0≤t101
  ·rw[if_pos c5]at H
   have c5b0:decide (0≤t101)=true:=decide_eq_true c5;clear c5;by_cases c6:t101 < (l1.length:Int)
   ·rw[if_pos c6]at H
    have c6b0:decide (t101 < (l1.length:Int))=true:=decide_eq_true c6;clear c6;simp only[Option.some.injEq,Prod.mk.injEq]at H;obtain⟨rfl,rfl,rfl⟩:=H;go_enter Try.func60,Try.ntmps60
    go_wp2_with (first|((with_reducible refine gate_callee (f:=47) rfl ?_);refine goesL_ (some 12) rfl rfl Try.func47 qK rfl #[.pointer (some ⟨g,0,none⟩),.int .i64 (l1.length:Int)] rfl qll_ ?_;(with_reducible refine(z47_.calls g s0_0 s0_1 s0_2 (l1.length:Int) t101 t102 t103 w0 _ ?side1 ?side2 A4.out).mono ?_);(case side1=>exact qI77HI0);(case side2=>exact qBHB);rintro e w7 ⟨rfl,hi,hb,hk⟩;refine⟨_,rfl,?_⟩;replace HK:=qM_ (KeepBut.trans qKHK hk (.inl rfl));replace HB:=qM_ (hb);replace HI0:=qM_ (hi);(try clear hb);(try clear hb2);(try clear hk);(try clear hi);have p104:0≤(t101:Int):=qd_;have q104:t101 < (l1.length:Int):=qd_;obtain⟨ad104,e104,hx104_0⟩:=Kd.at_string HR1.out t101 p104 q104;cases e104;replace hx104_0:=keep_cell HK.out hx104_0 (by first|(rw[add_block];exact hf1 _ rfl (by omega))|exact hf1 _ rfl (by omega)|exact hf1 ad104 rfl (by omega));replace p104:=eq_true p104;replace q104:=eq_true q104))
    go_ret;exact⟨qee_,qI77HI0,qBHB,qKHK⟩
   ·rw[if_neg c6]at H
    exact absurd H (by simp)
  ·rw[if_neg c5]at H
   exact absurd H (by simp)


/-! ### z46_: function 46 -/
def z46_.f (s0_0:List Int) (s0_1:Int) (s0_2:Int):Option (ByteArray × Int × Int):=(z60_.f s0_0 s0_1 s0_2 (([(⟨#[110,101,119,115]⟩:ByteArray),(⟨#[98,108,111,103]⟩:ByteArray),(⟨#[119,111,114,107]⟩:ByteArray),(⟨#[111,116,104,101,114]⟩:ByteArray)]:List ByteArray))).bind fun bt104=>(some (bt104.1,bt104.2.1,bt104.2.2))
set_option maxHeartbeats 8000000 in
set_option maxRecDepth 100000 in
theorem z46_.calls (g:Nat) (s0_0:List Int) (s0_1:Int) (s0_2:Int) (r1:ByteArray) (r2:Int) (r3:Int) (w0 w:World) (hI:IsS77 w0 w g s0_0 s0_1 s0_2) (hB:Below w0.heap.size w0 w) (h:z46_.f s0_0 s0_1 s0_2=some (r1,r2,r3)) :
  Calls Try.prog 46 #[.pointer (some ⟨g,0,none⟩)] w fun e w' => e= .returned (.string r1)∧IsS77 w0 w' g s0_0 r2 r3∧Below w0.heap.size w0 w' ∧ KeepBut w w' g none:=by
 have HI0:=qM_ hI
 have HK:=qM_ (KeepBut.refl w g none)
 have HL:=qM_ hB.size
 clear hI
 have HW0:=qM_ hB.size
 have HB:=qM_ hB
 clear hB
 have H:((z60_.f s0_0 s0_1 s0_2 (([(⟨#[110,101,119,115]⟩:BA_),(⟨#[98,108,111,103]⟩:BA_),(⟨#[119,111,114,107]⟩:BA_),(⟨#[111,116,104,101,114]⟩:BA_)]:List ByteArray))).bind fun bt104=>(some (bt104.1,bt104.2.1,bt104.2.2)))=some (r1,r2,r3):=h
 clear h
 obtain⟨y101,hy101⟩:∃ y_:List ByteArray,y_=(([(⟨#[110,101,119,115]⟩:BA_),(⟨#[98,108,111,103]⟩:BA_),(⟨#[119,111,114,107]⟩:BA_),(⟨#[111,116,104,101,114]⟩:BA_)]:List ByteArray)):=⟨_,rfl⟩
 replace H:((z60_.f s0_0 s0_1 s0_2 y101).bind fun bt104=>(some (bt104.1,bt104.2.1,bt104.2.2)))=some (r1,r2,r3):=qh_ hy101 H
 have Ny101:=qM_ hy101
 clear hy101
 replace H:=Option.bind_eq_some_iff.mp H
 obtain⟨⟨t104,t105,t106⟩,A20,H⟩:=H
 dsimp only at H
 have A2:=qM_ A20
 clear A20
 simp only[Option.some.injEq,Prod.mk.injEq]at H
 obtain⟨rfl,rfl,rfl⟩:=H
 go_enter Try.func46,Try.ntmps46
 go_wp2_with (first|((with_reducible refine gate_dst (N:=4) rfl ?_);refine Kd.R_lit Kd.string _ 9 ?hg (N:=4) ?hd (xs:=([(⟨#[110,101,119,115]⟩:BA_),(⟨#[98,108,111,103]⟩:BA_),(⟨#[119,111,114,107]⟩:BA_),(⟨#[111,116,104,101,114]⟩:BA_)]:List ByteArray)) (inner:=[.string (⟨#[110,101,119,115]⟩:BA_),.string (⟨#[98,108,111,103]⟩:BA_),.string (⟨#[119,111,114,107]⟩:BA_),.string (⟨#[111,116,104,101,114]⟩:BA_)]) (ok:=fun _=>True) (okp:=fun _=>True) ?hr ?hp (fun _ hk=>hk) trivial (Below.refl _ _) (Nat.le_refl _) (by simp) ?_;(case hd=>rfl);(case hg=>rfl);(case hr=>first|(go_simp;done)|(go_simp;rfl));(case hp=>exact(Reps.one rfl (Reps.one rfl (Reps.one rfl (Reps.one rfl (Reps.none _ _))))));intro v102 w3 ho4 hb hg_ hnew_;clear hg_ hnew_;(first|rw[← Ny101.out]at ho4|(simp only[Int.reduceToNat]at ho4;rw[← Ny101.out]at ho4));have HO103:=qM_ (Kd.R_lower ho4 (keep_size (w:=w) (g:=g) (row:=none) qKHK));replace HK:=qM_ (KeepBut.trans qKHK (KeepBut.of_below hb g none) (.inl rfl));replace HB:=qM_ (below_step qBHB hb);replace HI0:=qM_ (IsS77.below qI77HI0 hb);clear hb ho4;obtain⟨Ao5,co5,eo5⟩:=Kd.R_slice HO103.out;subst eo5)|((with_reducible refine gate_callee (f:=60) rfl ?_);refine goesL_ (some 5) rfl rfl Try.func60 qK rfl #[.pointer (some ⟨g,0,none⟩),.slice Ao5 y101.length co5] rfl qll_ ?_;(with_reducible refine(z60_.calls g s0_0 s0_1 s0_2 _ _ y101 t104 t105 t106 w0 _ ?side1 ?side2 ?side3 ?side4 ?side5 A2.out).mono ?_);(case side1=>exact qI77HI0);(case side2=>exact qBHB);(case side3=>exact qcc_ (Kd.R_reads' HO103.out).2.2);(case side4=>exact(Kd.R_reads' HO103.out).2.1);(case side5=>exact far_slice (IsS77.own_ne HI0.out HO103.out (by decide)));rintro e w6 ⟨rfl,hi,hb,hk⟩;refine⟨_,rfl,?_⟩;replace HO103:=qM_ (Kd.R_mono (Kd.R_keep (IsS77.apart (show IsS77 w0 _ g s0_0 s0_1 s0_2 from qI77HI0) (qr_ HO103) (by decide)) hk (fun _ h=>h.2)) (fun _ h=>h.1));replace HK:=qM_ (KeepBut.trans qKHK hk (.inl rfl));replace HB:=qM_ (hb);replace HI0:=qM_ (hi);(try clear hb);(try clear hb2);(try clear hk);(try clear hi)))
 go_ret
 exact⟨qee_,qI77HI0,qBHB,qKHK⟩


/-! ### z62_: function 62 -/
def z62_.f (s0_0:List Int) (s0_1:Int) (s0_2:Int):Option (ByteArray × Int × Int):=(z60_.f s0_0 s0_1 s0_2 (([(⟨#[]⟩:ByteArray),(⟨#[116,105,116,108,101]⟩:ByteArray),(⟨#[97,32,38,32,98]⟩:ByteArray),(⟨#[195,164,195,182,32,226,130,172]⟩:ByteArray),(⟨#[60,120,62]⟩:ByteArray),(⟨#[111,110,101,32,116,119,111]⟩:ByteArray),(⟨#[61,63,117,116,102,45,56,63,81,63,120,63,61]⟩:ByteArray),(⟨#[240,159,152,128]⟩:ByteArray)]:List ByteArray))).bind fun bt104=>(some (bt104.1,bt104.2.1,bt104.2.2))
abbrev z62_.b0:ByteArray:=⟨#[61,63,117,116,102,45,56,63,81,63,120,63,61]⟩
set_option maxHeartbeats 8000000 in
set_option maxRecDepth 100000 in
theorem z62_.calls (g:Nat) (s0_0:List Int) (s0_1:Int) (s0_2:Int) (r1:ByteArray) (r2:Int) (r3:Int) (w0 w:World) (hI:IsS77 w0 w g s0_0 s0_1 s0_2) (hB:Below w0.heap.size w0 w) (h:z62_.f s0_0 s0_1 s0_2=some (r1,r2,r3)) :
  Calls Try.prog 62 #[.pointer (some ⟨g,0,none⟩)] w fun e w' => e= .returned (.string r1)∧IsS77 w0 w' g s0_0 r2 r3∧Below w0.heap.size w0 w' ∧ KeepBut w w' g none:=by
 have HI0:=qM_ hI
 have HK:=qM_ (KeepBut.refl w g none)
 have HL:=qM_ hB.size
 clear hI
 have HW0:=qM_ hB.size
 have HB:=qM_ hB
 clear hB
 have H:((z60_.f s0_0 s0_1 s0_2 (([(⟨#[]⟩:BA_),(⟨#[116,105,116,108,101]⟩:BA_),(⟨#[97,32,38,32,98]⟩:BA_),(⟨#[195,164,195,182,32,226,130,172]⟩:BA_),(⟨#[60,120,62]⟩:BA_),(⟨#[111,110,101,32,116,119,111]⟩:BA_),z62_.b0,(⟨#[240,159,152,128]⟩:BA_)]:List ByteArray))).bind fun bt104=>(some (bt104.1,bt104.2.1,bt104.2.2)))=some (r1,r2,r3):=h
 clear h
 obtain⟨y101,hy101⟩:∃ y_:List ByteArray,y_=(([(⟨#[]⟩:BA_),(⟨#[116,105,116,108,101]⟩:BA_),(⟨#[97,32,38,32,98]⟩:BA_),(⟨#[195,164,195,182,32,226,130,172]⟩:BA_),(⟨#[60,120,62]⟩:BA_),(⟨#[111,110,101,32,116,119,111]⟩:BA_),z62_.b0,(⟨#[240,159,152,128]⟩:BA_)]:List ByteArray)):=⟨_,rfl⟩
 replace H:((z60_.f s0_0 s0_1 s0_2 y101).bind fun bt104=>(some (bt104.1,bt104.2.1,bt104.2.2)))=some (r1,r2,r3):=qh_ hy101 H
 have Ny101:=qM_ hy101
 clear hy101
 replace H:=Option.bind_eq_some_iff.mp H
 obtain⟨⟨t104,t105,t106⟩,A20,H⟩:=H
 dsimp only at H
 have A2:=qM_ A20
 clear A20
 simp only[Option.some.injEq,Prod.mk.injEq]at H
 obtain⟨rfl,rfl,rfl⟩:=H
 go_enter Try.func62,Try.ntmps62
 go_wp2_with (first|((with_reducible refine gate_dst (N:=4) rfl ?_);refine Kd.R_lit Kd.string _ 9 ?hg (N:=4) ?hd (xs:=([(⟨#[]⟩:BA_),(⟨#[116,105,116,108,101]⟩:BA_),(⟨#[97,32,38,32,98]⟩:BA_),(⟨#[195,164,195,182,32,226,130,172]⟩:BA_),(⟨#[60,120,62]⟩:BA_),(⟨#[111,110,101,32,116,119,111]⟩:BA_),z62_.b0,(⟨#[240,159,152,128]⟩:BA_)]:List ByteArray)) (inner:=[.string (⟨#[]⟩:BA_),.string (⟨#[116,105,116,108,101]⟩:BA_),.string (⟨#[97,32,38,32,98]⟩:BA_),.string (⟨#[195,164,195,182,32,226,130,172]⟩:BA_),.string (⟨#[60,120,62]⟩:BA_),.string (⟨#[111,110,101,32,116,119,111]⟩:BA_),.string z62_.b0,.string (⟨#[240,159,152,128]⟩:BA_)]) (ok:=fun _=>True) (okp:=fun _=>True) ?hr ?hp (fun _ hk=>hk) trivial (Below.refl _ _) (Nat.le_refl _) (by simp) ?_;(case hd=>rfl);(case hg=>rfl);(case hr=>first|(go_simp;done)|(go_simp;rfl));(case hp=>exact(Reps.one rfl (Reps.one rfl (Reps.one rfl (Reps.one rfl (Reps.one rfl (Reps.one rfl (Reps.one rfl (Reps.one rfl (Reps.none _ _))))))))));intro v102 w3 ho4 hb hg_ hnew_;clear hg_ hnew_;(first|rw[← Ny101.out]at ho4|(simp only[Int.reduceToNat]at ho4;rw[← Ny101.out]at ho4));have HO103:=qM_ (Kd.R_lower ho4 (keep_size (w:=w) (g:=g) (row:=none) qKHK));replace HK:=qM_ (KeepBut.trans qKHK (KeepBut.of_below hb g none) (.inl rfl));replace HB:=qM_ (below_step qBHB hb);replace HI0:=qM_ (IsS77.below qI77HI0 hb);clear hb ho4;obtain⟨Ao5,co5,eo5⟩:=Kd.R_slice HO103.out;subst eo5)|((with_reducible refine gate_callee (f:=60) rfl ?_);refine goesL_ (some 5) rfl rfl Try.func60 qK rfl #[.pointer (some ⟨g,0,none⟩),.slice Ao5 y101.length co5] rfl qll_ ?_;(with_reducible refine(z60_.calls g s0_0 s0_1 s0_2 _ _ y101 t104 t105 t106 w0 _ ?side1 ?side2 ?side3 ?side4 ?side5 A2.out).mono ?_);(case side1=>exact qI77HI0);(case side2=>exact qBHB);(case side3=>exact qcc_ (Kd.R_reads' HO103.out).2.2);(case side4=>exact(Kd.R_reads' HO103.out).2.1);(case side5=>exact far_slice (IsS77.own_ne HI0.out HO103.out (by decide)));rintro e w6 ⟨rfl,hi,hb,hk⟩;refine⟨_,rfl,?_⟩;replace HO103:=qM_ (Kd.R_mono (Kd.R_keep (IsS77.apart (show IsS77 w0 _ g s0_0 s0_1 s0_2 from qI77HI0) (qr_ HO103) (by decide)) hk (fun _ h=>h.2)) (fun _ h=>h.1));replace HK:=qM_ (KeepBut.trans qKHK hk (.inl rfl));replace HB:=qM_ (hb);replace HI0:=qM_ (hi);(try clear hb);(try clear hb2);(try clear hk);(try clear hi)))
 go_ret
 exact⟨qee_,qI77HI0,qBHB,qKHK⟩


/-! ### z63_: function 63 -/
def z63_.f (s0_0:List Int) (s0_1:Int) (s0_2:Int):Option (Int × Int × Int):=(z47_.f s0_0 s0_1 s0_2 1000000).bind fun bt101=>((z47_.f s0_0 bt101.2.1 bt101.2.2 1000000).bind fun bt104=>((some (([wrap64 (bt101.1*4102),wrap64 ((wrap64 (bt104.1*4000))+86399),0,4102444799,951782400,1709164800]:List Int):List Int)).bind fun y107=>((z47_.f s0_0 bt104.2.1 bt104.2.2 6).bind fun bt110=>(if 0≤bt110.1 then(if bt110.1 < (y107.length:Int)then(some (rd y107 bt110.1,bt110.2.1,bt110.2.2))else(none))else(none)))))
set_option maxHeartbeats 8000000 in
set_option maxRecDepth 100000 in
theorem z63_.calls (g:Nat) (s0_0:List Int) (s0_1:Int) (s0_2:Int) (r1:Int) (r2:Int) (r3:Int) (w0 w:World) (hI:IsS77 w0 w g s0_0 s0_1 s0_2) (hB:Below w0.heap.size w0 w) (h:z63_.f s0_0 s0_1 s0_2=some (r1,r2,r3)) :
  Calls Try.prog 63 #[.pointer (some ⟨g,0,none⟩)] w fun e w' => e= .returned (.int .i64 r1)∧IsS77 w0 w' g s0_0 r2 r3∧Below w0.heap.size w0 w' ∧ KeepBut w w' g none:=by
 have HI0:=qM_ hI
 have HK:=qM_ (KeepBut.refl w g none)
 have HL:=qM_ hB.size
 clear hI
 have HW0:=qM_ hB.size
 have HB:=qM_ hB
 clear hB
 have H:((z47_.f s0_0 s0_1 s0_2 1000000).bind fun bt101=>((z47_.f s0_0 bt101.2.1 bt101.2.2 1000000).bind fun bt104=>((some (([wrap64 (bt101.1*4102),wrap64 ((wrap64 (bt104.1*4000))+86399),0,4102444799,951782400,1709164800]:List Int):List Int)).bind fun y107=>((z47_.f s0_0 bt104.2.1 bt104.2.2 6).bind fun bt110=>(if 0≤bt110.1 then(if bt110.1 < (y107.length:Int)then(some (rd y107 bt110.1,bt110.2.1,bt110.2.2))else(none))else(none))))))=some (r1,r2,r3):=h
 clear h
 replace H:=Option.bind_eq_some_iff.mp H
 obtain⟨⟨t101,t102,t103⟩,A20,H⟩:=H
 dsimp only at H
 have A2:=qM_ A20
 clear A20
 replace H:=Option.bind_eq_some_iff.mp H
 obtain⟨⟨t104,t105,t106⟩,A30,H⟩:=H
 dsimp only at H
 have A3:=qM_ A30
 clear A30
 obtain⟨y107,hy107⟩:∃ y_:List Int,y_=(([wrap64 (t101*4102),wrap64 ((wrap64 (t104*4000))+86399),0,4102444799,951782400,1709164800]:List Int)):=⟨_,rfl⟩
 replace H:((z47_.f s0_0 t105 t106 6).bind fun bt110=>(if 0≤bt110.1 then(if bt110.1 < (y107.length:Int)then(some (rd y107 bt110.1,bt110.2.1,bt110.2.2))else(none))else(none)))=some (r1,r2,r3):=qh_ hy107 H
 have Ny107:=qM_ hy107
 clear hy107
 replace H:=Option.bind_eq_some_iff.mp H
 obtain⟨⟨t110,t111,t112⟩,A40,H⟩:=H
 dsimp only at H
 have A4:=qM_ A40
 clear A40
 by_cases c5:0≤t110
 ·rw[if_pos c5]at H
  have c5b0:decide (0≤t110)=true:=decide_eq_true c5;clear c5;by_cases c6:t110 < (y107.length:Int)
  ·rw[if_pos c6]at H
   have c6b0:decide (t110 < (y107.length:Int))=true:=decide_eq_true c6;clear c6;simp only[Option.some.injEq,Prod.mk.injEq]at H;obtain⟨rfl,rfl,rfl⟩:=H;go_enter Try.func63,Try.ntmps63
   go_wp2_with (first|((with_reducible refine gate_callee (f:=47) rfl ?_);refine goesL_ (some 4) rfl rfl Try.func47 qK rfl #[.pointer (some ⟨g,0,none⟩),.int .i64 1000000] rfl qll_ ?_;(with_reducible refine(z47_.calls g s0_0 s0_1 s0_2 1000000 t101 t102 t103 w0 _ ?side1 ?side2 A2.out).mono ?_);(case side1=>exact qI77HI0);(case side2=>exact qBHB);rintro e w7 ⟨rfl,hi,hb,hk⟩;refine⟨_,rfl,?_⟩;replace HK:=qM_ (KeepBut.trans qKHK hk (.inl rfl));replace HB:=qM_ (hb);replace HI0:=qM_ (hi);(try clear hb);(try clear hb2);(try clear hk);(try clear hi))|((with_reducible refine gate_callee (f:=47) rfl ?_);refine goesL_ (some 7) rfl rfl Try.func47 qK rfl #[.pointer (some ⟨g,0,none⟩),.int .i64 1000000] rfl qll_ ?_;(with_reducible refine(z47_.calls g s0_0 t102 t103 1000000 t104 t105 t106 w0 _ ?side1 ?side2 A3.out).mono ?_);(case side1=>exact qI77HI0);(case side2=>exact qBHB);rintro e w8 ⟨rfl,hi,hb,hk⟩;refine⟨_,rfl,?_⟩;replace HK:=qM_ (KeepBut.trans qKHK hk (.inl rfl));replace HB:=qM_ (hb);replace HI0:=qM_ (hi);(try clear hb);(try clear hb2);(try clear hk);(try clear hi))|((with_reducible refine gate_dst (N:=10) rfl ?_);refine Kd.R_lit (Kd.int .i64) _ 3 ?hg (N:=10) ?hd (xs:=([wrap64 (t101*4102),wrap64 ((wrap64 (t104*4000))+86399),0,4102444799,951782400,1709164800]:List Int)) (inner:=[.int .i64 (wrap64 (t101*4102)),.int .i64 (wrap64 ((wrap64 (t104*4000))+86399)),.int .i64 0,.int .i64 4102444799,.int .i64 951782400,.int .i64 1709164800]) (ok:=fun _=>True) (okp:=fun _=>True) ?hr ?hp (fun _ hk=>hk) trivial (Below.refl _ _) (Nat.le_refl _) (by simp) ?_;(case hd=>rfl);(case hg=>rfl);(case hr=>first|(go_simp;done)|(go_simp;rfl));(case hp=>exact(Reps.one rfl (Reps.one rfl (Reps.one rfl (Reps.one rfl (Reps.one rfl (Reps.one rfl (Reps.none _ _))))))));intro v108 w9 ho10 hb hg_ hnew_;clear hg_ hnew_;(first|rw[← Ny107.out]at ho10|(simp only[Int.reduceToNat]at ho10;rw[← Ny107.out]at ho10));have HO109:=qM_ (Kd.R_lower ho10 (keep_size (w:=w) (g:=g) (row:=none) qKHK));replace HK:=qM_ (KeepBut.trans qKHK (KeepBut.of_below hb g none) (.inl rfl));replace HB:=qM_ (below_step qBHB hb);replace HI0:=qM_ (IsS77.below qI77HI0 hb);clear hb ho10)|((with_reducible refine gate_callee (f:=47) rfl ?_);refine goesL_ (some 12) rfl rfl Try.func47 qK rfl #[.pointer (some ⟨g,0,none⟩),.int .i64 6] rfl qll_ ?_;(with_reducible refine(z47_.calls g s0_0 t105 t106 6 t110 t111 t112 w0 _ ?side1 ?side2 A4.out).mono ?_);(case side1=>exact qI77HI0);(case side2=>exact qBHB);rintro e w11 ⟨rfl,hi,hb,hk⟩;refine⟨_,rfl,?_⟩;replace HO109:=qM_ (Kd.R_mono (Kd.R_keep (IsS77.apart (show IsS77 w0 _ g s0_0 t105 t106 from qI77HI0) (qr_ HO109) (by decide)) hk (fun _ h=>h.2)) (fun _ h=>h.1));replace HK:=qM_ (KeepBut.trans qKHK hk (.inl rfl));replace HB:=qM_ (hb);replace HI0:=qM_ (hi);(try clear hb);(try clear hb2);(try clear hk);(try clear hi);obtain⟨Ao12,co12,eo12⟩:=Kd.R_slice HO109.out;subst eo12;have p113:0≤(t110:Int):=qd_;have q113:t110 < (y107.length:Int):=qd_;obtain⟨ad113,e113,hx113_0⟩:=Kd.at_int (Kd.R_reads' HO109.out).2.2 t110 p113 q113;cases e113;replace p113:=eq_true p113;replace q113:=eq_true q113))
   go_ret;exact⟨qee_,qI77HI0,qBHB,qKHK⟩
  ·rw[if_neg c6]at H
   exact absurd H (by simp)
 ·rw[if_neg c5]at H
  exact absurd H (by simp)


/-! ### z48_: function 48 -/
def z48_.f (s0_0:List Int) (s0_1:Int) (s0_2:Int):Option (ByteArray × ByteArray × ByteArray × ByteArray × Int × ByteArray × Int × Int):=(z60_.f s0_0 s0_1 s0_2 (([(⟨#[105,100,49]⟩:ByteArray),(⟨#[105,100,50]⟩:ByteArray),(⟨#[105,100,51]⟩:ByteArray),(⟨#[117,114,110,58,120,32,38,32,121]⟩:ByteArray),(⟨#[105,100,32,195,164]⟩:ByteArray)]:List ByteArray))).bind fun bt105=>((z62_.f s0_0 bt105.2.1 bt105.2.2).bind fun bt108=>((z60_.f s0_0 bt108.2.1 bt108.2.2 (([(⟨#[]⟩:ByteArray),(⟨#[104,116,116,112,58,47,47,97,47,98,63,99,61,100,38,101]⟩:ByteArray),(⟨#[108,105,110,107]⟩:ByteArray)]:List ByteArray))).bind fun bt114=>((z62_.f s0_0 bt114.2.1 bt114.2.2).bind fun bt117=>((z63_.f s0_0 bt117.2.1 bt117.2.2).bind fun bt120=>((z60_.f s0_0 bt120.2.1 bt120.2.2 (([(⟨#[]⟩:ByteArray),(⟨#[116,101,120,116]⟩:ByteArray),(⟨#[116,119,111,10,108,105,110,101,115,10]⟩:ByteArray),(⟨#[97,13,98,13,10]⟩:ByteArray),(⟨#[46,10,46,46,10]⟩:ByteArray),(⟨#[195,164,32,60,98,62]⟩:ByteArray),(⟨#[116,114,97,105,108,105,110,103,32,10,61,32,120]⟩:ByteArray),(⟨#[48,49,50,51,52,53,54,55,56,57,48,49,50,51,52,53,54,55,56,57,48,49,50,51,52,53,54,55,56,57,48,49,50,51,52,53,54,55,56,57,48,49,50,51,52,53,54,55,56,57,48,49,50,51,52,53,54,55,56,57,48,49,50,51,52,53,54,55,56,57,48,49,50,51,52,53,54,55,56,57,48,49,50,51,52,53,54,55,56,57,48]⟩:ByteArray)]:List ByteArray))).bind fun bt126=>(some (bt105.1,bt108.1,bt114.1,bt117.1,bt120.1,bt126.1,bt126.2.1,bt126.2.2)))))))
abbrev z48_.b0:ByteArray:=⟨#[48,49,50,51,52,53,54,55,56,57,48,49,50,51,52,53,54,55,56,57,48,49,50,51,52,53,54,55,56,57,48,49,50,51,52,53,54,55,56,57,48,49,50,51,52,53,54,55,56,57,48,49,50,51,52,53,54,55,56,57,48,49,50,51,52,53,54,55,56,57,48,49,50,51,52,53,54,55,56,57,48,49,50,51,52,53,54,55,56,57,48]⟩
abbrev z48_.b1:ByteArray:=⟨#[116,114,97,105,108,105,110,103,32,10,61,32,120]⟩
abbrev z48_.b2:ByteArray:=⟨#[116,119,111,10,108,105,110,101,115,10]⟩
abbrev z48_.b3:ByteArray:=⟨#[104,116,116,112,58,47,47,97,47,98,63,99,61,100,38,101]⟩
set_option maxHeartbeats 8000000 in
set_option maxRecDepth 100000 in
theorem z48_.calls (g:Nat) (s0_0:List Int) (s0_1:Int) (s0_2:Int) (r1:ByteArray) (r2:ByteArray) (r3:ByteArray) (r4:ByteArray) (r5:Int) (r6:ByteArray) (r7:Int) (r8:Int) (w0 w:World) (hI:IsS77 w0 w g s0_0 s0_1 s0_2) (hB:Below w0.heap.size w0 w) (h:z48_.f s0_0 s0_1 s0_2=some (r1,r2,r3,r4,r5,r6,r7,r8)) :
  Calls Try.prog 48 #[.pointer (some ⟨g,0,none⟩)] w fun e w' => e= .returned (.agg #[.string r1,.string r2,.string r3,.string r4,.int .i64 r5,.string r6])∧IsS77 w0 w' g s0_0 r7 r8∧Below w0.heap.size w0 w' ∧ KeepBut w w' g none:=by
 have hu80:=Try.underlying80
 have HI0:=qM_ hI
 have HK:=qM_ (KeepBut.refl w g none)
 have HL:=qM_ hB.size
 clear hI
 have HW0:=qM_ hB.size
 have HB:=qM_ hB
 clear hB
 have H:((z60_.f s0_0 s0_1 s0_2 (([(⟨#[105,100,49]⟩:BA_),(⟨#[105,100,50]⟩:BA_),(⟨#[105,100,51]⟩:BA_),(⟨#[117,114,110,58,120,32,38,32,121]⟩:BA_),(⟨#[105,100,32,195,164]⟩:BA_)]:List ByteArray))).bind fun bt105=>((z62_.f s0_0 bt105.2.1 bt105.2.2).bind fun bt108=>((z60_.f s0_0 bt108.2.1 bt108.2.2 (([(⟨#[]⟩:BA_),z48_.b3,(⟨#[108,105,110,107]⟩:BA_)]:List ByteArray))).bind fun bt114=>((z62_.f s0_0 bt114.2.1 bt114.2.2).bind fun bt117=>((z63_.f s0_0 bt117.2.1 bt117.2.2).bind fun bt120=>((z60_.f s0_0 bt120.2.1 bt120.2.2 (([(⟨#[]⟩:BA_),(⟨#[116,101,120,116]⟩:BA_),z48_.b2,(⟨#[97,13,98,13,10]⟩:BA_),(⟨#[46,10,46,46,10]⟩:BA_),(⟨#[195,164,32,60,98,62]⟩:BA_),z48_.b1,z48_.b0]:List ByteArray))).bind fun bt126=>(some (bt105.1,bt108.1,bt114.1,bt117.1,bt120.1,bt126.1,bt126.2.1,bt126.2.2))))))))=some (r1,r2,r3,r4,r5,r6,r7,r8):=h
 clear h
 obtain⟨y102,hy102⟩:∃ y_:List ByteArray,y_=(([(⟨#[105,100,49]⟩:BA_),(⟨#[105,100,50]⟩:BA_),(⟨#[105,100,51]⟩:BA_),(⟨#[117,114,110,58,120,32,38,32,121]⟩:BA_),(⟨#[105,100,32,195,164]⟩:BA_)]:List ByteArray)):=⟨_,rfl⟩
 replace H:((z60_.f s0_0 s0_1 s0_2 y102).bind fun bt105=>((z62_.f s0_0 bt105.2.1 bt105.2.2).bind fun bt108=>((z60_.f s0_0 bt108.2.1 bt108.2.2 (([(⟨#[]⟩:BA_),z48_.b3,(⟨#[108,105,110,107]⟩:BA_)]:List ByteArray))).bind fun bt114=>((z62_.f s0_0 bt114.2.1 bt114.2.2).bind fun bt117=>((z63_.f s0_0 bt117.2.1 bt117.2.2).bind fun bt120=>((z60_.f s0_0 bt120.2.1 bt120.2.2 (([(⟨#[]⟩:BA_),(⟨#[116,101,120,116]⟩:BA_),z48_.b2,(⟨#[97,13,98,13,10]⟩:BA_),(⟨#[46,10,46,46,10]⟩:BA_),(⟨#[195,164,32,60,98,62]⟩:BA_),z48_.b1,z48_.b0]:List ByteArray))).bind fun bt126=>(some (bt105.1,bt108.1,bt114.1,bt117.1,bt120.1,bt126.1,bt126.2.1,bt126.2.2))))))))=some (r1,r2,r3,r4,r5,r6,r7,r8):=qh_ hy102 H
 have Ny102:=qM_ hy102
 clear hy102
 replace H:=Option.bind_eq_some_iff.mp H
 obtain⟨⟨t105,t106,t107⟩,A20,H⟩:=H
 dsimp only at H
 have A2:=qM_ A20
 clear A20
 replace H:=Option.bind_eq_some_iff.mp H
 obtain⟨⟨t108,t109,t110⟩,A30,H⟩:=H
 dsimp only at H
 have A3:=qM_ A30
 clear A30
 obtain⟨y111,hy111⟩:∃ y_:List ByteArray,y_=(([(⟨#[]⟩:BA_),z48_.b3,(⟨#[108,105,110,107]⟩:BA_)]:List ByteArray)):=⟨_,rfl⟩
 replace H:((z60_.f s0_0 t109 t110 y111).bind fun bt114=>((z62_.f s0_0 bt114.2.1 bt114.2.2).bind fun bt117=>((z63_.f s0_0 bt117.2.1 bt117.2.2).bind fun bt120=>((z60_.f s0_0 bt120.2.1 bt120.2.2 (([(⟨#[]⟩:BA_),(⟨#[116,101,120,116]⟩:BA_),z48_.b2,(⟨#[97,13,98,13,10]⟩:BA_),(⟨#[46,10,46,46,10]⟩:BA_),(⟨#[195,164,32,60,98,62]⟩:BA_),z48_.b1,z48_.b0]:List ByteArray))).bind fun bt126=>(some (t105,t108,bt114.1,bt117.1,bt120.1,bt126.1,bt126.2.1,bt126.2.2))))))=some (r1,r2,r3,r4,r5,r6,r7,r8):=qh_ hy111 H
 have Ny111:=qM_ hy111
 clear hy111
 replace H:=Option.bind_eq_some_iff.mp H
 obtain⟨⟨t114,t115,t116⟩,A40,H⟩:=H
 dsimp only at H
 have A4:=qM_ A40
 clear A40
 replace H:=Option.bind_eq_some_iff.mp H
 obtain⟨⟨t117,t118,t119⟩,A50,H⟩:=H
 dsimp only at H
 have A5:=qM_ A50
 clear A50
 replace H:=Option.bind_eq_some_iff.mp H
 obtain⟨⟨t120,t121,t122⟩,A60,H⟩:=H
 dsimp only at H
 have A6:=qM_ A60
 clear A60
 obtain⟨y123,hy123⟩:∃ y_:List ByteArray,y_=(([(⟨#[]⟩:BA_),(⟨#[116,101,120,116]⟩:BA_),z48_.b2,(⟨#[97,13,98,13,10]⟩:BA_),(⟨#[46,10,46,46,10]⟩:BA_),(⟨#[195,164,32,60,98,62]⟩:BA_),z48_.b1,z48_.b0]:List ByteArray)):=⟨_,rfl⟩
 replace H:((z60_.f s0_0 t121 t122 y123).bind fun bt126=>(some (t105,t108,t114,t117,t120,bt126.1,bt126.2.1,bt126.2.2)))=some (r1,r2,r3,r4,r5,r6,r7,r8):=qh_ hy123 H
 have Ny123:=qM_ hy123
 clear hy123
 replace H:=Option.bind_eq_some_iff.mp H
 obtain⟨⟨t126,t127,t128⟩,A70,H⟩:=H
 dsimp only at H
 have A7:=qM_ A70
 clear A70
 simp only[Option.some.injEq,Prod.mk.injEq]at H
 obtain⟨rfl,rfl,rfl,rfl,rfl,rfl,rfl,rfl⟩:=H
 go_enter Try.func48,Try.ntmps48
 go_wp2_with (first|((with_reducible refine gate_dst (N:=2) rfl ?_);refine box_event ?hg (N:=2) ?hd (cs:=#[.string (⟨#[]⟩:BA_),.string (⟨#[]⟩:BA_),.string (⟨#[]⟩:BA_),.string (⟨#[]⟩:BA_),.int .i64 0,.string (⟨#[]⟩:BA_)]) (t:=80) ?hr ?_;(case hd=>rfl);(case hg=>rfl);(case hr=>first|(go_simp;done)|(go_simp;rfl));intro gb101 hg w8 hbox hb;replace HB:=qM_ (below_step qBHB hb);have BK101:=qM_ (hbox);have GW101:=qM_ ((by rw[hg];exact(keep_size (w:=w) (g:=g) (row:=none) qKHK):w.heap.size≤gb101));have GE101:=qM_ ((Nat.le_trans HW0.out (by rw[hg];exact(keep_size (w:=w) (g:=g) (row:=none) qKHK):w.heap.size≤gb101):w0.heap.size≤gb101));replace HK:=qM_ (KeepBut.trans qKHK (KeepBut.of_below hb g none) (.inl rfl));have NB0_101:=qM_ ((by rw[hg];exact Nat.ne_of_lt (IsS77.lt (show IsS77 w0 _ g s0_0 s0_1 s0_2 from qI77HI0)):g≠gb101));have NB101_0:=qM_ ((by rw[hg];exact Nat.ne_of_gt (IsS77.lt (show IsS77 w0 _ g s0_0 s0_1 s0_2 from qI77HI0)):gb101≠g));replace HI0:=qM_ (IsS77.below qI77HI0 hb);clear hb hbox hg)|((with_reducible refine gate_dst (N:=5) rfl ?_);refine Kd.R_lit Kd.string _ 9 ?hg (N:=5) ?hd (xs:=([(⟨#[105,100,49]⟩:BA_),(⟨#[105,100,50]⟩:BA_),(⟨#[105,100,51]⟩:BA_),(⟨#[117,114,110,58,120,32,38,32,121]⟩:BA_),(⟨#[105,100,32,195,164]⟩:BA_)]:List ByteArray)) (inner:=[.string (⟨#[105,100,49]⟩:BA_),.string (⟨#[105,100,50]⟩:BA_),.string (⟨#[105,100,51]⟩:BA_),.string (⟨#[117,114,110,58,120,32,38,32,121]⟩:BA_),.string (⟨#[105,100,32,195,164]⟩:BA_)]) (ok:=fun _=>True) (okp:=fun _=>True) ?hr ?hp (fun _ hk=>hk) trivial (Below.refl _ _) (Nat.le_refl _) (by simp) ?_;(case hd=>rfl);(case hg=>rfl);(case hr=>first|(go_simp;done)|(go_simp;rfl));(case hp=>exact(Reps.one rfl (Reps.one rfl (Reps.one rfl (Reps.one rfl (Reps.one rfl (Reps.none _ _)))))));intro v103 w9 ho10 hb hg_ hnew_;clear hg_ hnew_;(first|rw[← Ny102.out]at ho10|(simp only[Int.reduceToNat]at ho10;rw[← Ny102.out]at ho10));have HO104:=qM_ (Kd.R_lower ho10 (keep_size (w:=w) (g:=g) (row:=none) qKHK));replace BK101:=qM_ (blk_below (qk_ BK101) hb);replace HK:=qM_ (KeepBut.trans qKHK (KeepBut.of_below hb g none) (.inl rfl));replace HB:=qM_ (below_step qBHB hb);replace HI0:=qM_ (IsS77.below qI77HI0 hb);clear hb ho10;obtain⟨Ao11,co11,eo11⟩:=Kd.R_slice HO104.out;subst eo11)|((with_reducible refine gate_callee (f:=60) rfl ?_);refine goesL_ (some 6) rfl rfl Try.func60 qK rfl #[.pointer (some ⟨g,0,none⟩),.slice Ao11 y102.length co11] rfl qll_ ?_;(with_reducible refine(z60_.calls g s0_0 s0_1 s0_2 _ _ y102 t105 t106 t107 w0 _ ?side1 ?side2 ?side3 ?side4 ?side5 A2.out).mono ?_);(case side1=>exact qI77HI0);(case side2=>exact qBHB);(case side3=>exact qcc_ (Kd.R_reads' HO104.out).2.2);(case side4=>exact(Kd.R_reads' HO104.out).2.1);(case side5=>exact far_slice (IsS77.own_ne HI0.out HO104.out (by decide)));rintro e w12 ⟨rfl,hi,hb,hk⟩;refine⟨_,rfl,?_⟩;replace BK101:=qM_ (KeepBut.blk hk (qk_ BK101) NB101_0.out (by simp));replace HO104:=qM_ (Kd.R_mono (Kd.R_keep (IsS77.apart (show IsS77 w0 _ g s0_0 s0_1 s0_2 from qI77HI0) (qr_ HO104) (by decide)) hk (fun _ h=>h.2)) (fun _ h=>h.1));replace HK:=qM_ (KeepBut.trans qKHK hk (.inl rfl));replace HB:=qM_ (hb);replace HI0:=qM_ (hi);(try clear hb);(try clear hb2);(try clear hk);(try clear hi))|((with_reducible refine gate_callee (f:=62) rfl ?_);refine goesL_ (some 8) rfl rfl Try.func62 qK rfl #[.pointer (some ⟨g,0,none⟩)] rfl qll_ ?_;(with_reducible refine(z62_.calls g s0_0 t106 t107 t108 t109 t110 w0 _ ?side1 ?side2 A3.out).mono ?_);(case side1=>exact qI77HI0);(case side2=>exact qBHB);rintro e w13 ⟨rfl,hi,hb,hk⟩;refine⟨_,rfl,?_⟩;replace BK101:=qM_ (KeepBut.blk hk (qk_ BK101) NB101_0.out (by simp));replace HO104:=qM_ (Kd.R_mono (Kd.R_keep (IsS77.apart (show IsS77 w0 _ g s0_0 t106 t107 from qI77HI0) (qr_ HO104) (by decide)) hk (fun _ h=>h.2)) (fun _ h=>h.1));replace HK:=qM_ (KeepBut.trans qKHK hk (.inl rfl));replace HB:=qM_ (hb);replace HI0:=qM_ (hi);(try clear hb);(try clear hb2);(try clear hk);(try clear hi))|((with_reducible refine gate_dst (N:=10) rfl ?_);refine Kd.R_lit Kd.string _ 9 ?hg (N:=10) ?hd (xs:=([(⟨#[]⟩:BA_),z48_.b3,(⟨#[108,105,110,107]⟩:BA_)]:List ByteArray)) (inner:=[.string (⟨#[]⟩:BA_),.string z48_.b3,.string (⟨#[108,105,110,107]⟩:BA_)]) (ok:=fun _=>True) (okp:=fun _=>True) ?hr ?hp (fun _ hk=>hk) trivial (Below.refl _ _) (Nat.le_refl _) (by simp) ?_;(case hd=>rfl);(case hg=>rfl);(case hr=>first|(go_simp;done)|(go_simp;rfl));(case hp=>exact(Reps.one rfl (Reps.one rfl (Reps.one rfl (Reps.none _ _)))));intro v112 w14 ho15 hb hg_ hnew_;clear hg_ hnew_;(first|rw[← Ny111.out]at ho15|(simp only[Int.reduceToNat]at ho15;rw[← Ny111.out]at ho15));have HO113:=qM_ (Kd.R_lower (Kd.R_new' ho15 (Kd.R_lt (qr_ HO104))) (keep_size (w:=w) (g:=g) (row:=none) qKHK));replace HO104:=qM_ (Kd.R_elder' (qr_ HO104) (Kd.R_base ho15) hb);replace BK101:=qM_ (blk_below (qk_ BK101) hb);replace HK:=qM_ (KeepBut.trans qKHK (KeepBut.of_below hb g none) (.inl rfl));replace HB:=qM_ (below_step qBHB hb);replace HI0:=qM_ (IsS77.below qI77HI0 hb);clear hb ho15;obtain⟨Ao16,co16,eo16⟩:=Kd.R_slice HO113.out;subst eo16)|((with_reducible refine gate_callee (f:=60) rfl ?_);refine goesL_ (some 11) rfl rfl Try.func60 qK rfl #[.pointer (some ⟨g,0,none⟩),.slice Ao16 y111.length co16] rfl qll_ ?_;(with_reducible refine(z60_.calls g s0_0 t109 t110 _ _ y111 t114 t115 t116 w0 _ ?side1 ?side2 ?side3 ?side4 ?side5 A4.out).mono ?_);(case side1=>exact qI77HI0);(case side2=>exact qBHB);(case side3=>exact qcc_ (Kd.R_reads' HO113.out).2.2);(case side4=>exact(Kd.R_reads' HO113.out).2.1);(case side5=>exact far_slice (IsS77.own_ne HI0.out HO113.out (by decide)));rintro e w17 ⟨rfl,hi,hb,hk⟩;refine⟨_,rfl,?_⟩;replace BK101:=qM_ (KeepBut.blk hk (qk_ BK101) NB101_0.out (by simp));replace HO104:=qM_ (Kd.R_mono (Kd.R_keep (IsS77.apart (show IsS77 w0 _ g s0_0 t109 t110 from qI77HI0) (qr_ HO104) (by decide)) hk (fun _ h=>h.2)) (fun _ h=>h.1));replace HO113:=qM_ (Kd.R_mono (Kd.R_keep (IsS77.apart (show IsS77 w0 _ g s0_0 t109 t110 from qI77HI0) (qr_ HO113) (by decide)) hk (fun _ h=>h.2)) (fun _ h=>h.1));replace HK:=qM_ (KeepBut.trans qKHK hk (.inl rfl));replace HB:=qM_ (hb);replace HI0:=qM_ (hi);(try clear hb);(try clear hb2);(try clear hk);(try clear hi))|((with_reducible refine gate_callee (f:=62) rfl ?_);refine goesL_ (some 13) rfl rfl Try.func62 qK rfl #[.pointer (some ⟨g,0,none⟩)] rfl qll_ ?_;(with_reducible refine(z62_.calls g s0_0 t115 t116 t117 t118 t119 w0 _ ?side1 ?side2 A5.out).mono ?_);(case side1=>exact qI77HI0);(case side2=>exact qBHB);rintro e w18 ⟨rfl,hi,hb,hk⟩;refine⟨_,rfl,?_⟩;replace BK101:=qM_ (KeepBut.blk hk (qk_ BK101) NB101_0.out (by simp));replace HO104:=qM_ (Kd.R_mono (Kd.R_keep (IsS77.apart (show IsS77 w0 _ g s0_0 t115 t116 from qI77HI0) (qr_ HO104) (by decide)) hk (fun _ h=>h.2)) (fun _ h=>h.1));replace HO113:=qM_ (Kd.R_mono (Kd.R_keep (IsS77.apart (show IsS77 w0 _ g s0_0 t115 t116 from qI77HI0) (qr_ HO113) (by decide)) hk (fun _ h=>h.2)) (fun _ h=>h.1));replace HK:=qM_ (KeepBut.trans qKHK hk (.inl rfl));replace HB:=qM_ (hb);replace HI0:=qM_ (hi);(try clear hb);(try clear hb2);(try clear hk);(try clear hi))|((with_reducible refine gate_callee (f:=63) rfl ?_);refine goesL_ (some 15) rfl rfl Try.func63 qK rfl #[.pointer (some ⟨g,0,none⟩)] rfl qll_ ?_;(with_reducible refine(z63_.calls g s0_0 t118 t119 t120 t121 t122 w0 _ ?side1 ?side2 A6.out).mono ?_);(case side1=>exact qI77HI0);(case side2=>exact qBHB);rintro e w19 ⟨rfl,hi,hb,hk⟩;refine⟨_,rfl,?_⟩;replace BK101:=qM_ (KeepBut.blk hk (qk_ BK101) NB101_0.out (by simp));replace HO104:=qM_ (Kd.R_mono (Kd.R_keep (IsS77.apart (show IsS77 w0 _ g s0_0 t118 t119 from qI77HI0) (qr_ HO104) (by decide)) hk (fun _ h=>h.2)) (fun _ h=>h.1));replace HO113:=qM_ (Kd.R_mono (Kd.R_keep (IsS77.apart (show IsS77 w0 _ g s0_0 t118 t119 from qI77HI0) (qr_ HO113) (by decide)) hk (fun _ h=>h.2)) (fun _ h=>h.1));replace HK:=qM_ (KeepBut.trans qKHK hk (.inl rfl));replace HB:=qM_ (hb);replace HI0:=qM_ (hi);(try clear hb);(try clear hb2);(try clear hk);(try clear hi))|((with_reducible refine gate_dst (N:=17) rfl ?_);refine Kd.R_lit Kd.string _ 9 ?hg (N:=17) ?hd (xs:=([(⟨#[]⟩:BA_),(⟨#[116,101,120,116]⟩:BA_),z48_.b2,(⟨#[97,13,98,13,10]⟩:BA_),(⟨#[46,10,46,46,10]⟩:BA_),(⟨#[195,164,32,60,98,62]⟩:BA_),z48_.b1,z48_.b0]:List ByteArray)) (inner:=[.string (⟨#[]⟩:BA_),.string (⟨#[116,101,120,116]⟩:BA_),.string z48_.b2,.string (⟨#[97,13,98,13,10]⟩:BA_),.string (⟨#[46,10,46,46,10]⟩:BA_),.string (⟨#[195,164,32,60,98,62]⟩:BA_),.string z48_.b1,.string z48_.b0]) (ok:=fun _=>True) (okp:=fun _=>True) ?hr ?hp (fun _ hk=>hk) trivial (Below.refl _ _) (Nat.le_refl _) (by simp) ?_;(case hd=>rfl);(case hg=>rfl);(case hr=>first|(go_simp;done)|(go_simp;rfl));(case hp=>exact(Reps.one rfl (Reps.one rfl (Reps.one rfl (Reps.one rfl (Reps.one rfl (Reps.one rfl (Reps.one rfl (Reps.one rfl (Reps.none _ _))))))))));intro v124 w20 ho21 hb hg_ hnew_;clear hg_ hnew_;(first|rw[← Ny123.out]at ho21|(simp only[Int.reduceToNat]at ho21;rw[← Ny123.out]at ho21));have HO125:=qM_ (Kd.R_lower (Kd.R_new' (Kd.R_new' ho21 (Kd.R_lt (qr_ HO104))) (Kd.R_lt (qr_ HO113))) (keep_size (w:=w) (g:=g) (row:=none) qKHK));replace HO104:=qM_ (Kd.R_elder' (qr_ HO104) (Kd.R_base ho21) hb);replace HO113:=qM_ (Kd.R_elder' (qr_ HO113) (Kd.R_base ho21) hb);replace BK101:=qM_ (blk_below (qk_ BK101) hb);replace HK:=qM_ (KeepBut.trans qKHK (KeepBut.of_below hb g none) (.inl rfl));replace HB:=qM_ (below_step qBHB hb);replace HI0:=qM_ (IsS77.below qI77HI0 hb);clear hb ho21;obtain⟨Ao22,co22,eo22⟩:=Kd.R_slice HO125.out;subst eo22)|((with_reducible refine gate_callee (f:=60) rfl ?_);refine goesL_ (some 18) rfl rfl Try.func60 qK rfl #[.pointer (some ⟨g,0,none⟩),.slice Ao22 y123.length co22] rfl qll_ ?_;(with_reducible refine(z60_.calls g s0_0 t121 t122 _ _ y123 t126 t127 t128 w0 _ ?side1 ?side2 ?side3 ?side4 ?side5 A7.out).mono ?_);(case side1=>exact qI77HI0);(case side2=>exact qBHB);(case side3=>exact qcc_ (Kd.R_reads' HO125.out).2.2);(case side4=>exact(Kd.R_reads' HO125.out).2.1);(case side5=>exact far_slice (IsS77.own_ne HI0.out HO125.out (by decide)));rintro e w23 ⟨rfl,hi,hb,hk⟩;refine⟨_,rfl,?_⟩;replace BK101:=qM_ (KeepBut.blk hk (qk_ BK101) NB101_0.out (by simp));replace HO104:=qM_ (Kd.R_mono (Kd.R_keep (IsS77.apart (show IsS77 w0 _ g s0_0 t121 t122 from qI77HI0) (qr_ HO104) (by decide)) hk (fun _ h=>h.2)) (fun _ h=>h.1));replace HO113:=qM_ (Kd.R_mono (Kd.R_keep (IsS77.apart (show IsS77 w0 _ g s0_0 t121 t122 from qI77HI0) (qr_ HO113) (by decide)) hk (fun _ h=>h.2)) (fun _ h=>h.1));replace HO125:=qM_ (Kd.R_mono (Kd.R_keep (IsS77.apart (show IsS77 w0 _ g s0_0 t121 t122 from qI77HI0) (qr_ HO125) (by decide)) hk (fun _ h=>h.2)) (fun _ h=>h.1));replace HK:=qM_ (KeepBut.trans qKHK hk (.inl rfl));replace HB:=qM_ (hb);replace HI0:=qM_ (hi);(try clear hb);(try clear hb2);(try clear hk);(try clear hi))|((with_reducible refine gate_dst (N:=3) rfl ?_);refine box_event ?hg (N:=3) ?hd (cs:=#[.string (⟨#[]⟩:BA_),.string (⟨#[]⟩:BA_),.string (⟨#[]⟩:BA_),.string (⟨#[]⟩:BA_),.int .i64 0,.string (⟨#[]⟩:BA_)]) (t:=80) ?hr ?_;(case hd=>rfl);(case hg=>rfl);(case hr=>first|(go_simp;done)|(go_simp;rfl));intro gb129 hg w24 hbox hb;replace HO104:=qM_ (Kd.R_below (qr_ HO104) hb);replace HO113:=qM_ (Kd.R_below (qr_ HO113) hb);replace HO125:=qM_ (Kd.R_below (qr_ HO125) hb);replace HB:=qM_ (below_step qBHB hb);have BK129:=qM_ (hbox);have GW129:=qM_ ((by rw[hg];exact(keep_size (w:=w) (g:=g) (row:=none) qKHK):w.heap.size≤gb129));have GE129:=qM_ ((Nat.le_trans HW0.out (by rw[hg];exact(keep_size (w:=w) (g:=g) (row:=none) qKHK):w.heap.size≤gb129):w0.heap.size≤gb129));replace HK:=qM_ (KeepBut.trans qKHK (KeepBut.of_below hb g none) (.inl rfl));have NB101_129:=qM_ ((by rw[hg];exact Nat.ne_of_lt (blk_lt (qk_ BK101)):gb101≠gb129));have NB129_101:=qM_ ((by rw[hg];exact Nat.ne_of_gt (blk_lt (qk_ BK101)):gb129≠gb101));replace BK101:=qM_ (blk_below (qk_ BK101) hb);have NB0_129:=qM_ ((by rw[hg];exact Nat.ne_of_lt (IsS77.lt (show IsS77 w0 _ g s0_0 t127 t128 from qI77HI0)):g≠gb129));have NB129_0:=qM_ ((by rw[hg];exact Nat.ne_of_gt (IsS77.lt (show IsS77 w0 _ g s0_0 t127 t128 from qI77HI0)):gb129≠g));replace HI0:=qM_ (IsS77.below qI77HI0 hb);clear hb hbox hg;have hnb25:=NB129_101.out;have hnc25:=NB101_129.out;have hnb26:=NB129_0.out;have hnc26:=NB0_129.out;obtain⟨hcz27_0,hcz27_1,hcz27_2,hcz27_3,hcz27_4,hcz27_5,hfz27_0⟩:=qc6_ BK129;have hnb28:=NB101_0.out;have hnc28:=NB0_101.out;obtain⟨hcz29_0,hcz29_1,hcz29_2,hcz29_3,hcz29_4,hcz29_5,hfz29_0⟩:=qc6_ BK101))
 refine bodyPost_ret (results_cell_row rfl _ _ gb101 80 #[.string t105,.string t108,.string t114,.string t117,.int .i64 t120,.string t126] (0,0) _ rfl (by(with_reducible repeat(first|refine blk_drewN ?_ _|refine blk_drew ?_|refine blk_alloc ?_ _));refine blk_put (cs:=#[.string t105,.string t108,.string t114,.string t117,.int .i64 t120,.string (⟨#[]⟩:BA_)]) ?_ 5 _ rfl;(with_reducible repeat(first|refine blk_drewN ?_ _|refine blk_drew ?_|refine blk_alloc ?_ _));refine blk_put (cs:=#[.string t105,.string t108,.string t114,.string t117,.int .i64 0,.string (⟨#[]⟩:BA_)]) ?_ 4 _ rfl;(with_reducible repeat(first|refine blk_drewN ?_ _|refine blk_drew ?_|refine blk_alloc ?_ _));refine blk_put (cs:=#[.string t105,.string t108,.string t114,.string (⟨#[]⟩:BA_),.int .i64 0,.string (⟨#[]⟩:BA_)]) ?_ 3 _ rfl;(with_reducible repeat(first|refine blk_drewN ?_ _|refine blk_drew ?_|refine blk_alloc ?_ _));refine blk_put (cs:=#[.string t105,.string t108,.string (⟨#[]⟩:BA_),.string (⟨#[]⟩:BA_),.int .i64 0,.string (⟨#[]⟩:BA_)]) ?_ 2 _ rfl;(with_reducible repeat(first|refine blk_drewN ?_ _|refine blk_drew ?_|refine blk_alloc ?_ _));refine blk_put (cs:=#[.string t105,.string (⟨#[]⟩:BA_),.string (⟨#[]⟩:BA_),.string (⟨#[]⟩:BA_),.int .i64 0,.string (⟨#[]⟩:BA_)]) ?_ 1 _ rfl;(with_reducible repeat(first|refine blk_drewN ?_ _|refine blk_drew ?_|refine blk_alloc ?_ _));refine blk_put (cs:=#[.string (⟨#[]⟩:BA_),.string (⟨#[]⟩:BA_),.string (⟨#[]⟩:BA_),.string (⟨#[]⟩:BA_),.int .i64 0,.string (⟨#[]⟩:BA_)]) ?_ 0 _ rfl;(with_reducible repeat(first|refine blk_drewN ?_ _|refine blk_drew ?_|refine blk_alloc ?_ _));refine blk_far ?_ NB101_129.out _;(with_reducible repeat(first|refine blk_drewN ?_ _|refine blk_drew ?_|refine blk_alloc ?_ _));refine blk_far ?_ NB101_129.out _;(with_reducible repeat(first|refine blk_drewN ?_ _|refine blk_drew ?_|refine blk_alloc ?_ _));refine blk_far ?_ NB101_129.out _;(with_reducible repeat(first|refine blk_drewN ?_ _|refine blk_drew ?_|refine blk_alloc ?_ _));refine blk_far ?_ NB101_129.out _;(with_reducible repeat(first|refine blk_drewN ?_ _|refine blk_drew ?_|refine blk_alloc ?_ _));refine blk_far ?_ NB101_129.out _;(with_reducible repeat(first|refine blk_drewN ?_ _|refine blk_drew ?_|refine blk_alloc ?_ _));refine blk_far ?_ NB101_129.out _;(with_reducible repeat(first|refine blk_drewN ?_ _|refine blk_drew ?_|refine blk_alloc ?_ _));exact BK101.out) Try.underlying80 rfl qK) rfl ?_
 exact⟨qee_,qI77HI0,qBHB,qKHK⟩


/-! ### z49_: function 49 -/
def z49_.f:Nat→Int→Option (ByteArray)
 | 0,_=>none
 | k+1,a0=>if a0=(-9223372036854775808)then(some (⟨#[45,57,50,50,51,51,55,50,48,51,54,56,53,52,55,55,53,56,48,56]⟩:ByteArray))else(if a0 < 0 then((z49_.f k (wrap64 (-a0))).bind fun t101=>(if 1+t101.size≤9223372036854775807 then(some ((⟨#[45]⟩:ByteArray) ++ t101))else(none)))else(if a0 < 10 then(some (strOfNums (([(wrap64 (48+a0)) % 256]:List Int))))else((z49_.f k (wrap64 (Int.tdiv a0 10))).bind fun t105=>((some (([(wrap64 (48+(Int.tmod a0 10))) % 256]:List Int):List Int)).bind fun y106=>(if t105.size+(strOfNums y106).size≤9223372036854775807 then(some (t105 ++ (strOfNums y106)))else(none))))))
theorem z49_.mono_l:∀ k,(∀ y0,LeO (z49_.f k y0) (z49_.f (k+1) y0))
 | 0=>fun _ r h=>by simp[z49_.f]at h
 | k+1=>by
  have ih0:=z49_.mono_l k
  ·intro y0
   unfold z49_.f
   repeat' first
   | (with_reducible exact ih0 _)
   | (with_reducible exact LeO.refl _)
   | (with_reducible exact LeO.none _)
   | (with_reducible refine LeO.ite ?_ ?_)
   | (with_reducible refine LeO.bind ?_ (fun _=> ?_))
   | exact ih0 _
   | exact LeO.none _
   | refine LeO.ite ?_ ?_
   | refine LeO.bind ?_ (fun _=> ?_)
theorem z49_.mono:∀ a0 k,LeO (z49_.f k a0) (z49_.f (k+1) a0):=by
 intro a0 k
 have ih0:=z49_.mono_l k
 exact ih0 a0
def z49_.T7:Bool × List (List Nat × List Nat):=(true,[([],[]),([0],[0]),([1],[1]),([],[]),([3],[3]),([4],[4]),([5],[5]),([6],[6]),([7],[7]),([2,8],[2,8]),([9,2,0,1,2,3,4,5,6,7,8,9],[9])])
def z49_.B7:List Nat:=[0,1,3,0,8,24,56,120,248,511,1023]
theorem z49_.tab7:rtab .any (opsOf Try.f49 7)=z49_.T7:=by kernel_rfl
theorem z49_.bits7:waitsOk z49_.T7.2 z49_.B7=true:=by kernel_rfl
set_option maxHeartbeats 8000000 in
set_option maxRecDepth 100000 in
theorem z49_.calls (k:Nat):∀(a0:Int) (r:ByteArray) (w:World) (h:z49_.f k a0=some r),
  Calls Try.prog 49 #[.int .i64 a0] w fun e w' => e= .returned (.string r)∧Below w.heap.size w w' := by
 induction k using Nat.strongRecOn with
 | _ k ih =>
 intro a0 r w h
 cases k with
 | zero=>exact absurd h (by simp[z49_.f])
 | succ k =>
 simp only[z49_.f]at h
 have HB:=qM_ (Below.refl w.heap.size w)
 have H:(if a0=(-9223372036854775808)then(some (⟨#[45,57,50,50,51,51,55,50,48,51,54,56,53,52,55,55,53,56,48,56]⟩:BA_))else(if a0 < 0 then((z49_.f k (wrap64 (-a0))).bind fun t101=>(if 1+t101.size≤9223372036854775807 then(some ((⟨#[45]⟩:BA_) ++ t101))else(none)))else(if a0 < 10 then(some (strOfNums (([(wrap64 (48+a0)) % 256]:List Int))))else((z49_.f k (wrap64 (Int.tdiv a0 10))).bind fun t105=>((some (([(wrap64 (48+(Int.tmod a0 10))) % 256]:List Int):List Int)).bind fun y106=>(if t105.size+(strOfNums y106).size≤9223372036854775807 then(some (t105 ++ (strOfNums y106)))else(none)))))))=some r:=h
 clear h
 by_cases c2:a0=(-9223372036854775808)
 ·rw[if_pos c2]at H
  have c2b0:(a0 == (-9223372036854775808))=true:=beq_iff_eq.mpr c2;have c2b1:(a0 != (-9223372036854775808))=false:=bne_eq_false_iff_eq.mpr c2;clear c2;obtain rfl:=Option.some.inj H;go_enter Try.func49,Try.ntmps49
  go_wp2
  go_ret;exact⟨qee_,qBHB⟩
 ·rw[if_neg c2]at H
  have c2b0:(a0 == (-9223372036854775808))=false:=beq_eq_false_iff_ne.mpr c2;have c2b1:(a0 != (-9223372036854775808))=true:=bne_iff_ne.mpr c2;by_cases c3:a0 < 0
  ·rw[if_pos c3]at H
   have c3b0:decide (a0 < 0)=true:=decide_eq_true c3;clear c3;replace H:=Option.bind_eq_some_iff.mp H;obtain⟨t101,A40,H⟩:=H;have A4:=qM_ A40;clear A40;by_cases c5:1+t101.size≤9223372036854775807
   ·rw[if_pos c5]at H
    have c5b0:=eq_true c5;have c5b1:decide (1+t101.size≤9223372036854775807)=true:=decide_eq_true c5
    try have c5b2:(9223372036854775807 < 1+t101.size)=False:=eq_false (Nat.not_lt.2 c5)
    obtain rfl:=Option.some.inj H;go_enter Try.func49,Try.ntmps49
    go_wp2_with (first|((with_reducible refine gate_callee (f:=49) rfl ?_);refine goesL_ (some 9) rfl rfl Try.func49 qK rfl #[.int .i64 (wrap64 (-a0))] rfl qll_ ?_;(with_reducible refine(ih k (by omega) (wrap64 (-a0)) t101 _ A4.out).mono ?_);rintro e w6 ⟨rfl,hb⟩;refine⟨_,rfl,?_⟩;replace HB:=qM_ (below_step qBHB hb);(try clear hb);(try clear hb2);(try clear hk);(try clear hi)))
    go_ret;exact⟨qee_,qBHB⟩
   ·rw[if_neg c5]at H
    exact absurd H (by simp)
  ·rw[if_neg c3]at H
   have c3b0:decide (a0 < 0)=false:=decide_eq_false c3;clear c3;by_cases c7:a0 < 10
   ·rw[if_pos c7]at H
    have c7b0:decide (a0 < 10)=true:=decide_eq_true c7;clear c7
    obtain⟨y102,hy102⟩:∃ y_:List Int,y_=(([(wrap64 (48+a0)) % 256]:List Int)):=⟨_,rfl⟩
    replace H:(some (strOfNums y102))=some r:=qh_ hy102 H;have Ny102:=qM_ hy102;clear hy102;obtain rfl:=Option.some.inj H;go_enter Try.func49,Try.ntmps49
    go_wp2_with (first|((with_reducible refine gate_dst (N:=16) rfl ?_);refine Kd.R_lit (Kd.int .u8) _ 5 ?hg (N:=16) ?hd (xs:=([(wrap64 (48+a0)) % 256]:List Int)) (inner:=[.int .u8 ((wrap64 (48+a0)) % 256)]) (ok:=fun _=>True) (okp:=fun _=>True) ?hr ?hp (fun _ hk=>hk) trivial (Below.refl _ _) (Nat.le_refl _) (by simp) ?_;(case hd=>rfl);(case hg=>rfl);(case hr=>first|(go_simp;done)|(go_simp;rfl));(case hp=>exact(Reps.one rfl (Reps.none _ _)));intro v103 w8 ho9 hb hg_ hnew_;clear hg_ hnew_;(first|rw[← Ny102.out]at ho9|(simp only[Int.reduceToNat]at ho9;rw[← Ny102.out]at ho9));have HO104:=qM_ (Kd.R_lower ho9 (below_size qBHB));replace HB:=qM_ (below_step qBHB hb);clear hb ho9;have hcv10:=own_string (P:=Try.prog) Try.underlying26 Try.underlying5 Try.underlying9 (Kd.own_of_R HO104.out)))
    go_ret;exact⟨qee_,qBHB⟩
   ·rw[if_neg c7]at H
    have c7b0:decide (a0 < 10)=false:=decide_eq_false c7;clear c7;replace H:=Option.bind_eq_some_iff.mp H;obtain⟨t105,A110,H⟩:=H;have A11:=qM_ A110;clear A110
    obtain⟨y106,hy106⟩:∃ y_:List Int,y_=(([(wrap64 (48+(Int.tmod a0 10))) % 256]:List Int)):=⟨_,rfl⟩
    replace H:(if t105.size+(strOfNums y106).size≤9223372036854775807 then(some (t105 ++ (strOfNums y106)))else(none))=some r:=qh_ hy106 H;have Ny106:=qM_ hy106;clear hy106;by_cases c12:t105.size+(strOfNums y106).size≤9223372036854775807
    ·rw[if_pos c12]at H
     have c12b0:=eq_true c12;have c12b1:decide (t105.size+(strOfNums y106).size≤9223372036854775807)=true:=decide_eq_true c12
     try have c12b2:(9223372036854775807 < t105.size+(strOfNums y106).size)=False:=eq_false (Nat.not_lt.2 c12)
     obtain rfl:=Option.some.inj H;go_enter Try.func49,Try.ntmps49
     try go_wp2
     replace HB:=qM_ (qE_ HB.out)
     refine start_ (n:=11) (S:=fun w' => True) (ds:=[]) #[qF,qF,qF,qF,qF,qF,qF,qF,qF,qF,qF] qK rfl rfl trivial (fun hHeld=> ?_);refine with_tabW z49_.tab7 z49_.bits7 (fun HT_ HW_=> ?_)
     generalize w.drew=w13 at HB hHeld ⊢;refine pure_ (i:=0) (N:=some 18) (v:= ?_) (a' := ?_) #[qT,qF,qF,qF,qF,qF,qF,qF,qF,qF,qF] rfl rfl (any_of HT_.out qK) (fun _ _ _ h=>h) (Or.inl ⟨by rfl,?_⟩) ?_ ?_;rotate_left
     ·intro w'
      go_simp;with_reducible rfl
     rotate_left
     ·simp only[Act.put,qS_,qW_]
      rfl
     refine pure_ (i:=1) (N:=some 19) (v:= ?_) (a' := ?_) #[qT,qT,qF,qF,qF,qF,qF,qF,qF,qF,qF] rfl rfl (any_of HT_.out qK) (fun _ _ _ h=>h) (Or.inl ⟨by rfl,?_⟩) ?_ ?_;rotate_left
     ·intro w'
      go_simp;with_reducible rfl
     rotate_left
     ·simp only[Act.put,qS_,qW_]
      rfl
     refine pure_ (i:=3) (N:=some 21) (v:= ?_) (a' := ?_) #[qT,qT,qF,qT,qF,qF,qF,qF,qF,qF,qF] rfl rfl (any_of HT_.out qK) (fun _ _ _ h=>h) (Or.inl ⟨by rfl,?_⟩) ?_ ?_;rotate_left
     ·intro w'
      go_simp;with_reducible rfl
     rotate_left
     ·simp only[Act.put,qS_,qW_]
      rfl
     refine pure_ (i:=4) (N:=some 22) (v:= ?_) (a' := ?_) #[qT,qT,qF,qT,qT,qF,qF,qF,qF,qF,qF] rfl rfl (any_of HT_.out qK) (fun _ _ _ h=>h) (Or.inl ⟨by rfl,?_⟩) ?_ ?_;rotate_left
     ·intro w'
      go_simp;with_reducible rfl
     rotate_left
     ·simp only[Act.put,qS_,qW_]
      rfl
     refine pure_ (i:=5) (N:=some 23) (v:= ?_) (a' := ?_) #[qT,qT,qF,qT,qT,qT,qF,qF,qF,qF,qF] rfl rfl (any_of HT_.out qK) (fun _ _ _ h=>h) (Or.inl ⟨by rfl,?_⟩) ?_ ?_;rotate_left
     ·intro w'
      go_simp;with_reducible rfl
     rotate_left
     ·simp only[Act.put,qS_,qW_]
      rfl
     refine pure_ (i:=6) (N:=some 24) (v:= ?_) (a' := ?_) #[qT,qT,qF,qT,qT,qT,qT,qF,qF,qF,qF] rfl rfl (any_of HT_.out qK) (fun _ _ _ h=>h) (Or.inl ⟨by rfl,?_⟩) ?_ ?_;rotate_left
     ·intro w'
      go_simp;with_reducible rfl
     rotate_left
     ·simp only[Act.put,qS_,qW_]
      rfl
     refine join_ (σ:=Value) 2 #[qT,qT,qT,qT,qT,qT,qT,qT,qT,qF,qF] (fun s_=>[(20,.string t105),(25,s_),(26,.string (strOfNums y106))]) (fun s_ w' => (Kd.R (Kd.int .u8) 5 w' w.heap.size (fun _=>True) s_ y106)∧(Below w.heap.size w w')) ?_ ?_;rotate_left
     ·intro hCont
      refine two_ (i:=2) (j:=7) (Ni:=some 20) (Nj:=some 25) #[qT,qT,qT,qT,qT,qT,qT,qF,qF,qF,qF] #[qT,qT,qF,qT,qT,qT,qT,qT,qF,qF,qF] rfl rfl rfl rfl (two_of HT_.out qK) (by decide) (by decide) (fun K hK=> ?_) (fun K hK=> ?_)
      ·skip
       refine goes_ Try.func49 qK rfl #[.int .i64 (wrap64 (Int.tdiv a0 10))] (by rfl) rfl rfl qll_ ?_
       with_reducible refine(ih k (by omega) (wrap64 (Int.tdiv a0 10)) t105 _ A11.out).mono ?_
       rintro e w14 ⟨rfl,hb⟩
       refine⟨_,rfl,?_⟩;replace HB:=qM_ (below_step qBHB hb)
       (try clear hb)
       (try clear hb2)
       (try clear hk)
       (try clear hi)
       refine hK.out _ _ trivial (fun hHeld=> ?_);clear hK K;refine norm_ (a' := ?_) ?_ ?_;rotate_left
       ·show Act.put _ (some 20) _=_
        simp only[Act.put,qS_,qW_];rfl
       refine one_ (i:=7) (N:=some 25) #[qT,qT,qT,qT,qT,qT,qT,qT,qF,qF,qF] rfl rfl (one_of HT_.out qK) (by decide) (fun K hK=> ?_)
       refine Kd.R_lit_step (Kd.int .u8) _ 5 ?hg (N:=25) ?hd (xs:=([(wrap64 (48+(Int.tmod a0 10))) % 256]:List Int)) (inner:=[.int .u8 ((wrap64 (48+(Int.tmod a0 10))) % 256)]) (ok:=fun _=>True) (okp:=fun _=>True) ?hr ?hp (fun _ hk=>hk) trivial (Below.refl _ _) (Nat.le_refl _) (by simp) ?_;(case hd=>rfl);(case hg=>rfl);(case hr=>first|(go_simp;done)|(go_simp;rfl));(case hp=>exact(Reps.one rfl (Reps.none _ _)))
       intro v107 w15 ho16 hb hg_ hnew_
       clear hg_ hnew_
       (first|rw[← Ny106.out]at ho16|(simp only[Int.reduceToNat]at ho16;rw[← Ny106.out]at ho16))
       have HO108:=qM_ (Kd.R_lower ho16 (below_size qBHB));replace HB:=qM_ (below_step qBHB hb);clear hb ho16;refine hK.out _ _ trivial (fun hHeld=> ?_);clear hK K;refine norm_ (a' := ?_) ?_ ?_;rotate_left
       ·show Act.put _ (some 25) _=_
        simp only[Act.put,qS_,qW_];rfl
       refine one_ (i:=8) (N:=some 26) #[qT,qT,qT,qT,qT,qT,qT,qT,qT,qF,qF] rfl rfl (one_of HT_.out qK) (by decide) (fun K hK=> ?_);have hcv17:=own_string (P:=Try.prog) Try.underlying26 Try.underlying5 Try.underlying9 (Kd.own_of_R HO108.out);refine value_ (w1:= ?_) (v:= ?_) (by rfl) rfl ?_ ?_;rotate_left 2
       ·go_simp
        constructor
        ·rfl
        ·rfl
       clear hcv17;refine hK.out _ _ trivial (fun hHeld=> ?_);clear hK K;refine norm_ (a' := ?_) ?_ ?_;rotate_left
       ·show Act.put _ (some 26) _=_
        simp only[Act.put,qS_,qW_];rfl
       exact norm_ (by simp only[putAll,Act.put,List.setIfInBounds_toArray,List.set_cons_zero,List.set_cons_succ]) (hCont (v107) _ ⟨(qr_ HO108),qBHB⟩)
      ·skip
       refine Kd.R_lit_step (Kd.int .u8) _ 5 ?hg (N:=25) ?hd (xs:=([(wrap64 (48+(Int.tmod a0 10))) % 256]:List Int)) (inner:=[.int .u8 ((wrap64 (48+(Int.tmod a0 10))) % 256)]) (ok:=fun _=>True) (okp:=fun _=>True) ?hr ?hp (fun _ hk=>hk) trivial (Below.refl _ _) (Nat.le_refl _) (by simp) ?_;(case hd=>rfl);(case hg=>rfl);(case hr=>first|(go_simp;done)|(go_simp;rfl));(case hp=>exact(Reps.one rfl (Reps.none _ _)))
       intro v107 w14 ho15 hb hg_ hnew_
       clear hg_ hnew_
       (first|rw[← Ny106.out]at ho15|(simp only[Int.reduceToNat]at ho15;rw[← Ny106.out]at ho15))
       have HO108:=qM_ (Kd.R_lower ho15 (below_size qBHB));replace HB:=qM_ (below_step qBHB hb);clear hb ho15;refine hK.out _ _ trivial (fun hHeld=> ?_);clear hK K;refine norm_ (a' := ?_) ?_ ?_;rotate_left
       ·show Act.put _ (some 25) _=_
        simp only[Act.put,qS_,qW_];rfl
       refine two_ (i:=2) (j:=8) (Ni:=some 20) (Nj:=some 26) #[qT,qT,qT,qT,qT,qT,qT,qT,qF,qF,qF] #[qT,qT,qF,qT,qT,qT,qT,qT,qT,qF,qF] rfl rfl rfl rfl (two_of HT_.out qK) (by decide) (by decide) (fun K hK=> ?_) (fun K hK=> ?_)
       ·skip
        refine goes_ Try.func49 qK rfl #[.int .i64 (wrap64 (Int.tdiv a0 10))] (by rfl) rfl rfl qll_ ?_
        with_reducible refine(ih k (by omega) (wrap64 (Int.tdiv a0 10)) t105 _ A11.out).mono ?_
        rintro e w16 ⟨rfl,hb⟩
        refine⟨_,rfl,?_⟩;replace HO108:=qM_ (Kd.R_below (qr_ HO108) hb);replace HB:=qM_ (below_step qBHB hb)
        (try clear hb)
        (try clear hb2)
        (try clear hk)
        (try clear hi)
        refine hK.out _ _ trivial (fun hHeld=> ?_);clear hK K;refine norm_ (a' := ?_) ?_ ?_;rotate_left
        ·show Act.put _ (some 20) _=_
         simp only[Act.put,qS_,qW_];rfl
        refine one_ (i:=8) (N:=some 26) #[qT,qT,qT,qT,qT,qT,qT,qT,qT,qF,qF] rfl rfl (one_of HT_.out qK) (by decide) (fun K hK=> ?_);have hcv17:=own_string (P:=Try.prog) Try.underlying26 Try.underlying5 Try.underlying9 (Kd.own_of_R HO108.out);refine value_ (w1:= ?_) (v:= ?_) (by rfl) rfl ?_ ?_;rotate_left 2
        ·go_simp
         constructor
         ·rfl
         ·rfl
        clear hcv17;refine hK.out _ _ trivial (fun hHeld=> ?_);clear hK K;refine norm_ (a' := ?_) ?_ ?_;rotate_left
        ·show Act.put _ (some 26) _=_
         simp only[Act.put,qS_,qW_];rfl
        exact norm_ (by simp only[putAll,Act.put,List.setIfInBounds_toArray,List.set_cons_zero,List.set_cons_succ]) (hCont (v107) _ ⟨(qr_ HO108),qBHB⟩)
       ·skip
        have hcv16:=own_string (P:=Try.prog) Try.underlying26 Try.underlying5 Try.underlying9 (Kd.own_of_R HO108.out);refine value_ (w1:= ?_) (v:= ?_) (by rfl) rfl ?_ ?_;rotate_left 2
        ·go_simp
         constructor
         ·rfl
         ·rfl
        clear hcv16;refine hK.out _ _ trivial (fun hHeld=> ?_);clear hK K;refine norm_ (a' := ?_) ?_ ?_;rotate_left
        ·show Act.put _ (some 26) _=_
         simp only[Act.put,qS_,qW_];rfl
        refine one_ (i:=2) (N:=some 20) #[qT,qT,qT,qT,qT,qT,qT,qT,qT,qF,qF] rfl rfl (one_of HT_.out qK) (by decide) (fun K hK=> ?_);refine goes_ Try.func49 qK rfl #[.int .i64 (wrap64 (Int.tdiv a0 10))] (by rfl) rfl rfl qll_ ?_
        with_reducible refine(ih k (by omega) (wrap64 (Int.tdiv a0 10)) t105 _ A11.out).mono ?_
        rintro e w17 ⟨rfl,hb⟩
        refine⟨_,rfl,?_⟩;replace HO108:=qM_ (Kd.R_below (qr_ HO108) hb);replace HB:=qM_ (below_step qBHB hb)
        (try clear hb)
        (try clear hb2)
        (try clear hk)
        (try clear hi)
        refine hK.out _ _ trivial (fun hHeld=> ?_);clear hK K;refine norm_ (a' := ?_) ?_ ?_;rotate_left
        ·show Act.put _ (some 20) _=_
         simp only[Act.put,qS_,qW_];rfl
        exact norm_ (by simp only[putAll,Act.put,List.setIfInBounds_toArray,List.set_cons_zero,List.set_cons_succ]) (hCont (v107) _ ⟨(qr_ HO108),qBHB⟩)
     rintro v107 w18 ⟨h0_,h1_⟩
     have HO108:Aside0 (Kd.R (Kd.int .u8) 5 w18 w.heap.size (fun _=>True) v107 y106):=⟨h0_⟩;replace HB:Aside0 (Below w.heap.size w w18):=⟨h1_⟩;clear h0_ h1_;have hHeld:=trivial;refine norm_ (a' := ?_) ?_ ?_;rotate_left
     ·simp only[putAll,Act.put,List.setIfInBounds_toArray,List.set_cons_zero,List.set_cons_succ]
      rfl
     refine pure_ (i:=9) (N:=some 27) (v:= ?_) (a' := ?_) #[qT,qT,qT,qT,qT,qT,qT,qT,qT,qT,qF] rfl rfl (any_of HT_.out qK) (fun _ _ _ h=>h) (Or.inl ⟨by rfl,?_⟩) ?_ ?_;rotate_left
     ·intro w'
      go_simp;with_reducible rfl
     rotate_left
     ·simp only[Act.put,qS_,qW_]
      rfl
     refine pure_ (i:=10) (N:=some 2) (v:= ?_) (a' := ?_) #[qT,qT,qT,qT,qT,qT,qT,qT,qT,qT,qT] rfl rfl (any_of HT_.out qK) (fun _ _ _ h=>h) (Or.inl ⟨by rfl,?_⟩) ?_ ?_;rotate_left
     ·intro w'
      go_simp;with_reducible rfl
     rotate_left
     ·simp only[Act.put,qS_,qW_]
      rfl
     refine done_ (done_of HT_.out qK) ?_
     try go_wp2
     go_ret;exact⟨qee_,qBHB⟩
    ·rw[if_neg c12]at H
     exact absurd H (by simp)


/-! ### z74_: function 74 -/
def z74_.l0:Nat→ByteArray→Int→List ByteArray→Int→Int→Option (List ByteArray)
 | 0,_,_,_,_,_=>none
 | k+1,x0,x1,x5,x6,x7=>if x7 < (x0.size:Int)then(if 0≤x7 then(if(bt x0 x7)=x1 then(if 0≤x6 then(if x6≤x7 then(if x7≤(x0.size:Int)then(if x5.length < 8796093022208 then(z74_.l0 k x0 x1 (x5 ++ [x0.extract (x6:Int).toNat (x7:Int).toNat]) (wrap64 (x7+1)) (wrap64 (x7+1)))else(none))else(none))else(none))else(none))else(z74_.l0 k x0 x1 x5 x6 (wrap64 (x7+1))))else(none))else(if 0≤x6 then(if x6≤(x0.size:Int)then(if x5.length < 8796093022208 then(some (x5 ++ [x0.extract (x6:Int).toNat x0.size]))else(none))else(none))else(none))
def z74_.f (k:Nat) (a0:ByteArray) (a1:Int):Option (List ByteArray):=z74_.l0 k a0 a1 (([]:List ByteArray)) 0 0
theorem z74_.mono_l:∀ k,(∀ y0 y1 y2 y3 y4,LeO (z74_.l0 k y0 y1 y2 y3 y4) (z74_.l0 (k+1) y0 y1 y2 y3 y4))
 | 0=>fun _ _ _ _ _ r h=>by simp[z74_.l0]at h
 | k+1=>by
  have ih0:=z74_.mono_l k
  ·intro y0 y1 y2 y3 y4
   unfold z74_.l0
   repeat' first
   | (with_reducible exact ih0 _ _ _ _ _)
   | (with_reducible exact LeO.refl _)
   | (with_reducible exact LeO.none _)
   | (with_reducible refine LeO.ite ?_ ?_)
   | (with_reducible refine LeO.bind ?_ (fun _=> ?_))
   | exact ih0 _ _ _ _ _
   | exact LeO.none _
   | refine LeO.ite ?_ ?_
   | refine LeO.bind ?_ (fun _=> ?_)
theorem z74_.mono:∀ a0 a1 k,LeO (z74_.f k a0 a1) (z74_.f (k+1) a0 a1):=by
 intro a0 a1 k
 have ih0:=z74_.mono_l k
 unfold z74_.f
 repeat' first
   | (with_reducible exact ih0 _ _ _ _ _)
   | (with_reducible exact LeO.refl _)
   | (with_reducible exact LeO.none _)
   | (with_reducible refine LeO.ite ?_ ?_)
   | (with_reducible refine LeO.bind ?_ (fun _=> ?_))
   | exact ih0 _ _ _ _ _
   | exact LeO.none _
   | refine LeO.ite ?_ ?_
   | refine LeO.bind ?_ (fun _=> ?_)
set_option maxHeartbeats 8000000 in
set_option maxRecDepth 100000 in
theorem z74_.calls (k:Nat) (a0:ByteArray) (a1:Int) (r:List ByteArray) (w:World) (h:z74_.f k a0 a1=some r) :
  Calls Try.prog 74 #[.string a0,.int .u8 a1] w fun e w' => ∃ v0_:Value,e= .returned (v0_)∧Kd.R Kd.string 9 w' w.heap.size (fun _=>True) v0_ r∧Below w.heap.size w w' := by
 have HB:=qM_ (Below.refl w.heap.size w)
 have H:(z74_.l0 k a0 a1 (([]:List ByteArray)) 0 0)=some r:=h
 clear h
 obtain⟨y101,hy101⟩:∃ y_:List ByteArray,y_=(([]:List ByteArray)):=⟨_,rfl⟩
 replace H:(z74_.l0 k a0 a1 y101 0 0)=some r:=qh_ hy101 H
 have Ny101:=qM_ hy101
 clear hy101
 have H' := qM_ H
 clear H
 go_enter Try.func74,Try.ntmps74
 go_wp2_with (first|((with_reducible refine gate_dst (N:=8) rfl ?_);refine Kd.R_lit Kd.string _ 9 ?hg (N:=8) ?hd (xs:=([]:List ByteArray)) (inner:=[]) (ok:=fun _=>True) (okp:=fun _=>True) ?hr ?hp (fun _ hk=>hk) trivial (Below.refl _ _) (Nat.le_refl _) (by simp) ?_;(case hd=>rfl);(case hg=>rfl);(case hr=>first|(go_simp;done)|(go_simp;rfl));(case hp=>exact(Reps.none _ _));intro v102 w3 ho4 hb hg_ hnew_;clear hg_ hnew_;(first|rw[← Ny101.out]at ho4|(simp only[Int.reduceToNat]at ho4;rw[← Ny101.out]at ho4));have HO103:=qM_ (Kd.R_lower ho4 (below_size qBHB));replace HB:=qM_ (below_step qBHB hb);clear hb ho4))
 go_loopg [5,6,7] k (fun kq v5 v6 v7 w' => ∃(x5_1:List ByteArray) (x6_1:Int) (x7_1:Int),v6= .int .i64 x6_1∧v7= .int .i64 x7_1∧Aside0 (z74_.l0 kq a0 a1 x5_1 x6_1 x7_1=some r)∧Aside0 (kq≤k)∧Aside0 (Kd.R Kd.string 9 w' w.heap.size (fun _=>True) v5 x5_1)∧Aside0 (Below w.heap.size w w'))
 case atStart=>exact⟨(y101),(0),(0),qff_,qff_,H', ⟨Nat.le_refl _⟩,⟨qr_ HO103⟩,⟨qBHB⟩⟩
 case round =>
  clear H'
  try clear p2
  obtain⟨x5_1,x6_1,x7_1,rfl,rfl,HA,HK1,HO_5,HB⟩:=hrel
  cases gk with
  | zero=>exact absurd HA.out (by simp[z74_.l0])
  | succ k1 =>
   have H:=HA.out;clear HA;simp only[z74_.l0]at H;by_cases c5:x7_1 < (a0.size:Int)
   ·rw[if_pos c5]at H
    have c5b0:decide (x7_1 < (a0.size:Int))=true:=decide_eq_true c5;clear c5;by_cases c6:0≤x7_1
    ·rw[if_pos c6]at H
     have c6b0:decide (0≤x7_1)=true:=decide_eq_true c6;clear c6;by_cases c8:(bt a0 x7_1)=a1
     ·rw[if_pos c8]at H
      have c8b0:((bt a0 x7_1) == a1)=true:=beq_iff_eq.mpr c8;have c8b1:((bt a0 x7_1) != a1)=false:=bne_eq_false_iff_eq.mpr c8;clear c8;by_cases c9:0≤x6_1
      ·rw[if_pos c9]at H
       have c9b0:=eq_true c9;have c9b1:decide (0≤x6_1)=true:=decide_eq_true c9;clear c9;by_cases c10:x6_1≤x7_1
       ·rw[if_pos c10]at H
        have c10b0:=eq_true c10;have c10b1:decide (x6_1≤x7_1)=true:=decide_eq_true c10;clear c10;by_cases c11:x7_1≤(a0.size:Int)
        ·rw[if_pos c11]at H
         have c11b0:=eq_true c11;have c11b1:decide (x7_1≤(a0.size:Int))=true:=decide_eq_true c11;clear c11;by_cases c12:x5_1.length < 8796093022208
         ·rw[if_pos c12]at H
          have LMc12:=qM_ c12;clear c12
          obtain⟨y104,hy104⟩:∃ y_:List ByteArray,y_=(x5_1 ++ [a0.extract (x6_1:Int).toNat (x7_1:Int).toNat]):=⟨_,rfl⟩
          replace H:(z74_.l0 k1 a0 a1 y104 (wrap64 (x7_1+1)) (wrap64 (x7_1+1)))=some r:=qh_ hy104 H;have Ny104:=qM_ hy104;clear hy104;have H' := qM_ H;clear H;have p7:0≤(x7_1:Int):=qd_;have q7:x7_1 < (a0.size:Int):=qd_;have hx7:=bt_at a0 x7_1;replace p7:=eq_true p7;replace q7:=eq_true q7
          go_wp2_with (first|((with_reducible refine gate_builtin (b:= .append) (xs:=#[.tmp 20,.tmp 25]) rfl ?_);at_builtin;refine Kd.R_append Kd.string (w0:=w) w.heap.size rfl (.tmp 20) (.tmp 25) 91 9 (.string ⟨#[]⟩) 16 rfl Try.underlying91 info9 rfl (by decide) (by omega) u5 x5_1 (a0.extract (x6_1:Int).toNat (x7_1:Int).toNat) [.string (a0.extract (x6_1:Int).toNat (x7_1:Int).toNat)] (fun _=>True) (fun _=>False) rfl rfl ?aP (fun _ hk=>hk.elim) ?aF ?aO ?aB ?aS ?aL ?_;(case aP=>exact rfl);(case aB=>exact qBHB);(case aF=>exact(fun _ _=>trivial));(case aO=>exact(qr_ HO_5));(case aS=>exact(below_size qBHB));(case aL=>have:=LMc12.out;omega);intro v105 w13 ho hb hg hat;rw[← Ny104.out]at ho;replace HB:=qM_ (hb);have HO106:=qM_ (ho);clear HO_5;clear ho hb hg hat))
          go_roundg k1
          case measure=>have:=HK1.out;omega
          case rel=>exact⟨(y104),(wrap64 (x7_1+1)),(wrap64 (x7_1+1)),qff_,qff_,H', ⟨by have:=HK1.out;omega⟩,⟨qr_ HO106⟩,⟨qBHB⟩⟩
         ·rw[if_neg c12]at H
          exact absurd H (by simp)
        ·rw[if_neg c11]at H
         exact absurd H (by simp)
       ·rw[if_neg c10]at H
        exact absurd H (by simp)
      ·rw[if_neg c9]at H
       exact absurd H (by simp)
     ·rw[if_neg c8]at H
      have c8b0:((bt a0 x7_1) == a1)=false:=beq_eq_false_iff_ne.mpr c8;have c8b1:((bt a0 x7_1) != a1)=true:=bne_iff_ne.mpr c8;have H' := qM_ H;clear H;have p7:0≤(x7_1:Int):=qd_;have q7:x7_1 < (a0.size:Int):=qd_;have hx7:=bt_at a0 x7_1;replace p7:=eq_true p7;replace q7:=eq_true q7
      go_wp2
      go_roundg k1
      case measure=>have:=HK1.out;omega
      case rel=>exact⟨(x5_1),(x6_1),(wrap64 (x7_1+1)),qff_,qff_,H', ⟨by have:=HK1.out;omega⟩,⟨qr_ HO_5⟩,⟨qBHB⟩⟩
    ·rw[if_neg c6]at H
     exact absurd H (by simp)
   ·rw[if_neg c5]at H
    have c5b0:decide (x7_1 < (a0.size:Int))=false:=decide_eq_false c5;clear c5;by_cases c14:0≤x6_1
    ·rw[if_pos c14]at H
     have c14b0:=eq_true c14;have c14b1:decide (0≤x6_1)=true:=decide_eq_true c14;clear c14;by_cases c15:x6_1≤(a0.size:Int)
     ·rw[if_pos c15]at H
      have c15b0:=eq_true c15;have c15b1:decide (x6_1≤(a0.size:Int))=true:=decide_eq_true c15;clear c15;by_cases c16:x5_1.length < 8796093022208
      ·rw[if_pos c16]at H
       have LMc16:=qM_ c16;clear c16
       obtain⟨y107,hy107⟩:∃ y_:List ByteArray,y_=(x5_1 ++ [a0.extract (x6_1:Int).toNat a0.size]):=⟨_,rfl⟩
       replace H:(some y107)=some r:=qh_ hy107 H;have Ny107:=qM_ hy107;clear hy107;obtain rfl:=Option.some.inj H
       go_wp2_with (first|((with_reducible refine gate_builtin (b:= .append) (xs:=#[.tmp 29,.tmp 33]) rfl ?_);at_builtin;refine Kd.R_append Kd.string (w0:=w) w.heap.size rfl (.tmp 29) (.tmp 33) 91 9 (.string ⟨#[]⟩) 16 rfl Try.underlying91 info9 rfl (by decide) (by omega) u5 x5_1 (a0.extract (x6_1:Int).toNat a0.size) [.string (a0.extract (x6_1:Int).toNat a0.size)] (fun _=>True) (fun _=>False) rfl rfl ?aP (fun _ hk=>hk.elim) ?aF ?aO ?aB ?aS ?aL ?_;(case aP=>exact rfl);(case aB=>exact qBHB);(case aF=>exact(fun _ _=>trivial));(case aO=>exact(qr_ HO_5));(case aS=>exact(below_size qBHB));(case aL=>have:=LMc16.out;omega);intro v108 w17 ho hb hg hat;rw[← Ny107.out]at ho;replace HB:=qM_ (hb);have HO109:=qM_ (ho);clear HO_5;clear ho hb hg hat))
       go_ret;exact⟨_,qee_,qr_ HO109,qBHB⟩
      ·rw[if_neg c16]at H
       exact absurd H (by simp)
     ·rw[if_neg c15]at H
      exact absurd H (by simp)
    ·rw[if_neg c14]at H
     exact absurd H (by simp)


/-! ### z64_: function 64 -/
def z64_.l0:Nat→ByteArray→Int→List ByteArray→Int→Option (ByteArray)
 | 0,_,_,_,_=>none
 | k+1,x5,x6,x7,x8=>if x8 < (x7.length:Int)then(if x8 > 0 then(if 0≤x8 then(if(wrap64 ((wrap64 (x6+1))+((rdOf ByteArray.empty x7 x8).size:Int))) > 78 then(if x5.size+2≤9223372036854775807 then(if 1+(rdOf ByteArray.empty x7 x8).size≤9223372036854775807 then(if(x5 ++ (⟨#[13,10]⟩:ByteArray)).size+((⟨#[32]⟩:ByteArray) ++ (rdOf ByteArray.empty x7 x8)).size≤9223372036854775807 then(z64_.l0 k ((x5 ++ (⟨#[13,10]⟩:ByteArray)) ++ ((⟨#[32]⟩:ByteArray) ++ (rdOf ByteArray.empty x7 x8))) (wrap64 (0+(wrap64 (1+((rdOf ByteArray.empty x7 x8).size:Int))))) x7 (wrap64 (x8+1)))else(none))else(none))else(none))else(if 1+(rdOf ByteArray.empty x7 x8).size≤9223372036854775807 then(if x5.size+((⟨#[32]⟩:ByteArray) ++ (rdOf ByteArray.empty x7 x8)).size≤9223372036854775807 then(z64_.l0 k (x5 ++ ((⟨#[32]⟩:ByteArray) ++ (rdOf ByteArray.empty x7 x8))) (wrap64 (x6+(wrap64 (1+((rdOf ByteArray.empty x7 x8).size:Int))))) x7 (wrap64 (x8+1)))else(none))else(none)))else(none))else(if 0≤x8 then(if 1+(rdOf ByteArray.empty x7 x8).size≤9223372036854775807 then(if x5.size+((⟨#[32]⟩:ByteArray) ++ (rdOf ByteArray.empty x7 x8)).size≤9223372036854775807 then(z64_.l0 k (x5 ++ ((⟨#[32]⟩:ByteArray) ++ (rdOf ByteArray.empty x7 x8))) (wrap64 (x6+(wrap64 (1+((rdOf ByteArray.empty x7 x8).size:Int))))) x7 (wrap64 (x8+1)))else(none))else(none))else(none)))else(if x5.size+2≤9223372036854775807 then(some (x5 ++ (⟨#[13,10]⟩:ByteArray)))else(none))
def z64_.f (k:Nat) (a0:ByteArray) (a1:ByteArray):Option (ByteArray):=if a0.size+1≤9223372036854775807 then((z74_.f k a1 32).bind fun t101=>(z64_.l0 k (a0 ++ (⟨#[58]⟩:ByteArray)) ((a0 ++ (⟨#[58]⟩:ByteArray)).size:Int) t101 0))else(none)
theorem z64_.mono_l:∀ k,(∀ y0 y1 y2 y3,LeO (z64_.l0 k y0 y1 y2 y3) (z64_.l0 (k+1) y0 y1 y2 y3))
 | 0=>fun _ _ _ _ r h=>by simp[z64_.l0]at h
 | k+1=>by
  have ih0:=z64_.mono_l k
  ·intro y0 y1 y2 y3
   unfold z64_.l0
   repeat' first
   | (with_reducible exact ih0 _ _ _ _)
   | (with_reducible exact z74_.mono _ _ _)
   | (with_reducible exact LeO.refl _)
   | (with_reducible exact LeO.none _)
   | (with_reducible refine LeO.ite ?_ ?_)
   | (with_reducible refine LeO.bind ?_ (fun _=> ?_))
   | exact ih0 _ _ _ _
   | exact z74_.mono _ _ _
   | exact LeO.none _
   | refine LeO.ite ?_ ?_
   | refine LeO.bind ?_ (fun _=> ?_)
theorem z64_.mono:∀ a0 a1 k,LeO (z64_.f k a0 a1) (z64_.f (k+1) a0 a1):=by
 intro a0 a1 k
 have ih0:=z64_.mono_l k
 unfold z64_.f
 repeat' first
   | (with_reducible exact ih0 _ _ _ _)
   | (with_reducible exact z74_.mono _ _ _)
   | (with_reducible exact LeO.refl _)
   | (with_reducible exact LeO.none _)
   | (with_reducible refine LeO.ite ?_ ?_)
   | (with_reducible refine LeO.bind ?_ (fun _=> ?_))
   | exact ih0 _ _ _ _
   | exact z74_.mono _ _ _
   | exact LeO.none _
   | refine LeO.ite ?_ ?_
   | refine LeO.bind ?_ (fun _=> ?_)
set_option maxHeartbeats 8000000 in
set_option maxRecDepth 100000 in
theorem z64_.calls (k:Nat) (a0:ByteArray) (a1:ByteArray) (r:ByteArray) (w:World) (h:z64_.f k a0 a1=some r) :
  Calls Try.prog 64 #[.string a0,.string a1] w fun e w' => e= .returned (.string r)∧Below w.heap.size w w' := by
 have HB:=qM_ (Below.refl w.heap.size w)
 have H:(if a0.size+1≤9223372036854775807 then((z74_.f k a1 32).bind fun t101=>(z64_.l0 k (a0 ++ (⟨#[58]⟩:BA_)) ((a0 ++ (⟨#[58]⟩:BA_)).size:Int) t101 0))else(none))=some r:=h
 clear h
 by_cases c3:a0.size+1≤9223372036854775807
 ·rw[if_pos c3]at H
  have c3b0:=eq_true c3;have c3b1:decide (a0.size+1≤9223372036854775807)=true:=decide_eq_true c3
  try have c3b2:(9223372036854775807 < a0.size+1)=False:=eq_false (Nat.not_lt.2 c3)
  replace H:=Option.bind_eq_some_iff.mp H;obtain⟨t101,A40,H⟩:=H;have A4:=qM_ A40;clear A40;have H' := qM_ H;clear H;go_enter Try.func64,Try.ntmps64
  go_wp2_with (first|((with_reducible refine gate_callee (f:=74) rfl ?_);refine goesL_ (some 14) rfl rfl Try.func74 qK rfl #[.string a1,.int .u8 32] rfl qll_ ?_;(with_reducible refine(z74_.calls k a1 32 t101 _ A4.out).mono ?_);rintro e w5 ⟨v102,rfl,ho0,hb⟩;refine⟨_,rfl,?_⟩;have HO103:=qM_ (Kd.R_lower ho0 (below_size qBHB));replace HB:=qM_ (below_step qBHB hb);(try clear hb);(try clear hb2);(try clear hk);(try clear hi);(try clear ho0)))
  go_loopg [5,6,8] k (fun kq v5 v6 v8 w' => ∃(x5_1:ByteArray) (x6_1:Int) (x8_1:Int),v5= .string x5_1∧v6= .int .i64 x6_1∧v8= .int .i64 x8_1∧Aside0 (z64_.l0 kq x5_1 x6_1 t101 x8_1=some r)∧Aside0 (kq≤k)∧Aside0 (Kd.R Kd.string 9 w' w.heap.size (fun _=>True) v102 t101)∧Aside0 (Below w.heap.size w w'))
  case atStart=>exact⟨(a0 ++ (⟨#[58]⟩:BA_)),(((a0 ++ (⟨#[58]⟩:BA_)).size:Int)),(0),(by first|rfl|(simp;done)|(simp[*];done)|(simp;rfl)|(refine congrArg (Value.int .i64) ?_;(try simp only[Int.zero_add]);unfold wrap64;omega)),(by first|rfl|(simp;done)|(simp[*];done)|(simp;rfl)|(refine congrArg (Value.int .i64) ?_;(try simp only[Int.zero_add]);unfold wrap64;omega)),(by first|rfl|(simp;done)|(simp[*];done)|(simp;rfl)|(refine congrArg (Value.int .i64) ?_;(try simp only[Int.zero_add]);unfold wrap64;omega)),H', ⟨Nat.le_refl _⟩,⟨qr_ HO103⟩,⟨qBHB⟩⟩
  case round =>
   clear H'
   try clear p2
   try clear c3
   try clear c3b0
   try clear c3b1
   try clear c3b2
   obtain⟨x5_1,x6_1,x8_1,rfl,rfl,rfl,HA,HK1,HO_7,HB⟩:=hrel
   cases gk with
   | zero=>exact absurd HA.out (by simp[z64_.l0])
   | succ k1 =>
    have H:=HA.out;clear HA;simp only[z64_.l0]at H;by_cases c6:x8_1 < (t101.length:Int)
    ·rw[if_pos c6]at H
     have c6b0:decide (x8_1 < (t101.length:Int))=true:=decide_eq_true c6;clear c6;by_cases c7:x8_1 > 0
     ·rw[if_pos c7]at H
      have c7b0:decide (0 < x8_1)=true:=decide_eq_true c7;clear c7;by_cases c8:0≤x8_1
      ·rw[if_pos c8]at H
       have c8b0:decide (0≤x8_1)=true:=decide_eq_true c8;clear c8;by_cases c9:(wrap64 ((wrap64 (x6_1+1))+((rdOf ByteArray.empty t101 x8_1).size:Int))) > 78
       ·rw[if_pos c9]at H
        have c9b0:decide (78 < (wrap64 ((wrap64 (x6_1+1))+((rdOf ByteArray.empty t101 x8_1).size:Int))))=true:=decide_eq_true c9;clear c9;by_cases c10:x5_1.size+2≤9223372036854775807
        ·rw[if_pos c10]at H
         have c10b0:=eq_true c10;have c10b1:decide (x5_1.size+2≤9223372036854775807)=true:=decide_eq_true c10
         try have c10b2:(9223372036854775807 < x5_1.size+2)=False:=eq_false (Nat.not_lt.2 c10)
         by_cases c11:1+(rdOf ByteArray.empty t101 x8_1).size≤9223372036854775807
         ·rw[if_pos c11]at H
          have c11b0:=eq_true c11;have c11b1:decide (1+(rdOf ByteArray.empty t101 x8_1).size≤9223372036854775807)=true:=decide_eq_true c11
          try have c11b2:(9223372036854775807 < 1+(rdOf ByteArray.empty t101 x8_1).size)=False:=eq_false (Nat.not_lt.2 c11)
          by_cases c12:(x5_1 ++ (⟨#[13,10]⟩:BA_)).size+((⟨#[32]⟩:BA_) ++ (rdOf ByteArray.empty t101 x8_1)).size≤9223372036854775807
          ·rw[if_pos c12]at H
           have c12b0:=eq_true c12;have c12b1:decide ((x5_1 ++ (⟨#[13,10]⟩:BA_)).size+((⟨#[32]⟩:BA_) ++ (rdOf ByteArray.empty t101 x8_1)).size≤9223372036854775807)=true:=decide_eq_true c12
           try have c12b2:(9223372036854775807 < (x5_1 ++ (⟨#[13,10]⟩:BA_)).size+((⟨#[32]⟩:BA_) ++ (rdOf ByteArray.empty t101 x8_1)).size)=False:=eq_false (Nat.not_lt.2 c12)
           try(have hz_:=c12;have ez_:(x5_1 ++ (⟨#[13,10]⟩:BA_)).size+((⟨#[32]⟩:BA_) ++ (rdOf ByteArray.empty t101 x8_1)).size=x5_1.size+2+(1+(rdOf ByteArray.empty t101 x8_1).size):=(by simp only[ByteArray.size_append] <;> rfl);rw[ez_]at hz_;clear ez_;have c12z0:=eq_false (Nat.not_lt.2 hz_);have c12z1:=eq_true hz_;clear hz_)
           have H' := qM_ H;clear H;obtain⟨Ao13,co13,eo13⟩:=Kd.R_slice HO_7.out;subst eo13;have p104:0≤(x8_1:Int):=qd_;have q104:x8_1 < (t101.length:Int):=qd_;obtain⟨ad104,e104,hx104_0⟩:=Kd.at_string (Kd.R_reads' HO_7.out).2.2 x8_1 p104 q104;cases e104;replace p104:=eq_true p104;replace q104:=eq_true q104;have p105:0≤(x8_1:Int):=qd_;have q105:x8_1 < (t101.length:Int):=qd_;obtain⟨ad105,e105,hx105_0⟩:=Kd.at_string (Kd.R_reads' HO_7.out).2.2 x8_1 p105 q105;obtain rfl:ad104=ad105:=(by injection e105);replace p105:=eq_true p105;replace q105:=eq_true q105;have p106:0≤(x8_1:Int):=qd_;have q106:x8_1 < (t101.length:Int):=qd_;obtain⟨ad106,e106,hx106_0⟩:=Kd.at_string (Kd.R_reads' HO_7.out).2.2 x8_1 p106 q106;obtain rfl:ad104=ad106:=(by injection e106);replace p106:=eq_true p106;replace q106:=eq_true q106
           go_wp2
           go_roundg k1
           case measure=>have:=HK1.out;omega
           case rel=>exact⟨((x5_1 ++ (⟨#[13,10]⟩:BA_)) ++ ((⟨#[32]⟩:BA_) ++ (rdOf ByteArray.empty t101 x8_1))),(wrap64 (0+(wrap64 (1+((rdOf ByteArray.empty t101 x8_1).size:Int))))),(wrap64 (x8_1+1)),(by first|rfl|(simp;done)|(simp[*];done)|(simp;rfl)|(refine congrArg (Value.int .i64) ?_;(try simp only[Int.zero_add]);unfold wrap64;omega)),(by first|rfl|(simp;done)|(simp[*];done)|(simp;rfl)|(refine congrArg (Value.int .i64) ?_;(try simp only[Int.zero_add]);unfold wrap64;omega)),(by first|rfl|(simp;done)|(simp[*];done)|(simp;rfl)|(refine congrArg (Value.int .i64) ?_;(try simp only[Int.zero_add]);unfold wrap64;omega)),H', ⟨by have:=HK1.out;omega⟩,⟨qr_ HO_7⟩,⟨qBHB⟩⟩
          ·rw[if_neg c12]at H
           exact absurd H (by simp)
         ·rw[if_neg c11]at H
          exact absurd H (by simp)
        ·rw[if_neg c10]at H
         exact absurd H (by simp)
       ·rw[if_neg c9]at H
        have c9b0:decide (78 < (wrap64 ((wrap64 (x6_1+1))+((rdOf ByteArray.empty t101 x8_1).size:Int))))=false:=decide_eq_false c9;clear c9;by_cases c14:1+(rdOf ByteArray.empty t101 x8_1).size≤9223372036854775807
        ·rw[if_pos c14]at H
         have c14b0:=eq_true c14;have c14b1:decide (1+(rdOf ByteArray.empty t101 x8_1).size≤9223372036854775807)=true:=decide_eq_true c14
         try have c14b2:(9223372036854775807 < 1+(rdOf ByteArray.empty t101 x8_1).size)=False:=eq_false (Nat.not_lt.2 c14)
         by_cases c15:x5_1.size+((⟨#[32]⟩:BA_) ++ (rdOf ByteArray.empty t101 x8_1)).size≤9223372036854775807
         ·rw[if_pos c15]at H
          have c15b0:=eq_true c15;have c15b1:decide (x5_1.size+((⟨#[32]⟩:BA_) ++ (rdOf ByteArray.empty t101 x8_1)).size≤9223372036854775807)=true:=decide_eq_true c15
          try have c15b2:(9223372036854775807 < x5_1.size+((⟨#[32]⟩:BA_) ++ (rdOf ByteArray.empty t101 x8_1)).size)=False:=eq_false (Nat.not_lt.2 c15)
          try(have hz_:=c15;have ez_:x5_1.size+((⟨#[32]⟩:BA_) ++ (rdOf ByteArray.empty t101 x8_1)).size=x5_1.size+(1+(rdOf ByteArray.empty t101 x8_1).size):=(by simp only[ByteArray.size_append] <;> rfl);rw[ez_]at hz_;clear ez_;have c15z0:=eq_false (Nat.not_lt.2 hz_);have c15z1:=eq_true hz_;clear hz_)
          have H' := qM_ H;clear H;obtain⟨Ao16,co16,eo16⟩:=Kd.R_slice HO_7.out;subst eo16;have p104:0≤(x8_1:Int):=qd_;have q104:x8_1 < (t101.length:Int):=qd_;obtain⟨ad104,e104,hx104_0⟩:=Kd.at_string (Kd.R_reads' HO_7.out).2.2 x8_1 p104 q104;cases e104;replace p104:=eq_true p104;replace q104:=eq_true q104;have p107:0≤(x8_1:Int):=qd_;have q107:x8_1 < (t101.length:Int):=qd_;obtain⟨ad107,e107,hx107_0⟩:=Kd.at_string (Kd.R_reads' HO_7.out).2.2 x8_1 p107 q107;obtain rfl:ad104=ad107:=(by injection e107);replace p107:=eq_true p107;replace q107:=eq_true q107;have p108:0≤(x8_1:Int):=qd_;have q108:x8_1 < (t101.length:Int):=qd_;obtain⟨ad108,e108,hx108_0⟩:=Kd.at_string (Kd.R_reads' HO_7.out).2.2 x8_1 p108 q108;obtain rfl:ad104=ad108:=(by injection e108);replace p108:=eq_true p108;replace q108:=eq_true q108
          go_wp2
          go_roundg k1
          case measure=>have:=HK1.out;omega
          case rel=>exact⟨(x5_1 ++ ((⟨#[32]⟩:BA_) ++ (rdOf ByteArray.empty t101 x8_1))),(wrap64 (x6_1+(wrap64 (1+((rdOf ByteArray.empty t101 x8_1).size:Int))))),(wrap64 (x8_1+1)),(by first|rfl|(simp;done)|(simp[*];done)|(simp;rfl)|(refine congrArg (Value.int .i64) ?_;(try simp only[Int.zero_add]);unfold wrap64;omega)),(by first|rfl|(simp;done)|(simp[*];done)|(simp;rfl)|(refine congrArg (Value.int .i64) ?_;(try simp only[Int.zero_add]);unfold wrap64;omega)),(by first|rfl|(simp;done)|(simp[*];done)|(simp;rfl)|(refine congrArg (Value.int .i64) ?_;(try simp only[Int.zero_add]);unfold wrap64;omega)),H', ⟨by have:=HK1.out;omega⟩,⟨qr_ HO_7⟩,⟨qBHB⟩⟩
         ·rw[if_neg c15]at H
          exact absurd H (by simp)
        ·rw[if_neg c14]at H
         exact absurd H (by simp)
      ·rw[if_neg c8]at H
       exact absurd H (by simp)
     ·rw[if_neg c7]at H
      have c7b0:decide (0 < x8_1)=false:=decide_eq_false c7;clear c7;by_cases c17:0≤x8_1
      ·rw[if_pos c17]at H
       have c17b0:decide (0≤x8_1)=true:=decide_eq_true c17;clear c17;by_cases c18:1+(rdOf ByteArray.empty t101 x8_1).size≤9223372036854775807
       ·rw[if_pos c18]at H
        have c18b0:=eq_true c18;have c18b1:decide (1+(rdOf ByteArray.empty t101 x8_1).size≤9223372036854775807)=true:=decide_eq_true c18
        try have c18b2:(9223372036854775807 < 1+(rdOf ByteArray.empty t101 x8_1).size)=False:=eq_false (Nat.not_lt.2 c18)
        by_cases c19:x5_1.size+((⟨#[32]⟩:BA_) ++ (rdOf ByteArray.empty t101 x8_1)).size≤9223372036854775807
        ·rw[if_pos c19]at H
         have c19b0:=eq_true c19;have c19b1:decide (x5_1.size+((⟨#[32]⟩:BA_) ++ (rdOf ByteArray.empty t101 x8_1)).size≤9223372036854775807)=true:=decide_eq_true c19
         try have c19b2:(9223372036854775807 < x5_1.size+((⟨#[32]⟩:BA_) ++ (rdOf ByteArray.empty t101 x8_1)).size)=False:=eq_false (Nat.not_lt.2 c19)
         try(have hz_:=c19;have ez_:x5_1.size+((⟨#[32]⟩:BA_) ++ (rdOf ByteArray.empty t101 x8_1)).size=x5_1.size+(1+(rdOf ByteArray.empty t101 x8_1).size):=(by simp only[ByteArray.size_append] <;> rfl);rw[ez_]at hz_;clear ez_;have c19z0:=eq_false (Nat.not_lt.2 hz_);have c19z1:=eq_true hz_;clear hz_)
         have H' := qM_ H;clear H;obtain⟨Ao20,co20,eo20⟩:=Kd.R_slice HO_7.out;subst eo20;have p109:0≤(x8_1:Int):=qd_;have q109:x8_1 < (t101.length:Int):=qd_;obtain⟨ad109,e109,hx109_0⟩:=Kd.at_string (Kd.R_reads' HO_7.out).2.2 x8_1 p109 q109;cases e109;replace p109:=eq_true p109;replace q109:=eq_true q109;have p110:0≤(x8_1:Int):=qd_;have q110:x8_1 < (t101.length:Int):=qd_;obtain⟨ad110,e110,hx110_0⟩:=Kd.at_string (Kd.R_reads' HO_7.out).2.2 x8_1 p110 q110;obtain rfl:ad109=ad110:=(by injection e110);replace p110:=eq_true p110;replace q110:=eq_true q110
         go_wp2
         go_roundg k1
         case measure=>have:=HK1.out;omega
         case rel=>exact⟨(x5_1 ++ ((⟨#[32]⟩:BA_) ++ (rdOf ByteArray.empty t101 x8_1))),(wrap64 (x6_1+(wrap64 (1+((rdOf ByteArray.empty t101 x8_1).size:Int))))),(wrap64 (x8_1+1)),(by first|rfl|(simp;done)|(simp[*];done)|(simp;rfl)|(refine congrArg (Value.int .i64) ?_;(try simp only[Int.zero_add]);unfold wrap64;omega)),(by first|rfl|(simp;done)|(simp[*];done)|(simp;rfl)|(refine congrArg (Value.int .i64) ?_;(try simp only[Int.zero_add]);unfold wrap64;omega)),(by first|rfl|(simp;done)|(simp[*];done)|(simp;rfl)|(refine congrArg (Value.int .i64) ?_;(try simp only[Int.zero_add]);unfold wrap64;omega)),H', ⟨by have:=HK1.out;omega⟩,⟨qr_ HO_7⟩,⟨qBHB⟩⟩
        ·rw[if_neg c19]at H
         exact absurd H (by simp)
       ·rw[if_neg c18]at H
        exact absurd H (by simp)
      ·rw[if_neg c17]at H
       exact absurd H (by simp)
    ·rw[if_neg c6]at H
     have c6b0:decide (x8_1 < (t101.length:Int))=false:=decide_eq_false c6;clear c6;by_cases c21:x5_1.size+2≤9223372036854775807
     ·rw[if_pos c21]at H
      have c21b0:=eq_true c21;have c21b1:decide (x5_1.size+2≤9223372036854775807)=true:=decide_eq_true c21
      try have c21b2:(9223372036854775807 < x5_1.size+2)=False:=eq_false (Nat.not_lt.2 c21)
      obtain rfl:=Option.some.inj H;obtain⟨Ao22,co22,eo22⟩:=Kd.R_slice HO_7.out;subst eo22
      go_wp2
      go_ret;exact⟨qee_,qBHB⟩
     ·rw[if_neg c21]at H
      exact absurd H (by simp)
 ·rw[if_neg c3]at H
  exact absurd H (by simp)


/-! ### z37_: function 37 -/
def z37_.f (a0:Int) (a1:Int) (a2:Int):Option (Bool):=if a0≥a1 then(some (decide (a0≤a2)))else(some false)
set_option maxHeartbeats 8000000 in
set_option maxRecDepth 100000 in
theorem z37_.calls (a0:Int) (a1:Int) (a2:Int) (r:Bool) (w:World) (h:z37_.f a0 a1 a2=some r) :
  Calls Try.prog 37 #[.int .i64 a0,.int .i64 a1,.int .i64 a2] w fun e w' => e= .returned (.bool r)∧Drawn0 w w' := by
 have H:(if a0≥a1 then(some (decide (a0≤a2)))else(some false))=some r:=h
 clear h
 by_cases c4:a0≥a1
 ·rw[if_pos c4]at H
  have c4b0:decide (a1≤a0)=true:=decide_eq_true c4;clear c4;obtain rfl:=Option.some.inj H;go_enter Try.func37,Try.ntmps37
  go_wp2
  go_ret;exact⟨by first|rfl|(simp;done)|(simp[*];done),by repeat(first|exact Drawn0.refl _|apply Drawn0.step)⟩
 ·rw[if_neg c4]at H
  have c4b0:decide (a1≤a0)=false:=decide_eq_false c4;clear c4;obtain rfl:=Option.some.inj H;go_enter Try.func37,Try.ntmps37
  go_wp2
  go_ret;exact⟨by first|rfl|(simp;done)|(simp[*];done),by repeat(first|exact Drawn0.refl _|apply Drawn0.step)⟩

end Go.Proofs.Ytbjefkeogbophaa.P
