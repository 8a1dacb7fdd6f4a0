/- Part 1 of what the law FnMutations stands on; the last part ends with the law's row. No condition of mine. -/
import Derived.Test.YtbjefkeogbophaaMFnMutations0
import Derived.Lib.ConvBytes
import Derived.Laws.AppendOwn
import Derived.ChangeArms
import Derived.DataReads
import Derived.SizedLaws
import Derived.Deep.Slices
import Derived.Lib.SlBytesRow
import Derived.Test.YtbjefkeogbophaaProg
import Derived.Below
import Derived.Deep.Draws
import Derived.Deep.AppendLies
import Derived.Maps.AppendAt
import Derived.OwnWalk
import Derived.Laws.BytesArg
import Derived.Laws.MakeOwn
import Derived.Laws.OwnMore
import Derived.Deep.OwnRows
import Derived.Tactics
import Derived.Laws.Slices
import Derived.WalkKit
import Derived.KernelRfl
import Derived.RowKit3
import Derived.Deep.LoopGhost
import Derived.Deep.QuietTactic
import Derived.BigQuiet
import Derived.WideLaws
import Derived.Deep.DeepCutAuto
import Derived.Deep.CutBlock
import Derived.Deep.RegionHeld3
import Derived.Laws.Rows
import Derived.Lib.AppendStr
import Derived.ArgAppend
import Derived.Laws.IdiomCopy
import Derived.OrdersHeld
import Derived.Laws.BitsLemmas
import Derived.RowKit
namespace Go.Proofs.YtbjefkeogbophaaW.PrintWords
open Go.RowKit
theorem conv_block (w:World) (e:TypeId) (s:ByteArray):(Lib.bytesWorld w e s).heap.size=w.heap.size+1:=Lib.bytesWorld_size w e s
theorem conv_below (w:World) (e:TypeId) (s:ByteArray):Below w.heap.size w (Lib.bytesWorld w e s) :=
  ⟨rfl,rfl,rfl,by rw[conv_block];omega,fun k hk=>Lib.bytesWorld_at_old w e s k hk⟩
theorem conv_C (w W:World) (e:TypeId) (s:ByteArray) (hs:s.size≤9223372036854775807) (hW:W.heap[w.heap.size]? = (Lib.bytesWorld w e s).heap[w.heap.size]?) :
    (Kd.int .u8).C W (some ⟨w.heap.size,0,none⟩) (bytesOf s).length (bytesOf s):=by
  refine⟨rfl,by simpa [bytesOf] using hs,fun hn=>⟨⟨w.heap.size,0,none⟩,rfl,fun j p hj=>⟨[.int .u8 p],rfl,rfl,fun i u hu=> ?_⟩⟩⟩
  have hjl:j < s.size:=by simpa [bytesOf] using (List.getElem?_eq_some_iff.1 hj).1
  cases i with
  | succ i=>simp at hu
  | zero =>
    have hu' : Value.int .u8 p=u:=by simpa using hu
    subst hu'
    have hp:p=((s.data.toList.getD j 0).toNat:Int):=by
      simp only[bytesOf,List.getElem?_map,Option.map_eq_some_iff]at hj
      obtain⟨b,hb,rfl⟩:=hj
      rw[List.getD_eq_getElem?_getD,hb]
      rfl
    have hc:=Lib.bytesWorld_cell w e s j hjl
    have ha:(⟨w.heap.size,0,none⟩:Addr).add (j*(Kd.int .u8).sz+0)=⟨w.heap.size,j,none⟩:=by
      show(⟨w.heap.size,0,none⟩:Addr).add (j*1+0)=_
      unfold Addr.add
      split <;> simp_all
    rw[ha,hp,← hc]
    exact World.cell?_of_block hW
namespace Kd
section
variable {P:Program} {ops:Array Oper} {rest:List Oper} {o:Oper} {a:Act} {Q:Exit→Act→World→Prop}
theorem V_conv {w0 W:World} (base:Nat) (hgd:o.guard=none) {N' : Tmp} (_hd:o.dst=some N') (src dst e:TypeId) (x:Operand) (ho:o.op= .convert src dst x) (s:ByteArray) (hx:a.eval x= .string s)
    (hsrc:P.underlying src=some .string) (hdst:P.underlying dst=some (.slice e)) (he:P.underlying e=some (.int .u8)) (hl:s.size≤9223372036854775807) (HB:Below base w0 W) (hbase:base≤W.heap.size)
    (h:∀ v1 w1,Kd.V (Kd.int .u8) e w1 base (fun k_=>W.heap.size≤k_) v1 (bytesOf s)→Below base w0 w1→W.grownBy w1 none→(∃ b,v1.ownBlock=some b∧W.heap.size≤b)→wpList P ops Q rest (a.put o.dst v1) w1):wpList P ops Q (o :: rest) a W:=by
  have hr:=Lib.run_convert_string_bytes (P:=P) W src dst e s hsrc hdst he
  have hb:=conv_below W e s
  refine event_run hgd (v:= .slice (some ⟨W.heap.size,0,none⟩) s.size (grownCap W s.size 0 e)) (w1:=Lib.bytesWorld W e s) (by simp[execOp,ho,hx,hr]) ?_
  have hlen:s.size=(bytesOf s).length:=by simp[bytesOf]
  refine h _ _ ⟨some ⟨W.heap.size,0,none⟩,grownCap W s.size 0 e,by rw[← hlen],by rw[← hlen];exact grownCap_ge _ _ _ _,?_⟩ ?_ (grown_of_below hb none) ⟨W.heap.size,by simp[Value.ownBlock],Nat.le_refl _⟩
  · intro W' hW'
    exact conv_C W W' e s hl (hW' _ (Nat.le_refl _) (by rw[conv_block];omega))
  · exact HB.trans ⟨hb.os,hb.tape,hb.output,hb.size,fun k hk=>hb.block k (by omega)⟩
end
end Kd
end Go.Proofs.YtbjefkeogbophaaW.PrintWords
namespace Go.Proofs.YtbjefkeogbophaaW.PrintWords
open Go.RowKit
section
variable {P:Program} {ops:Array Oper} {o:Oper} {a:Act} {Q:Exit→Act→World→Prop} {Kc:Act→World→Prop}
theorem print_append_str_step {w0 W:World} (base:Nat) (hw:Region.wanted o (yielded ops a.tmps)=true) (s x:Operand) (t u e:TypeId)
    (ho:o.op= .call { callee:= .builtin .append,args:=#[s,x],argTypes:=#[t,u] })
    (ht:P.underlying t=some (.slice e)) (hu:P.underlying u=some .string) (hinfo:(P.info? e).map (fun i=>(i.zero,i.size,i.bytes))=some (some (.int .u8 0),1,1))
    (v:Value) (xs:List Int) (y:ByteArray) (hs:a.eval s=v) (hx:a.eval x= .string y)
    (HO:W.ownsRow base e 1 v xs.length (nums .u8 xs)) (HB:Below base w0 W) (hbase:base≤W.heap.size) (hl:xs.length+y.size≤140737488355328)
    (h:∀ v1 w1,w1.ownsRow base e 1 v1 (xs ++ bytesOf y).length (nums .u8 (xs ++ bytesOf y))→Below base w0 w1→W.grownBy w1 v.ownBlock→Kc (a.put o.dst v1) w1) :
    if Region.wanted o (yielded ops a.tmps)=true then Oper.wp P o a W Kc Q else Kc (a.put o.dst undef) W:=by
  obtain⟨i0,hi,hzz⟩:=Option.map_eq_some_iff.1 hinfo
  simp only[Prod.mk.injEq]at hzz
  obtain⟨hz0,hz1,hz2⟩:=hzz
  obtain⟨v1,w1,hr,h2,h3,h4⟩:=Lib.run_append_own_string (P:=P) W base t u o.type e i0 ht hu hi hz0 hz1 hz2 v xs.length (nums .u8 xs) HO y (by simp only[maxLen];omega) hl hbase
  have hl2:(xs ++ bytesOf y).length=xs.length+y.size:=by rw[List.length_append,bytesOf_length]
  have hc:nums .u8 (xs ++ bytesOf y)=nums .u8 xs ++ Lib.strCells y:=by
    rw[nums_append]
    congr 1
    simp[nums,bytesOf,Lib.strCells]
  rw[if_pos hw]
  unfold Oper.wp execOp
  simp only[ho,resolve,invoke,builtin,Sem.run_bind,Sem.run_pure,Result.andThen_ok,List.map_toArray,List.map_cons,List.map_nil,hs,hx,hr]
  exact h v1 w1 (by rw[hl2,hc];exact h2) (HB.grown h3 hbase (own_base HO)) h3
end
end Go.Proofs.YtbjefkeogbophaaW.PrintWords
namespace Go.Proofs.YtbjefkeogbophaaW.PrintLast
end Go.Proofs.YtbjefkeogbophaaW.PrintLast
namespace Go.Proofs.YtbjefkeogbophaaW.PrintWords
open Go.RowKit
namespace Kd
def Z {α:Type} (d:Kd α) (e:Nat) (w:World) (base:Nat) (v:Value) (xs:List α):Prop :=
  ∃(enc:α→Value) (g cap:Nat) (cur:Array Value) (fz:Nat × Nat),(∀ W x,d.K W x [enc x])∧d.sz=1∧v= .slice (some ⟨g,0,none⟩) xs.length cap∧base≤g ∧
    w.heap[g]? = some (.cells cur e fz)∧xs.length≤cap∧xs.length≤9223372036854775807∧xs.length≤fz.1∧cur.toList.take xs.length=xs.map enc
def G {α:Type} (d:Kd α) (e:Nat) (w:World) (base:Nat) (ok:Nat→Prop) (v:Value) (xs:List α):Prop:=(∀ k,v.ownBlock=some k→ok k)∧(d.R e w base ok v xs∨Z d e w base v xs)
theorem z_lt {w:World} {k:Nat} {o:Obj} (h:w.heap[k]? = some o):k < w.heap.size:=by
  rcases Nat.lt_or_ge k w.heap.size with h' | h'
  · exact h'
  · rw[Array.getElem?_eq_none h']at h;cases h
section
variable {α:Type} {d:Kd α} {e e' : Nat} {w w1 W W2:World} {base b:Nat} {ok ok' ok1:Nat→Prop} {v u:Value} {xs:List α} {S:Nat→Prop}
theorem G_of_R (h:d.R e w base ok v xs):d.G e w base ok v xs:=⟨h.1,.inl h⟩
theorem Z_move (h:Z d e w base v xs) (hm:∀ k,v.ownBlock=some k→w1.heap[k]? = w.heap[k]?):Z d e w1 base v xs:=by
  obtain⟨enc,g,cap,cur,fz,h1,h2,rfl,h4,h5,r⟩:=h
  exact⟨enc,g,cap,cur,fz,h1,h2,rfl,h4,(hm g (by simp[Value.ownBlock])).trans h5,r⟩
theorem Z_typed (h:Z d e w base v xs):∀ k,v.ownBlock=some k→∃ cells fz,w.heap[k]? = some (.cells cells e fz):=by
  obtain⟨enc,g,cap,cur,fz,h1,h2,rfl,h4,h5,r⟩:=h
  intro k hk
  have:g=k:=by simpa [Value.ownBlock] using hk
  subst this
  exact⟨cur,fz,h5⟩
theorem G_typed (h:d.G e w base ok v xs):∀ k,v.ownBlock=some k→∃ cells fz,w.heap[k]? = some (.cells cells e fz):=by
  rcases h.2 with h|h
  · exact fun k hk=>let ⟨c,hc⟩:=R_typed h k hk;⟨c,_,hc⟩
  · exact Z_typed h
theorem G_lt (h:d.G e w base ok v xs):∀ k,v.ownBlock=some k→k < w.heap.size:=fun k hk=>let ⟨_,_,hc⟩:=G_typed h k hk;z_lt hc
theorem G_mono (h:d.G e w base ok v xs) (hok:∀ k,ok k→ok' k):d.G e w base ok' v xs:=⟨fun k hk=>hok k (h.1 k hk),h.2.imp (fun h=>R_mono h hok) id⟩
theorem G_step (h:d.G e w base ok v xs) (hm:∀ k,ok k→k < w.heap.size→w1.heap[k]? = w.heap[k]?):d.G e w1 base ok v xs :=
  ⟨h.1,h.2.imp (fun h=>R_step h hm) (fun hz=>Z_move hz fun k hk=>hm k (h.1 k hk) (G_lt h k hk))⟩
theorem G_below (h:d.G e w base ok v xs) (hb:Below w.heap.size w w1):d.G e w1 base ok v xs:=G_step h (fun k _ hk=>hb.block k hk)
theorem G_alloc (h:d.G e w base ok v xs) (o:Obj):d.G e (w.alloc o) base ok v xs:=G_below h (below_alloc (Below.refl _ _) o)
theorem G_drew (h:d.G e w base ok v xs):d.G e w.drew base ok v xs:=G_below h (below_drew (Below.refl _ _))
theorem G_drewN (h:d.G e w base ok v xs) (m:Nat):d.G e (w.drewN m) base ok v xs:=G_below h (pw_below_drewN (Below.refl _ _) m)
theorem G_lower {base' : Nat} (h:d.G e w base ok v xs) (hb:base' ≤ base):d.G e w base' ok v xs:=by
  refine⟨h.1,h.2.imp (fun h=>R_lower h hb) ?_⟩
  rintro⟨enc,g,cap,cur,fz,h1,h2,rfl,h4,r⟩
  exact⟨enc,g,cap,cur,fz,h1,h2,rfl,Nat.le_trans hb h4,r⟩
end
section
variable {P:Program} {ops:Array Oper} {rest:List Oper} {o:Oper} {a:Act} {Q:Exit→Act→World→Prop}
theorem G_conv {w0 W:World} (base:Nat) (hgd:o.guard=none) {N' : Tmp} (_hd:o.dst=some N') (src dst e:TypeId) (x:Operand) (ho:o.op= .convert src dst x) (s:ByteArray) (hx:a.eval x= .string s)
    (hsrc:P.underlying src=some .string) (hdst:P.underlying dst=some (.slice e)) (he:P.underlying e=some (.int .u8)) (hl:s.size≤9223372036854775807) (HB:Below base w0 W) (hbase:base≤W.heap.size)
    (h:∀ v1 w1,Kd.G (Kd.int .u8) e w1 base (fun k_=>W.heap.size≤k_) v1 (bytesOf s)→Below base w0 w1→W.grownBy w1 none→(∃ b,v1.ownBlock=some b∧W.heap.size≤b)→wpList P ops Q rest (a.put o.dst v1) w1):wpList P ops Q (o :: rest) a W:=by
  have hr:=Lib.run_convert_string_bytes (P:=P) W src dst e s hsrc hdst he
  have hb:=conv_below W e s
  refine event_run hgd (v:= .slice (some ⟨W.heap.size,0,none⟩) s.size (grownCap W s.size 0 e)) (w1:=Lib.bytesWorld W e s) (by simp[execOp,ho,hx,hr]) ?_
  have hlen:s.size=(bytesOf s).length:=by simp[bytesOf]
  have hge:=grownCap_ge W s.size 0 e
  refine h _ _ ⟨fun k hk => by have : W.heap.size = k := by simpa [Value.ownBlock] using hk
                               omega,.inr ⟨Value.int .u8,W.heap.size,grownCap W s.size 0 e,_,_,fun _ _=>rfl,rfl,by rw[hlen],hbase,Lib.bytesWorld_at_new W e s,by rw[← hlen];simpa using hge,by rw[← hlen];exact hl,?_,?_⟩⟩ ?_ (grown_of_below hb none) ⟨W.heap.size,by simp[Value.ownBlock],Nat.le_refl _⟩
  · rw[← hlen]
    show s.size≤(Lib.bytesCells W e s).size
    simp[Lib.bytesCells]
  · rw[← hlen]
    simp[Lib.bytesCells,bytesOf]
  · exact HB.trans ⟨hb.os,hb.tape,hb.output,hb.size,fun k hk=>hb.block k (by omega)⟩
end
end Kd
end Go.Proofs.YtbjefkeogbophaaW.PrintWords
namespace Go.Proofs.YtbjefkeogbophaaW.PrintWords
def idxOf {α:Type} (p:α→Bool) (l:List α):Int:=match l.findIdx? p with|some i=>(i:Int)|none=> -1
theorem idxOf_hit {α:Type} (p:α→Bool) (l:List α) (d:α) (k:Nat) (hk:k < l.length) (hp:p (l.getD k d)=true) (hn:∀ j,j < k→p (l.getD j d)=false):idxOf p l=k:=by
  have hg:∀ j (h:j < l.length),l.getD j d=l[j]:=fun j h=>by simp[List.getD_eq_getElem?_getD,List.getElem?_eq_getElem h]
  have:l.findIdx? p=some k:=by
    rw[List.findIdx?_eq_some_iff_getElem]
    refine⟨hk,?_,fun j hj=> ?_⟩
    · rw[← hg k hk];exact hp
    · have h1:=hn j hj
      rw[hg j (by omega)]at h1
      simp[h1]
  simp[idxOf,this]
theorem idxOf_miss {α:Type} (p:α→Bool) (l:List α) (d:α) (hn:∀ j,j < l.length→p (l.getD j d)=false):idxOf p l= -1:=by
  have:l.findIdx? p=none:=by
    rw[List.findIdx?_eq_none_iff]
    intro x hx
    obtain⟨j,hj,rfl⟩:=List.mem_iff_getElem.mp hx
    have h1:=hn j hj
    simpa [List.getD_eq_getElem?_getD,List.getElem?_eq_getElem hj] using h1
  simp[idxOf,this]
theorem idxOf_any {α:Type} (p:α→Bool) (l:List α):decide (0≤idxOf p l)=l.any p:=by
  unfold idxOf
  cases h:l.findIdx? p with
  | none =>
    rw[List.findIdx?_eq_none_iff]at h
    have:l.any p=false:=by simpa [List.any_eq_false] using h
    rw[this];rfl
  | some i =>
    have hi:=h
    rw[List.findIdx?_eq_some_iff_getElem]at hi
    obtain⟨hl,hp,_⟩:=hi
    have:l.any p=true:=List.any_eq_true.mpr ⟨l[i],List.getElem_mem hl,hp⟩
    rw[this];exact decide_eq_true (Int.natCast_nonneg i)
theorem mem_getD {α:Type} (l:List α) (d:α) (i:Int) (h0:0≤i) (h1:i < (l.length:Int)):l.getD i.toNat d ∈ l:=by
  have h:i.toNat < l.length:=by omega
  rw[List.getD_eq_getElem?_getD,List.getElem?_eq_getElem h]
  exact List.getElem_mem h
end Go.Proofs.YtbjefkeogbophaaW.PrintWords
namespace Go.Proofs.YtbjefkeogbophaaW.PrintWords
open Go.RowKit Go.ChangeShapes Go.WideShapes
section
variable {H:Type} {enc:TypeId × Value→H} {P:Program} {W:World}
def Tells (enc:TypeId × Value→H) (P:Program) (W:World) {α:Type} (t:TypeId) (d:Kd α) (S:α→Prop):Prop :=
  ∀(fuel:Nat) (cs:List Value) (x:DataW H × List MemPlace),DataW.trod enc P W 0 (fun _=>true) true fuel t cs=some x →
    (∀ n ∈ x.1.weights P t,n≤reachBytes)→∃ y:α,d.K W y cs∧S y
theorem Tells.int {t:TypeId} {k:IntKind} (h:P.underlying t=some (.int k)):Tells enc P W t (Kd.int k) (fun n=>(Lit.int k n).wf=true):=by
  intro fuel cs x hx _
  obtain⟨n,rfl,_,hw⟩:=DataW.trod_int h hx
  exact⟨n,rfl,hw⟩
theorem Tells.bool {t:TypeId} (h:P.underlying t=some .bool):Tells enc P W t Kd.bool (fun _=>True):=by
  intro fuel cs x hx _
  obtain⟨b,rfl,_⟩:=DataW.trod_bool h hx
  exact⟨b,rfl,trivial⟩
theorem Tells.string {t:TypeId} (h:P.underlying t=some .string):Tells enc P W t Kd.string (fun s=>s.size≤140737488351232):=by
  intro fuel cs x hx hw
  obtain⟨s,rfl,rfl,_⟩:=DataW.trod_string h hx
  refine⟨s,rfl,?_⟩
  have h1:=hw s.data.toList.length (by simp[DataW.weights])
  have h2:reachBytes=140737488351232:=by decide
  rw[h2]at h1
  simpa using h1
theorem weightsAll_mem {e:TypeId}:∀ {l:List (DataW H)} {i:Nat} {z:DataW H},l[i]? = some z→∀ n ∈ z.weights P e,n ∈ DataW.weightsAll P e l
  | a :: l,0,z,hz,n,hn=>by
    simp only[List.getElem?_cons_zero,Option.some.injEq]at hz
    subst hz
    simp only[DataW.weightsAll,List.mem_append]
    exact Or.inl hn
  | a :: l,i+1,z,hz,n,hn=>by
    simp only[List.getElem?_cons_succ]at hz
    simp only[DataW.weightsAll,List.mem_append]
    exact Or.inr (weightsAll_mem hz n hn)
  | [],_,_,hz,_,_=>by simp at hz
theorem list_of {α:Type} {Q:Nat→α→Prop} (n:Nat) (h:∀ i,i < n→∃ y,Q i y):∃ l:List α,l.length=n∧∀ i y,l[i]? = some y→Q i y:=by
  induction n with
  | zero=>exact⟨[],rfl,fun i y hy=>by simp at hy⟩
  | succ n ih =>
    obtain⟨l,hl,hq⟩:=ih (fun i hi=>h i (by omega))
    obtain⟨y,hy⟩:=h n (by omega)
    refine⟨l ++ [y],by simp[hl],fun i z hz=> ?_⟩
    rcases Nat.lt_or_ge i l.length with hi|hi
    · rw[List.getElem?_append_left hi]at hz
      exact hq i z hz
    · have hin:i=n:=by
        have:=(List.getElem?_eq_some_iff.1 hz).1
        simp[hl]at this
        omega
      subst hin
      rw[← hl]at hz
      have:y=z:=by simpa using hz
      subst this
      exact hy
theorem Tells.slice {α:Type} {t e:TypeId} {d:Kd α} {S:α→Prop} (h:P.underlying t=some (.slice e)) (hsz:P.cellsOf e=d.sz) {b:Nat} (hbt:P.bytesOf e=b) (he:Tells enc P W e d S) :
    Tells enc P W t (Kd.slice e d) (fun l=>l.length≤maxLen∧l.length*b≤140737488351232∧∀ y ∈ l,S y):=by
  intro fuel cs x hx hw
  rcases DataW.trod_slice h hx with ⟨rfl,rfl⟩|⟨a,len,cap,elems,rest,n,rfl,rfl,rfl,hb,hl,hm,hlen,hel,_,_⟩
  · exact⟨[],⟨none,0,rfl,Nat.le_refl _,rfl,by simp,fun h=>absurd h (by simp)⟩,by simp,by simp,by simp⟩
  · have hall:∀ i,i < len→∃ y:α,(∃ c,W.cells? 0 (a.add (i*P.cellsOf e)) (P.cellsOf e)=some c∧d.K W y c)∧S y:=by
      intro i hi
      have h1:=hel i hi
      obtain⟨z,hz⟩:∃ z,elems[i]? = some z:=⟨elems[i]'(by omega),List.getElem?_eq_getElem (by omega)⟩
      rw[hz]at h1
      obtain⟨c,hc,ht⟩:=Option.bind_eq_some_iff.1 h1
      obtain⟨y,hy,hs⟩:=he n c z ht (fun m hm=>hw m (by
        simp only[DataW.weights,h,List.mem_cons,List.mem_append]
        exact Or.inr (Or.inl (weightsAll_mem (i:=i) (z:=z.1) (by simp[hz]) m hm))))
      exact⟨y,⟨c,hc,hy⟩,hs⟩
    obtain⟨l,hll,hq⟩:=list_of len hall
    have hmax:len≤9223372036854775807:=Nat.le_trans hl (Nat.le_trans hm (by decide))
    refine⟨l,⟨some a,cap,by rw[hll],by rw[hll];exact hl,rfl,by rw[hll];exact hmax,fun _=>⟨a,rfl,fun j p hj=> ?_⟩⟩,by rw[hll];exact Nat.le_trans hl hm,?_,fun y hy=> ?_⟩
    · obtain⟨⟨c,hc,hk⟩,_⟩:=hq j p hj
      refine⟨c,d.K_len hk,hk,fun i u hu=> ?_⟩
      obtain⟨_,hcl,hat⟩:=World.cells?_some hc
      have hi:i < P.cellsOf e:=by rw[← hcl];exact(List.getElem?_eq_some_iff.1 hu).1
      rw[← hsz,← Go.Deep.add_add,hat i hi,hu]
    · have h1:=hw ((elems.map (·.1)).length+(rest.map (·.1)).length |> (·*P.bytesOf e)) (by simp[DataW.weights,h])
      have h2:reachBytes=140737488351232:=by decide
      rw[h2,hbt]at h1
      simp only[List.length_map]at h1
      rw[hll,← hlen]
      exact Nat.le_trans (Nat.mul_le_mul_right _ (Nat.le_add_right _ _)) h1
    · obtain⟨i,hi⟩:=List.getElem?_of_mem hy
      exact(hq i y hi).2
def TellsF (enc:TypeId × Value→H) (P:Program) (W:World) {α:Type} (fs:List Field) (off:Nat) (d:Kd α) (S:α→Prop):Prop :=
  ∀(n:Nat) (cs:List Value) (xs:List (DataW H × List MemPlace)),xs.length=fs.length →
    (∀(i:Nat) (f:Field),fs[i]? = some f→DataW.trod enc P W 0 (fun _=>true) true n f.type ((cs.drop f.offset).take (P.cellsOf f.type))=xs[i]?) →
    (∀ m ∈ DataW.weightsEach P (fs.map (·.type)) (xs.map (·.1)),m≤reachBytes)→∃ y:α,d.K W y ((cs.drop off).take d.sz)∧S y
theorem TellsF.one {α:Type} {f:Field} {d:Kd α} {S:α→Prop} (hsz:P.cellsOf f.type=d.sz) (h:Tells enc P W f.type d S):TellsF enc P W [f] f.offset d S:=by
  intro n cs xs hl hx hw
  match xs,hl with
  | [x],_ =>
    have h1:=hx 0 f rfl
    rw[hsz]at h1
    exact h n _ x h1 (fun m hm=>hw m (by simp[DataW.weightsEach,hm]))
theorem TellsF.cons {α β:Type} {f:Field} {fs:List Field} {off:Nat} {d:Kd α} {S:α→Prop} {d' : Kd β} {S' : β→Prop} (hsz:P.cellsOf f.type=d.sz) (h:Tells enc P W f.type d S) (hoff:off=f.offset+d.sz) (h' : TellsF enc P W fs off d' S') :
    TellsF enc P W (f :: fs) f.offset (Kd.pair d d') (fun y=>S y.1∧S' y.2):=by
  intro n cs xs hl hx hw
  match xs,hl with
  | x :: xs,hl =>
    have h1:=hx 0 f rfl
    rw[hsz]at h1
    obtain⟨y,hy,hs⟩:=h n _ x h1 (fun m hm=>hw m (by simp[DataW.weightsEach,hm]))
    obtain⟨z,hz,hs'⟩:=h' n cs xs (by simpa using hl) (fun i g hg=>hx (i+1) g (by simpa using hg)) (fun m hm=>hw m (by simp only[List.map_cons,DataW.weightsEach,List.mem_append];exact Or.inr hm))
    refine⟨(y,z),⟨_,_,?_,hy,hz⟩,hs,hs'⟩
    show(cs.drop f.offset).take (d.sz+d'.sz)=_
    rw[List.take_add,List.drop_drop,hoff]
theorem Tells.struct {α β:Type} {t:TypeId} {fs:Array Field} {d:Kd α} {S:α→Prop} {f:β→α} (g:α→β) (hfg:∀ y,f (g y)=y) (h:P.underlying t=some (.struct fs)) (hsz:P.cellsOf t=d.sz) (hf:TellsF enc P W fs.toList 0 d S) :
    Tells enc P W t (Kd.iso d f) (fun x=>S (f x)):=by
  intro fuel cs x hx hw
  obtain⟨xs,n,_,rfl,hlen,hl,hg⟩:=DataW.trod_struct h hx
  obtain⟨y,hy,hs⟩:=hf n cs xs (by simpa using hl) (fun i f' hf' => hg i f' (by simpa using hf')) (fun m hm=>hw m (by simpa [DataW.weights,h] using hm))
  refine⟨g y,?_,by show S (f (g y));rw[hfg];exact hs⟩
  show d.K W (f (g y)) cs
  rw[hfg]
  have:(cs.drop 0).take d.sz=cs:=by rw[List.drop_zero,← hsz,← hlen,List.take_length]
  rwa [this]at hy
theorem Tells.arg {α:Type} {t:TypeId} {d:Kd α} {S:α→Prop} (h:Tells enc P W t d S) {v:Value} {z:DataW H} {p:List MemPlace} (ht:DataW.Trod enc P W 0 (fun _=>true) true t v z p) {ts:List TypeId} {ds:List (DataW H)} {j:Nat}
    (hsz:(DataW.weightsEach P ts ds).all (·≤reachBytes)=true) (htj:ts[j]? = some t) (hdj:ds[j]? = some z):∃ y:α,d.K W y v.cells.toList∧S y:=by
  obtain⟨fuel,hf⟩:=ht
  exact h fuel _ _ hf (fun n hn=>by
    have:=List.all_eq_true.1 hsz n (DataW.weights_mem_each htj hdj n hn)
    simpa using this)
end
end Go.Proofs.YtbjefkeogbophaaW.PrintWords
namespace Go.Proofs.YtbjefkeogbophaaW.PrintWords
open Go.RowKit
structure RowB (w:World) (g:Nat) (l:List UInt8):Prop where
  cell:∀ j (h:j < l.length),w.cell? ⟨g,j,none⟩=some (.int .u8 ((l[j]'h).toNat:Int))
  free:∀ j,j < l.length→w.frozen? ⟨g,j,none⟩=false
theorem setCell_at (w:World) (g j:Nat) (v:Value) {u:Value} (h:w.cell? ⟨g,j,none⟩=some u) (i:Nat):(w.setCell ⟨g,j,none⟩ v).cell? ⟨g,i,none⟩=if i=j then some v else w.cell? ⟨g,i,none⟩:=by
  have hg:=World.block_lt_of_cell? _ _ h
  simp only at hg
  unfold World.cell? at h ⊢
  simp only[World.setCell,Array.getElem?_modify]at h ⊢
  cases hb:w.heap[g]? with
  | none=>rw[hb]at h;simp at h
  | some o =>
    rw[hb]at h
    cases o with
    | cells c e f =>
      simp only[Option.isSome_none,Bool.false_eq_true,if_false]at h ⊢
      simp only[if_true,Option.map_some]
      rw[Array.getElem?_setIfInBounds]
      have hj:j < c.size:=(Array.getElem?_eq_some_iff.1 h).1
      by_cases e1:i=j
      · subst e1;simp[hj]
      · have e2:¬ j=i:=fun e=>e1 e.symm
        simp[e1,e2]
    | _=>simp at h
theorem setCell_frozen (w:World) (g j:Nat) (v:Value) (i:Nat):(w.setCell ⟨g,j,none⟩ v).frozen? ⟨g,i,none⟩=w.frozen? ⟨g,i,none⟩:=by
  unfold World.frozen?
  simp only[World.setCell,Array.getElem?_modify]
  cases hb:w.heap[g]? with
  | none=>simp
  | some o=>cases o <;> simp
theorem RowB.set {w:World} {g:Nat} {l:List UInt8} (h:RowB w g l) (j:Nat) (hj:j < l.length) (b:UInt8) (v:Int) (hv:v=(b.toNat:Int)):RowB (w.setCell ⟨g,j,none⟩ (.int .u8 v)) g (l.set j b):=by
  refine⟨fun i hi=> ?_,fun i hi=> ?_⟩
  · rw[setCell_at w g j _ (h.cell j hj)]
    rw[List.length_set]at hi
    by_cases e:i=j
    · subst e;simp[hv]
    · rw[if_neg e,h.cell i hi,List.getElem_set_ne (fun x=>e x.symm)]
  · rw[setCell_frozen]
    exact h.free i (by rwa [List.length_set]at hi)
theorem RowB.bytes {w:World} {g:Nat} {l:List UInt8} (h:RowB w g l):Lib.Bytes w g 0 ⟨l.toArray⟩:=fun i hi=>by
  have hi' : i < l.length:=Nat.lt_of_lt_of_eq hi (show l.toArray.size=l.length from List.size_toArray)
  have:=h.cell i hi'
  rw[Nat.zero_add,this]
  rfl
theorem RowB.conv (w:World) (e:TypeId) (s:ByteArray):RowB (Lib.bytesWorld w e s) w.heap.size s.data.toList:=by
  have hl:s.data.toList.length=s.size:=by simp
  refine⟨fun j hj=> ?_,fun j hj=> ?_⟩
  · rw[Lib.bytesWorld_cell w e s j (by omega),List.getD_eq_getElem?_getD,List.getElem?_eq_getElem hj]
    rfl
  · have hs:s.size≤(Lib.bytesCells w e s).size:=by simp[Lib.bytesCells]
    simp only[World.frozen?,Lib.bytesWorld_at_new]
    simp
    omega
namespace Kd
end Kd
end Go.Proofs.YtbjefkeogbophaaW.PrintWords
namespace Go.Proofs.YtbjefkeogbophaaW.PrintWords
end Go.Proofs.YtbjefkeogbophaaW.PrintWords
namespace Go.Proofs.YtbjefkeogbophaaW.PrintWords
open Go.RowKit Go.Proofs.YtbjefkeogbophaaW.PrintLast
theorem qr_ {P Q:Prop} (H:Aside0 P) (h:P→Q:=by intro h;(with_reducible repeat(first|apply Kd.R_alloc|apply Kd.R_drewN|apply Kd.R_drew));exact h):Q:=h H.out
theorem qv_ {P Q:Prop} (H:Aside0 P) (h:P→Q:=by intro h;(with_reducible repeat(first|apply Kd.V_alloc|apply Kd.V_drewN|apply Kd.V_drew));exact h):Q:=h H.out
theorem qk_ {P Q:Prop} (H:Aside0 P) (h:P→Q:=by intro h;(with_reducible repeat(first|refine blk_drewN ?_ _|refine blk_drew ?_|refine blk_alloc ?_ _));exact h):Q:=h H.out
theorem qp_ {P Q:Prop} (H:Aside0 P) (h:P→Q:=by intro h;repeat(first|(with_reducible first|refine blk_drewN ?_ _|refine blk_drew ?_|refine blk_alloc ?_ _)|(with_reducible exact h)|(with_reducible refine blk_far ?_ (Aside0.out (by with_reducible assumption)) _)|(with_reducible apply blk_put)|refine blk_far ?_ (Aside0.out (by with_reducible assumption)) _|apply blk_put|exact h|rfl)):Q:=h H.out
theorem qcc_ {P Q:Prop} (H:P) (h:P→Q:=by intro h;repeat(first|exact h|(with_reducible refine Kd.C_alloc ?_ _)|(with_reducible refine Kd.C_drewN ?_ _)|(with_reducible refine Kd.C_drew ?_))):Q:=h H
abbrev qT:Bool:=true
abbrev qF:Bool:=false
theorem qh_ {E H R:Prop} (e:E) (h0:H) (h:E→H→R:=by intro hy_ H;first|(rw[hy_];with_reducible exact H)|(have H2_:=(Option.bind_some _ _).symm.trans H;rw[hy_];with_reducible exact H2_)|(have H2_:=(Option.bind_some _ _).symm.trans H;with_reducible exact H2_)|with_reducible exact H|(rw[hy_];exact H)|exact H):R:=h e h0
theorem qj_ {E H R:Prop} (e:E) (h0:H) (h:E→H→R:=by intro hy_ H;first|(rw[hy_]at H;exact H)|(simp only[hy_]at H ⊢;exact H)):R:=h e h0
theorem qd_ {p:Prop} [Decidable p] (h:decide p=true:=by first|(with_reducible assumption)|assumption):p:=of_decide_eq_true h
theorem qK {P:Prop} (h:P:=by kernel_rfl):P:=h
theorem qcf_ {P Q:Prop} (H:P) (h:P→Q:=by intro h_;repeat(first|(with_reducible exact h_)|refine(cell_far ?_ _).trans ?_|exact Aside0.out (by with_reducible assumption)|exact h_)):Q:=h H
abbrev BA_:=ByteArray
theorem qee_ {P:Prop} (h:P:=by first|rfl|(simp[errW_none,errW_some] <;> rfl)|(simp[*,errW_none,errW_some] <;> rfl)):P:=h
theorem qff_ {P:Prop} (h:P:=by first|rfl|(simp;done)|(simp[*];done)):P:=h
theorem qll_ {P:Prop} (h:P:=by(try simp only[List.map_toArray,List.map_cons,List.map_nil]);first|done|rfl|(simp only[List.length_drop,List.length_take];rfl)):P:=h
theorem qS_ {α:Type}:(∀(l:List α) (i:Nat) (a:α),l.toArray.setIfInBounds i a=(l.set i a).toArray)∧(∀(x y:α) (l:List α),(x :: l).set 0 y=y :: l)∧(∀(x y:α) (l:List α) (i:Nat),(x :: l).set (i+1) y=x :: l.set i y):=⟨fun _ _ _=>List.setIfInBounds_toArray ..,fun _ _ _=>List.set_cons_zero ..,fun _ _ _ _=>List.set_cons_succ ..⟩
theorem qW_:(∀ n:Int,IntKind.i64.wrap n=wrap64 n)∧(∀ n:Int,IntKind.i32.wrap n=wrap32 n):=⟨i64_w,i32_w⟩
theorem qBHB {P:Prop} (h:P:=by repeat(first|(with_reducible first|exact HB.out|apply below_alloc|apply pw_below_drewN|apply below_drew1|refine below_set ?_ (IsS77.ge HI0.out)|refine below_set ?_ (IsS77.ge HI105.out)|refine below_set ?_ (IsS84.ge HI0.out))|(with_reducible apply below_set)|exact HB.out|exact Aside0.out (by with_reducible assumption))):P:=h
theorem qBHBW {P:Prop} (h:P:=by repeat(first|(with_reducible first|exact HBW.out|apply below_alloc|apply pw_below_drewN|apply below_drew1)|(with_reducible apply below_set)|exact HBW.out|exact Aside0.out (by with_reducible assumption))):P:=h
theorem qBHBw {P:Prop} (h:P:=by repeat(first|(with_reducible first|exact HBw.out|apply below_alloc|apply pw_below_drewN|apply below_drew1|refine below_step ?_ (conv_below _ _ _))|exact HBw.out|exact Aside0.out (by with_reducible assumption))):P:=h
theorem qI77HI0 {P:Prop} (h:P:=by repeat(first|(with_reducible first|exact HI0.out|apply IsS77.alloc|apply IsS77.drewN|apply IsS77.drew|apply IsS77.set_1|apply IsS77.set_2)|(with_reducible apply IsS77.far)|exact HI0.out|exact Aside0.out (by with_reducible assumption))):P:=h
theorem qI84HI0 {P:Prop} (h:P:=by repeat(first|(with_reducible first|exact HI0.out|apply IsS84.alloc|apply IsS84.drewN|apply IsS84.drew|apply IsS84.set_0|apply IsS84.set_1)|exact HI0.out|exact Aside0.out (by with_reducible assumption))):P:=h
theorem qI77HI105 {P:Prop} (h:P:=by repeat(first|(with_reducible first|exact HI105.out|apply IsS77.alloc|apply IsS77.drewN|apply IsS77.drew|apply IsS77.set_1|apply IsS77.set_2)|(with_reducible apply IsS77.far)|exact HI105.out|exact Aside0.out (by with_reducible assumption))):P:=h
theorem qKHK {P:Prop} (h:P:=by repeat(first|(with_reducible first|exact HK.out|apply KeepBut.set_|apply keep_drewN|apply keep_drew|apply keep_alloc)|(with_reducible apply keep_far)|exact HK.out|exact Aside0.out (by with_reducible assumption))):P:=h
theorem qc1_ {w:World} {g:Nat} {t:TypeId} {a0:Value} (H:Aside0 (w.heap[g]? = some (.cells #[a0] t (0,0)))):w.cell? ⟨g,0,none⟩=some a0∧∀ i,w.frozen? ⟨g,i,none⟩=false:=⟨(blk_cell H.out 0).trans rfl,blk_frozen H.out⟩
theorem qf1_ {α:Type} {d:Kd α} {e base:Nat} {ok:Nat→Prop} {v:Value} {xs:List α} {w:World} {g t:Nat} {cells:Array Value} {j0:Nat} {u0:Value} (H:Aside0 (d.R e w base ok v xs)) (B:Aside0 (w.heap[g]? = some (.cells cells t (0,0)))) (ht:∀ q,q ∈ e :: d.E→q≠t:=by decide):d.R e (w.setCell ⟨g,j0,none⟩ u0) base (fun k=>ok k∧k≠g) v xs:=(Kd.R_far (p:=⟨g,j0,none⟩) (Kd.R_types H.out B.out ht) (fun _ hk=>hk.2) u0)
theorem qc2_ {w:World} {g:Nat} {t:TypeId} {a0 a1:Value} (H:Aside0 (w.heap[g]? = some (.cells #[a0,a1] t (0,0)))):w.cell? ⟨g,0,none⟩=some a0∧w.cell? ⟨g,1,none⟩=some a1∧∀ i,w.frozen? ⟨g,i,none⟩=false:=⟨(blk_cell H.out 0).trans rfl,(blk_cell H.out 1).trans rfl,blk_frozen H.out⟩
theorem qf2_ {α:Type} {d:Kd α} {e base:Nat} {ok:Nat→Prop} {v:Value} {xs:List α} {w:World} {g t:Nat} {cells:Array Value} {j0 j1:Nat} {u0 u1:Value} (H:Aside0 (d.R e w base ok v xs)) (B:Aside0 (w.heap[g]? = some (.cells cells t (0,0)))) (ht:∀ q,q ∈ e :: d.E→q≠t:=by decide):d.R e ((w.setCell ⟨g,j0,none⟩ u0).setCell ⟨g,j1,none⟩ u1) base (fun k=>ok k∧k≠g) v xs:=(Kd.R_far (p:=⟨g,j1,none⟩) (Kd.R_far (p:=⟨g,j0,none⟩) (Kd.R_types H.out B.out ht) (fun _ hk=>hk.2) u0) (fun _ hk=>hk.2) u1)
theorem qc6_ {w:World} {g:Nat} {t:TypeId} {a0 a1 a2 a3 a4 a5:Value} (H:Aside0 (w.heap[g]? = some (.cells #[a0,a1,a2,a3,a4,a5] t (0,0)))):w.cell? ⟨g,0,none⟩=some a0∧w.cell? ⟨g,1,none⟩=some a1∧w.cell? ⟨g,2,none⟩=some a2∧w.cell? ⟨g,3,none⟩=some a3∧w.cell? ⟨g,4,none⟩=some a4∧w.cell? ⟨g,5,none⟩=some a5∧∀ i,w.frozen? ⟨g,i,none⟩=false:=⟨(blk_cell H.out 0).trans rfl,(blk_cell H.out 1).trans rfl,(blk_cell H.out 2).trans rfl,(blk_cell H.out 3).trans rfl,(blk_cell H.out 4).trans rfl,(blk_cell H.out 5).trans rfl,blk_frozen H.out⟩
theorem qf6_ {α:Type} {d:Kd α} {e base:Nat} {ok:Nat→Prop} {v:Value} {xs:List α} {w:World} {g t:Nat} {cells:Array Value} {j0 j1 j2 j3 j4 j5:Nat} {u0 u1 u2 u3 u4 u5:Value} (H:Aside0 (d.R e w base ok v xs)) (B:Aside0 (w.heap[g]? = some (.cells cells t (0,0)))) (ht:∀ q,q ∈ e :: d.E→q≠t:=by decide):d.R e ((((((w.setCell ⟨g,j0,none⟩ u0).setCell ⟨g,j1,none⟩ u1).setCell ⟨g,j2,none⟩ u2).setCell ⟨g,j3,none⟩ u3).setCell ⟨g,j4,none⟩ u4).setCell ⟨g,j5,none⟩ u5) base (fun k=>ok k∧k≠g) v xs:=(Kd.R_far (p:=⟨g,j5,none⟩) (Kd.R_far (p:=⟨g,j4,none⟩) (Kd.R_far (p:=⟨g,j3,none⟩) (Kd.R_far (p:=⟨g,j2,none⟩) (Kd.R_far (p:=⟨g,j1,none⟩) (Kd.R_far (p:=⟨g,j0,none⟩) (Kd.R_types H.out B.out ht) (fun _ hk=>hk.2) u0) (fun _ hk=>hk.2) u1) (fun _ hk=>hk.2) u2) (fun _ hk=>hk.2) u3) (fun _ hk=>hk.2) u4) (fun _ hk=>hk.2) u5)
end Go.Proofs.YtbjefkeogbophaaW.PrintWords
namespace Go.Proofs.Ytbjefkeogbophaa.P
open Go.RowKit Go.Proofs.YtbjefkeogbophaaW.PrintWords Go.Proofs.YtbjefkeogbophaaW.PrintLast Go.Proofs.YtbjefkeogbophaaW.PrintMore
attribute [local go_sem] max2_int min2_int max_two min_two max_three min_three max_four min_four   -- for this text's walks alone
set_option linter.unusedVariables false
set_option linter.unusedSimpArgs false
def errW:Option Int→Value
  | none=> .nilIface
  | some c=> .iface 0 (.int .i64 c)
theorem errW_none:errW none= .nilIface:=rfl
theorem errW_some (c:Int):errW (some c)= .iface 0 (.int .i64 c):=rfl
theorem info5:(Try.prog.info? 5).map (fun i=>(i.zero,i.size,i.bytes))=some (some (.int .u8 0),1,1):=by kernel_rfl
theorem info9:(Try.prog.info? 9).map (fun i=>(i.zero,i.size,i.bytes))=some (some (.string ⟨#[]⟩),1,16):=by kernel_rfl
theorem info54:(Try.prog.info? 54).map (fun i=>(i.zero,i.size,i.bytes))=some (some (.agg #[(.string ⟨#[]⟩),(.string ⟨#[]⟩)]),2,32):=by kernel_rfl
structure S60 where
  f0:ByteArray
  f1:ByteArray
def k60:Kd S60:=Kd.iso (Kd.pair Kd.string Kd.string) (fun x:S60=>(x.f0,x.f1))
structure S24 where
  f0:Int
  f1:Int
  f2:Int
  f3:Int
  f4:ByteArray
  f5:(List S60)
def k24:Kd S24:=Kd.iso (Kd.pair (Kd.int .i64) (Kd.pair (Kd.int .i64) (Kd.pair (Kd.int .i64) (Kd.pair (Kd.int .i64) (Kd.pair Kd.string (Kd.slice 60 k60)))))) (fun x:S24=>(x.f0,x.f1,x.f2,x.f3,x.f4,x.f5))
structure S54 where
  f0:ByteArray
  f1:ByteArray
def z54:S54:=⟨(⟨#[]⟩:ByteArray),(⟨#[]⟩:ByteArray)⟩
def k54:Kd S54:=Kd.iso (Kd.pair Kd.string Kd.string) (fun x:S54=>(x.f0,x.f1))
theorem k54_open {w:World} {x:S54} {cs:List Value} (h:k54.K w x cs):cs=[.string x.f0,.string x.f1]:=by
  obtain⟨_,_,rfl,rfl,rfl⟩:=h
  exact rfl
theorem k54_mkM (w:World) (base:Nat) (ok:Nat→Prop) (x:S54)  : k54.M w base ok x [.string x.f0,.string x.f1]:=⟨[.string x.f0],[.string x.f1],rfl,rfl,rfl⟩
def rd_T54 (xs:List S54) (i:Int):S54:=xs.getD i.toNat z54
theorem at_T54 {w:World} {A:Option Addr} {n:Nat} {xs:List S54} (h:Kd.C k54 w A n xs) (i:Int) (h0:0≤i) (h1:i < n):∃ ad , A=some ad∧w.cell? (ad.add (i.toNat*2))=some (.string (rd_T54 xs i).f0)∧w.cell? ⟨(ad.add (i.toNat*2)).block,(ad.add (i.toNat*2)).off+1,none⟩=some (.string (rd_T54 xs i).f1):=by
  obtain⟨ad,c,e,_,hK,hc0⟩:=Kd.C_get h z54 i h0 h1
  have hc:∀ j u,c[j]? = some u→w.cell? (ad.add (i.toNat*2+j))=some u:=hc0
  obtain rfl:=k54_open hK
  exact⟨ad,e,hc 0 _ rfl,by rw[← add_field _ _ 1 (by omega)];exact hc 1 _ rfl⟩
abbrev qA_:=@below_alloc
abbrev qD_:=@pw_below_drewN
abbrev qE_:=@below_drew1
abbrev qL_:=@World.block_lt_of_cell?
abbrev qM_:=@Aside0.mk
abbrev qT_:=@of_decide_eq_true
abbrev qF_:=@blk_frozen
abbrev qC_:=@blk_cell
end Go.Proofs.Ytbjefkeogbophaa.P
