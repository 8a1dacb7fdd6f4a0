/- Part 18 of what the law FnMutations stands on; the last part ends with the law's row. No condition of mine. -/
import Derived.Test.YtbjefkeogbophaaMFnMutations17
import Derived.Test.YtbjefkeogbophaaRows
import Derived.Test.YtbjefkeogbophaaMFnMutations16
import Derived.WalkKit
import Derived.ProofKit
import Derived.OpenShut
import Derived.ShutString
import Derived.ChangeOld
import Derived.Below
import Derived.SizedLaws
import Derived.Carry
/- The law FnMutations, over lists alone. -/
set_option linter.unusedVariables false
set_option linter.unusedSimpArgs false
namespace Go.Proofs.Ytbjefkeogbophaa.P
open Go.RowKit Go.Proofs.YtbjefkeogbophaaW.PrintWords
theorem mut_j1 (l:List Int) (hw:(strOfNums l).size=l.length) (hl:l.length≤1048576):Ev (fun k=>z4_.j1 k l false) true:=by
 obtain⟨a,b,c,d,t,its,code,hS,hI,_⟩:=readM_both l hw hl
 have hj:∀ k,z4_.j1 (k+1) l false=((z15_.f k l).bind fun bt130=>((z18_.f k l).bind fun bt140=>(if bt130.2.2.2.2.2.2=bt140.2.2.2.2.2.2 then(if bt130.2.2.2.2.2.2=0 then((z8_.f k bt130.1 bt130.2.1 bt130.2.2.1 bt130.2.2.2.1 bt130.2.2.2.2.1 bt130.2.2.2.2.2.1).bind fun bt150=>(if bt150.2=0 then(some ((strOfNums bt150.1).toList == (strOfNums l).toList))else(some false)))else(some true))else(some false)))):=by
  intro k
  simp only[z4_.j1]
  rw[if_neg (by decide)]
 by_cases h0:code=0
 ·subst h0
  by_cases h2:l.length≤20000
  ·obtain⟨q,hq,hE⟩:=readI_ev l hw h2
   have hu:=Ev.uniq hI hE
   by_cases ht:q.2.2.2.2.2.2=true
   ·rw[if_pos ht]at hu
    obtain⟨hm,hT⟩:=tot_of_read _ q hq ht
    have e1:a=q.1:=congrArg (fun z=>z.1) hu
    have e2:b=q.2.1:=congrArg (fun z=>z.2.1) hu
    have e3:c=q.2.2.1:=congrArg (fun z=>z.2.2.1) hu
    have e4:d=q.2.2.2.1:=congrArg (fun z=>z.2.2.2.1) hu
    have e5:t=q.2.2.2.2.1:=congrArg (fun z=>z.2.2.2.2.1) hu
    have e6:its=q.2.2.2.2.2.1:=congrArg (fun z=>z.2.2.2.2.2.1) hu
    rw[← e1,← e2,← e3,← e4,← e5,← e6]at hm hT
    have hsz:=bl_size (strOfNums l)
    obtain⟨_,⟨K3,h3⟩⟩:=mutBytes_ok a b c d t its hm (by rw[hT];omega)
    obtain⟨K1,h1⟩:=hI
    obtain⟨K2,h2⟩:=hS
    refine⟨K1+K2+K3+1,fun k hk=> ?_⟩
    obtain⟨m,rfl⟩:∃ m,k=m+1:=⟨k - 1,by omega⟩
    have f1:=h1 m (by omega)
    have f2:=h2 m (by omega)
    have f3:=h3 m (by omega)
    simp only at f1 f2 f3
    show z4_.j1 (m+1) l false=_
    rw[hj,f1,bS,f2,bS]
    simp only
    rw[if_pos trivial,if_pos trivial,f3,bS]
    simp only
    rw[if_pos trivial,hT,show strOfNums (nb (bl (strOfNums l)))=strOfNums l from bl_inj (bl_strOf_nb _),beq_self_eq_true]
   ·rw[if_neg ht]at hu
    have:(0:Int)=3:=congrArg (fun z=>z.2.2.2.2.2.2) hu
    omega
  ·obtain⟨c', hc', hE⟩:=readI_long l hw (by omega)
   have hu:=Ev.uniq hI hE
   have:(0:Int)=c' := congrArg (fun z=>z.2.2.2.2.2.2) hu
   omega
 ·obtain⟨K1,h1⟩:=hI
  obtain⟨K2,h2⟩:=hS
  refine⟨K1+K2+1,fun k hk=> ?_⟩
  obtain⟨m,rfl⟩:∃ m,k=m+1:=⟨k - 1,by omega⟩
  have f1:=h1 m (by omega)
  have f2:=h2 m (by omega)
  simp only at f1 f2
  show z4_.j1 (m+1) l false=_
  rw[hj,f1,bS,f2,bS]
  simp only
  rw[if_pos trivial,if_neg h0]
end Go.Proofs.Ytbjefkeogbophaa.P
namespace Go.Proofs.Ytbjefkeogbophaa.Pure
open Go.RowKit Go.Proofs.Ytbjefkeogbophaa.P Go.Proofs.YtbjefkeogbophaaW.PrintWords
theorem FnMutations:z4_.Pure:=by
 intro x0 x1 h0 h1
 have big:Ev (fun k=>z4_.j0 k x0 x1 true) true:=Ev.step (f:=fun k=>some _) (fun k=>by simp only[z4_.j0];rw[if_pos trivial]) (Ev.now _)
 by_cases c0:(x0.length:Int) > 1048576
 ·exact Ev.k (g:=fun k=>z4_.f k x0 x1) (Ev.congr (fun k=>by simp only[z4_.f];rw[if_pos c0]) big)
 by_cases c1:(x1.length:Int) > 1048576
 ·exact Ev.k (g:=fun k=>z4_.f k x0 x1) (Ev.congr (fun k=>by simp only[z4_.f];rw[if_neg c0,decide_eq_true c1]) big)
 obtain⟨s0,e0,hS⟩:=source_ok x0 fun y hy=>u8_of_wf (h0.2.2 y hy)
 obtain⟨kind,uid,mode,flags,box,its,a', s', ⟨K1,g1⟩,hm,hn,_⟩:=drawn_mut hS (by omega)
 have hT:=tot_small hm hn
 obtain⟨⟨K2,g2⟩,⟨K3,g3⟩⟩:=mutBytes_ok kind uid mode flags box its hm hT
 obtain⟨T,hTe⟩:∃ T,totM kind uid mode flags box its=T:=⟨_,rfl⟩
 rw[hTe]at g2 g3 hT
 have hsz:(strOfNums (nb T)).size=(nb T).length:=by rw[bl_size,bl_strOf_nb,nb_length]
 obtain⟨q,hq,g4⟩:=readI_ev (nb T) hsz (by rw[nb_length];exact hT)
 rw[bl_strOf_nb,← hTe]at hq
 have hq2:=read_of_tot kind uid mode flags box its hm q hq
 subst hq2
 rw[if_pos rfl]at g4
 obtain⟨K4,g4⟩:=g4
 obtain⟨K5,g5⟩:=sameMut_self kind uid mode flags box its (by omega)
 obtain⟨K6,g6⟩:=implMut_ev kind uid mode flags box its
 rw[hm]at g6
 have hx1:(strOfNums x1).size=x1.length:=by simp[strOfNums,ByteArray.size]
 obtain⟨K7,g7⟩:=mut_j1 x1 hx1 (by omega)
 refine⟨K1+K2+K3+K4+K5+K6+K7+1,?_⟩
 have f1:=g1 (K1+K2+K3+K4+K5+K6+K7) (by omega)
 have f2:=g2 (K1+K2+K3+K4+K5+K6+K7) (by omega)
 have f3:=g3 (K1+K2+K3+K4+K5+K6+K7) (by omega)
 have f4:=g4 (K1+K2+K3+K4+K5+K6+K7) (by omega)
 have f5:=g5 (K1+K2+K3+K4+K5+K6+K7) (by omega)
 have f6:=g6 (K1+K2+K3+K4+K5+K6+K7) (by omega)
 have f7:=g7 (K1+K2+K3+K4+K5+K6+K7) (by omega)
 generalize K1+K2+K3+K4+K5+K6+K7=m at f1 f2 f3 f4 f5 f6 f7
 simp only at f1 f2 f3 f4 f5 f6 f7
 have e1:z14_.f m x0=some (kind,uid,mode,flags,box,its):=by
  simp only[z14_.f,e0,bS,f1]
 simp only[z4_.f]
 rw[if_neg c0,decide_eq_false c1]
 simp only[z4_.j0]
 rw[if_neg (by decide),e1,bS]
 simp only
 rw[f3,bS,f2,bS]
 simp only
 rw[f4,bS]
 simp only
 rw[if_pos trivial,if_pos trivial,if_pos trivial,f5,bS,if_pos rfl,f6,bS]
 exact f7
end Go.Proofs.Ytbjefkeogbophaa.Pure
/- The row of the law FnMutations: for every input the call returns true and each argument reads behind the call as it read before. No condition of mine. -/
namespace Go.Proofs.Ytbjefkeogbophaa.fnMutations
open Go.ChangeShapes Go.WideShapes Go.ChangeAt Go.RowKit Go.Proofs.Ytbjefkeogbophaa.P Go.Proofs.YtbjefkeogbophaaW.PrintWords
open Go.ChangeMaps (open_string shut_string)
set_option linter.unusedVariables false
theorem own:ownKnob Try.prog.godebug=none:=by kernel_rfl
theorem laidOut:laidOutB Try.prog=true:=by kernel_rfl
set_option maxRecDepth 100000 in
theorem lifted (os:Os) (started:os.Started) (H:Type) (enc:TypeId × Value→H) :
    ReturnsInHanded {} Try.checked os 4 .any (Rows.fnMutationsSpec.pre6 enc Try.prog Try.f4 Rows.fnMutationsRow.domain false) (Rows.fnMutationsSpec.post enc Try.prog Try.f4 false true false false):=by
  refine returnsInHanded_of_change_sized (C:=Try.checked) own started (by kernel_rfl) Try.func4
    (ChangeSpec.witness6 (enc:=enc) (C:=Try.checked) false ⟨#[],#[.slice none 0 0,.slice none 0 0],[]⟩ 8 (by kernel_rfl) (by kernel_rfl) (by kernel_rfl) (by kernel_rfl)) ?_
  intro W base args ds gs before hval0 hW hcnd hsz0 _
  have hsz:(DataW.weightsEach Try.prog (Try.f4.params.toList ++ Rows.fnMutationsSpec.plain.varTypes Try.prog) (ds ++ gs)).all (·≤reachBytes)=true:=hsz0
  have hval:∀(j:Nat) t v,Try.f4.params[j]? = some t→args[j]? = some v→Value.okWide Try.prog W .any base t v:=hval0
  have hW' := hW
  obtain⟨p,q,hA0,hV,rfl,hfz,hnd⟩:=hW
  have hA:DataW.TrodAll enc Try.prog W 0 (fun _=>true) true Try.f4.params.toList args.toList ds p:=hA0
  rw[Try.params4]at hA hval hsz
  obtain⟨v0,vs0,d0,ds0,p0,q0,hargs,rfl,rfl,h0,r0⟩:=trodAll_cons hA
  obtain⟨v1,vs1,d1,ds1,p1,q1,rfl,rfl,rfl,h1,r1⟩:=trodAll_cons r0
  obtain⟨rfl,rfl,rfl⟩:=trodAll_nil r1
  obtain rfl:args=#[v0,v1]:=by cases args;simp_all
  obtain⟨rfl,rfl⟩:=trodVars_none hV
  have kk0:=h0
  have lt0:∀ x ∈ p0,x.block < W.heap.size:=by obtain⟨m,hm⟩:=kk0;exact DataW.trod_lt m _ _ _ hm
  obtain⟨x0,hK0,hS0⟩:=Tells.arg (Tells.slice (b:=1) Try.underlying26 (by kernel_rfl) (by kernel_rfl) (Tells.int Try.underlying5)) h0 hsz (j:=0) (t:=26) rfl rfl
  obtain⟨a0,len0,cap0,rfl⟩:=okWide_slice Try.underlying26 (hval 0 26 v0 rfl rfl)
  obtain⟨A0,c0,hq0,hl0,hC0⟩:=hK0
  obtain⟨rfl,rfl,rfl⟩:a0=A0∧len0=x0.length∧cap0=c0:=by simpa [Value.cells] using hq0
  have kk1:=h1
  have lt1:∀ x ∈ p1,x.block < W.heap.size:=by obtain⟨m,hm⟩:=kk1;exact DataW.trod_lt m _ _ _ hm
  obtain⟨x1,hK1,hS1⟩:=Tells.arg (Tells.slice (b:=1) Try.underlying26 (by kernel_rfl) (by kernel_rfl) (Tells.int Try.underlying5)) h1 hsz (j:=1) (t:=26) rfl rfl
  obtain⟨a1,len1,cap1,rfl⟩:=okWide_slice Try.underlying26 (hval 1 26 v1 rfl rfl)
  obtain⟨A1,c1,hq1,hl1,hC1⟩:=hK1
  obtain⟨rfl,rfl,rfl⟩:a1=A1∧len1=x1.length∧cap1=c1:=by simpa [Value.cells] using hq1
  clear hA0 hval0 hsz0 hsz
  obtain⟨k,h⟩:=Pure.FnMutations x0 x1 hS0 hS1
  refine(z4_.calls k _ _ x0 _ _ x1 true W hC0 hl0 hC1 hl1 h).mono fun e W' ⟨he,bel0⟩=> ?_
  have bel:Below W.heap.size W W' := bel0
  subst he
  exact⟨_,rfl,_,_,_,[],_,[],hW', trodAll_mk1 (shut_bool Try.underlying4 _),(trodAll_cons_mk (Below.trod laidOut (by kernel_rfl) (of_decide_eq_true (by kernel_rfl)) kk0 bel lt0) (trodAll_cons_mk (Below.trod laidOut (by kernel_rfl) (of_decide_eq_true (by kernel_rfl)) kk1 bel lt1) trodAll_mk0)),rfl,bel.frame _,fun h=>by cases h⟩
theorem over:Rows.fnMutationsRow.holds Try.pinned (OpenSpec.ofChange Rows.fnMutationsSpec) :=
  OpenClaim.holds_of_wide 4 Try.f4 rfl rfl rfl rfl rfl rfl rfl ⟨rfl,rfl,rfl,rfl,rfl⟩ rfl rfl rfl rfl rfl (by kernel_rfl) Try.func4 (by kernel_rfl)
    (of_decide_eq_true (by kernel_rfl)) (by unfold Func.isWrapper;first|(rw[if_pos (by decide +kernel)];kernel_rfl)|(rw[if_neg (by decide +kernel)];exact⟨rfl,rfl⟩))
    (fun os started H enc _=>lifted os started H enc)
theorem proved:Rows.FnMutationsSaid:=over
#print axioms proved
end Go.Proofs.Ytbjefkeogbophaa.fnMutations
namespace Go.Proofs.Ytbjefkeogbophaa
/-- The statement, under a short name, for the claim. -/
theorem fnMutations_holds:Rows.FnMutationsSaid:=fnMutations.proved
end Go.Proofs.Ytbjefkeogbophaa
