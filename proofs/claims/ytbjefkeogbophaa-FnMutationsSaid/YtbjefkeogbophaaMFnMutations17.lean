/- Part 17 of what the law FnMutations stands on; the last part ends with the law's row. No condition of mine. -/
import Derived.Test.YtbjefkeogbophaaMFnMutations16
import Derived.Test.YtbjefkeogbophaaMFnMutations6
import Derived.Test.YtbjefkeogbophaaMFnMutations2
import Derived.Test.YtbjefkeogbophaaMFnMutations8
import Derived.Test.YtbjefkeogbophaaMFnMutations9
import Derived.Test.YtbjefkeogbophaaMFnMutations12
import Derived.Test.YtbjefkeogbophaaMFnMutations10
import Derived.Test.YtbjefkeogbophaaMFnMutations15
import Derived.Test.YtbjefkeogbophaaMFnMutations14
import Derived.Test.YtbjefkeogbophaaMFnMutations11
/- Lemmas of mine: a stamp's date by the reference. Plain. -/
set_option linter.unusedVariables false
set_option linter.unusedSimpArgs false
namespace Go.Proofs.Ytbjefkeogbophaa.P
open Go.RowKit Go.Proofs.YtbjefkeogbophaaW.PrintWords
def leapN (y:Nat):Nat:=if y % 4=0 then(if y % 100=0 then(if y % 400=0 then 1 else 0)else 1)else 0
theorem leapN_le (y:Nat):leapN y≤1:=by
 unfold leapN
 repeat' split
 all_goals omega
theorem leap_bit (y:Nat):∃ b,z86_.f (y:Int)=some b∧z85_.f b=some ((leapN y:Nat):Int):=by
 have h4:Int.tmod (y:Int) 4=((y % 4:Nat):Int):=rfl
 have h100:Int.tmod (y:Int) 100=((y % 100:Nat):Int):=rfl
 have h400:Int.tmod (y:Int) 400=((y % 400:Nat):Int):=rfl
 unfold z86_.f leapN
 rw[h4,h100,h400]
 by_cases a:y % 4=0
 ·rw[if_pos (by omega),if_pos a]
  by_cases b:y % 100=0
  ·rw[if_pos (by omega),if_pos b]
   by_cases c:y % 400=0
   ·rw[if_pos c]
    exact⟨_,rfl,by rw[show(((y % 400:Nat):Int) == 0)=true from beq_iff_eq.2 (by omega)];rfl⟩
   ·rw[if_neg c]
    exact⟨_,rfl,by rw[show(((y % 400:Nat):Int) == 0)=false from beq_eq_false_iff_ne.2 (by omega)];rfl⟩
  ·rw[if_neg (by omega),if_neg b]
   exact⟨_,rfl,rfl⟩
 ·rw[if_neg (by omega),if_neg a]
  exact⟨_,rfl,rfl⟩
def daysN (y m:Nat):Nat:=if m=2 then 28+leapN y else if m=4∨m=6∨m=9∨m=11 then 30 else 31
theorem days_eq (y m:Nat):z87_.f (y:Int) (m:Int)=some ((daysN y m:Nat):Int):=by
 unfold z87_.f daysN
 obtain⟨b,h1,h2⟩:=leap_bit y
 have hl:=leapN_le y
 by_cases a:m=2
 ·rw[if_pos (by omega),if_pos a,h1,bS,h2,bS,show((28:Int))=((28:Nat):Int)from rfl,w64add 28 (leapN y) (by omega)]
 ·rw[if_neg (by omega),if_neg a]
  by_cases c:m=4∨m=6∨m=9∨m=11
  ·rw[if_pos c]
   rcases c with rfl|rfl|rfl|rfl <;> rfl
  ·rw[if_neg c,if_neg (by omega),if_neg (by omega),if_neg (by omega),if_neg (by omega)]
   rfl
/-- A date's parts. -/
def yearsN:Nat→Nat→Nat→Nat × Nat
 | 0,d,y=>(y,d)
 | n+1,d,y=>if d≥365+leapN y then yearsN n (d - (365+leapN y)) (y+1)else(y,d)
def monthsN:Nat→Nat→Nat→Nat→Nat × Nat
 | 0,_,d,m=>(m,d)
 | n+1,y,d,m=>if d≥daysN y m then monthsN n y (d - daysN y m) (m+1)else(m,d)
theorem yearsN_ok:∀(n d y:Nat),d < 365*n→(yearsN n d y).2 < 365+leapN (yearsN n d y).1∧y≤(yearsN n d y).1∧(yearsN n d y).1≤y+n∧(yearsN n d y).2≤d
 | 0,d,y,h=>by omega
 | n+1,d,y,h=>by
  rw[yearsN]
  split
  ·have:=yearsN_ok n (d - (365+leapN y)) (y+1) (by omega)
   omega
  ·simp only
   omega
def sumN:Nat→Nat→Nat→Nat
 | 0,_,_=>0
 | n+1,y,m=>daysN y m+sumN n y (m+1)
theorem monthsN_sum (y:Nat):∀(n d m:Nat),d < sumN n y m→m≤(monthsN n y d m).1∧(monthsN n y d m).1+1≤m+n∧(monthsN n y d m).2 < daysN y (monthsN n y d m).1
 | 0,d,m,h=>absurd h (Nat.not_lt_zero _)
 | n+1,d,m,h=>by
  rw[sumN]at h
  rw[monthsN]
  by_cases c:d≥daysN y m
  ·rw[if_pos c]
   have:=monthsN_sum y n (d - daysN y m) (m+1) (by omega)
   exact⟨by omega,by omega,this.2.2⟩
  ·rw[if_neg c]
   exact⟨Nat.le_refl _,by show m+1≤m+(n+1);omega,by show d < daysN y m;omega⟩
theorem monthsN_ok (y d:Nat) (h:d < 365+leapN y):1≤(monthsN 12 y d 1).1∧(monthsN 12 y d 1).1≤12∧(monthsN 12 y d 1).2 < daysN y (monthsN 12 y d 1).1:=by
 have e:sumN 12 y 1=31+((28+leapN y)+(31+(30+(31+(30+(31+(31+(30+(31+(30+(31+0))))))))))):=rfl
 have:=monthsN_sum y 12 d 1 (by omega)
 exact⟨this.1,by omega,this.2.2⟩
theorem civil_l1 (y:Nat) (h mi s:Int):∀(n d m:Nat),(monthsN n y d m).2 < daysN y (monthsN n y d m).1→d≤1000000→m+n≤1000 →
  Ev (fun k=>z78_.l1 k (d:Int) (y:Int) (m:Int) 0 h mi s) ((y:Int),((monthsN n y d m).1:Int),(((monthsN n y d m).2+1:Nat):Int),h,mi,s):=by
 intro n
 induction n with
 | zero =>
  intro d m hd hb hm
  refine Ev.step (f:=fun _=>some _) (fun k=> ?_) (Ev.now _)
  simp only[z78_.l1,days_eq,bS]
  simp only[monthsN]at hd ⊢
  rw[if_neg (by omega),w64s d (by omega)]
 | succ n ih =>
  intro d m hd hb hm
  rw[monthsN]at hd ⊢
  by_cases c:d≥daysN y m
  ·rw[if_pos c]at hd ⊢
   refine Ev.step (fun k=> ?_) (ih (d - daysN y m) (m+1) hd (by omega) (by omega))
   simp only[z78_.l1,days_eq,bS]
   rw[if_pos (by omega),w64sub d (daysN y m) c (by omega),w64s m (by omega)]
  ·rw[if_neg c]
   refine Ev.step (f:=fun _=>some _) (fun k=> ?_) (Ev.now _)
   simp only[z78_.l1,days_eq,bS]
   rw[if_neg (by omega),w64s d (by omega)]
theorem civil_l0 (h mi s:Int) (R:Int × Int × Int × Int × Int × Int):∀(n d y:Nat),d < 365*n→d≤1000000→y+n≤100000→Ev (fun k=>z78_.l1 k (((yearsN n d y).2:Nat):Int) (((yearsN n d y).1:Nat):Int) 1 0 h mi s) R→Ev (fun k=>z78_.l0 k (d:Int) (y:Int) 1 0 h mi s) R:=by
 intro n
 induction n with
 | zero=>intro d y hd;omega
 | succ n ih =>
  intro d y hd hb hy hR
  obtain⟨b,e1,e2⟩:=leap_bit y
  have hl:=leapN_le y
  have w:Aside0 (wrap64 (365+((leapN y:Nat):Int))=((365+leapN y:Nat):Int)):=⟨w64add 365 (leapN y) (by omega)⟩
  rw[yearsN]at hR
  by_cases c:d≥365+leapN y
  ·rw[if_pos c]at hR
   refine Ev.step (fun k=> ?_) (ih (d - (365+leapN y)) (y+1) (by omega) (by omega) (by omega) hR)
   simp only[z78_.l0,e1,e2,bS,w.out]
   rw[if_pos (by omega),w64sub d (365+leapN y) c (by omega),w64s y (by omega)]
  ·rw[if_neg c]at hR
   refine Ev.step (fun k=> ?_) hR
   simp only[z78_.l0,e1,e2,bS,w.out]
   rw[if_neg (by omega)]
def yearOf (n:Nat):Nat:=(yearsN 140 (n / 86400) 1970).1
def monthOf (n:Nat):Nat:=(monthsN 12 (yearOf n) (yearsN 140 (n / 86400) 1970).2 1).1
def dayOf (n:Nat):Nat:=(monthsN 12 (yearOf n) (yearsN 140 (n / 86400) 1970).2 1).2+1
theorem civil_bounds (n:Nat) (h:n≤4102444799):1970≤yearOf n∧yearOf n≤2110∧1≤monthOf n∧monthOf n≤12∧1≤dayOf n∧dayOf n≤daysN (yearOf n) (monthOf n):=by
 have h1:=yearsN_ok 140 (n / 86400) 1970 (by omega)
 have h2:=monthsN_ok (yearsN 140 (n / 86400) 1970).1 (yearsN 140 (n / 86400) 1970).2 h1.1
 unfold monthOf dayOf yearOf
 omega
theorem civil_ev (n:Nat) (h:n≤4102444799):Ev (fun k=>z78_.f k (n:Int)) ((yearOf n:Int),(monthOf n:Int),(dayOf n:Int),((n / 3600 % 24:Nat):Int),((n / 60 % 60:Nat):Int),((n % 60:Nat):Int)):=by
 have h1:=yearsN_ok 140 (n / 86400) 1970 (by omega)
 have h2:=monthsN_ok (yearsN 140 (n / 86400) 1970).1 (yearsN 140 (n / 86400) 1970).2 h1.1
 have e1:wrap64 (Int.tdiv (n:Int) 86400)=((n / 86400:Nat):Int):=w64n (n / 86400) (by omega)
 have e2:Int.tmod (wrap64 (Int.tdiv (n:Int) 3600)) 24=((n / 3600 % 24:Nat):Int):=by
  rw[show wrap64 (Int.tdiv (n:Int) 3600)=((n / 3600:Nat):Int)from w64n (n / 3600) (by omega)]
  rfl
 have e3:Int.tmod (wrap64 (Int.tdiv (n:Int) 60)) 60=((n / 60 % 60:Nat):Int):=by
  rw[show wrap64 (Int.tdiv (n:Int) 60)=((n / 60:Nat):Int)from w64n (n / 60) (by omega)]
  rfl
 have e4:Int.tmod (n:Int) 60=((n % 60:Nat):Int):=rfl
 refine Ev.congr (fun k=>by simp only[z78_.f];rw[e1,e2,e3,e4];rfl) (civil_l0 _ _ _ _ 140 (n / 86400) 1970 (by omega) (by omega) (by omega) ?_)
 exact civil_l1 _ _ _ _ 12 _ 1 h2.2.2 (by omega) (by omega)
def wdays:List (List UInt8):=[[83,117,110],[77,111,110],[84,117,101],[87,101,100],[84,104,117],[70,114,105],[83,97,116]]
def mons:List (List UInt8):=[[74,97,110],[70,101,98],[77,97,114],[65,112,114],[77,97,121],[74,117,110],[74,117,108],[65,117,103],[83,101,112],[79,99,116],[78,111,118],[68,101,99]]
def twoL (n:Nat):List UInt8:=[UInt8.ofNat (48+n / 10 % 10),UInt8.ofNat (48+n % 10)]
theorem two_eq (n:Nat) (h:n≤1000):z80_.f (n:Int)=some (mkT (twoL n)):=by
 unfold z80_.f
 refine congrArg some ?_
 have e:∀ d:Nat,d < 10→(wrap64 (48+(d:Int))) % 256=((48+d:Nat):Int):=fun d hd=>by rw[w64 (by omega) (by omega)];omega
 have e1:Int.tmod (wrap64 (Int.tdiv (n:Int) 10)) 10=((n / 10 % 10:Nat):Int):=by
  rw[show wrap64 (Int.tdiv (n:Int) 10)=((n / 10:Nat):Int)from w64n (n / 10) (by omega)]
  rfl
 have e2:Int.tmod (n:Int) 10=((n % 10:Nat):Int):=rfl
 rw[e1,e2,e _ (by omega),e _ (by omega)]
 have:([((48+n / 10 % 10:Nat):Int),((48+n % 10:Nat):Int)]:List Int)=nb (twoL n):=by
  unfold twoL nb
  simp only[List.map_cons,List.map_nil]
  rw[UInt8.toNat_ofNat_of_lt' (by show 48+n / 10 % 10 < 256;omega),UInt8.toNat_ofNat_of_lt' (by show 48+n % 10 < 256;omega)]
 rw[this,strOf_nb]
 rfl
/-- A date's text. -/
def rfcL (n:Nat):List UInt8:=(wdays.getD ((n / 86400+4) % 7) [] ++ [44,32]) ++ twoL (dayOf n) ++ [32] ++ mons.getD (monthOf n - 1) [] ++ [32] ++ Lib.decDigits (yearOf n) ++ [32] ++ (twoL (n / 3600 % 24) ++ [58] ++ twoL (n / 60 % 60) ++ [58] ++ twoL (n % 60)) ++ [32,43,48,48,48,48]
theorem wday_eq:∀ d:Nat,d < 7→z79_.f (d:Int)=some (mkT (wdays.getD d []))∧(wdays.getD d []).length=3:=by decide +kernel
theorem mon_eq:∀ m:Nat,m < 12→z81_.f ((m+1:Nat):Int)=some (mkT (mons.getD m []))∧(mons.getD m []).length=3:=by decide +kernel
theorem twoL_len (n:Nat):(twoL n).length=2:=rfl
theorem clock_eq (a b c:Int) (h m s:Nat) (hh:h≤1000) (hm:m≤1000) (hs:s≤1000):z82_.f a b c (h:Int) (m:Int) (s:Int)=some (mkT (twoL h ++ [58] ++ twoL m ++ [58] ++ twoL s)):=by
 have l1:(⟨#[58]⟩:ByteArray)=mkT [58]:=rfl
 simp only[z82_.f,two_eq h hh,two_eq m hm,two_eq s hs,bS,l1,mkT_app,mkT_size,List.length_append,twoL_len,List.length_cons,List.length_nil]
 rw[if_pos (by omega),if_pos (by omega),if_pos (by omega),if_pos (by omega)]
theorem dec_len:∀(i n:Nat),n < 10 ^ (i+1)→(Lib.decDigits n).length≤i+1
 | 0,n,h=>by
  unfold Lib.decDigits
  rw[dif_pos (by simpa using h)]
  exact Nat.le_refl _
 | i+1,n,h=>by
  unfold Lib.decDigits
  split
  ·simp
  ·have:=dec_len i (n / 10) (by rw[Nat.pow_succ]at h;omega)
   rw[List.length_append]
   simp only[List.length_cons,List.length_nil]
   omega
theorem rfc_ev (n:Nat) (h:n≤4102444799):Ev (fun k=>z66_.f k (n:Int)) (mkT (rfcL n)):=by
 obtain⟨y1,y2,m1,m2,d1,d2⟩:=civil_bounds n h
 have hd3:daysN (yearOf n) (monthOf n)≤31:=by
  have:=leapN_le (yearOf n)
  unfold daysN
  repeat' split
  all_goals omega
 obtain⟨K1,h1⟩:=civil_ev n h
 obtain⟨K2,h2⟩:=digits_ev (yearOf n) (by omega)
 have ew:Int.tmod (wrap64 ((wrap64 (Int.tdiv (n:Int) 86400))+4)) 7=(((n / 86400+4) % 7:Nat):Int):=by
  rw[show wrap64 (Int.tdiv (n:Int) 86400)=((n / 86400:Nat):Int)from w64n (n / 86400) (by omega),show(4:Int)=((4:Nat):Int)from rfl,w64add _ _ (by omega)]
  rfl
 have w:=wday_eq ((n / 86400+4) % 7) (Nat.mod_lt _ (by decide))
 have mm:=mon_eq (monthOf n - 1) (by omega)
 rw[show monthOf n - 1+1=monthOf n by omega]at mm
 have yl:=dec_len 3 (yearOf n) (by show yearOf n < 10000;omega)
 refine⟨K1+K2,fun k hk=> ?_⟩
 have f1:=h1 k (by omega)
 have f2:=h2 k (by omega)
 simp only at f1 f2
 have l1:(⟨#[44,32]⟩:ByteArray)=mkT [44,32]:=rfl
 have l2:(⟨#[32]⟩:ByteArray)=mkT [32]:=rfl
 have l3:(⟨#[32,43,48,48,48,48]⟩:ByteArray)=mkT [32,43,48,48,48,48]:=rfl
 show z66_.f k (n:Int)=_
 simp only[z66_.f,f1,f2,bS,ew,w.1,mm.1,two_eq (dayOf n) (by omega),clock_eq _ _ _ _ _ _ (show n / 3600 % 24≤1000 by omega) (show n / 60 % 60≤1000 by omega) (show n % 60≤1000 by omega),l1,l2,l3,mkT_app,mkT_size,List.length_append,List.length_cons,List.length_nil,w.2,mm.2,twoL_len]
 generalize (Lib.decDigits (yearOf n)).length=q at yl
 rw[if_pos (by omega),if_pos (by omega),if_pos (by omega),if_pos (by omega),if_pos (by omega),if_pos (by omega),if_pos (by omega),if_pos (by omega),if_pos (by omega)]
 rfl
theorem rfcL_len (n:Nat) (h:n≤4102444799):(rfcL n).length≤40:=by
 obtain⟨y1,y2,m1,m2,d1,d2⟩:=civil_bounds n h
 have w:=wday_eq ((n / 86400+4) % 7) (Nat.mod_lt _ (by decide))
 have mm:=mon_eq (monthOf n - 1) (by omega)
 have yl:=dec_len 3 (yearOf n) (by show yearOf n < 10000;omega)
 unfold rfcL
 simp only[List.length_append,List.length_cons,List.length_nil,w.2,mm.2,twoL_len]
 omega
end Go.Proofs.Ytbjefkeogbophaa.P
/- Lemmas of mine: a source of choices always gives one, within its bounds. Plain. -/
set_option linter.unusedVariables false
set_option linter.unusedSimpArgs false
namespace Go.Proofs.Ytbjefkeogbophaa.P
open Go.RowKit Go.Proofs.YtbjefkeogbophaaW.PrintWords
/-- A source: its bytes, its place (at most B), its seed. -/
def Src (l:List Int) (a s B:Int):Prop:=(∀ y ∈ l,0≤y∧y≤255)∧(0≤a∧a≤B)∧(0≤s∧s < 2147483648)
theorem Src.grow {l:List Int} {a s B C:Int} (h:Src l a s B) (hc:B≤C):Src l a s C:=⟨h.1,⟨h.2.1.1,by have:=h.2.1.2;omega⟩,h.2.2⟩
theorem rd_mem (l:List Int) (i:Int) (h0:0≤i) (h1:i < (l.length:Int)):rd l i ∈ l:=by
 have h:i.toNat < l.length:=by omega
 unfold rd
 rw[List.getD_eq_getElem?_getD,List.getElem?_eq_getElem h]
 exact List.getElem_mem h
theorem byte_ok {l:List Int} {a s B:Int} (h:Src l a s B) (hB:B≤4611686018427387904):∃ r a' s', z61_.f l a s=some (r,a', s')∧Src l a' s' (B+1)∧0≤r∧r≤255:=by
 obtain⟨hl,⟨h0,h1⟩,h2,h3⟩:=h
 unfold z61_.f
 rw[if_pos ⟨h0,by omega,h2,h3⟩]
 by_cases c1:a+1≤(l.length:Int)
 ·have hm:=hl _ (rd_mem l a h0 (by omega))
  rw[if_pos c1,if_pos hm]
  exact⟨_,_,_,rfl,⟨hl,⟨by omega,by omega⟩,by omega,by omega⟩,hm.1,hm.2⟩
 ·rw[if_neg c1]
  by_cases c2:a+1 > 3000
  ·rw[if_pos c2]
   exact⟨_,_,_,rfl,⟨hl,⟨by omega,by omega⟩,h2,h3⟩,by omega,by omega⟩
  ·rw[if_neg c2]
   exact⟨_,_,_,rfl,⟨hl,⟨by omega,by omega⟩,by omega,by omega⟩,by omega,by omega⟩
theorem tmod_in (n m:Int) (h0:0≤n) (h1:0 < m):0≤Int.tmod n m∧Int.tmod n m < m:=⟨Int.tmod_nonneg m h0,Int.tmod_lt_of_pos n h1⟩
theorem next_ok {l:List Int} {a s B:Int} (n:Int) (h:Src l a s B) (hB:B≤4611686018427387900):∃ r a' s', z47_.f l a s n=some (r,a', s')∧Src l a' s' (B+3)∧0≤r∧(1≤n→r < n):=by
 unfold z47_.f
 by_cases c1:n≤1
 ·rw[if_pos c1]
  exact⟨_,_,_,rfl,h.grow (by omega),by omega,fun _=>by omega⟩
 ·rw[if_neg c1]
  obtain⟨r1,a1,s1,e1,h1,b1,d1⟩:=byte_ok h (by omega)
  by_cases c2:n≤256
  ·rw[if_pos c2,e1]
   simp only[Option.bind_some]
   rw[if_neg (by omega)]
   obtain⟨t1,t2⟩:=tmod_in r1 n b1 (by omega)
   exact⟨_,_,_,rfl,h1.grow (by omega),t1,fun _=>t2⟩
  ·rw[if_neg c2,e1]
   simp only[Option.bind_some]
   obtain⟨r2,a2,s2,e2,h2,b2,d2⟩:=byte_ok h1 (by omega)
   rw[e2]
   simp only[Option.bind_some]
   obtain⟨r3,a3,s3,e3,h3,b3,d3⟩:=byte_ok h2 (by omega)
   rw[e3]
   simp only[Option.bind_some]
   rw[if_neg (by omega),w64 (n:=r1*65536) (by omega) (by omega),w64 (n:=r2*256) (by omega) (by omega),w64 (n:=r1*65536+r2*256) (by omega) (by omega),w64 (n:=r1*65536+r2*256+r3) (by omega) (by omega)]
   obtain⟨t1,t2⟩:=tmod_in (r1*65536+r2*256+r3) n (by omega) (by omega)
   exact⟨_,_,_,rfl,h3.grow (by omega),t1,fun _=>t2⟩
theorem source_ok (l:List Int) (h:∀ y ∈ l,0≤y∧y≤255):∃ s,z26_.f l=some (l,0,s)∧Src l 0 s 0:=by
 refine⟨_,rfl,h,⟨by omega,by omega⟩,by omega,by omega⟩
theorem u8_of_wf {y:Int} (h:(Lit.int .u8 y).wf=true):0≤y∧y≤255:=by
 have:IntKind.u8.min≤y∧y≤IntKind.u8.max:=by simpa [Lit.wf] using h
 have e1:IntKind.u8.min=0:=by decide
 have e2:IntKind.u8.max=255:=by decide
 rw[e1,e2]at this
 exact this
end Go.Proofs.Ytbjefkeogbophaa.P
/- Lemmas of mine: a text that is picked is one of the list. Plain. -/
set_option linter.unusedVariables false
set_option linter.unusedSimpArgs false
namespace Go.Proofs.Ytbjefkeogbophaa.P
open Go.RowKit Go.Proofs.YtbjefkeogbophaaW.PrintWords
theorem pick_ok {l:List Int} {a s B:Int} (xs:List ByteArray) (h:Src l a s B) (hB:B≤4611686018427387900):∃ r a' s', z60_.f l a s xs=some (r,a', s')∧Src l a' s' (B+3)∧(r ∈ xs∨(xs=[]∧r=(⟨#[]⟩:ByteArray))):=by
 unfold z60_.f
 by_cases c1:(xs.length:Int)=0
 ·rw[if_pos c1]
  exact⟨_,_,_,rfl,h.grow (by omega),.inr ⟨List.length_eq_zero_iff.mp (by omega),rfl⟩⟩
 ·rw[if_neg c1]
  obtain⟨r,a', s', e,h', b1,b2⟩:=next_ok (xs.length:Int) h hB
  rw[e]
  simp only[Option.bind_some]
  rw[if_pos b1,if_pos (b2 (by omega))]
  refine⟨_,_,_,rfl,h', .inl ?_⟩
  have hlt:r.toNat < xs.length:=by have:=b2 (by omega);omega
  unfold rdOf
  rw[List.getD_eq_getElem?_getD,List.getElem?_eq_getElem hlt]
  exact List.getElem_mem hlt
end Go.Proofs.Ytbjefkeogbophaa.P
/- Lemmas of mine: a drawn entry, and its rendering by the reference. Plain. -/
set_option linter.unusedVariables false
set_option linter.unusedSimpArgs false
namespace Go.Proofs.Ytbjefkeogbophaa.P
open Go.RowKit Go.Proofs.YtbjefkeogbophaaW.PrintWords
theorem any_some {α:Type} {o:Option α} {p:α→Bool} (h:o.any p=true):∃ r,o=some r∧p r=true:=by
 cases o with
 | none=>cases h
 | some r=>exact⟨r,rfl,h⟩
theorem Ev.up {α:Type} {g:Nat→Option α} {r:α} {K:Nat} (h:∀ k,LeO (g k) (g (k+1))) (e:g K=some r):Ev g r :=
 ⟨K,fun k hk=>by
  induction hk with
  | refl=>exact e
  | step _ ih=>exact h _ _ ih⟩
theorem enc_of {L:List ByteArray} (hL:(L.all fun x=>(z65_.f 400 x).any fun r=>decide (r.size≤60))=true) (x:ByteArray) (hx:x ∈ L):∃ r,Ev (fun k=>z65_.f k x) r∧r.size≤60:=by
 obtain⟨r,e,h⟩:=any_some (List.all_eq_true.1 hL x hx)
 exact⟨r,Ev.up (fun k=>z65_.mono x k) e,of_decide_eq_true h⟩
theorem dig_of (x:ByteArray) (hx:x ∈ idsL):∃ n t,Ev (fun k=>z67_.f k (bytesOf x)) n∧Ev (fun k=>z49_.f k n) t∧t.size≤20:=by
 obtain⟨n,e,h⟩:=any_some (List.all_eq_true.1 dig_ids x hx)
 obtain⟨t,e2,h2⟩:=any_some h
 exact⟨n,t,Ev.up (fun k=>z67_.mono _ k) e,Ev.up (fun k=>z49_.mono _ k) e2,of_decide_eq_true h2⟩
theorem quo_of (x:ByteArray) (hx:x ∈ contsL):∃ c q,Ev (fun k=>z69_.f k x) c∧Ev (fun k=>z68_.f k c) q∧q.size≤200∧c.length≤1000:=by
 obtain⟨n,e,h⟩:=any_some (List.all_eq_true.1 quo_conts x hx)
 obtain⟨t,e2,h2⟩:=any_some h
 have h3:=of_decide_eq_true h2
 exact⟨n,t,Ev.up (fun k=>z69_.mono _ k) e,Ev.up (fun k=>z68_.mono _ k) e2,h3.1,h3.2⟩
theorem fold_of (name value:ByteArray) (hn:name.size≤100) (hv:value.size≤1000):∃ r,Ev (fun k=>z64_.f k name value) r∧r.size≤name.size+6+3*value.size:=by
 refine⟨_,specFold_ev name value (by omega) (by omega),?_⟩
 have:=foldR_len (bl name) (bl value)
 have h1:=bl_size name
 have h2:=bl_size value
 have h3:(mkB (foldR (bl name) (bl value))).size=(foldR (bl name) (bl value)).length:=mkT_size _
 omega
theorem id_size (x:ByteArray) (h:x ∈ idsL):1≤x.size∧x.size≤9:=by
 have:(idsL.all fun x=>decide (1≤x.size∧x.size≤9))=true:=by decide +kernel
 exact of_decide_eq_true (List.all_eq_true.1 this x h)
/-- A drawn entry's mail. -/
theorem render_ev (id title link author content box:ByteArray) (n:Nat) (h1:id ∈ idsL) (h2:title ∈ fieldsL) (h3:link ∈ linksL) (h4:author ∈ fieldsL) (h5:content ∈ contsL) (h6:box.size≤40) (h7:n≤4102444799) :
  ∃ t,Ev (fun k=>z50_.f k id title link author (n:Int) content box) t∧t.size≤4000:=by
 obtain⟨a1,⟨K1,e1⟩,z1⟩:=enc_of enc_fields author h4
 obtain⟨p1,⟨K2,e2⟩,z2⟩:=fold_of (⟨#[70,114,111,109]⟩:ByteArray) a1 (by decide) (by omega)
 obtain⟨K3,e3⟩:=rfc_ev n h7
 have z3:(mkT (rfcL n)).size≤40:=by rw[mkT_size];exact rfcL_len n h7
 obtain⟨p2,⟨K4,e4⟩,z4⟩:=fold_of (⟨#[68,97,116,101]⟩:ByteArray) (mkT (rfcL n)) (by decide) (by omega)
 obtain⟨a3,⟨K5,e5⟩,z5⟩:=enc_of enc_fields title h2
 obtain⟨p3,⟨K6,e6⟩,z6⟩:=fold_of (⟨#[83,117,98,106,101,99,116]⟩:ByteArray) a3 (by decide) (by omega)
 obtain⟨m,dg,⟨K7,e7⟩,⟨K8,e8⟩,z8⟩:=dig_of id h1
 have zv:(((((⟨#[60]⟩:ByteArray) ++ dg) ++ (⟨#[64]⟩:ByteArray)) ++ box) ++ (⟨#[62]⟩:ByteArray)).size≤70:=by
  simp only[ByteArray.size_append]
  have y1:(⟨#[60]⟩:ByteArray).size=1:=rfl
  have y2:(⟨#[64]⟩:ByteArray).size=1:=rfl
  have y3:(⟨#[62]⟩:ByteArray).size=1:=rfl
  omega
 obtain⟨p4,⟨K9,e9⟩,z9⟩:=fold_of (⟨#[77,101,115,115,97,103,101,45,73,68]⟩:ByteArray) (((((⟨#[60]⟩:ByteArray) ++ dg) ++ (⟨#[64]⟩:ByteArray)) ++ box) ++ (⟨#[62]⟩:ByteArray)) (by decide) (by omega)
 obtain⟨a5,⟨K10,e10⟩,z10⟩:=enc_of enc_ids id h1
 obtain⟨p5,⟨K11,e11⟩,z11⟩:=fold_of (⟨#[88,45,73,100]⟩:ByteArray) a5 (by decide) (by omega)
 obtain⟨a6,⟨K12,e12⟩,z12⟩:=enc_of enc_links link h3
 obtain⟨p6,⟨K13,e13⟩,z13⟩:=fold_of (⟨#[88,45,76,105,110,107]⟩:ByteArray) a6 (by decide) (by omega)
 obtain⟨p7,⟨K14,e14⟩,z14⟩:=fold_of (⟨#[77,73,77,69,45,86,101,114,115,105,111,110]⟩:ByteArray) (⟨#[49,46,48]⟩:ByteArray) (by decide) (by decide)
 obtain⟨p8,⟨K15,e15⟩,z15⟩:=fold_of (⟨#[67,111,110,116,101,110,116,45,84,121,112,101]⟩:ByteArray) (⟨#[116,101,120,116,47,112,108,97,105,110,59,32,99,104,97,114,115,101,116,61,117,116,102,45,56]⟩:ByteArray) (by decide) (by decide)
 obtain⟨p9,⟨K16,e16⟩,z16⟩:=fold_of (⟨#[67,111,110,116,101,110,116,45,84,114,97,110,115,102,101,114,45,69,110,99,111,100,105,110,103]⟩:ByteArray) (⟨#[113,117,111,116,101,100,45,112,114,105,110,116,97,98,108,101]⟩:ByteArray) (by decide) (by decide)
 obtain⟨cr,q,⟨K17,e17⟩,⟨K18,e18⟩,z18,z17⟩:=quo_of content h5
 have zi:=id_size id h1
 change p1.size≤4+6+3*a1.size at z2
 change p2.size≤4+6+3*_ at z4
 change p3.size≤7+6+3*a3.size at z6
 change p4.size≤10+6+3*_ at z9
 change p5.size≤4+6+3*a5.size at z11
 change p6.size≤6+6+3*a6.size at z13
 change p7.size≤12+6+3*3 at z14
 change p8.size≤12+6+3*25 at z15
 change p9.size≤25+6+3*16 at z16
 refine⟨(((((((p1 ++ p2) ++ p3) ++ ((p4 ++ p5) ++ p6)) ++ ((p7 ++ p8) ++ p9)) ++ (⟨#[13,10]⟩:ByteArray)) ++ q) ++ (⟨#[13,10]⟩:ByteArray)),⟨K1+K2+K3+K4+K5+K6+K7+K8+K9+K10+K11+K12+K13+K14+K15+K16+K17+K18,fun k hk=> ?_⟩,?_⟩
 ·have f1:=e1 k (by omega)
  have f2:=e2 k (by omega)
  have f3:=e3 k (by omega)
  have f4:=e4 k (by omega)
  have f5:=e5 k (by omega)
  have f6:=e6 k (by omega)
  have f7:=e7 k (by omega)
  have f8:=e8 k (by omega)
  have f9:=e9 k (by omega)
  have f10:=e10 k (by omega)
  have f11:=e11 k (by omega)
  have f12:=e12 k (by omega)
  have f13:=e13 k (by omega)
  have f14:=e14 k (by omega)
  have f15:=e15 k (by omega)
  have f16:=e16 k (by omega)
  have f17:=e17 k (by omega)
  have f18:=e18 k (by omega)
  simp only at f1 f2 f3 f4 f5 f6 f7 f8 f9 f10 f11 f12 f13 f14 f15 f16 f17 f18
  simp only[z50_.f,f1,f2,f3,f4,f5,f6,f7,f8,f9,f10,f11,f12,f13,f14,f15,f16,f17,f18,bS]
  rw[if_pos (by omega)]
 ·simp only[ByteArray.size_append]
  have y1:(⟨#[13,10]⟩:ByteArray).size=2:=rfl
  omega
theorem stamp_ok {l:List Int} {a s B:Int} (h:Src l a s B) (hB:B≤4611686018427387000):∃(n:Nat) (a' s' : Int),z63_.f l a s=some ((n:Int),a', s')∧Src l a' s' (B+9)∧n≤4102444799:=by
 obtain⟨r1,a1,s1,e1,h1,c1,d1⟩:=next_ok 1000000 h (by omega)
 obtain⟨r2,a2,s2,e2,h2,c2,d2⟩:=next_ok 1000000 h1 (by omega)
 obtain⟨r3,a3,s3,e3,h3,c3,d3⟩:=next_ok 6 h2 (by omega)
 have d1:=d1 (by omega)
 have d2:=d2 (by omega)
 have d3:=d3 (by omega)
 have w1:wrap64 (r1*4102)=r1*4102:=w64 (by omega) (by omega)
 have w2:wrap64 ((wrap64 (r2*4000))+86399)=r2*4000+86399:=by rw[show wrap64 (r2*4000)=r2*4000 from w64 (by omega) (by omega),w64 (by omega) (by omega)]
 have hh:∃ n:Nat,rd [r1*4102,r2*4000+86399,0,4102444799,951782400,1709164800] r3=(n:Int)∧n≤4102444799:=by
  obtain rfl|rfl|rfl|rfl|rfl|rfl:r3=0∨r3=1∨r3=2∨r3=3∨r3=4∨r3=5:=by omega
  ·exact⟨(r1*4102).toNat,by show r1*4102=_;omega,by omega⟩
  ·exact⟨(r2*4000+86399).toNat,by show r2*4000+86399=_;omega,by omega⟩
  ·exact⟨0,rfl,by omega⟩
  ·exact⟨4102444799,rfl,by omega⟩
  ·exact⟨951782400,rfl,by omega⟩
  ·exact⟨1709164800,rfl,by omega⟩
 obtain⟨n,hn,hm⟩:=hh
 refine⟨n,a3,s3,?_,h3.grow (by omega),hm⟩
 simp only[z63_.f,e1,e2,e3,bS,w1,w2]
 rw[if_pos (by omega),if_pos (by show r3 < 6;omega),hn]
theorem field_ok {l:List Int} {a s B:Int} (h:Src l a s B) (hB:B≤4611686018427387000):∃ r a' s', z62_.f l a s=some (r,a', s')∧Src l a' s' (B+3)∧r ∈ fieldsL:=by
 obtain⟨r,a', s', e,h', m⟩:=pick_ok fieldsL h (by omega)
 refine⟨r,a', s', ?_,h', m.resolve_right fun q=>by cases q.1⟩
 have e2:z60_.f l a s fieldsL=some (r,a', s'):=e
 unfold fieldsL at e2
 simp only[z62_.f,e2,bS]
/-- A drawn entry. -/
theorem entry_ok {l:List Int} {a s B:Int} (h:Src l a s B) (hB:B≤4611686018427386000):∃(id title link author:ByteArray) (n:Nat) (content:ByteArray) (a' s' : Int),z48_.f l a s=some (id,title,link,author,(n:Int),content,a', s')∧Src l a' s' (B+24) ∧
  id ∈ idsL∧title ∈ fieldsL∧link ∈ linksL∧author ∈ fieldsL∧content ∈ contsL∧n≤4102444799:=by
 obtain⟨id,a1,s1,e1,h1,m1⟩:=pick_ok idsL h (by omega)
 obtain⟨ti,a2,s2,e2,h2,m2⟩:=field_ok h1 (by omega)
 obtain⟨li,a3,s3,e3,h3,m3⟩:=pick_ok linksL h2 (by omega)
 obtain⟨au,a4,s4,e4,h4,m4⟩:=field_ok h3 (by omega)
 obtain⟨n,a5,s5,e5,h5,m5⟩:=stamp_ok h4 (by omega)
 obtain⟨co,a6,s6,e6,h6,m6⟩:=pick_ok contsL h5 (by omega)
 refine⟨id,ti,li,au,n,co,a6,s6,?_,h6.grow (by omega),(m1.resolve_right (fun q=>by cases q.1)),m2,(m3.resolve_right (fun q=>by cases q.1)),m4,(m6.resolve_right (fun q=>by cases q.1)),m5⟩
 unfold idsL at e1
 unfold linksL at e3
 unfold contsL at e6
 simp only[z48_.f,e1,e2,e3,e4,e5,e6,bS]
end Go.Proofs.Ytbjefkeogbophaa.P
/- Lemmas of mine: bounds, the fields of a log. Plain. -/
set_option linter.unusedVariables false
set_option linter.unusedSimpArgs false
namespace Go.Proofs.Ytbjefkeogbophaa.P
open Go.RowKit Go.Proofs.YtbjefkeogbophaaW.PrintWords
theorem l01In_eq (a b c:Int):z37_.f a b c=some (decide (b≤a∧a≤c)):=by
 unfold z37_.f
 by_cases h:a≥b
 ·rw[if_pos h];simp[show b≤a from h]
 ·rw[if_neg h];simp;omega
theorem within_eq (a b c:Int):z33_.f a b c=some (decide (b≤a∧a≤c)):=l01In_eq a b c
end Go.Proofs.Ytbjefkeogbophaa.P
/- Lemmas of mine: the two NameOK tell the same. Plain. -/
set_option linter.unusedVariables false
set_option linter.unusedSimpArgs false
namespace Go.Proofs.Ytbjefkeogbophaa.P
open Go.RowKit Go.Proofs.YtbjefkeogbophaaW.PrintWords
def isLet (c:Int):Bool:=decide (97≤c∧c≤122∨65≤c∧c≤90)
def isDig (c:Int):Bool:=decide (48≤c∧c≤57)
theorem implDigit_eq (c:Int):z53_.f c=some (isDig c):=by
 unfold z53_.f isDig
 by_cases h:c≥48 <;> simp[h] <;> omega
theorem specDigit_eq (c:Int):z72_.f c=some (isDig c):=implDigit_eq c
theorem implLetter_eq (c:Int):z54_.f c=some (isLet c):=by
 unfold z54_.f isLet
 by_cases h1:c≥97 <;> by_cases h2:c≤122 <;> by_cases h3:c≥65 <;> by_cases h4:c≤90 <;> simp[h1,h2,h3,h4] <;> omega
theorem specLetter_eq (c:Int):z71_.f c=some (isLet c || c == 95):=by
 unfold z71_.f isLet
 by_cases h1:c≥97 <;> by_cases h2:c≤122 <;> by_cases h3:c≥65 <;> by_cases h4:c≤90 <;> simp[h1,h2,h3,h4] <;> omega
/-- A byte of a name. -/
def nameB (b:UInt8):Bool:=isLet b.toNat || isDig b.toNat || b.toNat == 95
/-- A name. -/
def nameR (l:List UInt8):Bool:=decide (1≤l.length∧l.length≤40) && !(l.head?.any fun b=>isDig b.toNat) && l.all nameB
theorem implName_l0 (s:ByteArray) (hs:(bl s).length≤40):∀(d i:Nat),i+d=(bl s).length →
  Ev (fun k=>z29_.l0 k s (s.size:Int) (i:Int)) (((bl s).drop i).all nameB):=by
 intro d
 induction d with
 | zero =>
  intro i hi
  rw[List.drop_eq_nil_of_le (by omega)]
  refine Ev.step (f:=fun _=>some _) (fun k=> ?_) (Ev.now _)
  simp only[z29_.l0]
  rw[if_neg (by rw[bl_size];omega)]
  rfl
 | succ d ih =>
  intro i hi
  have hlt:i < (bl s).length:=by omega
  have hz:i < s.size:=by rw[bl_size];exact hlt
  have hbt:=bt_eq s i hlt
  rw[List.drop_eq_getElem_cons hlt,List.all_cons]
  generalize (bl s)[i]'hlt=b at hbt ⊢
  by_cases hc:nameB b=true
  ·rw[hc,Bool.true_and]
   refine Ev.step (f:=fun k=>z29_.l0 k s (s.size:Int) ((i+1:Nat):Int)) (fun k=> ?_) (ih (i+1) (by omega))
   simp only[z29_.l0]
   rw[if_pos (by omega),if_pos (by omega),if_pos (by omega),hbt,w64s i (by omega)]
   simp only[implLetter_eq,implDigit_eq,Option.bind_some]
   unfold nameB at hc
   cases h1:isLet b.toNat with
   | true=>rfl
   | false =>
    cases h2:isDig b.toNat with
    | true=>rfl
    | false =>
     have h3:b.toNat=95:=by simpa [h1,h2] using hc
     simp[h3]
  ·have hc' : nameB b=false:=by simpa using hc
   rw[hc', Bool.false_and]
   refine Ev.step (f:=fun _=>some _) (fun k=> ?_) (Ev.now _)
   simp only[z29_.l0]
   rw[if_pos (by omega),if_pos (by omega),if_pos (by omega),hbt]
   simp only[implLetter_eq,implDigit_eq,Option.bind_some]
   unfold nameB at hc'
   simp only[Bool.or_eq_false_iff]at hc'
   obtain⟨⟨h1,h2⟩,h3⟩:=hc'
   have h4:¬(b.toNat:Int)=95:=by
    intro h
    have:b.toNat=95:=by omega
    simp[this]at h3
   simp[h1,h2,h4]
theorem implName_ev (s:ByteArray):Ev (fun k=>z29_.f k s) (nameR (bl s)):=by
 by_cases h:1≤s.size∧s.size≤40
 ·have hlt:0 < (bl s).length:=by rw[← bl_size];omega
  have hhd:(bl s).head? = some (bl s)[0]:=by rw[List.head?_eq_getElem?,List.getElem?_eq_getElem hlt]
  have e:nameR (bl s)=(!(isDig ((bl s)[0]).toNat) && (bl s).all nameB):=by
   unfold nameR
   rw[hhd,← bl_size]
   simp[h]
  have hf:∀ k,z29_.f k s=z29_.j0 k s (isDig ((bl s)[0]).toNat):=fun k=>by
   simp only[z29_.f,within_eq,Option.bind_some]
   rw[if_pos (by simp;omega),if_pos (by omega)]
   have:=bt_eq s 0 hlt
   rw[show((0:Nat):Int)=0 from rfl]at this
   rw[this,implDigit_eq]
   rfl
  refine Ev.congr hf ?_
  rw[e]
  cases hd:isDig ((bl s)[0]).toNat with
  | true =>
   refine Ev.step (f:=fun _=>some _) (fun k=> ?_) (Ev.now _)
   simp[z29_.j0]
  | false =>
   refine Ev.step (f:=fun k=>z29_.l0 k s (s.size:Int) ((0:Nat):Int)) (fun k=> ?_) (implName_l0 s (by rw[← bl_size];exact h.2) (bl s).length 0 (by omega))
   simp[z29_.j0]
 ·have e:nameR (bl s)=false:=by
   unfold nameR
   rw[← bl_size]
   simp only[decide_eq_false h,Bool.false_and]
  rw[e]
  refine Ev.congr (f:=fun k=>z29_.j0 k s true) (fun k=> ?_) ?_
  ·simp only[z29_.f,within_eq,Option.bind_some]
   rw[if_neg (by simp;omega)]
  ·refine Ev.step (f:=fun _=>some _) (fun k=> ?_) (Ev.now _)
   simp[z29_.j0]
theorem specName_l0 (s:ByteArray) (hs:(bl s).length≤40):∀(d i:Nat),i+d=(bl s).length →
  Ev (fun k=>z58_.l0 k s (i:Int)) (((bl s).drop i).all nameB):=by
 intro d
 induction d with
 | zero =>
  intro i hi
  rw[List.drop_eq_nil_of_le (by omega)]
  refine Ev.step (f:=fun _=>some _) (fun k=> ?_) (Ev.now _)
  simp only[z58_.l0]
  rw[if_neg (by rw[bl_size];omega)]
  rfl
 | succ d ih =>
  intro i hi
  have hlt:i < (bl s).length:=by omega
  have hz:i < s.size:=by rw[bl_size];exact hlt
  have hbt:=bt_eq s i hlt
  rw[List.drop_eq_getElem_cons hlt,List.all_cons]
  generalize (bl s)[i]'hlt=b at hbt ⊢
  have hn:nameB b=((isLet b.toNat || (b.toNat:Int) == 95) || isDig b.toNat):=by
   unfold nameB
   have:((b.toNat:Int) == 95)=(b.toNat == 95):=by
    rw[Bool.eq_iff_iff];simp;omega
   rw[this]
   cases isLet b.toNat <;> cases isDig b.toNat <;> simp
  rw[hn]
  cases h1:(isLet b.toNat || (b.toNat:Int) == 95)with
  | true =>
   rw[Bool.true_or,Bool.true_and]
   refine Ev.step (f:=fun k=>z58_.l0 k s ((i+1:Nat):Int)) (fun k=> ?_) (ih (i+1) (by omega))
   simp only[z58_.l0]
   rw[if_pos (by omega),if_pos (by omega),hbt,w64s i (by omega)]
   simp only[specLetter_eq,Option.bind_some,h1,if_true]
  | false =>
   rw[Bool.false_or]
   cases h2:isDig b.toNat with
   | true =>
    rw[Bool.true_and]
    refine Ev.step (f:=fun k=>z58_.l0 k s ((i+1:Nat):Int)) (fun k=> ?_) (ih (i+1) (by omega))
    simp only[z58_.l0]
    rw[if_pos (by omega),if_pos (by omega),hbt,w64s i (by omega)]
    simp only[specLetter_eq,specDigit_eq,Option.bind_some,h1,h2,if_true]
    rfl
   | false =>
    rw[Bool.false_and]
    refine Ev.step (f:=fun _=>some _) (fun k=> ?_) (Ev.now _)
    simp only[z58_.l0]
    rw[if_pos (by omega),if_pos (by omega),hbt]
    simp only[specLetter_eq,specDigit_eq,Option.bind_some,h1,h2]
    rfl
theorem specName_ev (s:ByteArray):Ev (fun k=>z36_.f k s) (nameR (bl s)):=by
 suffices h:Ev (fun k=>z58_.f k s) (nameR (bl s))by
  obtain⟨K,h⟩:=h
  exact⟨K,fun k hk=>by simp only[z36_.f,h k hk];rfl⟩
 by_cases h:1≤s.size∧s.size≤40
 ·have hlt:0 < (bl s).length:=by rw[← bl_size];omega
  have hhd:(bl s).head? = some (bl s)[0]:=by rw[List.head?_eq_getElem?,List.getElem?_eq_getElem hlt]
  have e:nameR (bl s)=(!(isDig ((bl s)[0]).toNat) && (bl s).all nameB):=by
   unfold nameR
   rw[hhd,← bl_size]
   simp[h]
  have hf:∀ k,z58_.f k s=z58_.j0 k s (!(isLet ((bl s)[0]).toNat || (((bl s)[0]).toNat:Int) == 95)):=fun k=>by
   simp only[z58_.f]
   rw[if_neg (by omega),if_neg (by omega),if_pos (by omega)]
   have:=bt_eq s 0 hlt
   rw[show((0:Nat):Int)=0 from rfl]at this
   rw[this,specLetter_eq]
   rfl
  refine Ev.congr hf ?_
  have hall:(bl s).all nameB=(nameB (bl s)[0] && ((bl s).drop 1).all nameB):=by
   have:=List.drop_eq_getElem_cons hlt
   rw[List.drop_zero]at this
   conv=>lhs;rw[this]
   rfl
  rw[e,hall]
  have h95:((((bl s)[0]).toNat:Int) == 95)=(((bl s)[0]).toNat == 95):=by
   rw[Bool.eq_iff_iff];simp;omega
  have hx:isDig ((bl s)[0]).toNat=true→(isLet ((bl s)[0]).toNat || (((bl s)[0]).toNat:Int) == 95)=false:=by
   unfold isDig isLet
   simp
   omega
  cases hl:(isLet ((bl s)[0]).toNat || (((bl s)[0]).toNat:Int) == 95)with
  | true =>
   have hd:isDig ((bl s)[0]).toNat=false:=by
    cases hd:isDig ((bl s)[0]).toNat with
    | true=>rw[hx hd]at hl;cases hl
    | false=>rfl
   have hn:nameB (bl s)[0]=true:=by
    unfold nameB
    rw[← h95]
    revert hl
    cases isLet ((bl s)[0]).toNat <;> simp[hd]
   rw[hd,hn]
   simp only[Bool.not_false,Bool.true_and]
   refine Ev.step (f:=fun k=>z58_.l0 k s ((1:Nat):Int)) (fun k=> ?_) (specName_l0 s (by rw[← bl_size];exact h.2) ((bl s).length - 1) 1 (by omega))
   simp[z58_.j0]
  | false =>
   have hn:(!(isDig ((bl s)[0]).toNat) && (nameB (bl s)[0] && ((bl s).drop 1).all nameB))=false:=by
    cases hd:isDig ((bl s)[0]).toNat with
    | true=>rfl
    | false =>
     have:nameB (bl s)[0]=false:=by
      unfold nameB
      rw[← h95]
      revert hl
      cases isLet ((bl s)[0]).toNat <;> simp[hd]
     rw[this]
     rfl
   rw[hn]
   refine Ev.step (f:=fun _=>some _) (fun k=> ?_) (Ev.now _)
   simp[z58_.j0]
 ·have e:nameR (bl s)=false:=by
   unfold nameR
   rw[← bl_size]
   simp only[decide_eq_false h,Bool.false_and]
  rw[e]
  refine Ev.congr (f:=fun k=>z58_.j0 k s true) (fun k=> ?_) ?_
  ·simp only[z58_.f]
   by_cases h1:(s.size:Int) < 1
   ·rw[if_pos h1]
   ·rw[if_neg h1,if_pos (by omega)]
  ·refine Ev.step (f:=fun _=>some _) (fun k=> ?_) (Ev.now _)
   simp[z58_.j0]
end Go.Proofs.Ytbjefkeogbophaa.P
/- Lemmas of mine: the two MutationOK tell the same. Plain. -/
set_option linter.unusedVariables false
set_option linter.unusedSimpArgs false
namespace Go.Proofs.Ytbjefkeogbophaa.P
open Go.RowKit Go.Proofs.YtbjefkeogbophaaW.PrintWords
/-- A right item. -/
def itemR (x:S54):Bool:=decide (1≤x.f0.size∧x.f0.size≤200∧x.f1.size≤4000)
/-- What a mutation of a kind has. -/
def mutKind (kind uid mode flags:Int) (n:Nat):Bool :=
 if kind=1∨kind=4 then decide (uid=0∧mode=0∧flags=0∧n=0)
 else if kind=2 then decide (uid=0∧mode=0∧flags=0∧0 < n)
 else if kind=3 then decide (n=0∧(1≤uid∧uid≤1000)∧(1≤mode∧mode≤3)∧(0≤flags∧flags≤31))
 else false
/-- A right mutation. -/
def mutR (kind uid mode flags:Int) (box:ByteArray) (items:List S54):Bool:=nameR (bl box) && decide (items.length≤20) && items.all itemR && mutKind kind uid mode flags items.length
theorem specMut_j2 (k:Nat) (kind uid mode flags:Int) (box:ByteArray) (items:List S54) (b:Bool) (hb:b=decide (kind=1∨kind=4)) :
  z20_.j2 (k+1) kind b kind uid mode flags box items=some (mutKind kind uid mode flags items.length):=by
 subst hb
 obtain⟨n,hn⟩:∃ n,items.length=n:=⟨_,rfl⟩
 have e0:((n:Int) == 0)=decide (n=0):=by rw[Bool.eq_iff_iff];simp
 have e1:decide ((n:Int) > 0)=decide (0 < n):=by rw[Bool.eq_iff_iff];simp
 simp only[z20_.j2,l01In_eq,bS,decide_eq_true_eq,mutKind,hn,e0,e1]
 by_cases h1:kind=1∨kind=4
 ·rw[if_pos h1,if_pos h1]
  by_cases a:uid=0 <;> by_cases b:mode=0 <;> by_cases c:flags=0 <;> simp[a,b,c,e0]
 ·rw[if_neg h1,if_neg h1]
  by_cases h2:kind=2
  ·rw[if_pos h2,if_pos h2]
   by_cases a:uid=0 <;> by_cases b:mode=0 <;> by_cases c:flags=0 <;> simp[a,b,c,e1]
  ·rw[if_neg h2,if_neg h2]
   by_cases h3:kind=3
   ·rw[if_pos h3,if_pos h3]
    by_cases a:1≤uid∧uid≤1000 <;> by_cases b:1≤mode∧mode≤3 <;> by_cases c:0≤flags∧flags≤31 <;> simp[a,b,c,e0]
   ·rw[if_neg h3,if_neg h3]
theorem implMut_j2 (k:Nat) (kind uid mode flags:Int) (box:ByteArray) (items:List S54) (b:Bool) (hb:b=decide (kind=1∨kind=4)) (z:Bool) (hz:z=decide (uid=0∧mode=0∧flags=0)) :
  z17_.j2 (k+1) z kind b kind uid mode flags box items=some (mutKind kind uid mode flags items.length):=by
 subst hb
 subst hz
 obtain⟨n,hn⟩:∃ n,items.length=n:=⟨_,rfl⟩
 have e0:((n:Int) == 0)=decide (n=0):=by rw[Bool.eq_iff_iff];simp
 have e1:decide ((n:Int) > 0)=decide (0 < n):=by rw[Bool.eq_iff_iff];simp
 have e2:((n:Int)=0)=(n=0):=by simp
 simp only[z17_.j2,within_eq,bS,decide_eq_true_eq,mutKind,hn,e0,e1,e2]
 by_cases h1:kind=1∨kind=4
 ·rw[if_pos h1,if_pos h1]
  by_cases a:uid=0 <;> by_cases b:mode=0 <;> by_cases c:flags=0 <;> simp[a,b,c,e0]
 ·rw[if_neg h1,if_neg h1]
  by_cases h2:kind=2
  ·rw[if_pos h2,if_pos h2]
   by_cases a:uid=0 <;> by_cases b:mode=0 <;> by_cases c:flags=0 <;> simp[a,b,c,e1]
  ·rw[if_neg h2,if_neg h2]
   by_cases h3:kind=3
   ·rw[if_pos h3,if_pos h3]
    by_cases d:n=0 <;> by_cases a:1≤uid∧uid≤1000 <;> by_cases b:1≤mode∧mode≤3 <;> by_cases c:0≤flags∧flags≤31 <;> simp[a,b,c,d]
   ·rw[if_neg h3,if_neg h3]
theorem specMut_tail (kind uid mode flags:Int) (box:ByteArray) (items:List S54) (hn:items.length≤20) :
  ∀(d i:Nat),i+d=items.length→Ev (fun k=>z20_.l0 k (i:Int) kind uid mode flags box items) ((items.drop i).all itemR && mutKind kind uid mode flags items.length):=by
 intro d
 induction d with
 | zero =>
  intro i hi
  rw[List.drop_eq_nil_of_le (by omega)]
  refine⟨2,fun k hk=> ?_⟩
  obtain⟨m,rfl⟩:∃ m,k=m+1+1:=⟨k - 2,by omega⟩
  simp only[z20_.l0,List.all_nil,Bool.true_and]
  rw[if_neg (by omega)]
  by_cases h1:kind=1
  ·rw[if_pos h1]
   exact specMut_j2 m kind uid mode flags box items _ (by rw[Bool.eq_iff_iff];simp[h1])
  ·rw[if_neg h1]
   exact specMut_j2 m kind uid mode flags box items _ (by rw[Bool.eq_iff_iff];simp[h1])
 | succ d ih =>
  intro i hi
  have hlt:i < items.length:=by omega
  rw[List.drop_eq_getElem_cons hlt,List.all_cons]
  have e:∀ k,z20_.l0 (k+1) (i:Int) kind uid mode flags box items=if itemR (items[i]'hlt)=true then z20_.l0 k ((i+1:Nat):Int) kind uid mode flags box items else some false:=fun k=>by
   simp only[z20_.l0,rd_T54,getD_nat items _ i hlt,l01In_eq,bS,decide_eq_true_eq]
   rw[if_pos (by omega),if_pos (by omega),w64s i (by omega)]
   generalize items[i]'hlt=x
   unfold itemR
   by_cases h1:1≤(x.f0.size:Int)∧(x.f0.size:Int)≤200
   ·rw[if_pos h1]
    by_cases h2:(x.f1.size:Int) > 4000
    ·rw[if_pos h2,if_neg (by simp;omega)]
    ·rw[if_neg h2,if_pos (by simp;omega)]
   ·rw[if_neg h1,if_neg (by simp;omega)]
  cases hx:itemR (items[i]'hlt)with
  | true =>
   rw[Bool.true_and]
   exact Ev.step (f:=fun k=>z20_.l0 k ((i+1:Nat):Int) kind uid mode flags box items) (fun k=>by rw[e,if_pos hx]) (ih (i+1) (by omega))
  | false =>
   simp only[Bool.false_and]
   exact Ev.step (f:=fun _=>some _) (fun k=>by rw[e,if_neg (by rw[hx];decide)]) (Ev.now _)
theorem specMut_ev (kind uid mode flags:Int) (box:ByteArray) (items:List S54):Ev (fun k=>z20_.f k kind uid mode flags box items) (mutR kind uid mode flags box items):=by
 obtain⟨K,hK⟩:=specName_ev box
 unfold mutR
 cases hb:nameR (bl box)with
 | false =>
  refine⟨K+1,fun k hk=> ?_⟩
  obtain⟨m,rfl⟩:∃ m,k=m+1:=⟨k - 1,by omega⟩
  simp only[z20_.f,hK (m+1) (by omega),hb,bS,Bool.false_and]
  rw[if_neg (by decide)]
  simp only[z20_.j0,if_true]
 | true =>
  by_cases hn:items.length≤20
  ·obtain⟨K2,h2⟩:=specMut_tail kind uid mode flags box items hn items.length 0 (by omega)
   rw[List.drop_zero]at h2
   refine⟨K+K2+1,fun k hk=> ?_⟩
   obtain⟨m,rfl⟩:∃ m,k=m+1:=⟨k - 1,by omega⟩
   simp only[z20_.f,hK (m+1) (by omega),hb,bS,decide_eq_true hn,Bool.true_and]
   rw[if_pos trivial,decide_eq_false (by omega)]
   simp only[z20_.j0]
   rw[if_neg (by decide)]
   exact h2 m (by omega)
  ·refine⟨K+1,fun k hk=> ?_⟩
   obtain⟨m,rfl⟩:∃ m,k=m+1:=⟨k - 1,by omega⟩
   simp only[z20_.f,hK (m+1) (by omega),hb,bS,decide_eq_false hn,Bool.true_and,Bool.false_and]
   rw[if_pos trivial,decide_eq_true (by omega)]
   simp only[z20_.j0,if_true]
theorem implItem_L (x:S54):z31_.f x.f0 x.f1=some (!itemR x):=by
 simp only[z31_.f,z32_.f,z56_.f,within_eq,bS,decide_eq_true_eq,itemR]
 by_cases h1:1≤(x.f0.size:Int)∧(x.f0.size:Int)≤200
 ·rw[if_pos h1,bS]
  congr 2
  rw[decide_eq_decide]
  omega
 ·rw[if_neg h1,bS]
  congr 2
  exact(decide_eq_false (by omega)).symm
theorem implItems_eq (items:List S54) (h:items.length≤20):z900030031_.f items=some (!items.all itemR):=by
 have e:(fun x:S54=>(z31_.f x.f0 x.f1) == some true)=fun x => !itemR x:=by
  funext x
  rw[implItem_L]
  cases itemR x <;> rfl
 unfold z900030031_.f
 rw[if_pos ⟨by omega,by rw[List.all_eq_true];intro x _;rw[implItem_L];rfl⟩,e,List.not_all_eq_any_not]
theorem implMut_ev (kind uid mode flags:Int) (box:ByteArray) (items:List S54):Ev (fun k=>z17_.f k kind uid mode flags box items) (mutR kind uid mode flags box items):=by
 obtain⟨K,hK⟩:=implName_ev box
 unfold mutR
 cases hb:nameR (bl box)with
 | false =>
  refine⟨K+1,fun k hk=> ?_⟩
  obtain⟨m,rfl⟩:∃ m,k=m+1:=⟨k - 1,by omega⟩
  simp only[z17_.f,hK (m+1) (by omega),hb,bS,Bool.false_and]
  rw[if_neg (by decide)]
  simp only[z17_.j0,if_true]
 | true =>
  by_cases hn:items.length≤20
  ·refine⟨K+4,fun k hk=> ?_⟩
   obtain⟨m,rfl⟩:∃ m,k=m+1+1+1:=⟨k - 3,by omega⟩
   simp only[z17_.f,hK (m+1+1+1) (by omega),hb,bS,decide_eq_true hn,Bool.true_and,implItems_eq items hn]
   rw[if_pos trivial,if_neg (by omega)]
   simp only[z17_.j0]
   cases ha:items.all itemR with
   | false =>
    rw[if_pos (by decide)]
    rfl
   | true =>
    rw[if_neg (by decide),Bool.true_and]
    have hj:∀ z:Bool,z=decide (uid=0∧mode=0∧flags=0)→z17_.j1 (m+1+1) z kind uid mode flags box items=some (mutKind kind uid mode flags items.length):=fun z hz=>by
     simp only[z17_.j1]
     by_cases h1:kind=1
     ·rw[if_pos h1]
      exact implMut_j2 m kind uid mode flags box items _ (by rw[Bool.eq_iff_iff];simp[h1]) z hz
     ·rw[if_neg h1]
      exact implMut_j2 m kind uid mode flags box items _ (by rw[Bool.eq_iff_iff];simp[h1]) z hz
    by_cases hu:uid=0
    ·rw[if_pos hu]
     by_cases hm:mode=0
     ·rw[if_pos hm]
      exact hj _ (by rw[Bool.eq_iff_iff];simp[hu,hm])
     ·rw[if_neg hm]
      exact hj _ (by rw[Bool.eq_iff_iff];simp[hu,hm])
    ·rw[if_neg hu]
     exact hj _ (by rw[Bool.eq_iff_iff];simp[hu])
  ·refine⟨K+1,fun k hk=> ?_⟩
   obtain⟨m,rfl⟩:∃ m,k=m+1:=⟨k - 1,by omega⟩
   simp only[z17_.f,hK (m+1) (by omega),hb,bS,decide_eq_false hn,Bool.true_and,Bool.false_and]
   rw[if_pos trivial,if_pos (by omega)]
   simp only[z17_.j0,if_true]
end Go.Proofs.Ytbjefkeogbophaa.P
/- Lemmas of mine: a mutation's bytes in both programs; bytes marked and held. Plain. -/
set_option linter.unusedVariables false
set_option linter.unusedSimpArgs false
namespace Go.Proofs.Ytbjefkeogbophaa.P
open Go.RowKit Go.Proofs.YtbjefkeogbophaaW.PrintWords
def bem (n:Nat):List UInt8:=[UInt8.ofNat (n / 256),UInt8.ofNat n]
theorem nb_bem (n:Nat):nb (bem n)=[(n:Int) / 256 % 256,(n:Int) % 256]:=by simp[nb,bem]
theorem bem_length (n:Nat):(bem n).length=2:=rfl
theorem specBem (n k:Nat):z38_.f (k+3) (n:Int) 2=some (nb (bem n)):=by
 rw[nb_bem]
 simp[z38_.f,z38_.l0,wrap64,shr,IntKind.wrap,IntKind.bits,IntKind.signed]
theorem bl_b2M (n:Nat):bl (b2M (n:Int))=bem n:=by
 have h:b2M (n:Int)=strOfNums (nb (bem n)):=by rw[nb_bem];rfl
 rw[h,bl_strOf_nb]
theorem bl_itemM (x:S54):(itemM x).data.toList=bem x.f0.size ++ bem x.f1.size ++ bl x.f0 ++ bl x.f1:=by
 show bl (itemM x)=_
 unfold itemM
 rw[bl_append,bl_append,bl_append,bl_b2M,bl_b2M]
theorem specB_loop (kind uid mode flags:Int) (box:ByteArray) (its:List S54) (hi:∀ x ∈ its,x.f0.size≤200∧x.f1.size≤4000) (hn:its.length≤20):∀(d i:Nat) (A:List UInt8),i+d=its.length→A.length+5000*d≤1000000 →
  Ev (fun k=>z21_.l0 k (nb A) (i:Int) kind uid mode flags box its) (nb (A ++ (its.drop i).flatMap fun y=>(itemM y).data.toList)):=by
 intro d
 induction d with
 | zero =>
  intro i A hi2 hA
  rw[List.drop_eq_nil_of_le (by omega)]
  refine Ev.step (f:=fun _=>some _) (fun k=> ?_) (Ev.now _)
  simp only[z21_.l0]
  rw[if_neg (by omega)]
  simp
 | succ d ih =>
  intro i A hi2 hA
  have hlt:i < its.length:=by omega
  have hr:rd_T54 its (i:Int)=its[i]'hlt:=getD_nat its _ i hlt
  have hx:=hi _ (List.getElem_mem hlt)
  rw[List.drop_eq_getElem_cons hlt,List.flatMap_cons]
  generalize its[i]'hlt=y at hr hx ⊢
  rw[bl_itemM]
  have h0:=bl_size y.f0
  have h1:=bl_size y.f1
  obtain⟨K,h⟩:=ih (i+1) (A ++ (bem y.f0.size ++ bem y.f1.size ++ bl y.f0 ++ bl y.f1)) (by omega) (by simp only[List.length_append,bem_length];omega)
  refine⟨K+4,fun k hk=> ?_⟩
  obtain⟨m,rfl⟩:∃ m,k=m+1:=⟨k - 1,by omega⟩
  have f:=h m (by omega)
  have hs:∀ n:Nat,z38_.f m (n:Int) 2=some (nb (bem n)):=fun n=>by
   obtain⟨j,rfl⟩:∃ j,m=j+3:=⟨m - 3,by omega⟩
   exact specBem n j
  simp only[z21_.l0,hr,hs,bS,bytesOf_bl]
  rw[if_pos (by omega),if_pos (by omega),if_pos (by simp only[nb_length,bem_length];omega),if_pos (by simp only[List.length_append,nb_length,bem_length];omega),if_pos (by simp only[List.length_append,nb_length,bem_length];omega),if_pos (by simp only[List.length_append,nb_length,bem_length];omega),w64s i (by omega)]
  simp only[← nb_append,List.append_assoc]at f ⊢
  exact f
theorem nb_hb (l:List Int):nb (l.map hbM)=l.map (· % 256):=by
 unfold nb
 rw[List.map_map]
 exact List.map_congr_left fun x _=>hbM_val x
theorem specB_ev (kind mode flags:Int) (uid:Nat) (box:ByteArray) (its:List S54) (hi:∀ x ∈ its,x.f0.size≤200∧x.f1.size≤4000) (hn:its.length≤20) (hb:box.size≤40) :
  Ev (fun k=>z21_.f k kind (uid:Int) mode flags box its) (nb (totM kind uid mode flags box its)):=by
 have h0:=bl_size box
 obtain⟨K,h⟩:=specB_loop kind uid mode flags box its hi hn its.length 0 ([hbM kind,hbM mode,hbM flags,hbM its.length,hbM box.size] ++ (bem uid ++ bl box)) (by omega) (by simp only[List.length_append,bem_length,List.length_cons,List.length_nil];omega)
 refine⟨K+3,fun k hk=> ?_⟩
 obtain⟨j,rfl⟩:∃ j,k=j+3:=⟨k - 3,by omega⟩
 have f:=h (j+3) (by omega)
 have e:nb [hbM kind,hbM mode,hbM flags,hbM its.length,hbM box.size]=[kind % 256,mode % 256,flags % 256,(its.length:Int) % 256,(box.size:Int) % 256]:=nb_hb [kind,mode,flags,its.length,box.size]
 simp only[z21_.f,bS,specBem,bytesOf_bl]
 rw[if_pos (by simp only[nb_length,bem_length,List.length_cons,List.length_nil];omega),if_pos (by simp only[List.length_append,nb_length,bem_length,List.length_cons,List.length_nil];omega)]
 rw[List.drop_zero]at f
 unfold totM
 have hbx:(b2M (uid:Int) ++ box).data.toList=bem uid ++ bl box:=by
  show bl _=_
  rw[bl_append,bl_b2M]
 rw[hbx]
 simp only[← e,← nb_append,List.append_assoc]at f ⊢
 exact f
theorem mutR_parts {kind uid mode flags:Int} {box:ByteArray} {its:List S54} (h:mutR kind uid mode flags box its=true) :
  (0≤uid∧uid≤1000)∧box.size≤40∧its.length≤20∧∀ x ∈ its,x.f0.size≤200∧x.f1.size≤4000:=by
 unfold mutR at h
 simp only[Bool.and_eq_true,decide_eq_true_eq]at h
 obtain⟨⟨⟨h1,h2⟩,h3⟩,h4⟩:=h
 refine⟨?_,?_,h2,fun x hx=> ?_⟩
 ·unfold mutKind at h4
  repeat' split at h4
  all_goals (try simp only[decide_eq_true_eq]at h4)
  all_goals (first|omega|cases h4)
 ·unfold nameR at h1
  simp only[Bool.and_eq_true,decide_eq_true_eq]at h1
  rw[bl_size]
  exact h1.1.1.2
 ·have:=List.all_eq_true.1 h3 x hx
  unfold itemR at this
  rw[decide_eq_true_eq]at this
  exact⟨this.2.1,this.2.2⟩
theorem totM_len (kind uid mode flags:Int) (box:ByteArray) (its:List S54) (hc:condM uid box its):(totM kind uid mode flags box its).length≤3000000000:=by
 have:=totX_len [hbM kind,hbM mode,hbM flags,hbM its.length,hbM box.size] uid box its its.length rfl hc
 rwa [totX_end]at this
/-- What both programs tell of a mutation's bytes. -/
theorem mutBytes_both (kind uid mode flags:Int) (box:ByteArray) (its:List S54):∃(out:List Int) (code:Int),out.length≤20000∧Ev (fun k=>z6_.f k kind uid mode flags box its) (out,code)∧Ev (fun k=>z8_.f k kind uid mode flags box its) (out,code):=by
 obtain⟨K1,h1⟩:=specMut_ev kind uid mode flags box its
 obtain⟨K2,h2⟩:=implMut_ev kind uid mode flags box its
 by_cases hm:mutR kind uid mode flags box its=true
 ·obtain⟨hu,hb,hn,hi⟩:=mutR_parts hm
  rw[hm]at h1 h2
  obtain⟨u,rfl⟩:∃ u:Nat,uid=(u:Int):=⟨uid.toNat,(Int.toNat_of_nonneg hu.1).symm⟩
  obtain⟨K3,h3⟩:=specB_ev kind mode flags u box its hi hn hb
  have hc:condM (u:Int) box its:=⟨⟨by omega,by omega⟩,by omega,by omega,List.all_eq_true.2 fun x hx=>by
   have:=hi x hx
   simp only[Bool.and_eq_true,decide_eq_true_eq]
   omega⟩
  have hl:=totM_len kind (u:Int) mode flags box its hc
  have h4:z23_.f kind (u:Int) mode flags box its=some ⟨(totM kind u mode flags box its).toArray⟩:=if_pos hc
  have hsz:(⟨(totM kind u mode flags box its).toArray⟩:ByteArray).size=(totM kind u mode flags box its).length:=by rw[bl_size,bl_mk]
  have hnl:=nb_length (totM kind u mode flags box its)
  generalize totM kind (u:Int) mode flags box its=T at h3 h4 hl hsz hnl
  by_cases hg:T.length > 20000
  ·refine⟨[],7,by simp,⟨K1+K3,fun k hk=> ?_⟩,⟨K2,fun k hk=> ?_⟩⟩
   ·simp only[z6_.f,h1 k (by omega),h3 k (by omega),bS,if_true]
    rw[if_pos (by omega)]
   ·simp only[z8_.f,h2 k (by omega),h4,bS,if_true]
    rw[if_pos (by omega)]
  ·refine⟨nb T,0,by omega,⟨K1+K3,fun k hk=> ?_⟩,⟨K2,fun k hk=> ?_⟩⟩
   ·simp only[z6_.f,h1 k (by omega),h3 k (by omega),bS,if_true]
    rw[if_neg (by omega)]
   ·simp only[z8_.f,h2 k (by omega),h4,bS,if_true]
    rw[if_neg (by omega),if_pos (by omega),bytesOf_bl,bl_mk]
 ·rw[Bool.not_eq_true]at hm
  rw[hm]at h1 h2
  refine⟨[],1,by simp,⟨K1,fun k hk=> ?_⟩,⟨K2,fun k hk=> ?_⟩⟩
  ·simp only[z6_.f,h1 k hk,bS]
   rfl
  ·simp only[z8_.f,h2 k hk,bS]
   rfl
end Go.Proofs.Ytbjefkeogbophaa.P
/- Lemmas of mine: big-endian numbers in both programs. Plain. -/
set_option linter.unusedVariables false
set_option linter.unusedSimpArgs false
namespace Go.Proofs.Ytbjefkeogbophaa.P
open Go.RowKit Go.Proofs.YtbjefkeogbophaaW.PrintWords
def sm (l:List UInt8):ByteArray:=⟨l.toArray⟩
theorem bl_sm (l:List UInt8):bl (sm l)=l:=bl_mk l
theorem sm_size (l:List UInt8):(sm l).size=l.length:=by rw[bl_size,bl_sm]
def numOf (l:List UInt8):Nat:=l.foldl (fun n b=>n*256+b.toNat) 0
theorem i64_in63 (n:Int) (h0:0≤n) (h1:n < 2 ^ 63):IntKind.i64.wrap n=n:=by rw[IntKind.wrap_i64];omega
theorem implNum_l0 (s:ByteArray) (hs:(bl s).length≤6):∀(d i n:Nat),i+d=(bl s).length→n < 256 ^ i →
  Ev (fun k=>z70_.l0 k s (n:Int) (s.size:Int) (i:Int)) ((((bl s).drop i).foldl (fun n b=>n*256+b.toNat) n:Nat):Int):=by
 intro d
 induction d with
 | zero =>
  intro i n hi hn
  rw[List.drop_eq_nil_of_le (by omega)]
  refine Ev.step (f:=fun _=>some _) (fun k=> ?_) (Ev.now _)
  simp only[z70_.l0,List.foldl_nil]
  rw[if_neg (by rw[bl_size];omega)]
 | succ d ih =>
  intro i n hi hn
  have hlt:i < (bl s).length:=by omega
  have hb:=((bl s)[i]).toNat_lt
  have hpow:256 ^ i≤256 ^ 5:=Nat.pow_le_pow_right (by decide) (by omega)
  have hp5:(256:Nat) ^ 5=1099511627776:=by decide
  have hsucc:(256:Nat) ^ (i+1)=256 ^ i*256:=rfl
  rw[List.drop_eq_getElem_cons hlt,List.foldl_cons]
  refine Ev.step (f:=fun k=>z70_.l0 k s ((n*256+((bl s)[i]).toNat:Nat):Int) (s.size:Int) ((i+1:Nat):Int)) (fun k=> ?_) (ih (i+1) (n*256+((bl s)[i]).toNat) (by omega) (by omega))
  simp only[z70_.l0]
  have hz:i < s.size:=by rw[bl_size];exact hlt
  rw[if_pos (by omega),if_pos (by omega),if_pos (by omega),bt_eq s i hlt,w64n _ (by omega),w64 (n:=(n:Int)*256) (by omega) (by omega),w64s i (by omega)]
  rw[bits_join .i64 63 (by decide) i64_in63 8 _ _ (by omega) (by omega) (by omega) (by omega) (by omega) (by omega)]
  rfl
theorem implNum_ev (s:ByteArray) (hs:(bl s).length≤6):Ev (fun k=>z70_.f k s) (numOf (bl s):Int) :=
 implNum_l0 s hs (bl s).length 0 0 (by omega) (by decide)
theorem specNum_l0 (s:ByteArray) (hs:(bl s).length≤6):∀(d i n:Nat),i+d=(bl s).length→n < 256 ^ i →
  Ev (fun k=>z57_.l0 k s (n:Int) (i:Int)) ((((bl s).drop i).foldl (fun n b=>n*256+b.toNat) n:Nat):Int):=by
 intro d
 induction d with
 | zero =>
  intro i n hi hn
  rw[List.drop_eq_nil_of_le (by omega)]
  refine Ev.step (f:=fun _=>some _) (fun k=> ?_) (Ev.now _)
  simp only[z57_.l0,List.foldl_nil]
  rw[if_neg (by rw[bl_size];omega)]
 | succ d ih =>
  intro i n hi hn
  have hlt:i < (bl s).length:=by omega
  have hb:=((bl s)[i]).toNat_lt
  have hpow:256 ^ i≤256 ^ 5:=Nat.pow_le_pow_right (by decide) (by omega)
  have hp5:(256:Nat) ^ 5=1099511627776:=by decide
  have hsucc:(256:Nat) ^ (i+1)=256 ^ i*256:=rfl
  rw[List.drop_eq_getElem_cons hlt,List.foldl_cons]
  refine Ev.step (f:=fun k=>z57_.l0 k s ((n*256+((bl s)[i]).toNat:Nat):Int) ((i+1:Nat):Int)) (fun k=> ?_) (ih (i+1) (n*256+((bl s)[i]).toNat) (by omega) (by omega))
  simp only[z57_.l0]
  have hz:i < s.size:=by rw[bl_size];exact hlt
  rw[if_pos (by omega),if_pos (by omega),bt_eq s i hlt,w64n _ (by omega),w64 (n:=(n:Int)*256) (by omega) (by omega),w64s i (by omega),w64 (by omega) (by omega)]
  rfl
theorem specNum_ev (s:ByteArray) (hs:(bl s).length≤6):Ev (fun k=>z57_.f k s) (numOf (bl s):Int) :=
 specNum_l0 s hs (bl s).length 0 0 (by omega) (by decide)
theorem numOf_lt:∀(l:List UInt8) (n:Nat),l.foldl (fun n b=>n*256+b.toNat) n < (n+1)*256 ^ l.length
 | [],n=>by simp
 | b :: l,n=>by
  have h:=numOf_lt l (n*256+b.toNat)
  have hb:=b.toNat_lt
  have e:(256:Nat) ^ (b :: l).length=256*256 ^ l.length:=by rw[List.length_cons,Nat.pow_succ,Nat.mul_comm]
  rw[List.foldl_cons,e,← Nat.mul_assoc]
  exact Nat.lt_of_lt_of_le h (Nat.mul_le_mul_right _ (by omega))
end Go.Proofs.Ytbjefkeogbophaa.P
/- Lemmas of mine: a mutation read from bytes, by the program and by the reference. Plain. -/
set_option linter.unusedVariables false
set_option linter.unusedSimpArgs false
namespace Go.Proofs.Ytbjefkeogbophaa.P
open Go.RowKit Go.Proofs.YtbjefkeogbophaaW.PrintWords
theorem numOf_two (l:List UInt8) (h:l.length≤2):numOf l < 65536:=by
 have h1:=numOf_lt l 0
 have h2:256 ^ l.length≤256 ^ 2:=Nat.pow_le_pow_right (by decide) h
 have h3:(256:Nat) ^ 2=65536:=by decide
 unfold numOf
 omega
theorem text_step (R:ByteArray) (b:Bool) (n:Nat):∃ t R' b', z52_.f R b (n:Int)=some (t,R', b')∧R'.size≤R.size∧t.size≤n ∧
  (((b=false∧n≤R.size)∧b' = false∧bl t=(bl R).take n∧bl R' = (bl R).drop n)∨(¬(b=false∧n≤R.size)∧b' = true)):=by
 have hsz:=bl_size R
 simp only[z52_.f]
 by_cases h:(n:Int) > (R.size:Int)
 ·rw[if_pos h]
  exact⟨_,_,_,rfl,Nat.le_refl _,Nat.zero_le _,.inr ⟨fun q=>by have:=q.2;omega,rfl⟩⟩
 ·rw[if_neg h,if_pos (by omega),if_pos (by omega),Int.toNat_natCast]
  have e1:bl (R.extract 0 n)=(bl R).take n:=by rw[bl_extract,List.drop_zero,Nat.sub_zero]
  have e2:bl (R.extract n R.size)=(bl R).drop n:=by rw[bl_extract];exact List.take_of_length_le (by rw[List.length_drop];omega)
  refine⟨_,_,_,rfl,by rw[bl_size,e2,List.length_drop];omega,by rw[bl_size,e1,List.length_take];omega,?_⟩
  cases b with
  | false=>exact .inl ⟨⟨rfl,by omega⟩,rfl,e1,e2⟩
  | true=>exact .inr ⟨fun q=>(by cases q.1),rfl⟩
theorem num_step (R:ByteArray) (b:Bool) (n:Nat) (hn:n≤2):∃(v:Nat) (R' : ByteArray) (b' : Bool),Ev (fun k=>z51_.f k R b (n:Int)) ((v:Int),R', b')∧R'.size≤R.size∧v < 65536 ∧
  (((b=false∧n≤R.size)∧b' = false∧v=numOf ((bl R).take n)∧bl R' = (bl R).drop n)∨(¬(b=false∧n≤R.size)∧b' = true)):=by
 obtain⟨t,R', b', h1,h2,h3,h4⟩:=text_step R b n
 have htl:(bl t).length≤2:=by rw[← bl_size];omega
 have hnum:=implNum_ev t (by omega)
 refine⟨numOf (bl t),R', b', ?_,h2,numOf_two _ htl,?_⟩
 ·refine Ev.congr (f:=fun k=>(z70_.f k t).bind fun t104=>some (t104,R', b')) (fun k=> ?_) (Ev.bind hnum (Ev.now _))
  simp only[z51_.f,h1,bS]
 ·rcases h4 with ⟨a,c,d,e⟩|⟨a,c⟩
  ·exact .inl ⟨a,c,by rw[d],e⟩
  ·exact .inr ⟨a,c⟩
def loopM:Nat→List UInt8→List S54→Option (List S54)
 | 0,R,acc=>if R=[]then some acc else none
 | n+1,R,acc=>if R.length < 4 then none else if R.length < 4+numOf (R.take 2)+numOf ((R.drop 2).take 2)then none else
   loopM n (R.drop (4+numOf (R.take 2)+numOf ((R.drop 2).take 2))) (acc ++ [⟨sm ((R.drop 4).take (numOf (R.take 2))),sm ((R.drop (4+numOf (R.take 2))).take (numOf ((R.drop 2).take 2)))⟩])
theorem loopM_len:∀(n:Nat) (R:List UInt8) (acc its:List S54),loopM n R acc=some its→its.length≤acc.length+n
 | 0,R,acc,its,h=>by
  unfold loopM at h
  split at h
  ·rw[Option.some.inj h];omega
  ·cases h
 | n+1,R,acc,its,h=>by
  unfold loopM at h
  split at h
  ·cases h
  ·split at h
   ·cases h
   ·have:=loopM_len n _ _ _ h
    rw[List.length_append]at this
    simp only[List.length_cons,List.length_nil]at this
    omega
/-- What is told of a mutation that was read so far. -/
def outM (kind uid mode flags:Int) (box:ByteArray) (o:Option (List S54)) (r:Int × Int × Int × Int × ByteArray × List S54 × Bool):Prop :=
 match o with
 | none=>r.2.2.2.2.2.2=false
 | some its=>r=(kind,uid,mode,flags,box,its,mutR kind uid mode flags box its)
theorem implM_bad (items x8:Int) (R:ByteArray) (kind uid mode flags:Int) (box:ByteArray) (acc:List S54):Ev (fun k=>z28_.l0 k items x8 R true kind uid mode flags box acc) (kind,uid,mode,flags,box,acc,false):=by
 refine Ev.step (f:=fun k=>z28_.j1 k items x8 false R true kind uid mode flags box acc) (fun k=> ?_) (Ev.step (f:=fun _=>some _) (fun k=> ?_) (Ev.now _))
 ·simp only[z28_.l0]
  split <;> rfl
 ·simp only[z28_.j1]
  rw[if_neg (by decide),if_pos trivial]
theorem implM_loop (items:Nat) (hit:items≤100000) (kind uid mode flags:Int) (box:ByteArray):∀(n x8:Nat) (R:ByteArray) (acc:List S54),x8+n=items→R.size≤1000000→acc.length+n≤1000 →
  ∃ r,Ev (fun k=>z28_.l0 k (items:Int) (x8:Int) R false kind uid mode flags box acc) r∧outM kind uid mode flags box (loopM n (bl R) acc) r:=by
 intro n
 induction n with
 | zero =>
  intro x8 R acc hx hR ha
  have hj:∀ {r},Ev (fun k=>z28_.j1 k (items:Int) (x8:Int) false R false kind uid mode flags box acc) r→Ev (fun k=>z28_.l0 k (items:Int) (x8:Int) R false kind uid mode flags box acc) r:=fun hr =>
   Ev.step (fun k=>by simp only[z28_.l0];rw[if_neg (by omega)]) hr
  by_cases hz:bl R=[]
  ·refine⟨_,hj (Ev.step (f:=fun k=>(z17_.f k kind uid mode flags box acc).bind fun t=>some (kind,uid,mode,flags,box,acc,t)) (fun k=> ?_) (Ev.bind (implMut_ev kind uid mode flags box acc) (Ev.now _))),?_⟩
   ·simp only[z28_.j1]
    rw[if_neg (by decide),if_neg (by decide),if_pos (by rw[toList_bl];exact hz)]
   ·unfold loopM
    rw[if_pos hz]
    exact rfl
  ·refine⟨_,hj (Ev.step (f:=fun k=>some (kind,uid,mode,flags,box,acc,false)) (fun k=> ?_) (Ev.now _)),?_⟩
   ·simp only[z28_.j1]
    rw[if_neg (by decide),if_neg (by decide),if_neg (by rw[toList_bl];exact hz)]
   ·unfold loopM
    rw[if_neg hz]
    exact rfl
 | succ n ih =>
  intro x8 R acc hx hR ha
  have hsz:=bl_size R
  obtain⟨k1,R1,b1,⟨K1,e1⟩,z1,v1,c1⟩:=num_step R false 2 (by omega)
  obtain⟨m1,R2,b2,⟨K2,e2⟩,z2,v2,c2⟩:=num_step R1 b1 2 (by omega)
  obtain⟨t1,R3,b3,e3,z3,y3,c3⟩:=text_step R2 b2 k1
  obtain⟨t2,R4,b4,e4,z4,y4,c4⟩:=text_step R3 b3 m1
  have hchain:∀ r,Ev (fun k=>z28_.l0 k (items:Int) ((x8+1:Nat):Int) R4 b4 kind uid mode flags box (acc ++ [⟨t1,t2⟩])) r→Ev (fun k=>z28_.l0 k (items:Int) (x8:Int) R false kind uid mode flags box acc) r:=by
   rintro r ⟨K,e⟩
   refine⟨K1+K2+K+2,fun k hk=> ?_⟩
   obtain⟨m,rfl⟩:∃ m,k=m+1+1:=⟨k - 2,by omega⟩
   have f1:z51_.f m R false 2=some ((k1:Int),R1,b1):=e1 m (by omega)
   have f2:z51_.f m R1 b1 2=some ((m1:Int),R2,b2):=e2 m (by omega)
   have f:=e m (by omega)
   simp only at f
   have hl0:z28_.l0 (m+1+1) (items:Int) (x8:Int) R false kind uid mode flags box acc=z28_.j1 (m+1) (items:Int) (x8:Int) true R false kind uid mode flags box acc:=by
    simp only[z28_.l0]
    rw[if_pos (by omega)]
    rfl
   refine hl0.trans ?_
   simp only[z28_.j1,f1,f2,e3,e4,bS]
   rw[if_pos trivial,if_pos (by omega),w64s x8 (by omega)]
   exact f
  have hbad:b4=true→loopM (n+1) (bl R) acc=none→∃ r,Ev (fun k=>z28_.l0 k (items:Int) (x8:Int) R false kind uid mode flags box acc) r∧outM kind uid mode flags box (loopM (n+1) (bl R) acc) r:=by
   intro hb hn
   subst hb
   rw[hn]
   exact⟨_,hchain _ (implM_bad _ _ _ _ _ _ _ _ _),rfl⟩
  have s4:b3=true→b4=true:=fun h=>by
   rcases c4 with ⟨⟨q,_⟩,_⟩|⟨_,q⟩
   ·rw[h]at q;cases q
   ·exact q
  have s3:b2=true→b4=true:=fun h=>by
   rcases c3 with ⟨⟨q,_⟩,_⟩|⟨_,q⟩
   ·rw[h]at q;cases q
   ·exact s4 q
  have s2:b1=true→b4=true:=fun h=>by
   rcases c2 with ⟨⟨q,_⟩,_⟩|⟨_,q⟩
   ·rw[h]at q;cases q
   ·exact s3 q
  rcases c1 with ⟨⟨_,g1⟩,q1,w1,d1⟩|⟨g1,q1⟩
  ·have hs1:=bl_size R1
   rw[d1,List.length_drop]at hs1
   rcases c2 with ⟨⟨_,g2⟩,q2,w2,d2⟩|⟨g2,q2⟩
   ·rw[d1]at w2 d2
    rw[List.drop_drop]at d2
    have hs2:=bl_size R2
    rw[d2,List.length_drop]at hs2
    rcases c3 with ⟨⟨_,g3⟩,q3,w3,d3⟩|⟨g3,q3⟩
    ·rw[d2]at w3 d3
     rw[List.drop_drop]at d3
     have hs3:=bl_size R3
     rw[d3,List.length_drop]at hs3
     rcases c4 with ⟨⟨_,g4⟩,q4,w4,d4⟩|⟨g4,q4⟩
     ·rw[d3]at w4 d4
      rw[List.drop_drop]at d4
      subst q4
      obtain⟨r,hr,ho⟩:=ih (x8+1) R4 (acc ++ [⟨t1,t2⟩]) (by omega) (by omega) (by rw[List.length_append];simp only[List.length_cons,List.length_nil];omega)
      refine⟨r,hchain r hr,?_⟩
      have et1:t1=sm (((bl R).drop 4).take k1):=bl_inj (by rw[bl_sm];exact w3)
      have et2:t2=sm (((bl R).drop (4+k1)).take m1):=bl_inj (by rw[bl_sm];exact w4)
      have ed:bl R4=(bl R).drop (4+k1+m1):=d4
      rw[et1,et2,ed,w1,w2]at ho
      unfold loopM
      rw[if_neg (by omega),if_neg (by rw[← w1,← w2];omega)]
      exact ho
     ·refine hbad q4 ?_
      have:¬ m1≤R3.size:=fun h=>g4 ⟨q3,h⟩
      unfold loopM
      rw[if_neg (by omega),if_pos (by rw[← w1,← w2];omega)]
    ·refine hbad (s4 q3) ?_
     have:¬ k1≤R2.size:=fun h=>g3 ⟨q2,h⟩
     unfold loopM
     rw[if_neg (by omega),if_pos (by rw[← w1,← w2];omega)]
   ·refine hbad (s3 q2) ?_
    have:¬ 2≤R1.size:=fun h=>g2 ⟨q1,h⟩
    unfold loopM
    rw[if_pos (by omega)]
  ·refine hbad (s2 q1) ?_
   have:¬ 2≤R.size:=fun h=>g1 ⟨rfl,h⟩
   unfold loopM
   rw[if_pos (by omega)]
theorem ext_at (s:ByteArray) (a n:Nat) (h:a+n≤s.size):bl (s.extract a (a+n))=((bl s).drop a).take n:=by
 rw[bl_extract]
 congr 1
 omega
theorem specM_loop (s:ByteArray) (hs:s.size≤65536) (kind uid mode flags:Int) (box:ByteArray):∀(n at_:Nat) (acc:List S54),at_≤s.size→acc.length+n≤1000 →
  ∃ r,Ev (fun k=>z34_.l0 k s (at_:Int) (n:Int) kind uid mode flags box acc) r∧outM kind uid mode flags box (loopM n ((bl s).drop at_) acc) r:=by
 have hsz:=bl_size s
 intro n
 induction n with
 | zero =>
  intro at_ acc ha hl
  by_cases h:at_=s.size
  ·refine⟨_,Ev.step (f:=fun k=>(z20_.f k kind uid mode flags box acc).bind fun t=>some (kind,uid,mode,flags,box,acc,t)) (fun k=> ?_) (Ev.bind (specMut_ev kind uid mode flags box acc) (Ev.now _)),?_⟩
   ·simp only[z34_.l0]
    rw[if_neg (by omega),if_pos (by omega)]
   ·unfold loopM
    rw[if_pos (List.drop_eq_nil_of_le (by omega))]
    exact rfl
  ·refine⟨_,Ev.step (f:=fun k=>some (kind,uid,mode,flags,box,acc,false)) (fun k=> ?_) (Ev.now _),?_⟩
   ·simp only[z34_.l0]
    rw[if_neg (by omega),if_neg (by omega)]
   ·unfold loopM
    rw[if_neg (fun q=>by have:=congrArg List.length q;rw[List.length_drop,List.length_nil]at this;omega)]
    exact rfl
 | succ n ih =>
  intro at_ acc ha hl
  have hdl:((bl s).drop at_).length=s.size - at_:=by rw[List.length_drop];omega
  have E4:Aside0 (wrap64 ((at_:Int)+4)=((at_+4:Nat):Int)):=⟨by rw[w64 (by omega) (by omega)];rfl⟩
  by_cases h4:at_+4 > s.size
  ·refine⟨_,Ev.step (f:=fun k=>some (0,0,0,0,(⟨#[]⟩:ByteArray),[],false)) (fun k=> ?_) (Ev.now _),?_⟩
   ·simp only[z34_.l0,E4.out]
    rw[if_pos (by omega),if_pos (by omega)]
   ·unfold loopM
    rw[if_pos (by omega)]
    exact rfl
  ·have E2:Aside0 (wrap64 ((at_:Int)+2)=((at_+2:Nat):Int)):=⟨by rw[w64 (by omega) (by omega)];rfl⟩
   have x1:=ext_at s at_ 2 (by omega)
   have x2:=ext_at s (at_+2) 2 (by omega)
   have l1:(((bl s).drop at_).take 2).length≤2:=by rw[List.length_take];omega
   have l2:(((bl s).drop (at_+2)).take 2).length≤2:=by rw[List.length_take];omega
   obtain⟨K1,n1⟩:=specNum_ev (s.extract at_ (at_+2)) (by rw[x1];omega)
   obtain⟨K2,n2⟩:=specNum_ev (s.extract (at_+2) (at_+2+2)) (by rw[x2];omega)
   rw[x1]at n1
   rw[x2]at n2
   have v1:=numOf_two _ l1
   have v2:=numOf_two _ l2
   have hd2:((bl s).drop at_).drop 2=(bl s).drop (at_+2):=List.drop_drop
   obtain⟨p,hp⟩:∃ p,numOf (((bl s).drop at_).take 2)=p:=⟨_,rfl⟩
   obtain⟨q,hq⟩:∃ q,numOf (((bl s).drop (at_+2)).take 2)=q:=⟨_,rfl⟩
   rw[hp]at n1 v1
   rw[hq]at n2 v2
   have E5:Aside0 (wrap64 (((at_+4:Nat):Int)+(p:Int))=((at_+4+p:Nat):Int)):=⟨w64add _ _ (by omega)⟩
   have E6:Aside0 (wrap64 (((at_+4+p:Nat):Int)+(q:Int))=((at_+4+p+q:Nat):Int)):=⟨w64add _ _ (by omega)⟩
   have E7:Aside0 (wrap64 ((p:Int)+(q:Int))=((p+q:Nat):Int)):=⟨w64add _ _ (by omega)⟩
   have E8:Aside0 (wrap64 (((at_+4:Nat):Int)+((p+q:Nat):Int))=((at_+4+p+q:Nat):Int)):=⟨by rw[w64add _ _ (by omega)];congr 1;omega⟩
   have E9:Aside0 (wrap64 ((((n+1:Nat)):Int) - 1)=(n:Int)):=⟨by rw[w64 (by omega) (by omega)];omega⟩
   by_cases hbig:at_+4+p+q > s.size
   ·refine⟨(0,0,0,0,(⟨#[]⟩:ByteArray),[],false),⟨K1+K2+1,fun k hk=> ?_⟩,?_⟩
    ·obtain⟨m,rfl⟩:∃ m,k=m+1:=⟨k - 1,by omega⟩
     have f1:=n1 m (by omega)
     have f2:=n2 m (by omega)
     simp only at f1 f2
     simp only[z34_.l0,E4.out,E2.out,Int.toNat_natCast,f1,f2,bS,E5.out,E6.out]
     rw[if_pos (by omega),if_neg (by omega),if_pos (by omega),if_pos (by omega),if_pos (by omega),if_pos (by omega),if_pos (by omega),if_pos (by omega),if_pos (by omega)]
    ·unfold loopM
     rw[if_neg (by omega),hd2,hp,hq,if_pos (by omega)]
     exact rfl
   ·have x3:=ext_at s (at_+4) p (by omega)
    have x4:=ext_at s (at_+4+p) q (by omega)
    have y3:s.extract (at_+4) (at_+4+p)=sm (((bl s).drop (at_+4)).take p):=bl_inj (by rw[bl_sm];exact x3)
    have y4:s.extract (at_+4+p) (at_+4+p+q)=sm (((bl s).drop (at_+4+p)).take q):=bl_inj (by rw[bl_sm];exact x4)
    obtain⟨r,⟨K,hr⟩,ho⟩:=ih (at_+4+p+q) (acc ++ [⟨sm (((bl s).drop (at_+4)).take p),sm (((bl s).drop (at_+4+p)).take q)⟩]) (by omega) (by rw[List.length_append];simp only[List.length_cons,List.length_nil];omega)
    refine⟨r,⟨K1+K2+K+1,fun k hk=> ?_⟩,?_⟩
    ·obtain⟨m,rfl⟩:∃ m,k=m+1:=⟨k - 1,by omega⟩
     have f1:=n1 m (by omega)
     have f2:=n2 m (by omega)
     have f:=hr m (by omega)
     simp only at f1 f2 f
     simp only[z34_.l0,E4.out,E2.out,Int.toNat_natCast,f1,f2,bS,E5.out,E6.out,E7.out,E8.out,E9.out,y3,y4]
     rw[if_pos (by omega),if_neg (by omega),if_pos (by omega),if_pos (by omega),if_pos (by omega),if_pos (by omega),if_pos (by omega),if_pos (by omega),if_neg (by omega),if_pos (by omega),if_pos (by omega),if_pos (by omega),if_pos (by omega),if_pos (by omega),if_pos (by omega),if_pos (by omega)]
     exact f
    ·unfold loopM
     have d1:((bl s).drop at_).drop 4=(bl s).drop (at_+4):=List.drop_drop
     have d2:((bl s).drop at_).drop (4+p)=(bl s).drop (at_+4+p):=by rw[List.drop_drop];congr 1;omega
     have d3:((bl s).drop at_).drop (4+p+q)=(bl s).drop (at_+4+p+q):=by rw[List.drop_drop];congr 1;omega
     rw[if_neg (by omega),hd2,hp,hq,if_neg (by omega),d1,d2,d3]
     exact ho
theorem numOf_one (b:UInt8):numOf [b]=b.toNat:=by simp[numOf]
theorem take_one (l:List UInt8) (i:Nat) (h:i < l.length):(l.drop i).take 1=[l[i]'h]:=by
 rw[List.drop_eq_getElem_cons h];rfl
/-- What both read: the head, then the items. -/
def headOK (T:List UInt8):Prop:=7≤T.length∧7+numOf ((T.drop 4).take 1)≤T.length
noncomputable def readR (T:List UInt8) (r:Int × Int × Int × Int × ByteArray × List S54 × Bool):Prop :=
 (headOK T→outM (numOf (T.take 1):Int) (numOf ((T.drop 5).take 2):Int) (numOf ((T.drop 1).take 1):Int) (numOf ((T.drop 2).take 1):Int) (sm ((T.drop 7).take (numOf ((T.drop 4).take 1)))) (loopM (numOf ((T.drop 3).take 1)) (T.drop (7+numOf ((T.drop 4).take 1))) []) r)∧(¬ headOK T→r.2.2.2.2.2.2=false)
theorem numOf_small (l:List UInt8) (h:l.length≤1):numOf l < 256:=by
 have h1:=numOf_lt l 0
 have h2:256 ^ l.length≤256 ^ 1:=Nat.pow_le_pow_right (by decide) h
 have h3:(256:Nat) ^ 1=256:=by decide
 unfold numOf
 omega
theorem specM_top (s:ByteArray) (hs:s.size≤65536):∃ r,Ev (fun k=>z34_.f k s) r∧readR (bl s) r:=by
 have hsz:=bl_size s
 have hbad:∀ {r},Ev (fun k=>z34_.j0 k s true) r→¬ headOK (bl s)→(∀ k,z34_.f k s=z34_.j0 k s true)→r.2.2.2.2.2.2=false→∃ r,Ev (fun k=>z34_.f k s) r∧readR (bl s) r:=fun hr hn hf h0 =>
  ⟨_,Ev.congr hf hr,fun q=>absurd q hn,fun _=>h0⟩
 have hj:Ev (fun k=>z34_.j0 k s true) (0,0,0,0,(⟨#[]⟩:ByteArray),[],false):=Ev.step (f:=fun k=>some _) (fun k=>by simp only[z34_.j0];exact if_pos trivial) (Ev.now _)
 by_cases h7:s.size < 7
 ·exact hbad hj (fun q=>by have:=q.1;omega) (fun k=>by simp only[z34_.f];exact if_pos (by omega)) rfl
 ·have hb:∀ i (h:i < (bl s).length),wrap64 (bt s (i:Int))=(((bl s)[i]'h).toNat:Int):=fun i h=>by
   have:=((bl s)[i]'h).toNat_lt
   rw[bt_eq s i h,w64n _ (by omega)]
  have b0:wrap64 (bt s 0)=_:=hb 0 (by omega)
  have b1:wrap64 (bt s 1)=_:=hb 1 (by omega)
  have b2:wrap64 (bt s 2)=_:=hb 2 (by omega)
  have b3:wrap64 (bt s 3)=_:=hb 3 (by omega)
  have b4:wrap64 (bt s 4)=_:=hb 4 (by omega)
  have t0:numOf ((bl s).take 1)=((bl s)[0]'(by omega)).toNat:=by
   have:=take_one (bl s) 0 (by omega)
   rw[List.drop_zero]at this
   rw[this,numOf_one]
  have t1:numOf (((bl s).drop 1).take 1)=((bl s)[1]'(by omega)).toNat:=by rw[take_one _ 1 (by omega),numOf_one]
  have t2:numOf (((bl s).drop 2).take 1)=((bl s)[2]'(by omega)).toNat:=by rw[take_one _ 2 (by omega),numOf_one]
  have t3:numOf (((bl s).drop 3).take 1)=((bl s)[3]'(by omega)).toNat:=by rw[take_one _ 3 (by omega),numOf_one]
  have t4:numOf (((bl s).drop 4).take 1)=((bl s)[4]'(by omega)).toNat:=by rw[take_one _ 4 (by omega),numOf_one]
  have l3:=((bl s)[3]'(by omega)).toNat_lt
  have l4:=((bl s)[4]'(by omega)).toNat_lt
  rw[← t0]at b0
  rw[← t1]at b1
  rw[← t2]at b2
  rw[← t3]at b3 l3
  rw[← t4]at b4 l4
  clear hb t0 t1 t2 t3 t4
  obtain⟨z,hz⟩:∃ z,numOf (((bl s).drop 4).take 1)=z:=⟨_,rfl⟩
  obtain⟨m,hm⟩:∃ m,numOf (((bl s).drop 3).take 1)=m:=⟨_,rfl⟩
  rw[hz]at b4 l4
  rw[hm]at b3 l3
  have B0:=Aside0.mk b0
  have B1:=Aside0.mk b1
  have B2:=Aside0.mk b2
  have B3:=Aside0.mk b3
  have B4:=Aside0.mk b4
  clear b0 b1 b2 b3 b4
  have E7:Aside0 (wrap64 (7+(z:Int))=((7+z:Nat):Int)):=⟨by rw[w64 (by omega) (by omega)];rfl⟩
  have hf:∀ k,z34_.f k s=z34_.j0 k s (decide ((s.size:Int) < ((7+z:Nat):Int))):=fun k=>by
   simp only[z34_.f,B4.out,E7.out]
   rw[if_neg (by omega),if_pos (by omega)]
  by_cases h8:s.size < 7+z
  ·exact hbad hj (fun q=>by have:=q.2;rw[hz]at this;omega) (fun k=>by rw[hf k,decide_eq_true (by omega)]) rfl
  ·have x1:=ext_at s 5 2 (by omega)
   obtain⟨K1,n1⟩:=specNum_ev (s.extract 5 7) (by show(bl (s.extract 5 (5+2))).length≤6;rw[x1,List.length_take];omega)
   have x1' : bl (s.extract 5 7)=((bl s).drop 5).take 2:=x1
   rw[x1']at n1
   have ebox:s.extract 7 (7+z)=sm (((bl s).drop 7).take z):=bl_inj (by rw[bl_sm];exact ext_at s 7 z (by omega))
   obtain⟨r,⟨K,hr⟩,ho⟩:=specM_loop s hs (numOf ((bl s).take 1):Int) (numOf (((bl s).drop 5).take 2):Int) (numOf (((bl s).drop 1).take 1):Int) (numOf (((bl s).drop 2).take 1):Int) (sm (((bl s).drop 7).take z)) m (7+z) [] (by omega) (by simp only[List.length_nil];omega)
   refine⟨r,⟨K1+K+1,fun k hk=> ?_⟩,fun _=> ?_,fun q=>absurd ?_ q⟩
   ·obtain⟨j,rfl⟩:∃ j,k=j+1:=⟨k - 1,by omega⟩
    have f1:=n1 j (by omega)
    have f:=hr j (by omega)
    simp only at f1 f
    refine(hf (j+1)).trans ?_
    rw[decide_eq_false (by omega)]
    simp only[z34_.j0,f1,bS,B0.out,B1.out,B2.out,B3.out,B4.out,E7.out,Int.toNat_natCast,ebox]
    rw[if_neg (by decide),if_pos (by omega),if_pos (by omega),if_pos (by omega),if_pos (by omega),if_pos (by omega),if_pos (by omega),if_pos (by omega),if_pos (by omega),if_pos (by omega)]
    exact f
   ·rw[hz,hm]
    exact ho
   ·exact⟨by omega,by rw[hz];omega⟩
theorem implM_top (s:ByteArray) (hs:s.size≤20000):∃ r,Ev (fun k=>z28_.f k s) r∧readR (bl s) r:=by
 have hsz:=bl_size s
 obtain⟨kind,R1,b1,⟨K1,e1⟩,z1,v1,c1⟩:=num_step s false 1 (by omega)
 obtain⟨mode,R2,b2,⟨K2,e2⟩,z2,v2,c2⟩:=num_step R1 b1 1 (by omega)
 obtain⟨flags,R3,b3,⟨K3,e3⟩,z3,v3,c3⟩:=num_step R2 b2 1 (by omega)
 obtain⟨items,R4,b4,⟨K4,e4⟩,z4,v4,c4⟩:=num_step R3 b3 1 (by omega)
 obtain⟨size,R5,b5,⟨K5,e5⟩,z5,v5,c5⟩:=num_step R4 b4 1 (by omega)
 obtain⟨uid,R6,b6,⟨K6,e6⟩,z6,v6,c6⟩:=num_step R5 b5 2 (by omega)
 obtain⟨box,R7,b7,e7,z7,y7,c7⟩:=text_step R6 b6 size
 have hchain:∀ r,Ev (fun k=>z28_.l0 k (items:Int) ((0:Nat):Int) R7 b7 (kind:Int) (uid:Int) (mode:Int) (flags:Int) box []) r→Ev (fun k=>z28_.f k s) r:=by
  rintro r ⟨K,e⟩
  refine⟨K1+K2+K3+K4+K5+K6+K,fun k hk=> ?_⟩
  have f1:z51_.f k s false 1=some ((kind:Int),R1,b1):=e1 k (by omega)
  have f2:z51_.f k R1 b1 1=some ((mode:Int),R2,b2):=e2 k (by omega)
  have f3:z51_.f k R2 b2 1=some ((flags:Int),R3,b3):=e3 k (by omega)
  have f4:z51_.f k R3 b3 1=some ((items:Int),R4,b4):=e4 k (by omega)
  have f5:z51_.f k R4 b4 1=some ((size:Int),R5,b5):=e5 k (by omega)
  have f6:z51_.f k R5 b5 2=some ((uid:Int),R6,b6):=e6 k (by omega)
  have f:=e k (by omega)
  simp only at f
  show z28_.f k s=some r
  simp only[z28_.f,f1,f2,f3,f4,f5,f6,e7,bS]
  rw[if_neg (by omega)]
  exact f
 have st:∀ {b b' : Bool} {p:Prop} {A:Prop},((b=false∧p)∧b' = false∧A∨¬(b=false∧p)∧b' = true)→b=true→b' = true:=by
  intro b b' p A h hb
  rcases h with ⟨⟨q,_⟩,_⟩|⟨_,q⟩
  ·rw[hb]at q;cases q
  ·exact q
 have hbad:b7=true→¬ headOK (bl s)→∃ r,Ev (fun k=>z28_.f k s) r∧readR (bl s) r:=by
  intro hb hn
  subst hb
  exact⟨_,hchain _ (implM_bad _ _ _ _ _ _ _ _ _),fun q=>absurd q hn,fun _=>rfl⟩
 have s6:b6=true→b7=true:=st c7
 have s5:b5=true→b7=true:=fun h=>s6 (st c6 h)
 have s4:b4=true→b7=true:=fun h=>s5 (st c5 h)
 have s3:b3=true→b7=true:=fun h=>s4 (st c4 h)
 have s2:b2=true→b7=true:=fun h=>s3 (st c3 h)
 have s1:b1=true→b7=true:=fun h=>s2 (st c2 h)
 rcases c1 with ⟨⟨_,g1⟩,q1,w1,d1⟩|⟨g1,q1⟩
 rotate_left 1
 ·exact hbad (s1 q1) fun q=>g1 ⟨rfl,by have:=q.1;omega⟩
 have hs1:=bl_size R1
 rw[d1,List.length_drop]at hs1
 rcases c2 with ⟨⟨_,g2⟩,q2,w2,d2⟩|⟨g2,q2⟩
 rotate_left 1
 ·exact hbad (s2 q2) fun q=>g2 ⟨q1,by have:=q.1;omega⟩
 rw[d1]at w2 d2
 rw[List.drop_drop]at d2
 have hs2:=bl_size R2
 rw[d2,List.length_drop]at hs2
 rcases c3 with ⟨⟨_,g3⟩,q3,w3,d3⟩|⟨g3,q3⟩
 rotate_left 1
 ·exact hbad (s3 q3) fun q=>g3 ⟨q2,by have:=q.1;omega⟩
 rw[d2]at w3 d3
 rw[List.drop_drop]at d3
 have hs3:=bl_size R3
 rw[d3,List.length_drop]at hs3
 rcases c4 with ⟨⟨_,g4⟩,q4,w4,d4⟩|⟨g4,q4⟩
 rotate_left 1
 ·exact hbad (s4 q4) fun q=>g4 ⟨q3,by have:=q.1;omega⟩
 rw[d3]at w4 d4
 rw[List.drop_drop]at d4
 have hs4:=bl_size R4
 rw[d4,List.length_drop]at hs4
 rcases c5 with ⟨⟨_,g5⟩,q5,w5,d5⟩|⟨g5,q5⟩
 rotate_left 1
 ·exact hbad (s5 q5) fun q=>g5 ⟨q4,by have:=q.1;omega⟩
 rw[d4]at w5 d5
 rw[List.drop_drop]at d5
 have hs5:=bl_size R5
 rw[d5,List.length_drop]at hs5
 rcases c6 with ⟨⟨_,g6⟩,q6,w6,d6⟩|⟨g6,q6⟩
 rotate_left 1
 ·exact hbad (s6 q6) fun q=>g6 ⟨q5,by have:=q.1;omega⟩
 rw[d5]at w6 d6
 rw[List.drop_drop]at d6
 have hs6:=bl_size R6
 rw[d6,List.length_drop]at hs6
 rcases c7 with ⟨⟨_,g7⟩,q7,w7,d7⟩|⟨g7,q7⟩
 rotate_left 1
 ·exact hbad q7 fun q=>g7 ⟨q6,by have:=q.2;rw[w5];have h4:1+1+1+1=4:=rfl;rw[h4];omega⟩
 subst q7
 rw[d6]at w7 d7
 rw[List.drop_drop]at d7
 have l4:(((bl s).drop (1+1+1)).take 1).length≤1:=by rw[List.length_take];omega
 have hit:=numOf_small _ l4
 rw[← w4]at hit
 obtain⟨r,hr,ho⟩:=implM_loop items (by omega) (kind:Int) (uid:Int) (mode:Int) (flags:Int) box items 0 R7 [] (by omega) (by omega) (by simp only[List.length_nil];omega)
 refine⟨r,hchain r hr,fun _=> ?_,fun q=>absurd ⟨by omega,?_⟩ q⟩
 ·have ebox:box=sm (((bl s).drop 7).take size):=bl_inj (by rw[bl_sm];exact w7)
  have ed:bl R7=(bl s).drop (7+size):=d7
  have k5:size=numOf (((bl s).drop 4).take 1):=w5
  have k4:items=numOf (((bl s).drop 3).take 1):=w4
  have k3:flags=numOf (((bl s).drop 2).take 1):=w3
  have k2:mode=numOf (((bl s).drop 1).take 1):=w2
  have k6:uid=numOf (((bl s).drop 5).take 2):=w6
  rw[← k5,← k4,← k3,← k2,← k6,← w1,← ebox,← ed]
  exact ho
 ·have k5:size=numOf (((bl s).drop 4).take 1):=w5
  rw[← k5]
  omega
/-- Both tell the same. -/
theorem readM_both (l:List Int) (hw:(strOfNums l).size=l.length) (hl:l.length≤1048576):∃ a b c d t its code,Ev (fun k=>z18_.f k l) (a,b,c,d,t,its,code)∧Ev (fun k=>z15_.f k l) (a,b,c,d,t,its,code)∧its.length≤1000:=by
 by_cases h1:(l.length:Int) > 65536
 ·exact⟨_,_,_,_,_,_,_,Ev.congr (f:=fun k=>some _) (fun k=>by simp only[z18_.f];exact if_pos h1) (Ev.now _),Ev.congr (f:=fun k=>some _) (fun k=>by simp only[z15_.f];exact if_pos h1) (Ev.now _),Nat.zero_le _⟩
 ·obtain⟨p,hp,hpr⟩:=specM_top (strOfNums l) (by omega)
  have hS:∀ r,Ev (fun k=>if p.2.2.2.2.2.2=true then(if(l.length:Int) > 20000 then(some (0,0,0,0,(⟨#[]⟩:ByteArray),([]:List S54),3))else(some (p.1,p.2.1,p.2.2.1,p.2.2.2.1,p.2.2.2.2.1,p.2.2.2.2.2.1,0)))else(some (0,0,0,0,(⟨#[]⟩:ByteArray),([]:List S54),3))) r→Ev (fun k=>z18_.f k l) r:=by
   rintro r ⟨K,h⟩
   obtain⟨K2,hp⟩:=hp
   refine⟨K+K2,fun k hk=> ?_⟩
   have f1:=hp k (by omega)
   have f2:=h k (by omega)
   simp only at f1 f2
   simp only[z18_.f,f1,bS]
   rw[if_neg h1]
   exact f2
  have hI:∀ q r,Ev (fun k=>z28_.f k (strOfNums l)) q→(if q.2.2.2.2.2.2=true then(some (q.1,q.2.1,q.2.2.1,q.2.2.2.1,q.2.2.2.2.1,q.2.2.2.2.2.1,0))else(some (0,0,0,0,(⟨#[]⟩:ByteArray),([]:List S54),3)))=some r→Ev (fun k=>z15_.f k l) r:=by
   rintro q r ⟨K,h⟩ e
   refine⟨K,fun k hk=> ?_⟩
   have f1:=h k (by omega)
   simp only at f1
   simp only[z15_.f,f1,bS]
   rw[if_neg h1]
   exact e
  by_cases h2:(l.length:Int) > 20000
  ·refine⟨0,0,0,0,(⟨#[]⟩:ByteArray),[],3,hS _ (Ev.congr (f:=fun k=>some _) (fun k=> ?_) (Ev.now _)),hI (0,0,0,0,(⟨#[]⟩:ByteArray),[],false) _ (Ev.congr (f:=fun k=>some _) (fun k=> ?_) (Ev.now _)) (if_neg (fun h=>by cases h)),Nat.zero_le _⟩
   ·rw[if_pos h2]
    split <;> rfl
   ·simp only[z28_.f];exact if_pos (by omega)
  ·obtain⟨q,hq,hqr⟩:=implM_top (strOfNums l) (by omega)
   have hno:p.2.2.2.2.2.2=false→q.2.2.2.2.2.2=false→∃ a b c d t its code,Ev (fun k=>z18_.f k l) (a,b,c,d,t,its,code)∧Ev (fun k=>z15_.f k l) (a,b,c,d,t,its,code)∧its.length≤1000:=by
    intro f1 f2
    refine⟨0,0,0,0,(⟨#[]⟩:ByteArray),[],3,hS _ (Ev.congr (f:=fun k=>some _) (fun k=> ?_) (Ev.now _)),hI q _ hq (if_neg (fun h=>by rw[f2]at h;cases h)),Nat.zero_le _⟩
    exact if_neg (fun h=>by rw[f1]at h;cases h)
   by_cases hh:headOK (bl (strOfNums l))
   ·have o1:=hpr.1 hh
    have o2:=hqr.1 hh
    have hi3:(((bl (strOfNums l)).drop 3).take 1).length≤1:=by rw[List.length_take];omega
    have hi:=numOf_small _ hi3
    cases hlo:loopM (numOf (((bl (strOfNums l)).drop 3).take 1)) ((bl (strOfNums l)).drop (7+numOf (((bl (strOfNums l)).drop 4).take 1))) []with
    | none =>
     rw[hlo]at o1 o2
     exact hno o1 o2
    | some its =>
     rw[hlo]at o1 o2
     have hlen:=loopM_len _ _ _ _ hlo
     have hpq:p=q:=Eq.trans o1 (Eq.symm o2)
     subst hpq
     cases hb:p.2.2.2.2.2.2 with
     | false=>exact hno hb hb
     | true =>
      refine⟨p.1,p.2.1,p.2.2.1,p.2.2.2.1,p.2.2.2.2.1,p.2.2.2.2.2.1,0,?_,?_,?_⟩
      ·refine hS _ (Ev.congr (f:=fun k=>some _) (fun k=> ?_) (Ev.now _))
       rw[if_pos hb,if_neg h2]
      ·exact hI p _ hq (if_pos hb)
      ·have:p.2.2.2.2.2.1=its:=by rw[show p=_ from o1]
       rw[this]
       simp only[List.length_nil]at hlen
       omega
   ·exact hno (hpr.2 hh) (hqr.2 hh)
end Go.Proofs.Ytbjefkeogbophaa.P
/- Lemmas of mine: a mutation's bytes are read back, and what is read has the bytes it was read from. Plain. -/
set_option linter.unusedVariables false
set_option linter.unusedSimpArgs false
namespace Go.Proofs.Ytbjefkeogbophaa.P
open Go.RowKit Go.Proofs.YtbjefkeogbophaaW.PrintWords
theorem numOf_pair (x y:UInt8):numOf [x,y]=x.toNat*256+y.toNat:=by
 show(0*256+x.toNat)*256+y.toNat=_
 omega
theorem numOf_bem (n:Nat) (h:n < 65536):numOf (bem n)=n:=by
 unfold bem
 rw[numOf_pair,UInt8.toNat_ofNat_of_lt' (by show n / 256 < 256;omega),UInt8.toNat_ofNat']
 show n / 256*256+n % 256=n
 omega
theorem u8_eq (x:UInt8) (n:Nat) (h:x.toNat=n % 256):UInt8.ofNat n=x:=by
 apply UInt8.toNat_inj.1
 rw[UInt8.toNat_ofNat', h]
theorem bem_numOf (x y:UInt8):bem (numOf [x,y])=[x,y]:=by
 have hx:=x.toNat_lt
 have hy:=y.toNat_lt
 rw[numOf_pair]
 unfold bem
 rw[u8_eq x _ (by omega),u8_eq y _ (by omega)]
theorem hbM_nat (b:UInt8):hbM (b.toNat:Int)=b:=by
 have hb:=b.toNat_lt
 unfold hbM
 exact u8_eq b _ (by omega)
theorem toNat_hbM (n:Int) (h0:0≤n) (h1:n < 256):((hbM n).toNat:Int)=n:=by
 rw[hbM_val]
 omega
def itemL (x:S54):List UInt8:=bem x.f0.size ++ bem x.f1.size ++ bl x.f0 ++ bl x.f1
theorem itemL_eq (x:S54):(itemM x).data.toList=itemL x:=bl_itemM x
theorem sm_bl (s:ByteArray):sm (bl s)=s:=bl_inj (bl_sm _)
theorem loopM_round:∀(its acc:List S54),(∀ x ∈ its,x.f0.size < 65536∧x.f1.size < 65536)→loopM its.length (its.flatMap itemL) acc=some (acc ++ its)
 | [],acc,_=>by
  show(if([]:List UInt8)=[]then some acc else none)=_
  rw[if_pos rfl,List.append_nil]
 | x :: its,acc,h=>by
  have hx:=h x List.mem_cons_self
  have h0:=bl_size x.f0
  have h1:=bl_size x.f1
  obtain⟨rest,hrest⟩:∃ rest,its.flatMap itemL=rest:=⟨_,rfl⟩
  have e:(x :: its).flatMap itemL=bem x.f0.size ++ (bem x.f1.size ++ (bl x.f0 ++ (bl x.f1 ++ rest))):=by
   rw[List.flatMap_cons,hrest]
   unfold itemL
   simp only[List.append_assoc]
  have t1:((x :: its).flatMap itemL).take 2=bem x.f0.size:=by rw[e];exact List.take_left' rfl
  have d1:((x :: its).flatMap itemL).drop 2=bem x.f1.size ++ (bl x.f0 ++ (bl x.f1 ++ rest)):=by rw[e];exact List.drop_left' rfl
  have t2:(((x :: its).flatMap itemL).drop 2).take 2=bem x.f1.size:=by rw[d1];exact List.take_left' rfl
  have d2:((x :: its).flatMap itemL).drop 4=bl x.f0 ++ (bl x.f1 ++ rest):=by
   rw[show(4:Nat)=2+2 from rfl,← List.drop_drop,d1];exact List.drop_left' rfl
  have t3:(((x :: its).flatMap itemL).drop 4).take x.f0.size=bl x.f0:=by rw[d2];exact List.take_left' h0.symm
  have d3:((x :: its).flatMap itemL).drop (4+x.f0.size)=bl x.f1 ++ rest:=by
   rw[← List.drop_drop,d2];exact List.drop_left' h0.symm
  have t4:(((x :: its).flatMap itemL).drop (4+x.f0.size)).take x.f1.size=bl x.f1:=by rw[d3];exact List.take_left' h1.symm
  have d4:((x :: its).flatMap itemL).drop (4+x.f0.size+x.f1.size)=rest:=by
   rw[← List.drop_drop,d3];exact List.drop_left' h1.symm
  have hl:((x :: its).flatMap itemL).length=4+x.f0.size+x.f1.size+rest.length:=by
   rw[e];simp only[List.length_append,bem_length];omega
  show loopM (its.length+1) _ _=_
  unfold loopM
  rw[t1,t2,numOf_bem _ hx.1,numOf_bem _ hx.2,if_neg (by omega),if_neg (by omega),t3,t4,d4,sm_bl,sm_bl,← hrest,loopM_round its _ fun y hy=>h y (List.mem_cons_of_mem _ hy)]
  rw[List.append_assoc]
  rfl
theorem two_of (l:List UInt8) (h:2≤l.length):∃ x y,l.take 2=[x,y]∧l=x :: y :: l.drop 2:=by
 match l,h with
 | x :: y :: l,_=>exact⟨x,y,rfl,rfl⟩
theorem loopM_inv:∀(n:Nat) (R:List UInt8) (acc its:List S54),loopM n R acc=some its→∃ mine,its=acc ++ mine∧mine.length=n∧R=mine.flatMap itemL
 | 0,R,acc,its,h=>by
  unfold loopM at h
  split at h
  ·rename_i hR
   exact⟨[],by rw[List.append_nil,Option.some.inj h],rfl,hR⟩
  ·cases h
 | n+1,R,acc,its,h=>by
  unfold loopM at h
  split at h
  ·cases h
  ·rename_i h4
   obtain⟨x,y,e1,f1⟩:=two_of R (by omega)
   obtain⟨z,w,e2,f2⟩:=two_of (R.drop 2) (by rw[List.length_drop];omega)
   rw[e1,e2]at h
   obtain⟨p,hp⟩:∃ p,numOf [x,y]=p:=⟨_,rfl⟩
   obtain⟨q,hq⟩:∃ q,numOf [z,w]=q:=⟨_,rfl⟩
   rw[hp,hq]at h
   split at h
   ·cases h
   ·rename_i h5
    obtain⟨mine,m1,m2,m3⟩:=loopM_inv n _ _ _ h
    refine⟨⟨sm ((R.drop 4).take p),sm ((R.drop (4+p)).take q)⟩ :: mine,by rw[m1,List.append_assoc];rfl,by rw[List.length_cons,m2],?_⟩
    rw[List.flatMap_cons,← m3]
    have s1:(sm ((R.drop 4).take p)).size=p:=by rw[sm_size,List.length_take,List.length_drop];omega
    have s2:(sm ((R.drop (4+p)).take q)).size=q:=by rw[sm_size,List.length_take,List.length_drop];omega
    unfold itemL
    simp only
    rw[s1,s2,bl_sm,bl_sm,← hp,← hq,bem_numOf,bem_numOf,hp,hq]
    have g1:R.drop 4=(R.drop 4).take p ++ R.drop (4+p):=by rw[← List.drop_drop,List.take_append_drop]
    have g2:R.drop (4+p)=(R.drop (4+p)).take q ++ R.drop (4+p+q):=by have:=(List.take_append_drop q (R.drop (4+p))).symm;rwa [List.drop_drop]at this
    have g3:(R.drop 2).drop 2=R.drop 4:=List.drop_drop
    rw[g3]at f2
    simp only[List.append_assoc]
    rw[← g2,← g1]
    exact f1.trans (by rw[f2];rfl)
theorem totL (kind mode flags:Int) (uid:Nat) (box:ByteArray) (its:List S54):totM kind (uid:Int) mode flags box its=hbM kind :: hbM mode :: hbM flags :: hbM its.length :: hbM box.size :: (bem uid ++ (bl box ++ its.flatMap itemL)):=by
 unfold totM
 have hbx:(b2M (uid:Int) ++ box).data.toList=bem uid ++ bl box:=by
  show bl _=_
  rw[bl_append,bl_b2M]
 rw[hbx]
 have:(its.flatMap fun x=>(itemM x).data.toList)=its.flatMap itemL:=by
  congr 1
  funext x
  exact itemL_eq x
 rw[this]
 simp only[List.append_assoc,List.cons_append,List.nil_append]
theorem mutR_more {kind uid mode flags:Int} {box:ByteArray} {its:List S54} (h:mutR kind uid mode flags box its=true) :
  (0≤kind∧kind < 256)∧(0≤mode∧mode < 256)∧(0≤flags∧flags < 256):=by
 unfold mutR at h
 simp only[Bool.and_eq_true,decide_eq_true_eq]at h
 obtain⟨_,h4⟩:=h
 unfold mutKind at h4
 repeat' split at h4
 all_goals (try simp only[decide_eq_true_eq]at h4)
 all_goals (first|omega|cases h4)
/-- A mutation is read back. -/
theorem read_of_tot (kind uid mode flags:Int) (box:ByteArray) (its:List S54) (h:mutR kind uid mode flags box its=true) (r:Int × Int × Int × Int × ByteArray × List S54 × Bool) (hr:readR (totM kind uid mode flags box its) r) :
  r=(kind,uid,mode,flags,box,its,true):=by
 obtain⟨hu,hb,hn,hi⟩:=mutR_parts h
 obtain⟨hk,hm,hf⟩:=mutR_more h
 obtain⟨u,rfl⟩:∃ u:Nat,uid=(u:Int):=⟨uid.toNat,(Int.toNat_of_nonneg hu.1).symm⟩
 have n0:=toNat_hbM kind hk.1 hk.2
 have n1:=toNat_hbM mode hm.1 hm.2
 have n2:=toNat_hbM flags hf.1 hf.2
 have n3:=toNat_hbM (its.length:Int) (by omega) (by omega)
 have n4:=toNat_hbM (box.size:Int) (by omega) (by omega)
 have hsz:=bl_size box
 rw[totL]at hr
 unfold readR at hr
 have e5:∀ T:List UInt8,T=hbM kind :: hbM mode :: hbM flags :: hbM its.length :: hbM box.size :: (bem u ++ (bl box ++ its.flatMap itemL)) →
   T.take 1=[hbM kind]∧(T.drop 1).take 1=[hbM mode]∧(T.drop 2).take 1=[hbM flags]∧(T.drop 3).take 1=[hbM its.length]∧(T.drop 4).take 1=[hbM box.size]∧(T.drop 5).take 2=bem u∧T.drop 7=bl box ++ its.flatMap itemL∧T.length=7+box.size+(its.flatMap itemL).length:=by
  rintro _ rfl
  refine⟨rfl,rfl,rfl,rfl,rfl,rfl,rfl,?_⟩
  simp only[List.length_cons,List.length_append,bem_length]
  omega
 obtain⟨T,hT⟩:∃ T,hbM kind :: hbM mode :: hbM flags :: hbM its.length :: hbM box.size :: (bem u ++ (bl box ++ its.flatMap itemL))=T:=⟨_,rfl⟩
 obtain⟨a0,a1,a2,a3,a4,a5,a6,a7⟩:=e5 T hT.symm
 rw[hT]at hr
 have ho:=hr.1 ⟨by omega,by rw[a4,numOf_one];omega⟩
 have z4:(hbM (box.size:Int)).toNat=box.size:=by omega
 have z3:(hbM (its.length:Int)).toNat=its.length:=by omega
 have d7:T.drop (7+box.size)=its.flatMap itemL:=by rw[← List.drop_drop,a6];exact List.drop_left' hsz.symm
 have t7:(T.drop 7).take box.size=bl box:=by rw[a6];exact List.take_left' hsz.symm
 rw[a0,a1,a2,a3,a4,a5,numOf_one,numOf_one,numOf_one,numOf_one,numOf_one,numOf_bem u (by omega),n0,n1,n2,z3,z4,t7,d7,sm_bl,loopM_round its [] fun x hx=>by have:=hi x hx;omega,List.nil_append]at ho
 have ho2:r=(kind,(u:Int),mode,flags,box,its,mutR kind (u:Int) mode flags box its):=ho
 rw[ho2,h]
theorem seven (T:List UInt8) (h:7≤T.length):∃ a b c d e f g R,T=a :: b :: c :: d :: e :: f :: g :: R:=by
 match T,h with
 | a :: b :: c :: d :: e :: f :: g :: R,_=>exact⟨a,b,c,d,e,f,g,R,rfl⟩
/-- What was read has just these bytes. -/
theorem tot_of_read (T:List UInt8) (r:Int × Int × Int × Int × ByteArray × List S54 × Bool) (hr:readR T r) (ht:r.2.2.2.2.2.2=true) :
  mutR r.1 r.2.1 r.2.2.1 r.2.2.2.1 r.2.2.2.2.1 r.2.2.2.2.2.1=true∧totM r.1 r.2.1 r.2.2.1 r.2.2.2.1 r.2.2.2.2.1 r.2.2.2.2.2.1=T:=by
 by_cases hh:headOK T
 ·have ho:=hr.1 hh
  obtain⟨a,b,c,d,e,f,g,R,rfl⟩:=seven T hh.1
  have h2:7+numOf [e]≤R.length+7:=hh.2
  have ho1:outM (numOf [a]:Int) (numOf [f,g]:Int) (numOf [b]:Int) (numOf [c]:Int) (sm (R.take (numOf [e]))) (loopM (numOf [d]) ((a :: b :: c :: d :: e :: f :: g :: R).drop (7+numOf [e])) []) r:=ho
  have hd:(a :: b :: c :: d :: e :: f :: g :: R).drop (7+numOf [e])=R.drop (numOf [e]):=by rw[← List.drop_drop];rfl
  rw[hd]at ho1
  rw[numOf_one]at h2
  simp only[numOf_one]at ho1
  clear ho hr hh
  cases hl:loopM d.toNat (R.drop e.toNat) []with
  | none =>
   rw[hl]at ho1
   have:r.2.2.2.2.2.2=false:=ho1
   rw[this]at ht
   cases ht
  | some its =>
   rw[hl]at ho1
   have ho2:r=((a.toNat:Int),(numOf [f,g]:Int),(b.toNat:Int),(c.toNat:Int),sm (R.take e.toNat),its,mutR (a.toNat:Int) (numOf [f,g]:Int) (b.toNat:Int) (c.toNat:Int) (sm (R.take e.toNat)) its):=ho1
   obtain⟨mine,m1,m2,m3⟩:=loopM_inv _ _ _ _ hl
   rw[List.nil_append]at m1
   subst m1
   subst ho2
   refine⟨ht,?_⟩
   show totM (a.toNat:Int) (numOf [f,g]:Int) (b.toNat:Int) (c.toNat:Int) (sm (R.take e.toNat)) its=_
   have hs:(sm (R.take e.toNat)).size=e.toNat:=by rw[sm_size,List.length_take];omega
   rw[totL,hs,m2,bl_sm,bem_numOf,← m3,List.take_append_drop,hbM_nat,hbM_nat,hbM_nat,hbM_nat,hbM_nat]
   rfl
 ·have:=hr.2 hh
  rw[this]at ht
  cases ht
theorem mutBytes_ok (kind uid mode flags:Int) (box:ByteArray) (its:List S54) (hm:mutR kind uid mode flags box its=true) (hg:(totM kind uid mode flags box its).length≤20000) :
  Ev (fun k=>z6_.f k kind uid mode flags box its) (nb (totM kind uid mode flags box its),0)∧Ev (fun k=>z8_.f k kind uid mode flags box its) (nb (totM kind uid mode flags box its),0):=by
 obtain⟨K1,h1⟩:=specMut_ev kind uid mode flags box its
 obtain⟨K2,h2⟩:=implMut_ev kind uid mode flags box its
 obtain⟨hu,hb,hn,hi⟩:=mutR_parts hm
 rw[hm]at h1 h2
 obtain⟨u,rfl⟩:∃ u:Nat,uid=(u:Int):=⟨uid.toNat,(Int.toNat_of_nonneg hu.1).symm⟩
 obtain⟨K3,h3⟩:=specB_ev kind mode flags u box its hi hn hb
 have hc:condM (u:Int) box its:=⟨⟨by omega,by omega⟩,by omega,by omega,List.all_eq_true.2 fun x hx=>by
  have:=hi x hx
  simp only[Bool.and_eq_true,decide_eq_true_eq]
  omega⟩
 have h4:z23_.f kind (u:Int) mode flags box its=some ⟨(totM kind u mode flags box its).toArray⟩:=if_pos hc
 have hsz:(⟨(totM kind u mode flags box its).toArray⟩:ByteArray).size=(totM kind u mode flags box its).length:=by rw[bl_size,bl_mk]
 have hnl:=nb_length (totM kind u mode flags box its)
 generalize totM kind (u:Int) mode flags box its=T at h3 h4 hg hsz hnl
 refine⟨⟨K1+K3,fun k hk=> ?_⟩,⟨K2,fun k hk=> ?_⟩⟩
 ·simp only[z6_.f,h1 k (by omega),h3 k (by omega),bS,if_true]
  rw[if_neg (by omega)]
 ·simp only[z8_.f,h2 k (by omega),h4,bS,if_true]
  rw[if_neg (by omega),if_pos (by omega),bytesOf_bl,bl_mk]
/-- What the program reads of bytes. -/
theorem readI_ev (l:List Int) (hw:(strOfNums l).size=l.length) (hl:l.length≤20000):∃ q:Int × Int × Int × Int × ByteArray × List S54 × Bool,readR (bl (strOfNums l)) q ∧
  Ev (fun k=>z15_.f k l) (if q.2.2.2.2.2.2=true then(q.1,q.2.1,q.2.2.1,q.2.2.2.1,q.2.2.2.2.1,q.2.2.2.2.2.1,0)else(0,0,0,0,(⟨#[]⟩:ByteArray),([]:List S54),3)):=by
 obtain⟨q,⟨K,h⟩,hq⟩:=implM_top (strOfNums l) (by omega)
 refine⟨q,hq,⟨K,fun k hk=> ?_⟩⟩
 have f1:=h k (by omega)
 simp only at f1
 simp only[z15_.f,f1,bS]
 rw[if_neg (by omega)]
 split <;> rfl
theorem readI_long (l:List Int) (hw:(strOfNums l).size=l.length) (hl:20000 < l.length):∃ c:Int,c≠0∧Ev (fun k=>z15_.f k l) (0,0,0,0,(⟨#[]⟩:ByteArray),([]:List S54),c):=by
 by_cases h1:(l.length:Int) > 65536
 ·exact⟨2,by decide,Ev.congr (f:=fun k=>some _) (fun k=>by simp only[z15_.f];exact if_pos h1) (Ev.now _)⟩
 ·refine⟨3,by decide,Ev.congr (f:=fun k=>some _) (fun k=> ?_) (Ev.now _)⟩
  have f1:z28_.f k (strOfNums l)=some (0,0,0,0,(⟨#[]⟩:ByteArray),([]:List S54),false):=by simp only[z28_.f];exact if_pos (by omega)
  simp only[z15_.f,f1,bS]
  rw[if_neg h1]
  rfl
end Go.Proofs.Ytbjefkeogbophaa.P
/- Lemmas of mine: a drawn mutation. Plain. -/
set_option linter.unusedVariables false
set_option linter.unusedSimpArgs false
namespace Go.Proofs.Ytbjefkeogbophaa.P
open Go.RowKit Go.Proofs.YtbjefkeogbophaaW.PrintWords
def boxesL:List ByteArray:=[(⟨#[110,101,119,115]⟩:ByteArray),(⟨#[98,108,111,103]⟩:ByteArray),(⟨#[119,111,114,107]⟩:ByteArray),(⟨#[111,116,104,101,114]⟩:ByteArray)]
theorem boxes_ok (x:ByteArray) (h:x ∈ boxesL):nameR (bl x)=true∧x.size≤5:=by
 have:(boxesL.all fun x=>nameR (bl x) && decide (x.size≤5))=true:=by decide +kernel
 have:=List.all_eq_true.1 this x h
 simpa using this
theorem boxName_ok {l:List Int} {a s B:Int} (h:Src l a s B) (hB:B≤4611686018427387000):∃ r a' s', z46_.f l a s=some (r,a', s')∧Src l a' s' (B+3)∧r ∈ boxesL:=by
 obtain⟨r,a', s', e,h', m⟩:=pick_ok boxesL h (by omega)
 refine⟨r,a', s', ?_,h', m.resolve_right (fun q=>by cases q.1)⟩
 unfold boxesL at e
 simp only[z46_.f,e,bS]
/-- The drawn items. -/
theorem drawn_items {l:List Int} (box:ByteArray) (hb:box.size≤40):∀(n:Nat) (a s B:Int) (acc:List S54),Src l a s B→B+100*n≤4611686018427380000→acc.length+n≤20→acc.all itemR=true →
  ∃(its:List S54) (a' s' : Int),Ev (fun k=>z27_.l0 k (n:Int) l a s 2 0 0 0 box acc) (2,0,0,0,box,its,a', s')∧its.all itemR=true∧its.length=acc.length+n∧Src l a' s' (B+100*n):=by
 intro n
 induction n with
 | zero =>
  intro a s B acc hS hB hl ha
  refine⟨acc,a,s,Ev.step (f:=fun _=>some _) (fun k=> ?_) (Ev.now _),ha,rfl,hS.grow (by omega)⟩
  simp only[z27_.l0]
  rw[if_neg (by omega)]
 | succ n ih =>
  intro a s B acc hS hB hl ha
  obtain⟨id,ti,li,au,d,co,a1,s1,e1,h1,m1,m2,m3,m4,m5,m6⟩:=entry_ok hS (by omega)
  obtain⟨r,a2,s2,e2,h2,c2,d2⟩:=next_ok 3 h1 (by omega)
  have d2:=d2 (by omega)
  obtain⟨j,rfl⟩:∃ j:Nat,r=(j:Int):=⟨r.toNat,(Int.toNat_of_nonneg c2).symm⟩
  obtain⟨K1,e3⟩:=digits_ev j (by omega)
  have z3:=decDigits_len j
  obtain⟨t,⟨K2,e4⟩,z4⟩:=render_ev id ti li au co box d m1 m2 m3 m4 m5 hb m6
  have zi:=id_size id m1
  obtain⟨its,a', s', ⟨K3,e5⟩,g1,g2,g3⟩:=ih a2 s2 (B+24+3) (acc ++ [⟨id ++ mkT (Lib.decDigits j),t⟩]) h2 (by omega) (by rw[List.length_append];simp only[List.length_cons,List.length_nil];omega) (by
   rw[List.all_append,ha,Bool.true_and,List.all_cons,List.all_nil,Bool.and_true]
   unfold itemR
   rw[decide_eq_true_eq]
   simp only[ByteArray.size_append,mkT_size]
   omega)
  refine⟨its,a', s', ⟨K1+K2+K3+1,fun k hk=> ?_⟩,g1,by rw[g2,List.length_append];simp only[List.length_cons,List.length_nil];omega,g3.grow (by omega)⟩
  obtain⟨m,rfl⟩:∃ m,k=m+1:=⟨k - 1,by omega⟩
  have f3:=e3 m (by omega)
  have f4:=e4 m (by omega)
  have f5:=e5 m (by omega)
  simp only at f3 f4 f5
  have wz:wrap64 ((((n+1:Nat)):Int) - 1)=(n:Int):=by rw[w64 (by omega) (by omega)];omega
  simp only[z27_.l0,e1,e2,bS,f3,f4,wz,mkT_size]
  rw[if_pos (by omega),if_pos (by omega),if_pos (by omega)]
  exact f5
theorem mutR_of {kind uid mode flags:Int} {box:ByteArray} {its:List S54} (hb:box ∈ boxesL) (hn:its.length≤20) (hi:its.all itemR=true) (hk:mutKind kind uid mode flags its.length=true):mutR kind uid mode flags box its=true:=by
 unfold mutR
 rw[(boxes_ok box hb).1,hi,hk,decide_eq_true hn]
 rfl
/-- A drawn mutation is right and small. -/
theorem drawn_mut {l:List Int} {a s B:Int} (h:Src l a s B) (hB:B≤4611686018427370000):∃(kind uid mode flags:Int) (box:ByteArray) (its:List S54) (a' s' : Int),
  Ev (fun k=>z27_.f k l a s) (kind,uid,mode,flags,box,its,a', s')∧mutR kind uid mode flags box its=true∧its.length≤3∧Src l a' s' (B+1000):=by
 obtain⟨b1,a1,s1,e1,h1,m1⟩:=boxName_ok h (by omega)
 obtain⟨r2,a2,s2,e2,h2,c2,d2⟩:=next_ok 6 h1 (by omega)
 obtain⟨r3,a3,s3,e3,h3,c3,d3⟩:=next_ok 3 h2 (by omega)
 obtain⟨r4,a4,s4,e4,h4,c4,d4⟩:=next_ok 32 h3 (by omega)
 obtain⟨r5,a5,s5,e5,h5,c5,d5⟩:=next_ok 6 h4 (by omega)
 obtain⟨b6,a6,s6,e6,h6,m6⟩:=boxName_ok h5 (by omega)
 have d2:=d2 (by omega)
 have d3:=d3 (by omega)
 have d4:=d4 (by omega)
 have d5:=d5 (by omega)
 have w1:wrap64 (1+r2)=1+r2:=w64 (by omega) (by omega)
 have w2:wrap64 (1+r3)=1+r3:=w64 (by omega) (by omega)
 have W1:=Aside0.mk w1
 have W2:=Aside0.mk w2
 clear w1 w2
 have j0:∀ k b,z27_.j0 (k+1) r5 b l a5 s5 3 (wrap64 (1+r2)) (wrap64 (1+r3)) r4 b1 []=if b=true then(z27_.j0 (k+1) r5 true l a5 s5 3 (1+r2) (1+r3) r4 b1 [])else(if r5=3 then some (4,0,0,0,b6,[],a6,s6)else some (3,1+r2,1+r3,r4,b1,[],a5,s5)):=by
  intro k b
  cases b with
  | true=>rw[W1.out,W2.out,if_pos rfl]
  | false=>simp only[z27_.j0,W1.out,W2.out,e6,bS,Bool.false_eq_true,if_false]
 have f0:∀ k,z27_.f k l a s=if r5=0 then some (1,0,0,0,b6,[],a6,s6)else(if r5=1 then(z27_.j0 k r5 (r5 == 1) l a5 s5 3 (wrap64 (1+r2)) (wrap64 (1+r3)) r4 b1 [])else(z27_.j0 k r5 (r5 == 2) l a5 s5 3 (wrap64 (1+r2)) (wrap64 (1+r3)) r4 b1 [])):=by
  intro k
  simp only[z27_.f,e1,e2,e3,e4,e5,e6,bS]
 by_cases q0:r5=0
 ·refine⟨1,0,0,0,b6,[],a6,s6,Ev.congr (f:=fun k=>some _) (fun k=>by rw[f0 k,if_pos q0]) (Ev.now _),mutR_of m6 (by simp) rfl rfl,by simp,h6.grow (by omega)⟩
 ·by_cases q12:r5=1∨r5=2
  ·obtain⟨r7,a7,s7,e7,h7,c7,d7⟩:=next_ok 3 h6 (by omega)
   have d7:=d7 (by omega)
   obtain⟨n,hn⟩:∃ n:Nat,1+r7=(n:Int):=⟨(1+r7).toNat,by omega⟩
   have w7:wrap64 (1+r7)=(n:Int):=by rw[w64 (by omega) (by omega),hn]
   have hbs:=(boxes_ok b6 m6).2
   obtain⟨its,a', s', ⟨K,e8⟩,g1,g2,g3⟩:=drawn_items b6 (by omega) n a7 s7 _ [] h7 (by omega) (by simp only[List.length_nil];omega) rfl
   simp only[List.length_nil]at g2
   refine⟨2,0,0,0,b6,its,a', s', ⟨K+1,fun k hk=> ?_⟩,mutR_of m6 (by omega) g1 ?_,by omega,g3.grow (by omega)⟩
   ·obtain⟨m,rfl⟩:∃ m,k=m+1:=⟨k - 1,by omega⟩
    have f8:=e8 m (by omega)
    simp only at f8
    have hj:z27_.j0 (m+1) r5 true l a5 s5 3 (wrap64 (1+r2)) (wrap64 (1+r3)) r4 b1 []=some (2,0,0,0,b6,its,a', s'):=by
     simp only[z27_.j0,e6,bS,e7,w7]
     rw[if_pos trivial]
     exact f8
    show z27_.f (m+1) l a s=_
    rw[f0,if_neg q0]
    rcases q12 with q|q
    ·rw[if_pos q,show(r5 == 1)=true from beq_iff_eq.2 q,hj]
    ·rw[if_neg (by omega),show(r5 == 2)=true from beq_iff_eq.2 q,hj]
   ·unfold mutKind
    rw[if_neg (by decide),if_pos rfl,decide_eq_true_eq]
    exact⟨rfl,rfl,rfl,by omega⟩
  ·have hf:∀ k,z27_.f (k+1) l a s=if r5=3 then some (4,0,0,0,b6,[],a6,s6)else some (3,1+r2,1+r3,r4,b1,[],a5,s5):=by
    intro k
    rw[f0,if_neg q0,if_neg (by omega),show(r5 == 2)=false from beq_eq_false_iff_ne.2 (by omega),j0,if_neg (by decide)]
   by_cases q3:r5=3
   ·refine⟨4,0,0,0,b6,[],a6,s6,Ev.step (f:=fun k=>some _) (fun k=>by rw[hf k,if_pos q3]) (Ev.now _),mutR_of m6 (by simp) rfl rfl,by simp,h6.grow (by omega)⟩
   ·refine⟨3,1+r2,1+r3,r4,b1,[],a5,s5,Ev.step (f:=fun k=>some _) (fun k=>by rw[hf k,if_neg q3]) (Ev.now _),mutR_of m1 (by simp) rfl ?_,by simp,h5.grow (by omega)⟩
    unfold mutKind
    rw[if_neg (by decide),if_neg (by decide),if_pos rfl,decide_eq_true_eq]
    exact⟨rfl,⟨by omega,by omega⟩,⟨by omega,by omega⟩,⟨by omega,by omega⟩⟩
theorem itemL_len (x:S54) (h:itemR x=true):(itemL x).length≤4204:=by
 unfold itemR at h
 have h:=of_decide_eq_true h
 have h0:=bl_size x.f0
 have h1:=bl_size x.f1
 unfold itemL
 simp only[List.length_append,bem_length]
 omega
theorem items_len:∀(its:List S54),its.all itemR=true→(its.flatMap itemL).length≤4204*its.length
 | [],_=>Nat.zero_le _
 | x :: its,h=>by
  rw[List.all_cons,Bool.and_eq_true]at h
  have:=items_len its h.2
  have:=itemL_len x h.1
  rw[List.flatMap_cons,List.length_append,List.length_cons]
  omega
theorem tot_small {kind uid mode flags:Int} {box:ByteArray} {its:List S54} (h:mutR kind uid mode flags box its=true) (hn:its.length≤3):(totM kind uid mode flags box its).length≤20000:=by
 obtain⟨hu,hb,_,hi⟩:=mutR_parts h
 obtain⟨u,rfl⟩:∃ u:Nat,uid=(u:Int):=⟨uid.toNat,(Int.toNat_of_nonneg hu.1).symm⟩
 have ha:its.all itemR=true:=by
  unfold mutR at h
  simp only[Bool.and_eq_true]at h
  exact h.1.2
 have:=items_len its ha
 have hs:=bl_size box
 rw[totL]
 simp only[List.length_cons,List.length_append,bem_length]
 omega
theorem sameMut_l0 (kind uid mode flags:Int) (box:ByteArray) (its:List S54) (hn:its.length≤1000):∀(d i:Nat),i+d=its.length →
  Ev (fun k=>z16_.l0 k (i:Int) kind uid mode flags box its kind uid mode flags box its) true:=by
 intro d
 induction d with
 | zero =>
  intro i hi
  refine Ev.step (f:=fun _=>some _) (fun k=> ?_) (Ev.now _)
  simp only[z16_.l0]
  rw[if_neg (by omega)]
 | succ d ih =>
  intro i hi
  refine Ev.step (fun k=> ?_) (ih (i+1) (by omega))
  simp only[z16_.l0]
  rw[if_pos (by omega),if_pos (by omega),if_pos (by omega),beq_self_eq_true,beq_self_eq_true,w64s i (by omega)]
  rfl
theorem sameMut_self (kind uid mode flags:Int) (box:ByteArray) (its:List S54) (hn:its.length≤1000):Ev (fun k=>z16_.f k kind uid mode flags box its kind uid mode flags box its) true:=by
 refine Ev.congr (f:=fun k=>z16_.j0 k false kind uid mode flags box its kind uid mode flags box its) (fun k=> ?_) (Ev.step (fun k=> ?_) (sameMut_l0 kind uid mode flags box its hn its.length 0 (by omega)))
 ·simp only[z16_.f]
  rw[if_pos trivial,if_pos trivial,if_pos trivial,if_pos trivial,if_pos trivial,show(((its.length:Int)) != ((its.length:Int)))=false from bne_eq_false_iff_eq.2 rfl]
 ·simp only[z16_.j0]
  rw[if_neg (by decide)]
  rfl
end Go.Proofs.Ytbjefkeogbophaa.P
namespace Go.Proofs.Ytbjefkeogbophaa.P
open Go.RowKit Go.ChangeShapes Go.WideShapes Go.Proofs.YtbjefkeogbophaaW.PrintWords

/-- What is to be proved of the law FnMutations, over numbers and lists alone. -/
def z4_.Pure:Prop:=∀(x0:List Int) (x1:List Int),(x0.length≤maxLen∧x0.length*1≤140737488351232∧∀ y ∈ x0,(Lit.int .u8 y).wf=true)→(x1.length≤maxLen∧x1.length*1≤140737488351232∧∀ y ∈ x1,(Lit.int .u8 y).wf=true)→∃ k,z4_.f k x0 x1=some true
end Go.Proofs.Ytbjefkeogbophaa.P
