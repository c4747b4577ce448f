import Derived.Test.YtfpjiopkeekkeaaGreatDoorE41
import Derived.Test.YtfpjiopkeekkeaaGreatDoorE43
import Derived.Test.YtfpjiopkeekkeaaGreatDoorET12
set_option autoImplicit false
set_option linter.unusedSimpArgs false
set_option linter.unusedVariables false
namespace Go.Ev
open Go
theorem au1{step:List Val→Option (Nat×List Val)}{st:Nat→List Val}{n j:Nat}{p:List Val}(h1: ∀i,i<n→step (st i)=some (0,st (i+1)))(h2:step (st n)=some (j+1,p)):Q9 step (st 0)=some (j,p):=by
 rw[T4]
 have: ∀k,k≤n→Iter step (st (n-k)) j p:=by
  intro k
  induction k with
  |zero=>intro _;exact .out h2
  |succ k ih=>
   intro hk
   have e:=h1 (n-(k+1)) (by omega)
   rw[show n-(k+1)+1=n-k by omega]at e
   exact .more e (ih (by omega))
 have h:=this n (b9 _)
 rwa[B0]at h
def aq3(x:Val)(px:Nat→List Val)(bad:Nat→Bool)(n:Nat):Nat×List Val:=match(List.range n).find? bad with
 |some i=>(1,px i)
 |none=>(0,[x,.vi n])
theorem a93{bad:Nat→Bool}: ∀{n i:Nat},(List.range n).find? bad=some i→i<n∧bad i=true∧ ∀k,k<i→bad k=false:=by
 intro n i h
 rw[List.find?_range_eq_some]at h
 exact⟨r7.1 h.2.1,h.1,fun k hk=>by simpa using h.2.2 k hk⟩
theorem am1{step:List Val→Option (Nat×List Val)}{x:Val}{px:Nat→List Val}{bad:Nat→Bool}{n:Nat}
 (h1: ∀i,i<n→bad i=false→step [x,.vi i]=some (0,[x,.vi (i+1:Nat)])) (h2: ∀i,i<n→bad i=true→step [x,.vi i]=some (2,px i))
 (h3:step [x,.vi n]=some (1,[x,.vi n])):Q9 step [x,.vi (0:Int)]=some (aq3 x px bad n):=by
 unfold aq3
 split
 ·rename_i i hi
  obtain⟨a,b,c⟩:=a93 hi
  exact au1 (st:=fun i=>[x,.vi i]) (n:=i) (fun k hk=>h1 k (by omega) (c k hk)) (h2 i a b)
 ·rename_i hn
  rw[C7]at hn
  exact au1 (st:=fun i=>[x,.vi i]) (n:=n) (fun k hk=>h1 k hk (by simpa using hn k hk)) h3
theorem ap1{x:Val}{px:Nat→List Val}{bad:Nat→Bool}{n:Nat}:aq3 x px bad n=if(List.range n).any bad then(1,px (((List.range n).find? bad).getD 0))else(0,[x,.vi n]):=by
 unfold aq3
 split
 ·rename_i i hi
  have:(List.range n).any bad=true:=by
   rw[y5]
   obtain⟨a,b,_⟩:=a93 hi
   exact⟨i,r7.2 a,b⟩
  rw[this,hi];rfl
 ·rename_i hn
  have:(List.range n).any bad=false:=by
   rw[C7]at hn
   rw[A8]
   intro i hi
   simpa using hn i (r7.1 hi)
  rw[this];rfl
def a10(g:Nat→List Val):Nat→List Val
 |0=>[]
 |n+1=>a10 g n++g n
theorem b86{g:Nat→List Val}{m:Nat}(hg: ∀i,(g i).length≤m): ∀n,(a10 g n).length≤n*m
 |0=>by simp[a10]
 |n+1=>by
  have:=b86 hg n
  have:=hg n
  simp only[a10,j5,p7];omega
theorem af2(g:Nat→List Val): ∀n,a10 g n=(List.range n).flatMap g
 |0=>rfl
 |n+1=>by rw[a10,af2 g n,N0,J3];simp
theorem az4{α:Type}(q:α→Bool)(d:α): ∀(l:List α),((List.range l.length).any fun i=>q (l.getD i d))=l.any q
 | []=>rfl
 |a::l=>by
  rw[List.length_cons,J2,List.any_cons,List.any_map]
  simp only[m6,List.any_cons]
  congr 1
  rw[←az4 q d l]
  congr 1
theorem ap2{α β:Type}(g:α→List β)(d:α): ∀(l:List α),((List.range l.length).flatMap fun i=>g (l.getD i d))=l.flatMap g
 | []=>rfl
 |a::l=>by
  rw[List.length_cons,J2,A4,List.flatMap_map]
  simp only[m6,A4]
  congr 1
  rw[←ap2 g d l]
  congr 1
theorem bE9{α β:Type} [DecidableEq β](f:α→β)(d:α): ∀(l r:List α),l.length=r.length→((List.range l.length).any fun i=> !decide (f (l.getD i d)=f (r.getD i d)))= !decide (l.map f=r.map f)
 | [],[],_=>by simp
 |a::l,b::r,h=>by
  rw[List.length_cons,J2,List.any_cons,List.any_map]
  simp only[m6,m5,A7]
  have:=bE9 f d l r (by simpa using h)
  have e:((fun i=> !decide (f ((a::l).getD i d)=f ((b::r).getD i d)))∘Nat.succ)=fun i=> !decide (f (l.getD i d)=f (r.getD i d)):=by
   funext i;simp[Function.comp]
  rw[e,this]
  by_cases h1:f a=f b<;>simp[h1]
 | [],_::_,h=>by simp at h
 |_::_,[],h=>by simp at h
theorem bF0(l:List Val)(i:Nat)(j:Int):S4 l (i:Int) j=(l.getD i (.vl [])).toL.getD j.toNat default:=rfl
theorem aD6{n:Nat}(h:n≤10000000):IntKind.i64.wrap ((n:Int)+1)=((n+1:Nat):Int):=by
 have:((n:Int)+1)=((n+1:Nat):Int):=by omega
 rw[this]
 simp only[IntKind.wrap,IntKind.bits,IntKind.signed]
 simp
 omega
end Go.Ev
namespace Go.Ev
open Go
structure RowM where
 key:List UInt8
 a:Int
 b:Int
 c:Int
 d:Int
 e:Int
 f:Int
 deriving DecidableEq
structure PaneM where
 key:List UInt8
 a:Int
 b:Int
 deriving DecidableEq
def P3(r:Val)(j:Nat):Val:=r.toL.getD j default
def bm4(r:Val):RowM:=⟨(P3 r 0).toS,(P3 r 1).toI,(P3 r 2).toI,(P3 r 3).toI,(P3 r 4).toI,(P3 r 5).toI,(P3 r 6).toI⟩
def P1(r:Val):PaneM:=⟨(P3 r 0).toS,(P3 r 1).toI,(P3 r 2).toI⟩
def atV(l:List Val)(i:Nat):Val:=l.getD i (.vl [])
def c99(v:Val):List RowM:=v.toL.map bm4
def arg(a:List Val)(i:Nat):Val:=a.getD i default
def eqB{α:Type} [DecidableEq α](a b:α):Bool:=decide (a=b)
@[simp]theorem de4{α:Type} [DecidableEq α]{a b:α}:eqB a b=true↔a=b:=decide_eq_true_iff
theorem bF1{α:Type} [DecidableEq α](a:α):eqB a a=true:=de4.2 rfl
def cJ8(r:Val):Bool:=decide (60<(P3 r 0).toS.length)
def cJ9(bad:Val→Bool)(l:List Val):Val:=T1 (aq3 (.vb false) (fun k=>[.vb false,.vi k]) (fun i=>bad (atV l i)) l.length)
def ca0{α:Type} [DecidableEq α](m:Val→α)(l r:List Val):Val:=T1 (aq3 (.vb false) (fun k=>[.vb false,.vi k]) (fun i=> !decide (m (atV l i)=m (atV r i))) l.length)
def Q8(r:Val):Val:= .vl [P3 r 0,P3 r 1,P3 r 2,P3 r 3,P3 r 4,P3 r 5,P3 r 6]
def az5(a0:List Val)(g:Val→List Val)(l:List Val):List Val:=a0++a10 (fun i=>g (atV l i)) l.length
theorem ap3: ∀x:List UInt8,ltB x x=false
 | []=>rfl
 |a::x=>by
  show(bif Nat.blt a.toNat a.toNat then true else bif Nat.beq a.toNat a.toNat then ltB x x else false)=false
  rw[ap3 x]
  have h1:Nat.blt a.toNat a.toNat=false:=by
   cases h:Nat.blt a.toNat a.toNat with
   |false=>rfl
   |true=>exact absurd (P9.1 h) (E3 _)
  rw[h1];cases Nat.beq a.toNat a.toNat<;>rfl
theorem bF2(a b:UInt8)(x y:List UInt8):ltB (a::x) (b::y)=true↔a.toNat<b.toNat∨a=b∧ltB x y=true:=by
 show(bif Nat.blt a.toNat b.toNat then true else bif Nat.beq a.toNat b.toNat then ltB x y else false)=true↔_
 cases h1:Nat.blt a.toNat b.toNat with
 |true=>simp[P9.1 h1]
 |false=>
  have h1': ¬a.toNat<b.toNat:=fun h=>by rw[P9.2 h]at h1;cases h1
  cases h2:Nat.beq a.toNat b.toNat with
  |true=>
   have:a=b:=UInt8.toNat_inj.1 (O6.1 h2)
   simp[h1',this]
  |false=>
   have: ¬a=b:=fun h=>by rw[h,O6.2 rfl]at h2;cases h2
   simp[h1',this]
theorem az6: ∀{x y z:List UInt8},ltB x y=true→ltB y z=true→ltB x z=true
 |_,[],[],_,h=>by cases h
 |_,_::_,[],_,h=>by cases h
 | [],[],_,h,_=>by cases h
 |_::_,[],_,h,_=>by cases h
 | [],_::_,_::_,_,_=>rfl
 |a::x,b::y,c::z,h1,h2=>by
  rw[bF2]at*
  rcases h1 with h1|⟨rfl,h1⟩<;>rcases h2 with h2|⟨rfl,h2⟩
  ·exact .inl (Nat.lt_trans h1 h2)
  ·exact .inl h1
  ·exact .inl h2
  ·exact .inr ⟨rfl,az6 h1 h2⟩
theorem b87: ∀{x y:List UInt8},ltB x y=false→ltB y x=false→x=y
 | [],[],_,_=>rfl
 | [],_::_,h,_=>by cases h
 |_::_,[],_,h=>by cases h
 |a::x,b::y,h1,h2=>by
  rw[←m8,bF2]at h1 h2
  have hab:a=b:=UInt8.toNat_inj.1 (by omega)
  subst hab
  have:=b87 (x:=x) (y:=y) (by rw[←m8];exact fun h=>h1 (.inr ⟨rfl,h⟩)) (by rw[←m8];exact fun h=>h2 (.inr ⟨rfl,h⟩))
  rw[this]
noncomputable def aq4(p q:PaneM):Bool:=X4 p.key q.key||decide (p.key=q.key)&&(decide (p.b<q.b)||decide (p.b=q.b)&&decide (p.a<q.a))
noncomputable def cR7(p q:PaneM):Int:=if X4 p.key q.key then-1 else if X4 q.key p.key then 1 else if p.b<q.b then-1 else if q.b<p.b then 1 else if p.a<q.a then-1 else if q.a<p.a then 1 else 0
theorem az7(p q:PaneM):aq4 p q=true↔ltB p.key q.key=true∨p.key=q.key∧(p.b<q.b∨p.b=q.b∧p.a<q.a):=by
 simp only[aq4,X4,m9,e8,decide_eq_true_eq]
theorem am2(p:PaneM):aq4 p p=false:=by
 rw[←m8,az7,ap3]
 simp
theorem ag9{p q r:PaneM}(h1:aq4 p q=true)(h2:aq4 q r=true):aq4 p r=true:=by
 rw[az7]at*
 rcases h1 with h1|⟨e1,h1⟩<;>rcases h2 with h2|⟨e2,h2⟩
 ·exact .inl (az6 h1 h2)
 ·exact .inl (e2▸h1)
 ·exact .inl (e1▸h2)
 ·exact .inr ⟨e1.trans e2,by omega⟩
theorem az8{p q:PaneM}(h1:aq4 p q=false)(h2:aq4 q p=false):p=q:=by
 rw[←m8,az7]at h1 h2
 obtain⟨a1,a2⟩:=not_or.1 h1
 obtain⟨b1,b2⟩:=not_or.1 h2
 have hk:=b87 (by rwa[←m8]) (by rwa[←m8]) (x:=p.key) (y:=q.key)
 obtain⟨k,a,b⟩:=p
 obtain⟨k',a',b'⟩:=q
 simp only at hk a2 b2
 subst hk
 simp only[true_and]at a2 b2
 have:a=a'∧b=b':=by omega
 rw[this.1,this.2]
theorem b88(p q:PaneM):cR7 p q<0↔aq4 p q=true:=by
 rw[az7]
 unfold cR7 X4
 cases h1:ltB p.key q.key with
 |true=>simp
 |false=>
  cases h2:ltB q.key p.key with
  |true=>
   have: ¬p.key=q.key:=fun h=>by rw[h,ap3]at h2;cases h2
   simp[this]
  |false=>
   have hk:=b87 h1 h2
   simp only[hk,j9,if_false,true_and,false_or]
   repeat' split
   all_goals omega
theorem bu2{p q:PaneM}(h:aq4 p q=true):aq4 q p=false:=by
 rw[←m8]
 intro h2
 have:=ag9 h h2
 rw[am2]at this;cases this
theorem am3{p q r:PaneM}(h1:aq4 p q=false)(h2:aq4 q r=false):aq4 p r=false:=by
 rw[←m8]
 intro h
 cases h3:aq4 q p with
 |true=>have:=ag9 h3 h;rw[h2]at this;cases this
 |false=>rw[az8 h1 h3]at h;rw[h2]at h;cases h
noncomputable def cfV(a b:Val):Int:=cR7 (P1 a) (P1 b)
noncomputable def aH0(a b:Val):Bool:=aq4 (P1 a) (P1 b)
theorem b89(a b:Val):Go.Proofs.ltOf cfV a b=aH0 a b:=by
 unfold Go.Proofs.ltOf cfV aH0
 rw[r9,decide_eq_true_iff,b88]
theorem ca1:Go.Sort.SWO (Go.Proofs.ltOf cfV)where
 irrefl x:=by rw[b89];exact am2 _
 trans x y z h1 h2:=by rw[b89]at*;exact ag9 h1 h2
 ntrans x y z h1 h2:=by rw[b89]at*;exact am3 h1 h2
def Z5(r:Val):Val:= .vl [P3 r 0,P3 r 1,P3 r 2,P3 r 3,P3 r 4,P3 r 5,P3 r 6,P3 r 7]
theorem aD7(r:Val):Val.vl [P3 r 0,P3 r 1,P3 r 2,P3 r 3,P3 r 4,P3 r 5,P3 r 6,P3 r 7]=Z5 r:=rfl
def cK0(l:List Val)(k:Nat):List Val:=(l.set k (Z5 (atV l (k+1)))).set (k+1) (Z5 (atV l k))
noncomputable def bub:List Val→Nat→Nat×List Val
 |l,0=>(0,l)
 |l,k+1=>if aH0 (atV l (k+1)) (atV l k)then bub (cK0 l k) k else(k+1,l)
noncomputable def bF3(l:List Val):Nat→List Val
 |0=>[]
 |i+1=>(bub (bF3 l i++[Z5 (atV l i)]) i).2
noncomputable def a09(l:List Val):List Val:=bF3 l l.length
noncomputable def aH1(x:Val):List Val→List Val
 | []=>[x]
 |y::r=>if aH0 x y then y::aH1 x r else x::y::r
noncomputable def dsc(l:List Val):Nat→List Val
 |0=>[]
 |i+1=>aH1 (Z5 (atV l i)) (dsc l i)
theorem bu3(a b:List Val)(k:Nat)(h:a.length=k):atV (a++b) k=atV b 0:=by
 subst h
 unfold atV
 rw[i3,i3,k5 (b9 _),B0]
theorem ca2(x:Val)(hx:Z5 x=x): ∀(s t:List Val),(∀y∈s,Z5 y=y)→(bub (s.reverse++x::t) s.length).2=(aH1 x s).reverse++t
 | [],t,_=>rfl
 |y::r,t,h=>by
  have hy:Z5 y=y:=h y (by simp)
  have e1:(y::r).reverse++x::t=r.reverse++y::x::t:=by simp
  have a1:atV (r.reverse++y::x::t) r.length=y:=by rw[bu3 _ _ _ (by simp)];rfl
  have a2:atV (r.reverse++y::x::t) (r.length+1)=x:=by
   rw[show r.reverse++y::x::t=(r.reverse++[y])++x::t by simp,bu3 _ _ _ (by simp)];rfl
  rw[e1,List.length_cons]
  unfold bub aH1
  rw[a1,a2]
  split
  ·have sw:cK0 (r.reverse++y::x::t) r.length=r.reverse++x::(y::t):=by
    have q1: ∀v,(r.reverse++y::x::t).set r.length v=r.reverse++v::x::t:=fun v=>by rw[K2];simp
    have q2:(r.reverse++x::x::t).set (r.length+1) y=r.reverse++x::y::t:=by rw[K2,if_neg (by simp)];simp
    unfold cK0
    rw[a1,a2,hx,hy,q1,q2]
   rw[sw,ca2 x hx r (y::t) (fun z hz=>h z (by simp[hz]))]
   simp
  ·simp
theorem a23(x:Val): ∀s:List Val,(aH1 x s).Perm (x::s)
 | []=> .refl _
 |y::r=>by
  unfold aH1
  split
  ·exact((a23 x r).cons y).trans (.swap x y r)
  ·exact .refl _
theorem bF4(l:List Val): ∀i,∀y∈dsc l i,Z5 y=y
 |0,y,h=>by cases h
 |i+1,y,h=>by
  have:=(a23 (Z5 (atV l i)) (dsc l i)).mem_iff.1 h
  rcases r6.1 this with rfl|h
  ·rfl
  ·exact bF4 l i y h
theorem ca3(l:List Val): ∀i,(dsc l i).length=i
 |0=>rfl
 |i+1=>by rw[dsc,(a23 _ _).length_eq,List.length_cons,ca3 l i]
theorem aD8(l:List Val): ∀i,bF3 l i=(dsc l i).reverse
 |0=>rfl
 |i+1=>by
  have:=ca2 (Z5 (atV l i)) rfl (dsc l i) [] (bF4 l i)
  rw[ca3]at this
  rw[bF3,aD8 l i,this,v8,dsc]
theorem aJ3(l:List Val): ∀i,(dsc l i).Perm ((List.range i).map fun k=>Z5 (atV l k))
 |0=> .refl _
 |i+1=>by
  rw[N0,x5]
  exact(a23 _ _).trans (((aJ3 l i).cons _).trans (List.perm_append_singleton _ _).symm)
theorem ab4(x:Val): ∀s:List Val,s.Pairwise (fun a b=>aH0 a b=false)→(aH1 x s).Pairwise (fun a b=>aH0 a b=false)
 | [],_=>by simp[aH1]
 |y::r,h=>by
  unfold aH1
  rw[A5]at h
  split
  ·rename_i hl
   rw[A5]
   refine⟨fun z hz=> ?_,ab4 x r h.2⟩
   rcases r6.1 ((a23 x r).mem_iff.1 hz)with rfl|hz
   ·exact bu2 hl
   ·exact h.1 z hz
  ·rename_i hl
   have hl:aH0 x y=false:=by simpa using hl
   rw[A5,A5]
   refine⟨fun z hz=> ?_,h⟩
   rcases r6.1 hz with rfl|hz
   ·exact hl
   ·exact am3 hl (h.1 z hz)
theorem ap4(l:List Val): ∀i,(dsc l i).Pairwise (fun a b=>aH0 a b=false)
 |0=> .nil
 |i+1=>ab4 _ _ (ap4 l i)
theorem ca4{α:Type}(f:Val→α)(l:List Val):((List.range l.length).map fun k=>f (atV l k))=l.map f:=by
  refine I8 (by simp) fun i h1 h2=> ?_
  have hi:i<l.length:=by simpa using h1
  simp[atV,i3,hi]
theorem aD9(l:List Val):(a09 l).Perm (l.map Z5):=by
 unfold a09
 rw[aD8,←ca4 Z5 l]
 exact(List.reverse_perm _).trans (aJ3 l l.length)
theorem am4(l:List Val):(a09 l).Pairwise (fun a b=>aH0 b a=false):=by
 unfold a09
 rw[aD8,List.pairwise_reverse]
 exact ap4 l l.length
theorem af3{α β:Type}{f:α→β}: ∀{l:List α},(l.map f).Nodup→ ∀{a b:α},a∈l→b∈l→f a=f b→a=b
 | [],_,a,b,ha,_,_=>by cases ha
 |x::l,h,a,b,ha,hb,e=>by
  rw[m5,N9]at h
  rcases r6.1 ha with h1|h1<;>rcases r6.1 hb with h2|h2
  ·rw[h1,h2]
  ·exact absurd (o8.2 ⟨b,h2,by rw[←e,h1]⟩) h.1
  ·exact absurd (o8.2 ⟨a,h1,by rw[e,h2]⟩) h.1
  ·exact af3 h.2 h1 h2 e
theorem bu4{l:List Val}(hn: ∀x∈l,Z5 x=x)(hd:(l.map P1).Nodup):ay1 cfV l=a09 l:=by
 obtain⟨p1,s1⟩:=aD5 ca1 l
 have hm:l.map Z5=l:=by
  rw[C1 hn];simp
 have p2:=aD9 l
 rw[hm]at p2
 refine List.Perm.eq_of_pairwise (le:=fun a b=>aH0 b a=false) (fun a b ha hb h1 h2=> ?_) (s1.imp fun {a b} h=> ?_) (am4 l) (p1.trans p2.symm)
 ·exact af3 hd (p1.mem_iff.1 ha) (p2.mem_iff.1 hb) (az8 h2 h1)
 ·rw[←m8]
  intro hh
  exact h ((b88 _ _).2 hh)
end Go.Ev
namespace Go.Ev.S8
open Go Go.Ev
@[simp]theorem O9(n:Int):(Val.vi n).toI=n:=rfl
@[simp]theorem af4(n:List UInt8):(Val.vs n).toS=n:=rfl
@[simp]theorem S0(n:Bool):(Val.vb n).toB=n:=rfl
@[simp]theorem Q4(n:List Val):(Val.vl n).toL=n:=rfl
@[simp]theorem Q0(a b:Int):aG6 .lss a b=decide (a<b):=rfl
@[simp]theorem R1(a b:Int):aG6 .leq a b=decide (a≤b):=rfl
@[simp]theorem X6(a b:Int):aG6 .gtr a b=decide (b<a):=rfl
@[simp]theorem bF5(a b:Int):aG6 .geq a b=decide (b≤a):=rfl
@[simp]theorem U7(a b:Int):aG6 .eql a b=decide (a=b):=rfl
@[simp]theorem cr4(a b:Int):aG6 .neq a b= !decide (a=b):=rfl
@[simp]theorem bF6(a b:List UInt8):bb7 .eql a b=decide (a=b):=rfl
@[simp]theorem cr5(a b:List UInt8):bb7 .neq a b= !decide (a=b):=rfl
theorem R9(ω:Opq)(v0:Nat)(l:List Val)(n:Nat):(ω.upd v0 l).w n=if v0≤n then l.getD (n-v0) (.vb false)else ω.w n:=rfl
theorem ai5(ω:Opq)(v0:Nat)(l:List Val):(ω.upd v0 l).f=ω.f:=rfl
theorem wu8(x:Int):IntKind.u8.wrap x=x % 256:=by simp[IntKind.wrap,IntKind.bits,IntKind.signed]
theorem dm3(x:Int):IntKind.u64.wrap x=x % 18446744073709551616:=by simp[IntKind.wrap,IntKind.bits,IntKind.signed]
theorem cg7{x:Int}(h: -9223372036854775808≤x)(h2:x<9223372036854775808):IntKind.i64.wrap x=x:=by
 simp only[IntKind.wrap,IntKind.bits,IntKind.signed]
 simp
 omega
theorem aU2{x y:Int}(h: -9223372036854775808≤x+y)(h2:x+y<9223372036854775808):arI .add .i64 x y=x+y:=cg7 h h2
theorem bu5{x y:Int}(h: -9223372036854775808≤x-y)(h2:x-y<9223372036854775808):arI .sub .i64 x y=x-y:=cg7 h h2
theorem de5{x y:Int}(h: -9223372036854775808≤x*y)(h2:x*y<9223372036854775808):arI .mul .i64 x y=x*y:=cg7 h h2
theorem cK1{x:Int}(h:0≤x):arI .shr .u64 x 8=x/256:=by
 simp only[arI,IntKind.bits]
 rw[show(8:Int).toNat=8 from rfl,show min 8 64=8 from rfl,E6 _ (by decide)];rfl
def sbV(l:List UInt8):List Val:=l.map fun b=> .vl [.vi (b.toNat:Int)]
theorem ah9(l:List UInt8):(sbV l).length=l.length:=by simp[sbV]
theorem aU3(a b:List UInt8):sbV (a++b)=sbV a++sbV b:=by simp[sbV]
def unV(l:List Val):List UInt8:=l.map fun r=>UInt8.ofNat (r.toL.getD 0 default).toI.toNat
theorem cK2(l:List UInt8):unV (sbV l)=l:=by
 unfold unV sbV
 rw[B6]
 conv=>rhs;rw[←List.map_id l]
 refine C1 fun b _=> ?_
 show UInt8.ofNat ((b.toNat:Int)).toNat=b
 rw[Int.toNat_natCast,UInt8.ofNat_toNat]
def cK3(l:List Val):Bool:=l.all fun r=>decide (0≤(r.toL.getD 0 default).toI)&&decide ((r.toL.getD 0 default).toI<256)
theorem bF7: ∀l:List UInt8,cK3 (sbV l)=true
 | []=>rfl
 |b::l=>by
  have h:=b.toNat_lt
  have h2:(b.toNat:Int)<256:=by omega
  show((decide (0≤(b.toNat:Int))&&decide ((b.toNat:Int)<256))&&cK3 (sbV l))=true
  rw[bF7 l,decide_eq_true h2,decide_eq_true (K9 _)];rfl
def Z2:List UInt8→List UInt8
 | []=>[]
 |b::r=>(if b=0 then [0,255]else [b])++Z2 r
theorem aJ4: ∀a b:List UInt8,Z2 (a++b)=Z2 a++Z2 b
 | [],b=>rfl
 |x::a,b=>by simp[Z2,aJ4 a b]
theorem ap5: ∀a:List UInt8,(Z2 a).length≤2*a.length
 | []=>by simp[Z2]
 |x::a=>by
  have:=ap5 a
  simp only[Z2,j5,List.length_cons]
  split<;>simp<;>omega
theorem ca5: ∀a:List UInt8,a.length≤(Z2 a).length
 | []=>by simp
 |x::a=>by
  have:=ca5 a
  simp only[Z2,j5,List.length_cons]
  split<;>simp<;>omega
theorem az9: ∀{a:List UInt8},P6 0 a=0→Z2 a=a
 | [],_=>rfl
 |x::a,h=>by
  simp only[P6]at h
  cases hx:Nat.beq x.toNat 0 with
  |true=>rw[hx]at h;simp at h
  |false=>
   rw[hx]at h
   have ha:=az9 (a:=a) (by simpa using h)
   have: ¬x=0:=by
    intro e;subst e;simp at hx
   simp[Z2,this,ha]
theorem aA0(c:Nat): ∀a b:List UInt8,P6 c (a++b)=P6 c a+P6 c b
 | [],b=>by simp[P6]
 |x::a,b=>by
  simp only[List.cons_append,P6,aA0 c a b]
  cases Nat.beq x.toNat c<;>simp<;>omega
theorem b90(c:Nat): ∀a:List UInt8,P6 c a≤a.length
 | []=>by simp[P6]
 |x::a=>by
  have:=b90 c a
  simp only[P6,List.length_cons]
  cases Nat.beq x.toNat c<;>simp<;>omega
def spl:List UInt8→List UInt8×List UInt8
 | []=>([],[])
 |b::r=>if P6 0 r=0 then(if b=0 then([b],r)else([],b::r))else(b::(spl r).1,(spl r).2)
theorem bF8: ∀l:List UInt8,(spl l).1++(spl l).2=l
 | []=>rfl
 |b::r=>by
  unfold spl
  split
  ·split<;>rfl
  ·simp[bF8 r]
theorem bF9: ∀l:List UInt8,P6 0 (spl l).2=0
 | []=>rfl
 |b::r=>by
  unfold spl
  split
  ·rename_i h
   split
   ·exact h
   ·rename_i hb
    simp only[P6,h]
    have:Nat.beq b.toNat 0=false:=by
     cases e:Nat.beq b.toNat 0 with
     |false=>rfl
     |true=>
      have:b.toNat=0:=by simpa using e
      exact absurd (UInt8.toNat_inj.1 (by simpa using this)) hb
    rw[this];rfl
  ·exact bF9 r
theorem cr6{t:List UInt8}(h:P6 0 t=0):spl t=([],t):=by
 cases t with
 |nil=>rfl
 |cons b r=>
  simp only[P6]at h
  cases hx:Nat.beq b.toNat 0 with
  |true=>rw[hx]at h;simp at h
  |false=>
   rw[hx]at h
   have hr:P6 0 r=0:=by simpa using h
   have: ¬b=0:=by intro e;subst e;simp at hx
   simp[spl,hr,this]
theorem cy1: ∀(p:List UInt8) {t:List UInt8},P6 0 t=0→spl (p++0::t)=(p++[0],t)
 | [],t,h=>by simp[spl,h]
 |b::p,t,h=>by
  have ih:=cy1 p h
  have hc:P6 0 (p++0::t)≠0:=by
   rw[aA0]
   have:P6 0 (0::t)=P6 0 t+1:=by simp[P6]
   omega
  show(if P6 0 (p++0::t)=0 then(if b=0 then([b],p++0::t)else([],b::(p++0::t)))else(b::(spl (p++0::t)).1,(spl (p++0::t)).2))=_
  rw[if_neg hc]
  show(b::(spl (p++0::t)).1,(spl (p++0::t)).2)=_
  rw[ih];rfl
theorem ca6: ∀{t:List UInt8} (i:Nat),P6 0 t≠0→ ∃p q,t=p++0::q∧P6 0 p=0∧b25 0 t i=some (i+p.length)
 | [],i,h=>absurd rfl h
 |b::r,i,h=>by
  cases hx:Nat.beq b.toNat 0 with
  |true=>
   have hb:b=0:=UInt8.toNat_inj.1 (by simpa using hx)
   subst hb
   exact⟨[],r,rfl,rfl,by simp[b25]⟩
  |false=>
   simp only[P6,hx]at h
   obtain⟨p,q,rfl,h2,h3⟩:=ca6 (i+1) (show P6 0 r≠0 by simpa using h)
   refine⟨b::p,q,rfl,by simp[P6,hx,h2],?_⟩
   simp only[b25,hx,cond_false,h3,List.length_cons]
   congr 1;omega
theorem d29{p q:List UInt8}(hp:P6 0 p=0):aE7 0 (p++0::q)=(p.length:Int):=by
 have hc:P6 0 (p++0::q)≠0:=by
  rw[aA0]
  have:P6 0 (0::q)=P6 0 q+1:=by simp[P6]
  omega
 obtain⟨p',q',e,h2,h3⟩:=ca6 0 hc
 unfold aE7
 rw[h3]
 have:p'=p:=by
  have key: ∀(p p' q q':List UInt8),P6 0 p=0→P6 0 p'=0→p++0::q=p'++0::q'→p=p':=by
   intro p
   induction p with
   |nil=>
    intro p' q q' _ h' e
    cases p' with
    |nil=>rfl
    |cons b p'=>
     exfalso
     simp only[List.nil_append,List.cons_append,A7]at e
     rw[←e.1]at h'
     simp[P6]at h'
   |cons b p ih=>
    intro p' q q' h h' e
    cases p' with
    |nil=>
     exfalso
     simp only[List.nil_append,List.cons_append,A7]at e
     rw[e.1]at h
     simp[P6]at h
    |cons b' p'=>
     simp only[List.cons_append,A7]at e
     have c1:P6 0 p=0:=by
      simp only[P6]at h
      cases hx:Nat.beq b.toNat 0<;>rw[hx]at h<;>simp at h
      exact h
     have c2:P6 0 p'=0:=by
      simp only[P6]at h'
      cases hx:Nat.beq b'.toNat 0<;>rw[hx]at h'<;>simp at h'
      exact h'
     rw[e.1,ih p' q q' c1 c2 e.2]
  exact(key p p' q q' hp h2 e).symm
 rw[this];simp
def bk6(l:List UInt8):List UInt8:=Z2 l++[0,0]
def bu6(n:Int):Int:=arI .xor .u64 (IntKind.u64.wrap n) 9223372036854775808
theorem ca7(n:Int):0≤bu6 n∧bu6 n<18446744073709551616:=by
 unfold bu6
 simp only[arI,dm3]
 omega
def dv(a:Int):Nat→Int
 |0=>a
 |k+1=>dv a k/256
theorem cy2{a:Int}(h:0≤a): ∀k,0≤dv a k
 |0=>h
 |k+1=>by have:=cy2 h k;show 0≤dv a k/256;omega
def byV(a:Int)(k:Nat):UInt8:=UInt8.ofNat (dv a k % 256).toNat
def d30(a:Int):List UInt8:=[byV a 7,byV a 6,byV a 5,byV a 4,byV a 3,byV a 2,byV a 1,byV a 0]
def b16(n:Int):List UInt8:=d30 (bu6 n)
theorem aJ5(n:Int):(b16 n).length=8:=rfl
noncomputable def FX(X:Nat→List Val→Val):Nat→List Val→Val:=fun i a=>match i with
  |300=>bif decide (P6 0 (arg a 0).toS=0)then arg a 0 else .vs (Z2 (arg a 0).toS)
  |301=> .vs (bk6 (arg a 0).toS)
  |302=> .vs (b16 (arg a 0).toI)
  |320=>T1 (0,[.vi (spl (arg a 4).toS).1.length,.vi (P6 0 (arg a 4).toS:Nat),.vi (Z2 (spl (arg a 4).toS).1).length,.vl (sbV (Z2 (spl (arg a 4).toS).1))])
  |i=>X i a
variable{X:Nat→List Val→Val}
theorem P5{ω:Opq}{hd:LHd}{b:VT}{ks:List VT}{r:Nat×List Val}{x:Option (Nat×List Val)}(h1:Q9 (fun vs=>O8 b (ω.upd hd.v0 vs)) (P2 ω hd.s0)=some r)(h2:ω.f hd.id (P2 ω (hd.s0++hd.fv))=T1 r)(h3:a30 ks r.1 ω=x):O8 (.loop hd b ks) ω=x:=by
 rw[O8.eq_5,h1]
 simp only
 rw[if_pos h2,h3]
theorem need_ok{ω:Opq}{e:SX}{x:VT}{r:Option (Nat×List Val)}(h:dB ω e=true)(h2:O8 x ω=r):O8 (.need e x) ω=r:=by rw[O8.eq_3,if_pos h,h2]
theorem ite_t{ω:Opq}{e:SX}{x y:VT}{r:Option (Nat×List Val)}(h:dB ω e=true)(h2:O8 x ω=r):O8 (.ite e x y) ω=r:=by rw[O8.eq_2,if_pos h,h2]
theorem ite_f{ω:Opq}{e:SX}{x y:VT}{r:Option (Nat×List Val)}(h:dB ω e=false)(h2:O8 y ω=r):O8 (.ite e x y) ω=r:=by rw[O8.eq_2,if_neg (by rw[h];simp),h2]
theorem and2{a b:Bool}(h:a=true)(h2:b=true):(a&&b)=true:=by rw[h,h2];rfl
def bk7(J:SX):SX:= zc (.va 2003) (.op .sbytes [.op .ssub [.va 0,.va 2000,J]])
def aU4(J:SX):SX:= zc (bk7 J) (.op .sbytes [.cs [0,255]])
def cr7(J:SX):VT:= .need (zn (.op (.cmp .leq) [.va 2000,J]) (.op (.cmp .leq) [J,.op .slen [.va 0]])) (.need (zn (.op (.cmp .eql) [.va 2002,zl 2003]) (zb (zL (bk7 J)) 1000000)) (.need (zb (zL (aU4 J)) 1000000) (.ret 0 [zi J,zi (.va 2001),zL (aU4 J),aU4 J])))
def aE0:SX:= .op .ssub [.va 0,.va 2000,.op .slen [.va 0]]
theorem cK4:cr1= .ite (zs (.va 2001) (.op .scnt [.va 0,.ci 0])) (.need (zn (zp (.va 2000)) (.op (.cmp .leq) [.va 2000,.op .slen [.va 0]])) (.ite (.op (.scmp .eql) [.cs [0],aE0]) (cr7 (za (.va 2000) (.ci 0))) (cr7 (za (.va 2000) (.op .sidx [aE0,.ci 0]))))) (.ret 1 [.va 2000,.va 2001,.va 2002,.va 2003]):=rfl
theorem bG0{ω:Opq}{J:SX}{s s1 p q:List UInt8}{i:Nat}(w0:(ω.w 0).toS=s)(w1:ω.w 2000= .vi s1.length)(w2:ω.w 2001= .vi i)(w3:ω.w 2002= .vi (Z2 s1).length)(w4:ω.w 2003= .vl (sbV (Z2 s1)))
 (hst:s=s1++(p++0::q)) (hn:s.length≤1000) (hi:i≤1000) (hp:P6 0 p=0) (hJ:dI ω J=((s1.length+p.length:Nat):Int)):
 O8 (cr7 J) ω=some (0,[.vi (s1++p++[0]).length,.vi (i+1:Nat),.vi (Z2 (s1++p++[0])).length,.vl (sbV (Z2 (s1++p++[0])))]):=by
 have hlen:s.length=s1.length+(p.length+(q.length+1)):=by rw[hst];simp
 have he1:=ap5 s1
 have hep:Z2 p=p:=az9 hp
 have aE4:Z2 (s1++p++[0])=Z2 s1++p++[0,255]:=by rw[aJ4,aJ4,hep];rfl
 have hv:dI ω (.va 2000)=(s1.length:Int):=by show(ω.w 2000).toI=_;rw[w1];rfl
 have hpart:dS ω (.op .ssub [.va 0,.va 2000,J])=p:=by
  show((ω.w 0).toS.drop (dI ω (.va 2000)).toNat).take (dI ω J-dI ω (.va 2000)).toNat=p
  rw[w0,hv,hJ,Int.toNat_natCast,hst,B7,show(((s1.length+p.length:Nat):Int)-(s1.length:Int)).toNat=p.length by omega,D4]
 have hcut:den ω (bk7 J)= .vl (sbV (Z2 s1)++sbV p):=by
  show Val.vl ((ω.w 2003).toL++sbV (dS ω (.op .ssub [.va 0,.va 2000,J])))=_
  rw[w4,hpart];rfl
 have hout:den ω (aU4 J)= .vl (sbV (Z2 (s1++p++[0]))):=by
  show Val.vl ((den ω (bk7 J)).toL++sbV [0,255])=_
  rw[hcut,aE4,aU3,aU3];rfl
 have hol:(Z2 (s1++p++[0])).length=(Z2 s1).length+p.length+2:=by rw[aE4];simp[p9]
 unfold cr7
 refine need_ok ?_ (need_ok ?_ (need_ok ?_ ?_))
 ·refine and2 (decide_eq_true (show dI ω (.va 2000)≤dI ω J from ?_)) (decide_eq_true (show dI ω J≤((ω.w 0).toS.length:Int)from ?_))
  ·rw[hv,hJ];omega
  ·rw[w0,hJ];omega
 ·refine and2 (decide_eq_true (show(ω.w 2002).toI=((ω.w 2003).toL.length:Int)from ?_)) (decide_eq_true (show((den ω (bk7 J)).toL.length:Int)≤1000000 from ?_))
  ·rw[w3,w4];show((Z2 s1).length:Int)=((sbV (Z2 s1)).length:Int);rw[ah9]
  ·rw[hcut,Q4,j5,ah9,ah9];omega
 ·refine decide_eq_true (show((den ω (aU4 J)).toL.length:Int)≤1000000 from ?_)
  rw[hout,Q4,ah9,hol];omega
 ·show some (0,[Val.vi (arI .add .i64 (dI ω J) 1),Val.vi (arI .add .i64 (ω.w 2001).toI 1),Val.vi ((den ω (aU4 J)).toL.length:Int),den ω (aU4 J)])=_
  rw[hJ,w2,hout,Q4,ah9,O9,aU2 (by omega) (by omega),aU2 (by omega) (by omega)]
  have e1:((s1.length+p.length:Nat):Int)+1=((s1++p++[0]).length:Int):=by simp[Int.add_assoc]
  rw[e1];rfl
theorem cK5{ω:Opq}{s s1 t:List UInt8}{c i:Nat}(hs:(ω.w 0).toS=s)(hst:s=s1++t)(hn:s.length≤1000)(hc:P6 0 s=c)(hi:i+P6 0 t=c)(h0:P6 0 t≠0):
 ∃p q,t=p++0::q∧P6 0 p=0∧O8 cr1 (ω.upd 2000 [.vi s1.length,.vi i,.vi (Z2 s1).length,.vl (sbV (Z2 s1))])=some (0,[.vi (s1++p++[0]).length,.vi (i+1:Nat),.vi (Z2 (s1++p++[0])).length,.vl (sbV (Z2 (s1++p++[0])))]):=by
 obtain⟨p,q,e,hp,_⟩:=ca6 0 h0
 refine⟨p,q,e,hp,?_⟩
 subst e
 obtain⟨ω',hω⟩: ∃ω',ω'=ω.upd 2000 [.vi s1.length,.vi i,.vi (Z2 s1).length,.vl (sbV (Z2 s1))]:=⟨_,rfl⟩
 have w0:(ω'.w 0).toS=s:=by rw[hω];exact hs
 have w1:ω'.w 2000= .vi s1.length:=by rw[hω];rfl
 have w2:ω'.w 2001= .vi i:=by rw[hω];rfl
 have w3:ω'.w 2002= .vi (Z2 s1).length:=by rw[hω];rfl
 have w4:ω'.w 2003= .vl (sbV (Z2 s1)):=by rw[hω];rfl
 rw[←hω,cK4]
 have hlen:s.length=s1.length+(p.length+(q.length+1)):=by rw[hst];simp
 have hcs:=b90 0 s
 have hv:dI ω' (.va 2000)=(s1.length:Int):=by show(ω'.w 2000).toI=_;rw[w1];rfl
 have hrest:dS ω' aE0=p++0::q:=by
  show((ω'.w 0).toS.drop (dI ω' (.va 2000)).toNat).take (((ω'.w 0).toS.length:Int)-dI ω' (.va 2000)).toNat=_
  rw[w0,hv,Int.toNat_natCast]
  conv=>lhs;rw[hst,B7]
  rw[D3]
  simp;omega
 refine ite_t (decide_eq_true (show(ω'.w 2001).toI<((P6 (0:Int).toNat (ω'.w 0).toS:Nat):Int)from ?_)) (need_ok (and2 (decide_eq_true (show(0:Int)≤dI ω' (.va 2000)from ?_)) (decide_eq_true (show dI ω' (.va 2000)≤((ω'.w 0).toS.length:Int)from ?_))) ?_)
 ·rw[w2,w0];show(i:Int)<((P6 0 s:Nat):Int);omega
 ·rw[hv];omega
 ·rw[hv,w0];omega
 ·by_cases hone:[(0:UInt8)]=p++0::q
  ·have hp0:p=[]:=by
    cases p with
    |nil=>rfl
    |cons b p=>exfalso;have:=congrArg List.length hone;simp at this
   refine ite_t (decide_eq_true (show [(0:UInt8)]=dS ω' aE0 from ?_)) (bG0 w0 w1 w2 w3 w4 hst hn (by omega) hp ?_)
   ·rw[hrest];exact hone
   ·show arI .add .i64 (dI ω' (.va 2000)) 0=_
    rw[hv,hp0,aU2 (by omega) (by omega)];simp
  ·refine ite_f (decide_eq_false (show¬[(0:UInt8)]=dS ω' aE0 from ?_)) (bG0 w0 w1 w2 w3 w4 hst hn (by omega) hp ?_)
   ·rw[hrest];exact hone
   ·show arI .add .i64 (dI ω' (.va 2000)) (aE7 (0:Int).toNat (dS ω' aE0))=_
    rw[hv,hrest,show(0:Int).toNat=0 from rfl,d29 hp,aU2 (by omega) (by omega)];omega
theorem ca8{ω:Opq}{s:List UInt8}{c:Nat}(hs:(ω.w 0).toS=s)(hn:s.length≤1000)(hc:P6 0 s=c): ∀(k:Nat) (s1 t:List UInt8) (i:Nat),s=s1++t→P6 0 t=k→i+k=c→(s1=[]∨ ∃x,s1=x++[0])→
 Iter (fun vs=>O8 cr1 (ω.upd 2000 vs)) [.vi s1.length,.vi i,.vi (Z2 s1).length,.vl (sbV (Z2 s1))] 0 [.vi (spl s).1.length,.vi c,.vi (Z2 (spl s).1).length,.vl (sbV (Z2 (spl s).1))]
 |0,s1,t,i,hst,ht,hi,h1=>by
  have hspl:(spl s).1=s1:=by
   rcases h1 with rfl|⟨x,rfl⟩
   ·rw[hst,List.nil_append,cr6 ht]
   ·rw[hst,u5,List.singleton_append,cy1 x ht]
  rw[hspl]
  refine .out ?_
  have g1: ¬(i:Int)<((P6 0 s:Nat):Int):=by omega
  have hic:i=c:=by omega
  subst hic
  have cnt0:P6 (0:Int).toNat s=P6 0 s:=rfl
  show O8 cr1 (ω.upd 2000 [_,_,_,_])=_
  unfold cr1
  simp only[O8.eq_2,O8.eq_4,P2,den,dB,W0,R9,show(2000≤2000)=True by simp,show(2000≤2001)=True by simp,show(2000≤2002)=True by simp,show(2000≤2003)=True by simp,if_true,show 2000-2000=0 from rfl,show 2001-2000=1 from rfl,show 2002-2000=2 from rfl,show 2003-2000=3 from rfl,m6,o7,show(2000≤0)=False by simp,if_false,O9,S0,Q0,hs,cnt0,g1,decide_false,j9]
 |k+1,s1,t,i,hst,ht,hi,h1=>by
  obtain⟨p,q,e,hp,hstep⟩:=cK5 (ω:=ω) hs hst hn hc (i:=i) (by omega) (by omega)
  refine .more hstep (ca8 hs hn hc k (s1++p++[0]) q (i+1) (by rw[hst,e];simp) ?_ (by omega) (.inr ⟨_,rfl⟩))
  rw[e,aA0,hp]at ht
  simpa[P6]using ht
theorem d31(x:Val):(FX X 300 [x]).toS=Z2 x.toS:=by
 show(bif decide (P6 0 x.toS=0)then x else .vs (Z2 x.toS)).toS=_
 by_cases h:P6 0 x.toS=0
 ·rw[decide_eq_true h,az9 h];rfl
 ·rw[decide_eq_false h];rfl
theorem t_repl{ω:Opq}(hf: ∀i a,ω.f i a=FX X i a)(hn:(ω.w 0).toS.length≤1000):O8 T_repl ω=some (0,[FX X 300 [ω.w 0]]):=by
 obtain⟨s,hs⟩: ∃s,(ω.w 0).toS=s:=⟨_,rfl⟩
 rw[hs]at hn
 have hF:FX X 300 [ω.w 0]=bif decide (P6 0 s=0)then ω.w 0 else .vs (Z2 s):=by rw[←hs];rfl
 rw[hF]
 have hc0:=b90 0 s
 have cnt0:dI ω (.op .scnt [.va 0,.ci 0])=(P6 0 s:Nat):=by
  show((P6 (0:Int).toNat (ω.w 0).toS:Nat):Int)=_;rw[hs];rfl
 unfold T_repl
 by_cases h0:P6 0 s=0
 ·rw[decide_eq_true h0]
  exact ite_t (by show decide (dI ω (.op .scnt [.va 0,.ci 0])=0)=true;rw[cnt0,h0];rfl) rfl
 ·rw[decide_eq_false h0]
  have hsl:dI ω (.op .slen [.va 0])=(s.length:Nat):=by show((ω.w 0).toS.length:Int)=_;rw[hs]
  have r0:dI ω aT2=((s.length+P6 0 s:Nat):Int):=by
   show arI .add .i64 (dI ω (.op .slen [.va 0])) (arI .mul .i64 (dI ω (.op .scnt [.va 0,.ci 0])) 1)=_
   rw[hsl,cnt0,de5 (by omega) (by omega),Int.mul_one,aU2 (by omega) (by omega)];omega
  have r1:dI ω bk4=((s.length+P6 0 s:Nat):Int):=by
   show arI .add .i64 0 (dI ω aT2)=_
   rw[r0,aU2 (by omega) (by omega)];omega
  obtain⟨a,b,hab⟩: ∃a b,spl s=(a,b):=⟨_,_,rfl⟩
  have hj:a++b=s:=by have:=bF8 s;rw[hab]at this;exact this
  have hb0:P6 0 b=0:=by have:=bF9 s;rw[hab]at this;exact this
  have hlen:a.length+b.length=s.length:=by rw[←hj];simp
  have hea:=ap5 a
  have hloop:Q9 (fun vs=>O8 cr1 (ω.upd 2000 vs)) [.vi 0,.vi 0,.vi 0,.vl []]=some (0,[.vi a.length,.vi (P6 0 s:Nat),.vi (Z2 a).length,.vl (sbV (Z2 a))]):=by
   rw[T4]
   have:=ca8 (ω:=ω) hs hn rfl (P6 0 s) [] s 0 rfl rfl (by omega) (.inl rfl)
   rw[hab]at this
   exact this
  have h320:FX X 320 [.vi 0,.vi 0,.vi 0,.vl [],ω.w 0,.vi 0,.vi 0,.vl [],.vi (P6 0 s:Nat)]=T1 (0,[.vi a.length,.vi (P6 0 s:Nat),.vi (Z2 a).length,.vl (sbV (Z2 a))]):=by
   show T1 (0,[.vi (spl (ω.w 0).toS).1.length,.vi (P6 0 (ω.w 0).toS:Nat),.vi (Z2 (spl (ω.w 0).toS).1).length,.vl (sbV (Z2 (spl (ω.w 0).toS).1))])=_
   rw[hs,hab]
  have e2:den ω aT3=T1 (0,[.vi a.length,.vi (P6 0 s:Nat),.vi (Z2 a).length,.vl (sbV (Z2 a))]):=by
   show ω.f 320 [.vi 0,.vi 0,.vi ((([]:List Val).length:Nat):Int),.vl [],ω.w 0,.vi ((([]:List Val).length:Nat):Int),.vi ((([]:List Val).length:Nat):Int),.vl [],.vi (P6 (0:Int).toNat (ω.w 0).toS:Nat)]=_
   rw[hf,hs];exact h320
  have e3:dI ω aF9=(a.length:Int):=by show(S4 (den ω aT3).toL 1 0).toI=_;rw[e2];rfl
  have e5:den ω bk5= .vl (sbV (Z2 a)):=by show S4 (den ω aT3).toL 1 3=_;rw[e2];rfl
  have e6:den ω ab3= .vl (sbV (Z2 s)):=by
   show Val.vl ((den ω bk5).toL++(((ω.w 0).toS.drop (dI ω aF9).toNat).take (dI ω (.op .slen [.va 0])-dI ω aF9).toNat).map fun b=>Val.vl [.vi (b.toNat:Int)])=_
   rw[e5,e3,hsl,hs,Int.toNat_natCast]
   have:((s.drop a.length).take ((s.length:Int)-(a.length:Int)).toNat)=b:=by
    rw[←hj,B7,D3]
    simp;omega
   rw[this]
   show Val.vl (sbV (Z2 a)++sbV b)=_
   rw[←aU3,←hj,aJ4,az9 hb0]
  have hes:=ap5 s
  have hge:=ca5 s
  have main: ∀x,O8 (.loop ⟨320,[.ci 0,.ci 0,.op .llen [.op .row []],.op .row []],2000,[.va 0,.op .llen [.op .row []],.op .llen [.op .row []],.op .row [],.op .scnt [.va 0,.ci 0]]⟩ cr1 [.need (c86) (.need (c87) (.need (c88) (.need (c89) (.ret 0 [.op .bstr [ab3]]))))]) ω=x→x=some (0,[.vs (Z2 s)]):=by
   rintro _ rfl
   refine P5 (r:=(0,[.vi a.length,.vi (P6 0 s:Nat),.vi (Z2 a).length,.vl (sbV (Z2 a))])) hloop e2 ?_
   refine need_ok ?_ (need_ok ?_ (need_ok ?_ (need_ok ?_ ?_)))
   ·show(decide (0≤dI ω aF9)&&decide (dI ω aF9≤dI ω (.op .slen [.va 0])))=true
    rw[e3,hsl,e8]
    exact⟨decide_eq_true (by omega),decide_eq_true (by omega)⟩
   ·show(decide ((S4 (den ω aT3).toL 1 2).toI=((den ω bk5).toL.length:Int))&&decide (((den ω ab3).toL.length:Int)≤1000000))=true
    rw[e2,e5,e6,e8]
    refine⟨decide_eq_true ?_,decide_eq_true ?_⟩
    ·show((Z2 a).length:Int)=((sbV (Z2 a)).length:Int);rw[ah9]
    ·show((sbV (Z2 s)).length:Int)≤_;rw[ah9];omega
   ·show decide ((0:Int)<((den ω ab3).toL.length:Int))=true
    rw[e6]
    refine decide_eq_true ?_
    show(0:Int)<((sbV (Z2 s)).length:Int);rw[ah9];omega
   ·show(decide (((den ω ab3).toL.length:Int)≤((den ω ab3).toL.length:Int))&&cK3 (den ω ab3).toL)=true
    rw[e6,e8]
    exact⟨decide_eq_true (K3 _),bF7 _⟩
   ·show some (0,[Val.vs (unV (den ω ab3).toL)])=_
    rw[e6]
    show some (0,[Val.vs (unV (sbV (Z2 s)))])=_
    rw[cK2]
  refine ite_f (by show decide (dI ω (.op .scnt [.va 0,.ci 0])=0)=false;rw[cnt0];exact decide_eq_false (by omega)) ?_
  refine ite_f (by show decide (dI ω aT2<0)=false;rw[r0];exact decide_eq_false (by omega)) ?_
  refine ite_t (by show decide (0<dI ω aT2)=true;rw[r0];exact decide_eq_true (by omega)) ?_
  refine need_ok ?_ (need_ok rfl ?_)
  ·show(decide (0≤dI ω bk4)&&decide (dI ω bk4≤281474976710656))=true
   rw[r1,e8]
   exact⟨decide_eq_true (by omega),decide_eq_true (by omega)⟩
  ·exact main _ rfl
theorem t_partI{ω:Opq}(hf: ∀i a,ω.f i a=FX X i a):O8 T_partI ω=some (0,[FX X 302 [ω.w 0]]):=by
 have hF:FX X 302 [ω.w 0]= .vs (d30 (bu6 (ω.w 0).toI)):=rfl
 rw[hF]
 obtain⟨h0,h1⟩:=ca7 (ω.w 0).toI
 have e0:dI ω aT4=bu6 (ω.w 0).toI:=rfl
 generalize bu6 (ω.w 0).toI=a at*
 have hp:=cy2 h0
 have e1:dI ω aT5=dv a 1:=by show arI .shr .u64 (dI ω aT4) 8=_;rw[e0,cK1 h0];rfl
 have e2:dI ω aT6=dv a 2:=by show arI .shr .u64 (dI ω aT5) 8=_;rw[e1,cK1 (hp 1)];rfl
 have e3:dI ω aT7=dv a 3:=by show arI .shr .u64 (dI ω aT6) 8=_;rw[e2,cK1 (hp 2)];rfl
 have e4:dI ω aT8=dv a 4:=by show arI .shr .u64 (dI ω aT7) 8=_;rw[e3,cK1 (hp 3)];rfl
 have e5:dI ω aT9=dv a 5:=by show arI .shr .u64 (dI ω aT8) 8=_;rw[e4,cK1 (hp 4)];rfl
 have e6:dI ω aU0=dv a 6:=by show arI .shr .u64 (dI ω aT9) 8=_;rw[e5,cK1 (hp 5)];rfl
 have row: ∀x:Int,Val.vl [.vi (IntKind.u8.wrap x)]= .vl [.vi (x % 256)]:=fun x=>by rw[wu8]
 have e7:den ω aU1= .vl [.vl [.vi (dv a 7 % 256)],.vl [.vi (dv a 6 % 256)],.vl [.vi (dv a 5 % 256)],.vl [.vi (dv a 4 % 256)],.vl [.vi (dv a 3 % 256)],.vl [.vi (dv a 2 % 256)],.vl [.vi (dv a 1 % 256)],.vl [.vi (dv a 0 % 256)]]:=by
  show Val.vl [.vl [.vi (IntKind.u8.wrap (arI .shr .u64 (dI ω aU0) 8))],.vl [.vi (IntKind.u8.wrap (dI ω aU0))],.vl [.vi (IntKind.u8.wrap (dI ω aT9))],.vl [.vi (IntKind.u8.wrap (dI ω aT8))],.vl [.vi (IntKind.u8.wrap (dI ω aT7))],.vl [.vi (IntKind.u8.wrap (dI ω aT6))],.vl [.vi (IntKind.u8.wrap (dI ω aT5))],.vl [.vi (IntKind.u8.wrap (dI ω aT4))]]=_
  rw[e0,e1,e2,e3,e4,e5,e6,cK1 (hp 6)]
  simp only[row];rfl
 unfold T_partI
 refine need_ok ?_ ?_
 ·show cK3 (den ω aU1).toL=true
  rw[e7]
  have b: ∀x:Int,(decide (0≤x % 256)&&decide (x % 256<256))=true:=fun x=>by
   rw[e8];exact⟨decide_eq_true (by omega),decide_eq_true (by omega)⟩
  simp only[cK3,Q4,List.all_cons,List.all_nil,m6,O9,b,G4]
 ·show some (0,[Val.vs (unV (den ω aU1).toL)])=_
  rw[e7];rfl
theorem d32{ω:Opq}{a b:SX}{n:Int}{x y:List UInt8}(ha:(den ω a).toS=x)(hb:(den ω b).toS=y)(h:(x.length:Int)+(y.length:Int)<n):dB ω (zs (.op .iadd [.op .slen [a],.op .slen [b]]) (.ci n))=true:=by
 show decide (((den ω a).toS.length:Int)+((den ω b).toS.length:Int)<n)=true
 rw[ha,hb];exact decide_eq_true h
theorem t_partT{ω:Opq}(hf: ∀i a,ω.f i a=FX X i a)(hn:(ω.w 0).toS.length≤1000):O8 T_partT ω=some (0,[FX X 301 [ω.w 0]]):=by
 have hF:FX X 301 [ω.w 0]= .vs (Z2 (ω.w 0).toS++[0,0]):=rfl
 have h3:(den ω (.app 300 [.va 0])).toS=Z2 (ω.w 0).toS:=by show(ω.f 300 [ω.w 0]).toS=_;rw[hf];exact d31 _
 have hl:=ap5 (ω.w 0).toS
 unfold T_partT
 refine need_ok (decide_eq_true (show((ω.w 0).toS.length:Int)≤1000 by omega)) (need_ok ?_ ?_)
 ·exact d32 (n:=4294967296) h3 rfl (by show((Z2 (ω.w 0).toS).length:Int)+(2:Nat)<4294967296;omega)
 ·show some (0,[Val.vs ((den ω (.app 300 [.va 0])).toS++[0,0])])=_
  rw[h3,hF]
theorem cr8(l:List UInt8):0<(bk6 l).length∧(bk6 l).length≤2*l.length+2:=by
 have:=ap5 l
 unfold bk6
 rw[j5]
 simp;omega
section
variable{ω:Opq}(hf: ∀i a,ω.f i a=FX X i a)
include hf
theorem bT(i:Nat):den ω (.op .sbytes [.app 301 [.va i]])= .vl (sbV (bk6 (ω.w i).toS)):=by
 show Val.vl (sbV (ω.f 301 [ω.w i]).toS)=_
 rw[hf];rfl
theorem bI(i:Nat):den ω (.op .sbytes [.app 302 [.va i]])= .vl (sbV (b16 (ω.w i).toI)):=by
 show Val.vl (sbV (ω.f 302 [ω.w i]).toS)=_
 rw[hf];rfl
end
def pk(r:Val):List UInt8:=(P3 r 0).toS
def ps(r:Val):Int:=(P3 r 1).toI
def pe(r:Val):Int:=(P3 r 2).toI
def bk8(sec:Bool)(k:List UInt8)(s e:Int):List UInt8:=bif sec then b16 e++bk6 k++b16 s else bk6 k++b16 e++b16 s
def txtR(sec:Bool)(r:Val):List UInt8:=bk8 sec (pk r) (ps r) (pe r)
noncomputable def cR8(x y:List UInt8):Int:=bif ltB x y then-1 else bif ltB y x then 1 else 0
theorem cr9(x y:List UInt8):cR8 x y<0↔ltB x y=true:=by
 unfold cR8
 cases ltB x y<;>cases ltB y x<;>simp
theorem ltB_ntrans{x y z:List UInt8}(h1:ltB x y=false)(h2:ltB y z=false):ltB x z=false:=by
 rw[←m8]
 intro h
 cases h3:ltB y x with
 |true=>have:=az6 h3 h;rw[h2]at this;cases this
 |false=>rw[b87 h1 h3]at h;rw[h2]at h;cases h
end Go.Ev.S8
namespace Go.Ev.S7
open Go Go.Ev
noncomputable def P8(sec:Option Bool)(a b:Val):Bool:=match sec with
 |none=>aH0 a b
 |some s=>ltB (S8.txtR s a) (S8.txtR s b)
theorem a68(sec:Option Bool)(a:Val):P8 sec a a=false:=match sec with
 |none=>am2 _
 |some s=>ap3 _
theorem bu7{sec:Option Bool}{a b c:Val}(h1:P8 sec a b=true)(h2:P8 sec b c=true):P8 sec a c=true:=match sec,h1,h2 with
 |none,h1,h2=>ag9 h1 h2
 |some s,h1,h2=>az6 h1 h2
theorem ah0{sec:Option Bool}{a b:Val}(h:P8 sec a b=true):P8 sec b a=false:=by
 rw[←m8]
 intro h2
 have:=bu7 h h2
 rw[a68]at this;cases this
theorem V6{sec:Option Bool}{a b c:Val}(h1:P8 sec a b=false)(h2:P8 sec b c=false):P8 sec a c=false:=match sec,h1,h2 with
 |none,h1,h2=>am3 h1 h2
 |some s,h1,h2=>S8.ltB_ntrans h1 h2
noncomputable def aH1(sec:Option Bool)(x:Val):List Val→List Val
 | []=>[x]
 |y::r=>if P8 sec x y then y::aH1 sec x r else x::y::r
noncomputable def dsc(sec:Option Bool)(l:List Val):List Val:=l.foldl (fun s x=>aH1 sec x s) []
noncomputable def srt(sec:Option Bool)(l:List Val):List Val:=(dsc sec l).reverse
theorem cK6(sec:Option Bool)(l:List Val)(x:Val):dsc sec (l++[x])=aH1 sec x (dsc sec l):=by simp[dsc]
theorem a23(sec:Option Bool)(x:Val): ∀s:List Val,(aH1 sec x s).Perm (x::s)
 | []=> .refl _
 |y::r=>by
  unfold aH1
  split
  ·exact((a23 sec x r).cons y).trans (.swap x y r)
  ·exact .refl _
theorem aJ3(sec:Option Bool)(l:List Val): ∀s:List Val,(l.foldl (fun s x=>aH1 sec x s) s).Perm (l++s):=by
 induction l with
 |nil=>intro s;exact .refl _
 |cons x l ih=>
  intro s
  rw[List.foldl_cons]
  exact(ih _).trans (((a23 sec x s).append_left l).trans List.perm_middle)
theorem srt_perm(sec:Option Bool)(l:List Val):(srt sec l).Perm l:=by
 have:=aJ3 sec l []
 rw[v8]at this
 exact(List.reverse_perm _).trans this
theorem am5(sec:Option Bool)(l:List Val):(srt sec l).length=l.length:=(srt_perm sec l).length_eq
theorem ab4(sec:Option Bool)(x:Val): ∀s:List Val,s.Pairwise (fun a b=>P8 sec a b=false)→(aH1 sec x s).Pairwise (fun a b=>P8 sec a b=false)
 | [],_=>by simp[aH1]
 |y::r,h=>by
  unfold aH1
  rw[A5]at h
  split
  ·rename_i hl
   rw[A5]
   refine⟨fun z hz=> ?_,ab4 sec x r h.2⟩
   rcases r6.1 ((a23 sec x r).mem_iff.1 hz)with rfl|hz
   ·exact ah0 hl
   ·exact h.1 z hz
  ·rename_i hl
   have hl:P8 sec x y=false:=by simpa using hl
   rw[A5,A5]
   refine⟨fun z hz=> ?_,h⟩
   rcases r6.1 hz with rfl|hz
   ·exact hl
   ·exact V6 hl (h.1 z hz)
theorem ap4(sec:Option Bool)(l:List Val): ∀s:List Val,s.Pairwise (fun a b=>P8 sec a b=false)→(l.foldl (fun s x=>aH1 sec x s) s).Pairwise (fun a b=>P8 sec a b=false):=by
 induction l with
 |nil=>intro s h;exact h
 |cons x l ih=>intro s h;exact ih _ (ab4 sec x s h)
theorem a08(sec:Option Bool)(l:List Val):(srt sec l).Pairwise (fun a b=>P8 sec b a=false):=by
 unfold srt
 rw[List.pairwise_reverse]
 exact ap4 sec l [] .nil
theorem bu3(a b:List Val)(k:Nat)(h:a.length=k):atV (a++b) k=atV b 0:=by
 subst h
 unfold atV
 rw[i3,i3,k5 (b9 _),B0]
noncomputable def eqv(sec:Option Bool)(x y:Val):Bool:= !P8 sec x y&& !P8 sec y x
def Sd(sec:Option Bool)(l:List Val):Prop:=l.Pairwise (fun a b=>P8 sec b a=false)
def Cl(sec:Option Bool)(l q:List Val):Prop:= ∀x,l.filter (eqv sec x)=q.filter (eqv sec x)
theorem bG1(sec:Option Bool)(x:Val):eqv sec x x=true:=by simp[eqv,a68]
theorem eqv_iff{sec:Option Bool}{x y:Val}:eqv sec x y=true↔P8 sec x y=false∧P8 sec y x=false:=by simp[eqv]
theorem cy3{sec:Option Bool}{x y z:Val}(h:P8 sec y z=true)(h1:eqv sec x y=true):eqv sec x z=false:=by
 rw[←m8]
 intro h2
 obtain⟨a1,a2⟩:=eqv_iff.1 h1
 obtain⟨b1,b2⟩:=eqv_iff.1 h2
 have:=V6 a2 b1
 rw[h]at this;cases this
theorem Cl.refl(sec:Option Bool)(l:List Val):Cl sec l l:=fun _=>rfl
theorem Cl.symm{sec:Option Bool}{l q:List Val}(h:Cl sec l q):Cl sec q l:=fun x=>(h x).symm
theorem Cl.trans{sec:Option Bool}{l q r:List Val}(h:Cl sec l q)(h2:Cl sec q r):Cl sec l r:=fun x=>(h x).trans (h2 x)
theorem Cl.app{sec:Option Bool}{a b c d:List Val}(h:Cl sec a b)(h2:Cl sec c d):Cl sec (a++c) (b++d):=fun x=>by
 rw[B8,B8,h x,h2 x]
theorem bu8{sec:Option Bool}{A B:List Val}(h: ∀a∈A,∀b∈B,P8 sec b a=true):Cl sec (A++B) (B++A):=fun x=>by
 rw[B8,B8]
 cases hA:A.filter (eqv sec x)with
 |nil=>simp
 |cons a l=>
  have ha:a∈A.filter (eqv sec x):=by rw[hA];simp
  have hB:B.filter (eqv sec x)=[]:=by
   rw[List.filter_eq_nil_iff]
   intro b hb hx
   have:=cy3 (h a (s9.1 ha).1 b hb) hx
   rw[(s9.1 ha).2]at this;cases this
  rw[hB];simp
theorem bG2{sec:Option Bool}{l q:List Val}(h:Cl sec l q){x:Val}(hx:x∈l):x∈q:=by
 have:x∈l.filter (eqv sec x):=s9.2 ⟨hx,bG1 sec x⟩
 rw[h x]at this
 exact(s9.1 this).1
theorem ca9{sec:Option Bool}: ∀{l q:List Val},Sd sec l→Sd sec q→Cl sec l q→l=q
 | [],[],_,_,_=>rfl
 | [],y::q,_,_,h=>by have:=bG2 h.symm (x:=y) (by simp);cases this
 |x::l,[],_,_,h=>by have:=bG2 h (x:=x) (by simp);cases this
 |x::l,y::q,h1,h2,h=>by
  have g1:=A5.1 h1
  have g2:=A5.1 h2
  have e1:P8 sec x y=false:=by
   rcases r6.1 (bG2 h (x:=x) (by simp))with e|e
   ·rw[e];exact a68 sec y
   ·exact g2.1 x e
  have e2:P8 sec y x=false:=by
   rcases r6.1 (bG2 h.symm (x:=y) (by simp))with e|e
   ·rw[e];exact a68 sec x
   ·exact g1.1 y e
  have hx:=h x
  rw[z8,if_pos (bG1 sec x),z8,if_pos (eqv_iff.2 ⟨e1,e2⟩)]at hx
  injection hx with hxy _
  subst hxy
  congr 1
  refine ca9 g1.2 g2.2 fun z=> ?_
  have hz:=h z
  rw[z8,z8]at hz
  split at hz
  ·injection hz
  ·exact hz
theorem cb0{sec:Option Bool}(x z:Val): ∀s:List Val,(aH1 sec x s).filter (eqv sec z)=(x::s).filter (eqv sec z)
 | []=>rfl
 |y::r=>by
  unfold aH1
  split
  ·rename_i hl
   rw[z8,cb0 x z r,z8,z8,z8]
   cases h1:eqv sec z x with
   |false=>simp
   |true=>rw[cy3 hl h1];simp
  ·rfl
theorem cy4{sec:Option Bool}(z:Val): ∀(l s:List Val),(l.foldl (fun s x=>aH1 sec x s) s).filter (eqv sec z)=(l.reverse++s).filter (eqv sec z)
 | [],s=>rfl
 |x::l,s=>by
  rw[List.foldl_cons,cy4 z l,B8,cb0,←B8]
  simp
theorem bk9(sec:Option Bool)(l:List Val):Cl sec (srt sec l) l:=fun z=>by
 unfold srt
 rw[List.filter_reverse]
 have:=cy4 (sec:=sec) z l []
 unfold dsc
 rw[this,v8,List.filter_reverse,List.reverse_reverse]
theorem bl0{sec:Option Bool}{l q:List Val}(hs:Sd sec q)(hc:Cl sec q l):srt sec l=q:=ca9 (a08 sec l) hs ((bk9 sec l).trans hc.symm)
theorem aU5{sec:Option Bool}{l:List Val}(hs:Sd sec l):srt sec l=l:=bl0 hs (Cl.refl sec l)
theorem cb1{sec:Option Bool}{l:List Val}{x:Val}:x∈srt sec l↔x∈l:=(srt_perm sec l).mem_iff
def seg(l:List Val)(a b:Nat):List Val:=(l.take b).drop a
theorem X5{l:List Val}{a b:Nat}(h:b≤l.length):(seg l a b).length=b-a:=by
 unfold seg;rw[List.length_drop,List.length_take];omega
theorem W8{l:List Val}{a m b:Nat}(h1:a≤m)(h2:m≤b):seg l a m++seg l m b=seg l a b:=by
 unfold seg
 have e:l.take m=(l.take b).take m:=by rw[I5,x8 h2]
 rw[e]
 generalize l.take b=q
 have:q.drop m=(q.drop a).drop (m-a):=by rw[I7,show a+(m-a)=m by omega]
 rw[I6,this,s7]
theorem cb2{l:List Val}{a b:Nat}(h1:a≤b):l=l.take a++seg l a b++l.drop b:=by
 have e:l.take a=seg l 0 a:=by simp[seg]
 rw[e,W8 (q9 a) h1]
 simp[seg]
theorem aG1{P U Q:List Val}{a b:Nat}(ha:a=P.length)(hb:b=P.length+U.length):seg (P++U++Q) a b=U:=by
 subst ha;subst hb
 unfold seg
 rw[J8 (by simp),J9 rfl]
theorem atV_mid{P Q:List Val}{x:Val}{k:Nat}(h:k=P.length):atV (P++x::Q) k=x:=by
 subst h
 unfold atV
 rw[i3,k5 (b9 _),B0];rfl
theorem set_mid{P Q:List Val}{x y:Val}{k:Nat}(h:k=P.length):(P++x::Q).set k y=P++y::Q:=by
 subst h
 rw[K2,if_neg (E3 _),B0];rfl
theorem cb3{l:List Val}{a b k:Nat}(h1:b≤l.length)(h2:a+k<b):atV (seg l a b) k=atV l (a+k):=by
 unfold seg atV
 rw[i3,i3,t8,s6,if_pos h2]
theorem atV_mem{l:List Val}{k:Nat}(h:k<l.length):atV l k∈l:=by
 unfold atV
 rw[i3,j7 h]
 exact List.getElem_mem h
theorem mem_atV{l:List Val}{x:Val}(h:x∈l): ∃k,k<l.length∧x=atV l k:=by
 obtain⟨k,hk,rfl⟩:=G8 h
 refine⟨k,hk,?_⟩
 unfold atV
 rw[i3,j7 hk];rfl
theorem am6{l:List Val}{a b:Nat}{x:Val}(hb:b≤l.length)(h:x∈seg l a b): ∃k,a≤k∧k<b∧x=atV l k:=by
 obtain⟨k,hk,e⟩:=mem_atV h
 rw[X5 hb]at hk
 exact⟨a+k,by omega,by omega,e.trans (cb3 hb (by omega))⟩
def swp(l:List Val)(i j:Nat):List Val:=(l.set i (atV l j)).set j (atV l i)
theorem aU6(l:List Val)(i j:Nat):(swp l i j).length=l.length:=by simp[swp]
theorem bG3{P M Q:List Val}{x y:Val}{i j:Nat}(hi:i=P.length)(hj:j=P.length+1+M.length):swp (P++x::(M++y::Q)) i j=P++y::(M++x::Q):=by
 have e1:P++x::(M++y::Q)=(P++x::M)++y::Q:=by simp
 have a1:atV (P++x::(M++y::Q)) j=y:=by rw[e1];exact atV_mid (by rw[hj];simp;omega)
 unfold swp
 rw[a1,atV_mid hi,set_mid hi,show P++y::(M++y::Q)=(P++y::M)++y::Q by simp,set_mid (by rw[hj];simp;omega)]
 simp
theorem b91{l:List Val}{i j:Nat}(h:i≠j):swp l i j=swp l j i:=by
 unfold swp;exact List.set_comm _ _ h
def swN(l:List Val)(a b:Nat):Nat→List Val
 |0=>l
 |n+1=>swp (swN l a b n) (a+n) (b+n)
theorem a05(l:List Val)(a b:Nat): ∀n,(swN l a b n).length=l.length
 |0=>rfl
 |n+1=>by rw[swN,aU6,a05 l a b n]
theorem bu9{l:List Val}{n:Nat}(h:l.length=n+1): ∃q x,l=q++[x]∧q.length=n:=by
 rcases List.eq_nil_or_concat l with e|⟨q,x,e⟩
 ·rw[e]at h;cases h
 ·refine⟨q,x,by rw[e,List.concat_eq_append],?_⟩
  rw[e]at h;simpa using h
theorem bG4: ∀(n:Nat) {P A X B Q:List Val} {a b:Nat},A.length=n→B.length=n→a=P.length→b=P.length+n+X.length→swN (P++(A++(X++(B++Q)))) a b n=P++(B++(X++(A++Q)))
 |0,P,A,X,B,Q,a,b,hA,hB,_,_=>by
  rw[x6.1 hA,x6.1 hB];rfl
 |n+1,P,A,X,B,Q,a,b,hA,hB,ha,hb=>by
  obtain⟨A',x,rfl,h1⟩:=bu9 hA
  obtain⟨B',y,rfl,h2⟩:=bu9 hB
  have ih:=bG4 n (P:=P) (A:=A') (X:=x::X) (B:=B') (Q:=y::Q) (a:=a) (b:=b) h1 h2 ha (by simp;omega)
  have e:P++((A'++[x])++(X++((B'++[y])++Q)))=P++(A'++(x::X++(B'++y::Q))):=by simp
  rw[e,swN,ih,show P++(B'++(x::X++(A'++y::Q)))=(P++B')++x::((X++A')++y::Q) by simp,bG3 (by simp;omega) (by simp;omega)]
  simp
def cb4(l:List Val)(a m b:Nat):List Val:=l.take a++(seg l m b++(seg l a m++l.drop b))
theorem dj5{l:List Val}{a m b:Nat}(h1:a≤m)(h2:m≤b):l=l.take a++(seg l a m++(seg l m b++l.drop b)):=by
 conv=>lhs;rw[cb2 (l:=l) (r8 h1 h2),←W8 h1 h2]
 simp
theorem cR9{l:List Val}{a b:Nat}(h1:a≤b):l=l.take a++(seg l a b++l.drop b):=by
 conv=>lhs;rw[cb2 (l:=l) h1]
 simp
theorem cK7{P U V Q:List Val}{a m b:Nat}(ha:a=P.length)(hm:m=P.length+U.length)(hb:b=P.length+U.length+V.length):cb4 (P++(U++(V++Q))) a m b=P++(V++(U++Q)):=by
 have e1:seg (P++(U++(V++Q))) a m=U:=by
  rw[show P++(U++(V++Q))=P++U++(V++Q) by simp];exact aG1 ha hm
 have e2:seg (P++(U++(V++Q))) m b=V:=by
  rw[show P++(U++(V++Q))=(P++U)++V++Q by simp];exact aG1 (by simp;omega) (by simp;omega)
 unfold cb4
 rw[e1,e2,J8 ha.symm,show P++(U++(V++Q))=(P++(U++V))++Q by simp,J9 (by simp;omega)]
def ar4(m:Nat):Nat→Nat→Nat→List Val→Nat×List Val
 |0,i,_,l=>(i,l)
 |n+1,i,j,l=>if i=j then(i,l)else if j<i then ar4 m n (i-j) j (swN l (m-i) m j)else ar4 m n i (j-i) (swN l (m-i) (m+j-i) i)
theorem aA1(m:Nat): ∀(n i j:Nat) (P U V Q:List Val),i+j≤n+1→0<i→0<j→U.length=i→V.length=j→m=P.length+i→
 let r:=ar4 m n i j (P++(U++(V++Q)))
 0<r.1∧r.1≤i∧r.1≤j∧r.2.length=(P++(U++(V++Q))).length∧swN r.2 (m-r.1) m r.1=P++(V++(U++Q))
 |0,i,j,P,U,V,Q,hn,hi,hj,hU,hV,hm=>by omega
 |n+1,i,j,P,U,V,Q,hn,hi,hj,hU,hV,hm=>by
  unfold ar4
  by_cases h1:i=j
  ·rw[if_pos h1]
   refine⟨hi,b9 _,by simp;omega,rfl,?_⟩
   have:=bG4 i (P:=P) (A:=U) (X:=[]) (B:=V) (Q:=Q) (a:=m-i) (b:=m) hU (by omega) (by omega) (by simp;omega)
   simpa using this
  ·rw[if_neg h1]
   by_cases h2:j<i
   ·rw[if_pos h2]
    obtain⟨U1,U2,rfl,hU1⟩: ∃U1 U2,U=U1++U2∧U1.length=j:=⟨U.take j,U.drop j,(s7 j U).symm,by rw[j0];omega⟩
    have hU2:U2.length=i-j:=by rw[j5]at hU;omega
    have e:=bG4 j (P:=P) (A:=U1) (X:=U2) (B:=V) (Q:=Q) (a:=m-i) (b:=m) hU1 hV (by omega) (by omega)
    rw[show P++((U1++U2)++(V++Q))=P++(U1++(U2++(V++Q))) by simp,e]
    have ih:=aA1 m n (i-j) j (P++V) U2 U1 Q (by omega) (by omega) hj hU2 hU1 (by simp;omega)
    rw[show(P++V)++(U2++(U1++Q))=P++(V++(U2++(U1++Q))) by simp]at ih
    obtain⟨g1,g2,g3,g4,g5⟩:=ih
    exact⟨g1,by omega,g3,g4.trans (by simp;omega),g5.trans (by simp)⟩
   ·rw[if_neg h2]
    obtain⟨V1,V2,rfl,hV1⟩: ∃V1 V2,V=V1++V2∧V1.length=j-i:=⟨V.take (j-i),V.drop (j-i),(s7 (j-i) V).symm,by rw[j0];omega⟩
    have hV2:V2.length=i:=by rw[j5]at hV;omega
    have e:=bG4 i (P:=P) (A:=U) (X:=V1) (B:=V2) (Q:=Q) (a:=m-i) (b:=m+j-i) hU hV2 (by omega) (by omega)
    rw[show P++(U++((V1++V2)++Q))=P++(U++(V1++(V2++Q))) by simp,e]
    have ih:=aA1 m n i (j-i) P V2 V1 (U++Q) (by omega) hi (by omega) hV2 hV1 hm
    obtain⟨g1,g2,g3,g4,g5⟩:=ih
    exact⟨g1,g2,by omega,g4.trans (by simp;omega),g5.trans (by simp)⟩
def mvU(l:List Val)(a:Nat):Nat→List Val
 |0=>l
 |n+1=>swp (mvU l a n) (a+n) (a+n+1)
theorem au2(l:List Val)(a:Nat): ∀n,(mvU l a n).length=l.length
 |0=>rfl
 |n+1=>by rw[mvU,aU6,au2 l a n]
theorem cy5: ∀(n:Nat) {P Y Q:List Val} {x:Val} {a:Nat},Y.length=n→a=P.length→mvU (P++x::(Y++Q)) a n=P++(Y++x::Q)
 |0,P,Y,Q,x,a,hY,_=>by rw[x6.1 hY];rfl
 |n+1,P,Y,Q,x,a,hY,ha=>by
  obtain⟨Y',y,rfl,h1⟩:=bu9 hY
  have ih:=cy5 n (P:=P) (Y:=Y') (Q:=y::Q) (x:=x) (a:=a) h1 ha
  rw[show P++x::((Y'++[y])++Q)=P++x::(Y'++y::Q) by simp,mvU,ih,show P++(Y'++x::y::Q)=(P++Y')++x::([]++y::Q) by simp,bG3 (by simp;omega) (by simp;omega)]
  simp
def mvD(l:List Val)(m:Nat):Nat→List Val
 |0=>l
 |n+1=>swp (mvD l m n) (m-n-1) (m-n)
theorem au3(l:List Val)(m:Nat): ∀n,(mvD l m n).length=l.length
 |0=>rfl
 |n+1=>by rw[mvD,aU6,au3 l m n]
theorem cy6: ∀(n:Nat) {P Y Q:List Val} {x:Val} {m:Nat},Y.length=n→m=P.length+n→mvD (P++(Y++x::Q)) m n=P++x::(Y++Q)
 |0,P,Y,Q,x,m,hY,_=>by rw[x6.1 hY];rfl
 |n+1,P,Y,Q,x,m,hY,hm=>by
  cases Y with
  |nil=>cases hY
  |cons y Y'=>
   have ih:=cy6 n (P:=P++[y]) (Y:=Y') (Q:=Q) (x:=x) (m:=m) (by simpa using hY) (by simp;omega)
   rw[show P++(y::Y'++x::Q)=(P++[y])++(Y'++x::Q) by simp,mvD,ih,show(P++[y])++x::(Y'++Q)=P++y::([]++x::(Y'++Q)) by simp,bG3 (by omega) (by simp;omega)]
   simp
def bs(T:Nat→Bool):Nat→Nat→Nat→Nat
 |0,i,_=>i
 |n+1,i,j=>if i<j then(if T ((i+j)/2)then bs T n ((i+j)/2+1) j else bs T n i ((i+j)/2))else i
theorem aU7{T:Nat→Bool}{lo hi:Nat}(mono: ∀c d,lo≤c→c≤d→d<hi→T d=true→T c=true): ∀n i j,lo≤i→i≤j→j≤hi→j-i≤n→(∀c,lo≤c→c<i→T c=true)→(∀c,j≤c→c<hi→T c=false)→
 i≤bs T n i j∧bs T n i j≤j∧(∀c,lo≤c→c<bs T n i j→T c=true)∧ ∀c,bs T n i j≤c→c<hi→T c=false
 |0,i,j,h1,h2,h3,h4,h5,h6=>by
  have:i=j:=by omega
  subst this
  exact⟨b9 _,b9 _,h5,h6⟩
 |n+1,i,j,h1,h2,h3,h4,h5,h6=>by
  unfold bs
  by_cases hij:i<j
  ·rw[if_pos hij]
   by_cases hT:T ((i+j)/2)=true
   ·rw[if_pos hT]
    obtain⟨a,b,c⟩:=aU7 mono n ((i+j)/2+1) j (by omega) (by omega) h3 (by omega) (fun c hc1 hc2=>mono c ((i+j)/2) hc1 (by omega) (by omega) hT) h6
    exact⟨by omega,b,c⟩
   ·rw[if_neg hT]
    obtain⟨a,b,c⟩:=aU7 mono n i ((i+j)/2) h1 (by omega) (by omega) (by omega) h5 (fun c hc1 hc2=>by
      rw[←m8]
      exact fun hc=>hT (mono _ c (by omega) hc1 hc2 hc))
    exact⟨a,by omega,c⟩
  ·rw[if_neg hij]
   have:i=j:=by omega
   subst this
   exact⟨b9 _,b9 _,h5,h6⟩
theorem b92{step:List Val→Option (Nat×List Val)}{T:Nat→Bool}{lo hi:Nat}(h1: ∀i j:Nat,lo≤i→i<j→j≤hi→step [.vi i,.vi j]=some (0,if T ((i+j)/2)then [.vi ((i+j)/2+1:Nat),.vi j]else [.vi i,.vi ((i+j)/2:Nat)]))(h2: ∀i:Nat,step [.vi i,.vi i]=some (1,[.vi i,.vi i])):
 ∀(n i j:Nat),lo≤i→i≤j→j≤hi→j-i≤n→Iter step [.vi i,.vi j] 0 [.vi (bs T n i j),.vi (bs T n i j)]
 |0,i,j,a,b,c,d=>by
  have:i=j:=by omega
  subst this
  exact .out (h2 i)
 |n+1,i,j,a,b,c,d=>by
  unfold bs
  by_cases hij:i<j
  ·rw[if_pos hij]
   have e:=h1 i j a hij c
   by_cases hT:T ((i+j)/2)=true
   ·rw[if_pos hT]at e⊢
    exact .more e (b92 h1 h2 n ((i+j)/2+1) j (by omega) (by omega) c (by omega))
   ·rw[if_neg hT]at e⊢
    exact .more e (b92 h1 h2 n i ((i+j)/2) a (by omega) (by omega) (by omega))
  ·rw[if_neg hij]
   have:i=j:=by omega
   subst this
   exact .out (h2 i)
end Go.Ev.S7
namespace Go.Ev.S7
open Go Go.Ev
noncomputable def V3(sec:Option Bool)(l:List Val)(a b:Nat):List Val:=l.take a++(srt sec (seg l a b)++l.drop b)
theorem ab5(sec:Option Bool){l:List Val}{a b:Nat}(h:a≤b):(V3 sec l a b).Perm l:=by
 conv=>rhs;rw[cR9 (l:=l) h]
 exact((srt_perm sec _).append_right _).append_left _
theorem b93(sec:Option Bool){l:List Val}{a b:Nat}(h:a≤b):(V3 sec l a b).length=l.length:=(ab5 sec h).length_eq
theorem cb5{sec:Option Bool}{P U Q:List Val}{a b:Nat}(ha:a=P.length)(hb:b=P.length+U.length):V3 sec (P++(U++Q)) a b=P++(srt sec U++Q):=by
 have e1:seg (P++(U++Q)) a b=U:=by
  rw[show P++(U++Q)=P++U++Q by simp];exact aG1 ha hb
 unfold V3
 rw[e1,J8 ha.symm,show P++(U++Q)=(P++U)++Q by simp,J9 (by simp;omega)]
theorem aA2{sec:Option Bool}{A B:List Val}:Sd sec (A++B)↔Sd sec A∧Sd sec B∧ ∀a∈A,∀b∈B,P8 sec b a=false:=List.pairwise_append
theorem bl1{sec:Option Bool}{l:List Val}{a b i j:Nat}(h:Sd sec (seg l a b))(hb:b≤l.length)(h1:a≤i)(h2:i≤j)(h3:j<b):P8 sec (atV l j) (atV l i)=false:=by
 rcases i4 i j with hij|hij
 ·unfold Sd at h
  rw[I0]at h
  have hl:=X5 (l:=l) (a:=a) hb
  have:=h (i-a) (j-a) (by omega) (by omega) (by omega)
  have e: ∀k (hk:k<(seg l a b).length),(seg l a b)[k]=atV l (a+k):=fun k hk=>by
   rw[←cb3 hb (by omega)]
   unfold atV
   rw[i3,j7 hk];rfl
  rw[e,e,show a+(i-a)=i by omega,show a+(j-a)=j by omega]at this
  exact this
 ·have:i=j:=by omega
  subst this
  exact a68 sec _
theorem bG5{sec:Option Bool}{l:List Val}{a b c d:Nat}(h:Sd sec (seg l a b))(h1:a≤c)(h2:c≤d)(h3:d≤b):Sd sec (seg l c d):=by
 rw[←W8 h1 (r8 h2 h3),←W8 h2 h3]at h
 exact(aA2.1 (aA2.1 h).2.1).1
theorem bv0{l:List Val}{a:Nat}(h:a<l.length):seg l a (a+1)=[atV l a]:=by
 unfold seg
 rw[O0,I4,D9 (by rw[j0];omega)]
 unfold atV
 rw[j0,show a-min a l.length=0 by omega,i3,j7 h];rfl
theorem bv1{l:List Val}{a b:Nat}(h:b≤a):seg l a b=[]:=by
 unfold seg
 exact D9 (by rw[j0];omega)
theorem de6{sec:Option Bool}{a b c:Val}(h1:P8 sec a b=true)(h2:P8 sec c b=false):P8 sec a c=true:=by
 cases h:P8 sec a c with
 |true=>rfl
 |false=>have:=V6 h h2;rw[h1]at this;cases this
theorem d33{sec:Option Bool}{a b c:Val}(h1:P8 sec b a=false)(h2:P8 sec b c=true):P8 sec a c=true:=by
 cases h:P8 sec a c with
 |true=>rfl
 |false=>have:=V6 h1 h;rw[h2]at this;cases this
theorem cb6{sec:Option Bool}{l:List Val}{a b:Nat}(h1:a+1<b)(hb:b≤l.length)(hs:Sd sec (seg l (a+1) b)):
 a+1≤bs (fun h=>P8 sec (atV l h) (atV l a)) (b-(a+1)) (a+1) b∧bs (fun h=>P8 sec (atV l h) (atV l a)) (b-(a+1)) (a+1) b≤b∧
  mvU l a (bs (fun h=>P8 sec (atV l h) (atV l a)) (b-(a+1)) (a+1) b-1-a)=V3 sec l a b:=by
 have sp:=aU7 (T:=fun h=>P8 sec (atV l h) (atV l a)) (lo:=a+1) (hi:=b) (fun c d hc hcd hd hT=>d33 (bl1 hs hb hc hcd hd) hT) (b-(a+1)) (a+1) b (b9 _) (by omega) (b9 _) (b9 _) (fun c _ _=>by omega) (fun c _ _=>by omega)
 generalize bs (fun h=>P8 sec (atV l h) (atV l a)) (b-(a+1)) (a+1) b=r at sp⊢
 obtain⟨r1,r2,r3,r4⟩:=sp
 refine⟨r1,r2,?_⟩
 have e1:seg l a b=atV l a::(seg l (a+1) r++seg l r b):=by
  rw[W8 r1 r2,←W8 (a:=a) (m:=a+1) (b:=b) (by omega) (by omega),bv0 (by omega)];rfl
 have e2:l=l.take a++atV l a::(seg l (a+1) r++(seg l r b++l.drop b)):=by
  conv=>lhs;rw[cR9 (l:=l) (a:=a) (b:=b) (by omega),e1]
  simp
 have hA: ∀x∈seg l (a+1) r,P8 sec x (atV l a)=true:=fun x hx=>by
  obtain⟨k,k1,k2,rfl⟩:=am6 (by omega) hx
  exact r3 k k1 k2
 have hB: ∀x∈seg l r b,P8 sec x (atV l a)=false:=fun x hx=>by
  obtain⟨k,k1,k2,rfl⟩:=am6 hb hx
  exact r4 k k1 k2
 have hAB:=aA2.1 (show Sd sec (seg l (a+1) r++seg l r b) by rw[W8 r1 r2];exact hs)
 have e3:srt sec (seg l a b)=seg l (a+1) r++atV l a::seg l r b:=by
  refine bl0 (aA2.2 ⟨hAB.1,A5.2 ⟨hB,hAB.2.1⟩,fun x hx y hy=> ?_⟩) ?_
  ·rcases r6.1 hy with rfl|hy
   ·exact ah0 (hA x hx)
   ·exact hAB.2.2 x hx y hy
  ·rw[e1]
   have:=(bu8 (sec:=sec) (A:=[atV l a]) (B:=seg l (a+1) r) (fun x hx y hy=>by rw[x7.1 hx];exact hA y hy)).symm.app (Cl.refl sec (seg l r b))
   simpa using this
 have e4:=cy5 (r-1-a) (P:=l.take a) (Y:=seg l (a+1) r) (Q:=seg l r b++l.drop b) (x:=atV l a) (a:=a) (by rw[X5 (by omega)];omega) (by rw[j0];omega)
 rw[←e2]at e4
 rw[e4]
 unfold V3
 rw[e3]
 simp
theorem cb7{sec:Option Bool}{l:List Val}{a m:Nat}(h1:a<m)(hb:m+1≤l.length)(hs:Sd sec (seg l a m)):
 a≤bs (fun h=> !P8 sec (atV l m) (atV l h)) (m-a) a m∧bs (fun h=> !P8 sec (atV l m) (atV l h)) (m-a) a m≤m∧
  mvD l m (m-bs (fun h=> !P8 sec (atV l m) (atV l h)) (m-a) a m)=V3 sec l a (m+1):=by
 have sp:=aU7 (T:=fun h=> !P8 sec (atV l m) (atV l h)) (lo:=a) (hi:=m) (fun c d hc hcd hd hT=>by
  simp only[n9]at hT⊢
  exact V6 hT (bl1 hs (by omega) hc hcd hd)) (m-a) a m (b9 _) (by omega) (b9 _) (b9 _) (fun c _ _=>by omega) (fun c _ _=>by omega)
 generalize bs (fun h=> !P8 sec (atV l m) (atV l h)) (m-a) a m=r at sp⊢
 obtain⟨r1,r2,r3,r4⟩:=sp
 refine⟨r1,r2,?_⟩
 have e1:seg l a (m+1)=seg l a r++(seg l r m++[atV l m]):=by
  rw[←u5,W8 r1 r2,←W8 (a:=a) (m:=m) (b:=m+1) (by omega) (by omega),bv0 (by omega)]
 have e2:l=(l.take a++seg l a r)++(seg l r m++atV l m::l.drop (m+1)):=by
  conv=>lhs;rw[cR9 (l:=l) (a:=a) (b:=m+1) (by omega),e1]
  simp
 have hA: ∀x∈seg l a r,P8 sec (atV l m) x=false:=fun x hx=>by
  obtain⟨k,k1,k2,rfl⟩:=am6 (by omega) hx
  simpa using r3 k k1 k2
 have hB: ∀x∈seg l r m,P8 sec (atV l m) x=true:=fun x hx=>by
  obtain⟨k,k1,k2,rfl⟩:=am6 (by omega) hx
  simpa using r4 k k1 k2
 have hAB:=aA2.1 (show Sd sec (seg l a r++seg l r m) by rw[W8 r1 r2];exact hs)
 have e3:srt sec (seg l a (m+1))=seg l a r++atV l m::seg l r m:=by
  refine bl0 (aA2.2 ⟨hAB.1,A5.2 ⟨fun y hy=>ah0 (hB y hy),hAB.2.1⟩,fun x hx y hy=> ?_⟩) ?_
  ·rcases r6.1 hy with rfl|hy
   ·exact hA x hx
   ·exact hAB.2.2 x hx y hy
  ·rw[e1]
   have:=(Cl.refl sec (seg l a r)).app (bu8 (sec:=sec) (A:=seg l r m) (B:=[atV l m]) (fun x hx y hy=>by rw[x7.1 hy];exact hB x hx)).symm
   simpa using this
 have e4:=cy6 (m-r) (P:=l.take a++seg l a r) (Y:=seg l r m) (Q:=l.drop (m+1)) (x:=atV l m) (m:=m) (by rw[X5 (by omega)]) (by rw[j5,j0,X5 (by omega)];omega)
 rw[←e2]at e4
 rw[e4]
 unfold V3
 rw[e3]
 simp
theorem cb8{sec:Option Bool}{l:List Val}{a m b mid lo hi r:Nat}(h1:a<m)(h2:m<b)(hb:b≤l.length)(hs1:Sd sec (seg l a m))(hs2:Sd sec (seg l m b))(hmid:mid=(a+b)/2)
 (hlh:mid<m∧lo=mid+m-b∧hi=mid∨m≤mid∧lo=a∧hi=m) (hr:r=bs (fun c=> !P8 sec (atV l (mid+m-1-c)) (atV l c)) (hi-lo) lo hi):
 a≤r∧r≤m∧r≤mid∧mid+m-r≤b∧ ∃l1 l2,(r<m→m<mid+m-r→cb4 l r m (mid+m-r)=l1)∧(¬(r<m∧m<mid+m-r)→l=l1)∧l1.Perm l∧Sd sec (seg l1 a r)∧Sd sec (seg l1 r mid)∧
  (a<r→r<mid→V3 sec l1 a mid=l2)∧(¬(a<r∧r<mid)→l1=l2)∧l2.Perm l∧Sd sec (seg l2 mid (mid+m-r))∧Sd sec (seg l2 (mid+m-r) b)∧
  (mid<mid+m-r→mid+m-r<b→V3 sec l2 mid b=V3 sec l a b)∧(¬(mid<mid+m-r∧mid+m-r<b)→l2=V3 sec l a b):=by
 have hm1:a<mid:=by omega
 have hm2:mid<b:=by omega
 have hlo:a≤lo:=by omega
 have hhi:hi≤m:=by omega
 have hhm:hi≤mid:=by omega
 have hle:lo≤hi:=by omega
 have hlb:mid+m-b≤lo:=by omega
 have sp:=aU7 (T:=fun c=> !P8 sec (atV l (mid+m-1-c)) (atV l c)) (lo:=lo) (hi:=hi) (fun c d hc hcd hd hT=>by
  simp only[n9]at hT⊢
  have g1:=bl1 hs1 (by omega) (show a≤c by omega) hcd (by omega)
  have g2:=bl1 hs2 hb (show m≤mid+m-1-d by omega) (show mid+m-1-d≤mid+m-1-c by omega) (by omega)
  exact V6 g2 (V6 hT g1)) (hi-lo) lo hi (b9 _) hle (b9 _) (b9 _) (fun c _ _=>by omega) (fun c _ _=>by omega)
 rw[←hr]at sp
 obtain⟨r1,r2,r3,r4⟩:=sp
 have q1:a≤r:=by omega
 have q2:r≤m:=by omega
 have q3:r≤mid:=by omega
 have q4:mid+m-r≤b:=by omega
 refine⟨q1,q2,q3,q4,?_⟩
 obtain⟨e,he⟩: ∃e,e=mid+m-r:=⟨_,rfl⟩
 rw[←he]at q4⊢
 have q5:m≤e:=by omega
 have F1: ∀x∈seg l r m,∀y∈seg l m e,P8 sec y x=true:=fun x hx y hy=>by
  obtain⟨i,i1,i2,rfl⟩:=am6 (by omega) hx
  obtain⟨j,j1,j2,rfl⟩:=am6 (by omega) hy
  have hT:=r4 r (b9 _) (by omega)
  simp only[K4]at hT
  rw[show mid+m-1-r=e-1 by omega]at hT
  have g1:=bl1 hs2 hb j1 (show j≤e-1 by omega) (by omega)
  have g2:=bl1 hs1 (by omega) q1 i1 i2
  exact de6 (d33 g1 hT) g2
 have F2: ∀x∈seg l a r,∀y∈seg l e b,P8 sec y x=false:=fun x hx y hy=>by
  obtain⟨i,i1,i2,rfl⟩:=am6 (by omega) hx
  obtain⟨j,j1,j2,rfl⟩:=am6 (by omega) hy
  have hT:=r3 (r-1) (by omega) (by omega)
  simp only[n9]at hT
  rw[show mid+m-1-(r-1)=e by omega]at hT
  have g1:=bl1 hs2 hb (show m≤e by omega) j1 j2
  have g2:=bl1 hs1 (by omega) i1 (show i≤r-1 by omega) (by omega)
  exact V6 g1 (V6 hT g2)
 have u1s:=bG5 hs1 (b9 a) q1 q2
 have u2s:=bG5 hs1 q1 q2 (b9 m)
 have v1s:=bG5 hs2 (b9 m) q5 q4
 have v2s:=bG5 hs2 q5 q4 (b9 b)
 have F3:=(aA2.1 (show Sd sec (seg l a r++seg l r m) by rw[W8 q1 q2];exact hs1)).2.2
 have F4:=(aA2.1 (show Sd sec (seg l m e++seg l e b) by rw[W8 q5 q4];exact hs2)).2.2
 have lP:(l.take a).length=a:=by rw[j0];omega
 have l1:=X5 (l:=l) (a:=a) (b:=r) (by omega)
 have l2:=X5 (l:=l) (a:=r) (b:=m) (by omega)
 have l3:=X5 (l:=l) (a:=m) (b:=e) (by omega)
 have l4:=X5 (l:=l) (a:=e) (b:=b) (by omega)
 have hl:l=l.take a++(seg l a r++(seg l r m++(seg l m e++(seg l e b++l.drop b)))):=by
  conv=>lhs;rw[cR9 (l:=l) (a:=a) (b:=b) (by omega),←W8 (a:=a) (m:=m) (b:=b) (by omega) (by omega),←W8 q1 q2,←W8 q5 q4]
  simp
 have hsrt:V3 sec l a b=l.take a++(srt sec (seg l a r++seg l m e)++(srt sec (seg l r m++seg l e b)++l.drop b)):=by
  unfold V3
  rw[←u5 (srt sec (seg l a r++seg l m e))]
  congr 2
  refine bl0 (aA2.2 ⟨a08 sec _,a08 sec _,fun x hx y hy=> ?_⟩) ?_
  ·rcases A0.1 (cb1.1 hx)with hx|hx<;>rcases A0.1 (cb1.1 hy)with hy|hy
   ·exact F3 x hx y hy
   ·exact F2 x hx y hy
   ·exact ah0 (F1 y hy x hx)
   ·exact F4 x hx y hy
  ·refine((bk9 sec _).app (bk9 sec _)).trans ?_
   have:seg l a b=seg l a r++((seg l r m++seg l m e)++seg l e b):=by
    rw[←W8 (a:=a) (m:=m) (b:=b) (by omega) (by omega),←W8 q1 q2,←W8 q5 q4];simp
   rw[this]
   have:=(Cl.refl sec (seg l a r)).app ((bu8 F1).symm.app (Cl.refl sec (seg l e b)))
   simpa using this
 generalize hP:l.take a=P at hl hsrt lP
 generalize hu1:seg l a r=u1 at*
 generalize hu2:seg l r m=u2 at*
 generalize hv1:seg l m e=v1 at*
 generalize hv2:seg l e b=v2 at*
 generalize hQ:l.drop b=Q at hl hsrt
 have c1:seg (P++(u1++(v1++(u2++(v2++Q))))) a r=u1:=by
  rw[show P++(u1++(v1++(u2++(v2++Q))))=P++u1++(v1++(u2++(v2++Q))) by simp];exact aG1 (by omega) (by omega)
 have c2:seg (P++(u1++(v1++(u2++(v2++Q))))) r mid=v1:=by
  rw[show P++(u1++(v1++(u2++(v2++Q))))=(P++u1)++v1++(u2++(v2++Q)) by simp];exact aG1 (by simp;omega) (by simp;omega)
 have ls1:=am5 sec (u1++v1)
 rw[j5]at ls1
 have c3:seg (P++(srt sec (u1++v1)++(u2++(v2++Q)))) mid e=u2:=by
  rw[show P++(srt sec (u1++v1)++(u2++(v2++Q)))=(P++srt sec (u1++v1))++u2++(v2++Q) by simp];exact aG1 (by simp;omega) (by simp;omega)
 have c4:seg (P++(srt sec (u1++v1)++(u2++(v2++Q)))) e b=v2:=by
  rw[show P++(srt sec (u1++v1)++(u2++(v2++Q)))=(P++srt sec (u1++v1)++u2)++v2++Q by simp];exact aG1 (by simp;omega) (by simp;omega)
 have p1:(P++(u1++(v1++(u2++(v2++Q))))).Perm l:=by
  conv=>rhs;rw[hl]
  refine(List.Perm.append_left _ (List.Perm.append_left _ ?_))
  rw[←u5,←u5 u2]
  exact List.perm_append_comm.append_right _
 have p2:(P++(srt sec (u1++v1)++(u2++(v2++Q)))).Perm l:=by
  refine List.Perm.trans ?_ p1
  rw[show P++(u1++(v1++(u2++(v2++Q))))=P++((u1++v1)++(u2++(v2++Q))) by simp]
  exact((srt_perm sec _).append_right _).append_left _
 refine⟨P++(u1++(v1++(u2++(v2++Q)))),P++(srt sec (u1++v1)++(u2++(v2++Q))),fun _ _=> ?_,fun hn=> ?_,p1,by rw[c1];exact u1s,by rw[c2];exact v1s,fun _ _=> ?_,fun hn=> ?_,p2,by rw[c3];exact u2s,by rw[c4];exact v2s,fun _ _=> ?_,fun hn=> ?_⟩
 ·conv=>lhs;rw[hl,show P++(u1++(u2++(v1++(v2++Q))))=(P++u1)++(u2++(v1++(v2++Q))) by simp]
  rw[cK7 (by simp;omega) (by simp;omega) (by simp;omega)]
  simp
 ·rcases i4 r m with hh|hh
  ·have:v1=[]:=x6.1 (by omega)
   rw[this]at hl⊢;exact hl
  ·have:u2=[]:=x6.1 (by omega)
   rw[this]at hl⊢;exact hl
 ·rw[show P++(u1++(v1++(u2++(v2++Q))))=P++((u1++v1)++(u2++(v2++Q))) by simp,cb5 (by omega) (by simp;omega)]
 ·rcases i4 a r with hh|hh
  ·have:v1=[]:=x6.1 (by omega)
   rw[this,v8,aU5 u1s];rfl
  ·have:u1=[]:=x6.1 (by omega)
   rw[this,show([]:List Val)++v1=v1 from rfl,aU5 v1s];rfl
 ·rw[hsrt,show P++(srt sec (u1++v1)++(u2++(v2++Q)))=(P++srt sec (u1++v1))++((u2++v2)++Q) by simp,cb5 (by simp;omega) (by simp;omega)]
  simp
 ·rw[hsrt]
  rcases i4 mid e with hh|hh
  ·have:v2=[]:=x6.1 (by omega)
   rw[this,v8,aU5 u2s];rfl
  ·have:u2=[]:=x6.1 (by omega)
   rw[this,show([]:List Val)++v2=v2 from rfl,aU5 v2s];rfl
noncomputable def aA9(sec:Option Bool)(a:Nat):List Val→Nat→Nat×List Val
 |l,0=>(a,l)
 |l,k+1=>if P8 sec (atV l (a+k+1)) (atV l (a+k))then aA9 sec a (swp l (a+k+1) (a+k)) k else(a+k+1,l)
theorem bG6(sec:Option Bool)(x:Val){P:List Val}{a:Nat}(ha:a=P.length): ∀(s t:List Val),(aA9 sec a (P++(s.reverse++x::t)) s.length).2=P++((aH1 sec x s).reverse++t)
 | [],t=>rfl
 |y::r,t=>by
  have e1:P++((y::r).reverse++x::t)=(P++r.reverse)++y::([]++x::t):=by simp
  have a1:atV ((P++r.reverse)++y::([]++x::t)) (a+r.length)=y:=atV_mid (by simp;omega)
  have a2:atV ((P++r.reverse)++y::([]++x::t)) (a+r.length+1)=x:=by
   rw[show(P++r.reverse)++y::([]++x::t)=(P++r.reverse++[y])++x::t by simp];exact atV_mid (by simp;omega)
  rw[e1,List.length_cons]
  unfold aA9 aH1
  rw[a1,a2]
  split
  ·rw[b91 (by omega),bG3 (by simp;omega) (by simp;omega),show(P++r.reverse)++x::([]++y::t)=P++(r.reverse++x::(y::t)) by simp,bG6 sec x ha r (y::t)]
   simp
  ·simp
theorem bG7{sec:Option Bool}{l:List Val}{a i:Nat}(h1:a≤i)(h2:i<l.length):(aA9 sec a (V3 sec l a i) (i-a)).2=V3 sec l a (i+1):=by
 have hd:l.drop i=atV l i::l.drop (i+1):=by
  rw[J7 h2]
  unfold atV
  rw[i3,j7 h2];rfl
 have hl:(dsc sec (seg l a i)).length=i-a:=by
  have:=am5 sec (seg l a i)
  unfold srt at this
  rw[List.length_reverse]at this
  rw[this,X5 (by omega)]
 have e:=bG6 sec (atV l i) (P:=l.take a) (a:=a) (by rw[j0];omega) (dsc sec (seg l a i)) (l.drop (i+1))
 rw[hl]at e
 have e2:V3 sec l a i=l.take a++((dsc sec (seg l a i)).reverse++atV l i::l.drop (i+1)):=by unfold V3 srt;rw[hd]
 rw[e2,e]
 unfold V3 srt
 rw[←W8 (a:=a) (m:=i) (b:=i+1) h1 (by omega),bv0 h2,cK6]
theorem aJ6{sec:Option Bool}{l:List Val}{a b:Nat}(h1:a≤b)(h2:b≤a+1)(hb:b≤l.length):V3 sec l a b=l:=by
 conv=>rhs;rw[cR9 (l:=l) h1]
 unfold V3
 congr 2
 refine aU5 ?_
 have:(seg l a b).length≤1:=by rw[X5 hb];omega
 unfold Sd
 match h:seg l a b,this with
 | [],_=>exact .nil
 | [x],_=>simp
 |x::y::r,hh=>simp at hh
theorem aJ7(sec:Option Bool)(l:List Val):V3 sec l 0 l.length=srt sec l:=by
 unfold V3 seg
 simp
theorem srt_cl{sec:Option Bool}{l q:List Val}(h:Cl sec l q):srt sec l=srt sec q:=bl0 (a08 sec q) ((bk9 sec q).trans h.symm)
theorem b94(sec:Option Bool){l:List Val}{a b:Nat}(h:a≤b):Cl sec (V3 sec l a b) l:=by
 have:=(Cl.refl sec (l.take a)).app ((bk9 sec (seg l a b)).app (Cl.refl sec (l.drop b)))
 rwa[←cR9 (l:=l) h]at this
theorem bv2{sec:Option Bool}{l:List Val}{a b:Nat}(h:a≤b)(hb:b≤l.length):seg (V3 sec l a b) a b=srt sec (seg l a b):=by
 unfold V3
 rw[←u5]
 exact aG1 (by rw[j0];omega) (by rw[j0,am5,X5 hb];omega)
noncomputable def W9(sec:Option Bool)(B:Nat)(l:List Val):Nat→List Val
 |0=>l
 |k+1=>V3 sec (W9 sec B l k) (B*k) (B*k+B)
noncomputable def pass(sec:Option Bool)(bs n:Nat)(l:List Val):List Val:=if 2*bs*(n/(2*bs))+bs<n then V3 sec (W9 sec (2*bs) l (n/(2*bs))) (2*bs*(n/(2*bs))) n else W9 sec (2*bs) l (n/(2*bs))
noncomputable def ac6(sec:Option Bool)(n:Nat):Nat→Nat→List Val→Nat×List Val
 |0,bs,l=>(bs,l)
 |f+1,bs,l=>if bs<n then ac6 sec n f (2*bs) (pass sec bs n l)else(bs,l)
end Go.Ev.S7
namespace Go.Ev.S8
open Go Go.Ev Go.Ev.S7
def isL:Val→Bool
 | .vl _=>true
 |_=>false
theorem isL_at{v:Val}(h:isL v=true):v= .vl v.toL:=by
 cases v<;>first|rfl|cases h
def Z5(r:Val):Val:= .vl [P3 r 0,P3 r 1,P3 r 2,P3 r 3,P3 r 4,P3 r 5,P3 r 6,P3 r 7]
noncomputable def hasV(k:Int)(key to:List UInt8)(least most:Int)(pkey:List UInt8)(pend:Int):Bool:=
 bif decide (k=1)then(bif decide (pkey=key)then decide (pend=least)else false)
 else bif decide (k=2)then(bif bb7 .geq pkey key then(bif decide (to=[])then bb7 .geq pkey key else bb7 .lss pkey to)else false)
 else bif decide (k=3)then(bif decide (least≤pend)then decide (pend<most)else false)else false
noncomputable def hasR(a:List Val)(r:Val):Bool:=hasV (arg a 0).toI (arg a 1).toS (arg a 2).toS (arg a 3).toI (arg a 4).toI (pk r) (pe r)
def cK8(a:List Val):Bool:=decide ((arg a 0).toI=3)
def R8(a:List Val):Option Bool:=some (cK8 a)
def okC(r:Val):Bool:=match r with
 | .vl [.vs _,.vi _,.vi _,.vb _,.vi _,.vi _,.vi _,.vi _]=>true
 |_=>false
theorem cy7{r:Val}(h:okC r=true):Z5 r=r:=by
 unfold okC at h
 split at h
 ·rfl
 ·cases h
def okK(r:Val):Bool:=okC r&&decide ((pk r).length≤1000)
theorem okK_at{r:Val}(h:okK r=true):okC r=true∧(pk r).length≤1000:=by
 obtain⟨h1,h2⟩:=O4 h
 exact⟨h1,of_decide_eq_true h2⟩
def aq5(l n:Val):Bool:=isL l&&(l.toL.all okK&&(decide (n.toI=(l.toL.length:Int))&&decide (l.toL.length≤100)))
theorem ab6{l n:Val}(h:aq5 l n=true):l= .vl l.toL∧l.toL.all okK=true∧n.toI=(l.toL.length:Int)∧l.toL.length≤100:=by
 obtain⟨h1,h⟩:=O4 h
 obtain⟨h2,h⟩:=O4 h
 obtain⟨h3,h4⟩:=O4 h
 exact⟨isL_at h1,h2,of_decide_eq_true h3,of_decide_eq_true h4⟩
def nt(v:Val):Nat:=v.toI.toNat
noncomputable def b95(f:List Val):Nat→Nat→List Val→Nat→Nat×List Val
 |p,j,M,0=>(p,M)
 |p,j,M,n+1=>if hasR f (atV M j)then b95 f (p+1) (j+1) (M.set p (Z5 (atV M j))) n else b95 f p (j+1) M n
def isI:Val→Bool
 | .vi _=>true
 |_=>false
theorem aA3{v:Val}(h:isI v=true):v= .vi v.toI:=by cases v<;>first|rfl|cases h
def d34(a:List Val):Prop:=aq5 (arg a 5) (arg a 6)=true∧0≤(arg a 7).toI∧(arg a 7).toI<(arg a 8).toI∧(arg a 8).toI<(arg a 9).toI∧(arg a 9).toI≤(arg a 6).toI∧(arg a 9).toI-(arg a 7).toI≤(arg a 10).toI∧
 isI (arg a 7)=true∧isI (arg a 8)=true∧isI (arg a 9)=true∧Sd (R8 a) (seg (arg a 5).toL (nt (arg a 7)) (nt (arg a 8)))∧Sd (R8 a) (seg (arg a 5).toL (nt (arg a 8)) (nt (arg a 9)))
open Classical in
noncomputable def aE1(a:List Val):Bool:=decide (d34 a)
theorem ab7{a:List Val}:aE1 a=true↔d34 a:=by unfold aE1;simp
noncomputable def hadG(f:List Val)(r:Val):List Val:=bif hasR f r then [Q8 r]else []
noncomputable def CX:Nat→List Val→Val:=fun i a=>match i with
  |304=> .vb (hasV (arg a 0).toI (arg a 1).toS (arg a 2).toS (arg a 3).toI (arg a 4).toI (arg a 5).toS (arg a 7).toI)
  |306=> .vs (bk8 false (arg a 0).toS (arg a 1).toI (arg a 2).toI)
  |307=> .vs (bk8 true (arg a 0).toS (arg a 1).toI (arg a 2).toI)
  |308=> .vi (cR8 (bk8 (cK8 (a.drop 6)) (arg a 0).toS (arg a 1).toI (arg a 2).toI) (bk8 (cK8 (a.drop 6)) (arg a 3).toS (arg a 4).toI (arg a 5).toI))
  |620=> .vb (aq5 (arg a 0) (arg a 1)&&decide (0≤(arg a 2).toI∧0≤(arg a 4).toI∧(arg a 2).toI+(arg a 4).toI≤(arg a 3).toI∧(arg a 3).toI+(arg a 4).toI≤(arg a 1).toI))
  |621=> .vl (swN (arg a 0).toL (nt (arg a 1)) (nt (arg a 2)) (nt (arg a 3)))
  |622=> .vb (aq5 (arg a 0) (arg a 1)&&decide (0≤(arg a 2).toI∧(arg a 2).toI<(arg a 3).toI∧(arg a 3).toI<(arg a 4).toI∧(arg a 4).toI≤(arg a 1).toI))
  |623=> .vl (cb4 (arg a 0).toL (nt (arg a 1)) (nt (arg a 2)) (nt (arg a 3)))
  |624=> .vb (aq5 (arg a 0) (arg a 1)&&decide (0≤(arg a 2).toI∧(arg a 2).toI≤(arg a 3).toI∧(arg a 3).toI≤(arg a 1).toI))
  |625=> .vl (V3 (R8 a) (arg a 5).toL (nt (arg a 6)) (nt (arg a 7)))
  |626=> .vb (aE1 a)
  |628=> .vb (aq5 (arg a 0) (arg a 1)&&(isI (arg a 2)&&decide ((arg a 2).toI=(arg a 1).toI)))
  |630=> .vl (srt (R8 a) ((arg a 5).toL.filter (hasR a)))
  |631=> .vb (isL (arg a 0)&&(arg a 0).toL.all okK)
  |652=>T1 (0,[.vi (nt (arg a 6)),.vl (swN (arg a 1).toL (nt (arg a 4)) (nt (arg a 5)) (nt (arg a 6)))])
  |658=>T1 (0,[.vi (ar4 (nt (arg a 5)) (nt (arg a 0)+nt (arg a 1)) (nt (arg a 0)) (nt (arg a 1)) (arg a 2).toL).1,.vi (ar4 (nt (arg a 5)) (nt (arg a 0)+nt (arg a 1)) (nt (arg a 0)) (nt (arg a 1)) (arg a 2).toL).1,.vl (ar4 (nt (arg a 5)) (nt (arg a 0)+nt (arg a 1)) (nt (arg a 0)) (nt (arg a 1)) (arg a 2).toL).2])
  |660=>T1 (0,[.vi (max (nt (arg a 4)+1) (nt (arg a 5)):Nat),.vl (V3 (R8 (a.drop 6)) (arg a 1).toL (nt (arg a 4)) (nt (arg a 5)))])
  |661=>T1 (0,[.vi (aA9 (R8 (a.drop 6)) (nt (arg a 4)) (arg a 1).toL (nt (arg a 0)-nt (arg a 4))).1,.vl (aA9 (R8 (a.drop 6)) (nt (arg a 4)) (arg a 1).toL (nt (arg a 0)-nt (arg a 4))).2])
  |662=>let r:=bs (fun h=>P8 (R8 (a.drop 5)) (atV (arg a 3).toL h) (atV (arg a 3).toL (nt (arg a 4)))) (nt (arg a 1)-nt (arg a 0)) (nt (arg a 0)) (nt (arg a 1));T1 (0,[.vi r,.vi r])
  |663=>T1 (0,[.vi (nt (arg a 4)-1:Nat),.vl (mvU (arg a 1).toL (nt (arg a 0)) (nt (arg a 4)-1-nt (arg a 0)))])
  |664=>let r:=bs (fun h=> !P8 (R8 (a.drop 5)) (atV (arg a 3).toL (nt (arg a 4))) (atV (arg a 3).toL h)) (nt (arg a 1)-nt (arg a 0)) (nt (arg a 0)) (nt (arg a 1));T1 (0,[.vi r,.vi r])
  |665=>T1 (0,[arg a 4,.vl (mvD (arg a 1).toL (nt (arg a 0)) (nt (arg a 0)-nt (arg a 4)))])
  |666=>let r:=bs (fun c=> !P8 (R8 (a.drop 7)) (atV (arg a 3).toL (nt (arg a 14)-c)) (atV (arg a 3).toL c)) (nt (arg a 1)-nt (arg a 0)) (nt (arg a 0)) (nt (arg a 1));T1 (0,[.vi r,.vi r])
  |667=>T1 (0,[.vi (20*(nt (arg a 5)/20):Nat),.vi (20*(nt (arg a 5)/20)+20:Nat),.vl (W9 (R8 (a.drop 6)) 20 (arg a 2).toL (nt (arg a 5)/20))])
  |668=>T1 (0,[.vi (ac6 (R8 (a.drop 5)) (nt (arg a 4)) 9 20 (arg a 1).toL).1,.vl (ac6 (R8 (a.drop 5)) (nt (arg a 4)) 9 20 (arg a 1).toL).2])
  |669=>T1 (0,[.vi (2*nt (arg a 11)*(nt (arg a 5)/(2*nt (arg a 11))):Nat),.vi (2*nt (arg a 11)*(nt (arg a 5)/(2*nt (arg a 11)))+2*nt (arg a 11):Nat),.vl (W9 (R8 (a.drop 6)) (2*nt (arg a 11)) (arg a 2).toL (nt (arg a 5)/(2*nt (arg a 11))))])
  |670=>T1 (aq3 (.vi 0) (fun i=>[.vi i,.vi i]) (fun i=> !hasR (a.drop 4) (atV (arg a 3).toL i)) (arg a 3).toL.length)
  |671=>T1 (0,[.vi (b95 (a.drop 5) (nt (arg a 0)) (nt (arg a 1)) (arg a 2).toL ((arg a 2).toL.length-nt (arg a 1))).1,.vi (arg a 2).toL.length,.vl (b95 (a.drop 5) (nt (arg a 0)) (nt (arg a 1)) (arg a 2).toL ((arg a 2).toL.length-nt (arg a 1))).2])
  |680=> .vl ((arg a 5).toL.flatMap (hadG a))
  |681=>T1 (0,[.vi ((arg a 5).toL.flatMap (hadG (a.drop 6))).length,.vi (arg a 5).toL.length,.vl ((arg a 5).toL.flatMap (hadG (a.drop 6)))])
  |i=>FX (fun _ _=> .vb false) i a
end Go.Ev.S8
namespace Go.Ev.S7
open Go Go.Ev
def isL:Val→Bool
 | .vl _=>true
 |_=>false
theorem isL_at{v:Val}(h:isL v=true):v= .vl v.toL:=by
 cases v<;>first|rfl|cases h
def okK(r:Val):Bool:=match r with
 | .vl [.vs _,.vi _,.vi _,.vi _,.vi _,.vi _,.vi _]=>true
 |_=>false
def okK8(r:Val):Bool:=match r with
 | .vl [.vs _,.vi _,.vi _,.vb _,.vi _,.vi _,.vi _,.vi _]=>true
 |_=>false
theorem okK_at{r:Val}(h:okK r=true):Q8 r=r:=by
 unfold okK at h
 split at h
 ·rfl
 ·cases h
def aq5(l n:Val):Bool:=isL l&&(l.toL.all okK&&(decide (n.toI=(l.toL.length:Int))&&decide (l.toL.length≤400)))
theorem ab6{l n:Val}(h:aq5 l n=true):l= .vl l.toL∧l.toL.all okK=true∧n.toI=(l.toL.length:Int)∧l.toL.length≤400:=by
 obtain⟨h1,h⟩:=O4 h
 obtain⟨h2,h⟩:=O4 h
 obtain⟨h3,h4⟩:=O4 h
 exact⟨isL_at h1,h2,of_decide_eq_true h3,of_decide_eq_true h4⟩
def nt(v:Val):Nat:=v.toI.toNat
def isI:Val→Bool
 | .vi _=>true
 |_=>false
theorem aA3{v:Val}(h:isI v=true):v= .vi v.toI:=by cases v<;>first|rfl|cases h
def d34(a:List Val):Prop:=aq5 (arg a 0) (arg a 1)=true∧0≤(arg a 2).toI∧(arg a 2).toI<(arg a 3).toI∧(arg a 3).toI<(arg a 4).toI∧(arg a 4).toI≤(arg a 1).toI∧(arg a 4).toI-(arg a 2).toI≤(arg a 5).toI∧
 isI (arg a 2)=true∧isI (arg a 3)=true∧isI (arg a 4)=true∧Sd none (seg (arg a 0).toL (nt (arg a 2)) (nt (arg a 3)))∧Sd none (seg (arg a 0).toL (nt (arg a 3)) (nt (arg a 4)))
open Classical in
noncomputable def aE1(a:List Val):Bool:=decide (d34 a)
theorem ab7{a:List Val}:aE1 a=true↔d34 a:=by unfold aE1;simp
noncomputable def GX:Nat→List Val→Val:=fun i a=>match i with
  |420=> .vb (aq5 (arg a 0) (arg a 1)&&decide (0≤(arg a 2).toI∧0≤(arg a 4).toI∧(arg a 2).toI+(arg a 4).toI≤(arg a 3).toI∧(arg a 3).toI+(arg a 4).toI≤(arg a 1).toI))
  |421=> .vl (swN (arg a 0).toL (nt (arg a 1)) (nt (arg a 2)) (nt (arg a 3)))
  |422=> .vb (aq5 (arg a 0) (arg a 1)&&decide (0≤(arg a 2).toI∧(arg a 2).toI<(arg a 3).toI∧(arg a 3).toI<(arg a 4).toI∧(arg a 4).toI≤(arg a 1).toI))
  |423=> .vl (cb4 (arg a 0).toL (nt (arg a 1)) (nt (arg a 2)) (nt (arg a 3)))
  |424=> .vb (aq5 (arg a 0) (arg a 1)&&decide (0≤(arg a 2).toI∧(arg a 2).toI≤(arg a 3).toI∧(arg a 3).toI≤(arg a 1).toI))
  |425=> .vl (V3 none (arg a 0).toL (nt (arg a 1)) (nt (arg a 2)))
  |426=> .vb (aE1 a)
  |428=> .vb (aq5 (arg a 0) (arg a 1)&&(isI (arg a 2)&&decide ((arg a 2).toI=(arg a 1).toI)))
  |431=> .vb (isL (arg a 0)&&(arg a 0).toL.all okK)
  |433=> .vb (isL (arg a 0)&&(arg a 0).toL.all okK8)
  |452=>T1 (0,[.vi (nt (arg a 6)),.vl (swN (arg a 1).toL (nt (arg a 4)) (nt (arg a 5)) (nt (arg a 6)))])
  |458=>T1 (0,[.vi (ar4 (nt (arg a 5)) (nt (arg a 0)+nt (arg a 1)) (nt (arg a 0)) (nt (arg a 1)) (arg a 2).toL).1,.vi (ar4 (nt (arg a 5)) (nt (arg a 0)+nt (arg a 1)) (nt (arg a 0)) (nt (arg a 1)) (arg a 2).toL).1,.vl (ar4 (nt (arg a 5)) (nt (arg a 0)+nt (arg a 1)) (nt (arg a 0)) (nt (arg a 1)) (arg a 2).toL).2])
  |460=>T1 (0,[.vi (max (nt (arg a 4)+1) (nt (arg a 5)):Nat),.vl (V3 none (arg a 1).toL (nt (arg a 4)) (nt (arg a 5)))])
  |461=>T1 (0,[.vi (aA9 none (nt (arg a 4)) (arg a 1).toL (nt (arg a 0)-nt (arg a 4))).1,.vl (aA9 none (nt (arg a 4)) (arg a 1).toL (nt (arg a 0)-nt (arg a 4))).2])
  |462=>let r:=bs (fun h=>P8 none (atV (arg a 3).toL h) (atV (arg a 3).toL (nt (arg a 4)))) (nt (arg a 1)-nt (arg a 0)) (nt (arg a 0)) (nt (arg a 1));T1 (0,[.vi r,.vi r])
  |463=>T1 (0,[.vi (nt (arg a 4)-1:Nat),.vl (mvU (arg a 1).toL (nt (arg a 0)) (nt (arg a 4)-1-nt (arg a 0)))])
  |464=>let r:=bs (fun h=> !P8 none (atV (arg a 3).toL (nt (arg a 4))) (atV (arg a 3).toL h)) (nt (arg a 1)-nt (arg a 0)) (nt (arg a 0)) (nt (arg a 1));T1 (0,[.vi r,.vi r])
  |465=>T1 (0,[arg a 4,.vl (mvD (arg a 1).toL (nt (arg a 0)) (nt (arg a 0)-nt (arg a 4)))])
  |466=>let r:=bs (fun c=> !P8 none (atV (arg a 3).toL (nt (arg a 9)-c)) (atV (arg a 3).toL c)) (nt (arg a 1)-nt (arg a 0)) (nt (arg a 0)) (nt (arg a 1));T1 (0,[.vi r,.vi r])
  |467=>T1 (0,[.vi (20*(nt (arg a 5)/20):Nat),.vi (20*(nt (arg a 5)/20)+20:Nat),.vl (W9 none 20 (arg a 2).toL (nt (arg a 5)/20))])
  |468=>T1 (0,[.vi (ac6 none (nt (arg a 4)) 9 20 (arg a 1).toL).1,.vl (ac6 none (nt (arg a 4)) 9 20 (arg a 1).toL).2])
  |469=>T1 (0,[.vi (2*nt (arg a 6)*(nt (arg a 5)/(2*nt (arg a 6))):Nat),.vi (2*nt (arg a 6)*(nt (arg a 5)/(2*nt (arg a 6)))+2*nt (arg a 6):Nat),.vl (W9 none (2*nt (arg a 6)) (arg a 2).toL (nt (arg a 5)/(2*nt (arg a 6))))])
  |490=> .vl (srt none (arg a 0).toL)
  |i=>S8.CX i a
end Go.Ev.S7
