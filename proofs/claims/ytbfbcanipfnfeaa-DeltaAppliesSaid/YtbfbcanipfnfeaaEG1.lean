import Derived.Test.YtbfbcanipfnfeaaE41
import Derived.Test.YtbfbcanipfnfeaaE43
import Derived.Test.YtbfbcanipfnfeaaET12
set_option linter.unusedSimpArgs false
set_option linter.unusedVariables false
namespace Go.Ev
open Go
theorem aP8{step:List Val→Option (Nat×List Val)}{st:Nat→List Val}{n j:Nat}{p:List Val}(h1: ∀i,i<n→step (st i)=some (0,st (i+1)))(h2:step (st n)=some (j+1,p)):P5 step (st 0)=some (j,p):=by
 rw[U3]
 have: ∀k,k≤n→Iter step (st (n-k)) j p:=by
  intro k
  induction k with
  |zero=>intro _;exact .out h2
  |succ k ih=>
   intro hk
   have e:=h1 (n-(k+1)) (by omega)
   rw[show n-(k+1)+1=n-k by omega]at e
   exact .more e (ih (by omega))
 have h:=this n (b9 _)
 rwa[x6]at h
def a84(x:Val)(px:Nat→List Val)(bad:Nat→Bool)(n:Nat):Nat×List Val:=match(List.range n).find? bad with
 |some i=>(1,px i)
 |none=>(0,[x,.vi n])
theorem ab6{bad:Nat→Bool}: ∀{n i:Nat},(List.range n).find? bad=some i→i<n∧bad i=true∧ ∀k,k<i→bad k=false:=by
 intro n i h
 rw[List.find?_range_eq_some]at h
 exact⟨r6.1 h.2.1,h.1,fun k hk=>by simpa using h.2.2 k hk⟩
theorem Z7{step:List Val→Option (Nat×List Val)}{x:Val}{px:Nat→List Val}{bad:Nat→Bool}{n:Nat}
 (h1: ∀i,i<n→bad i=false→step [x,.vi i]=some (0,[x,.vi (i+1:Nat)])) (h2: ∀i,i<n→bad i=true→step [x,.vi i]=some (2,px i))
 (h3:step [x,.vi n]=some (1,[x,.vi n])):P5 step [x,.vi (0:Int)]=some (a84 x px bad n):=by
 unfold a84
 split
 ·rename_i i hi
  obtain⟨a,b,c⟩:=ab6 hi
  exact aP8 (st:=fun i=>[x,.vi i]) (n:=i) (fun k hk=>h1 k (by omega) (c k hk)) (h2 i a b)
 ·rename_i hn
  rw[C0]at hn
  exact aP8 (st:=fun i=>[x,.vi i]) (n:=n) (fun k hk=>h1 k hk (by simpa using hn k hk)) h3
theorem Y6{x:Val}{px:Nat→List Val}{bad:Nat→Bool}{n:Nat}:a84 x px bad n=if(List.range n).any bad then(1,px (((List.range n).find? bad).getD 0))else(0,[x,.vi n]):=by
 unfold a84
 split
 ·rename_i i hi
  have:(List.range n).any bad=true:=by
   rw[u9]
   obtain⟨a,b,_⟩:=ab6 hi
   exact⟨i,r6.2 a,b⟩
  rw[this,hi];rfl
 ·rename_i hn
  have:(List.range n).any bad=false:=by
   rw[C0]at hn
   rw[C6]
   intro i hi
   simpa using hn i (r6.1 hi)
  rw[this];rfl
def a02(g:Nat→List Val):Nat→List Val
 |0=>[]
 |n+1=>a02 g n++g n
theorem ak6{g:Nat→List Val}{m:Nat}(hg: ∀i,(g i).length≤m): ∀n,(a02 g n).length≤n*m
 |0=>by simp[a02]
 |n+1=>by
  have:=ak6 hg n
  have:=hg n
  simp only[a02,e8,l7];omega
theorem a63(g:Nat→List Val): ∀n,a02 g n=(List.range n).flatMap g
 |0=>rfl
 |n+1=>by rw[a02,a63 g n,G6,G5];simp
theorem au9{α:Type}(q:α→Bool)(d:α): ∀(l:List α),((List.range l.length).any fun i=>q (l.getD i d))=l.any q
 | []=>rfl
 |a::l=>by
  rw[List.length_cons,G4,List.any_cons,List.any_map]
  simp only[m8,List.any_cons]
  congr 1
  rw[←au9 q d l]
  congr 1
theorem ab7{α β:Type}(g:α→List β)(d:α): ∀(l:List α),((List.range l.length).flatMap fun i=>g (l.getD i d))=l.flatMap g
 | []=>rfl
 |a::l=>by
  rw[List.length_cons,G4,z8,List.flatMap_map]
  simp only[m8,z8]
  congr 1
  rw[←ab7 g d l]
  congr 1
theorem bC7{α β:Type} [DecidableEq β](f:α→β)(d:α): ∀(l r:List α),l.length=r.length→((List.range l.length).any fun i=> !decide (f (l.getD i d)=f (r.getD i d)))= !decide (l.map f=r.map f)
 | [],[],_=>by simp
 |a::l,b::r,h=>by
  rw[List.length_cons,G4,List.any_cons,List.any_map]
  simp only[m8,j9,A3]
  have:=bC7 f d l r (by simpa using h)
  have e:((fun i=> !decide (f ((a::l).getD i d)=f ((b::r).getD i d)))∘Nat.succ)=fun i=> !decide (f (l.getD i d)=f (r.getD i d)):=by
   funext i;simp[Function.comp]
  rw[e,this]
  by_cases h1:f a=f b<;>simp[h1]
 | [],_::_,h=>by simp at h
 |_::_,[],h=>by simp at h
theorem bC8(l:List Val)(i:Nat)(j:Int):Q5 l (i:Int) j=(l.getD i (.vl [])).toL.getD j.toNat default:=rfl
theorem bL8{n:Nat}(h:n≤10000000):IntKind.i64.wrap ((n:Int)+1)=((n+1:Nat):Int):=by
 have:((n:Int)+1)=((n+1:Nat):Int):=by omega
 rw[this]
 simp only[IntKind.wrap,IntKind.bits,IntKind.signed]
 simp
 omega
end Go.Ev
namespace Go.Ev
open Go
structure RowM where
 key:List UInt8
 a:Int
 b:Int
 c:Int
 d:Int
 e:Int
 f:Int
 deriving DecidableEq
structure PaneM where
 key:List UInt8
 a:Int
 b:Int
 deriving DecidableEq
def N3(r:Val)(j:Nat):Val:=r.toL.getD j default
def bN3(r:Val):RowM:=⟨(N3 r 0).toS,(N3 r 1).toI,(N3 r 2).toI,(N3 r 3).toI,(N3 r 4).toI,(N3 r 5).toI,(N3 r 6).toI⟩
def N4(r:Val):PaneM:=⟨(N3 r 0).toS,(N3 r 1).toI,(N3 r 2).toI⟩
def atV(l:List Val)(i:Nat):Val:=l.getD i (.vl [])
def bL9(v:Val):List RowM:=v.toL.map bN3
def arg(a:List Val)(i:Nat):Val:=a.getD i default
def eqB{α:Type} [DecidableEq α](a b:α):Bool:=decide (a=b)
@[simp]theorem dj2{α:Type} [DecidableEq α]{a b:α}:eqB a b=true↔a=b:=decide_eq_true_iff
def bq3(r:Val):Bool:=decide (60<(N3 r 0).toS.length)
def bq4(bad:Val→Bool)(l:List Val):Val:=S6 (a84 (.vb false) (fun k=>[.vb false,.vi k]) (fun i=>bad (atV l i)) l.length)
def cm5{α:Type} [DecidableEq α](m:Val→α)(l r:List Val):Val:=S6 (a84 (.vb false) (fun k=>[.vb false,.vi k]) (fun i=> !decide (m (atV l i)=m (atV r i))) l.length)
def O1(r:Val):Val:= .vl [N3 r 0,N3 r 1,N3 r 2,N3 r 3,N3 r 4,N3 r 5,N3 r 6]
def T9(a0:List Val)(g:Val→List Val)(l:List Val):List Val:=a0++a02 (fun i=>g (atV l i)) l.length
theorem a64: ∀x:List UInt8,ltB x x=false
 | []=>rfl
 |a::x=>by
  show(bif Nat.blt a.toNat a.toNat then true else bif Nat.beq a.toNat a.toNat then ltB x x else false)=false
  rw[a64 x]
  have h1:Nat.blt a.toNat a.toNat=false:=by
   cases h:Nat.blt a.toNat a.toNat with
   |false=>rfl
   |true=>exact absurd (N9.1 h) (D3 _)
  rw[h1];cases Nat.beq a.toNat a.toNat<;>rfl
theorem bC9(a b:UInt8)(x y:List UInt8):ltB (a::x) (b::y)=true↔a.toNat<b.toNat∨a=b∧ltB x y=true:=by
 show(bif Nat.blt a.toNat b.toNat then true else bif Nat.beq a.toNat b.toNat then ltB x y else false)=true↔_
 cases h1:Nat.blt a.toNat b.toNat with
 |true=>simp[N9.1 h1]
 |false=>
  have h1': ¬a.toNat<b.toNat:=fun h=>by rw[N9.2 h]at h1;cases h1
  cases h2:Nat.beq a.toNat b.toNat with
  |true=>
   have:a=b:=UInt8.toNat_inj.1 (M8.1 h2)
   simp[h1',this]
  |false=>
   have: ¬a=b:=fun h=>by rw[h,M8.2 rfl]at h2;cases h2
   simp[h1',this]
theorem aP9: ∀{x y z:List UInt8},ltB x y=true→ltB y z=true→ltB x z=true
 |_,[],[],_,h=>by cases h
 |_,_::_,[],_,h=>by cases h
 | [],[],_,h,_=>by cases h
 |_::_,[],_,h,_=>by cases h
 | [],_::_,_::_,_,_=>rfl
 |a::x,b::y,c::z,h1,h2=>by
  rw[bC9]at*
  rcases h1 with h1|⟨rfl,h1⟩<;>rcases h2 with h2|⟨rfl,h2⟩
  ·exact .inl (Nat.lt_trans h1 h2)
  ·exact .inl h1
  ·exact .inl h2
  ·exact .inr ⟨rfl,aP9 h1 h2⟩
theorem aQ0: ∀{x y:List UInt8},ltB x y=false→ltB y x=false→x=y
 | [],[],_,_=>rfl
 | [],_::_,h,_=>by cases h
 |_::_,[],_,h=>by cases h
 |a::x,b::y,h1,h2=>by
  rw[←l9,bC9]at h1 h2
  have hab:a=b:=UInt8.toNat_inj.1 (by omega)
  subst hab
  have:=aQ0 (x:=x) (y:=y) (by rw[←l9];exact fun h=>h1 (.inr ⟨rfl,h⟩)) (by rw[←l9];exact fun h=>h2 (.inr ⟨rfl,h⟩))
  rw[this]
noncomputable def af0(p q:PaneM):Bool:=R0 p.key q.key||decide (p.key=q.key)&&(decide (p.b<q.b)||decide (p.b=q.b)&&decide (p.a<q.a))
noncomputable def cP7(p q:PaneM):Int:=if R0 p.key q.key then-1 else if R0 q.key p.key then 1 else if p.b<q.b then-1 else if q.b<p.b then 1 else if p.a<q.a then-1 else if q.a<p.a then 1 else 0
theorem av0(p q:PaneM):af0 p q=true↔ltB p.key q.key=true∨p.key=q.key∧(p.b<q.b∨p.b=q.b∧p.a<q.a):=by
 simp only[af0,R0,j8,d6,decide_eq_true_eq]
theorem ah8(p:PaneM):af0 p p=false:=by
 rw[←l9,av0,a64]
 simp
theorem ap4{p q r:PaneM}(h1:af0 p q=true)(h2:af0 q r=true):af0 p r=true:=by
 rw[av0]at*
 rcases h1 with h1|⟨e1,h1⟩<;>rcases h2 with h2|⟨e2,h2⟩
 ·exact .inl (aP9 h1 h2)
 ·exact .inl (e2▸h1)
 ·exact .inl (e1▸h2)
 ·exact .inr ⟨e1.trans e2,by omega⟩
theorem aQ1{p q:PaneM}(h1:af0 p q=false)(h2:af0 q p=false):p=q:=by
 rw[←l9,av0]at h1 h2
 obtain⟨a1,a2⟩:=not_or.1 h1
 obtain⟨b1,b2⟩:=not_or.1 h2
 have hk:=aQ0 (by rwa[←l9]) (by rwa[←l9]) (x:=p.key) (y:=q.key)
 obtain⟨k,a,b⟩:=p
 obtain⟨k',a',b'⟩:=q
 simp only at hk a2 b2
 subst hk
 simp only[true_and]at a2 b2
 have:a=a'∧b=b':=by omega
 rw[this.1,this.2]
theorem b51(p q:PaneM):cP7 p q<0↔af0 p q=true:=by
 rw[av0]
 unfold cP7 R0
 cases h1:ltB p.key q.key with
 |true=>simp
 |false=>
  cases h2:ltB q.key p.key with
  |true=>
   have: ¬p.key=q.key:=fun h=>by rw[h,a64]at h2;cases h2
   simp[this]
  |false=>
   have hk:=aQ0 h1 h2
   simp only[hk,i4,if_false,true_and,false_or]
   repeat' split
   all_goals omega
theorem aQ2{p q:PaneM}(h:af0 p q=true):af0 q p=false:=by
 rw[←l9]
 intro h2
 have:=ap4 h h2
 rw[ah8]at this;cases this
theorem ah9{p q r:PaneM}(h1:af0 p q=false)(h2:af0 q r=false):af0 p r=false:=by
 rw[←l9]
 intro h
 cases h3:af0 q p with
 |true=>have:=ap4 h3 h;rw[h2]at this;cases this
 |false=>rw[aQ1 h1 h3]at h;rw[h2]at h;cases h
noncomputable def cfV(a b:Val):Int:=cP7 (N4 a) (N4 b)
noncomputable def ap5(a b:Val):Bool:=af0 (N4 a) (N4 b)
theorem b52(a b:Val):Go.Proofs.ltOf cfV a b=ap5 a b:=by
 unfold Go.Proofs.ltOf cfV ap5
 rw[m9,decide_eq_true_iff,b51]
theorem c63:Go.Sort.SWO (Go.Proofs.ltOf cfV)where
 irrefl x:=by rw[b52];exact ah8 _
 trans x y z h1 h2:=by rw[b52]at*;exact ap4 h1 h2
 ntrans x y z h1 h2:=by rw[b52]at*;exact ah9 h1 h2
def W0(r:Val):Val:= .vl [N3 r 0,N3 r 1,N3 r 2,N3 r 3,N3 r 4,N3 r 5,N3 r 6,N3 r 7]
theorem aQ3(r:Val):Val.vl [N3 r 0,N3 r 1,N3 r 2,N3 r 3,N3 r 4,N3 r 5,N3 r 6,N3 r 7]=W0 r:=rfl
def bM0(l:List Val)(k:Nat):List Val:=(l.set k (W0 (atV l (k+1)))).set (k+1) (W0 (atV l k))
noncomputable def bub:List Val→Nat→Nat×List Val
 |l,0=>(0,l)
 |l,k+1=>if ap5 (atV l (k+1)) (atV l k)then bub (bM0 l k) k else(k+1,l)
noncomputable def a48(l:List Val):Nat→List Val
 |0=>[]
 |i+1=>(bub (a48 l i++[W0 (atV l i)]) i).2
noncomputable def ab8(l:List Val):List Val:=a48 l l.length
theorem bg7(l:List Val)(k:Nat):(bM0 l k).length=l.length:=by simp[bM0]
theorem bq5: ∀(k:Nat) (l:List Val),(bub l k).2.length=l.length
 |0,_=>rfl
 |k+1,l=>by
  unfold bub
  split
  ·rw[bq5 k,bg7]
  ·rfl
theorem ak7(l:List Val): ∀i,(a48 l i).length=i
 |0=>rfl
 |i+1=>by rw[a48,bq5,e8,ak7 l i];rfl
noncomputable def aB7(x:Val):List Val→List Val
 | []=>[x]
 |y::r=>if ap5 x y then y::aB7 x r else x::y::r
noncomputable def dsc(l:List Val):Nat→List Val
 |0=>[]
 |i+1=>aB7 (W0 (atV l i)) (dsc l i)
theorem bq6(a b:List Val)(k:Nat)(h:a.length=k):atV (a++b) k=atV b 0:=by
 subst h
 unfold atV
 rw[d9,d9,j3 (b9 _),x6]
theorem c64(x:Val)(hx:W0 x=x): ∀(s t:List Val),(∀y∈s,W0 y=y)→(bub (s.reverse++x::t) s.length).2=(aB7 x s).reverse++t
 | [],t,_=>rfl
 |y::r,t,h=>by
  have hy:W0 y=y:=h y (by simp)
  have e1:(y::r).reverse++x::t=r.reverse++y::x::t:=by simp
  have a1:atV (r.reverse++y::x::t) r.length=y:=by rw[bq6 _ _ _ (by simp)];rfl
  have a2:atV (r.reverse++y::x::t) (r.length+1)=x:=by
   rw[show r.reverse++y::x::t=(r.reverse++[y])++x::t by simp,bq6 _ _ _ (by simp)];rfl
  rw[e1,List.length_cons]
  unfold bub aB7
  rw[a1,a2]
  split
  ·have sw:bM0 (r.reverse++y::x::t) r.length=r.reverse++x::(y::t):=by
    have q1: ∀v,(r.reverse++y::x::t).set r.length v=r.reverse++v::x::t:=fun v=>by rw[I5];simp
    have q2:(r.reverse++x::x::t).set (r.length+1) y=r.reverse++x::y::t:=by rw[I5,if_neg (by simp)];simp
    unfold bM0
    rw[a1,a2,hx,hy,q1,q2]
   rw[sw,c64 x hx r (y::t) (fun z hz=>h z (by simp[hz]))]
   simp
  ·simp
theorem Z8(x:Val): ∀s:List Val,(aB7 x s).Perm (x::s)
 | []=> .refl _
 |y::r=>by
  unfold aB7
  split
  ·exact((Z8 x r).cons y).trans (.swap x y r)
  ·exact .refl _
theorem bD0(l:List Val): ∀i,∀y∈dsc l i,W0 y=y
 |0,y,h=>by cases h
 |i+1,y,h=>by
  have:=(Z8 (W0 (atV l i)) (dsc l i)).mem_iff.1 h
  rcases l5.1 this with rfl|h
  ·rfl
  ·exact bD0 l i y h
theorem c65(l:List Val): ∀i,(dsc l i).length=i
 |0=>rfl
 |i+1=>by rw[dsc,(Z8 _ _).length_eq,List.length_cons,c65 l i]
theorem ay3(l:List Val): ∀i,a48 l i=(dsc l i).reverse
 |0=>rfl
 |i+1=>by
  have:=c64 (W0 (atV l i)) rfl (dsc l i) [] (bD0 l i)
  rw[c65]at this
  rw[a48,ay3 l i,this,n9,dsc]
theorem aE6(l:List Val): ∀i,(dsc l i).Perm ((List.range i).map fun k=>W0 (atV l k))
 |0=> .refl _
 |i+1=>by
  rw[G6,r8]
  exact(Z8 _ _).trans (((aE6 l i).cons _).trans (List.perm_append_singleton _ _).symm)
theorem a85(x:Val): ∀s:List Val,s.Pairwise (fun a b=>ap5 a b=false)→(aB7 x s).Pairwise (fun a b=>ap5 a b=false)
 | [],_=>by simp[aB7]
 |y::r,h=>by
  unfold aB7
  rw[y5]at h
  split
  ·rename_i hl
   rw[y5]
   refine⟨fun z hz=> ?_,a85 x r h.2⟩
   rcases l5.1 ((Z8 x r).mem_iff.1 hz)with rfl|hz
   ·exact aQ2 hl
   ·exact h.1 z hz
  ·rename_i hl
   have hl:ap5 x y=false:=by simpa using hl
   rw[y5,y5]
   refine⟨fun z hz=> ?_,h⟩
   rcases l5.1 hz with rfl|hz
   ·exact hl
   ·exact ah9 hl (h.1 z hz)
theorem ak8(l:List Val): ∀i,(dsc l i).Pairwise (fun a b=>ap5 a b=false)
 |0=> .nil
 |i+1=>a85 _ _ (ak8 l i)
theorem c66{α:Type}(f:Val→α)(l:List Val):((List.range l.length).map fun k=>f (atV l k))=l.map f:=by
  refine G0 (by simp) fun i h1 h2=> ?_
  have hi:i<l.length:=by simpa using h1
  simp[atV,d9,hi]
theorem ak9(l:List Val):(ab8 l).Perm (l.map W0):=by
 unfold ab8
 rw[ay3,←c66 W0 l]
 exact(List.reverse_perm _).trans (aE6 l l.length)
theorem bg8(l:List Val):(ab8 l).Pairwise (fun a b=>ap5 b a=false):=by
 unfold ab8
 rw[ay3,List.pairwise_reverse]
 exact ak8 l l.length
theorem bg9{α β:Type}{f:α→β}: ∀{l:List α},(l.map f).Nodup→ ∀{a b:α},a∈l→b∈l→f a=f b→a=b
 | [],_,a,b,ha,_,_=>by cases ha
 |x::l,h,a,b,ha,hb,e=>by
  rw[j9,K9]at h
  rcases l5.1 ha with h1|h1<;>rcases l5.1 hb with h2|h2
  ·rw[h1,h2]
  ·exact absurd (k9.2 ⟨b,h2,by rw[←e,h1]⟩) h.1
  ·exact absurd (k9.2 ⟨a,h1,by rw[e,h2]⟩) h.1
  ·exact bg9 h.2 h1 h2 e
theorem bq7{l:List Val}(hn: ∀x∈l,W0 x=x)(hd:(l.map N4).Nodup):at3 cfV l=ab8 l:=by
 obtain⟨p1,s1⟩:=ay1 c63 l
 have hm:l.map W0=l:=by
  rw[B4 hn];simp
 have p2:=ak9 l
 rw[hm]at p2
 refine List.Perm.eq_of_pairwise (le:=fun a b=>ap5 b a=false) (fun a b ha hb h1 h2=> ?_) (s1.imp fun {a b} h=> ?_) (bg8 l) (p1.trans p2.symm)
 ·exact bg9 hd (p1.mem_iff.1 ha) (p2.mem_iff.1 hb) (aQ1 h2 h1)
 ·rw[←l9]
  intro hh
  exact h ((b51 _ _).2 hh)
end Go.Ev
namespace Go.Ev.S7
open Go Go.Ev
noncomputable def P3(sec:Bool)(a b:Val):Bool:=ap5 a b
theorem a99(sec:Bool)(a:Val):P3 sec a a=false:=ah8 _
theorem ad8{sec:Bool}{a b:Val}(h:P3 sec a b=true):P3 sec b a=false:=aQ2 h
theorem T5{sec:Bool}{a b c:Val}(h1:P3 sec a b=false)(h2:P3 sec b c=false):P3 sec a c=false:=ah9 h1 h2
noncomputable def aB7(sec:Bool)(x:Val):List Val→List Val
 | []=>[x]
 |y::r=>if P3 sec x y then y::aB7 sec x r else x::y::r
noncomputable def dsc(sec:Bool)(l:List Val):List Val:=l.foldl (fun s x=>aB7 sec x s) []
noncomputable def srt(sec:Bool)(l:List Val):List Val:=(dsc sec l).reverse
theorem c68(sec:Bool)(l:List Val)(x:Val):dsc sec (l++[x])=aB7 sec x (dsc sec l):=by simp[dsc]
theorem Z8(sec:Bool)(x:Val): ∀s:List Val,(aB7 sec x s).Perm (x::s)
 | []=> .refl _
 |y::r=>by
  unfold aB7
  split
  ·exact((Z8 sec x r).cons y).trans (.swap x y r)
  ·exact .refl _
theorem aE6(sec:Bool)(l:List Val): ∀s:List Val,(l.foldl (fun s x=>aB7 sec x s) s).Perm (l++s):=by
 induction l with
 |nil=>intro s;exact .refl _
 |cons x l ih=>
  intro s
  rw[List.foldl_cons]
  exact(ih _).trans (((Z8 sec x s).append_left l).trans List.perm_middle)
theorem av1(sec:Bool)(l:List Val):(srt sec l).Perm l:=by
 have:=aE6 sec l []
 rw[n9]at this
 exact(List.reverse_perm _).trans this
theorem srt_len(sec:Bool)(l:List Val):(srt sec l).length=l.length:=(av1 sec l).length_eq
theorem a85(sec:Bool)(x:Val): ∀s:List Val,s.Pairwise (fun a b=>P3 sec a b=false)→(aB7 sec x s).Pairwise (fun a b=>P3 sec a b=false)
 | [],_=>by simp[aB7]
 |y::r,h=>by
  unfold aB7
  rw[y5]at h
  split
  ·rename_i hl
   rw[y5]
   refine⟨fun z hz=> ?_,a85 sec x r h.2⟩
   rcases l5.1 ((Z8 sec x r).mem_iff.1 hz)with rfl|hz
   ·exact ad8 hl
   ·exact h.1 z hz
  ·rename_i hl
   have hl:P3 sec x y=false:=by simpa using hl
   rw[y5,y5]
   refine⟨fun z hz=> ?_,h⟩
   rcases l5.1 hz with rfl|hz
   ·exact hl
   ·exact T5 hl (h.1 z hz)
theorem ak8(sec:Bool)(l:List Val): ∀s:List Val,s.Pairwise (fun a b=>P3 sec a b=false)→(l.foldl (fun s x=>aB7 sec x s) s).Pairwise (fun a b=>P3 sec a b=false):=by
 induction l with
 |nil=>intro s h;exact h
 |cons x l ih=>intro s h;exact ih _ (a85 sec x s h)
theorem Y7(sec:Bool)(l:List Val):(srt sec l).Pairwise (fun a b=>P3 sec b a=false):=by
 unfold srt
 rw[List.pairwise_reverse]
 exact ak8 sec l [] .nil
theorem bq6(a b:List Val)(k:Nat)(h:a.length=k):atV (a++b) k=atV b 0:=by
 subst h
 unfold atV
 rw[d9,d9,j3 (b9 _),x6]
noncomputable def eqv(sec:Bool)(x y:Val):Bool:= !P3 sec x y&& !P3 sec y x
def Sd(sec:Bool)(l:List Val):Prop:=l.Pairwise (fun a b=>P3 sec b a=false)
def Cl(sec:Bool)(l q:List Val):Prop:= ∀x,l.filter (eqv sec x)=q.filter (eqv sec x)
theorem bD1(sec:Bool)(x:Val):eqv sec x x=true:=by simp[eqv,a99]
theorem eqv_iff{sec:Bool}{x y:Val}:eqv sec x y=true↔P3 sec x y=false∧P3 sec y x=false:=by simp[eqv]
theorem cu1{sec:Bool}{x y z:Val}(h:P3 sec y z=true)(h1:eqv sec x y=true):eqv sec x z=false:=by
 rw[←l9]
 intro h2
 obtain⟨a1,a2⟩:=eqv_iff.1 h1
 obtain⟨b1,b2⟩:=eqv_iff.1 h2
 have:=T5 a2 b1
 rw[h]at this;cases this
theorem Cl.refl(sec:Bool)(l:List Val):Cl sec l l:=fun _=>rfl
theorem Cl.symm{sec:Bool}{l q:List Val}(h:Cl sec l q):Cl sec q l:=fun x=>(h x).symm
theorem Cl.trans{sec:Bool}{l q r:List Val}(h:Cl sec l q)(h2:Cl sec q r):Cl sec l r:=fun x=>(h x).trans (h2 x)
theorem Cl.app{sec:Bool}{a b c d:List Val}(h:Cl sec a b)(h2:Cl sec c d):Cl sec (a++c) (b++d):=fun x=>by
 rw[B0,B0,h x,h2 x]
theorem bq8{sec:Bool}{A B:List Val}(h: ∀a∈A,∀b∈B,P3 sec b a=true):Cl sec (A++B) (B++A):=fun x=>by
 rw[B0,B0]
 cases hA:A.filter (eqv sec x)with
 |nil=>simp
 |cons a l=>
  have ha:a∈A.filter (eqv sec x):=by rw[hA];simp
  have hB:B.filter (eqv sec x)=[]:=by
   rw[List.filter_eq_nil_iff]
   intro b hb hx
   have:=cu1 (h a (x8.1 ha).1 b hb) hx
   rw[(x8.1 ha).2]at this;cases this
  rw[hB];simp
theorem bD2{sec:Bool}{l q:List Val}(h:Cl sec l q){x:Val}(hx:x∈l):x∈q:=by
 have:x∈l.filter (eqv sec x):=x8.2 ⟨hx,bD1 sec x⟩
 rw[h x]at this
 exact(x8.1 this).1
theorem c69{sec:Bool}: ∀{l q:List Val},Sd sec l→Sd sec q→Cl sec l q→l=q
 | [],[],_,_,_=>rfl
 | [],y::q,_,_,h=>by have:=bD2 h.symm (x:=y) (by simp);cases this
 |x::l,[],_,_,h=>by have:=bD2 h (x:=x) (by simp);cases this
 |x::l,y::q,h1,h2,h=>by
  have g1:=y5.1 h1
  have g2:=y5.1 h2
  have e1:P3 sec x y=false:=by
   rcases l5.1 (bD2 h (x:=x) (by simp))with e|e
   ·rw[e];exact a99 sec y
   ·exact g2.1 x e
  have e2:P3 sec y x=false:=by
   rcases l5.1 (bD2 h.symm (x:=y) (by simp))with e|e
   ·rw[e];exact a99 sec x
   ·exact g1.1 y e
  have hx:=h x
  rw[y9,if_pos (bD1 sec x),y9,if_pos (eqv_iff.2 ⟨e1,e2⟩)]at hx
  injection hx with hxy _
  subst hxy
  congr 1
  refine c69 g1.2 g2.2 fun z=> ?_
  have hz:=h z
  rw[y9,y9]at hz
  split at hz
  ·injection hz
  ·exact hz
theorem c70{sec:Bool}(x z:Val): ∀s:List Val,(aB7 sec x s).filter (eqv sec z)=(x::s).filter (eqv sec z)
 | []=>rfl
 |y::r=>by
  unfold aB7
  split
  ·rename_i hl
   rw[y9,c70 x z r,y9,y9,y9]
   cases h1:eqv sec z x with
   |false=>simp
   |true=>rw[cu1 hl h1];simp
  ·rfl
theorem cu2{sec:Bool}(z:Val): ∀(l s:List Val),(l.foldl (fun s x=>aB7 sec x s) s).filter (eqv sec z)=(l.reverse++s).filter (eqv sec z)
 | [],s=>rfl
 |x::l,s=>by
  rw[List.foldl_cons,cu2 z l,B0,c70,←B0]
  simp
theorem bh0(sec:Bool)(l:List Val):Cl sec (srt sec l) l:=fun z=>by
 unfold srt
 rw[List.filter_reverse]
 have:=cu2 (sec:=sec) z l []
 unfold dsc
 rw[this,n9,List.filter_reverse,List.reverse_reverse]
theorem bh1{sec:Bool}{l q:List Val}(hs:Sd sec q)(hc:Cl sec q l):srt sec l=q:=c69 (Y7 sec l) hs ((bh0 sec l).trans hc.symm)
theorem aQ4{sec:Bool}{l:List Val}(hs:Sd sec l):srt sec l=l:=bh1 hs (Cl.refl sec l)
theorem srt_mem{sec:Bool}{l:List Val}{x:Val}:x∈srt sec l↔x∈l:=(av1 sec l).mem_iff
def seg(l:List Val)(a b:Nat):List Val:=(l.take b).drop a
theorem X3{l:List Val}{a b:Nat}(h:b≤l.length):(seg l a b).length=b-a:=by
 unfold seg;rw[List.length_drop,List.length_take];omega
theorem V4{l:List Val}{a m b:Nat}(h1:a≤m)(h2:m≤b):seg l a m++seg l m b=seg l a b:=by
 unfold seg
 have e:l.take m=(l.take b).take m:=by rw[List.take_take,x7 h2]
 rw[e]
 generalize l.take b=q
 have:q.drop m=(q.drop a).drop (m-a):=by rw[F9,show a+(m-a)=m by omega]
 rw[F8,this,p8]
theorem c71{l:List Val}{a b:Nat}(h1:a≤b):l=l.take a++seg l a b++l.drop b:=by
 have e:l.take a=seg l 0 a:=by simp[seg]
 rw[e,V4 (k8 a) h1]
 simp[seg]
theorem aA7{P U Q:List Val}{a b:Nat}(ha:a=P.length)(hb:b=P.length+U.length):seg (P++U++Q) a b=U:=by
 subst ha;subst hb
 unfold seg
 rw[I0 (by simp),I1 rfl]
theorem atV_mid{P Q:List Val}{x:Val}{k:Nat}(h:k=P.length):atV (P++x::Q) k=x:=by
 subst h
 unfold atV
 rw[d9,j3 (b9 _),x6];rfl
theorem set_mid{P Q:List Val}{x y:Val}{k:Nat}(h:k=P.length):(P++x::Q).set k y=P++y::Q:=by
 subst h
 rw[I5,if_neg (D3 _),x6];rfl
theorem c72{l:List Val}{a b k:Nat}(h1:b≤l.length)(h2:a+k<b):atV (seg l a b) k=atV l (a+k):=by
 unfold seg atV
 rw[d9,d9,o9,n8,if_pos h2]
theorem atV_mem{l:List Val}{k:Nat}(h:k<l.length):atV l k∈l:=by
 unfold atV
 rw[d9,j0 h]
 exact I4 h
theorem cG4{l:List Val}{x:Val}(h:x∈l): ∃k,k<l.length∧x=atV l k:=by
 obtain⟨k,hk,rfl⟩:=K7 h
 refine⟨k,hk,?_⟩
 unfold atV
 rw[d9,j0 hk];rfl
theorem ai0{l:List Val}{a b:Nat}{x:Val}(hb:b≤l.length)(h:x∈seg l a b): ∃k,a≤k∧k<b∧x=atV l k:=by
 obtain⟨k,hk,e⟩:=cG4 h
 rw[X3 hb]at hk
 exact⟨a+k,by omega,by omega,e.trans (c72 hb (by omega))⟩
def swp(l:List Val)(i j:Nat):List Val:=(l.set i (atV l j)).set j (atV l i)
theorem aQ5(l:List Val)(i j:Nat):(swp l i j).length=l.length:=by simp[swp]
theorem bD3{P M Q:List Val}{x y:Val}{i j:Nat}(hi:i=P.length)(hj:j=P.length+1+M.length):swp (P++x::(M++y::Q)) i j=P++y::(M++x::Q):=by
 have e1:P++x::(M++y::Q)=(P++x::M)++y::Q:=by simp
 have a1:atV (P++x::(M++y::Q)) j=y:=by rw[e1];exact atV_mid (by rw[hj];simp;omega)
 unfold swp
 rw[a1,atV_mid hi,set_mid hi,show P++y::(M++y::Q)=(P++y::M)++y::Q by simp,set_mid (by rw[hj];simp;omega)]
 simp
theorem b53{l:List Val}{i j:Nat}(h:i≠j):swp l i j=swp l j i:=by
 unfold swp;exact List.set_comm _ _ h
def swN(l:List Val)(a b:Nat):Nat→List Val
 |0=>l
 |n+1=>swp (swN l a b n) (a+n) (b+n)
theorem ai1(l:List Val)(a b:Nat): ∀n,(swN l a b n).length=l.length
 |0=>rfl
 |n+1=>by rw[swN,aQ5,ai1 l a b n]
theorem bq9{l:List Val}{n:Nat}(h:l.length=n+1): ∃q x,l=q++[x]∧q.length=n:=by
 rcases List.eq_nil_or_concat l with e|⟨q,x,e⟩
 ·rw[e]at h;cases h
 ·refine⟨q,x,by rw[e,List.concat_eq_append],?_⟩
  rw[e]at h;simpa using h
theorem bD4: ∀(n:Nat) {P A X B Q:List Val} {a b:Nat},A.length=n→B.length=n→a=P.length→b=P.length+n+X.length→swN (P++(A++(X++(B++Q)))) a b n=P++(B++(X++(A++Q)))
 |0,P,A,X,B,Q,a,b,hA,hB,_,_=>by
  rw[r9.1 hA,r9.1 hB];rfl
 |n+1,P,A,X,B,Q,a,b,hA,hB,ha,hb=>by
  obtain⟨A',x,rfl,h1⟩:=bq9 hA
  obtain⟨B',y,rfl,h2⟩:=bq9 hB
  have ih:=bD4 n (P:=P) (A:=A') (X:=x::X) (B:=B') (Q:=y::Q) (a:=a) (b:=b) h1 h2 ha (by simp;omega)
  have e:P++((A'++[x])++(X++((B'++[y])++Q)))=P++(A'++(x::X++(B'++y::Q))):=by simp
  rw[e,swN,ih,show P++(B'++(x::X++(A'++y::Q)))=(P++B')++x::((X++A')++y::Q) by simp,bD3 (by simp;omega) (by simp;omega)]
  simp
def cG5(l:List Val)(a m b:Nat):List Val:=l.take a++(seg l m b++(seg l a m++l.drop b))
theorem dj3{l:List Val}{a m b:Nat}(h1:a≤m)(h2:m≤b):l=l.take a++(seg l a m++(seg l m b++l.drop b)):=by
 conv=>lhs;rw[c71 (l:=l) (m7 h1 h2),←V4 h1 h2]
 simp
theorem cP8{l:List Val}{a b:Nat}(h1:a≤b):l=l.take a++(seg l a b++l.drop b):=by
 conv=>lhs;rw[c71 (l:=l) h1]
 simp
theorem cG6{P U V Q:List Val}{a m b:Nat}(ha:a=P.length)(hm:m=P.length+U.length)(hb:b=P.length+U.length+V.length):cG5 (P++(U++(V++Q))) a m b=P++(V++(U++Q)):=by
 have e1:seg (P++(U++(V++Q))) a m=U:=by
  rw[show P++(U++(V++Q))=P++U++(V++Q) by simp];exact aA7 ha hm
 have e2:seg (P++(U++(V++Q))) m b=V:=by
  rw[show P++(U++(V++Q))=(P++U)++V++Q by simp];exact aA7 (by simp;omega) (by simp;omega)
 unfold cG5
 rw[e1,e2,I0 ha.symm,show P++(U++(V++Q))=(P++(U++V))++Q by simp,I1 (by simp;omega)]
def b74(m:Nat):Nat→Nat→Nat→List Val→Nat×List Val
 |0,i,_,l=>(i,l)
 |n+1,i,j,l=>if i=j then(i,l)else if j<i then b74 m n (i-j) j (swN l (m-i) m j)else b74 m n i (j-i) (swN l (m-i) (m+j-i) i)
theorem aQ6(m:Nat): ∀(n i j:Nat) (P U V Q:List Val),i+j≤n+1→0<i→0<j→U.length=i→V.length=j→m=P.length+i→
 let r:=b74 m n i j (P++(U++(V++Q)))
 0<r.1∧r.1≤i∧r.1≤j∧r.2.length=(P++(U++(V++Q))).length∧swN r.2 (m-r.1) m r.1=P++(V++(U++Q))
 |0,i,j,P,U,V,Q,hn,hi,hj,hU,hV,hm=>by omega
 |n+1,i,j,P,U,V,Q,hn,hi,hj,hU,hV,hm=>by
  unfold b74
  by_cases h1:i=j
  ·rw[if_pos h1]
   refine⟨hi,b9 _,by simp;omega,rfl,?_⟩
   have:=bD4 i (P:=P) (A:=U) (X:=[]) (B:=V) (Q:=Q) (a:=m-i) (b:=m) hU (by omega) (by omega) (by simp;omega)
   simpa using this
  ·rw[if_neg h1]
   by_cases h2:j<i
   ·rw[if_pos h2]
    obtain⟨U1,U2,rfl,hU1⟩: ∃U1 U2,U=U1++U2∧U1.length=j:=⟨U.take j,U.drop j,(p8 j U).symm,by rw[e9];omega⟩
    have hU2:U2.length=i-j:=by rw[e8]at hU;omega
    have e:=bD4 j (P:=P) (A:=U1) (X:=U2) (B:=V) (Q:=Q) (a:=m-i) (b:=m) hU1 hV (by omega) (by omega)
    rw[show P++((U1++U2)++(V++Q))=P++(U1++(U2++(V++Q))) by simp,e]
    have ih:=aQ6 m n (i-j) j (P++V) U2 U1 Q (by omega) (by omega) hj hU2 hU1 (by simp;omega)
    rw[show(P++V)++(U2++(U1++Q))=P++(V++(U2++(U1++Q))) by simp]at ih
    obtain⟨g1,g2,g3,g4,g5⟩:=ih
    exact⟨g1,by omega,g3,g4.trans (by simp;omega),g5.trans (by simp)⟩
   ·rw[if_neg h2]
    obtain⟨V1,V2,rfl,hV1⟩: ∃V1 V2,V=V1++V2∧V1.length=j-i:=⟨V.take (j-i),V.drop (j-i),(p8 (j-i) V).symm,by rw[e9];omega⟩
    have hV2:V2.length=i:=by rw[e8]at hV;omega
    have e:=bD4 i (P:=P) (A:=U) (X:=V1) (B:=V2) (Q:=Q) (a:=m-i) (b:=m+j-i) hU hV2 (by omega) (by omega)
    rw[show P++(U++((V1++V2)++Q))=P++(U++(V1++(V2++Q))) by simp,e]
    have ih:=aQ6 m n i (j-i) P V2 V1 (U++Q) (by omega) hi (by omega) hV2 hV1 hm
    obtain⟨g1,g2,g3,g4,g5⟩:=ih
    exact⟨g1,g2,by omega,g4.trans (by simp;omega),g5.trans (by simp)⟩
def mvU(l:List Val)(a:Nat):Nat→List Val
 |0=>l
 |n+1=>swp (mvU l a n) (a+n) (a+n+1)
theorem b54(l:List Val)(a:Nat): ∀n,(mvU l a n).length=l.length
 |0=>rfl
 |n+1=>by rw[mvU,aQ5,b54 l a n]
theorem cu3: ∀(n:Nat) {P Y Q:List Val} {x:Val} {a:Nat},Y.length=n→a=P.length→mvU (P++x::(Y++Q)) a n=P++(Y++x::Q)
 |0,P,Y,Q,x,a,hY,_=>by rw[r9.1 hY];rfl
 |n+1,P,Y,Q,x,a,hY,ha=>by
  obtain⟨Y',y,rfl,h1⟩:=bq9 hY
  have ih:=cu3 n (P:=P) (Y:=Y') (Q:=y::Q) (x:=x) (a:=a) h1 ha
  rw[show P++x::((Y'++[y])++Q)=P++x::(Y'++y::Q) by simp,mvU,ih,show P++(Y'++x::y::Q)=(P++Y')++x::([]++y::Q) by simp,bD3 (by simp;omega) (by simp;omega)]
  simp
def mvD(l:List Val)(m:Nat):Nat→List Val
 |0=>l
 |n+1=>swp (mvD l m n) (m-n-1) (m-n)
theorem b55(l:List Val)(m:Nat): ∀n,(mvD l m n).length=l.length
 |0=>rfl
 |n+1=>by rw[mvD,aQ5,b55 l m n]
theorem cu4: ∀(n:Nat) {P Y Q:List Val} {x:Val} {m:Nat},Y.length=n→m=P.length+n→mvD (P++(Y++x::Q)) m n=P++x::(Y++Q)
 |0,P,Y,Q,x,m,hY,_=>by rw[r9.1 hY];rfl
 |n+1,P,Y,Q,x,m,hY,hm=>by
  cases Y with
  |nil=>cases hY
  |cons y Y'=>
   have ih:=cu4 n (P:=P++[y]) (Y:=Y') (Q:=Q) (x:=x) (m:=m) (by simpa using hY) (by simp;omega)
   rw[show P++(y::Y'++x::Q)=(P++[y])++(Y'++x::Q) by simp,mvD,ih,show(P++[y])++x::(Y'++Q)=P++y::([]++x::(Y'++Q)) by simp,bD3 (by omega) (by simp;omega)]
   simp
def bs(T:Nat→Bool):Nat→Nat→Nat→Nat
 |0,i,_=>i
 |n+1,i,j=>if i<j then(if T ((i+j)/2)then bs T n ((i+j)/2+1) j else bs T n i ((i+j)/2))else i
theorem aQ7{T:Nat→Bool}{lo hi:Nat}(mono: ∀c d,lo≤c→c≤d→d<hi→T d=true→T c=true): ∀n i j,lo≤i→i≤j→j≤hi→j-i≤n→(∀c,lo≤c→c<i→T c=true)→(∀c,j≤c→c<hi→T c=false)→
 i≤bs T n i j∧bs T n i j≤j∧(∀c,lo≤c→c<bs T n i j→T c=true)∧ ∀c,bs T n i j≤c→c<hi→T c=false
 |0,i,j,h1,h2,h3,h4,h5,h6=>by
  have:i=j:=by omega
  subst this
  exact⟨b9 _,b9 _,h5,h6⟩
 |n+1,i,j,h1,h2,h3,h4,h5,h6=>by
  unfold bs
  by_cases hij:i<j
  ·rw[if_pos hij]
   by_cases hT:T ((i+j)/2)=true
   ·rw[if_pos hT]
    obtain⟨a,b,c⟩:=aQ7 mono n ((i+j)/2+1) j (by omega) (by omega) h3 (by omega) (fun c hc1 hc2=>mono c ((i+j)/2) hc1 (by omega) (by omega) hT) h6
    exact⟨by omega,b,c⟩
   ·rw[if_neg hT]
    obtain⟨a,b,c⟩:=aQ7 mono n i ((i+j)/2) h1 (by omega) (by omega) (by omega) h5 (fun c hc1 hc2=>by
      rw[←l9]
      exact fun hc=>hT (mono _ c (by omega) hc1 hc2 hc))
    exact⟨a,by omega,c⟩
  ·rw[if_neg hij]
   have:i=j:=by omega
   subst this
   exact⟨b9 _,b9 _,h5,h6⟩
theorem br0{step:List Val→Option (Nat×List Val)}{T:Nat→Bool}{lo hi:Nat}(h1: ∀i j:Nat,lo≤i→i<j→j≤hi→step [.vi i,.vi j]=some (0,if T ((i+j)/2)then [.vi ((i+j)/2+1:Nat),.vi j]else [.vi i,.vi ((i+j)/2:Nat)]))(h2: ∀i:Nat,step [.vi i,.vi i]=some (1,[.vi i,.vi i])):
 ∀(n i j:Nat),lo≤i→i≤j→j≤hi→j-i≤n→Iter step [.vi i,.vi j] 0 [.vi (bs T n i j),.vi (bs T n i j)]
 |0,i,j,a,b,c,d=>by
  have:i=j:=by omega
  subst this
  exact .out (h2 i)
 |n+1,i,j,a,b,c,d=>by
  unfold bs
  by_cases hij:i<j
  ·rw[if_pos hij]
   have e:=h1 i j a hij c
   by_cases hT:T ((i+j)/2)=true
   ·rw[if_pos hT]at e⊢
    exact .more e (br0 h1 h2 n ((i+j)/2+1) j (by omega) (by omega) c (by omega))
   ·rw[if_neg hT]at e⊢
    exact .more e (br0 h1 h2 n i ((i+j)/2) a (by omega) (by omega) (by omega))
  ·rw[if_neg hij]
   have:i=j:=by omega
   subst this
   exact .out (h2 i)
end Go.Ev.S7
namespace Go.Ev.S7
open Go Go.Ev
noncomputable def X4(sec:Bool)(l:List Val)(a b:Nat):List Val:=l.take a++(srt sec (seg l a b)++l.drop b)
theorem ai2(sec:Bool){l:List Val}{a b:Nat}(h:a≤b):(X4 sec l a b).Perm l:=by
 conv=>rhs;rw[cP8 (l:=l) h]
 exact((av1 sec _).append_right _).append_left _
theorem bD5(sec:Bool){l:List Val}{a b:Nat}(h:a≤b):(X4 sec l a b).length=l.length:=(ai2 sec h).length_eq
theorem c73{sec:Bool}{P U Q:List Val}{a b:Nat}(ha:a=P.length)(hb:b=P.length+U.length):X4 sec (P++(U++Q)) a b=P++(srt sec U++Q):=by
 have e1:seg (P++(U++Q)) a b=U:=by
  rw[show P++(U++Q)=P++U++Q by simp];exact aA7 ha hb
 unfold X4
 rw[e1,I0 ha.symm,show P++(U++Q)=(P++U)++Q by simp,I1 (by simp;omega)]
theorem av2{sec:Bool}{A B:List Val}:Sd sec (A++B)↔Sd sec A∧Sd sec B∧ ∀a∈A,∀b∈B,P3 sec b a=false:=List.pairwise_append
theorem bh2{sec:Bool}{l:List Val}{a b i j:Nat}(h:Sd sec (seg l a b))(hb:b≤l.length)(h1:a≤i)(h2:i≤j)(h3:j<b):P3 sec (atV l j) (atV l i)=false:=by
 rcases d8 i j with hij|hij
 ·unfold Sd at h
  rw[I3]at h
  have hl:=X3 (l:=l) (a:=a) hb
  have:=h (i-a) (j-a) (by omega) (by omega) (by omega)
  have e: ∀k (hk:k<(seg l a b).length),(seg l a b)[k]=atV l (a+k):=fun k hk=>by
   rw[←c72 hb (by omega)]
   unfold atV
   rw[d9,j0 hk];rfl
  rw[e,e,show a+(i-a)=i by omega,show a+(j-a)=j by omega]at this
  exact this
 ·have:i=j:=by omega
  subst this
  exact a99 sec _
theorem bD6{sec:Bool}{l:List Val}{a b c d:Nat}(h:Sd sec (seg l a b))(h1:a≤c)(h2:c≤d)(h3:d≤b):Sd sec (seg l c d):=by
 rw[←V4 h1 (m7 h2 h3),←V4 h2 h3]at h
 exact(av2.1 (av2.1 h).2.1).1
theorem br1{l:List Val}{a:Nat}(h:a<l.length):seg l a (a+1)=[atV l a]:=by
 unfold seg
 rw[M3,F7,E7 (by rw[e9];omega)]
 unfold atV
 rw[e9,show a-min a l.length=0 by omega,d9,j0 h];rfl
theorem br2{l:List Val}{a b:Nat}(h:b≤a):seg l a b=[]:=by
 unfold seg
 exact E7 (by rw[e9];omega)
theorem da5{sec:Bool}{a b c:Val}(h1:P3 sec a b=true)(h2:P3 sec c b=false):P3 sec a c=true:=by
 cases h:P3 sec a c with
 |true=>rfl
 |false=>have:=T5 h h2;rw[h1]at this;cases this
theorem cZ7{sec:Bool}{a b c:Val}(h1:P3 sec b a=false)(h2:P3 sec b c=true):P3 sec a c=true:=by
 cases h:P3 sec a c with
 |true=>rfl
 |false=>have:=T5 h1 h;rw[h2]at this;cases this
theorem cG7{sec:Bool}{l:List Val}{a b:Nat}(h1:a+1<b)(hb:b≤l.length)(hs:Sd sec (seg l (a+1) b)):
 a+1≤bs (fun h=>P3 sec (atV l h) (atV l a)) (b-(a+1)) (a+1) b∧bs (fun h=>P3 sec (atV l h) (atV l a)) (b-(a+1)) (a+1) b≤b∧
  mvU l a (bs (fun h=>P3 sec (atV l h) (atV l a)) (b-(a+1)) (a+1) b-1-a)=X4 sec l a b:=by
 have sp:=aQ7 (T:=fun h=>P3 sec (atV l h) (atV l a)) (lo:=a+1) (hi:=b) (fun c d hc hcd hd hT=>cZ7 (bh2 hs hb hc hcd hd) hT) (b-(a+1)) (a+1) b (b9 _) (by omega) (b9 _) (b9 _) (fun c _ _=>by omega) (fun c _ _=>by omega)
 generalize bs (fun h=>P3 sec (atV l h) (atV l a)) (b-(a+1)) (a+1) b=r at sp⊢
 obtain⟨r1,r2,r3,r4⟩:=sp
 refine⟨r1,r2,?_⟩
 have e1:seg l a b=atV l a::(seg l (a+1) r++seg l r b):=by
  rw[V4 r1 r2,←V4 (a:=a) (m:=a+1) (b:=b) (by omega) (by omega),br1 (by omega)];rfl
 have e2:l=l.take a++atV l a::(seg l (a+1) r++(seg l r b++l.drop b)):=by
  conv=>lhs;rw[cP8 (l:=l) (a:=a) (b:=b) (by omega),e1]
  simp
 have hA: ∀x∈seg l (a+1) r,P3 sec x (atV l a)=true:=fun x hx=>by
  obtain⟨k,k1,k2,rfl⟩:=ai0 (by omega) hx
  exact r3 k k1 k2
 have hB: ∀x∈seg l r b,P3 sec x (atV l a)=false:=fun x hx=>by
  obtain⟨k,k1,k2,rfl⟩:=ai0 hb hx
  exact r4 k k1 k2
 have hAB:=av2.1 (show Sd sec (seg l (a+1) r++seg l r b) by rw[V4 r1 r2];exact hs)
 have e3:srt sec (seg l a b)=seg l (a+1) r++atV l a::seg l r b:=by
  refine bh1 (av2.2 ⟨hAB.1,y5.2 ⟨hB,hAB.2.1⟩,fun x hx y hy=> ?_⟩) ?_
  ·rcases l5.1 hy with rfl|hy
   ·exact ad8 (hA x hx)
   ·exact hAB.2.2 x hx y hy
  ·rw[e1]
   have:=(bq8 (sec:=sec) (A:=[atV l a]) (B:=seg l (a+1) r) (fun x hx y hy=>by rw[s8.1 hx];exact hA y hy)).symm.app (Cl.refl sec (seg l r b))
   simpa using this
 have e4:=cu3 (r-1-a) (P:=l.take a) (Y:=seg l (a+1) r) (Q:=seg l r b++l.drop b) (x:=atV l a) (a:=a) (by rw[X3 (by omega)];omega) (by rw[e9];omega)
 rw[←e2]at e4
 rw[e4]
 unfold X4
 rw[e3]
 simp
theorem cG8{sec:Bool}{l:List Val}{a m:Nat}(h1:a<m)(hb:m+1≤l.length)(hs:Sd sec (seg l a m)):
 a≤bs (fun h=> !P3 sec (atV l m) (atV l h)) (m-a) a m∧bs (fun h=> !P3 sec (atV l m) (atV l h)) (m-a) a m≤m∧
  mvD l m (m-bs (fun h=> !P3 sec (atV l m) (atV l h)) (m-a) a m)=X4 sec l a (m+1):=by
 have sp:=aQ7 (T:=fun h=> !P3 sec (atV l m) (atV l h)) (lo:=a) (hi:=m) (fun c d hc hcd hd hT=>by
  simp only[m6]at hT⊢
  exact T5 hT (bh2 hs (by omega) hc hcd hd)) (m-a) a m (b9 _) (by omega) (b9 _) (b9 _) (fun c _ _=>by omega) (fun c _ _=>by omega)
 generalize bs (fun h=> !P3 sec (atV l m) (atV l h)) (m-a) a m=r at sp⊢
 obtain⟨r1,r2,r3,r4⟩:=sp
 refine⟨r1,r2,?_⟩
 have e1:seg l a (m+1)=seg l a r++(seg l r m++[atV l m]):=by
  rw[←r7,V4 r1 r2,←V4 (a:=a) (m:=m) (b:=m+1) (by omega) (by omega),br1 (by omega)]
 have e2:l=(l.take a++seg l a r)++(seg l r m++atV l m::l.drop (m+1)):=by
  conv=>lhs;rw[cP8 (l:=l) (a:=a) (b:=m+1) (by omega),e1]
  simp
 have hA: ∀x∈seg l a r,P3 sec (atV l m) x=false:=fun x hx=>by
  obtain⟨k,k1,k2,rfl⟩:=ai0 (by omega) hx
  simpa using r3 k k1 k2
 have hB: ∀x∈seg l r m,P3 sec (atV l m) x=true:=fun x hx=>by
  obtain⟨k,k1,k2,rfl⟩:=ai0 (by omega) hx
  simpa using r4 k k1 k2
 have hAB:=av2.1 (show Sd sec (seg l a r++seg l r m) by rw[V4 r1 r2];exact hs)
 have e3:srt sec (seg l a (m+1))=seg l a r++atV l m::seg l r m:=by
  refine bh1 (av2.2 ⟨hAB.1,y5.2 ⟨fun y hy=>ad8 (hB y hy),hAB.2.1⟩,fun x hx y hy=> ?_⟩) ?_
  ·rcases l5.1 hy with rfl|hy
   ·exact hA x hx
   ·exact hAB.2.2 x hx y hy
  ·rw[e1]
   have:=(Cl.refl sec (seg l a r)).app (bq8 (sec:=sec) (A:=seg l r m) (B:=[atV l m]) (fun x hx y hy=>by rw[s8.1 hy];exact hB x hx)).symm
   simpa using this
 have e4:=cu4 (m-r) (P:=l.take a++seg l a r) (Y:=seg l r m) (Q:=l.drop (m+1)) (x:=atV l m) (m:=m) (by rw[X3 (by omega)]) (by rw[e8,e9,X3 (by omega)];omega)
 rw[←e2]at e4
 rw[e4]
 unfold X4
 rw[e3]
 simp
theorem cG9{sec:Bool}{l:List Val}{a m b mid lo hi r:Nat}(h1:a<m)(h2:m<b)(hb:b≤l.length)(hs1:Sd sec (seg l a m))(hs2:Sd sec (seg l m b))(hmid:mid=(a+b)/2)
 (hlh:mid<m∧lo=mid+m-b∧hi=mid∨m≤mid∧lo=a∧hi=m) (hr:r=bs (fun c=> !P3 sec (atV l (mid+m-1-c)) (atV l c)) (hi-lo) lo hi):
 a≤r∧r≤m∧r≤mid∧mid+m-r≤b∧ ∃l1 l2,(r<m→m<mid+m-r→cG5 l r m (mid+m-r)=l1)∧(¬(r<m∧m<mid+m-r)→l=l1)∧l1.Perm l∧Sd sec (seg l1 a r)∧Sd sec (seg l1 r mid)∧
  (a<r→r<mid→X4 sec l1 a mid=l2)∧(¬(a<r∧r<mid)→l1=l2)∧l2.Perm l∧Sd sec (seg l2 mid (mid+m-r))∧Sd sec (seg l2 (mid+m-r) b)∧
  (mid<mid+m-r→mid+m-r<b→X4 sec l2 mid b=X4 sec l a b)∧(¬(mid<mid+m-r∧mid+m-r<b)→l2=X4 sec l a b):=by
 have hm1:a<mid:=by omega
 have hm2:mid<b:=by omega
 have hlo:a≤lo:=by omega
 have hhi:hi≤m:=by omega
 have hhm:hi≤mid:=by omega
 have hle:lo≤hi:=by omega
 have hlb:mid+m-b≤lo:=by omega
 have sp:=aQ7 (T:=fun c=> !P3 sec (atV l (mid+m-1-c)) (atV l c)) (lo:=lo) (hi:=hi) (fun c d hc hcd hd hT=>by
  simp only[m6]at hT⊢
  have g1:=bh2 hs1 (by omega) (show a≤c by omega) hcd (by omega)
  have g2:=bh2 hs2 hb (show m≤mid+m-1-d by omega) (show mid+m-1-d≤mid+m-1-c by omega) (by omega)
  exact T5 g2 (T5 hT g1)) (hi-lo) lo hi (b9 _) hle (b9 _) (b9 _) (fun c _ _=>by omega) (fun c _ _=>by omega)
 rw[←hr]at sp
 obtain⟨r1,r2,r3,r4⟩:=sp
 have q1:a≤r:=by omega
 have q2:r≤m:=by omega
 have q3:r≤mid:=by omega
 have q4:mid+m-r≤b:=by omega
 refine⟨q1,q2,q3,q4,?_⟩
 obtain⟨e,he⟩: ∃e,e=mid+m-r:=⟨_,rfl⟩
 rw[←he]at q4⊢
 have q5:m≤e:=by omega
 have F1: ∀x∈seg l r m,∀y∈seg l m e,P3 sec y x=true:=fun x hx y hy=>by
  obtain⟨i,i1,i2,rfl⟩:=ai0 (by omega) hx
  obtain⟨j,j1,j2,rfl⟩:=ai0 (by omega) hy
  have hT:=r4 r (b9 _) (by omega)
  simp only[I6]at hT
  rw[show mid+m-1-r=e-1 by omega]at hT
  have g1:=bh2 hs2 hb j1 (show j≤e-1 by omega) (by omega)
  have g2:=bh2 hs1 (by omega) q1 i1 i2
  exact da5 (cZ7 g1 hT) g2
 have F2: ∀x∈seg l a r,∀y∈seg l e b,P3 sec y x=false:=fun x hx y hy=>by
  obtain⟨i,i1,i2,rfl⟩:=ai0 (by omega) hx
  obtain⟨j,j1,j2,rfl⟩:=ai0 (by omega) hy
  have hT:=r3 (r-1) (by omega) (by omega)
  simp only[m6]at hT
  rw[show mid+m-1-(r-1)=e by omega]at hT
  have g1:=bh2 hs2 hb (show m≤e by omega) j1 j2
  have g2:=bh2 hs1 (by omega) i1 (show i≤r-1 by omega) (by omega)
  exact T5 g1 (T5 hT g2)
 have u1s:=bD6 hs1 (b9 a) q1 q2
 have u2s:=bD6 hs1 q1 q2 (b9 m)
 have v1s:=bD6 hs2 (b9 m) q5 q4
 have v2s:=bD6 hs2 q5 q4 (b9 b)
 have F3:=(av2.1 (show Sd sec (seg l a r++seg l r m) by rw[V4 q1 q2];exact hs1)).2.2
 have F4:=(av2.1 (show Sd sec (seg l m e++seg l e b) by rw[V4 q5 q4];exact hs2)).2.2
 have lP:(l.take a).length=a:=by rw[e9];omega
 have l1:=X3 (l:=l) (a:=a) (b:=r) (by omega)
 have l2:=X3 (l:=l) (a:=r) (b:=m) (by omega)
 have l3:=X3 (l:=l) (a:=m) (b:=e) (by omega)
 have l4:=X3 (l:=l) (a:=e) (b:=b) (by omega)
 have hl:l=l.take a++(seg l a r++(seg l r m++(seg l m e++(seg l e b++l.drop b)))):=by
  conv=>lhs;rw[cP8 (l:=l) (a:=a) (b:=b) (by omega),←V4 (a:=a) (m:=m) (b:=b) (by omega) (by omega),←V4 q1 q2,←V4 q5 q4]
  simp
 have hsrt:X4 sec l a b=l.take a++(srt sec (seg l a r++seg l m e)++(srt sec (seg l r m++seg l e b)++l.drop b)):=by
  unfold X4
  rw[←r7 (srt sec (seg l a r++seg l m e))]
  congr 2
  refine bh1 (av2.2 ⟨Y7 sec _,Y7 sec _,fun x hx y hy=> ?_⟩) ?_
  ·rcases x5.1 (srt_mem.1 hx)with hx|hx<;>rcases x5.1 (srt_mem.1 hy)with hy|hy
   ·exact F3 x hx y hy
   ·exact F2 x hx y hy
   ·exact ad8 (F1 y hy x hx)
   ·exact F4 x hx y hy
  ·refine((bh0 sec _).app (bh0 sec _)).trans ?_
   have:seg l a b=seg l a r++((seg l r m++seg l m e)++seg l e b):=by
    rw[←V4 (a:=a) (m:=m) (b:=b) (by omega) (by omega),←V4 q1 q2,←V4 q5 q4];simp
   rw[this]
   have:=(Cl.refl sec (seg l a r)).app ((bq8 F1).symm.app (Cl.refl sec (seg l e b)))
   simpa using this
 generalize hP:l.take a=P at hl hsrt lP
 generalize hu1:seg l a r=u1 at*
 generalize hu2:seg l r m=u2 at*
 generalize hv1:seg l m e=v1 at*
 generalize hv2:seg l e b=v2 at*
 generalize hQ:l.drop b=Q at hl hsrt
 have c1:seg (P++(u1++(v1++(u2++(v2++Q))))) a r=u1:=by
  rw[show P++(u1++(v1++(u2++(v2++Q))))=P++u1++(v1++(u2++(v2++Q))) by simp];exact aA7 (by omega) (by omega)
 have c2:seg (P++(u1++(v1++(u2++(v2++Q))))) r mid=v1:=by
  rw[show P++(u1++(v1++(u2++(v2++Q))))=(P++u1)++v1++(u2++(v2++Q)) by simp];exact aA7 (by simp;omega) (by simp;omega)
 have ls1:=srt_len sec (u1++v1)
 rw[e8]at ls1
 have c3:seg (P++(srt sec (u1++v1)++(u2++(v2++Q)))) mid e=u2:=by
  rw[show P++(srt sec (u1++v1)++(u2++(v2++Q)))=(P++srt sec (u1++v1))++u2++(v2++Q) by simp];exact aA7 (by simp;omega) (by simp;omega)
 have c4:seg (P++(srt sec (u1++v1)++(u2++(v2++Q)))) e b=v2:=by
  rw[show P++(srt sec (u1++v1)++(u2++(v2++Q)))=(P++srt sec (u1++v1)++u2)++v2++Q by simp];exact aA7 (by simp;omega) (by simp;omega)
 have p1:(P++(u1++(v1++(u2++(v2++Q))))).Perm l:=by
  conv=>rhs;rw[hl]
  refine(List.Perm.append_left _ (List.Perm.append_left _ ?_))
  rw[←r7,←r7 u2]
  exact List.perm_append_comm.append_right _
 have p2:(P++(srt sec (u1++v1)++(u2++(v2++Q)))).Perm l:=by
  refine List.Perm.trans ?_ p1
  rw[show P++(u1++(v1++(u2++(v2++Q))))=P++((u1++v1)++(u2++(v2++Q))) by simp]
  exact((av1 sec _).append_right _).append_left _
 refine⟨P++(u1++(v1++(u2++(v2++Q)))),P++(srt sec (u1++v1)++(u2++(v2++Q))),fun _ _=> ?_,fun hn=> ?_,p1,by rw[c1];exact u1s,by rw[c2];exact v1s,fun _ _=> ?_,fun hn=> ?_,p2,by rw[c3];exact u2s,by rw[c4];exact v2s,fun _ _=> ?_,fun hn=> ?_⟩
 ·conv=>lhs;rw[hl,show P++(u1++(u2++(v1++(v2++Q))))=(P++u1)++(u2++(v1++(v2++Q))) by simp]
  rw[cG6 (by simp;omega) (by simp;omega) (by simp;omega)]
  simp
 ·rcases d8 r m with hh|hh
  ·have:v1=[]:=r9.1 (by omega)
   rw[this]at hl⊢;exact hl
  ·have:u2=[]:=r9.1 (by omega)
   rw[this]at hl⊢;exact hl
 ·rw[show P++(u1++(v1++(u2++(v2++Q))))=P++((u1++v1)++(u2++(v2++Q))) by simp,c73 (by omega) (by simp;omega)]
 ·rcases d8 a r with hh|hh
  ·have:v1=[]:=r9.1 (by omega)
   rw[this,n9,aQ4 u1s];rfl
  ·have:u1=[]:=r9.1 (by omega)
   rw[this,show([]:List Val)++v1=v1 from rfl,aQ4 v1s];rfl
 ·rw[hsrt,show P++(srt sec (u1++v1)++(u2++(v2++Q)))=(P++srt sec (u1++v1))++((u2++v2)++Q) by simp,c73 (by simp;omega) (by simp;omega)]
  simp
 ·rw[hsrt]
  rcases d8 mid e with hh|hh
  ·have:v2=[]:=r9.1 (by omega)
   rw[this,n9,aQ4 u2s];rfl
  ·have:u2=[]:=r9.1 (by omega)
   rw[this,show([]:List Val)++v2=v2 from rfl,aQ4 v2s];rfl
noncomputable def bubA(sec:Bool)(a:Nat):List Val→Nat→Nat×List Val
 |l,0=>(a,l)
 |l,k+1=>if P3 sec (atV l (a+k+1)) (atV l (a+k))then bubA sec a (swp l (a+k+1) (a+k)) k else(a+k+1,l)
theorem b56(sec:Bool)(x:Val){P:List Val}{a:Nat}(ha:a=P.length): ∀(s t:List Val),(bubA sec a (P++(s.reverse++x::t)) s.length).2=P++((aB7 sec x s).reverse++t)
 | [],t=>rfl
 |y::r,t=>by
  have e1:P++((y::r).reverse++x::t)=(P++r.reverse)++y::([]++x::t):=by simp
  have a1:atV ((P++r.reverse)++y::([]++x::t)) (a+r.length)=y:=atV_mid (by simp;omega)
  have a2:atV ((P++r.reverse)++y::([]++x::t)) (a+r.length+1)=x:=by
   rw[show(P++r.reverse)++y::([]++x::t)=(P++r.reverse++[y])++x::t by simp];exact atV_mid (by simp;omega)
  rw[e1,List.length_cons]
  unfold bubA aB7
  rw[a1,a2]
  split
  ·rw[b53 (by omega),bD3 (by simp;omega) (by simp;omega),show(P++r.reverse)++x::([]++y::t)=P++(r.reverse++x::(y::t)) by simp,b56 sec x ha r (y::t)]
   simp
  ·simp
theorem cm6{sec:Bool}{l:List Val}{a i:Nat}(h1:a≤i)(h2:i<l.length):(bubA sec a (X4 sec l a i) (i-a)).2=X4 sec l a (i+1):=by
 have hd:l.drop i=atV l i::l.drop (i+1):=by
  rw[K5 h2]
  unfold atV
  rw[d9,j0 h2];rfl
 have hl:(dsc sec (seg l a i)).length=i-a:=by
  have:=srt_len sec (seg l a i)
  unfold srt at this
  rw[List.length_reverse]at this
  rw[this,X3 (by omega)]
 have e:=b56 sec (atV l i) (P:=l.take a) (a:=a) (by rw[e9];omega) (dsc sec (seg l a i)) (l.drop (i+1))
 rw[hl]at e
 have e2:X4 sec l a i=l.take a++((dsc sec (seg l a i)).reverse++atV l i::l.drop (i+1)):=by unfold X4 srt;rw[hd]
 rw[e2,e]
 unfold X4 srt
 rw[←V4 (a:=a) (m:=i) (b:=i+1) h1 (by omega),br1 h2,c68]
theorem bD7{sec:Bool}{l:List Val}{a b:Nat}(h1:a≤b)(h2:b≤a+1)(hb:b≤l.length):X4 sec l a b=l:=by
 conv=>rhs;rw[cP8 (l:=l) h1]
 unfold X4
 congr 2
 refine aQ4 ?_
 have:(seg l a b).length≤1:=by rw[X3 hb];omega
 unfold Sd
 match h:seg l a b,this with
 | [],_=>exact .nil
 | [x],_=>simp
 |x::y::r,hh=>simp at hh
theorem bD8(sec:Bool)(l:List Val):X4 sec l 0 l.length=srt sec l:=by
 unfold X4 seg
 simp
theorem srt_cl{sec:Bool}{l q:List Val}(h:Cl sec l q):srt sec l=srt sec q:=bh1 (Y7 sec q) ((bh0 sec q).trans h.symm)
theorem br3(sec:Bool){l:List Val}{a b:Nat}(h:a≤b):Cl sec (X4 sec l a b) l:=by
 have:=(Cl.refl sec (l.take a)).app ((bh0 sec (seg l a b)).app (Cl.refl sec (l.drop b)))
 rwa[←cP8 (l:=l) h]at this
theorem br4{sec:Bool}{l:List Val}{a b:Nat}(h:a≤b)(hb:b≤l.length):seg (X4 sec l a b) a b=srt sec (seg l a b):=by
 unfold X4
 rw[←r7]
 exact aA7 (by rw[e9];omega) (by rw[e9,srt_len,X3 hb];omega)
end Go.Ev.S7
namespace Go.Ev.S7
open Go Go.Ev
def isL:Val→Bool
 | .vl _=>true
 |_=>false
theorem isL_at{v:Val}(h:isL v=true):v= .vl v.toL:=by
 cases v<;>first|rfl|cases h
def okK(r:Val):Bool:=match r with
 | .vl [.vs _,.vi _,.vi _,.vi _,.vi _,.vi _,.vi _]=>true
 |_=>false
def okK8(r:Val):Bool:=match r with
 | .vl [.vs _,.vi _,.vi _,.vb _,.vi _,.vi _,.vi _,.vi _]=>true
 |_=>false
theorem okK_at{r:Val}(h:okK r=true):O1 r=r:=by
 unfold okK at h
 split at h
 ·rfl
 ·cases h
def bi3(l n:Val):Bool:=isL l&&(l.toL.all okK&&(decide (n.toI=(l.toL.length:Int))&&decide (l.toL.length≤400)))
theorem aQ8{l n:Val}(h:bi3 l n=true):l= .vl l.toL∧l.toL.all okK=true∧n.toI=(l.toL.length:Int)∧l.toL.length≤400:=by
 obtain⟨h1,h⟩:=M6 h
 obtain⟨h2,h⟩:=M6 h
 obtain⟨h3,h4⟩:=M6 h
 exact⟨isL_at h1,h2,of_decide_eq_true h3,of_decide_eq_true h4⟩
def nt(v:Val):Nat:=v.toI.toNat
def isI:Val→Bool
 | .vi _=>true
 |_=>false
theorem bD9{v:Val}(h:isI v=true):v= .vi v.toI:=by cases v<;>first|rfl|cases h
def df1(a:List Val):Prop:=bi3 (arg a 0) (arg a 1)=true∧0≤(arg a 2).toI∧(arg a 2).toI<(arg a 3).toI∧(arg a 3).toI<(arg a 4).toI∧(arg a 4).toI≤(arg a 1).toI∧(arg a 4).toI-(arg a 2).toI≤(arg a 5).toI∧
 isI (arg a 2)=true∧isI (arg a 3)=true∧isI (arg a 4)=true∧Sd false (seg (arg a 0).toL (nt (arg a 2)) (nt (arg a 3)))∧Sd false (seg (arg a 0).toL (nt (arg a 3)) (nt (arg a 4)))
open Classical in
noncomputable def bM1(a:List Val):Bool:=decide (df1 a)
theorem aQ9{a:List Val}:bM1 a=true↔df1 a:=by unfold bM1;simp
noncomputable def a49(B:Nat)(l:List Val):Nat→List Val
 |0=>l
 |k+1=>X4 false (a49 B l k) (B*k) (B*k+B)
noncomputable def pass(bs n:Nat)(l:List Val):List Val:=if 2*bs*(n/(2*bs))+bs<n then X4 false (a49 (2*bs) l (n/(2*bs))) (2*bs*(n/(2*bs))) n else a49 (2*bs) l (n/(2*bs))
noncomputable def ay4(n:Nat):Nat→Nat→List Val→Nat×List Val
 |0,bs,l=>(bs,l)
 |f+1,bs,l=>if bs<n then ay4 n f (2*bs) (pass bs n l)else(bs,l)
noncomputable def GX:Nat→List Val→Val:=fun i a=>match i with
  |420=> .vb (bi3 (arg a 0) (arg a 1)&&decide (0≤(arg a 2).toI∧0≤(arg a 4).toI∧(arg a 2).toI+(arg a 4).toI≤(arg a 3).toI∧(arg a 3).toI+(arg a 4).toI≤(arg a 1).toI))
  |421=> .vl (swN (arg a 0).toL (nt (arg a 1)) (nt (arg a 2)) (nt (arg a 3)))
  |422=> .vb (bi3 (arg a 0) (arg a 1)&&decide (0≤(arg a 2).toI∧(arg a 2).toI<(arg a 3).toI∧(arg a 3).toI<(arg a 4).toI∧(arg a 4).toI≤(arg a 1).toI))
  |423=> .vl (cG5 (arg a 0).toL (nt (arg a 1)) (nt (arg a 2)) (nt (arg a 3)))
  |424=> .vb (bi3 (arg a 0) (arg a 1)&&decide (0≤(arg a 2).toI∧(arg a 2).toI≤(arg a 3).toI∧(arg a 3).toI≤(arg a 1).toI))
  |425=> .vl (X4 false (arg a 0).toL (nt (arg a 1)) (nt (arg a 2)))
  |426=> .vb (bM1 a)
  |428=> .vb (bi3 (arg a 0) (arg a 1)&&(isI (arg a 2)&&decide ((arg a 2).toI=(arg a 1).toI)))
  |431=> .vb (isL (arg a 0)&&(arg a 0).toL.all okK)
  |433=> .vb (isL (arg a 0)&&(arg a 0).toL.all okK8)
  |452=>S6 (0,[.vi (nt (arg a 6)),.vl (swN (arg a 1).toL (nt (arg a 4)) (nt (arg a 5)) (nt (arg a 6)))])
  |458=>S6 (0,[.vi (b74 (nt (arg a 5)) (nt (arg a 0)+nt (arg a 1)) (nt (arg a 0)) (nt (arg a 1)) (arg a 2).toL).1,.vi (b74 (nt (arg a 5)) (nt (arg a 0)+nt (arg a 1)) (nt (arg a 0)) (nt (arg a 1)) (arg a 2).toL).1,.vl (b74 (nt (arg a 5)) (nt (arg a 0)+nt (arg a 1)) (nt (arg a 0)) (nt (arg a 1)) (arg a 2).toL).2])
  |460=>S6 (0,[.vi (max (nt (arg a 4)+1) (nt (arg a 5)):Nat),.vl (X4 false (arg a 1).toL (nt (arg a 4)) (nt (arg a 5)))])
  |461=>S6 (0,[.vi (bubA false (nt (arg a 4)) (arg a 1).toL (nt (arg a 0)-nt (arg a 4))).1,.vl (bubA false (nt (arg a 4)) (arg a 1).toL (nt (arg a 0)-nt (arg a 4))).2])
  |462=>let r:=bs (fun h=>P3 false (atV (arg a 3).toL h) (atV (arg a 3).toL (nt (arg a 4)))) (nt (arg a 1)-nt (arg a 0)) (nt (arg a 0)) (nt (arg a 1));S6 (0,[.vi r,.vi r])
  |463=>S6 (0,[.vi (nt (arg a 4)-1:Nat),.vl (mvU (arg a 1).toL (nt (arg a 0)) (nt (arg a 4)-1-nt (arg a 0)))])
  |464=>let r:=bs (fun h=> !P3 false (atV (arg a 3).toL (nt (arg a 4))) (atV (arg a 3).toL h)) (nt (arg a 1)-nt (arg a 0)) (nt (arg a 0)) (nt (arg a 1));S6 (0,[.vi r,.vi r])
  |465=>S6 (0,[arg a 4,.vl (mvD (arg a 1).toL (nt (arg a 0)) (nt (arg a 0)-nt (arg a 4)))])
  |466=>let r:=bs (fun c=> !P3 false (atV (arg a 3).toL (nt (arg a 9)-c)) (atV (arg a 3).toL c)) (nt (arg a 1)-nt (arg a 0)) (nt (arg a 0)) (nt (arg a 1));S6 (0,[.vi r,.vi r])
  |467=>S6 (0,[.vi (20*(nt (arg a 5)/20):Nat),.vi (20*(nt (arg a 5)/20)+20:Nat),.vl (a49 20 (arg a 2).toL (nt (arg a 5)/20))])
  |468=>S6 (0,[.vi (ay4 (nt (arg a 4)) 9 20 (arg a 1).toL).1,.vl (ay4 (nt (arg a 4)) 9 20 (arg a 1).toL).2])
  |469=>S6 (0,[.vi (2*nt (arg a 6)*(nt (arg a 5)/(2*nt (arg a 6))):Nat),.vi (2*nt (arg a 6)*(nt (arg a 5)/(2*nt (arg a 6)))+2*nt (arg a 6):Nat),.vl (a49 (2*nt (arg a 6)) (arg a 2).toL (nt (arg a 5)/(2*nt (arg a 6))))])
  |490=> .vl (srt false (arg a 0).toL)
  |_=> .vb false
end Go.Ev.S7
