import Derived.Test.YtdbiooidpgafaaaGreatE41
import Derived.Test.YtdbiooidpgafaaaGreatE43
import Derived.Test.YtdbiooidpgafaaaGreatE3
set_option linter.unusedSimpArgs false
set_option linter.unusedVariables false
namespace Go.Ev
open Go
abbrev zg(a b:Nat)(k:Int):SX:= .op .lget [.va a,.va b,.ci k]
abbrev zu(a b:Nat):SX:= .op .row [zg a b 0,zg a b 1,zg a b 2]
abbrev zv(a b:Nat):SX:= .op .row [zg a b 0,zg a b 1,zg a b 2,zg a b 3,zg a b 4,zg a b 5,zg a b 6]
abbrev zw(a b:Nat):SX:= .op .row [zg a b 0,zg a b 1,zg a b 2,zg a b 3,zg a b 4,zg a b 5,zg a b 6,zg a b 7]
abbrev zl(a:Nat):SX:= .op .llen [.va a]
abbrev zi(x:SX):SX:= .op (.ar .add .i64) [x,.ci 1]
abbrev zo(x:SX)(k:Int):SX:= .op .lget [x,.ci 1,.ci k]
abbrev zb(x:SX)(k:Int):SX:= .op (.cmp .leq) [x,.ci k]
abbrev zp(x:SX):SX:= .op (.cmp .leq) [.ci 0,x]
abbrev zs(x y:SX):SX:= .op (.cmp .lss) [x,y]
abbrev zh(x y:SX):SX:= .op (.conv .i64) [.op (.ar .shr .u64) [.op (.conv .u64) [.op (.ar .add .i64) [x,y]],.ci 1]]
abbrev za(x y:SX):SX:= .op (.ar .add .i64) [x,y]
abbrev ze(x:SX)(k:Int):SX:= .op (.cmp .eql) [x,.ci k]
abbrev zn(x y:SX):SX:= .op .and [x,y]
abbrev zt(x:SX)(k:Int):SX:= .op (.cmp .gtr) [x,.ci k]
abbrev zc(x y:SX):SX:= .op .lcat [x,y]
abbrev zL(x:SX):SX:= .op .llen [x]
abbrev zm(x y:SX):SX:= .op (.ar .sub .i64) [x,y]
theorem Z6{step:List Val→Option (Nat×List Val)}{st:Nat→List Val}{n j:Nat}{p:List Val}(h1: ∀i,i<n→step (st i)=some (0,st (i+1)))(h2:step (st n)=some (j+1,p)):R9 step (st 0)=some (j,p):=by
 rw[Y0]
 have: ∀k,k≤n→Iter step (st (n-k)) j p:=by
  intro k
  induction k with
  |zero=>intro _;exact .out h2
  |succ k ih=>
   intro hk
   have e:=h1 (n-(k+1)) (by omega)
   rw[show n-(k+1)+1=n-k by omega]at e
   exact .more e (ih (by omega))
 have h:=this n (e8 _)
 rwa[E4]at h
def aB6(x:Val)(px:Nat→List Val)(bad:Nat→Bool)(n:Nat):Nat×List Val:=match(List.range n).find? bad with
 |some i=>(1,px i)
 |none=>(0,[x,.vi n])
theorem an1{bad:Nat→Bool}: ∀{n i:Nat},(List.range n).find? bad=some i→i<n∧bad i=true∧ ∀k,k<i→bad k=false:=by
 intro n i h
 rw[List.find?_range_eq_some]at h
 exact⟨s9.1 h.2.1,h.1,fun k hk=>by simpa using h.2.2 k hk⟩
theorem aQ7{step:List Val→Option (Nat×List Val)}{x:Val}{px:Nat→List Val}{bad:Nat→Bool}{n:Nat}
 (h1: ∀i,i<n→bad i=false→step [x,.vi i]=some (0,[x,.vi (i+1:Nat)])) (h2: ∀i,i<n→bad i=true→step [x,.vi i]=some (2,px i))
 (h3:step [x,.vi n]=some (1,[x,.vi n])):R9 step [x,.vi (0:Int)]=some (aB6 x px bad n):=by
 unfold aB6
 split
 ·rename_i i hi
  obtain⟨a,b,c⟩:=an1 hi
  exact Z6 (st:=fun i=>[x,.vi i]) (n:=i) (fun k hk=>h1 k (by omega) (c k hk)) (h2 i a b)
 ·rename_i hn
  rw[List.find?_range_eq_none]at hn
  exact Z6 (st:=fun i=>[x,.vi i]) (n:=n) (fun k hk=>h1 k hk (by simpa using hn k hk)) h3
theorem aB7{x:Val}{px:Nat→List Val}{bad:Nat→Bool}{n:Nat}:aB6 x px bad n=if(List.range n).any bad then(1,px (((List.range n).find? bad).getD 0))else(0,[x,.vi n]):=by
 unfold aB6
 split
 ·rename_i i hi
  have:(List.range n).any bad=true:=by
   rw[J6]
   obtain⟨a,b,_⟩:=an1 hi
   exact⟨i,s9.2 a,b⟩
  rw[this,hi];rfl
 ·rename_i hn
  have:(List.range n).any bad=false:=by
   rw[List.find?_range_eq_none]at hn
   rw[N3]
   intro i hi
   simpa using hn i (s9.1 hi)
  rw[this];rfl
def Y2(g:Nat→List Val):Nat→List Val
 |0=>[]
 |n+1=>Y2 g n++g n
theorem a64{g:Nat→List Val}{m:Nat}(hg: ∀i,(g i).length≤m): ∀n,(Y2 g n).length≤n*m
 |0=>by simp[Y2]
 |n+1=>by
  have:=a64 hg n
  have:=hg n
  simp only[Y2,j9,p8];omega
theorem Z5(g:Nat→List Val): ∀n,Y2 g n=(List.range n).flatMap g
 |0=>rfl
 |n+1=>by rw[Y2,Z5 g n,N5,N4];simp
theorem aB8{α β:Type}(g:α→List β)(d:α): ∀(l:List α),((List.range l.length).flatMap fun i=>g (l.getD i d))=l.flatMap g
 | []=>rfl
 |a::l=>by
  rw[List.length_cons,J3,x6,List.flatMap_map]
  simp only[A6,x6]
  congr 1
  rw[←aB8 g d l]
  congr 1
theorem bG3{α β:Type} [DecidableEq β](f:α→β)(d:α): ∀(l r:List α),l.length=r.length→((List.range l.length).any fun i=> !decide (f (l.getD i d)=f (r.getD i d)))= !decide (l.map f=r.map f)
 | [],[],_=>by simp
 |a::l,b::r,h=>by
  rw[List.length_cons,J3,List.any_cons,List.any_map]
  simp only[A6,k6,B8]
  have:=bG3 f d l r (by simpa using h)
  have e:((fun i=> !decide (f ((a::l).getD i d)=f ((b::r).getD i d)))∘Nat.succ)=fun i=> !decide (f (l.getD i d)=f (r.getD i d)):=by
   funext i;simp[Function.comp]
  rw[e,this]
  by_cases h1:f a=f b<;>simp[h1]
 | [],_::_,h=>by simp at h
 |_::_,[],h=>by simp at h
theorem bR5{n:Nat}(h:n≤10000000):IntKind.i64.wrap ((n:Int)+1)=((n+1:Nat):Int):=by
 have:((n:Int)+1)=((n+1:Nat):Int):=by omega
 rw[this]
 simp only[IntKind.wrap,IntKind.bits,IntKind.signed]
 simp
 omega
end Go.Ev
namespace Go.Ev
open Go
structure RowM where
 key:List UInt8
 a:Int
 b:Int
 c:Int
 d:Int
 e:Int
 f:Int
 deriving DecidableEq
structure PaneM where
 key:List UInt8
 a:Int
 b:Int
 deriving DecidableEq
def Q9(r:Val)(j:Nat):Val:=r.toL.getD j default
def bR6(r:Val):RowM:=⟨(Q9 r 0).toS,(Q9 r 1).toI,(Q9 r 2).toI,(Q9 r 3).toI,(Q9 r 4).toI,(Q9 r 5).toI,(Q9 r 6).toI⟩
def Q5(r:Val):PaneM:=⟨(Q9 r 0).toS,(Q9 r 1).toI,(Q9 r 2).toI⟩
def atV(l:List Val)(i:Nat):Val:=l.getD i (.vl [])
def bR7(v:Val):List RowM:=v.toL.map bR6
def arg(a:List Val)(i:Nat):Val:=a.getD i default
def eqB{α:Type} [DecidableEq α](a b:α):Bool:=decide (a=b)
@[simp]theorem dj2{α:Type} [DecidableEq α]{a b:α}:eqB a b=true↔a=b:=decide_eq_true_iff
theorem cv5{α:Type} [DecidableEq α](a:α):eqB a a=true:=dj2.2 rfl
def cv6{α:Type} [DecidableEq α](m:Val→α)(l r:List Val):Val:=W4 (aB6 (.vb false) (fun k=>[.vb false,.vi k]) (fun i=> !decide (m (atV l i)=m (atV r i))) l.length)
def a30(r:Val):Val:= .vl [Q9 r 0,Q9 r 1,Q9 r 2,Q9 r 3,Q9 r 4,Q9 r 5,Q9 r 6]
def a23(r:Val):Val:= .vl [Q9 r 0,Q9 r 1,Q9 r 2]
theorem aB9: ∀x:List UInt8,ltB x x=false
 | []=>rfl
 |a::x=>by
  show(bif Nat.blt a.toNat a.toNat then true else bif Nat.beq a.toNat a.toNat then ltB x x else false)=false
  rw[aB9 x]
  have h1:Nat.blt a.toNat a.toNat=false:=by
   cases h:Nat.blt a.toNat a.toNat with
   |false=>rfl
   |true=>exact absurd (R1.1 h) (K6 _)
  rw[h1];cases Nat.beq a.toNat a.toNat<;>rfl
theorem bG4(a b:UInt8)(x y:List UInt8):ltB (a::x) (b::y)=true↔a.toNat<b.toNat∨a=b∧ltB x y=true:=by
 show(bif Nat.blt a.toNat b.toNat then true else bif Nat.beq a.toNat b.toNat then ltB x y else false)=true↔_
 cases h1:Nat.blt a.toNat b.toNat with
 |true=>simp[R1.1 h1]
 |false=>
  have h1': ¬a.toNat<b.toNat:=fun h=>by rw[R1.2 h]at h1;cases h1
  cases h2:Nat.beq a.toNat b.toNat with
  |true=>
   have:a=b:=UInt8.toNat_inj.1 (P9.1 h2)
   simp[h1',this]
  |false=>
   have: ¬a=b:=fun h=>by rw[h,P9.2 rfl]at h2;cases h2
   simp[h1',this]
theorem bj8: ∀{x y z:List UInt8},ltB x y=true→ltB y z=true→ltB x z=true
 |_,[],[],_,h=>by cases h
 |_,_::_,[],_,h=>by cases h
 | [],[],_,h,_=>by cases h
 |_::_,[],_,h,_=>by cases h
 | [],_::_,_::_,_,_=>rfl
 |a::x,b::y,c::z,h1,h2=>by
  rw[bG4]at*
  rcases h1 with h1|⟨rfl,h1⟩<;>rcases h2 with h2|⟨rfl,h2⟩
  ·exact .inl (Nat.lt_trans h1 h2)
  ·exact .inl h1
  ·exact .inl h2
  ·exact .inr ⟨rfl,bj8 h1 h2⟩
theorem bv5: ∀{x y:List UInt8},ltB x y=false→ltB y x=false→x=y
 | [],[],_,_=>rfl
 | [],_::_,h,_=>by cases h
 |_::_,[],_,h=>by cases h
 |a::x,b::y,h1,h2=>by
  rw[←u4,bG4]at h1 h2
  have hab:a=b:=UInt8.toNat_inj.1 (by omega)
  subst hab
  have:=bv5 (x:=x) (y:=y) (by rw[←u4];exact fun h=>h1 (.inr ⟨rfl,h⟩)) (by rw[←u4];exact fun h=>h2 (.inr ⟨rfl,h⟩))
  rw[this]
noncomputable def ao3(p q:PaneM):Bool:=a34 p.key q.key||decide (p.key=q.key)&&(decide (p.b<q.b)||decide (p.b=q.b)&&decide (p.a<q.a))
noncomputable def d59(p q:PaneM):Int:=if a34 p.key q.key then-1 else if a34 q.key p.key then 1 else if p.b<q.b then-1 else if q.b<p.b then 1 else if p.a<q.a then-1 else if q.a<p.a then 1 else 0
theorem aw9(p q:PaneM):ao3 p q=true↔ltB p.key q.key=true∨p.key=q.key∧(p.b<q.b∨p.b=q.b∧p.a<q.a):=by
 simp only[ao3,a34,n5,e9,decide_eq_true_eq]
theorem aE4(p:PaneM):ao3 p p=false:=by
 rw[←u4,aw9,aB9]
 simp
theorem aQ8{p q r:PaneM}(h1:ao3 p q=true)(h2:ao3 q r=true):ao3 p r=true:=by
 rw[aw9]at*
 rcases h1 with h1|⟨e1,h1⟩<;>rcases h2 with h2|⟨e2,h2⟩
 ·exact .inl (bj8 h1 h2)
 ·exact .inl (e2▸h1)
 ·exact .inl (e1▸h2)
 ·exact .inr ⟨e1.trans e2,by omega⟩
theorem bj9{p q:PaneM}(h1:ao3 p q=false)(h2:ao3 q p=false):p=q:=by
 rw[←u4,aw9]at h1 h2
 obtain⟨a1,a2⟩:=not_or.1 h1
 obtain⟨b1,b2⟩:=not_or.1 h2
 have hk:=bv5 (by rwa[←u4]) (by rwa[←u4]) (x:=p.key) (y:=q.key)
 obtain⟨k,a,b⟩:=p
 obtain⟨k',a',b'⟩:=q
 simp only at hk a2 b2
 subst hk
 simp only[true_and]at a2 b2
 have:a=a'∧b=b':=by omega
 rw[this.1,this.2]
theorem cv7(p q:PaneM):d59 p q<0↔ao3 p q=true:=by
 rw[aw9]
 unfold d59 a34
 cases h1:ltB p.key q.key with
 |true=>simp
 |false=>
  cases h2:ltB q.key p.key with
  |true=>
   have: ¬p.key=q.key:=fun h=>by rw[h,aB9]at h2;cases h2
   simp[this]
  |false=>
   have hk:=bv5 h1 h2
   simp only[hk,k7,if_false,true_and,false_or]
   repeat' split
   all_goals omega
theorem aQ9{p q:PaneM}(h:ao3 p q=true):ao3 q p=false:=by
 rw[←u4]
 intro h2
 have:=aQ8 h h2
 rw[aE4]at this;cases this
theorem aE5{p q r:PaneM}(h1:ao3 p q=false)(h2:ao3 q r=false):ao3 p r=false:=by
 rw[←u4]
 intro h
 cases h3:ao3 q p with
 |true=>have:=aQ8 h3 h;rw[h2]at this;cases this
 |false=>rw[bj9 h1 h3]at h;rw[h2]at h;cases h
noncomputable def bR8(a b:Val):Bool:=ao3 (Q5 a) (Q5 b)
def d60(r:Val):Val:= .vl [Q9 r 0,Q9 r 1,Q9 r 2,Q9 r 3,Q9 r 4,Q9 r 5,Q9 r 6,Q9 r 7]
noncomputable def aR0(x:Val):List Val→List Val
 | []=>[x]
 |y::r=>if bR8 x y then y::aR0 x r else x::y::r
noncomputable def dsc(l:List Val):Nat→List Val
 |0=>[]
 |i+1=>aR0 (d60 (atV l i)) (dsc l i)
theorem ab4(x:Val): ∀s:List Val,(aR0 x s).Perm (x::s)
 | []=> .refl _
 |y::r=>by
  unfold aR0
  split
  ·exact((ab4 x r).cons y).trans (.swap x y r)
  ·exact .refl _
theorem b70(l:List Val): ∀i,(dsc l i).Perm ((List.range i).map fun k=>d60 (atV l k))
 |0=> .refl _
 |i+1=>by
  rw[N5,o9]
  exact(ab4 _ _).trans (((b70 l i).cons _).trans (List.perm_append_singleton _ _).symm)
theorem ab5(x:Val): ∀s:List Val,s.Pairwise (fun a b=>bR8 a b=false)→(aR0 x s).Pairwise (fun a b=>bR8 a b=false)
 | [],_=>by simp[aR0]
 |y::r,h=>by
  unfold aR0
  rw[y7]at h
  split
  ·rename_i hl
   rw[y7]
   refine⟨fun z hz=> ?_,ab5 x r h.2⟩
   rcases k5.1 ((ab4 x r).mem_iff.1 hz)with rfl|hz
   ·exact aQ9 hl
   ·exact h.1 z hz
  ·rename_i hl
   have hl:bR8 x y=false:=by simpa using hl
   rw[y7,y7]
   refine⟨fun z hz=> ?_,h⟩
   rcases k5.1 hz with rfl|hz
   ·exact hl
   ·exact aE5 hl (h.1 z hz)
theorem aC0(l:List Val): ∀i,(dsc l i).Pairwise (fun a b=>bR8 a b=false)
 |0=> .nil
 |i+1=>ab5 _ _ (aC0 l i)
theorem bk0{α β:Type}{f:α→β}: ∀{l:List α},(l.map f).Nodup→ ∀{a b:α},a∈l→b∈l→f a=f b→a=b
 | [],_,a,b,ha,_,_=>by cases ha
 |x::l,h,a,b,ha,hb,e=>by
  rw[k6,B2]at h
  rcases k5.1 ha with h1|h1<;>rcases k5.1 hb with h2|h2
  ·rw[h1,h2]
  ·exact absurd (j6.2 ⟨b,h2,by rw[←e,h1]⟩) h.1
  ·exact absurd (j6.2 ⟨a,h1,by rw[e,h2]⟩) h.1
  ·exact bk0 h.2 h1 h2 e
end Go.Ev
namespace Go.Ev.Tb
def isR(g:Int)(T:Int→Prop)(s e:Int):Prop:=T s∧T (e-g)∧s≤e-g∧ ∀t,T t→s≤t→t<e-g→ ∃t',T t'∧t<t'∧t'<t+g
def isS(g:Int)(T:Int→Prop)(s e:Int):Prop:=isR g T s e∧(∀t,T t→s-g<t→t<s→False)∧(∀t,T t→e-g<t→t<e→False)
def lap(s e s' e':Int):Prop:=s<e'∧s'<e
theorem isR.up{g:Int}{T:Int→Prop}{s e:Int}(h:isR g T s e)(y:Int)(h2:y<e-g): ∀(n:Nat) (x:Int),(y-x).toNat≤n→T x→s≤x→x≤y→ ∃x',T x'∧y<x'∧x'<y+g
 |n,x,hn,hx,h3,h4=>by
  obtain⟨x',a1,a2,a3⟩:=h.2.2.2 x hx h3 (by omega)
  by_cases hy:y<x'
  ·exact⟨x',a1,hy,by omega⟩
  ·cases n with
   |zero=>omega
   |succ n=>exact isR.up h y h2 n x' (by omega) a1 (by omega) (by omega)
theorem isR.next{g:Int}{T:Int→Prop}{s e:Int}(h:isR g T s e){y:Int}(h1:s≤y)(h2:y<e-g): ∃x',T x'∧y<x'∧x'<y+g:=
 h.up y h2 (y-s).toNat s (e8 _) h.1 (y8 _) h1
theorem isR.down{g:Int}{T:Int→Prop}{s e:Int}(h:isR g T s e)(y:Int)(h2:y≤e-g): ∀(n:Nat) (x:Int),(y-x).toNat≤n→T x→s≤x→x<y→ ∃x',T x'∧y-g<x'∧x'<y
 |n,x,hn,hx,h3,h4=>by
  obtain⟨x',a1,a2,a3⟩:=h.2.2.2 x hx h3 (by omega)
  by_cases hy:y≤x'
  ·exact⟨x,hx,by omega,h4⟩
  ·cases n with
   |zero=>omega
   |succ n=>exact isR.down h y h2 n x' (by omega) a1 (by omega) (by omega)
theorem isR.prev{g:Int}{T:Int→Prop}{s e:Int}(h:isR g T s e){y:Int}(h1:s<y)(h2:y≤e-g): ∃x',T x'∧y-g<x'∧x'<y:=
 h.down y h2 (y-s).toNat s (e8 _) h.1 (y8 _) h1
theorem isS.inn{g:Int}{T:Int→Prop}{s e s' e':Int}(h:isS g T s e)(h':isR g T s' e')(hl:lap s e s' e'):s≤s'∧e'≤e:=by
 obtain⟨l1,l2⟩:=hl
 have b:=h.1.2.2.1
 have b':=h'.2.2.1
 refine⟨?_,?_⟩
 ·refine E7.1 fun hc=> ?_
  by_cases hq:s≤e'-g
  ·obtain⟨x,a1,a2,a3⟩:=h'.prev hc hq
   exact h.2.1 x a1 a2 a3
  ·exact h.2.1 (e'-g) h'.2.1 (by omega) (by omega)
 ·refine E7.1 fun hc=> ?_
  by_cases hq:s'≤e-g
  ·obtain⟨x,a1,a2,a3⟩:=h'.next hq (by omega)
   exact h.2.2 x a1 a2 (by omega)
  ·exact h.2.2 s' h'.1 (by omega) (by omega)
theorem isS.one{g:Int}{T:Int→Prop}{s e s' e':Int}(h:isS g T s e)(h':isS g T s' e')(hl:lap s e s' e'):s=s'∧e=e':=by
 have a:=h.inn h'.1 hl
 have b:=h'.inn h.1 ⟨hl.2,hl.1⟩
 omega
theorem isR.join{g:Int}{T:Int→Prop}{s e s' e':Int}(h:isR g T s e)(h':isR g T s' e')(hl:lap s e s' e'):isR g T (min s s') (max e e'):=by
 obtain⟨l1,l2⟩:=hl
 have b:=h.2.2.1
 have b':=h'.2.2.1
 have e1:min s s'=s∨min s s'=s':=by omega
 have e2:max e e'=e∨max e e'=e':=by omega
 refine⟨?_,?_,by omega,fun t ht h1 h2=> ?_⟩
 ·rcases e1 with q|q<;>rw[q]
  ·exact h.1
  ·exact h'.1
 ·rcases e2 with q|q<;>rw[q]
  ·exact h.2.1
  ·exact h'.2.1
 ·by_cases c1:s≤t∧t<e-g
  ·exact h.2.2.2 t ht c1.1 c1.2
  ·by_cases c2:s'≤t∧t<e'-g
   ·exact h'.2.2.2 t ht c2.1 c2.2
   ·by_cases c3:t<s
    ·exact⟨s,h.1,c3,by omega⟩
    ·exact⟨s',h'.1,by omega,by omega⟩
theorem isR.mono{g:Int}{T T':Int→Prop}{s e:Int}(h:isR g T s e)(hT: ∀x,T x→T' x)(hn: ∀t,T' t→s≤t→t<e-g→T t):isR g T' s e:=
 ⟨hT _ h.1,hT _ h.2.1,h.2.2.1,fun t ht h1 h2=>by
  obtain⟨x,a1,a2,a3⟩:=h.2.2.2 t (hn t ht h1 h2) h1 h2
  exact⟨x,hT _ a1,a2,a3⟩⟩
theorem isR.more{g:Int}{T T':Int→Prop}{s e:Int}(t:Int)(h:isR g T s e)(hT: ∀x,T' x↔T x∨x=t):isR g T' s e:=
 ⟨(hT _).2 (.inl h.1),(hT _).2 (.inl h.2.1),h.2.2.1,fun x hx h1 h2=>by
   obtain⟨x',a1,a2,a3⟩:=h.next h1 h2
   exact⟨x',(hT _).2 (.inl a1),a2,a3⟩⟩
theorem isR.own{g:Int}{T:Int→Prop}(t:Int)(ht:T t):isR g T t (t+g):=
 ⟨ht,by rw[show t+g-g=t by omega];exact ht,by omega,fun x _ h1 h2=>by omega⟩
def nowOf:Int→Int→List (Int×Int)→Int×Int
 |a,b,[]=>(a,b)
 |a,b,(s,e)::l=>nowOf (min a s) (max b e) l
def lapB(s e s' e':Int):Bool:=decide (s<e')&&decide (s'<e)
theorem ac8{s e s' e':Int}:lapB s e s' e'=true↔lap s e s' e':=by simp[lapB,lap]
def joinedOf(g t:Int)(l:List (Int×Int)):List (Int×Int):=l.filter fun p=>lapB p.1 p.2 t (t+g)
def ap4(g t:Int)(l:List (Int×Int)):List (Int×Int):=l.filter fun p=> !lapB p.1 p.2 t (t+g)
theorem bk1{g:Int}{T:Int→Prop}: ∀(l:List (Int×Int)) (a b:Int),(∀p∈l,isR g T p.1 p.2∧lap p.1 p.2 a b)→isR g T a b→isR g T (nowOf a b l).1 (nowOf a b l).2
 | [],a,b,h,h0=>h0
 |(s,e)::l,a,b,h,h0=>by
  have q:=h (s,e) (r8 ..)
  refine bk1 l _ _ (fun p hp=>⟨(h p (n8 _ hp)).1,?_⟩) (h0.join q.1 ⟨q.2.2,q.2.1⟩)
  have r:=(h p (n8 _ hp)).2
  exact⟨by have:=r.1;omega,by have:=r.2;omega⟩
theorem ax0: ∀(l:List (Int×Int)) (a b:Int),(nowOf a b l).1≤a∧b≤(nowOf a b l).2∧ ∀p∈l,(nowOf a b l).1≤p.1∧p.2≤(nowOf a b l).2
 | [],a,b=>⟨y8 _,y8 _,fun p hp=>absurd hp (B1)⟩
 |(s,e)::l,a,b=>by
  obtain⟨q1,q2,q3⟩:=ax0 l (min a s) (max b e)
  refine⟨by show(nowOf (min a s) (max b e) l).1≤a;omega,by show b≤(nowOf (min a s) (max b e) l).2;omega,fun p hp=> ?_⟩
  rcases k5.1 hp with rfl|hp
  ·show(nowOf (min a s) (max b e) l).1≤s∧e≤(nowOf (min a s) (max b e) l).2
   omega
  ·exact q3 p hp
theorem bG5: ∀(l:List (Int×Int)) (a b:Int),((nowOf a b l).1=a∨ ∃p∈l,(nowOf a b l).1=p.1)∧((nowOf a b l).2=b∨ ∃p∈l,(nowOf a b l).2=p.2)
 | [],a,b=>⟨.inl rfl,.inl rfl⟩
 |(s,e)::l,a,b=>by
  obtain⟨q1,q2⟩:=bG5 l (min a s) (max b e)
  refine⟨?_,?_⟩
  ·rcases q1 with q|⟨p,hp,q⟩
   ·by_cases c:a≤s
    ·exact .inl (by show(nowOf (min a s) (max b e) l).1=a;omega)
    ·exact .inr ⟨(s,e),r8 ..,by show(nowOf (min a s) (max b e) l).1=s;omega⟩
   ·exact .inr ⟨p,n8 _ hp,q⟩
  ·rcases q2 with q|⟨p,hp,q⟩
   ·by_cases c:e≤b
    ·exact .inl (by show(nowOf (min a s) (max b e) l).2=b;omega)
    ·exact .inr ⟨(s,e),r8 ..,by show(nowOf (min a s) (max b e) l).2=e;omega⟩
   ·exact .inr ⟨p,n8 _ hp,q⟩
def Ses(g:Int)(T:Int→Prop)(l:List (Int×Int)):Prop:=(∀s e,(s,e)∈l↔isS g T s e)∧ ∀t,T t→ ∃p∈l,p.1≤t∧t+g≤p.2
theorem cO9(g:Int){T:Int→Prop}(hT: ∀x,¬T x):Ses g T []:=
 ⟨fun s e=>⟨fun h=>absurd h (B1),fun h=>absurd h.1.1 (hT _)⟩,fun t h=>absurd h (hT t)⟩
theorem bv6{g:Int}(hg:0<g){T T':Int→Prop}{l:List (Int×Int)}(t:Int)(h:Ses g T l)(hT: ∀x,T' x↔T x∨x=t):
 isS g T' (nowOf t (t+g) (joinedOf g t l)).1 (nowOf t (t+g) (joinedOf g t l)).2∧
 ∀s e,isS g T' s e↔(s,e)∈ap4 g t l∨(s,e)=nowOf t (t+g) (joinedOf g t l):=by
 have hj: ∀p,p∈joinedOf g t l↔p∈l∧lap p.1 p.2 t (t+g):=fun p=>by rw[joinedOf,n7,ac8]
 have hr: ∀p,p∈ap4 g t l↔p∈l∧ ¬lap p.1 p.2 t (t+g):=fun p=>by
  rw[ap4,n7,←ac8];simp
 generalize hJ:joinedOf g t l=J at hj
 obtain⟨n1,n2,n3⟩:=ax0 J t (t+g)
 obtain⟨m1,m2⟩:=bG5 J t (t+g)
 have hrun:isR g T' (nowOf t (t+g) J).1 (nowOf t (t+g) J).2:=bk1 J t (t+g) (fun p hp=>⟨isR.more t ((h.1 p.1 p.2).1 ((hj p).1 hp).1).1 hT,((hj p).1 hp).2⟩) (isR.own t ((hT t).2 (.inr rfl)))
 generalize nowOf t (t+g) J=N at n1 n2 n3 m1 m2 hrun
 have hjoin: ∀p,p∈l→lap p.1 p.2 t (t+g)→N.1≤p.1∧p.2≤N.2:=fun p h1 h2=>n3 p ((hj p).2 ⟨h1,h2⟩)
 have hS:isS g T' N.1 N.2:=by
  refine⟨hrun,fun x hx h1 h2=> ?_,fun x hx h1 h2=> ?_⟩
  ·rcases(hT x).1 hx with hx|rfl
   ·rcases m1 with q|⟨p,hp,q⟩
    ·obtain⟨p,a1,a2,a3⟩:=h.2 x hx
     have:=hjoin p a1 ⟨by omega,by omega⟩
     omega
    ·exact((h.1 p.1 p.2).1 ((hj p).1 hp).1).2.1 x hx (by omega) (by omega)
   ·omega
  ·rcases(hT x).1 hx with hx|rfl
   ·rcases m2 with q|⟨p,hp,q⟩
    ·obtain⟨p,a1,a2,a3⟩:=h.2 x hx
     have:=hjoin p a1 ⟨by omega,by omega⟩
     omega
    ·exact((h.1 p.1 p.2).1 ((hj p).1 hp).1).2.2 x hx (by omega) (by omega)
   ·omega
 refine⟨hS,fun s e=>⟨fun hs=> ?_,fun hs=> ?_⟩⟩
 ·by_cases hl:lap s e N.1 N.2
  ·exact .inr (by
    have:=hs.one hS hl
    exact A3 this.1 this.2)
  ·have hno: ¬lap s e t (t+g):=fun⟨a,b⟩=>hl ⟨by omega,by omega⟩
   refine .inl ((hr (s,e)).2 ⟨(h.1 s e).2 ?_,hno⟩)
   have b:=hs.1.2.2.1
   refine⟨⟨?_,?_,b,fun x hx h1 h2=> ?_⟩,fun x hx=>hs.2.1 x ((hT x).2 (.inl hx)),fun x hx=>hs.2.2 x ((hT x).2 (.inl hx))⟩
   ·rcases(hT s).1 hs.1.1 with a|a
    ·exact a
    ·exact absurd ⟨by omega,by omega⟩ hno
   ·rcases(hT _).1 hs.1.2.1 with a|a
    ·exact a
    ·exact absurd ⟨by omega,by omega⟩ hno
   ·obtain⟨x',a1,a2,a3⟩:=hs.1.2.2.2 x ((hT x).2 (.inl hx)) h1 h2
    rcases(hT x').1 a1 with a|a
    ·exact⟨x',a,a2,a3⟩
    ·exact absurd ⟨by omega,by omega⟩ hno
 ·rcases hs with hs|hs
  ·obtain⟨a1,a2⟩:=(hr (s,e)).1 hs
   have q:=(h.1 s e).1 a1
   have b:=q.1.2.2.1
   refine⟨isR.more t q.1 hT,fun x hx h1 h2=> ?_,fun x hx h1 h2=> ?_⟩
   ·rcases(hT x).1 hx with c|c
    ·exact q.2.1 x c h1 h2
    ·exact a2 ⟨by show s<t+g;omega,by show t<e;omega⟩
   ·rcases(hT x).1 hx with c|c
    ·exact q.2.2 x c h1 h2
    ·exact a2 ⟨by show s<t+g;omega,by show t<e;omega⟩
  ·rw[←hs]at hS
   exact hS
theorem b71{g:Int}(hg:0<g){T T':Int→Prop}{l m:List (Int×Int)}(t:Int)(h:Ses g T l)(hT: ∀x,T' x↔T x∨x=t)
 (hm: ∀p,p∈m↔p∈ap4 g t l∨p=nowOf t (t+g) (joinedOf g t l)):Ses g T' m:=by
 obtain⟨h1,h2⟩:=bv6 hg t h hT
 obtain⟨n1,n2,n3⟩:=ax0 (joinedOf g t l) t (t+g)
 refine⟨fun s e=>by rw[hm,h2],fun x hx=> ?_⟩
 rcases(hT x).1 hx with a|a
 ·obtain⟨p,b1,b2,b3⟩:=h.2 x a
  by_cases c:lap p.1 p.2 t (t+g)
  ·have:=n3 p (by rw[joinedOf,n7,ac8];exact⟨b1,c⟩)
   exact⟨_,(hm _).2 (.inr rfl),by omega,by omega⟩
  ·exact⟨p,(hm _).2 (.inl (by rw[ap4,n7,x5,←u4,ac8];exact⟨b1,c⟩)),b2,b3⟩
 ·exact⟨_,(hm _).2 (.inr rfl),by omega,by omega⟩
end Go.Ev.Tb
namespace Go.Ev.Tb
abbrev Ag:=Int×Int×Int×Int
def sumI:List Int→Int
 | []=>0
 |x::l=>x+sumI l
def minI:List Int→Int
 | []=>0
 |x::l=>l.foldl min x
def maxI:List Int→Int
 | []=>0
 |x::l=>l.foldl max x
def agOf(l:List Int):Ag:=((l.length:Int),sumI l,minI l,maxI l)
theorem cb0: ∀(l:List Int) (x:Int),l.foldl min x≤x∧(∀y∈l,l.foldl min x≤y)∧(l.foldl min x=x∨l.foldl min x∈l)
 | [],x=>⟨y8 _,fun y h=>absurd h (B1),.inl rfl⟩
 |a::l,x=>by
  obtain⟨h1,h2,h3⟩:=cb0 l (min x a)
  refine⟨by show l.foldl min (min x a)≤x;omega,fun y hy=> ?_,?_⟩
  ·rcases k5.1 hy with rfl|hy
   ·show l.foldl min (min x y)≤y;omega
   ·exact h2 y hy
  ·rcases h3 with h|h
   ·by_cases c:x≤a
    ·exact .inl (by show l.foldl min (min x a)=x;omega)
    ·refine .inr (k5.2 (.inl ?_));show l.foldl min (min x a)=a;omega
   ·exact .inr (n8 _ h)
theorem cb1: ∀(l:List Int) (x:Int),x≤l.foldl max x∧(∀y∈l,y≤l.foldl max x)∧(l.foldl max x=x∨l.foldl max x∈l)
 | [],x=>⟨y8 _,fun y h=>absurd h (B1),.inl rfl⟩
 |a::l,x=>by
  obtain⟨h1,h2,h3⟩:=cb1 l (max x a)
  refine⟨by show x≤l.foldl max (max x a);omega,fun y hy=> ?_,?_⟩
  ·rcases k5.1 hy with rfl|hy
   ·show y≤l.foldl max (max x y);omega
   ·exact h2 y hy
  ·rcases h3 with h|h
   ·by_cases c:a≤x
    ·exact .inl (by show l.foldl max (max x a)=x;omega)
    ·refine .inr (k5.2 (.inl ?_));show l.foldl max (max x a)=a;omega
   ·exact .inr (n8 _ h)
theorem minI_spec{l:List Int}(h:l≠[]):minI l∈l∧ ∀x∈l,minI l≤x:=by
 match l,h with
 |a::l,_=>
  obtain⟨h1,h2,h3⟩:=cb0 l a
  refine⟨?_,fun x hx=> ?_⟩
  ·rcases h3 with h|h
   ·exact k5.2 (.inl h)
   ·exact n8 _ h
  ·rcases k5.1 hx with rfl|hx
   ·exact h1
   ·exact h2 x hx
theorem maxI_spec{l:List Int}(h:l≠[]):maxI l∈l∧ ∀x∈l,x≤maxI l:=by
 match l,h with
 |a::l,_=>
  obtain⟨h1,h2,h3⟩:=cb1 l a
  refine⟨?_,fun x hx=> ?_⟩
  ·rcases h3 with h|h
   ·exact k5.2 (.inl h)
   ·exact n8 _ h
  ·rcases k5.1 hx with rfl|hx
   ·exact h1
   ·exact h2 x hx
theorem cb2{l:List Int}{m:Int}(h1:m∈l)(h2: ∀x∈l,m≤x):minI l=m:=by
 obtain⟨a,b⟩:=minI_spec (O4 h1)
 exact Int.le_antisymm (b m h1) (h2 _ a)
theorem cb3{l:List Int}{m:Int}(h1:m∈l)(h2: ∀x∈l,x≤m):maxI l=m:=by
 obtain⟨a,b⟩:=maxI_spec (O4 h1)
 exact Int.le_antisymm (h2 _ a) (b m h1)
theorem sumI_app: ∀a b:List Int,sumI (a++b)=sumI a+sumI b
 | [],b=>by simp[sumI]
 |x::a,b=>by show x+sumI (a++b)=x+sumI a+sumI b;rw[sumI_app a b];omega
theorem cb4{a b:List Int}(h:a.Perm b):sumI a=sumI b:=by
 induction h with
 |nil=>rfl
 |cons x _ ih=>show x+_=x+_;rw[ih]
 |swap x y l=>show y+(x+sumI l)=x+(y+sumI l);omega
 |trans _ _ h1 h2=>exact h1.trans h2
theorem bk2{a b:List Int}(h:a.Perm b):agOf a=agOf b:=by
 by_cases hb:b=[]
 ·subst hb;rw[List.perm_nil.1 h]
 ·obtain⟨m1,m2⟩:=minI_spec hb
  obtain⟨x1,x2⟩:=maxI_spec hb
  unfold agOf
  rw[h.length_eq,cb4 h,cb2 (h.mem_iff.2 m1) (fun x hx=>m2 x (h.mem_iff.1 hx)),cb3 (h.mem_iff.2 x1) (fun x hx=>x2 x (h.mem_iff.1 hx))]
def ag2(a b:Ag):Ag:=(a.1+b.1,a.2.1+b.2.1,min a.2.2.1 b.2.2.1,max a.2.2.2 b.2.2.2)
theorem bG6{a b:List Int}(ha:a≠[])(hb:b≠[]):agOf (a++b)=ag2 (agOf a) (agOf b):=by
 obtain⟨m1,m2⟩:=minI_spec ha
 obtain⟨m3,m4⟩:=minI_spec hb
 obtain⟨x1,x2⟩:=maxI_spec ha
 obtain⟨x3,x4⟩:=maxI_spec hb
 have e1:minI (a++b)=min (minI a) (minI b):=cb2 (by
  by_cases c:minI a≤minI b
  ·rw[show min (minI a) (minI b)=minI a by omega];exact q9.2 (.inl m1)
  ·rw[show min (minI a) (minI b)=minI b by omega];exact q9.2 (.inr m3)) (fun x hx=>by
  rcases q9.1 hx with h|h
  ·have:=m2 x h;omega
  ·have:=m4 x h;omega)
 have e2:maxI (a++b)=max (maxI a) (maxI b):=cb3 (by
  by_cases c:maxI b≤maxI a
  ·rw[show max (maxI a) (maxI b)=maxI a by omega];exact q9.2 (.inl x1)
  ·rw[show max (maxI a) (maxI b)=maxI b by omega];exact q9.2 (.inr x3)) (fun x hx=>by
  rcases q9.1 hx with h|h
  ·have:=x2 x h;omega
  ·have:=x4 x h;omega)
 show(((a++b).length:Int),sumI (a++b),minI (a++b),maxI (a++b))=_
 rw[e1,e2,sumI_app,j9,Int.natCast_add]
 rfl
def agAll:List Ag→Ag
 | []=>(0,0,0,0)
 |a::l=>l.foldl ag2 a
theorem cD0{α:Type}(f:α→List Int): ∀(l:List α) (a:List Int),a≠[]→(∀x∈l,f x≠[])→(l.map fun x=>agOf (f x)).foldl ag2 (agOf a)=agOf (a++l.flatMap f)
 | [],a,ha,h=>by simp
 |x::l,a,ha,h=>by
  show(l.map fun x=>agOf (f x)).foldl ag2 (ag2 (agOf a) (agOf (f x)))=_
  rw[←bG6 ha (h x (r8 ..)),cD0 f l (a++f x) (by simp[ha]) (fun y hy=>h y (n8 _ hy)),x6,v8]
theorem bk3{α:Type}(p q:α→Bool): ∀l:List α,(∀x∈l,p x=true→q x=true→False)→(l.filter fun x=>p x||q x).Perm (l.filter p++l.filter q)
 | [],h=>List.Perm.refl _
 |x::l,h=>by
  have ih:=bk3 p q l (fun y hy=>h y (n8 _ hy))
  have hx:=h x (r8 ..)
  rw[s8,s8 (p:=p),s8 (p:=q)]
  cases hp:p x<;>cases hq:q x<;>simp only[Bool.or_false,Bool.or_true,k7,if_true,if_false,Bool.or_self]
  ·exact ih
  ·exact(List.Perm.cons x ih).trans List.perm_middle.symm
  ·exact List.Perm.cons x ih
  ·exact(hx hp hq).elim
theorem aZ1{α β:Type}(f:β→α→Bool)(l:List α): ∀J:List β,J.Pairwise (fun a b=> ∀x∈l,f a x=true→f b x=true→False)→(l.filter fun x=>J.any fun p=>f p x).Perm (J.flatMap fun p=>l.filter (f p))
 | [],h=>by simp
 |p::J,h=>by
  obtain⟨h1,h2⟩:=y7.1 h
  have:=bk3 (f p) (fun x=>J.any fun p=>f p x) l (fun x hx a b=>by
    obtain⟨q,hq,c⟩:=J6.1 b
    exact h1 q hq x hx a c)
  rw[x6]
  exact this.trans (O5 _ (aZ1 f l J h2))
end Go.Ev.Tb
namespace Go.Ev.Tb
variable{K:Type} [DecidableEq K]
inductive Wd
 |ses (g:Int)
 |win (P:Int→Int→Prop)
abbrev Evt(K:Type):=K×Int×Int
def tms(l:List (Evt K))(k:K)(t:Int):Prop:= ∃x∈l,x.1=k∧x.2.1=t
def inP(k:K)(s e:Int)(x:Evt K):Bool:=decide (x.1=k)&&decide (s≤x.2.1)&&decide (x.2.1<e)
theorem inP_iff{k:K}{s e:Int}{x:Evt K}:inP k s e x=true↔x.1=k∧s≤x.2.1∧x.2.1<e:=by simp[inP,and_assoc]
def vals(l:List (Evt K))(k:K)(s e:Int):List Int:=(l.filter (inP k s e)).map (·.2.2)
def Pan:Wd→List (Evt K)→K→Int→Int→Prop
 | .ses g,l,k,s,e=>isS g (tms l k) s e
 | .win P,l,k,s,e=>P s e∧ ∃t,tms l k t∧s≤t∧t<e
def Tab(W:Wd)(l:List (Evt K))(M:K→Int→Int→Option Ag):Prop:= ∀k s e a,M k s e=some a↔Pan W l k s e∧a=agOf (vals l k s e)
theorem Tab.none{W:Wd}{l:List (Evt K)}{M:K→Int→Int→Option Ag}(h:Tab W l M){k:K}{s e:Int}:M k s e=none↔ ¬Pan W l k s e:=by
 cases hm:M k s e with
 |none=>exact⟨fun _ hp=>(by have:=(h k s e _).2 ⟨hp,rfl⟩;rw[hm]at this;cases this),fun _=>rfl⟩
 |some a=>exact⟨fun x=>(by cases x),fun x=>absurd ((h k s e a).1 hm).1 x⟩
theorem Tab.uniq{W:Wd}{l:List (Evt K)}{M M':K→Int→Int→Option Ag}(h:Tab W l M)(h':Tab W l M')(k:K)(s e:Int):M k s e=M' k s e:=by
 cases hm:M' k s e with
 |none=>exact h.none.2 (h'.none.1 hm)
 |some a=>exact(h k s e a).2 ((h' k s e a).1 hm)
omit [DecidableEq K]in
theorem aC1(l:List (Evt K))(o:Evt K)(k:K)(t:Int):tms (l++[o]) k t↔tms l k t∨(o.1=k∧t=o.2.1):=by
 constructor
 ·rintro⟨x,hx,h1,h2⟩
  rcases q9.1 hx with h|h
  ·exact .inl ⟨x,h,h1,h2⟩
  ·rw[o7]at h;subst h;exact .inr ⟨h1,h2.symm⟩
 ·rintro(⟨x,hx,h1,h2⟩|⟨h1,h2⟩)
  ·exact⟨x,q9.2 (.inl hx),h1,h2⟩
  ·exact⟨o,q9.2 (.inr (o7.2 rfl)),h1,h2.symm⟩
theorem ax1(l:List (Evt K))(o:Evt K)(k:K)(s e:Int):vals (l++[o]) k s e=vals l k s e++(if inP k s e o then [o.2.2]else []):=by
 unfold vals
 rw[C4,o9]
 congr 1
 cases h:inP k s e o<;>simp[s8,h]
theorem cb5{l m:List (Evt K)}(h:l.Perm m)(k:K)(s e:Int):(vals l k s e).Perm (vals m k s e):=(h.filter _).map _
omit [DecidableEq K]in
theorem cv8{l m:List (Evt K)}(h:l.Perm m)(k:K):tms l k=tms m k:=by
 funext t
 exact propext ⟨fun⟨x,a,b⟩=>⟨x,h.mem_iff.1 a,b⟩,fun⟨x,a,b⟩=>⟨x,h.mem_iff.2 a,b⟩⟩
theorem Tab.perm{W:Wd}{l m:List (Evt K)}{M:K→Int→Int→Option Ag}(h:Tab W l M)(hp:l.Perm m):Tab W m M:=fun k s e a=>by
 rw[h k s e a,bk2 (cb5 hp k s e)]
 cases W<;>simp only[Pan,cv8 hp k]
theorem cb6{l:List (Evt K)}{k:K}{s e t:Int}(h:tms l k t)(h1:s≤t)(h2:t<e):vals l k s e≠[]:=by
 obtain⟨x,a,b,c⟩:=h
 exact O4 (j6.2 ⟨x,n7.2 ⟨a,inP_iff.2 ⟨b,by omega,by omega⟩⟩,rfl⟩)
theorem cv9{l:List (Evt K)}{k:K}{s e:Int}(h: ∀t,tms l k t→s≤t→t<e→False):vals l k s e=[]:=by
 unfold vals
 rw[N8.2 fun x hx hc=> ?_,G5]
 obtain⟨a,b,c⟩:=inP_iff.1 hc
 exact h _ ⟨x,hx,a,rfl⟩ b c
theorem Pan.ne{W:Wd}{l:List (Evt K)}{k:K}{s e:Int}(hg: ∀g,W= .ses g→0<g)(h:Pan W l k s e):vals l k s e≠[]:=by
 cases W with
 |ses g=>exact cb6 h.1.1 (y8 _) (by have:=h.1.2.2.1;have:=hg g rfl;omega)
 |win P=>obtain⟨_,t,a,b,c⟩:=h;exact cb6 a b c
theorem tab_nil(W:Wd):Tab W ([]:List (Evt K)) (fun _ _ _=>none):=fun k s e a=>by
 refine⟨fun h=>(by cases h),fun h=> ?_⟩
 cases W with
 |ses g=>obtain⟨x,hx,_⟩:=h.1.1.1;cases hx
 |win P=>obtain⟨_,t,⟨x,hx,_⟩,_⟩:=h.1;cases hx
def putA(a:Option Ag)(v:Int):Ag:=match a with|none=>agOf [v]|some a=>ag2 a (agOf [v])
theorem tab_win{P:Int→Int→Prop}{l:List (Evt K)}{M M':K→Int→Int→Option Ag}(o:Evt K)(h:Tab (.win P) l M)
 (h1: ∀k s e,(k=o.1∧P s e∧s≤o.2.1∧o.2.1<e)→M' k s e=some (putA (M k s e) o.2.2))
 (h2: ∀k s e,¬(k=o.1∧P s e∧s≤o.2.1∧o.2.1<e)→M' k s e=M k s e):Tab (.win P) (l++[o]) M':=by
 intro k s e a
 by_cases c:k=o.1∧P s e∧s≤o.2.1∧o.2.1<e
 ·rw[h1 k s e c]
  obtain⟨rfl,hP,c1,c2⟩:=c
  have hin:inP o.1 s e o=true:=inP_iff.2 ⟨rfl,c1,c2⟩
  have hp:Pan (.win P) (l++[o]) o.1 s e:=⟨hP,o.2.1,(aC1 ..).2 (.inr ⟨rfl,rfl⟩),c1,c2⟩
  have hv:putA (M o.1 s e) o.2.2=agOf (vals (l++[o]) o.1 s e):=by
   rw[ax1,if_pos hin]
   cases hm:M o.1 s e with
   |none=>
    have hn:=h.none.1 hm
    rw[cv9 fun t a b c=>hn ⟨hP,t,a,b,c⟩];rfl
   |some b=>
    obtain⟨q1,q2⟩:=(h _ _ _ _).1 hm
    rw[bG6 (Pan.ne (fun g hg=>by cases hg) q1) (by simp),←q2];rfl
  rw[hv]
  exact⟨fun hh=>⟨hp,by cases hh;rfl⟩,fun hh=>by rw[hh.2]⟩
 ·rw[h2 k s e c,h k s e a]
  have hpan:Pan (.win P) (l++[o]) k s e↔Pan (.win P) l k s e:=by
   constructor
   ·rintro⟨hP,t,a,b,d⟩
    rcases(aC1 ..).1 a with a|a
    ·exact⟨hP,t,a,b,d⟩
    ·exact absurd ⟨a.1.symm,hP,by omega,by omega⟩ c
   ·rintro⟨hP,t,a,b,d⟩
    exact⟨hP,t,(aC1 ..).2 (.inl a),b,d⟩
  rw[hpan]
  refine and_congr_right fun hp=> ?_
  rw[ax1,if_neg fun hc=> ?_,x7]
  obtain⟨q1,q2,q3⟩:=inP_iff.1 hc
  exact c ⟨q1.symm,hp.1,q2,q3⟩
theorem cb7{g:Int}(hg:0<g){l:List (Evt K)}{k:K}{t:Int}{L:List (Int×Int)}(hL:Ses g (tms l k) L)(hn:L.Nodup):
 (vals l k (nowOf t (t+g) (joinedOf g t L)).1 (nowOf t (t+g) (joinedOf g t L)).2).Perm ((joinedOf g t L).flatMap fun p=>vals l k p.1 p.2):=by
 have hT': ∀x,(tms l k x∨x=t)↔tms l k x∨x=t:=fun _=>Iff.rfl
 obtain⟨h1,h2⟩:=bv6 (T':=fun x=>tms l k x∨x=t) hg t hL hT'
 obtain⟨n1,n2,n3⟩:=ax0 (joinedOf g t L) t (t+g)
 have hj: ∀p,p∈joinedOf g t L↔p∈L∧lap p.1 p.2 t (t+g):=fun p=>by rw[joinedOf,n7,ac8]
 have hJn:(joinedOf g t L).Pairwise (fun a b=> ∀x∈l,inP k a.1 a.2 x=true→inP k b.1 b.2 x=true→False):=by
  have hnd:(joinedOf g t L).Nodup:=hn.filter _
  refine List.Pairwise.imp_of_mem (fun {a b} ha hb hne x hx i1 i2=>hne ?_) hnd
  obtain⟨_,a1,a2⟩:=inP_iff.1 i1
  obtain⟨_,b1,b2⟩:=inP_iff.1 i2
  have:=((hL.1 a.1 a.2).1 ((hj a).1 ha).1).one ((hL.1 b.1 b.2).1 ((hj b).1 hb).1) ⟨by omega,by omega⟩
  exact A3 this.1 this.2
 have hfil:l.filter (inP k (nowOf t (t+g) (joinedOf g t L)).1 (nowOf t (t+g) (joinedOf g t L)).2)=l.filter fun x=>(joinedOf g t L).any fun p=>inP k p.1 p.2 x:=by
  refine List.filter_congr fun x hx=> ?_
  rw[v7,J6]
  constructor
  ·intro h
   obtain⟨a1,a2,a3⟩:=inP_iff.1 h
   obtain⟨p,b1,b2,b3⟩:=hL.2 x.2.1 ⟨x,hx,a1,rfl⟩
   refine⟨p,(hj p).2 ⟨b1,?_⟩,inP_iff.2 ⟨a1,b2,by omega⟩⟩
   by_cases c:lap p.1 p.2 t (t+g)
   ·exact c
   ·exfalso
    have hr:p∈ap4 g t L:=by rw[ap4,n7,x5,←u4,ac8];exact⟨b1,c⟩
    have hs:=(h2 p.1 p.2).2 (.inl hr)
    have e:=h1.one hs ⟨by omega,by omega⟩
    exact c ⟨by omega,by omega⟩
  ·rintro⟨p,hp,h⟩
   obtain⟨a1,a2,a3⟩:=inP_iff.1 h
   have:=n3 p hp
   exact inP_iff.2 ⟨a1,by omega,by omega⟩
 unfold vals
 rw[hfil]
 refine((aZ1 (fun(p:Int×Int) x=>inP k p.1 p.2 x) l _ hJn).map _).trans ?_
 rw[List.map_flatMap]
theorem ses_ex{g:Int}(hg:0<g)(k:K): ∀l:List (Evt K),∃L,Ses g (fun t=> ∃x∈l,x.1=k∧x.2.1=t) L
 | []=>⟨[],cO9 g (fun x ⟨_,h,_⟩=>by cases h)⟩
 |o::l=>by
  obtain⟨L,h⟩:=ses_ex hg k l
  by_cases ho:o.1=k
  ·exact⟨nowOf o.2.1 (o.2.1+g) (joinedOf g o.2.1 L)::ap4 g o.2.1 L,b71 hg o.2.1 h (fun x=>⟨fun⟨y,a,b,c⟩=>by
    rcases k5.1 a with rfl|a
    ·exact .inr c.symm
    ·exact .inl ⟨y,a,b,c⟩,fun hx=>by
    rcases hx with⟨y,a,b,c⟩|rfl
    ·exact⟨y,n8 _ a,b,c⟩
    ·exact⟨o,r8 ..,ho,rfl⟩⟩) (fun p=>by rw[k5];exact Or.comm)⟩
  ·refine⟨L,?_⟩
   have:(fun t=> ∃x∈o::l,x.1=k∧x.2.1=t)=fun t=> ∃x∈l,x.1=k∧x.2.1=t:=by
    funext t
    refine propext ⟨fun⟨y,a,b,c⟩=> ?_,fun⟨y,a,b,c⟩=>⟨y,n8 _ a,b,c⟩⟩
    rcases k5.1 a with rfl|a
    ·exact absurd b ho
    ·exact⟨y,a,b,c⟩
   rw[this];exact h
theorem tab_ses{g:Int}(hg:0<g){l:List (Evt K)}{M M':K→Int→Int→Option Ag}(o:Evt K){L:List (Int×Int)}(h:Tab (.ses g) l M)
 (hL: ∀s e,(s,e)∈L↔M o.1 s e≠none) (hn:L.Nodup)
 (h1: ∀s e,(s,e)=nowOf o.2.1 (o.2.1+g) (joinedOf g o.2.1 L)→M' o.1 s e=some (agAll (agOf [o.2.2]::(joinedOf g o.2.1 L).map fun p=>(M o.1 p.1 p.2).getD (0,0,0,0))))
 (h2: ∀s e,(s,e)≠nowOf o.2.1 (o.2.1+g) (joinedOf g o.2.1 L)→(s,e)∈joinedOf g o.2.1 L→M' o.1 s e=none)
 (h3: ∀k s e,k≠o.1∨((s,e)≠nowOf o.2.1 (o.2.1+g) (joinedOf g o.2.1 L)∧(s,e)∉joinedOf g o.2.1 L)→M' k s e=M k s e):Tab (.ses g) (l++[o]) M':=by
 have hcov: ∀t,tms l o.1 t→ ∃p∈L,p.1≤t∧t+g≤p.2:=fun t ht=>by
  obtain⟨L',h1,h2⟩:=ses_ex hg o.1 l
  obtain⟨p,a,b,c⟩:=h2 t ht
  exact⟨p,(hL p.1 p.2).2 fun hm=>h.none.1 hm ((h1 p.1 p.2).1 a),b,c⟩
 have hS:Ses g (tms l o.1) L:=⟨fun s e=>by
  rw[hL,ne_eq,h.none]
  exact Classical.not_not,hcov⟩
 have hT: ∀x,tms (l++[o]) o.1 x↔tms l o.1 x∨x=o.2.1:=fun x=>by rw[aC1];simp
 obtain⟨q1,q2⟩:=bv6 hg o.2.1 hS hT
 obtain⟨n1,n2,n3⟩:=ax0 (joinedOf g o.2.1 L) o.2.1 (o.2.1+g)
 have hj: ∀p,p∈joinedOf g o.2.1 L↔p∈L∧lap p.1 p.2 o.2.1 (o.2.1+g):=fun p=>by rw[joinedOf,n7,ac8]
 have hr: ∀p,p∈ap4 g o.2.1 L↔p∈L∧ ¬lap p.1 p.2 o.2.1 (o.2.1+g):=fun p=>by
  rw[ap4,n7,←ac8];simp
 have hvj:=cb7 hg (t:=o.2.1) hS hn
 intro k s e a
 by_cases hk:k=o.1
 ·subst hk
  by_cases c:(s,e)=nowOf o.2.1 (o.2.1+g) (joinedOf g o.2.1 L)
  ·rw[h1 s e c]
   have hp:Pan (.ses g) (l++[o]) o.1 s e:=(q2 s e).2 (.inr c)
   have hv:agAll (agOf [o.2.2]::(joinedOf g o.2.1 L).map fun p=>(M o.1 p.1 p.2).getD (0,0,0,0))=agOf (vals (l++[o]) o.1 s e):=by
    have e1:((joinedOf g o.2.1 L).map fun p=>(M o.1 p.1 p.2).getD (0,0,0,0))=(joinedOf g o.2.1 L).map fun p=>agOf (vals l o.1 p.1 p.2):=by
     refine u5 fun p hp=> ?_
     have:=(h o.1 p.1 p.2 _).2 ⟨(hS.1 p.1 p.2).1 ((hj p).1 hp).1,rfl⟩
     rw[this];rfl
    show((joinedOf g o.2.1 L).map fun p=>(M o.1 p.1 p.2).getD (0,0,0,0)).foldl ag2 (agOf [o.2.2])=_
    rw[e1,cD0 (fun(p:Int×Int)=>vals l o.1 p.1 p.2) _ _ (by simp) (fun(p:Int×Int) hp=>Pan.ne (W:= .ses g) (l:=l) (k:=o.1) (s:=p.1) (e:=p.2) (fun _ e=>by cases e;exact hg) ((hS.1 p.1 p.2).1 ((hj p).1 hp).1))]
    rw[ax1,if_pos (inP_iff.2 ⟨rfl,by rw[←c]at n1;exact n1,by rw[←c]at n2;have n2':o.2.1+g≤e:=n2;omega⟩)]
    rw[←c]at hvj
    exact bk2 ((List.Perm.cons _ hvj.symm).trans (List.perm_append_singleton _ _).symm)
   rw[hv]
   exact⟨fun hh=>⟨hp,by cases hh;rfl⟩,fun hh=>by rw[hh.2]⟩
  ·by_cases d:(s,e)∈joinedOf g o.2.1 L
   ·rw[h2 s e c d]
    refine⟨fun hh=>(by cases hh),fun hh=> ?_⟩
    rcases(q2 s e).1 hh.1 with x|x
    ·exact absurd ((hj _).1 d).2 ((hr _).1 x).2
    ·exact absurd x c
   ·rw[h3 o.1 s e (.inr ⟨c,d⟩),h o.1 s e a]
    have hpan:Pan (.ses g) (l++[o]) o.1 s e↔Pan (.ses g) l o.1 s e:=by
     show isS g _ s e↔isS g _ s e
     rw[q2 s e,←hS.1 s e,hr]
     constructor
     ·rintro(x|x)
      ·exact x.1
      ·exact absurd x c
     ·intro x
      exact .inl ⟨x,fun y=>d ((hj _).2 ⟨x,y⟩)⟩
    rw[hpan]
    refine and_congr_right fun hp=> ?_
    rw[ax1,if_neg fun hc=> ?_,x7]
    obtain⟨z1,z2,z3⟩:=inP_iff.1 hc
    exact d ((hj _).2 ⟨(hS.1 s e).2 hp,by show s<o.2.1+g;omega,z3⟩)
 ·rw[h3 k s e (.inl hk),h k s e a]
  have ht:tms (l++[o]) k=tms l k:=by
   funext x
   refine propext ⟨fun hx=> ?_,fun hx=>(aC1 ..).2 (.inl hx)⟩
   rcases(aC1 ..).1 hx with y|y
   ·exact y
   ·exact absurd y.1.symm hk
  rw[ax1,if_neg fun hc=>hk (inP_iff.1 hc).1.symm,x7]
  simp only[Pan,ht]
end Go.Ev.Tb
namespace Go.Ev.Tb
def sumN:List Nat→Nat
 | []=>0
 |x::l=>x+sumN l
theorem bk4{α:Type}: ∀l:List α,sumN (l.map fun _=>0)=0
 | []=>rfl
 |a::l=>by show 0+sumN (l.map fun _=>0)=0;rw[bk4 l]
theorem bG7{α:Type}(f g:α→Nat): ∀l:List α,sumN (l.map fun x=>f x+g x)=sumN (l.map f)+sumN (l.map g)
 | []=>rfl
 |a::l=>by
  show f a+g a+sumN (l.map fun x=>f x+g x)=f a+sumN (l.map f)+(g a+sumN (l.map g))
  rw[bG7 f g l];omega
theorem bG8{α:Type}(p:α→Bool): ∀l:List α,sumN (l.map fun x=>if p x then 1 else 0)=(l.filter p).length
 | []=>rfl
 |a::l=>by
  show(if p a then 1 else 0)+sumN (l.map fun x=>if p x then 1 else 0)=_
  rw[bG8 p l,s8]
  cases p a
  ·simp
  ·simp;omega
theorem twice{α β:Type}(f:β→α→Bool)(l:List α): ∀R:List β,sumN (R.map fun p=>(l.filter (f p)).length)=sumN (l.map fun x=>(R.filter fun p=>f p x).length)
 | []=>by
   show 0=sumN (l.map fun _=>0)
   rw[bk4]
 |p::R=>by
  show(l.filter (f p)).length+sumN (R.map fun p=>(l.filter (f p)).length)=_
  rw[twice f l R,←bG8 (f p) l,←bG7]
  congr 1
  refine u5 fun x _=> ?_
  rw[s8]
  cases f p x
  ·simp
  ·simp;omega
end Go.Ev.Tb
namespace Go.Ev
open Go
def aH7:SX:= zb (zl 0) 1000000
def ax2:VT:= .ite (zs (.ci 0) (zl 0)) (.need (aH7) (.ret 0 [.va 0])) (.both (.ret 0 [.op .row []]) (.need (aH7) (.ret 0 [.va 0])))
def dd4:VT:= .ite (zs (.va 2000) (.va 4)) (.need (zn (zp (za (.va 3) (.va 2000))) (zs (za (.va 3) (.va 2000)) (.va 1))) (.need (zs (za (.va 3) (.va 2000)) (zl 2001)) (.need (zn (zp (za (.va 2) (.va 2000))) (zs (za (.va 2) (.va 2000)) (.va 1))) (.need (zs (za (.va 2) (.va 2000)) (zl 2001)) (.need (zs (za (.va 3) (.va 2000)) (zL (.op .lset [.va 2001,za (.va 2) (.va 2000),.op .row [.op .lget [.va 2001,za (.va 3) (.va 2000),.ci 0],.op .lget [.va 2001,za (.va 3) (.va 2000),.ci 1],.op .lget [.va 2001,za (.va 3) (.va 2000),.ci 2],.op .lget [.va 2001,za (.va 3) (.va 2000),.ci 3],.op .lget [.va 2001,za (.va 3) (.va 2000),.ci 4],.op .lget [.va 2001,za (.va 3) (.va 2000),.ci 5],.op .lget [.va 2001,za (.va 3) (.va 2000),.ci 6]]]))) (.ret 0 [zi (.va 2000),.op .lset [.op .lset [.va 2001,za (.va 2) (.va 2000),.op .row [.op .lget [.va 2001,za (.va 3) (.va 2000),.ci 0],.op .lget [.va 2001,za (.va 3) (.va 2000),.ci 1],.op .lget [.va 2001,za (.va 3) (.va 2000),.ci 2],.op .lget [.va 2001,za (.va 3) (.va 2000),.ci 3],.op .lget [.va 2001,za (.va 3) (.va 2000),.ci 4],.op .lget [.va 2001,za (.va 3) (.va 2000),.ci 5],.op .lget [.va 2001,za (.va 3) (.va 2000),.ci 6]]],za (.va 3) (.va 2000),.op .row [.op .lget [.va 2001,za (.va 2) (.va 2000),.ci 0],.op .lget [.va 2001,za (.va 2) (.va 2000),.ci 1],.op .lget [.va 2001,za (.va 2) (.va 2000),.ci 2],.op .lget [.va 2001,za (.va 2) (.va 2000),.ci 3],.op .lget [.va 2001,za (.va 2) (.va 2000),.ci 4],.op .lget [.va 2001,za (.va 2) (.va 2000),.ci 5],.op .lget [.va 2001,za (.va 2) (.va 2000),.ci 6]]]])))))) (.ret 1 [.va 2000,.va 2001])
def b72:VT:= .loop ⟨452,[.ci 0,.va 0],2000,[.va 1,.va 0,.va 2,.va 3,.va 4]⟩ dd4 [.ret 0 [zo (.app 452 [.ci 0,.va 0,.va 1,.va 0,.va 2,.va 3,.va 4]) 1]]
def bG9:SX:= zs (.va 2) (.va 9)
def ap5:SX:= zs (.va 1) (.va 8)
def ap6:SX:= .op (.cmp .gtr) [.va 1,.va 8]
def bH0:SX:= .op (.cmp .gtr) [.va 2,.va 9]
def bk5:VT:= .ite (.op (.scmp .lss) [.va 0,.va 7]) (.ite (bG9) (.ite (ap5) (.ret 0 [.ci (-1)]) (.ite (ap6) (.ret 0 [.ci (-1)]) (.ret 0 [.ci (-1)]))) (.ite (bH0) (.ite (ap5) (.ret 0 [.ci (-1)]) (.ite (ap6) (.ret 0 [.ci (-1)]) (.ret 0 [.ci (-1)]))) (.ite (ap5) (.ret 0 [.ci (-1)]) (.ite (ap6) (.ret 0 [.ci (-1)]) (.ret 0 [.ci (-1)]))))) (.ite (.op (.scmp .gtr) [.va 0,.va 7]) (.ite (bG9) (.ite (ap5) (.ret 0 [.ci 1]) (.ite (ap6) (.ret 0 [.ci 1]) (.ret 0 [.ci 1]))) (.ite (bH0) (.ite (ap5) (.ret 0 [.ci 1]) (.ite (ap6) (.ret 0 [.ci 1]) (.ret 0 [.ci 1]))) (.ite (ap5) (.ret 0 [.ci 1]) (.ite (ap6) (.ret 0 [.ci 1]) (.ret 0 [.ci 1]))))) (.ite (bG9) (.ite (ap5) (.ret 0 [.ci (-1)]) (.ite (ap6) (.ret 0 [.ci (-1)]) (.ret 0 [.ci (-1)]))) (.ite (bH0) (.ite (ap5) (.ret 0 [.ci 1]) (.ite (ap6) (.ret 0 [.ci 1]) (.ret 0 [.ci 1]))) (.ite (ap5) (.ret 0 [.ci (-1)]) (.ite (ap6) (.ret 0 [.ci 1]) (.ret 0 [.ci 0]))))))
def cV4:VT:= .ite (.op (.cmp .neq) [.va 2000,.va 2001]) (.ite (.op (.cmp .gtr) [.va 2000,.va 2001]) (.need (.app 420 [.va 2002,.va 1,zm (.va 3) (.va 2000),.va 3,.va 2001]) (.ret 0 [zm (.va 2000) (.va 2001),.va 2001,.app 421 [.va 2002,zm (.va 3) (.va 2000),.va 3,.va 2001]])) (.need (.app 420 [.va 2002,.va 1,zm (.va 3) (.va 2000),zm (za (.va 3) (.va 2001)) (.va 2000),.va 2000]) (.ret 0 [.va 2000,zm (.va 2001) (.va 2000),.app 421 [.va 2002,zm (.va 3) (.va 2000),zm (za (.va 3) (.va 2001)) (.va 2000),.va 2000]]))) (.ret 1 [.va 2000,.va 2001,.va 2002])
def bk6:SX:= zm (.va 3) (.va 2)
def bk7:SX:= zm (.va 4) (.va 3)
def bk8:SX:= .app 458 [bk6,bk7,.va 0,.va 1,.va 0,.va 3]
def bk9:SX:= zo bk8 2
def aR1:SX:= zo bk8 0
def bl0:SX:= zm (.va 3) aR1
def bH1:VT:= .loop ⟨458,[bk6,bk7,.va 0],2000,[.va 1,.va 0,.va 3]⟩ cV4 [.need (.app 420 [bk9,.va 1,bl0,.va 3,aR1]) (.ret 0 [.app 421 [bk9,bl0,.va 3,aR1]])]
def cP0:VT:= .ite (.op (.cmp .gtr) [.va 3000,.va 2]) (.need (zn (zp (.va 3000)) (zs (.va 3000) (.va 1))) (.need (zs (.va 3000) (zl 3001)) (.need (zn (zp (zm (.va 3000) (.ci 1))) (zs (zm (.va 3000) (.ci 1)) (.va 1))) (.need (zs (zm (.va 3000) (.ci 1)) (zl 3001)) (.ite (zs (.app 206 [zg 3001 3000 0,zg 3001 3000 1,zg 3001 3000 2,.op .lget [.va 3001,zm (.va 3000) (.ci 1),.ci 0],.op .lget [.va 3001,zm (.va 3000) (.ci 1),.ci 1],.op .lget [.va 3001,zm (.va 3000) (.ci 1),.ci 2]]) (.ci 0)) (.need (zs (zm (.va 3000) (.ci 1)) (zL (.op .lset [.va 3001,.va 3000,.op .row [.op .lget [.va 3001,zm (.va 3000) (.ci 1),.ci 0],.op .lget [.va 3001,zm (.va 3000) (.ci 1),.ci 1],.op .lget [.va 3001,zm (.va 3000) (.ci 1),.ci 2],.op .lget [.va 3001,zm (.va 3000) (.ci 1),.ci 3],.op .lget [.va 3001,zm (.va 3000) (.ci 1),.ci 4],.op .lget [.va 3001,zm (.va 3000) (.ci 1),.ci 5],.op .lget [.va 3001,zm (.va 3000) (.ci 1),.ci 6]]]))) (.ret 0 [zm (.va 3000) (.ci 1),.op .lset [.op .lset [.va 3001,.va 3000,.op .row [.op .lget [.va 3001,zm (.va 3000) (.ci 1),.ci 0],.op .lget [.va 3001,zm (.va 3000) (.ci 1),.ci 1],.op .lget [.va 3001,zm (.va 3000) (.ci 1),.ci 2],.op .lget [.va 3001,zm (.va 3000) (.ci 1),.ci 3],.op .lget [.va 3001,zm (.va 3000) (.ci 1),.ci 4],.op .lget [.va 3001,zm (.va 3000) (.ci 1),.ci 5],.op .lget [.va 3001,zm (.va 3000) (.ci 1),.ci 6]]],zm (.va 3000) (.ci 1),zv 3001 3000]])) (.ret 1 [.va 3000,.va 3001])))))) (.ret 1 [.va 3000,.va 3001])
def d61:VT:= .ite (zs (.va 2000) (.va 3)) (.loop ⟨461,[.va 2000,.va 2001],3000,[.va 1,.va 2001,.va 2,.va 3,.va 2000]⟩ cP0 [.ret 0 [zi (.va 2000),zo (.app 461 [.va 2000,.va 2001,.va 1,.va 2001,.va 2,.va 3,.va 2000]) 1]]) (.ret 1 [.va 2000,.va 2001])
def aZ2:SX:= zi (.va 2)
def bH2:VT:= .loop ⟨460,[aZ2,.va 0],2000,[.va 1,.va 0,.va 2,.va 3]⟩ d61 [.ret 0 [zo (.app 460 [aZ2,.va 0,.va 1,.va 0,.va 2,.va 3]) 1]]
def d62:VT:= .ite (zs (.va 2000) (.va 2001)) (.need (zn (zp (zh (.va 2000) (.va 2001))) (zs (zh (.va 2000) (.va 2001)) (.va 1))) (.need (zs (zh (.va 2000) (.va 2001)) (zl 0)) (.need (zn (zp (.va 2)) (zs (.va 2) (.va 1))) (.need (zs (.va 2) (zl 0)) (.ite (zs (.app 206 [.op .lget [.va 0,zh (.va 2000) (.va 2001),.ci 0],.op .lget [.va 0,zh (.va 2000) (.va 2001),.ci 1],.op .lget [.va 0,zh (.va 2000) (.va 2001),.ci 2],zg 0 2 0,zg 0 2 1,zg 0 2 2]) (.ci 0)) (.ret 0 [zi (zh (.va 2000) (.va 2001)),.va 2001]) (.ret 0 [.va 2000,zh (.va 2000) (.va 2001)])))))) (.ret 1 [.va 2000,.va 2001])
def cV5:VT:= .ite (zs (.va 3000) (zm (zo (.app 462 [.va 3,.va 4,.va 1,.va 0,.va 2]) 0) (.ci 1))) (.need (zn (zp (zi (.va 3000))) (zs (zi (.va 3000)) (.va 1))) (.need (zs (zi (.va 3000)) (zl 3001)) (.need (zn (zp (.va 3000)) (zs (.va 3000) (.va 1))) (.need (zs (.va 3000) (zl 3001)) (.need (zs (zi (.va 3000)) (zL (.op .lset [.va 3001,.va 3000,.op .row [.op .lget [.va 3001,zi (.va 3000),.ci 0],.op .lget [.va 3001,zi (.va 3000),.ci 1],.op .lget [.va 3001,zi (.va 3000),.ci 2],.op .lget [.va 3001,zi (.va 3000),.ci 3],.op .lget [.va 3001,zi (.va 3000),.ci 4],.op .lget [.va 3001,zi (.va 3000),.ci 5],.op .lget [.va 3001,zi (.va 3000),.ci 6]]]))) (.ret 0 [zi (.va 3000),.op .lset [.op .lset [.va 3001,.va 3000,.op .row [.op .lget [.va 3001,zi (.va 3000),.ci 0],.op .lget [.va 3001,zi (.va 3000),.ci 1],.op .lget [.va 3001,zi (.va 3000),.ci 2],.op .lget [.va 3001,zi (.va 3000),.ci 3],.op .lget [.va 3001,zi (.va 3000),.ci 4],.op .lget [.va 3001,zi (.va 3000),.ci 5],.op .lget [.va 3001,zi (.va 3000),.ci 6]]],zi (.va 3000),zv 3001 3000]])))))) (.ret 1 [.va 3000,.va 3001])
def d63:VT:= .ite (zs (.va 2000) (.va 2001)) (.need (zn (zp (.va 3)) (zs (.va 3) (.va 1))) (.need (zs (.va 3) (zl 0)) (.need (zn (zp (zh (.va 2000) (.va 2001))) (zs (zh (.va 2000) (.va 2001)) (.va 1))) (.need (zs (zh (.va 2000) (.va 2001)) (zl 0)) (.ite (.op .not [zs (.app 206 [zg 0 3 0,zg 0 3 1,zg 0 3 2,.op .lget [.va 0,zh (.va 2000) (.va 2001),.ci 0],.op .lget [.va 0,zh (.va 2000) (.va 2001),.ci 1],.op .lget [.va 0,zh (.va 2000) (.va 2001),.ci 2]]) (.ci 0)]) (.ret 0 [zi (zh (.va 2000) (.va 2001)),.va 2001]) (.ret 0 [.va 2000,zh (.va 2000) (.va 2001)])))))) (.ret 1 [.va 2000,.va 2001])
def cV6:VT:= .ite (.op (.cmp .gtr) [.va 3000,zo (.app 464 [.va 2,.va 3,.va 1,.va 0,.va 3]) 0]) (.need (zn (zp (zm (.va 3000) (.ci 1))) (zs (zm (.va 3000) (.ci 1)) (.va 1))) (.need (zs (zm (.va 3000) (.ci 1)) (zl 3001)) (.need (zn (zp (.va 3000)) (zs (.va 3000) (.va 1))) (.need (zs (.va 3000) (zl 3001)) (.need (zs (zm (.va 3000) (.ci 1)) (zL (.op .lset [.va 3001,.va 3000,.op .row [.op .lget [.va 3001,zm (.va 3000) (.ci 1),.ci 0],.op .lget [.va 3001,zm (.va 3000) (.ci 1),.ci 1],.op .lget [.va 3001,zm (.va 3000) (.ci 1),.ci 2],.op .lget [.va 3001,zm (.va 3000) (.ci 1),.ci 3],.op .lget [.va 3001,zm (.va 3000) (.ci 1),.ci 4],.op .lget [.va 3001,zm (.va 3000) (.ci 1),.ci 5],.op .lget [.va 3001,zm (.va 3000) (.ci 1),.ci 6]]]))) (.ret 0 [zm (.va 3000) (.ci 1),.op .lset [.op .lset [.va 3001,.va 3000,.op .row [.op .lget [.va 3001,zm (.va 3000) (.ci 1),.ci 0],.op .lget [.va 3001,zm (.va 3000) (.ci 1),.ci 1],.op .lget [.va 3001,zm (.va 3000) (.ci 1),.ci 2],.op .lget [.va 3001,zm (.va 3000) (.ci 1),.ci 3],.op .lget [.va 3001,zm (.va 3000) (.ci 1),.ci 4],.op .lget [.va 3001,zm (.va 3000) (.ci 1),.ci 5],.op .lget [.va 3001,zm (.va 3000) (.ci 1),.ci 6]]],zm (.va 3000) (.ci 1),zv 3001 3000]])))))) (.ret 1 [.va 3000,.va 3001])
def cP1:VT:= .ite (zs (.va 2000) (.va 2001)) (.need (zn (zp (zm (zm (za (zh (.va 2) (.va 4)) (.va 3)) (.ci 1)) (zh (.va 2000) (.va 2001)))) (zs (zm (zm (za (zh (.va 2) (.va 4)) (.va 3)) (.ci 1)) (zh (.va 2000) (.va 2001))) (.va 1))) (.need (zs (zm (zm (za (zh (.va 2) (.va 4)) (.va 3)) (.ci 1)) (zh (.va 2000) (.va 2001))) (zl 0)) (.need (zn (zp (zh (.va 2000) (.va 2001))) (zs (zh (.va 2000) (.va 2001)) (.va 1))) (.need (zs (zh (.va 2000) (.va 2001)) (zl 0)) (.ite (.op .not [zs (.app 206 [.op .lget [.va 0,zm (zm (za (zh (.va 2) (.va 4)) (.va 3)) (.ci 1)) (zh (.va 2000) (.va 2001)),.ci 0],.op .lget [.va 0,zm (zm (za (zh (.va 2) (.va 4)) (.va 3)) (.ci 1)) (zh (.va 2000) (.va 2001)),.ci 1],.op .lget [.va 0,zm (zm (za (zh (.va 2) (.va 4)) (.va 3)) (.ci 1)) (zh (.va 2000) (.va 2001)),.ci 2],.op .lget [.va 0,zh (.va 2000) (.va 2001),.ci 0],.op .lget [.va 0,zh (.va 2000) (.va 2001),.ci 1],.op .lget [.va 0,zh (.va 2000) (.va 2001),.ci 2]]) (.ci 0)]) (.ret 0 [zi (zh (.va 2000) (.va 2001)),.va 2001]) (.ret 0 [.va 2000,zh (.va 2000) (.va 2001)])))))) (.ret 1 [.va 2000,.va 2001])
def bv7:SX:= zo (.app 462 [.va 3,.va 4,.va 1,.va 0,.va 2]) 0
def bv8:SX:= zo (.app 464 [.va 2,.va 3,.va 1,.va 0,.va 3]) 0
def V7:SX:= zh (.va 2) (.va 4)
def ag9:SX:= za V7 (.va 3)
def bv9:SX:= zm ag9 (.va 4)
def aR2:SX:= zm ag9 (.ci 1)
def aR3:SX:= zo (.app 466 [bv9,V7,.va 1,.va 0,.va 2,.va 3,.va 4,V7,ag9,aR2]) 0
def aR4:SX:= zm ag9 aR3
def cP2:SX:= zs (.va 2) aR3
def cP3:SX:= zs aR3 V7
def aE6:SX:= .app 423 [.va 0,aR3,.va 3,aR4]
def ax3:SX:= zs V7 aR4
def ax4:SX:= zs aR4 (.va 4)
def bH3:SX:= .app 425 [aE6,.va 2,V7]
def cD1(B:Int):SX:= .app 426 [aE6,.va 1,V7,aR4,.va 4,.ci B]
def cD2:SX:= .app 425 [aE6,V7,.va 4]
def cD3(B:Int):SX:= .app 426 [.va 0,.va 1,.va 2,aR3,V7,.ci B]
def ak0:SX:= .app 425 [.va 0,.va 2,V7]
def cD4(B:Int):SX:= .app 426 [ak0,.va 1,V7,aR4,.va 4,.ci B]
def bH4:SX:= .app 425 [ak0,V7,.va 4]
def bH5(B:Int):SX:= .app 426 [.va 0,.va 1,V7,aR4,.va 4,.ci B]
def aE7:SX:= .app 425 [.va 0,V7,.va 4]
def ak1:SX:= zo (.app 466 [.va 2,.va 3,.va 1,.va 0,.va 2,.va 3,.va 4,V7,ag9,aR2]) 0
def ak2:SX:= zm ag9 ak1
def cb8:SX:= zs (.va 2) ak1
def cb9:SX:= zs ak1 V7
def aE8:SX:= .app 423 [.va 0,ak1,.va 3,ak2]
def ax5:SX:= zs V7 ak2
def ax6:SX:= zs ak2 (.va 4)
def bH6:SX:= .app 425 [aE8,.va 2,V7]
def cD5(B:Int):SX:= .app 426 [aE8,.va 1,V7,ak2,.va 4,.ci B]
def cD6:SX:= .app 425 [aE8,V7,.va 4]
def cD7(B:Int):SX:= .app 426 [.va 0,.va 1,.va 2,ak1,V7,.ci B]
def cD8(B:Int):SX:= .app 426 [ak0,.va 1,V7,ak2,.va 4,.ci B]
def bH7(B:Int):SX:= .app 426 [.va 0,.va 1,V7,ak2,.va 4,.ci B]
def af2(B:Int):VT:= .ite (ze (zm (.va 3) (.va 2)) 1) (.loop ⟨462,[.va 3,.va 4],2000,[.va 1,.va 0,.va 2]⟩ d62 [.loop ⟨463,[.va 2,.va 0],3000,[.va 1,.va 0,bv7]⟩ cV5 [.ret 0 [zo (.app 463 [.va 2,.va 0,.va 1,.va 0,bv7]) 1]]]) (.ite (ze (zm (.va 4) (.va 3)) 1) (.loop ⟨464,[.va 2,.va 3],2000,[.va 1,.va 0,.va 3]⟩ d63 [.loop ⟨465,[.va 3,.va 0],3000,[.va 1,.va 0,bv8]⟩ cV6 [.ret 0 [zo (.app 465 [.va 3,.va 0,.va 1,.va 0,bv8]) 1]]]) (.ite (.op (.cmp .gtr) [.va 3,V7]) (.loop ⟨466,[bv9,V7],2000,[.va 1,.va 0,.va 2,.va 3,.va 4,V7,ag9,aR2]⟩ cP1 [.ite (zs aR3 (.va 3)) (.ite (zs (.va 3) aR4) (.need (.app 422 [.va 0,.va 1,aR3,.va 3,aR4]) (.ite (cP2) (.ite (cP3) (.need (.app 426 [aE6,.va 1,.va 2,aR3,V7,.ci B]) (.ite (ax3) (.ite (ax4) (.need (.app 426 [bH3,.va 1,V7,aR4,.va 4,.ci B]) (.ret 0 [.app 425 [bH3,V7,.va 4]])) (.ret 0 [bH3])) (.ret 0 [bH3]))) (.ite (ax3) (.ite (ax4) (.need ((cD1 B)) (.ret 0 [cD2])) (.ret 0 [aE6])) (.ret 0 [aE6]))) (.ite (ax3) (.ite (ax4) (.need ((cD1 B)) (.ret 0 [cD2])) (.ret 0 [aE6])) (.ret 0 [aE6])))) (.ite (cP2) (.ite (cP3) (.need ((cD3 B)) (.ite (ax3) (.ite (ax4) (.need ((cD4 B)) (.ret 0 [bH4])) (.ret 0 [ak0])) (.ret 0 [ak0]))) (.ite (ax3) (.ite (ax4) (.need ((bH5 B)) (.ret 0 [aE7])) (.ret 0 [.va 0])) (.ret 0 [.va 0]))) (.ite (ax3) (.ite (ax4) (.need ((bH5 B)) (.ret 0 [aE7])) (.ret 0 [.va 0])) (.ret 0 [.va 0])))) (.ite (cP2) (.ite (cP3) (.need ((cD3 B)) (.ite (ax3) (.ite (ax4) (.need ((cD4 B)) (.ret 0 [bH4])) (.ret 0 [ak0])) (.ret 0 [ak0]))) (.ite (ax3) (.ite (ax4) (.need ((bH5 B)) (.ret 0 [aE7])) (.ret 0 [.va 0])) (.ret 0 [.va 0]))) (.ite (ax3) (.ite (ax4) (.need ((bH5 B)) (.ret 0 [aE7])) (.ret 0 [.va 0])) (.ret 0 [.va 0])))]) (.loop ⟨466,[.va 2,.va 3],2000,[.va 1,.va 0,.va 2,.va 3,.va 4,V7,ag9,aR2]⟩ cP1 [.ite (zs ak1 (.va 3)) (.ite (zs (.va 3) ak2) (.need (.app 422 [.va 0,.va 1,ak1,.va 3,ak2]) (.ite (cb8) (.ite (cb9) (.need (.app 426 [aE8,.va 1,.va 2,ak1,V7,.ci B]) (.ite (ax5) (.ite (ax6) (.need (.app 426 [bH6,.va 1,V7,ak2,.va 4,.ci B]) (.ret 0 [.app 425 [bH6,V7,.va 4]])) (.ret 0 [bH6])) (.ret 0 [bH6]))) (.ite (ax5) (.ite (ax6) (.need ((cD5 B)) (.ret 0 [cD6])) (.ret 0 [aE8])) (.ret 0 [aE8]))) (.ite (ax5) (.ite (ax6) (.need ((cD5 B)) (.ret 0 [cD6])) (.ret 0 [aE8])) (.ret 0 [aE8])))) (.ite (cb8) (.ite (cb9) (.need ((cD7 B)) (.ite (ax5) (.ite (ax6) (.need ((cD8 B)) (.ret 0 [bH4])) (.ret 0 [ak0])) (.ret 0 [ak0]))) (.ite (ax5) (.ite (ax6) (.need ((bH7 B)) (.ret 0 [aE7])) (.ret 0 [.va 0])) (.ret 0 [.va 0]))) (.ite (ax5) (.ite (ax6) (.need ((bH7 B)) (.ret 0 [aE7])) (.ret 0 [.va 0])) (.ret 0 [.va 0])))) (.ite (cb8) (.ite (cb9) (.need ((cD7 B)) (.ite (ax5) (.ite (ax6) (.need ((cD8 B)) (.ret 0 [bH4])) (.ret 0 [ak0])) (.ret 0 [ak0]))) (.ite (ax5) (.ite (ax6) (.need ((bH7 B)) (.ret 0 [aE7])) (.ret 0 [.va 0])) (.ret 0 [.va 0]))) (.ite (ax5) (.ite (ax6) (.need ((bH7 B)) (.ret 0 [aE7])) (.ret 0 [.va 0])) (.ret 0 [.va 0])))])))
def cV7:VT:= .ite (.op (.cmp .leq) [.va 2001,.va 2]) (.need (.app 424 [.va 2002,.va 1,.va 2000,.va 2001]) (.ret 0 [.va 2001,za (.va 2001) (.ci 20),.app 425 [.va 2002,.va 2000,.va 2001]])) (.ret 1 [.va 2000,.va 2001,.va 2002])
def cP4:VT:= .ite (.op (.cmp .leq) [.va 4001,.va 2]) (.need (.app 426 [.va 4002,.va 1,.va 4000,za (.va 4000) (.va 3000),.va 4001,.ci 512]) (.ret 0 [.va 4001,za (.va 4001) (.op (.ar .mul .i64) [.ci 2,.va 3000]),.app 425 [.va 4002,.va 4000,.va 4001]])) (.ret 1 [.va 4000,.va 4001,.va 4002])
def d64:VT:= .ite (zs (.va 3000) (.va 2)) (.loop ⟨469,[.ci 0,.op (.ar .mul .i64) [.ci 2,.va 3000],.va 3001],4000,[.va 1,.va 3001,.va 2,.va 3000]⟩ cP4 [.ite (zs (za (zo (.app 469 [.ci 0,.op (.ar .mul .i64) [.ci 2,.va 3000],.va 3001,.va 1,.va 3001,.va 2,.va 3000]) 0) (.va 3000)) (.va 2)) (.need (.app 426 [zo (.app 469 [.ci 0,.op (.ar .mul .i64) [.ci 2,.va 3000],.va 3001,.va 1,.va 3001,.va 2,.va 3000]) 2,.va 1,zo (.app 469 [.ci 0,.op (.ar .mul .i64) [.ci 2,.va 3000],.va 3001,.va 1,.va 3001,.va 2,.va 3000]) 0,za (zo (.app 469 [.ci 0,.op (.ar .mul .i64) [.ci 2,.va 3000],.va 3001,.va 1,.va 3001,.va 2,.va 3000]) 0) (.va 3000),.va 2,.ci 512]) (.ret 0 [.op (.ar .mul .i64) [.va 3000,.ci 2],.app 425 [zo (.app 469 [.ci 0,.op (.ar .mul .i64) [.ci 2,.va 3000],.va 3001,.va 1,.va 3001,.va 2,.va 3000]) 2,zo (.app 469 [.ci 0,.op (.ar .mul .i64) [.ci 2,.va 3000],.va 3001,.va 1,.va 3001,.va 2,.va 3000]) 0,.va 2]])) (.ret 0 [.op (.ar .mul .i64) [.va 3000,.ci 2],zo (.app 469 [.ci 0,.op (.ar .mul .i64) [.ci 2,.va 3000],.va 3001,.va 1,.va 3001,.va 2,.va 3000]) 2])]) (.ret 1 [.va 3000,.va 3001])
def bl1:SX:= .app 467 [.ci 0,.ci 20,.va 0,.va 1,.va 0,.va 2]
def bl2:SX:= zo bl1 2
def bl3:SX:= zo bl1 0
def ap7:SX:= .app 425 [bl2,bl3,.va 2]
def bH8:VT:= .loop ⟨467,[.ci 0,.ci 20,.va 0],2000,[.va 1,.va 0,.va 2]⟩ cV7 [.need (.app 424 [bl2,.va 1,bl3,.va 2]) (.loop ⟨468,[.ci 20,ap7],3000,[.va 1,ap7,.va 2]⟩ d64 [.ret 0 [zo (.app 468 [.ci 20,ap7,.va 1,ap7,.va 2]) 1]])]
def b73:VT:= .need (.app 428 [.va 0,zl 0,zl 0]) (.ret 0 [.app 425 [.va 0,.ci 0,zl 0]])
def aR5:SX:= .app 425 [.va 0,.ci 0,zl 0]
def ax7:VT:= .need (zn (zb (zl 0) 400) (.app 431 [.va 0])) (.need (.op (.cmp .eql) [zl 0,zL aR5]) (.ret 0 [aR5]))
def dp3:VT:= .ite (zs (.va 2001) (zl 0)) (.need (zp (.va 2001)) (.need (zs (.va 2001) (zl 1)) (.ite (.op .not [zn (zn (.op (.scmp .eql) [zg 0 2001 0,zg 1 2001 0]) (zn (.op (.cmp .eql) [zg 0 2001 1,zg 1 2001 1]) (.op (.cmp .eql) [zg 0 2001 2,zg 1 2001 2]))) (zn (.op (.cmp .eql) [zg 0 2001 3,zg 1 2001 3]) (zn (.op (.cmp .eql) [zg 0 2001 4,zg 1 2001 4]) (zn (.op (.cmp .eql) [zg 0 2001 5,zg 1 2001 5]) (.op (.cmp .eql) [zg 0 2001 6,zg 1 2001 6]))))]) (.ret 2 [.cb false,.va 2001]) (.ret 0 [.va 2000,zi (.va 2001)])))) (.ret 1 [.va 2000,.va 2001])
def b74:VT:= .ite (.op (.cmp .neq) [zl 0,zl 1]) (.ret 0 [.cb false]) (.loop ⟨107,[.cb false,.ci 0],2000,[.ci 0,zl 0,.va 0,.ci 0,zl 1,.va 1,zl 0]⟩ dp3 [.ret 0 [.cb true],.ret 0 [zo (.app 107 [.cb false,.ci 0,.ci 0,zl 0,.va 0,.ci 0,zl 1,.va 1,zl 0]) 0]])
end Go.Ev
