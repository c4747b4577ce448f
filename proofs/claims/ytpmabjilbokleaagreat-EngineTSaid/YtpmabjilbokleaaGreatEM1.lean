import Derived.Test.YtpmabjilbokleaaGreatE40
import Derived.Test.YtpmabjilbokleaaGreatE43
import Derived.Test.YtpmabjilbokleaaGreatE1
set_option linter.unusedSimpArgs false
set_option linter.unusedVariables false
namespace Go.Ev
open Go
abbrev zg(a b:Nat)(k:Int):SX:= .op .lget [.va a,.va b,.ci k]
abbrev zu(a b:Nat):SX:= .op .row [zg a b 0,zg a b 1,zg a b 2]
abbrev zv(a b:Nat):SX:= .op .row [zg a b 0,zg a b 1,zg a b 2,zg a b 3,zg a b 4,zg a b 5,zg a b 6]
abbrev zw(a b:Nat):SX:= .op .row [zg a b 0,zg a b 1,zg a b 2,zg a b 3,zg a b 4,zg a b 5,zg a b 6,zg a b 7]
abbrev zl(a:Nat):SX:= .op .llen [.va a]
abbrev zi(x:SX):SX:= .op (.ar .add .i64) [x,.ci 1]
abbrev zo(x:SX)(k:Int):SX:= .op .lget [x,.ci 1,.ci k]
abbrev zb(x:SX)(k:Int):SX:= .op (.cmp .leq) [x,.ci k]
abbrev zp(x:SX):SX:= .op (.cmp .leq) [.ci 0,x]
abbrev zs(x y:SX):SX:= .op (.cmp .lss) [x,y]
abbrev zh(x y:SX):SX:= .op (.conv .i64) [.op (.ar .shr .u64) [.op (.conv .u64) [.op (.ar .add .i64) [x,y]],.ci 1]]
abbrev za(x y:SX):SX:= .op (.ar .add .i64) [x,y]
abbrev ze(x:SX)(k:Int):SX:= .op (.cmp .eql) [x,.ci k]
abbrev zn(x y:SX):SX:= .op .and [x,y]
abbrev zt(x:SX)(k:Int):SX:= .op (.cmp .gtr) [x,.ci k]
abbrev zc(x y:SX):SX:= .op .lcat [x,y]
abbrev zL(x:SX):SX:= .op .llen [x]
abbrev zm(x y:SX):SX:= .op (.ar .sub .i64) [x,y]
theorem V9{step:List Val->Option (Nat×List Val)}{st:Nat->List Val}{n j:Nat}{p:List Val}(h1: ∀i,i<n->step (st i)=some (0,st (i+1)))(h2:step (st n)=some (j+1,p)):S5 step (st 0)=some (j,p):=by
 rw[W2];have: ∀k,k<=n->Iter step (st (n-k)) j p:=by
  intro k;induction k with
  |zero=>intro _;exact .out h2
  |succ k ih=>
   intro hk;have e:=h1 (n-(k+1)) (by omega);rw[show n-(k+1)+1=n-k by omega]at e;exact .more e (ih (by omega))
 have h:=this n (i6 _);grind
def fA(x:Val)(px:Nat->List Val)(bad:Nat->Bool)(n:Nat):Nat×List Val:=match(List.range n).find? bad with
 |some i=>(1,px i)
 |none=>(0,[x,.vi n])
theorem W6{bad:Nat->Bool}: ∀{n i:Nat},(List.range n).find? bad=some i->i<n/\bad i=true/\ ∀k,k<i->bad k=false:=by
 simp_all
theorem Ak{step:List Val->Option (Nat×List Val)}{x:Val}{px:Nat->List Val}{bad:Nat->Bool}{n:Nat}
 (h1: ∀i,i<n->bad i=false->step [x,.vi i]=some (0,[x,.vi (i+1:Nat)])) (h2: ∀i,i<n->bad i=true->step [x,.vi i]=some (2,px i))
 (h3:step [x,.vi n]=some (1,[x,.vi n])):S5 step [x,.vi (0:Int)]=some (fA x px bad n):=by
 unfold fA;split
 .rename_i i hi;obtain⟨a,b,c⟩:=W6 hi;exact V9 (st:=λi=>[x,.vi i]) (n:=i) (λk hk=>h1 k (by omega) (c k hk)) (h2 i a b)
 .exact V9 (st:=λi=>[x,.vi i]) (n:=n) (λk hk=>h1 k hk (by grind)) h3
theorem GU{x:Val}{px:Nat->List Val}{bad:Nat->Bool}{n:Nat}:fA x px bad n=if(List.range n).any bad then(1,px (((List.range n).find? bad).getD 0))else(0,[x,.vi n]):=by
 unfold fA;split
 .rename_i i hi;have:(List.range n).any bad=true:=by
   rw[O7];obtain⟨a,b,_⟩:=W6 hi;exact⟨i,m8.2 a,b⟩
  rw[this,hi];rfl
 .rename_i hn;have:(List.range n).any bad=false:=by
   rw[List.find?_range_eq_none]at hn;rw[O3];intro i hi;simpa using hn i (m8.1 hi)
  rw[this];rfl
def U4(g:Nat->List Val):Nat->List Val
 |0=>[]
 |n+1=>U4 g n++g n
theorem Y7{g:Nat->List Val}{m:Nat}(hg: ∀i,(g i).length<=m): ∀n,(U4 g n).length<=n*m
 |0=>by simp[U4]
 |n+1=>by
  have:=Y7 hg n;grind[U4,List.length_append,Nat.add_mul]
theorem nW(g:Nat->List Val): ∀n,U4 g n=(List.range n).flatMap g
 |0=>rfl
 |n+1=>by rw[U4,nW g n,O4,K4];simp
theorem Yk{α:Type}(q:α->Bool)(d:α): ∀(l:List α),((List.range l.length).any λi=>q (l.getD i d))=l.any q
 | []=>rfl
 |a::l=>by
  rw[List.length_cons,I3,List.any_cons,List.any_map];simp;rw[<-Yk q d l];congr 1
theorem Lb{α O:Type}(g:α->List O)(d:α): ∀(l:List α),((List.range l.length).flatMap λi=>g (l.getD i d))=l.flatMap g
 | []=>rfl
 |a::l=>by
  rw[List.length_cons,I3,B1,J1];simp;rw[<-Lb g d l];congr 1
theorem WO{α O:Type} [DecidableEq O](f:α->O)(d:α): ∀(l r:List α),l.length=r.length->((List.range l.length).any λi=> !decide (f (l.getD i d)=f (r.getD i d)))= !decide (l.map f=r.map f)
 | [],[],_=>by simp
 |a::l,b::r,h=>by
  rw[List.length_cons,I3,List.any_cons,List.any_map];have:=WO f d l r (by simpa using h);grind
 | [],_::_,h=>by simp at h
 |_::_,[],h=>by simp at h
theorem bZ7{n:Nat}(h:n<=10000000):IntKind.i64.wrap ((n:Int)+1)=((n+1:Nat):Int):=by
 grind[IntKind.wrap,IntKind.bits,IntKind.signed]
end Go.Ev
namespace Go.Ev
open Go
structure RowM where
 key:List UInt8
 a:Int
 b:Int
 c:Int
 d:Int
 e:Int
 f:Int
 deriving DecidableEq
structure PaneM where
 key:List UInt8
 a:Int
 b:Int
 deriving DecidableEq
def S1(r:Val)(j:Nat):Val:=r.toL.getD j default
def jP(r:Val):RowM:=⟨(S1 r 0).toS,(S1 r 1).toI,(S1 r 2).toI,(S1 r 3).toI,(S1 r 4).toI,(S1 r 5).toI,(S1 r 6).toI⟩
def R8(r:Val):PaneM:=⟨(S1 r 0).toS,(S1 r 1).toI,(S1 r 2).toI⟩
def aO(l:List Val)(i:Nat):Val:=l.getD i (.vl [])
def Hs(v:Val):List RowM:=v.toL.map jP
def aN(a:List Val)(i:Nat):Val:=a.getD i default
def CA{α:Type} [DecidableEq α](a b:α):Bool:=decide (a=b)
@[simp]theorem dJ4{α:Type} [DecidableEq α]{a b:α}:CA a b=true↔a=b:=decide_eq_true_iff
theorem cH3{α:Type} [DecidableEq α](a:α):CA a a=true:=dJ4.2 rfl
def Ey{α:Type} [DecidableEq α](m:Val->α)(l r:List Val):Val:=V0 (fA (.vb false) (λk=>[.vb false,.vi k]) (λi=> !decide (m (aO l i)=m (aO r i))) l.length)
def W3(r:Val):Val:= .vl [S1 r 0,S1 r 1,S1 r 2,S1 r 3,S1 r 4,S1 r 5,S1 r 6]
def cC(r:Val):Val:= .vl [S1 r 0,S1 r 1,S1 r 2]
theorem GB: ∀x:List UInt8,dH x x=false
 | []=>rfl
 |a::x=>by
  show(bif Nat.blt a.toNat a.toNat then true else bif Nat.beq a.toNat a.toNat then dH x x else false)=false;rw[GB x];have h1:Nat.blt a.toNat a.toNat=false:=by
   cases h:Nat.blt a.toNat a.toNat with
   |false=>rfl
   |true=>exact absurd (T4.1 h) (Nat.lt_irrefl _)
  grind
theorem Ug(a b:UInt8)(x y:List UInt8):dH (a::x) (b::y)=true↔a.toNat<b.toNat\/a=b/\dH x y=true:=by
 show(bif Nat.blt a.toNat b.toNat then true else bif Nat.beq a.toNat b.toNat then dH x y else false)=true↔_;grind[T4,UInt8.toNat_inj,R2]
theorem MN: ∀{x y z:List UInt8},dH x y=true->dH y z=true->dH x z=true
 |_,[],[],_,h=>by cases h
 |_,_::_,[],_,h=>by cases h
 | [],[],_,h,_=>by cases h
 |_::_,[],_,h,_=>by cases h
 | [],_::_,_::_,_,_=>rfl
 |a::x,b::y,c::z,h1,h2=>by
  rw[Ug]at*
  rcases h1 with h1|⟨rfl,h1⟩<;>rcases h2 with h2|⟨rfl,h2⟩
  .omega
  .omega
  .omega
  .exact .inr ⟨rfl,MN h1 h2⟩
theorem Hy: ∀{x y:List UInt8},dH x y=false->dH y x=false->x=y
 | [],[],_,_=>rfl
 | [],_::_,h,_=>by cases h
 |_::_,[],_,h=>by cases h
 |a::x,b::y,h1,h2=>by
  rw[<-A3,Ug]at h1 h2;have hab:a=b:=UInt8.toNat_inj.1 (by omega);subst hab;have:=Hy (x:=x) (y:=y) (by grind) (by grind);rw[this]
noncomputable def gM(p q:PaneM):Bool:=fX p.key q.key||decide (p.key=q.key)&&(decide (p.b<q.b)||decide (p.b=q.b)&&decide (p.a<q.a))
noncomputable def Bw(p q:PaneM):Int:=if fX p.key q.key then-1 else if fX q.key p.key then 1 else if p.b<q.b then-1 else if q.b<p.b then 1 else if p.a<q.a then-1 else if q.a<p.a then 1 else 0
theorem Hg(p q:PaneM):gM p q=true↔dH p.key q.key=true\/p.key=q.key/\(p.b<q.b\/p.b=q.b/\p.a<q.a):=by
 simp_all[gM,fX,p8,j7,decide_eq_true_eq]
theorem aI0(p:PaneM):gM p p=false:=by
 rw[<-A3,Hg,GB];simp
theorem aV1{p q r:PaneM}(h1:gM p q=true)(h2:gM q r=true):gM p r=true:=by
 grind[Hg,MN]
theorem WL{p q:PaneM}(h1:gM p q=false)(h2:gM q p=false):p=q:=by
 rw[<-A3,Hg]at h1 h2;obtain⟨a1,a2⟩:=not_or.1 h1;obtain⟨b1,b2⟩:=not_or.1 h2;have hk:=Hy (by rwa[<-A3]) (by rwa[<-A3]) (x:=p.key) (y:=q.key);obtain⟨k,a,b⟩:=p;obtain⟨k',a',b'⟩:=q;grind
theorem cH5(p q:PaneM):Bw p q<0↔gM p q=true:=by
 rw[Hg];unfold Bw fX;cases h1:dH p.key q.key with
 |true=>simp
 |false=>
  cases h2:dH q.key p.key with
  |true=>
   grind
  |false=>
   have hk:=Hy h1 h2;grind
theorem Xb{p q:PaneM}(h:gM p q=true):gM q p=false:=by
 grind[aV1,aI0]
theorem aI1{p q r:PaneM}(h1:gM p q=false)(h2:gM q r=false):gM p r=false:=by
 grind[gM,aV1,WL]
noncomputable def wV(a b:Val):Bool:=gM (R8 a) (R8 b)
def Zy(r:Val):Val:= .vl [S1 r 0,S1 r 1,S1 r 2,S1 r 3,S1 r 4,S1 r 5,S1 r 6,S1 r 7]
noncomputable def dW(x:Val):List Val->List Val
 | []=>[x]
 |y::r=>if wV x y then y::dW x r else x::y::r
noncomputable def ju(l:List Val):Nat->List Val
 |0=>[]
 |i+1=>dW (Zy (aO l i)) (ju l i)
theorem vB(x:Val): ∀s:List Val,(dW x s).Perm (x::s)
 | []=> .refl _
 |y::r=>by
  unfold dW;split
  .exact((vB x r).cons y).trans (.swap x y r)
  rfl
theorem QK(l:List Val): ∀i,(ju l i).Perm ((List.range i).map λk=>Zy (aO l k))
 |0=> .refl _
 |i+1=>by
  rw[O4,u4];exact(vB _ _).trans (((QK l i).cons _).trans (List.perm_append_singleton _ _).symm)
theorem Bt(x:Val): ∀s:List Val,s.Pairwise (λa b=>wV a b=false)->(dW x s).Pairwise (λa b=>wV a b=false)
 | [],_=>by simp[dW]
 |y::r,h=>by
  unfold dW;rw[y9]at h;split
  .rename_i hl;rw[y9];refine⟨λz hz=> ?_,Bt x r h.2⟩;rcases m7.1 ((vB x r).mem_iff.1 hz)with rfl|hz
   .exact Xb hl
   grind
  .have hl:wV x y=false:=by grind
   rw[y9,y9];refine⟨λz hz=> ?_,h⟩;rcases m7.1 hz with rfl|hz
   .exact hl
   .exact aI1 hl (h.1 z hz)
theorem Kr(l:List Val): ∀i,(ju l i).Pairwise (λa b=>wV a b=false)
 |0=> .nil
 |i+1=>Bt _ _ (Kr l i)
theorem Vl{α O:Type}{f:α->O}: ∀{l:List α},(l.map f).Nodup-> ∀{a b:α},a∈l->b∈l->f a=f b->a=b
 | [],_,a,b,ha,_,_=>by cases ha
 |x::l,h,a,b,ha,hb,e=>by
  rw[n9,C8]at h;rcases m7.1 ha with h1|h1<;>rcases m7.1 hb with h2|h2
  .grind
  .grind
  .grind
  .exact Vl h.2 h1 h2 e
end Go.Ev
namespace Go.Ev.Tb
def isR(g:Int)(T:Int->Prop)(s e:Int):Prop:=T s/\T (e-g)/\s<=e-g/\ ∀t,T t->s<=t->t<e-g-> ∃t',T t'/\t<t'/\t'<t+g
def isS(g:Int)(T:Int->Prop)(s e:Int):Prop:=isR g T s e/\(∀t,T t->s-g<t->t<s->False)/\(∀t,T t->e-g<t->t<e->False)
def lap(s e s' e':Int):Prop:=s<e'/\s'<e
theorem isR.up{g:Int}{T:Int->Prop}{s e:Int}(h:isR g T s e)(y:Int)(h2:y<e-g): ∀(n:Nat) (x:Int),(y-x).toNat<=n->T x->s<=x->x<=y-> ∃x',T x'/\y<x'/\x'<y+g
 |n,x,hn,hx,h3,h4=>by
  obtain⟨x',a1,a2,a3⟩:=h.2.2.2 x hx h3 (by omega);by_cases hy:y<x'
  .exact⟨x',a1,hy,by omega⟩
  .cases n with
   |zero=>omega
   |succ n=>exact isR.up h y h2 n x' (by omega) a1 (by omega) (by omega)
theorem isR.next{g:Int}{T:Int->Prop}{s e:Int}(h:isR g T s e){y:Int}(h1:s<=y)(h2:y<e-g): ∃x',T x'/\y<x'/\x'<y+g:=
 h.up y h2 (y-s).toNat s (i6 _) h.1 (u9 _) h1
theorem isR.down{g:Int}{T:Int->Prop}{s e:Int}(h:isR g T s e)(y:Int)(h2:y<=e-g): ∀(n:Nat) (x:Int),(y-x).toNat<=n->T x->s<=x->x<y-> ∃x',T x'/\y-g<x'/\x'<y
 |n,x,hn,hx,h3,h4=>by
  obtain⟨x',a1,a2,a3⟩:=h.2.2.2 x hx h3 (by omega);by_cases hy:y<=x'
  .exact⟨x,hx,by omega,h4⟩
  .cases n with
   |zero=>omega
   |succ n=>exact isR.down h y h2 n x' (by omega) a1 (by omega) (by omega)
theorem isR.prev{g:Int}{T:Int->Prop}{s e:Int}(h:isR g T s e){y:Int}(h1:s<y)(h2:y<=e-g): ∃x',T x'/\y-g<x'/\x'<y:=
 h.down y h2 (y-s).toNat s (i6 _) h.1 (u9 _) h1
theorem isS.inn{g:Int}{T:Int->Prop}{s e s' e':Int}(h:isS g T s e)(h':isR g T s' e')(hl:lap s e s' e'):s<=s'/\e'<=e:=by
 obtain⟨l1,l2⟩:=hl;refine⟨?_,?_⟩
 .refine C9.1 λhc=> ?_
  by_cases hq:s<=e'-g
  .obtain⟨x,a1,a2,a3⟩:=h'.prev hc hq;exact h.2.1 x a1 a2 a3
  .exact h.2.1 (e'-g) h'.2.1 (by omega) (by omega)
 .refine C9.1 λhc=> ?_
  by_cases hq:s'<=e-g
  .obtain⟨x,a1,a2,a3⟩:=h'.next hq (by omega)
   exact h.2.2 x a1 a2 (by omega)
  .exact h.2.2 s' h'.1 (by omega) (by omega)
theorem isS.one{g:Int}{T:Int->Prop}{s e s' e':Int}(h:isS g T s e)(h':isS g T s' e')(hl:lap s e s' e'):s=s'/\e=e':=by
 have a:=h.inn h'.1 hl;have b:=h'.inn h.1 ⟨hl.2,hl.1⟩;omega
theorem isR.join{g:Int}{T:Int->Prop}{s e s' e':Int}(h:isR g T s e)(h':isR g T s' e')(hl:lap s e s' e'):isR g T (min s s') (max e e'):=by
 obtain⟨l1,l2⟩:=hl;have b:=h.2.2.1;have e1:min s s'=s\/min s s'=s':=by omega
 have e2:max e e'=e\/max e e'=e':=by omega
 refine⟨?_,?_,by omega,λt ht h1 h2=> ?_⟩
 .rcases e1 with q|q<;>rw[q]
  .exact h.1
  .exact h'.1
 .rcases e2 with q|q<;>rw[q]
  .exact h.2.1
  .exact h'.2.1
 .by_cases c1:s<=t/\t<e-g
  .exact h.2.2.2 t ht c1.1 c1.2
  .by_cases c2:s'<=t/\t<e'-g
   .exact h'.2.2.2 t ht c2.1 c2.2
   .by_cases c3:t<s
    .exact⟨s,h.1,c3,by omega⟩
    .exact⟨s',h'.1,by omega,by omega⟩
theorem isR.mono{g:Int}{T T':Int->Prop}{s e:Int}(h:isR g T s e)(hT: ∀x,T x->T' x)(hn: ∀t,T' t->s<=t->t<e-g->T t):isR g T' s e:=
 ⟨hT _ h.1,hT _ h.2.1,h.2.2.1,λt ht h1 h2=>by
  obtain⟨x,a1,a2,a3⟩:=h.2.2.2 t (hn t ht h1 h2) h1 h2;grind⟩
theorem isR.more{g:Int}{T T':Int->Prop}{s e:Int}(t:Int)(h:isR g T s e)(hT: ∀x,T' x↔T x\/x=t):isR g T' s e:=
 ⟨(hT _).2 (.inl h.1),(hT _).2 (.inl h.2.1),h.2.2.1,λx hx h1 h2=>by
   obtain⟨x',a1,a2,a3⟩:=h.next h1 h2
   grind⟩
theorem isR.own{g:Int}{T:Int->Prop}(t:Int)(ht:T t):isR g T t (t+g):=
 ⟨ht,by grind,by omega,λx _ h1 h2=>by omega⟩
def nowOf:Int->Int->List (Int×Int)->Int×Int
 |a,b,[]=>(a,b)
 |a,b,(s,e)::l=>nowOf (min a s) (max b e) l
def lapB(s e s' e':Int):Bool:=decide (s<e')&&decide (s'<e)
theorem qW{s e s' e':Int}:lapB s e s' e'=true↔lap s e s' e':=by simp[lapB,lap]
def joinedOf(g t:Int)(l:List (Int×Int)):List (Int×Int):=l.filter λp=>lapB p.1 p.2 t (t+g)
def nP(g t:Int)(l:List (Int×Int)):List (Int×Int):=l.filter λp=> !lapB p.1 p.2 t (t+g)
theorem Sq{g:Int}{T:Int->Prop}: ∀(l:List (Int×Int)) (a b:Int),(∀p∈l,isR g T p.1 p.2/\lap p.1 p.2 a b)->isR g T a b->isR g T (nowOf a b l).1 (nowOf a b l).2
 | [],a,b,h,h0=>h0
 |(s,e)::l,a,b,h,h0=>by
  have q:=h (s,e) (C4 ..);refine Sq l _ _ (λp hp=>⟨(h p (y5 _ hp)).1,?_⟩) (h0.join q.1 ⟨q.2.2,q.2.1⟩);have r:=(h p (y5 _ hp)).2;exact⟨by have:=r.1;omega,by have:=r.2;omega⟩
theorem zK: ∀(l:List (Int×Int)) (a b:Int),(nowOf a b l).1<=a/\b<=(nowOf a b l).2/\ ∀p∈l,(nowOf a b l).1<=p.1/\p.2<=(nowOf a b l).2
 | [],a,b=>⟨u9 _,u9 _,λp hp=>absurd hp (E6)⟩
 |(s,e)::l,a,b=>by
  obtain⟨q1,q2,q3⟩:=zK l (min a s) (max b e);refine⟨by grind[nowOf,min,max],by grind[nowOf,min,max],λp hp=> ?_⟩;rcases m7.1 hp with rfl|hp
  .grind[nowOf,min,max]
  .exact q3 p hp
theorem ZD: ∀(l:List (Int×Int)) (a b:Int),((nowOf a b l).1=a\/ ∃p∈l,(nowOf a b l).1=p.1)/\((nowOf a b l).2=b\/ ∃p∈l,(nowOf a b l).2=p.2)
 | [],a,b=>⟨.inl rfl,.inl rfl⟩
 |(s,e)::l,a,b=>by
  obtain⟨q1,q2⟩:=ZD l (min a s) (max b e);grind[nowOf,min,max,List.mem_cons_self,List.mem_cons_of_mem]
def Ses(g:Int)(T:Int->Prop)(l:List (Int×Int)):Prop:=(∀s e,(s,e)∈l↔isS g T s e)/\ ∀t,T t-> ∃p∈l,p.1<=t/\t+g<=p.2
theorem d66(g:Int){T:Int->Prop}(hT: ∀x,¬T x):Ses g T []:=
 ⟨λs e=>⟨λh=>absurd h (E6),λh=>absurd h.1.1 (hT _)⟩,λt h=>absurd h (hT t)⟩
theorem NC{g:Int}(hg:0<g){T T':Int->Prop}{l:List (Int×Int)}(t:Int)(h:Ses g T l)(hT: ∀x,T' x↔T x\/x=t):
 isS g T' (nowOf t (t+g) (joinedOf g t l)).1 (nowOf t (t+g) (joinedOf g t l)).2/\
 ∀s e,isS g T' s e↔(s,e)∈nP g t l\/(s,e)=nowOf t (t+g) (joinedOf g t l):=by
 have hj: ∀p,p∈joinedOf g t l↔p∈l/\lap p.1 p.2 t (t+g):=λp=>by rw[joinedOf,n7,qW]
 have hr: ∀p,p∈nP g t l↔p∈l/\ ¬lap p.1 p.2 t (t+g):=λp=>by
  rw[nP,n7,<-qW];simp
 generalize hJ:joinedOf g t l=J at hj;obtain⟨n1,n2,n3⟩:=zK J t (t+g);obtain⟨m1,m2⟩:=ZD J t (t+g);have hrun:isR g T' (nowOf t (t+g) J).1 (nowOf t (t+g) J).2:=Sq J t (t+g) (λp hp=>⟨isR.more t ((h.1 p.1 p.2).1 ((hj p).1 hp).1).1 hT,((hj p).1 hp).2⟩) (isR.own t ((hT t).2 (.inr rfl)));generalize nowOf t (t+g) J=N at n1 n2 n3 m1 m2 hrun;have hjoin: ∀p,p∈l->lap p.1 p.2 t (t+g)->N.1<=p.1/\p.2<=N.2:=λp h1 h2=>n3 p ((hj p).2 ⟨h1,h2⟩)
 have hS:isS g T' N.1 N.2:=by
  refine⟨hrun,λx hx h1 h2=> ?_,λx hx h1 h2=> ?_⟩
  .rcases(hT x).1 hx with hx|rfl
   .rcases m1 with q|⟨p,hp,q⟩
    .obtain⟨p,a1,a2,a3⟩:=h.2 x hx;have:=hjoin p a1 ⟨by omega,by omega⟩;omega
    .exact((h.1 p.1 p.2).1 ((hj p).1 hp).1).2.1 x hx (by omega) (by omega)
   .omega
  .rcases(hT x).1 hx with hx|rfl
   .rcases m2 with q|⟨p,hp,q⟩
    .obtain⟨p,a1,a2,a3⟩:=h.2 x hx;have:=hjoin p a1 ⟨by omega,by omega⟩;omega
    .exact((h.1 p.1 p.2).1 ((hj p).1 hp).1).2.2 x hx (by omega) (by omega)
   .omega
 refine⟨hS,λs e=>⟨λhs=> ?_,λhs=> ?_⟩⟩
 .by_cases hl:lap s e N.1 N.2
  .exact .inr (by
    have:=hs.one hS hl;exact Prod.ext this.1 this.2)
  .have hno: ¬lap s e t (t+g):=λ⟨a,b⟩=>hl ⟨by omega,by omega⟩
   refine .inl ((hr (s,e)).2 ⟨(h.1 s e).2 ?_,hno⟩);have b:=hs.1.2.2.1;refine⟨⟨?_,?_,b,λx hx h1 h2=> ?_⟩,λx hx=>hs.2.1 x ((hT x).2 (.inl hx)),λx hx=>hs.2.2 x ((hT x).2 (.inl hx))⟩
   .rcases(hT s).1 hs.1.1 with a|a
    .exact a
    .exact absurd ⟨by omega,by omega⟩ hno
   .rcases(hT _).1 hs.1.2.1 with a|a
    .exact a
    .exact absurd ⟨by omega,by omega⟩ hno
   .obtain⟨x',a1,a2,a3⟩:=hs.1.2.2.2 x ((hT x).2 (.inl hx)) h1 h2;rcases(hT x').1 a1 with a|a
    .exact⟨x',a,a2,a3⟩
    .exact absurd ⟨by omega,by omega⟩ hno
 .rcases hs with hs|hs
  .obtain⟨a1,a2⟩:=(hr (s,e)).1 hs;have q:=(h.1 s e).1 a1;have b:=q.1.2.2.1;refine⟨isR.more t q.1 hT,λx hx h1 h2=> ?_,λx hx h1 h2=> ?_⟩
   .rcases(hT x).1 hx with c|c
    .exact q.2.1 x c h1 h2
    .exact a2 ⟨by omega,by omega⟩
   .rcases(hT x).1 hx with c|c
    .exact q.2.2 x c h1 h2
    .exact a2 ⟨by omega,by omega⟩
  .rw[<-hs]at hS;exact hS
theorem KL{g:Int}(hg:0<g){T T':Int->Prop}{l m:List (Int×Int)}(t:Int)(h:Ses g T l)(hT: ∀x,T' x↔T x\/x=t)
 (hm: ∀p,p∈m↔p∈nP g t l\/p=nowOf t (t+g) (joinedOf g t l)):Ses g T' m:=by
 obtain⟨h1,h2⟩:=NC hg t h hT;obtain⟨n1,n2,n3⟩:=zK (joinedOf g t l) t (t+g);refine⟨λs e=>by rw[hm,h2],λx hx=> ?_⟩;rcases(hT x).1 hx with a|a
 .obtain⟨p,b1,b2,b3⟩:=h.2 x a;by_cases c:lap p.1 p.2 t (t+g)
  .have:=n3 p (by rw[joinedOf,n7,qW];exact⟨b1,c⟩);exact⟨_,(hm _).2 (.inr rfl),by omega,by omega⟩
  .exact⟨p,(hm _).2 (.inl (by rw[nP,n7,A6,<-A3,qW];exact⟨b1,c⟩)),b2,b3⟩
 grind
theorem ses_runs{g:Int}(hg:0<g){T:Int->Prop}{l:List (Int×Int)}(h1: ∀p∈l,isR g T p.1 p.2)(h2: ∀t,T t-> ∃p∈l,p.1<=t/\t+g<=p.2)
 (h3: ∀p∈l,∀q∈l,lap p.1 p.2 q.1 q.2->p=q):Ses g T l:=by
 have hs: ∀p∈l,isS g T p.1 p.2:=λp hp=>by
  have b:=(h1 p hp).2.2.1;refine⟨h1 p hp,λx hx a1 a2=> ?_,λx hx a1 a2=> ?_⟩
  .obtain⟨q,c1,c2,c3⟩:=h2 x hx;have:=h3 p hp q c1 ⟨by omega,by omega⟩;subst this;omega
  .obtain⟨q,c1,c2,c3⟩:=h2 x hx;have:=h3 p hp q c1 ⟨by omega,by omega⟩;subst this;omega
 refine⟨λs e=>⟨λh=>hs (s,e) h,λh=> ?_⟩,h2⟩;obtain⟨q,c1,c2,c3⟩:=h2 s h.1.1;have b:=h.1.2.2.1;have:=h.one (hs q c1) ⟨by omega,by omega⟩;grind
end Go.Ev.Tb
namespace Go.Ev.Tb
abbrev Ag:=Int×Int×Int×Int
def sumI:List Int->Int
 | []=>0
 |x::l=>x+sumI l
def minI:List Int->Int
 | []=>0
 |x::l=>l.foldl min x
def maxI:List Int->Int
 | []=>0
 |x::l=>l.foldl max x
def agOf(l:List Int):Ag:=((l.length:Int),sumI l,minI l,maxI l)
theorem ck4: ∀(l:List Int) (x:Int),l.foldl min x<=x/\(∀y∈l,l.foldl min x<=y)/\(l.foldl min x=x\/l.foldl min x∈l)
 | [],x=>⟨u9 _,λy h=>absurd h (E6),.inl rfl⟩
 |a::l,x=>by
  obtain⟨h1,h2,h3⟩:=ck4 l (min x a);refine⟨by show l.foldl min (min x a)<=x;omega,λy hy=> ?_,?_⟩
  .rcases m7.1 hy with rfl|hy
   .show l.foldl min (min x y)<=y;omega
   .exact h2 y hy
  grind
theorem Rs: ∀(l:List Int) (x:Int),x<=l.foldl max x/\(∀y∈l,y<=l.foldl max x)/\(l.foldl max x=x\/l.foldl max x∈l)
 | [],x=>⟨u9 _,λy h=>absurd h (E6),.inl rfl⟩
 |a::l,x=>by
  obtain⟨h1,h2,h3⟩:=Rs l (max x a);refine⟨by show x<=l.foldl max (max x a);omega,λy hy=> ?_,?_⟩
  .rcases m7.1 hy with rfl|hy
   .show y<=l.foldl max (max x y);omega
   .exact h2 y hy
  grind
theorem minI_spec{l:List Int}(h:l≠[]):minI l∈l/\ ∀x∈l,minI l<=x:=by
 match l,h with
 |a::l,_=>
  obtain⟨h1,h2,h3⟩:=ck4 l a;refine⟨?_,λx hx=> ?_⟩
  .rcases h3 with h|h
   .exact m7.2 (.inl h)
   .exact y5 _ h
  .rcases m7.1 hx with rfl|hx
   .exact h1
   .exact h2 x hx
theorem maxI_spec{l:List Int}(h:l≠[]):maxI l∈l/\ ∀x∈l,x<=maxI l:=by
 match l,h with
 |a::l,_=>
  obtain⟨h1,h2,h3⟩:=Rs l a;refine⟨?_,λx hx=> ?_⟩
  .rcases h3 with h|h
   .exact m7.2 (.inl h)
   .exact y5 _ h
  .rcases m7.1 hx with rfl|hx
   .exact h1
   .exact h2 x hx
theorem UC{l:List Int}{m:Int}(h1:m∈l)(h2: ∀x∈l,m<=x):minI l=m:=by
 grind[minI_spec,List.ne_nil_of_mem,Int.le_antisymm]
theorem Wn{l:List Int}{m:Int}(h1:m∈l)(h2: ∀x∈l,x<=m):maxI l=m:=by
 grind[maxI_spec,List.ne_nil_of_mem,Int.le_antisymm]
theorem sumI_app: ∀a b:List Int,sumI (a++b)=sumI a+sumI b
 | [],b=>by simp[sumI]
 |x::a,b=>by show x+sumI (a++b)=x+sumI a+sumI b;rw[sumI_app a b];omega
theorem ck8{a b:List Int}(h:a.Perm b):sumI a=sumI b:=by
 induction h with
 |nil=>rfl
 |cons x _ ih=>show x+_=x+_;rw[ih]
 |swap x y l=>grind[sumI]
 |trans _ _ h1 h2=>omega
theorem UB{a b:List Int}(h:a.Perm b):agOf a=agOf b:=by
 by_cases hb:b=[]
 .simp_all
 .obtain⟨m1,m2⟩:=minI_spec hb;obtain⟨x1,x2⟩:=maxI_spec hb;unfold agOf;rw[h.length_eq,ck8 h,UC (h.mem_iff.2 m1) (λx hx=>m2 x (h.mem_iff.1 hx)),Wn (h.mem_iff.2 x1) (λx hx=>x2 x (h.mem_iff.1 hx))]
def ag2(a b:Ag):Ag:=(a.1+b.1,a.2.1+b.2.1,min a.2.2.1 b.2.2.1,max a.2.2.2 b.2.2.2)
theorem Yc{a b:List Int}(ha:a≠[])(hb:b≠[]):agOf (a++b)=ag2 (agOf a) (agOf b):=by
 obtain⟨m1,m2⟩:=minI_spec ha;obtain⟨m3,m4⟩:=minI_spec hb;obtain⟨x1,x2⟩:=maxI_spec ha;obtain⟨x3,x4⟩:=maxI_spec hb;have e1:minI (a++b)=min (minI a) (minI b):=UC (by
  grind) (λx hx=>by
  grind)
 have e2:maxI (a++b)=max (maxI a) (maxI b):=Wn (by
  grind) (λx hx=>by
  grind)
 show(((a++b).length:Int),sumI (a++b),minI (a++b),maxI (a++b))=_;rw[e1,e2,sumI_app,l5,Int.natCast_add];rfl
def agAll:List Ag->Ag
 | []=>(0,0,0,0)
 |a::l=>l.foldl ag2 a
theorem cR0{α:Type}(f:α->List Int): ∀(l:List α) (a:List Int),a≠[]->(∀x∈l,f x≠[])->(l.map λx=>agOf (f x)).foldl ag2 (agOf a)=agOf (a++l.flatMap f)
 | [],a,ha,h=>by simp
 |x::l,a,ha,h=>by
  show(l.map λx=>agOf (f x)).foldl ag2 (ag2 (agOf a) (agOf (f x)))=_;rw[<-Yc ha (h x (C4 ..)),cR0 f l (a++f x) (by simp[ha]) (λy hy=>h y (y5 _ hy)),B1,y8]
theorem bo9{α:Type}(p q:α->Bool): ∀l:List α,(∀x∈l,p x=true->q x=true->False)->(l.filter λx=>p x||q x).Perm (l.filter p++l.filter q)
 | [],h=>M4 _
 |x::l,h=>by
  have ih:=bo9 p q l (λy hy=>h y (y5 _ hy));rw[x7,x7 (p:=p),x7 (p:=q)];cases hp:p x<;>cases hq:q x<;>simp only[Bool.or_false,Bool.or_true,n5,if_true,if_false,Bool.or_self]
  .exact ih
  .exact(List.Perm.cons x ih).trans List.perm_middle.symm
  .exact List.Perm.cons x ih
  grind
theorem b47{α O:Type}(f:O->α->Bool)(l:List α): ∀J:List O,J.Pairwise (λa b=> ∀x∈l,f a x=true->f b x=true->False)->(l.filter λx=>J.any λp=>f p x).Perm (J.flatMap λp=>l.filter (f p))
 | [],h=>by simp
 |p::J,h=>by
  obtain⟨h1,h2⟩:=y9.1 h;have:=bo9 (f p) (λx=>J.any λp=>f p x) l (λx hx a b=>by
   grind)
  exact this.trans (P9 _ (b47 f l J h2))
end Go.Ev.Tb
namespace Go.Ev.Tb
variable{K:Type} [DecidableEq K]
inductive Wd
 |ses (g:Int)
 |win (P:Int->Int->Prop)
abbrev Evt(K:Type):=K×Int×Int
def tms(l:List (Evt K))(k:K)(t:Int):Prop:= ∃x∈l,x.1=k/\x.2.1=t
def inP(k:K)(s e:Int)(x:Evt K):Bool:=decide (x.1=k)&&decide (s<=x.2.1)&&decide (x.2.1<e)
theorem inP_iff{k:K}{s e:Int}{x:Evt K}:inP k s e x=true↔x.1=k/\s<=x.2.1/\x.2.1<e:=by simp[inP,and_assoc]
def vals(l:List (Evt K))(k:K)(s e:Int):List Int:=(l.filter (inP k s e)).map (·.2.2)
def Pan:Wd->List (Evt K)->K->Int->Int->Prop
 | .ses g,l,k,s,e=>isS g (tms l k) s e
 | .win P,l,k,s,e=>P s e/\ ∃t,tms l k t/\s<=t/\t<e
def Tab(W:Wd)(l:List (Evt K))(M:K->Int->Int->Option Ag):Prop:= ∀k s e a,M k s e=some a↔Pan W l k s e/\a=agOf (vals l k s e)
theorem Tab.none{W:Wd}{l:List (Evt K)}{M:K->Int->Int->Option Ag}(h:Tab W l M){k:K}{s e:Int}:M k s e=none↔ ¬Pan W l k s e:=by
 cases hm:M k s e with
 |none=>exact⟨λ_ hp=>(by have:=(h k s e _).2 ⟨hp,rfl⟩;grind),λ_=>rfl⟩
 |some a=>exact⟨λx=>(by cases x),λx=>absurd ((h k s e a).1 hm).1 x⟩
theorem Tab.uniq{W:Wd}{l:List (Evt K)}{M M':K->Int->Int->Option Ag}(h:Tab W l M)(h':Tab W l M')(k:K)(s e:Int):M k s e=M' k s e:=by
 cases hm:M' k s e with
 |none=>exact h.none.2 (h'.none.1 hm)
 |some a=>exact(h k s e a).2 ((h' k s e a).1 hm)
omit [DecidableEq K]in
theorem tms_app(l:List (Evt K))(o:Evt K)(k:K)(t:Int):tms (l++[o]) k t↔tms l k t\/(o.1=k/\t=o.2.1):=by
 constructor
 .rintro⟨x,hx,h1,h2⟩;rcases t7.1 hx with h|h
  .exact .inl ⟨x,h,h1,h2⟩
  grind
 .rintro(⟨x,hx,h1,h2⟩|⟨h1,h2⟩)
  .exact⟨x,t7.2 (.inl hx),h1,h2⟩
  .exact⟨o,t7.2 (.inr (m9.2 rfl)),h1,h2.symm⟩
theorem vals_app(l:List (Evt K))(o:Evt K)(k:K)(s e:Int):vals (l++[o]) k s e=vals l k s e++(if inP k s e o then [o.2.2]else []):=by
 unfold vals;cases h:inP k s e o<;>simp[x7,h]
theorem ck9{l m:List (Evt K)}(h:l.Perm m)(k:K)(s e:Int):(vals l k s e).Perm (vals m k s e):=(h.filter _).map _
omit [DecidableEq K]in
theorem cH6{l m:List (Evt K)}(h:l.Perm m)(k:K):tms l k=tms m k:=by
 funext t;exact propext ⟨λ⟨x,a,b⟩=>⟨x,h.mem_iff.1 a,b⟩,λ⟨x,a,b⟩=>⟨x,h.mem_iff.2 a,b⟩⟩
theorem Tab.perm{W:Wd}{l m:List (Evt K)}{M:K->Int->Int->Option Ag}(h:Tab W l M)(hp:l.Perm m):Tab W m M:=λk s e a=>by
 rw[h k s e a,UB (ck9 hp k s e)];cases W<;>simp only[Pan,cH6 hp k]
theorem YS{l:List (Evt K)}{k:K}{s e t:Int}(h:tms l k t)(h1:s<=t)(h2:t<e):vals l k s e≠[]:=by
 obtain⟨x,a,b,c⟩:=h;exact P8 (j8.2 ⟨x,n7.2 ⟨a,inP_iff.2 ⟨b,by omega,by omega⟩⟩,rfl⟩)
theorem cH7{l:List (Evt K)}{k:K}{s e:Int}(h: ∀t,tms l k t->s<=t->t<e->False):vals l k s e=[]:=by
 unfold vals;rw[O9.2 λx hx hc=> ?_,K9];obtain⟨a,b,c⟩:=inP_iff.1 hc;exact h _ ⟨x,hx,a,rfl⟩ b c
theorem Pan.ne{W:Wd}{l:List (Evt K)}{k:K}{s e:Int}(hg: ∀g,W= .ses g->0<g)(h:Pan W l k s e):vals l k s e≠[]:=by
 cases W with
 |ses g=>exact YS h.1.1 (u9 _) (by have:=h.1.2.2.1;grind)
 |win P=>obtain⟨_,t,a,b,c⟩:=h;exact YS a b c
theorem tab_nil(W:Wd):Tab W ([]:List (Evt K)) (λ_ _ _=>none):=λk s e a=>by
 refine⟨λh=>(by cases h),λh=> ?_⟩;cases W with
 |ses g=>obtain⟨x,hx,_⟩:=h.1.1.1;cases hx
 |win P=>obtain⟨_,t,⟨x,hx,_⟩,_⟩:=h.1;cases hx
def putA(a:Option Ag)(v:Int):Ag:=match a with|none=>agOf [v]|some a=>ag2 a (agOf [v])
theorem tab_win{P:Int->Int->Prop}{l:List (Evt K)}{M M':K->Int->Int->Option Ag}(o:Evt K)(h:Tab (.win P) l M)
 (h1: ∀k s e,(k=o.1/\P s e/\s<=o.2.1/\o.2.1<e)->M' k s e=some (putA (M k s e) o.2.2))
 (h2: ∀k s e,¬(k=o.1/\P s e/\s<=o.2.1/\o.2.1<e)->M' k s e=M k s e):Tab (.win P) (l++[o]) M':=by
 intro k s e a;by_cases c:k=o.1/\P s e/\s<=o.2.1/\o.2.1<e
 .obtain⟨rfl,hP,c1,c2⟩:=c;have hin:inP o.1 s e o=true:=inP_iff.2 ⟨rfl,c1,c2⟩;have hp:Pan (.win P) (l++[o]) o.1 s e:=⟨hP,o.2.1,(tms_app ..).2 (.inr ⟨rfl,rfl⟩),c1,c2⟩;have hv:putA (M o.1 s e) o.2.2=agOf (vals (l++[o]) o.1 s e):=by
   rw[vals_app,e8 hin];cases hm:M o.1 s e with
   |none=>
    have hn:=h.none.1 hm;rw[cH7 λt a b c=>hn ⟨hP,t,a,b,c⟩];rfl
   |some b=>
    obtain⟨q1,q2⟩:=(h _ _ _ _).1 hm;rw[Yc (Pan.ne (λg hg=>by cases hg) q1) (by simp),<-q2];rfl
  grind
 .rw[h2 k s e c,h k s e a];have hpan:Pan (.win P) (l++[o]) k s e↔Pan (.win P) l k s e:=by
   constructor
   .rintro⟨hP,t,a,b,d⟩;rcases(tms_app ..).1 a with a|a
    .exact⟨hP,t,a,b,d⟩
    grind
   .rintro⟨hP,t,a,b,d⟩;exact⟨hP,t,(tms_app ..).2 (.inl a),b,d⟩
  rw[hpan];refine and_congr_right λhp=> ?_
  rw[vals_app,b9 λhc=> ?_,p9];obtain⟨q1,q2,q3⟩:=inP_iff.1 hc;exact c ⟨q1.symm,hp.1,q2,q3⟩
theorem cl1{g:Int}(hg:0<g){l:List (Evt K)}{k:K}{t:Int}{L:List (Int×Int)}(hL:Ses g (tms l k) L)(hn:L.Nodup):
 (vals l k (nowOf t (t+g) (joinedOf g t L)).1 (nowOf t (t+g) (joinedOf g t L)).2).Perm ((joinedOf g t L).flatMap λp=>vals l k p.1 p.2):=by
 have hT': ∀x,(tms l k x\/x=t)↔tms l k x\/x=t:=λ_=>Iff.rfl
 obtain⟨h1,h2⟩:=NC (T':=λx=>tms l k x\/x=t) hg t hL hT';obtain⟨n1,n2,n3⟩:=zK (joinedOf g t L) t (t+g);have hj: ∀p,p∈joinedOf g t L↔p∈L/\lap p.1 p.2 t (t+g):=λp=>by rw[joinedOf,n7,qW]
 have hJn:(joinedOf g t L).Pairwise (λa b=> ∀x∈l,inP k a.1 a.2 x=true->inP k b.1 b.2 x=true->False):=by
  have hnd:(joinedOf g t L).Nodup:=hn.filter _;refine List.Pairwise.imp_of_mem (λ{a b} ha hb hne x hx i1 i2=>hne ?_) hnd;obtain⟨_,a1,a2⟩:=inP_iff.1 i1;obtain⟨_,b1,b2⟩:=inP_iff.1 i2;have:=((hL.1 a.1 a.2).1 ((hj a).1 ha).1).one ((hL.1 b.1 b.2).1 ((hj b).1 hb).1) ⟨by omega,by omega⟩;grind
 have hfil:l.filter (inP k (nowOf t (t+g) (joinedOf g t L)).1 (nowOf t (t+g) (joinedOf g t L)).2)=l.filter λx=>(joinedOf g t L).any λp=>inP k p.1 p.2 x:=by
  refine List.filter_congr λx hx=> ?_
  rw[B9,O7];constructor
  .intro h;obtain⟨a1,a2,a3⟩:=inP_iff.1 h;obtain⟨p,b1,b2,b3⟩:=hL.2 x.2.1 ⟨x,hx,a1,rfl⟩;refine⟨p,(hj p).2 ⟨b1,?_⟩,inP_iff.2 ⟨a1,b2,by omega⟩⟩;by_cases c:lap p.1 p.2 t (t+g)
   .exact c
   .exfalso;have hr:p∈nP g t L:=by rw[nP,n7,A6,<-A3,qW];exact⟨b1,c⟩
    have hs:=(h2 p.1 p.2).2 (.inl hr);have e:=h1.one hs ⟨by omega,by omega⟩;exact c ⟨by omega,by omega⟩
  grind[inP_iff]
 unfold vals;rw[hfil];refine((b47 (λ(p:Int×Int) x=>inP k p.1 p.2 x) l _ hJn).map _).trans ?_;rw[List.map_flatMap]
theorem ses_ex{g:Int}(hg:0<g)(k:K): ∀l:List (Evt K),∃L,Ses g (λt=> ∃x∈l,x.1=k/\x.2.1=t) L
 | []=>⟨[],d66 g (λx ⟨_,h,_⟩=>by cases h)⟩
 |o::l=>by
  obtain⟨L,h⟩:=ses_ex hg k l;by_cases ho:o.1=k
  .exact⟨nowOf o.2.1 (o.2.1+g) (joinedOf g o.2.1 L)::nP g o.2.1 L,KL hg o.2.1 h (λx=>⟨λ⟨y,a,b,c⟩=>by
    grind,λhx=>by
    grind⟩) (λp=>by grind)⟩
  .refine⟨L,?_⟩;grind
theorem tab_ses{g:Int}(hg:0<g){l:List (Evt K)}{M M':K->Int->Int->Option Ag}(o:Evt K){L:List (Int×Int)}(h:Tab (.ses g) l M)
 (hL: ∀s e,(s,e)∈L↔M o.1 s e≠none) (hn:L.Nodup)
 (h1: ∀s e,(s,e)=nowOf o.2.1 (o.2.1+g) (joinedOf g o.2.1 L)->M' o.1 s e=some (agAll (agOf [o.2.2]::(joinedOf g o.2.1 L).map λp=>(M o.1 p.1 p.2).getD (0,0,0,0))))
 (h2: ∀s e,(s,e)≠nowOf o.2.1 (o.2.1+g) (joinedOf g o.2.1 L)->(s,e)∈joinedOf g o.2.1 L->M' o.1 s e=none)
 (h3: ∀k s e,k≠o.1\/((s,e)≠nowOf o.2.1 (o.2.1+g) (joinedOf g o.2.1 L)/\(s,e)∉joinedOf g o.2.1 L)->M' k s e=M k s e):Tab (.ses g) (l++[o]) M':=by
 have hcov: ∀t,tms l o.1 t-> ∃p∈L,p.1<=t/\t+g<=p.2:=λt ht=>by
  obtain⟨L',h1,h2⟩:=ses_ex hg o.1 l;obtain⟨p,a,b,c⟩:=h2 t ht;exact⟨p,(hL p.1 p.2).2 λhm=>h.none.1 hm ((h1 p.1 p.2).1 a),b,c⟩
 have hS:Ses g (tms l o.1) L:=⟨λs e=>by
  rw[hL,ne_eq,h.none];exact Classical.not_not,hcov⟩
 have hT: ∀x,tms (l++[o]) o.1 x↔tms l o.1 x\/x=o.2.1:=λx=>by rw[tms_app];simp
 obtain⟨q1,q2⟩:=NC hg o.2.1 hS hT;obtain⟨n1,n2,n3⟩:=zK (joinedOf g o.2.1 L) o.2.1 (o.2.1+g);have hj: ∀p,p∈joinedOf g o.2.1 L↔p∈L/\lap p.1 p.2 o.2.1 (o.2.1+g):=λp=>by rw[joinedOf,n7,qW]
 have hr: ∀p,p∈nP g o.2.1 L↔p∈L/\ ¬lap p.1 p.2 o.2.1 (o.2.1+g):=λp=>by
  rw[nP,n7,<-qW];simp
 have hvj:=cl1 hg (t:=o.2.1) hS hn;intro k s e a;by_cases hk:k=o.1
 .subst hk;by_cases c:(s,e)=nowOf o.2.1 (o.2.1+g) (joinedOf g o.2.1 L)
  .rw[h1 s e c];have hp:Pan (.ses g) (l++[o]) o.1 s e:=(q2 s e).2 (.inr c);have hv:agAll (agOf [o.2.2]::(joinedOf g o.2.1 L).map λp=>(M o.1 p.1 p.2).getD (0,0,0,0))=agOf (vals (l++[o]) o.1 s e):=by
    have e1:((joinedOf g o.2.1 L).map λp=>(M o.1 p.1 p.2).getD (0,0,0,0))=(joinedOf g o.2.1 L).map λp=>agOf (vals l o.1 p.1 p.2):=by
     refine x6 λp hp=> ?_
     have:=(h o.1 p.1 p.2 _).2 ⟨(hS.1 p.1 p.2).1 ((hj p).1 hp).1,rfl⟩;rw[this];rfl
    show((joinedOf g o.2.1 L).map λp=>(M o.1 p.1 p.2).getD (0,0,0,0)).foldl ag2 (agOf [o.2.2])=_;rw[e1,cR0 (λ(p:Int×Int)=>vals l o.1 p.1 p.2) _ _ (by simp) (λ(p:Int×Int) hp=>Pan.ne (W:= .ses g) (l:=l) (k:=o.1) (s:=p.1) (e:=p.2) (λ_ e=>by cases e;exact hg) ((hS.1 p.1 p.2).1 ((hj p).1 hp).1))];rw[vals_app,e8 (inP_iff.2 ⟨rfl,by rw[<-c]at n1;exact n1,by rw[<-c]at n2;omega⟩)];rw[<-c]at hvj;exact UB ((List.Perm.cons _ hvj.symm).trans (List.perm_append_singleton _ _).symm)
   rw[hv];exact⟨λhh=>⟨hp,by cases hh;rfl⟩,λhh=>by rw[hh.2]⟩
  .by_cases d:(s,e)∈joinedOf g o.2.1 L
   .rw[h2 s e c d];refine⟨λhh=>(by cases hh),λhh=> ?_⟩;rcases(q2 s e).1 hh.1 with x|x
    .exact absurd ((hj _).1 d).2 ((hr _).1 x).2
    .exact absurd x c
   .rw[h3 o.1 s e (.inr ⟨c,d⟩),h o.1 s e a];have hpan:Pan (.ses g) (l++[o]) o.1 s e↔Pan (.ses g) l o.1 s e:=by
     show isS g _ s e↔isS g _ s e;rw[q2 s e,<-hS.1 s e,hr];constructor
     .rintro(x|x)
      .exact x.1
      .exact absurd x c
     .intro x;exact .inl ⟨x,λy=>d ((hj _).2 ⟨x,y⟩)⟩
    rw[hpan];refine and_congr_right λhp=> ?_
    rw[vals_app,b9 λhc=> ?_,p9];obtain⟨z1,z2,z3⟩:=inP_iff.1 hc;exact d ((hj _).2 ⟨(hS.1 s e).2 hp,by omega,z3⟩)
 .rw[h3 k s e (.inl hk),h k s e a];have ht:tms (l++[o]) k=tms l k:=by
   funext x;refine propext ⟨λhx=> ?_,λhx=>(tms_app ..).2 (.inl hx)⟩;rcases(tms_app ..).1 hx with y|y
   .exact y
   .exact absurd y.1.symm hk
  rw[vals_app,b9 λhc=>hk (inP_iff.1 hc).1.symm,p9];simp[Pan,ht]
end Go.Ev.Tb
namespace Go.Ev.Tb
def sumN:List Nat->Nat
 | []=>0
 |x::l=>x+sumN l
theorem ZP{α:Type}: ∀l:List α,sumN (l.map λ_=>0)=0
 | []=>rfl
 |a::l=>by show 0+sumN (l.map λ_=>0)=0;rw[ZP l]
theorem bN4{α:Type}(f g:α->Nat): ∀l:List α,sumN (l.map λx=>f x+g x)=sumN (l.map f)+sumN (l.map g)
 | []=>rfl
 |a::l=>by
  show f a+g a+sumN (l.map λx=>f x+g x)=f a+sumN (l.map f)+(g a+sumN (l.map g));rw[bN4 f g l];omega
theorem WM{α:Type}(p:α->Bool): ∀l:List α,sumN (l.map λx=>if p x then 1 else 0)=(l.filter p).length
 | []=>rfl
 |a::l=>by
  show(if p a then 1 else 0)+sumN (l.map λx=>if p x then 1 else 0)=_;rw[WM p l,x7];grind
theorem twice{α O:Type}(f:O->α->Bool)(l:List α): ∀R:List O,sumN (R.map λp=>(l.filter (f p)).length)=sumN (l.map λx=>(R.filter λp=>f p x).length)
 | []=>by
   grind[sumN,ZP]
 |p::R=>by
  show(l.filter (f p)).length+sumN (R.map λp=>(l.filter (f p)).length)=_;rw[twice f l R,<-WM (f p) l,<-bN4];grind
end Go.Ev.Tb
namespace Go.Ev
open Go
def Jh:SX:= zb (zl 0) 1000000
def IT:VT:= .ite (zs (.ci 0) (zl 0)) (.need (Jh) (.ret 0 [.va 0])) (.both (.ret 0 [.op .row []]) (.need (Jh) (.ret 0 [.va 0])))
def EI:VT:= .ite (zs (.va 2000) (.va 4)) (.need (zn (zp (za (.va 3) (.va 2000))) (zs (za (.va 3) (.va 2000)) (.va 1))) (.need (zs (za (.va 3) (.va 2000)) (zl 2001)) (.need (zn (zp (za (.va 2) (.va 2000))) (zs (za (.va 2) (.va 2000)) (.va 1))) (.need (zs (za (.va 2) (.va 2000)) (zl 2001)) (.need (zs (za (.va 3) (.va 2000)) (zL (.op .lset [.va 2001,za (.va 2) (.va 2000),.op .row [.op .lget [.va 2001,za (.va 3) (.va 2000),.ci 0],.op .lget [.va 2001,za (.va 3) (.va 2000),.ci 1],.op .lget [.va 2001,za (.va 3) (.va 2000),.ci 2],.op .lget [.va 2001,za (.va 3) (.va 2000),.ci 3],.op .lget [.va 2001,za (.va 3) (.va 2000),.ci 4],.op .lget [.va 2001,za (.va 3) (.va 2000),.ci 5],.op .lget [.va 2001,za (.va 3) (.va 2000),.ci 6]]]))) (.ret 0 [zi (.va 2000),.op .lset [.op .lset [.va 2001,za (.va 2) (.va 2000),.op .row [.op .lget [.va 2001,za (.va 3) (.va 2000),.ci 0],.op .lget [.va 2001,za (.va 3) (.va 2000),.ci 1],.op .lget [.va 2001,za (.va 3) (.va 2000),.ci 2],.op .lget [.va 2001,za (.va 3) (.va 2000),.ci 3],.op .lget [.va 2001,za (.va 3) (.va 2000),.ci 4],.op .lget [.va 2001,za (.va 3) (.va 2000),.ci 5],.op .lget [.va 2001,za (.va 3) (.va 2000),.ci 6]]],za (.va 3) (.va 2000),.op .row [.op .lget [.va 2001,za (.va 2) (.va 2000),.ci 0],.op .lget [.va 2001,za (.va 2) (.va 2000),.ci 1],.op .lget [.va 2001,za (.va 2) (.va 2000),.ci 2],.op .lget [.va 2001,za (.va 2) (.va 2000),.ci 3],.op .lget [.va 2001,za (.va 2) (.va 2000),.ci 4],.op .lget [.va 2001,za (.va 2) (.va 2000),.ci 5],.op .lget [.va 2001,za (.va 2) (.va 2000),.ci 6]]]])))))) (.ret 1 [.va 2000,.va 2001])
def RN:VT:= .loop ⟨452,[.ci 0,.va 0],2000,[.va 1,.va 0,.va 2,.va 3,.va 4]⟩ EI [.ret 0 [zo (.app 452 [.ci 0,.va 0,.va 1,.va 0,.va 2,.va 3,.va 4]) 1]]
def Ie:SX:= zs (.va 2) (.va 9)
def nT:SX:= zs (.va 1) (.va 8)
def nM:SX:= .op (.cmp .gtr) [.va 1,.va 8]
def GP:SX:= .op (.cmp .gtr) [.va 2,.va 9]
def FX:VT:= .ite (.op (.scmp .lss) [.va 0,.va 7]) (.ite (Ie) (.ite (nT) (.ret 0 [.ci (-1)]) (.ite (nM) (.ret 0 [.ci (-1)]) (.ret 0 [.ci (-1)]))) (.ite (GP) (.ite (nT) (.ret 0 [.ci (-1)]) (.ite (nM) (.ret 0 [.ci (-1)]) (.ret 0 [.ci (-1)]))) (.ite (nT) (.ret 0 [.ci (-1)]) (.ite (nM) (.ret 0 [.ci (-1)]) (.ret 0 [.ci (-1)]))))) (.ite (.op (.scmp .gtr) [.va 0,.va 7]) (.ite (Ie) (.ite (nT) (.ret 0 [.ci 1]) (.ite (nM) (.ret 0 [.ci 1]) (.ret 0 [.ci 1]))) (.ite (GP) (.ite (nT) (.ret 0 [.ci 1]) (.ite (nM) (.ret 0 [.ci 1]) (.ret 0 [.ci 1]))) (.ite (nT) (.ret 0 [.ci 1]) (.ite (nM) (.ret 0 [.ci 1]) (.ret 0 [.ci 1]))))) (.ite (Ie) (.ite (nT) (.ret 0 [.ci (-1)]) (.ite (nM) (.ret 0 [.ci (-1)]) (.ret 0 [.ci (-1)]))) (.ite (GP) (.ite (nT) (.ret 0 [.ci 1]) (.ite (nM) (.ret 0 [.ci 1]) (.ret 0 [.ci 1]))) (.ite (nT) (.ret 0 [.ci (-1)]) (.ite (nM) (.ret 0 [.ci 1]) (.ret 0 [.ci 0]))))))
def LF:VT:= .ite (.op (.cmp .neq) [.va 2000,.va 2001]) (.ite (.op (.cmp .gtr) [.va 2000,.va 2001]) (.need (.app 420 [.va 2002,.va 1,zm (.va 3) (.va 2000),.va 3,.va 2001]) (.ret 0 [zm (.va 2000) (.va 2001),.va 2001,.app 421 [.va 2002,zm (.va 3) (.va 2000),.va 3,.va 2001]])) (.need (.app 420 [.va 2002,.va 1,zm (.va 3) (.va 2000),zm (za (.va 3) (.va 2001)) (.va 2000),.va 2000]) (.ret 0 [.va 2000,zm (.va 2001) (.va 2000),.app 421 [.va 2002,zm (.va 3) (.va 2000),zm (za (.va 3) (.va 2001)) (.va 2000),.va 2000]]))) (.ret 1 [.va 2000,.va 2001,.va 2002])
def zA:SX:= zm (.va 3) (.va 2)
def Cq:SX:= zm (.va 4) (.va 3)
def DE:SX:= .app 458 [zA,Cq,.va 0,.va 1,.va 0,.va 3]
def AM:SX:= zo DE 2
def sD:SX:= zo DE 0
def Dx:SX:= zm (.va 3) sD
def Sx:VT:= .loop ⟨458,[zA,Cq,.va 0],2000,[.va 1,.va 0,.va 3]⟩ LF [.need (.app 420 [AM,.va 1,Dx,.va 3,sD]) (.ret 0 [.app 421 [AM,Dx,.va 3,sD]])]
def sy:VT:= .ite (.op (.cmp .gtr) [.va 3000,.va 2]) (.need (zn (zp (.va 3000)) (zs (.va 3000) (.va 1))) (.need (zs (.va 3000) (zl 3001)) (.need (zn (zp (zm (.va 3000) (.ci 1))) (zs (zm (.va 3000) (.ci 1)) (.va 1))) (.need (zs (zm (.va 3000) (.ci 1)) (zl 3001)) (.ite (zs (.app 206 [zg 3001 3000 0,zg 3001 3000 1,zg 3001 3000 2,.op .lget [.va 3001,zm (.va 3000) (.ci 1),.ci 0],.op .lget [.va 3001,zm (.va 3000) (.ci 1),.ci 1],.op .lget [.va 3001,zm (.va 3000) (.ci 1),.ci 2]]) (.ci 0)) (.need (zs (zm (.va 3000) (.ci 1)) (zL (.op .lset [.va 3001,.va 3000,.op .row [.op .lget [.va 3001,zm (.va 3000) (.ci 1),.ci 0],.op .lget [.va 3001,zm (.va 3000) (.ci 1),.ci 1],.op .lget [.va 3001,zm (.va 3000) (.ci 1),.ci 2],.op .lget [.va 3001,zm (.va 3000) (.ci 1),.ci 3],.op .lget [.va 3001,zm (.va 3000) (.ci 1),.ci 4],.op .lget [.va 3001,zm (.va 3000) (.ci 1),.ci 5],.op .lget [.va 3001,zm (.va 3000) (.ci 1),.ci 6]]]))) (.ret 0 [zm (.va 3000) (.ci 1),.op .lset [.op .lset [.va 3001,.va 3000,.op .row [.op .lget [.va 3001,zm (.va 3000) (.ci 1),.ci 0],.op .lget [.va 3001,zm (.va 3000) (.ci 1),.ci 1],.op .lget [.va 3001,zm (.va 3000) (.ci 1),.ci 2],.op .lget [.va 3001,zm (.va 3000) (.ci 1),.ci 3],.op .lget [.va 3001,zm (.va 3000) (.ci 1),.ci 4],.op .lget [.va 3001,zm (.va 3000) (.ci 1),.ci 5],.op .lget [.va 3001,zm (.va 3000) (.ci 1),.ci 6]]],zm (.va 3000) (.ci 1),zv 3001 3000]])) (.ret 1 [.va 3000,.va 3001])))))) (.ret 1 [.va 3000,.va 3001])
def Jd:VT:= .ite (zs (.va 2000) (.va 3)) (.loop ⟨461,[.va 2000,.va 2001],3000,[.va 1,.va 2001,.va 2,.va 3,.va 2000]⟩ sy [.ret 0 [zi (.va 2000),zo (.app 461 [.va 2000,.va 2001,.va 1,.va 2001,.va 2,.va 3,.va 2000]) 1]]) (.ret 1 [.va 2000,.va 2001])
def yD:SX:= zi (.va 2)
def ZE:VT:= .loop ⟨460,[yD,.va 0],2000,[.va 1,.va 0,.va 2,.va 3]⟩ Jd [.ret 0 [zo (.app 460 [yD,.va 0,.va 1,.va 0,.va 2,.va 3]) 1]]
def DJ:VT:= .ite (zs (.va 2000) (.va 2001)) (.need (zn (zp (zh (.va 2000) (.va 2001))) (zs (zh (.va 2000) (.va 2001)) (.va 1))) (.need (zs (zh (.va 2000) (.va 2001)) (zl 0)) (.need (zn (zp (.va 2)) (zs (.va 2) (.va 1))) (.need (zs (.va 2) (zl 0)) (.ite (zs (.app 206 [.op .lget [.va 0,zh (.va 2000) (.va 2001),.ci 0],.op .lget [.va 0,zh (.va 2000) (.va 2001),.ci 1],.op .lget [.va 0,zh (.va 2000) (.va 2001),.ci 2],zg 0 2 0,zg 0 2 1,zg 0 2 2]) (.ci 0)) (.ret 0 [zi (zh (.va 2000) (.va 2001)),.va 2001]) (.ret 0 [.va 2000,zh (.va 2000) (.va 2001)])))))) (.ret 1 [.va 2000,.va 2001])
def IQ:VT:= .ite (zs (.va 3000) (zm (zo (.app 462 [.va 3,.va 4,.va 1,.va 0,.va 2]) 0) (.ci 1))) (.need (zn (zp (zi (.va 3000))) (zs (zi (.va 3000)) (.va 1))) (.need (zs (zi (.va 3000)) (zl 3001)) (.need (zn (zp (.va 3000)) (zs (.va 3000) (.va 1))) (.need (zs (.va 3000) (zl 3001)) (.need (zs (zi (.va 3000)) (zL (.op .lset [.va 3001,.va 3000,.op .row [.op .lget [.va 3001,zi (.va 3000),.ci 0],.op .lget [.va 3001,zi (.va 3000),.ci 1],.op .lget [.va 3001,zi (.va 3000),.ci 2],.op .lget [.va 3001,zi (.va 3000),.ci 3],.op .lget [.va 3001,zi (.va 3000),.ci 4],.op .lget [.va 3001,zi (.va 3000),.ci 5],.op .lget [.va 3001,zi (.va 3000),.ci 6]]]))) (.ret 0 [zi (.va 3000),.op .lset [.op .lset [.va 3001,.va 3000,.op .row [.op .lget [.va 3001,zi (.va 3000),.ci 0],.op .lget [.va 3001,zi (.va 3000),.ci 1],.op .lget [.va 3001,zi (.va 3000),.ci 2],.op .lget [.va 3001,zi (.va 3000),.ci 3],.op .lget [.va 3001,zi (.va 3000),.ci 4],.op .lget [.va 3001,zi (.va 3000),.ci 5],.op .lget [.va 3001,zi (.va 3000),.ci 6]]],zi (.va 3000),zv 3001 3000]])))))) (.ret 1 [.va 3000,.va 3001])
def zN:VT:= .ite (zs (.va 2000) (.va 2001)) (.need (zn (zp (.va 3)) (zs (.va 3) (.va 1))) (.need (zs (.va 3) (zl 0)) (.need (zn (zp (zh (.va 2000) (.va 2001))) (zs (zh (.va 2000) (.va 2001)) (.va 1))) (.need (zs (zh (.va 2000) (.va 2001)) (zl 0)) (.ite (.op .not [zs (.app 206 [zg 0 3 0,zg 0 3 1,zg 0 3 2,.op .lget [.va 0,zh (.va 2000) (.va 2001),.ci 0],.op .lget [.va 0,zh (.va 2000) (.va 2001),.ci 1],.op .lget [.va 0,zh (.va 2000) (.va 2001),.ci 2]]) (.ci 0)]) (.ret 0 [zi (zh (.va 2000) (.va 2001)),.va 2001]) (.ret 0 [.va 2000,zh (.va 2000) (.va 2001)])))))) (.ret 1 [.va 2000,.va 2001])
def FZ:VT:= .ite (.op (.cmp .gtr) [.va 3000,zo (.app 464 [.va 2,.va 3,.va 1,.va 0,.va 3]) 0]) (.need (zn (zp (zm (.va 3000) (.ci 1))) (zs (zm (.va 3000) (.ci 1)) (.va 1))) (.need (zs (zm (.va 3000) (.ci 1)) (zl 3001)) (.need (zn (zp (.va 3000)) (zs (.va 3000) (.va 1))) (.need (zs (.va 3000) (zl 3001)) (.need (zs (zm (.va 3000) (.ci 1)) (zL (.op .lset [.va 3001,.va 3000,.op .row [.op .lget [.va 3001,zm (.va 3000) (.ci 1),.ci 0],.op .lget [.va 3001,zm (.va 3000) (.ci 1),.ci 1],.op .lget [.va 3001,zm (.va 3000) (.ci 1),.ci 2],.op .lget [.va 3001,zm (.va 3000) (.ci 1),.ci 3],.op .lget [.va 3001,zm (.va 3000) (.ci 1),.ci 4],.op .lget [.va 3001,zm (.va 3000) (.ci 1),.ci 5],.op .lget [.va 3001,zm (.va 3000) (.ci 1),.ci 6]]]))) (.ret 0 [zm (.va 3000) (.ci 1),.op .lset [.op .lset [.va 3001,.va 3000,.op .row [.op .lget [.va 3001,zm (.va 3000) (.ci 1),.ci 0],.op .lget [.va 3001,zm (.va 3000) (.ci 1),.ci 1],.op .lget [.va 3001,zm (.va 3000) (.ci 1),.ci 2],.op .lget [.va 3001,zm (.va 3000) (.ci 1),.ci 3],.op .lget [.va 3001,zm (.va 3000) (.ci 1),.ci 4],.op .lget [.va 3001,zm (.va 3000) (.ci 1),.ci 5],.op .lget [.va 3001,zm (.va 3000) (.ci 1),.ci 6]]],zm (.va 3000) (.ci 1),zv 3001 3000]])))))) (.ret 1 [.va 3000,.va 3001])
def to:VT:= .ite (zs (.va 2000) (.va 2001)) (.need (zn (zp (zm (zm (za (zh (.va 2) (.va 4)) (.va 3)) (.ci 1)) (zh (.va 2000) (.va 2001)))) (zs (zm (zm (za (zh (.va 2) (.va 4)) (.va 3)) (.ci 1)) (zh (.va 2000) (.va 2001))) (.va 1))) (.need (zs (zm (zm (za (zh (.va 2) (.va 4)) (.va 3)) (.ci 1)) (zh (.va 2000) (.va 2001))) (zl 0)) (.need (zn (zp (zh (.va 2000) (.va 2001))) (zs (zh (.va 2000) (.va 2001)) (.va 1))) (.need (zs (zh (.va 2000) (.va 2001)) (zl 0)) (.ite (.op .not [zs (.app 206 [.op .lget [.va 0,zm (zm (za (zh (.va 2) (.va 4)) (.va 3)) (.ci 1)) (zh (.va 2000) (.va 2001)),.ci 0],.op .lget [.va 0,zm (zm (za (zh (.va 2) (.va 4)) (.va 3)) (.ci 1)) (zh (.va 2000) (.va 2001)),.ci 1],.op .lget [.va 0,zm (zm (za (zh (.va 2) (.va 4)) (.va 3)) (.ci 1)) (zh (.va 2000) (.va 2001)),.ci 2],.op .lget [.va 0,zh (.va 2000) (.va 2001),.ci 0],.op .lget [.va 0,zh (.va 2000) (.va 2001),.ci 1],.op .lget [.va 0,zh (.va 2000) (.va 2001),.ci 2]]) (.ci 0)]) (.ret 0 [zi (zh (.va 2000) (.va 2001)),.va 2001]) (.ret 0 [.va 2000,zh (.va 2000) (.va 2001)])))))) (.ret 1 [.va 2000,.va 2001])
def si:SX:= zo (.app 462 [.va 3,.va 4,.va 1,.va 0,.va 2]) 0
def uL:SX:= zo (.app 464 [.va 2,.va 3,.va 1,.va 0,.va 3]) 0
def Y3:SX:= zh (.va 2) (.va 4)
def fC:SX:= za Y3 (.va 3)
def wo:SX:= zm fC (.va 4)
def lU:SX:= zm fC (.ci 1)
def mn:SX:= zo (.app 466 [wo,Y3,.va 1,.va 0,.va 2,.va 3,.va 4,Y3,fC,lU]) 0
def lH:SX:= zm fC mn
def Qa:SX:= zs (.va 2) mn
def JJ:SX:= zs mn Y3
def qH:SX:= .app 423 [.va 0,mn,.va 3,lH]
def pd:SX:= zs Y3 lH
def qb:SX:= zs lH (.va 4)
def DQ:SX:= .app 425 [qH,.va 2,Y3]
def cR3(B:Int):SX:= .app 426 [qH,.va 1,Y3,lH,.va 4,.ci B]
def Wr:SX:= .app 425 [qH,Y3,.va 4]
def Uj(B:Int):SX:= .app 426 [.va 0,.va 1,.va 2,mn,Y3,.ci B]
def mK:SX:= .app 425 [.va 0,.va 2,Y3]
def cR6(B:Int):SX:= .app 426 [mK,.va 1,Y3,lH,.va 4,.ci B]
def FP:SX:= .app 425 [mK,Y3,.va 4]
def Fv(B:Int):SX:= .app 426 [.va 0,.va 1,Y3,lH,.va 4,.ci B]
def qJ:SX:= .app 425 [.va 0,Y3,.va 4]
def mg:SX:= zo (.app 466 [.va 2,.va 3,.va 1,.va 0,.va 2,.va 3,.va 4,Y3,fC,lU]) 0
def mh:SX:= zm fC mg
def KR:SX:= zs (.va 2) mg
def Mk:SX:= zs mg Y3
def qu:SX:= .app 423 [.va 0,mg,.va 3,mh]
def oX:SX:= zs Y3 mh
def pz:SX:= zs mh (.va 4)
def Em:SX:= .app 425 [qu,.va 2,Y3]
def cR7(B:Int):SX:= .app 426 [qu,.va 1,Y3,mh,.va 4,.ci B]
def Th:SX:= .app 425 [qu,Y3,.va 4]
def SY(B:Int):SX:= .app 426 [.va 0,.va 1,.va 2,mg,Y3,.ci B]
def RB(B:Int):SX:= .app 426 [mK,.va 1,Y3,mh,.va 4,.ci B]
def Jk(B:Int):SX:= .app 426 [.va 0,.va 1,Y3,mh,.va 4,.ci B]
def lJ(B:Int):VT:= .ite (ze (zm (.va 3) (.va 2)) 1) (.loop ⟨462,[.va 3,.va 4],2000,[.va 1,.va 0,.va 2]⟩ DJ [.loop ⟨463,[.va 2,.va 0],3000,[.va 1,.va 0,si]⟩ IQ [.ret 0 [zo (.app 463 [.va 2,.va 0,.va 1,.va 0,si]) 1]]]) (.ite (ze (zm (.va 4) (.va 3)) 1) (.loop ⟨464,[.va 2,.va 3],2000,[.va 1,.va 0,.va 3]⟩ zN [.loop ⟨465,[.va 3,.va 0],3000,[.va 1,.va 0,uL]⟩ FZ [.ret 0 [zo (.app 465 [.va 3,.va 0,.va 1,.va 0,uL]) 1]]]) (.ite (.op (.cmp .gtr) [.va 3,Y3]) (.loop ⟨466,[wo,Y3],2000,[.va 1,.va 0,.va 2,.va 3,.va 4,Y3,fC,lU]⟩ to [.ite (zs mn (.va 3)) (.ite (zs (.va 3) lH) (.need (.app 422 [.va 0,.va 1,mn,.va 3,lH]) (.ite (Qa) (.ite (JJ) (.need (.app 426 [qH,.va 1,.va 2,mn,Y3,.ci B]) (.ite (pd) (.ite (qb) (.need (.app 426 [DQ,.va 1,Y3,lH,.va 4,.ci B]) (.ret 0 [.app 425 [DQ,Y3,.va 4]])) (.ret 0 [DQ])) (.ret 0 [DQ]))) (.ite (pd) (.ite (qb) (.need ((cR3 B)) (.ret 0 [Wr])) (.ret 0 [qH])) (.ret 0 [qH]))) (.ite (pd) (.ite (qb) (.need ((cR3 B)) (.ret 0 [Wr])) (.ret 0 [qH])) (.ret 0 [qH])))) (.ite (Qa) (.ite (JJ) (.need ((Uj B)) (.ite (pd) (.ite (qb) (.need ((cR6 B)) (.ret 0 [FP])) (.ret 0 [mK])) (.ret 0 [mK]))) (.ite (pd) (.ite (qb) (.need ((Fv B)) (.ret 0 [qJ])) (.ret 0 [.va 0])) (.ret 0 [.va 0]))) (.ite (pd) (.ite (qb) (.need ((Fv B)) (.ret 0 [qJ])) (.ret 0 [.va 0])) (.ret 0 [.va 0])))) (.ite (Qa) (.ite (JJ) (.need ((Uj B)) (.ite (pd) (.ite (qb) (.need ((cR6 B)) (.ret 0 [FP])) (.ret 0 [mK])) (.ret 0 [mK]))) (.ite (pd) (.ite (qb) (.need ((Fv B)) (.ret 0 [qJ])) (.ret 0 [.va 0])) (.ret 0 [.va 0]))) (.ite (pd) (.ite (qb) (.need ((Fv B)) (.ret 0 [qJ])) (.ret 0 [.va 0])) (.ret 0 [.va 0])))]) (.loop ⟨466,[.va 2,.va 3],2000,[.va 1,.va 0,.va 2,.va 3,.va 4,Y3,fC,lU]⟩ to [.ite (zs mg (.va 3)) (.ite (zs (.va 3) mh) (.need (.app 422 [.va 0,.va 1,mg,.va 3,mh]) (.ite (KR) (.ite (Mk) (.need (.app 426 [qu,.va 1,.va 2,mg,Y3,.ci B]) (.ite (oX) (.ite (pz) (.need (.app 426 [Em,.va 1,Y3,mh,.va 4,.ci B]) (.ret 0 [.app 425 [Em,Y3,.va 4]])) (.ret 0 [Em])) (.ret 0 [Em]))) (.ite (oX) (.ite (pz) (.need ((cR7 B)) (.ret 0 [Th])) (.ret 0 [qu])) (.ret 0 [qu]))) (.ite (oX) (.ite (pz) (.need ((cR7 B)) (.ret 0 [Th])) (.ret 0 [qu])) (.ret 0 [qu])))) (.ite (KR) (.ite (Mk) (.need ((SY B)) (.ite (oX) (.ite (pz) (.need ((RB B)) (.ret 0 [FP])) (.ret 0 [mK])) (.ret 0 [mK]))) (.ite (oX) (.ite (pz) (.need ((Jk B)) (.ret 0 [qJ])) (.ret 0 [.va 0])) (.ret 0 [.va 0]))) (.ite (oX) (.ite (pz) (.need ((Jk B)) (.ret 0 [qJ])) (.ret 0 [.va 0])) (.ret 0 [.va 0])))) (.ite (KR) (.ite (Mk) (.need ((SY B)) (.ite (oX) (.ite (pz) (.need ((RB B)) (.ret 0 [FP])) (.ret 0 [mK])) (.ret 0 [mK]))) (.ite (oX) (.ite (pz) (.need ((Jk B)) (.ret 0 [qJ])) (.ret 0 [.va 0])) (.ret 0 [.va 0]))) (.ite (oX) (.ite (pz) (.need ((Jk B)) (.ret 0 [qJ])) (.ret 0 [.va 0])) (.ret 0 [.va 0])))])))
def RS:VT:= .ite (.op (.cmp .leq) [.va 2001,.va 2]) (.need (.app 424 [.va 2002,.va 1,.va 2000,.va 2001]) (.ret 0 [.va 2001,za (.va 2001) (.ci 20),.app 425 [.va 2002,.va 2000,.va 2001]])) (.ret 1 [.va 2000,.va 2001,.va 2002])
def OT:VT:= .ite (.op (.cmp .leq) [.va 4001,.va 2]) (.need (.app 426 [.va 4002,.va 1,.va 4000,za (.va 4000) (.va 3000),.va 4001,.ci 512]) (.ret 0 [.va 4001,za (.va 4001) (.op (.ar .mul .i64) [.ci 2,.va 3000]),.app 425 [.va 4002,.va 4000,.va 4001]])) (.ret 1 [.va 4000,.va 4001,.va 4002])
def By:VT:= .ite (zs (.va 3000) (.va 2)) (.loop ⟨469,[.ci 0,.op (.ar .mul .i64) [.ci 2,.va 3000],.va 3001],4000,[.va 1,.va 3001,.va 2,.va 3000]⟩ OT [.ite (zs (za (zo (.app 469 [.ci 0,.op (.ar .mul .i64) [.ci 2,.va 3000],.va 3001,.va 1,.va 3001,.va 2,.va 3000]) 0) (.va 3000)) (.va 2)) (.need (.app 426 [zo (.app 469 [.ci 0,.op (.ar .mul .i64) [.ci 2,.va 3000],.va 3001,.va 1,.va 3001,.va 2,.va 3000]) 2,.va 1,zo (.app 469 [.ci 0,.op (.ar .mul .i64) [.ci 2,.va 3000],.va 3001,.va 1,.va 3001,.va 2,.va 3000]) 0,za (zo (.app 469 [.ci 0,.op (.ar .mul .i64) [.ci 2,.va 3000],.va 3001,.va 1,.va 3001,.va 2,.va 3000]) 0) (.va 3000),.va 2,.ci 512]) (.ret 0 [.op (.ar .mul .i64) [.va 3000,.ci 2],.app 425 [zo (.app 469 [.ci 0,.op (.ar .mul .i64) [.ci 2,.va 3000],.va 3001,.va 1,.va 3001,.va 2,.va 3000]) 2,zo (.app 469 [.ci 0,.op (.ar .mul .i64) [.ci 2,.va 3000],.va 3001,.va 1,.va 3001,.va 2,.va 3000]) 0,.va 2]])) (.ret 0 [.op (.ar .mul .i64) [.va 3000,.ci 2],zo (.app 469 [.ci 0,.op (.ar .mul .i64) [.ci 2,.va 3000],.va 3001,.va 1,.va 3001,.va 2,.va 3000]) 2])]) (.ret 1 [.va 3000,.va 3001])
def AN:SX:= .app 467 [.ci 0,.ci 20,.va 0,.va 1,.va 0,.va 2]
def DK:SX:= zo AN 2
def CP:SX:= zo AN 0
def nC:SX:= .app 425 [DK,CP,.va 2]
def VV:VT:= .loop ⟨467,[.ci 0,.ci 20,.va 0],2000,[.va 1,.va 0,.va 2]⟩ RS [.need (.app 424 [DK,.va 1,CP,.va 2]) (.loop ⟨468,[.ci 20,nC],3000,[.va 1,nC,.va 2]⟩ By [.ret 0 [zo (.app 468 [.ci 20,nC,.va 1,nC,.va 2]) 1]])]
def Xv:VT:= .need (.app 428 [.va 0,zl 0,zl 0]) (.ret 0 [.app 425 [.va 0,.ci 0,zl 0]])
def bp9:SX:= .app 425 [.va 0,.ci 0,zl 0]
def Tn:VT:= .need (zn (zb (zl 0) 400) (.app 431 [.va 0])) (.need (.op (.cmp .eql) [zl 0,zL bp9]) (.ret 0 [bp9]))
end Go.Ev
