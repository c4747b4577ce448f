import Derived.Test.YtcmjiepodnicoaaGreatE40
import Derived.Test.YtcmjiepodnicoaaGreatE43
import Derived.Test.YtcmjiepodnicoaaGreatE1
set_option linter.unusedSimpArgs false
set_option linter.unusedVariables false
namespace Go.Ev
open Go
abbrev aM:SX:= .ci 0
abbrev aN:SX:= .va 0
abbrev aO:SX:= .va 1
abbrev aR:SX:= .va 2001
abbrev aS:SX:= .va 4
abbrev aT:SX:= .va 2
abbrev aU:SX:= .va 3
abbrev aV:SX:= .va 2000
abbrev aW:SX:= .va 2002
abbrev aY:SX:= .va 3000
abbrev aZ:SX:= .ci 1
abbrev bc:SX:= .va 3001
abbrev bd:SX:= .va 6
abbrev be:SX:= .va 5
abbrev bf:SX:= .va 7
abbrev bg:SX:= .va 4001
abbrev bh:SX:= .va 1000
abbrev bi:SX:= .va 8
abbrev bj:SX:= .va 2003
abbrev bm:SX:= .ci 2
abbrev bn:SX:= .va 4002
abbrev bp:SX:= .va 2004
abbrev bq:SX:= .va 2005
abbrev bt:SX:= .va 10
abbrev bu:SX:= .va 4000
abbrev bv:SX:= .va 2006
abbrev bw:SX:= .va 2008
abbrev bx:SX:= .ci 3
abbrev bz:SX:= .va 6001
abbrev bA:SX:= .va 1001
abbrev bB:SX:= .va 2007
abbrev bC:SX:= .ci 400
abbrev bD:SX:= .va 6002
abbrev bE:SX:= .va 5001
abbrev bF:SX:= .va 4003
abbrev bG:SX:= .ci 61
abbrev bH:SX:= .va 6000
abbrev bI:SX:= .va 9
abbrev bJ:SX:= .ci 30
abbrev bK:SX:= .ci 60
abbrev bL:SX:= .ci 32
abbrev bM:SX:= .va 1002
abbrev bN:SX:= .ci 100
abbrev bO:SX:= .ci 1099511627776
abbrev bQ:SX:= .ci 24
abbrev bR:SX:= .ci 4294967295
abbrev bS:SX:= .ci 10
abbrev bT:SX:= .ci 1000000
abbrev bU:SX:= .va 3002
abbrev bV:SX:= .va 1004
abbrev bW:SX:= .va 1003
abbrev bY:SX:= .ci 1048576
abbrev zg(a b:Nat)(k:Int):SX:= .op .lget [.va a,.va b,.ci k]
abbrev zu(a b:Nat):SX:= .op .row [zg a b 0,zg a b 1,zg a b 2]
abbrev zv(a b:Nat):SX:= .op .row [zg a b 0,zg a b 1,zg a b 2,zg a b 3,zg a b 4,zg a b 5,zg a b 6]
abbrev zw(a b:Nat):SX:= .op .row [zg a b 0,zg a b 1,zg a b 2,zg a b 3,zg a b 4,zg a b 5,zg a b 6,zg a b 7]
abbrev zl(a:Nat):SX:= .op .llen [.va a]
abbrev zi(x:SX):SX:= .op (.ar .add .i64) [x,aZ]
abbrev zo(x:SX)(k:Int):SX:= .op .lget [x,aZ,.ci k]
abbrev zb(x:SX)(k:Int):SX:= .op (.cmp .leq) [x,.ci k]
abbrev zp(x:SX):SX:= .op (.cmp .leq) [aM,x]
abbrev zs(x y:SX):SX:= .op (.cmp .lss) [x,y]
abbrev zh(x y:SX):SX:= .op (.conv .i64) [.op (.ar .shr .u64) [.op (.conv .u64) [.op (.ar .add .i64) [x,y]],aZ]]
abbrev za(x y:SX):SX:= .op (.ar .add .i64) [x,y]
abbrev ze(x:SX)(k:Int):SX:= .op (.cmp .eql) [x,.ci k]
abbrev zn(x y:SX):SX:= .op .and [x,y]
abbrev zt(x:SX)(k:Int):SX:= .op (.cmp .gtr) [x,.ci k]
abbrev zc(x y:SX):SX:= .op .lcat [x,y]
abbrev zL(x:SX):SX:= .op .llen [x]
abbrev cj(a b:SX)(k:Int):SX:= .op .lget [a,b,.ci k]
abbrev cu:SX:= .op .row []
abbrev cJ(a b:SX):SX:= .op (.cmp .eql) [a,b]
abbrev cZ(a b:SX):SX:= .op (.cmp .neq) [a,b]
abbrev fO(a b:SX):SX:= .op (.cmp .leq) [a,b]
abbrev fV(a b:SX):SX:= .op (.cmp .gtr) [a,b]
abbrev gY(a b:SX):SX:= .op (.cmp .geq) [a,b]
abbrev dP(a:SX):SX:= .op .not [a]
abbrev zm(x y:SX):SX:= .op (.ar .sub .i64) [x,y]
variable{n:Nat}{bad:Nat->Bool}{step:List Val->Option (Nat×List Val)}
theorem eE{st:Nat->List Val}{j:Nat}{p:List Val}(h1: ∀i,i<n->step (st i)=some (0,st (i+1)))(h2:step (st n)=some (j+1,p)):cO step (st 0)=some (j,p):=by
 rw[nJ];have: ∀k,k<=n->Iter step (st (n-k)) j p:=by
  intro k;induction k with
  |zero=>intro _;exact .out h2
  |succ k ih=>
   intro hk;have e:=h1 (n-(k+1)) (by omega);rw[show n-(k+1)+1=n-k by omega]at e;exact .more e (ih (by omega))
 have h:=this n (e9 _);grind
def gZ(x:Val)(px:Nat->List Val)(bad:Nat->Bool)(n:Nat):Nat×List Val:=match(List.range n).find? bad with
 |some i=>(1,px i)
 |none=>(0,[x,.vi n])
theorem oY: ∀{n i:Nat},(List.range n).find? bad=some i->i<n/\bad i=true/\ ∀k,k<i->bad k=false:=by
 simp_all
theorem xu{x:Val}{px:Nat->List Val}
 (h1: ∀i,i<n->bad i=false->step [x,.vi i]=some (0,[x,.vi (i+1:Nat)])) (h2: ∀i,i<n->bad i=true->step [x,.vi i]=some (2,px i))
 (h3:step [x,.vi n]=some (1,[x,.vi n])):cO step [x,.vi (0:Int)]=some (gZ x px bad n):=by
 unfold gZ;split
 .rename_i i hi;obtain⟨a,b,c⟩:=oY hi;exact eE (st:=λi=>[x,.vi i]) (n:=i) (λk hk=>h1 k (by omega) (c k hk)) (h2 i a b)
 .exact eE (st:=λi=>[x,.vi i]) (n:=n) (λk hk=>h1 k hk (by grind)) h3
theorem GP{x:Val}{px:Nat->List Val}:gZ x px bad n=if(List.range n).any bad then(1,px (((List.range n).find? bad).getD 0))else(0,[x,.vi n]):=by
 unfold gZ;split
 .rename_i i hi;have:(List.range n).any bad=true:=by
   rw[I6];obtain⟨a,b,_⟩:=oY hi;exact⟨i,r9.2 a,b⟩
  rw[this,hi];rfl
 .rename_i hn;have:(List.range n).any bad=false:=by
   rw[List.find?_range_eq_none]at hn;rw[F6];intro i hi;simpa using hn i (r9.1 hi)
  rw[this];rfl
def cB(g:Nat->List Val):Nat->List Val
 |0=>[]
 |n+1=>cB g n++g n
theorem jD{g:Nat->List Val}{m:Nat}(hg: ∀i,(g i).length<=m): ∀n,(cB g n).length<=n*m
 |0=>by simp[cB]
 |n+1=>by
  have:=jD hg n;grind[cB,List.length_append,Nat.add_mul]
theorem rC(g:Nat->List Val): ∀n,cB g n=(List.range n).flatMap g
 |0=>rfl
 |n+1=>by rw[cB,rC g n,R0,N5];simp
theorem WL{α:Type}(q:α->Bool)(d:α): ∀(l:List α),((List.range l.length).any λi=>q (l.getD i d))=l.any q
 | []=>rfl
 |a::l=>by
  rw[List.length_cons,J6,List.any_cons,List.any_map];simp;rw[<-WL q d l];congr 1
theorem LN{α O:Type}(g:α->List O)(d:α): ∀(l:List α),((List.range l.length).flatMap λi=>g (l.getD i d))=l.flatMap g
 | []=>rfl
 |a::l=>by
  rw[List.length_cons,J6,B7,K5];simp;rw[<-LN g d l];congr 1
theorem bT1{α O:Type} [DecidableEq O](f:α->O)(d:α): ∀(l r:List α),l.length=r.length->((List.range l.length).any λi=> !decide (f (l.getD i d)=f (r.getD i d)))= !decide (l.map f=r.map f)
 | [],[],_=>by simp
 |a::l,b::r,h=>by
  rw[List.length_cons,J6,List.any_cons,List.any_map];have:=bT1 f d l r (by simpa using h);grind
 | [],_::_,h=>by simp at h
 |_::_,[],h=>by simp at h
theorem c67(h:n<=10000000):IntKind.i64.wrap ((n:Int)+1)=((n+1:Nat):Int):=by
 grind[IntKind.wrap,IntKind.bits,IntKind.signed]
end Go.Ev
namespace Go.Ev
open Go
structure RowM where
 key:List UInt8
 a:Int
 b:Int
 c:Int
 d:Int
 e:Int
 f:Int
 deriving DecidableEq
structure PaneM where
 key:List UInt8
 a:Int
 b:Int
 deriving DecidableEq
def Z7(r:Val)(j:Nat):Val:=r.toL.getD j default
def fJ(r:Val):RowM:=⟨(Z7 r 0).toS,(Z7 r 1).toI,(Z7 r 2).toI,(Z7 r 3).toI,(Z7 r 4).toI,(Z7 r 5).toI,(Z7 r 6).toI⟩
def Z6(r:Val):PaneM:=⟨(Z7 r 0).toS,(Z7 r 1).toI,(Z7 r 2).toI⟩
def cg(l:List Val)(i:Nat):Val:=l.getD i (.vl [])
def vp(v:Val):List RowM:=v.toL.map fJ
def ce(a:List Val)(i:Nat):Val:=a.getD i default
def wZ{α:Type} [DecidableEq α](a b:α):Bool:=decide (a=b)
@[simp]theorem dP4{α:Type} [DecidableEq α]{a b:α}:wZ a b=true↔a=b:=decide_eq_true_iff
theorem cL5{α:Type} [DecidableEq α](a:α):wZ a a=true:=dP4.2 rfl
def EI{α:Type} [DecidableEq α](m:Val->α)(l r:List Val):Val:=cA (gZ (.vb false) (λk=>[.vb false,.vi k]) (λi=> !decide (m (cg l i)=m (cg r i))) l.length)
def cQ(r:Val):Val:= .vl [Z7 r 0,Z7 r 1,Z7 r 2,Z7 r 3,Z7 r 4,Z7 r 5,Z7 r 6]
def eP(r:Val):Val:= .vl [Z7 r 0,Z7 r 1,Z7 r 2]
theorem Kx: ∀x:List UInt8,ij x x=false
 | []=>rfl
 |a::x=>by
  show(bif Nat.blt a.toNat a.toNat then true else bif Nat.beq a.toNat a.toNat then ij x x else false)=false;rw[Kx x];have h1:Nat.blt a.toNat a.toNat=false:=by
   cases h:Nat.blt a.toNat a.toNat with
   |false=>rfl
   |true=>exact absurd (fc.1 h) (O6 _)
  grind
theorem bT2(a b:UInt8)(x y:List UInt8):ij (a::x) (b::y)=true↔a.toNat<b.toNat\/a=b/\ij x y=true:=by
 show(bif Nat.blt a.toNat b.toNat then true else bif Nat.beq a.toNat b.toNat then ij x y else false)=true↔_;grind[fc,UInt8.toNat_inj,Z4]
theorem UB: ∀{x y z:List UInt8},ij x y=true->ij y z=true->ij x z=true
 |_,[],[],_,h=>by cases h
 |_,_::_,[],_,h=>by cases h
 | [],[],_,h,_=>by cases h
 |_::_,[],_,h,_=>by cases h
 | [],_::_,_::_,_,_=>rfl
 |a::x,b::y,c::z,h1,h2=>by
  rw[bT2]at*
  rcases h1 with h1|⟨rfl,h1⟩<;>rcases h2 with h2|⟨rfl,h2⟩
  .omega
  .omega
  .omega
  .exact .inr ⟨rfl,UB h1 h2⟩
theorem Lv: ∀{x y:List UInt8},ij x y=false->ij y x=false->x=y
 | [],[],_,_=>rfl
 | [],_::_,h,_=>by cases h
 |_::_,[],_,h=>by cases h
 |a::x,b::y,h1,h2=>by
  rw[<-B6,bT2]at h1 h2;have hab:a=b:=UInt8.toNat_inj.1 (by omega);subst hab;have:=Lv (x:=x) (y:=y) (by grind) (by grind);rw[this]
noncomputable def gz(p q:PaneM):Bool:=kO p.key q.key||decide (p.key=q.key)&&(decide (p.b<q.b)||decide (p.b=q.b)&&decide (p.a<q.a))
noncomputable def Gv(p q:PaneM):Int:=if kO p.key q.key then-1 else if kO q.key p.key then 1 else if p.b<q.b then-1 else if q.b<p.b then 1 else if p.a<q.a then-1 else if q.a<p.a then 1 else 0
theorem Gd(p q:PaneM):gz p q=true↔ij p.key q.key=true\/p.key=q.key/\(p.b<q.b\/p.b=q.b/\p.a<q.a):=by
 simp_all[gz,kO,u9,j6,decide_eq_true_eq]
theorem SD(p:PaneM):gz p p=false:=by
 rw[<-B6,Gd,Kx];simp
theorem b16{p q r:PaneM}(h1:gz p q=true)(h2:gz q r=true):gz p r=true:=by
 grind[Gd,UB]
theorem Pm{p q:PaneM}(h1:gz p q=false)(h2:gz q p=false):p=q:=by
 rw[<-B6,Gd]at h1 h2;obtain⟨a1,a2⟩:=not_or.1 h1;obtain⟨b1,b2⟩:=not_or.1 h2;have hk:=Lv (by rwa[<-B6]) (by rwa[<-B6]) (x:=p.key) (y:=q.key);obtain⟨k,a,b⟩:=p;obtain⟨k',a',b'⟩:=q;grind
theorem cL6(p q:PaneM):Gv p q<0↔gz p q=true:=by
 rw[Gd];unfold Gv kO;cases h1:ij p.key q.key with
 |true=>simp
 |false=>
  cases h2:ij q.key p.key with
  |true=>
   grind
  |false=>
   have hk:=Lv h1 h2;grind
theorem Ph{p q:PaneM}(h:gz p q=true):gz q p=false:=by
 grind[b16,SD]
theorem aP3{p q r:PaneM}(h1:gz p q=false)(h2:gz q r=false):gz p r=false:=by
 grind[gz,b16,Pm]
noncomputable def DN(a b:Val):Bool:=gz (Z6 a) (Z6 b)
def dy3(r:Val):Val:= .vl [Z7 r 0,Z7 r 1,Z7 r 2,Z7 r 3,Z7 r 4,Z7 r 5,Z7 r 6,Z7 r 7]
noncomputable def iK(x:Val):List Val->List Val
 | []=>[x]
 |y::r=>if DN x y then y::iK x r else x::y::r
noncomputable def nK(l:List Val):Nat->List Val
 |0=>[]
 |i+1=>iK (dy3 (cg l i)) (nK l i)
theorem zz(x:Val): ∀s:List Val,(iK x s).Perm (x::s)
 | []=> .refl _
 |y::r=>by
  unfold iK;split
  .exact((zz x r).cons y).trans (.swap x y r)
  rfl
theorem QH(l:List Val): ∀i,(nK l i).Perm ((List.range i).map λk=>dy3 (cg l k))
 |0=> .refl _
 |i+1=>by
  rw[R0,n8];exact(zz _ _).trans (((QH l i).cons _).trans (V3 _ _).symm)
theorem Eu(x:Val): ∀s:List Val,s.Pairwise (λa b=>DN a b=false)->(iK x s).Pairwise (λa b=>DN a b=false)
 | [],_=>by simp[iK]
 |y::r,h=>by
  unfold iK;rw[A6]at h;split
  .rename_i hl;rw[A6];refine⟨λz hz=> ?_,Eu x r h.2⟩;rcases m8.1 ((zz x r).mem_iff.1 hz)with rfl|hz
   .exact Ph hl
   grind
  .have hl:DN x y=false:=by grind
   rw[A6,A6];refine⟨λz hz=> ?_,h⟩;rcases m8.1 hz with rfl|hz
   .exact hl
   .exact aP3 hl (h.1 z hz)
theorem Sx(l:List Val): ∀i,(nK l i).Pairwise (λa b=>DN a b=false)
 |0=> .nil
 |i+1=>Eu _ _ (Sx l i)
theorem Tv{α O:Type}{f:α->O}: ∀{l:List α},(l.map f).Nodup-> ∀{a b:α},a∈l->b∈l->f a=f b->a=b
 | [],_,a,b,ha,_,_=>by cases ha
 |x::l,h,a,b,ha,hb,e=>by
  rw[l9,F7]at h;rcases m8.1 ha with h1|h1<;>rcases m8.1 hb with h2|h2
  .grind
  .grind
  .grind
  .exact Tv h.2 h1 h2 e
end Go.Ev
namespace Go.Ev.Tb
def isR(g:Int)(T:Int->Prop)(s e:Int):Prop:=T s/\T (e-g)/\s<=e-g/\ ∀t,T t->s<=t->t<e-g-> ∃t',T t'/\t<t'/\t'<t+g
def isS(g:Int)(T:Int->Prop)(s e:Int):Prop:=isR g T s e/\(∀t,T t->s-g<t->t<s->False)/\(∀t,T t->e-g<t->t<e->False)
def lap(s e s' e':Int):Prop:=s<e'/\s'<e
theorem isR.up{g:Int}{T:Int->Prop}{s e:Int}(h:isR g T s e)(y:Int)(h2:y<e-g): ∀(n:Nat) (x:Int),(y-x).toNat<=n->T x->s<=x->x<=y-> ∃x',T x'/\y<x'/\x'<y+g
 |n,x,hn,hx,h3,h4=>by
  obtain⟨x',a1,a2,a3⟩:=h.2.2.2 x hx h3 (by omega);by_cases hy:y<x'
  .exact⟨x',a1,hy,by omega⟩
  .cases n with
   |zero=>omega
   |succ n=>exact isR.up h y h2 n x' (by omega) a1 (by omega) (by omega)
theorem isR.next{g:Int}{T:Int->Prop}{s e:Int}(h:isR g T s e){y:Int}(h1:s<=y)(h2:y<e-g): ∃x',T x'/\y<x'/\x'<y+g:=
 h.up y h2 (y-s).toNat s (e9 _) h.1 (x5 _) h1
theorem isR.down{g:Int}{T:Int->Prop}{s e:Int}(h:isR g T s e)(y:Int)(h2:y<=e-g): ∀(n:Nat) (x:Int),(y-x).toNat<=n->T x->s<=x->x<y-> ∃x',T x'/\y-g<x'/\x'<y
 |n,x,hn,hx,h3,h4=>by
  obtain⟨x',a1,a2,a3⟩:=h.2.2.2 x hx h3 (by omega);by_cases hy:y<=x'
  .exact⟨x,hx,by omega,h4⟩
  .cases n with
   |zero=>omega
   |succ n=>exact isR.down h y h2 n x' (by omega) a1 (by omega) (by omega)
theorem isR.prev{g:Int}{T:Int->Prop}{s e:Int}(h:isR g T s e){y:Int}(h1:s<y)(h2:y<=e-g): ∃x',T x'/\y-g<x'/\x'<y:=
 h.down y h2 (y-s).toNat s (e9 _) h.1 (x5 _) h1
theorem isS.inn{g:Int}{T:Int->Prop}{s e s' e':Int}(h:isS g T s e)(h':isR g T s' e')(hl:lap s e s' e'):s<=s'/\e'<=e:=by
 obtain⟨l1,l2⟩:=hl;refine⟨?_,?_⟩
 .refine F8.1 λhc=> ?_
  by_cases hq:s<=e'-g
  .obtain⟨x,a1,a2,a3⟩:=h'.prev hc hq;exact h.2.1 x a1 a2 a3
  .exact h.2.1 (e'-g) h'.2.1 (by omega) (by omega)
 .refine F8.1 λhc=> ?_
  by_cases hq:s'<=e-g
  .obtain⟨x,a1,a2,a3⟩:=h'.next hq (by omega)
   exact h.2.2 x a1 a2 (by omega)
  .exact h.2.2 s' h'.1 (by omega) (by omega)
theorem isS.one{g:Int}{T:Int->Prop}{s e s' e':Int}(h:isS g T s e)(h':isS g T s' e')(hl:lap s e s' e'):s=s'/\e=e':=by
 have a:=h.inn h'.1 hl;have b:=h'.inn h.1 ⟨hl.2,hl.1⟩;omega
theorem isR.join{g:Int}{T:Int->Prop}{s e s' e':Int}(h:isR g T s e)(h':isR g T s' e')(hl:lap s e s' e'):isR g T (min s s') (max e e'):=by
 obtain⟨l1,l2⟩:=hl;have b:=h.2.2.1;have e1:min s s'=s\/min s s'=s':=by omega
 have e2:max e e'=e\/max e e'=e':=by omega
 refine⟨?_,?_,by omega,λt ht h1 h2=> ?_⟩
 .rcases e1 with q|q<;>rw[q]
  .exact h.1
  .exact h'.1
 .rcases e2 with q|q<;>rw[q]
  .exact h.2.1
  .exact h'.2.1
 .by_cases c1:s<=t/\t<e-g
  .exact h.2.2.2 t ht c1.1 c1.2
  .by_cases c2:s'<=t/\t<e'-g
   .exact h'.2.2.2 t ht c2.1 c2.2
   .by_cases c3:t<s
    .exact⟨s,h.1,c3,by omega⟩
    .exact⟨s',h'.1,by omega,by omega⟩
theorem isR.mono{g:Int}{T T':Int->Prop}{s e:Int}(h:isR g T s e)(hT: ∀x,T x->T' x)(hn: ∀t,T' t->s<=t->t<e-g->T t):isR g T' s e:=
 ⟨hT _ h.1,hT _ h.2.1,h.2.2.1,λt ht h1 h2=>by
  obtain⟨x,a1,a2,a3⟩:=h.2.2.2 t (hn t ht h1 h2) h1 h2;grind⟩
theorem isR.more{g:Int}{T T':Int->Prop}{s e:Int}(t:Int)(h:isR g T s e)(hT: ∀x,T' x↔T x\/x=t):isR g T' s e:=
 ⟨(hT _).2 (.inl h.1),(hT _).2 (.inl h.2.1),h.2.2.1,λx hx h1 h2=>by
   obtain⟨x',a1,a2,a3⟩:=h.next h1 h2
   grind⟩
theorem isR.own{g:Int}{T:Int->Prop}(t:Int)(ht:T t):isR g T t (t+g):=
 ⟨ht,by grind,by omega,λx _ h1 h2=>by omega⟩
def nowOf:Int->Int->List (Int×Int)->Int×Int
 |a,b,[]=>(a,b)
 |a,b,(s,e)::l=>nowOf (min a s) (max b e) l
def lapB(s e s' e':Int):Bool:=decide (s<e')&&decide (s'<e)
theorem vo{s e s' e':Int}:lapB s e s' e'=true↔lap s e s' e':=by simp[lapB,lap]
def joinedOf(g t:Int)(l:List (Int×Int)):List (Int×Int):=l.filter λp=>lapB p.1 p.2 t (t+g)
def sD(g t:Int)(l:List (Int×Int)):List (Int×Int):=l.filter λp=> !lapB p.1 p.2 t (t+g)
theorem bv3{g:Int}{T:Int->Prop}: ∀(l:List (Int×Int)) (a b:Int),(∀p∈l,isR g T p.1 p.2/\lap p.1 p.2 a b)->isR g T a b->isR g T (nowOf a b l).1 (nowOf a b l).2
 | [],a,b,h,h0=>h0
 |(s,e)::l,a,b,h,h0=>by
  have q:=h (s,e) (B8 ..);refine bv3 l _ _ (λp hp=>⟨(h p (y7 _ hp)).1,?_⟩) (h0.join q.1 ⟨q.2.2,q.2.1⟩);have r:=(h p (y7 _ hp)).2;exact⟨by have:=r.1;omega,by have:=r.2;omega⟩
theorem nowOf_le: ∀(l:List (Int×Int)) (a b:Int),(nowOf a b l).1<=a/\b<=(nowOf a b l).2/\ ∀p∈l,(nowOf a b l).1<=p.1/\p.2<=(nowOf a b l).2
 | [],a,b=>⟨x5 _,x5 _,λp hp=>absurd hp (E7)⟩
 |(s,e)::l,a,b=>by
  obtain⟨q1,q2,q3⟩:=nowOf_le l (min a s) (max b e);refine⟨by grind[nowOf,min,max],by grind[nowOf,min,max],λp hp=> ?_⟩;rcases m8.1 hp with rfl|hp
  .grind[nowOf,min,max]
  .exact q3 p hp
theorem WB: ∀(l:List (Int×Int)) (a b:Int),((nowOf a b l).1=a\/ ∃p∈l,(nowOf a b l).1=p.1)/\((nowOf a b l).2=b\/ ∃p∈l,(nowOf a b l).2=p.2)
 | [],a,b=>⟨.inl rfl,.inl rfl⟩
 |(s,e)::l,a,b=>by
  obtain⟨q1,q2⟩:=WB l (min a s) (max b e);grind[nowOf,min,max,List.mem_cons_self,List.mem_cons_of_mem]
def Ses(g:Int)(T:Int->Prop)(l:List (Int×Int)):Prop:=(∀s e,(s,e)∈l↔isS g T s e)/\ ∀t,T t-> ∃p∈l,p.1<=t/\t+g<=p.2
theorem db8(g:Int){T:Int->Prop}(hT: ∀x,¬T x):Ses g T []:=
 ⟨λs e=>⟨λh=>absurd h (E7),λh=>absurd h.1.1 (hT _)⟩,λt h=>absurd h (hT t)⟩
theorem Rf{g:Int}(hg:0<g){T T':Int->Prop}{l:List (Int×Int)}(t:Int)(h:Ses g T l)(hT: ∀x,T' x↔T x\/x=t):
 isS g T' (nowOf t (t+g) (joinedOf g t l)).1 (nowOf t (t+g) (joinedOf g t l)).2/\
 ∀s e,isS g T' s e↔(s,e)∈sD g t l\/(s,e)=nowOf t (t+g) (joinedOf g t l):=by
 have hj: ∀p,p∈joinedOf g t l↔p∈l/\lap p.1 p.2 t (t+g):=λp=>by rw[joinedOf,l6,vo]
 have hr: ∀p,p∈sD g t l↔p∈l/\ ¬lap p.1 p.2 t (t+g):=λp=>by
  rw[sD,l6,<-vo];simp
 generalize hJ:joinedOf g t l=J at hj;obtain⟨n1,n2,n3⟩:=nowOf_le J t (t+g);obtain⟨m1,m2⟩:=WB J t (t+g);have hrun:isR g T' (nowOf t (t+g) J).1 (nowOf t (t+g) J).2:=bv3 J t (t+g) (λp hp=>⟨isR.more t ((h.1 p.1 p.2).1 ((hj p).1 hp).1).1 hT,((hj p).1 hp).2⟩) (isR.own t ((hT t).2 (.inr rfl)));generalize nowOf t (t+g) J=N at n1 n2 n3 m1 m2 hrun;have hjoin: ∀p,p∈l->lap p.1 p.2 t (t+g)->N.1<=p.1/\p.2<=N.2:=λp h1 h2=>n3 p ((hj p).2 ⟨h1,h2⟩)
 have hS:isS g T' N.1 N.2:=by
  refine⟨hrun,λx hx h1 h2=> ?_,λx hx h1 h2=> ?_⟩
  .rcases(hT x).1 hx with hx|rfl
   .rcases m1 with q|⟨p,hp,q⟩
    .obtain⟨p,a1,a2,a3⟩:=h.2 x hx;have:=hjoin p a1 ⟨by omega,by omega⟩;omega
    .exact((h.1 p.1 p.2).1 ((hj p).1 hp).1).2.1 x hx (by omega) (by omega)
   .omega
  .rcases(hT x).1 hx with hx|rfl
   .rcases m2 with q|⟨p,hp,q⟩
    .obtain⟨p,a1,a2,a3⟩:=h.2 x hx;have:=hjoin p a1 ⟨by omega,by omega⟩;omega
    .exact((h.1 p.1 p.2).1 ((hj p).1 hp).1).2.2 x hx (by omega) (by omega)
   .omega
 refine⟨hS,λs e=>⟨λhs=> ?_,λhs=> ?_⟩⟩
 .by_cases hl:lap s e N.1 N.2
  .exact .inr (by
    have:=hs.one hS hl;exact C4 this.1 this.2)
  .have hno: ¬lap s e t (t+g):=λ⟨a,b⟩=>hl ⟨by omega,by omega⟩
   refine .inl ((hr (s,e)).2 ⟨(h.1 s e).2 ?_,hno⟩);have b:=hs.1.2.2.1;refine⟨⟨?_,?_,b,λx hx h1 h2=> ?_⟩,λx hx=>hs.2.1 x ((hT x).2 (.inl hx)),λx hx=>hs.2.2 x ((hT x).2 (.inl hx))⟩
   .rcases(hT s).1 hs.1.1 with a|a
    .exact a
    .exact absurd ⟨by omega,by omega⟩ hno
   .rcases(hT _).1 hs.1.2.1 with a|a
    .exact a
    .exact absurd ⟨by omega,by omega⟩ hno
   .obtain⟨x',a1,a2,a3⟩:=hs.1.2.2.2 x ((hT x).2 (.inl hx)) h1 h2;rcases(hT x').1 a1 with a|a
    .exact⟨x',a,a2,a3⟩
    .exact absurd ⟨by omega,by omega⟩ hno
 .rcases hs with hs|hs
  .obtain⟨a1,a2⟩:=(hr (s,e)).1 hs;have q:=(h.1 s e).1 a1;have b:=q.1.2.2.1;refine⟨isR.more t q.1 hT,λx hx h1 h2=> ?_,λx hx h1 h2=> ?_⟩
   .rcases(hT x).1 hx with c|c
    .exact q.2.1 x c h1 h2
    .exact a2 ⟨by omega,by omega⟩
   .rcases(hT x).1 hx with c|c
    .exact q.2.2 x c h1 h2
    .exact a2 ⟨by omega,by omega⟩
  .rw[<-hs]at hS;exact hS
theorem Se{g:Int}(hg:0<g){T T':Int->Prop}{l m:List (Int×Int)}(t:Int)(h:Ses g T l)(hT: ∀x,T' x↔T x\/x=t)
 (hm: ∀p,p∈m↔p∈sD g t l\/p=nowOf t (t+g) (joinedOf g t l)):Ses g T' m:=by
 obtain⟨h1,h2⟩:=Rf hg t h hT;obtain⟨n1,n2,n3⟩:=nowOf_le (joinedOf g t l) t (t+g);refine⟨λs e=>by rw[hm,h2],λx hx=> ?_⟩;rcases(hT x).1 hx with a|a
 .obtain⟨p,b1,b2,b3⟩:=h.2 x a;by_cases c:lap p.1 p.2 t (t+g)
  .have:=n3 p (by rw[joinedOf,l6,vo];exact⟨b1,c⟩);exact⟨_,(hm _).2 (.inr rfl),by omega,by omega⟩
  .exact⟨p,(hm _).2 (.inl (by rw[sD,l6,y6,<-B6,vo];exact⟨b1,c⟩)),b2,b3⟩
 grind
theorem ses_runs{g:Int}(hg:0<g){T:Int->Prop}{l:List (Int×Int)}(h1: ∀p∈l,isR g T p.1 p.2)(h2: ∀t,T t-> ∃p∈l,p.1<=t/\t+g<=p.2)
 (h3: ∀p∈l,∀q∈l,lap p.1 p.2 q.1 q.2->p=q):Ses g T l:=by
 have hs: ∀p∈l,isS g T p.1 p.2:=λp hp=>by
  have b:=(h1 p hp).2.2.1;refine⟨h1 p hp,λx hx a1 a2=> ?_,λx hx a1 a2=> ?_⟩
  .obtain⟨q,c1,c2,c3⟩:=h2 x hx;have:=h3 p hp q c1 ⟨by omega,by omega⟩;subst this;omega
  .obtain⟨q,c1,c2,c3⟩:=h2 x hx;have:=h3 p hp q c1 ⟨by omega,by omega⟩;subst this;omega
 refine⟨λs e=>⟨λh=>hs (s,e) h,λh=> ?_⟩,h2⟩;obtain⟨q,c1,c2,c3⟩:=h2 s h.1.1;have b:=h.1.2.2.1;have:=h.one (hs q c1) ⟨by omega,by omega⟩;grind
abbrev Ag:=Int×Int×Int×Int
def sumI:List Int->Int
 | []=>0
 |x::l=>x+sumI l
def minI:List Int->Int
 | []=>0
 |x::l=>l.foldl min x
def maxI:List Int->Int
 | []=>0
 |x::l=>l.foldl max x
def agOf(l:List Int):Ag:=((l.length:Int),sumI l,minI l,maxI l)
theorem YV: ∀(l:List Int) (x:Int),l.foldl min x<=x/\(∀y∈l,l.foldl min x<=y)/\(l.foldl min x=x\/l.foldl min x∈l)
 | [],x=>⟨x5 _,λy h=>absurd h (E7),.inl rfl⟩
 |a::l,x=>by
  obtain⟨h1,h2,h3⟩:=YV l (min x a);refine⟨by show l.foldl min (min x a)<=x;omega,λy hy=> ?_,?_⟩
  .rcases m8.1 hy with rfl|hy
   .show l.foldl min (min x y)<=y;omega
   .exact h2 y hy
  grind
theorem WM: ∀(l:List Int) (x:Int),x<=l.foldl max x/\(∀y∈l,y<=l.foldl max x)/\(l.foldl max x=x\/l.foldl max x∈l)
 | [],x=>⟨x5 _,λy h=>absurd h (E7),.inl rfl⟩
 |a::l,x=>by
  obtain⟨h1,h2,h3⟩:=WM l (max x a);refine⟨by show x<=l.foldl max (max x a);omega,λy hy=> ?_,?_⟩
  .rcases m8.1 hy with rfl|hy
   .show y<=l.foldl max (max x y);omega
   .exact h2 y hy
  grind
theorem minI_spec{l:List Int}(h:l≠[]):minI l∈l/\ ∀x∈l,minI l<=x:=by
 match l,h with
 |a::l,_=>
  obtain⟨h1,h2,h3⟩:=YV l a;refine⟨?_,λx hx=> ?_⟩
  .rcases h3 with h|h
   .exact m8.2 (.inl h)
   .exact y7 _ h
  .rcases m8.1 hx with rfl|hx
   .exact h1
   .exact h2 x hx
theorem maxI_spec{l:List Int}(h:l≠[]):maxI l∈l/\ ∀x∈l,x<=maxI l:=by
 match l,h with
 |a::l,_=>
  obtain⟨h1,h2,h3⟩:=WM l a;refine⟨?_,λx hx=> ?_⟩
  .rcases h3 with h|h
   .exact m8.2 (.inl h)
   .exact y7 _ h
  .rcases m8.1 hx with rfl|hx
   .exact h1
   .exact h2 x hx
theorem cp9{l:List Int}{m:Int}(h1:m∈l)(h2: ∀x∈l,m<=x):minI l=m:=by
 grind[minI_spec,List.ne_nil_of_mem,Int.le_antisymm]
theorem cq0{l:List Int}{m:Int}(h1:m∈l)(h2: ∀x∈l,x<=m):maxI l=m:=by
 grind[maxI_spec,List.ne_nil_of_mem,Int.le_antisymm]
theorem sumI_app: ∀a b:List Int,sumI (a++b)=sumI a+sumI b
 | [],b=>by simp[sumI]
 |x::a,b=>by show x+sumI (a++b)=x+sumI a+sumI b;rw[sumI_app a b];omega
theorem cq1{a b:List Int}(h:a.Perm b):sumI a=sumI b:=by
 induction h with
 |nil=>rfl
 |cons x _ ih=>show x+_=x+_;rw[ih]
 |swap x y l=>grind[sumI]
 |trans _ _ h1 h2=>omega
theorem bv4{a b:List Int}(h:a.Perm b):agOf a=agOf b:=by
 by_cases hb:b=[]
 .simp_all
 .obtain⟨m1,m2⟩:=minI_spec hb;obtain⟨x1,x2⟩:=maxI_spec hb;unfold agOf;rw[h.length_eq,cq1 h,cp9 (h.mem_iff.2 m1) (λx hx=>m2 x (h.mem_iff.1 hx)),cq0 (h.mem_iff.2 x1) (λx hx=>x2 x (h.mem_iff.1 hx))]
def ag2(a b:Ag):Ag:=(a.1+b.1,a.2.1+b.2.1,min a.2.2.1 b.2.2.1,max a.2.2.2 b.2.2.2)
theorem bT4{a b:List Int}(ha:a≠[])(hb:b≠[]):agOf (a++b)=ag2 (agOf a) (agOf b):=by
 obtain⟨m1,m2⟩:=minI_spec ha;obtain⟨m3,m4⟩:=minI_spec hb;obtain⟨x1,x2⟩:=maxI_spec ha;obtain⟨x3,x4⟩:=maxI_spec hb;have e1:minI (a++b)=min (minI a) (minI b):=cp9 (by
  grind) (λx hx=>by
  grind)
 have e2:maxI (a++b)=max (maxI a) (maxI b):=cq0 (by
  grind) (λx hx=>by
  grind)
 show(((a++b).length:Int),sumI (a++b),minI (a++b),maxI (a++b))=_;rw[e1,e2,sumI_app,k5,Int.natCast_add];rfl
def agAll:List Ag->Ag
 | []=>(0,0,0,0)
 |a::l=>l.foldl ag2 a
theorem cV1{α:Type}(f:α->List Int): ∀(l:List α) (a:List Int),a≠[]->(∀x∈l,f x≠[])->(l.map λx=>agOf (f x)).foldl ag2 (agOf a)=agOf (a++l.flatMap f)
 | [],a,ha,h=>by simp
 |x::l,a,ha,h=>by
  show(l.map λx=>agOf (f x)).foldl ag2 (ag2 (agOf a) (agOf (f x)))=_;rw[<-bT4 ha (h x (B8 ..)),cV1 f l (a++f x) (by simp[ha]) (λy hy=>h y (y7 _ hy)),B7,A5]
theorem bv5{α:Type}(p q:α->Bool): ∀l:List α,(∀x∈l,p x=true->q x=true->False)->(l.filter λx=>p x||q x).Perm (l.filter p++l.filter q)
 | [],h=>O5 _
 |x::l,h=>by
  have ih:=bv5 p q l (λy hy=>h y (y7 _ hy));rw[A0,A0 (p:=p),A0 (p:=q)];cases hp:p x<;>cases hq:q x<;>simp only[R7,Bool.or_true,s6,if_true,if_false,Bool.or_self]
  .exact ih
  .exact(List.Perm.cons x ih).trans List.perm_middle.symm
  .exact List.Perm.cons x ih
  grind
theorem bb9{α O:Type}(f:O->α->Bool)(l:List α): ∀J:List O,J.Pairwise (λa b=> ∀x∈l,f a x=true->f b x=true->False)->(l.filter λx=>J.any λp=>f p x).Perm (J.flatMap λp=>l.filter (f p))
 | [],h=>by simp
 |p::J,h=>by
  obtain⟨h1,h2⟩:=A6.1 h;have:=bv5 (f p) (λx=>J.any λp=>f p x) l (λx hx a b=>by
   grind)
  exact this.trans (S6 _ (bb9 f l J h2))
variable{K:Type} [DecidableEq K]
inductive Wd
 |ses (g:Int)
 |win (P:Int->Int->Prop)
abbrev Evt(K:Type):=K×Int×Int
def tms(l:List (Evt K))(k:K)(t:Int):Prop:= ∃x∈l,x.1=k/\x.2.1=t
def inP(k:K)(s e:Int)(x:Evt K):Bool:=decide (x.1=k)&&decide (s<=x.2.1)&&decide (x.2.1<e)
theorem inP_iff{k:K}{s e:Int}{x:Evt K}:inP k s e x=true↔x.1=k/\s<=x.2.1/\x.2.1<e:=by simp[inP,and_assoc]
def vals(l:List (Evt K))(k:K)(s e:Int):List Int:=(l.filter (inP k s e)).map (·.2.2)
def Pan:Wd->List (Evt K)->K->Int->Int->Prop
 | .ses g,l,k,s,e=>isS g (tms l k) s e
 | .win P,l,k,s,e=>P s e/\ ∃t,tms l k t/\s<=t/\t<e
def Tab(W:Wd)(l:List (Evt K))(M:K->Int->Int->Option Ag):Prop:= ∀k s e a,M k s e=some a↔Pan W l k s e/\a=agOf (vals l k s e)
theorem Tab.none{W:Wd}{l:List (Evt K)}{M:K->Int->Int->Option Ag}(h:Tab W l M){k:K}{s e:Int}:M k s e=none↔ ¬Pan W l k s e:=by
 cases hm:M k s e with
 |none=>exact⟨λ_ hp=>(by have:=(h k s e _).2 ⟨hp,rfl⟩;grind),λ_=>rfl⟩
 |some a=>exact⟨λx=>(by cases x),λx=>absurd ((h k s e a).1 hm).1 x⟩
theorem Tab.uniq{W:Wd}{l:List (Evt K)}{M M':K->Int->Int->Option Ag}(h:Tab W l M)(h':Tab W l M')(k:K)(s e:Int):M k s e=M' k s e:=by
 cases hm:M' k s e with
 |none=>exact h.none.2 (h'.none.1 hm)
 |some a=>exact(h k s e a).2 ((h' k s e a).1 hm)
omit [DecidableEq K]in
theorem tms_app(l:List (Evt K))(o:Evt K)(k:K)(t:Int):tms (l++[o]) k t↔tms l k t\/(o.1=k/\t=o.2.1):=by
 constructor
 .rintro⟨x,hx,h1,h2⟩;rcases z8.1 hx with h|h
  .exact .inl ⟨x,h,h1,h2⟩
  grind
 .rintro(⟨x,hx,h1,h2⟩|⟨h1,h2⟩)
  .exact⟨x,z8.2 (.inl hx),h1,h2⟩
  .exact⟨o,z8.2 (.inr (n5.2 rfl)),h1,h2.symm⟩
theorem vals_app(l:List (Evt K))(o:Evt K)(k:K)(s e:Int):vals (l++[o]) k s e=vals l k s e++(if inP k s e o then [o.2.2]else []):=by
 unfold vals;cases h:inP k s e o<;>simp[A0,h]
theorem cq2{l m:List (Evt K)}(h:l.Perm m)(k:K)(s e:Int):(vals l k s e).Perm (vals m k s e):=(h.filter _).map _
omit [DecidableEq K]in
theorem cL7{l m:List (Evt K)}(h:l.Perm m)(k:K):tms l k=tms m k:=by
 funext t;exact propext ⟨λ⟨x,a,b⟩=>⟨x,h.mem_iff.1 a,b⟩,λ⟨x,a,b⟩=>⟨x,h.mem_iff.2 a,b⟩⟩
theorem Tab.perm{W:Wd}{l m:List (Evt K)}{M:K->Int->Int->Option Ag}(h:Tab W l M)(hp:l.Perm m):Tab W m M:=λk s e a=>by
 rw[h k s e a,bv4 (cq2 hp k s e)];cases W<;>simp only[Pan,cL7 hp k]
theorem cq3{l:List (Evt K)}{k:K}{s e t:Int}(h:tms l k t)(h1:s<=t)(h2:t<e):vals l k s e≠[]:=by
 obtain⟨x,a,b,c⟩:=h;exact S5 (j7.2 ⟨x,l6.2 ⟨a,inP_iff.2 ⟨b,by omega,by omega⟩⟩,rfl⟩)
theorem cL8{l:List (Evt K)}{k:K}{s e:Int}(h: ∀t,tms l k t->s<=t->t<e->False):vals l k s e=[]:=by
 unfold vals;rw[R8.2 λx hx hc=> ?_,O3];obtain⟨a,b,c⟩:=inP_iff.1 hc;exact h _ ⟨x,hx,a,rfl⟩ b c
theorem Pan.ne{W:Wd}{l:List (Evt K)}{k:K}{s e:Int}(hg: ∀g,W= .ses g->0<g)(h:Pan W l k s e):vals l k s e≠[]:=by
 cases W with
 |ses g=>exact cq3 h.1.1 (x5 _) (by have:=h.1.2.2.1;grind)
 |win P=>obtain⟨_,t,a,b,c⟩:=h;exact cq3 a b c
theorem tab_nil(W:Wd):Tab W ([]:List (Evt K)) (λ_ _ _=>none):=λk s e a=>by
 refine⟨λh=>(by cases h),λh=> ?_⟩;cases W with
 |ses g=>obtain⟨x,hx,_⟩:=h.1.1.1;cases hx
 |win P=>obtain⟨_,t,⟨x,hx,_⟩,_⟩:=h.1;cases hx
def putA(a:Option Ag)(v:Int):Ag:=match a with|none=>agOf [v]|some a=>ag2 a (agOf [v])
theorem tab_win{P:Int->Int->Prop}{l:List (Evt K)}{M M':K->Int->Int->Option Ag}(o:Evt K)(h:Tab (.win P) l M)
 (h1: ∀k s e,(k=o.1/\P s e/\s<=o.2.1/\o.2.1<e)->M' k s e=some (putA (M k s e) o.2.2))
 (h2: ∀k s e,¬(k=o.1/\P s e/\s<=o.2.1/\o.2.1<e)->M' k s e=M k s e):Tab (.win P) (l++[o]) M':=by
 intro k s e a;by_cases c:k=o.1/\P s e/\s<=o.2.1/\o.2.1<e
 .obtain⟨rfl,hP,c1,c2⟩:=c;have hin:inP o.1 s e o=true:=inP_iff.2 ⟨rfl,c1,c2⟩;have hp:Pan (.win P) (l++[o]) o.1 s e:=⟨hP,o.2.1,(tms_app ..).2 (.inr ⟨rfl,rfl⟩),c1,c2⟩;have hv:putA (M o.1 s e) o.2.2=agOf (vals (l++[o]) o.1 s e):=by
   rw[vals_app,e8 hin];cases hm:M o.1 s e with
   |none=>
    have hn:=h.none.1 hm;rw[cL8 λt a b c=>hn ⟨hP,t,a,b,c⟩];rfl
   |some b=>
    obtain⟨q1,q2⟩:=(h _ _ _ _).1 hm;rw[bT4 (Pan.ne (λg hg=>by cases hg) q1) (by simp),<-q2];rfl
  grind
 .rw[h2 k s e c,h k s e a];have hpan:Pan (.win P) (l++[o]) k s e↔Pan (.win P) l k s e:=by
   constructor
   .rintro⟨hP,t,a,b,d⟩;rcases(tms_app ..).1 a with a|a
    .exact⟨hP,t,a,b,d⟩
    grind
   .rintro⟨hP,t,a,b,d⟩;exact⟨hP,t,(tms_app ..).2 (.inl a),b,d⟩
  rw[hpan];refine and_congr_right λhp=> ?_
  rw[vals_app,b9 λhc=> ?_,s8];obtain⟨q1,q2,q3⟩:=inP_iff.1 hc;exact c ⟨q1.symm,hp.1,q2,q3⟩
theorem cq4{g:Int}(hg:0<g){l:List (Evt K)}{k:K}{t:Int}{L:List (Int×Int)}(hL:Ses g (tms l k) L)(hn:L.Nodup):
 (vals l k (nowOf t (t+g) (joinedOf g t L)).1 (nowOf t (t+g) (joinedOf g t L)).2).Perm ((joinedOf g t L).flatMap λp=>vals l k p.1 p.2):=by
 have hT': ∀x,(tms l k x\/x=t)↔tms l k x\/x=t:=λ_=>Iff.rfl
 obtain⟨h1,h2⟩:=Rf (T':=λx=>tms l k x\/x=t) hg t hL hT';obtain⟨n1,n2,n3⟩:=nowOf_le (joinedOf g t L) t (t+g);have hj: ∀p,p∈joinedOf g t L↔p∈L/\lap p.1 p.2 t (t+g):=λp=>by rw[joinedOf,l6,vo]
 have hJn:(joinedOf g t L).Pairwise (λa b=> ∀x∈l,inP k a.1 a.2 x=true->inP k b.1 b.2 x=true->False):=by
  have hnd:(joinedOf g t L).Nodup:=hn.filter _;refine List.Pairwise.imp_of_mem (λ{a b} ha hb hne x hx i1 i2=>hne ?_) hnd;obtain⟨_,a1,a2⟩:=inP_iff.1 i1;obtain⟨_,b1,b2⟩:=inP_iff.1 i2;have:=((hL.1 a.1 a.2).1 ((hj a).1 ha).1).one ((hL.1 b.1 b.2).1 ((hj b).1 hb).1) ⟨by omega,by omega⟩;grind
 have hfil:l.filter (inP k (nowOf t (t+g) (joinedOf g t L)).1 (nowOf t (t+g) (joinedOf g t L)).2)=l.filter λx=>(joinedOf g t L).any λp=>inP k p.1 p.2 x:=by
  refine List.filter_congr λx hx=> ?_
  rw[C0,I6];constructor
  .intro h;obtain⟨a1,a2,a3⟩:=inP_iff.1 h;obtain⟨p,b1,b2,b3⟩:=hL.2 x.2.1 ⟨x,hx,a1,rfl⟩;refine⟨p,(hj p).2 ⟨b1,?_⟩,inP_iff.2 ⟨a1,b2,by omega⟩⟩;by_cases c:lap p.1 p.2 t (t+g)
   .exact c
   .exfalso;have hr:p∈sD g t L:=by rw[sD,l6,y6,<-B6,vo];exact⟨b1,c⟩
    have hs:=(h2 p.1 p.2).2 (.inl hr);have e:=h1.one hs ⟨by omega,by omega⟩;exact c ⟨by omega,by omega⟩
  grind[inP_iff]
 unfold vals;rw[hfil];refine((bb9 (λ(p:Int×Int) x=>inP k p.1 p.2 x) l _ hJn).map _).trans ?_;rw[List.map_flatMap]
theorem ses_ex{g:Int}(hg:0<g)(k:K): ∀l:List (Evt K),∃L,Ses g (λt=> ∃x∈l,x.1=k/\x.2.1=t) L
 | []=>⟨[],db8 g (λx ⟨_,h,_⟩=>by cases h)⟩
 |o::l=>by
  obtain⟨L,h⟩:=ses_ex hg k l;by_cases ho:o.1=k
  .exact⟨nowOf o.2.1 (o.2.1+g) (joinedOf g o.2.1 L)::sD g o.2.1 L,Se hg o.2.1 h (λx=>⟨λ⟨y,a,b,c⟩=>by
    grind,λhx=>by
    grind⟩) (λp=>by grind)⟩
  .refine⟨L,?_⟩;grind
theorem tab_ses{g:Int}(hg:0<g){l:List (Evt K)}{M M':K->Int->Int->Option Ag}(o:Evt K){L:List (Int×Int)}(h:Tab (.ses g) l M)
 (hL: ∀s e,(s,e)∈L↔M o.1 s e≠none) (hn:L.Nodup)
 (h1: ∀s e,(s,e)=nowOf o.2.1 (o.2.1+g) (joinedOf g o.2.1 L)->M' o.1 s e=some (agAll (agOf [o.2.2]::(joinedOf g o.2.1 L).map λp=>(M o.1 p.1 p.2).getD (0,0,0,0))))
 (h2: ∀s e,(s,e)≠nowOf o.2.1 (o.2.1+g) (joinedOf g o.2.1 L)->(s,e)∈joinedOf g o.2.1 L->M' o.1 s e=none)
 (h3: ∀k s e,k≠o.1\/((s,e)≠nowOf o.2.1 (o.2.1+g) (joinedOf g o.2.1 L)/\(s,e)∉joinedOf g o.2.1 L)->M' k s e=M k s e):Tab (.ses g) (l++[o]) M':=by
 have hcov: ∀t,tms l o.1 t-> ∃p∈L,p.1<=t/\t+g<=p.2:=λt ht=>by
  obtain⟨L',h1,h2⟩:=ses_ex hg o.1 l;obtain⟨p,a,b,c⟩:=h2 t ht;exact⟨p,(hL p.1 p.2).2 λhm=>h.none.1 hm ((h1 p.1 p.2).1 a),b,c⟩
 have hS:Ses g (tms l o.1) L:=⟨λs e=>by
  rw[hL,ne_eq,h.none];exact Classical.not_not,hcov⟩
 have hT: ∀x,tms (l++[o]) o.1 x↔tms l o.1 x\/x=o.2.1:=λx=>by rw[tms_app];simp
 obtain⟨q1,q2⟩:=Rf hg o.2.1 hS hT;obtain⟨n1,n2,n3⟩:=nowOf_le (joinedOf g o.2.1 L) o.2.1 (o.2.1+g);have hj: ∀p,p∈joinedOf g o.2.1 L↔p∈L/\lap p.1 p.2 o.2.1 (o.2.1+g):=λp=>by rw[joinedOf,l6,vo]
 have hr: ∀p,p∈sD g o.2.1 L↔p∈L/\ ¬lap p.1 p.2 o.2.1 (o.2.1+g):=λp=>by
  rw[sD,l6,<-vo];simp
 have hvj:=cq4 hg (t:=o.2.1) hS hn;intro k s e a;by_cases hk:k=o.1
 .subst hk;by_cases c:(s,e)=nowOf o.2.1 (o.2.1+g) (joinedOf g o.2.1 L)
  .rw[h1 s e c];have hp:Pan (.ses g) (l++[o]) o.1 s e:=(q2 s e).2 (.inr c);have hv:agAll (agOf [o.2.2]::(joinedOf g o.2.1 L).map λp=>(M o.1 p.1 p.2).getD (0,0,0,0))=agOf (vals (l++[o]) o.1 s e):=by
    have e1:((joinedOf g o.2.1 L).map λp=>(M o.1 p.1 p.2).getD (0,0,0,0))=(joinedOf g o.2.1 L).map λp=>agOf (vals l o.1 p.1 p.2):=by
     refine s9 λp hp=> ?_
     have:=(h o.1 p.1 p.2 _).2 ⟨(hS.1 p.1 p.2).1 ((hj p).1 hp).1,rfl⟩;rw[this];rfl
    show((joinedOf g o.2.1 L).map λp=>(M o.1 p.1 p.2).getD (0,0,0,0)).foldl ag2 (agOf [o.2.2])=_;rw[e1,cV1 (λ(p:Int×Int)=>vals l o.1 p.1 p.2) _ _ (by simp) (λ(p:Int×Int) hp=>Pan.ne (W:= .ses g) (l:=l) (k:=o.1) (s:=p.1) (e:=p.2) (λ_ e=>by cases e;exact hg) ((hS.1 p.1 p.2).1 ((hj p).1 hp).1))];rw[vals_app,e8 (inP_iff.2 ⟨rfl,by rw[<-c]at n1;exact n1,by rw[<-c]at n2;omega⟩)];rw[<-c]at hvj;exact bv4 ((List.Perm.cons _ hvj.symm).trans (V3 _ _).symm)
   rw[hv];exact⟨λhh=>⟨hp,by cases hh;rfl⟩,λhh=>by rw[hh.2]⟩
  .by_cases d:(s,e)∈joinedOf g o.2.1 L
   .rw[h2 s e c d];refine⟨λhh=>(by cases hh),λhh=> ?_⟩;rcases(q2 s e).1 hh.1 with x|x
    .exact absurd ((hj _).1 d).2 ((hr _).1 x).2
    .exact absurd x c
   .rw[h3 o.1 s e (.inr ⟨c,d⟩),h o.1 s e a];have hpan:Pan (.ses g) (l++[o]) o.1 s e↔Pan (.ses g) l o.1 s e:=by
     show isS g _ s e↔isS g _ s e;rw[q2 s e,<-hS.1 s e,hr];constructor
     .rintro(x|x)
      .exact x.1
      .exact absurd x c
     .intro x;exact .inl ⟨x,λy=>d ((hj _).2 ⟨x,y⟩)⟩
    rw[hpan];refine and_congr_right λhp=> ?_
    rw[vals_app,b9 λhc=> ?_,s8];obtain⟨z1,z2,z3⟩:=inP_iff.1 hc;exact d ((hj _).2 ⟨(hS.1 s e).2 hp,by omega,z3⟩)
 .rw[h3 k s e (.inl hk),h k s e a];have ht:tms (l++[o]) k=tms l k:=by
   funext x;refine propext ⟨λhx=> ?_,λhx=>(tms_app ..).2 (.inl hx)⟩;rcases(tms_app ..).1 hx with y|y
   .exact y
   .exact absurd y.1.symm hk
  rw[vals_app,b9 λhc=>hk (inP_iff.1 hc).1.symm,s8];simp[Pan,ht]
end Go.Ev.Tb
namespace Go.Ev.Tb
def sumN:List Nat->Nat
 | []=>0
 |x::l=>x+sumN l
theorem Wq{α:Type}: ∀l:List α,sumN (l.map λ_=>0)=0
 | []=>rfl
 |a::l=>by show 0+sumN (l.map λ_=>0)=0;rw[Wq l]
theorem bT5{α:Type}(f g:α->Nat): ∀l:List α,sumN (l.map λx=>f x+g x)=sumN (l.map f)+sumN (l.map g)
 | []=>rfl
 |a::l=>by
  show f a+g a+sumN (l.map λx=>f x+g x)=f a+sumN (l.map f)+(g a+sumN (l.map g));rw[bT5 f g l];omega
theorem bT6{α:Type}(p:α->Bool): ∀l:List α,sumN (l.map λx=>if p x then 1 else 0)=(l.filter p).length
 | []=>rfl
 |a::l=>by
  show(if p a then 1 else 0)+sumN (l.map λx=>if p x then 1 else 0)=_;rw[bT6 p l,A0];grind
theorem twice{α O:Type}(f:O->α->Bool)(l:List α): ∀R:List O,sumN (R.map λp=>(l.filter (f p)).length)=sumN (l.map λx=>(R.filter λp=>f p x).length)
 | []=>by
   grind[sumN,Wq]
 |p::R=>by
  show(l.filter (f p)).length+sumN (R.map λp=>(l.filter (f p)).length)=_;rw[twice f l R,<-bT6 (f p) l,<-bT5];grind
end Go.Ev.Tb
namespace Go.Ev
open Go
def Lf:SX:= zb (zl 0) 1000000
def LY:VT:= .ite (zs aM (zl 0)) (.need (Lf) (.ret 0 [aN])) (.both (.ret 0 [cu]) (.need (Lf) (.ret 0 [aN])))
def Kz:VT:= .ite (zs aV aS) (.need (zn (zp (za aU aV)) (zs (za aU aV) aO)) (.need (zs (za aU aV) (zl 2001)) (.need (zn (zp (za aT aV)) (zs (za aT aV) aO)) (.need (zs (za aT aV) (zl 2001)) (.need (zs (za aU aV) (zL (.op .lset [aR,za aT aV,.op .row [cj aR (za aU aV) 0,cj aR (za aU aV) 1,cj aR (za aU aV) 2,cj aR (za aU aV) 3,cj aR (za aU aV) 4,cj aR (za aU aV) 5,cj aR (za aU aV) 6]]))) (.ret 0 [zi aV,.op .lset [.op .lset [aR,za aT aV,.op .row [cj aR (za aU aV) 0,cj aR (za aU aV) 1,cj aR (za aU aV) 2,cj aR (za aU aV) 3,cj aR (za aU aV) 4,cj aR (za aU aV) 5,cj aR (za aU aV) 6]],za aU aV,.op .row [cj aR (za aT aV) 0,cj aR (za aT aV) 1,cj aR (za aT aV) 2,cj aR (za aT aV) 3,cj aR (za aT aV) 4,cj aR (za aT aV) 5,cj aR (za aT aV) 6]]])))))) (.ret 1 [aV,aR])
def cq5:VT:= .loop ⟨452,[aM,aN],2000,[aO,aN,aT,aU,aS]⟩ Kz [.ret 0 [zo (.app 452 [aM,aN,aO,aN,aT,aU,aS]) 1]]
def Mv:SX:= zs aT bI
def sL:SX:= zs aO bi
def tj:SX:= fV aO bi
def MW:SX:= fV aT bI
def Kn:VT:= .ite (.op (.scmp .lss) [aN,bf]) (.ite (Mv) (.ite (sL) (.ret 0 [.ci (-1)]) (.ite (tj) (.ret 0 [.ci (-1)]) (.ret 0 [.ci (-1)]))) (.ite (MW) (.ite (sL) (.ret 0 [.ci (-1)]) (.ite (tj) (.ret 0 [.ci (-1)]) (.ret 0 [.ci (-1)]))) (.ite (sL) (.ret 0 [.ci (-1)]) (.ite (tj) (.ret 0 [.ci (-1)]) (.ret 0 [.ci (-1)]))))) (.ite (.op (.scmp .gtr) [aN,bf]) (.ite (Mv) (.ite (sL) (.ret 0 [aZ]) (.ite (tj) (.ret 0 [aZ]) (.ret 0 [aZ]))) (.ite (MW) (.ite (sL) (.ret 0 [aZ]) (.ite (tj) (.ret 0 [aZ]) (.ret 0 [aZ]))) (.ite (sL) (.ret 0 [aZ]) (.ite (tj) (.ret 0 [aZ]) (.ret 0 [aZ]))))) (.ite (Mv) (.ite (sL) (.ret 0 [.ci (-1)]) (.ite (tj) (.ret 0 [.ci (-1)]) (.ret 0 [.ci (-1)]))) (.ite (MW) (.ite (sL) (.ret 0 [aZ]) (.ite (tj) (.ret 0 [aZ]) (.ret 0 [aZ]))) (.ite (sL) (.ret 0 [.ci (-1)]) (.ite (tj) (.ret 0 [aZ]) (.ret 0 [aM]))))))
def RR:VT:= .ite (cZ aV aR) (.ite (fV aV aR) (.need (.app 420 [aW,aO,zm aU aV,aU,aR]) (.ret 0 [zm aV aR,aR,.app 421 [aW,zm aU aV,aU,aR]])) (.need (.app 420 [aW,aO,zm aU aV,zm (za aU aR) aV,aV]) (.ret 0 [aV,zm aR aV,.app 421 [aW,zm aU aV,zm (za aU aR) aV,aV]]))) (.ret 1 [aV,aR,aW])
def HK:SX:= zm aU aT
def GF:SX:= zm aS aU
def HT:SX:= .app 458 [HK,GF,aN,aO,aN,aU]
def Fc:SX:= zo HT 2
def AN:SX:= zo HT 0
def Ge:SX:= zm aU AN
def cV2:VT:= .loop ⟨458,[HK,GF,aN],2000,[aO,aN,aU]⟩ RR [.need (.app 420 [Fc,aO,Ge,aU,AN]) (.ret 0 [.app 421 [Fc,Ge,aU,AN]])]
def AF:VT:= .ite (fV aY aT) (.need (zn (zp aY) (zs aY aO)) (.need (zs aY (zl 3001)) (.need (zn (zp (zm aY aZ)) (zs (zm aY aZ) aO)) (.need (zs (zm aY aZ) (zl 3001)) (.ite (zs (.app 206 [zg 3001 3000 0,zg 3001 3000 1,zg 3001 3000 2,cj bc (zm aY aZ) 0,cj bc (zm aY aZ) 1,cj bc (zm aY aZ) 2]) aM) (.need (zs (zm aY aZ) (zL (.op .lset [bc,aY,.op .row [cj bc (zm aY aZ) 0,cj bc (zm aY aZ) 1,cj bc (zm aY aZ) 2,cj bc (zm aY aZ) 3,cj bc (zm aY aZ) 4,cj bc (zm aY aZ) 5,cj bc (zm aY aZ) 6]]))) (.ret 0 [zm aY aZ,.op .lset [.op .lset [bc,aY,.op .row [cj bc (zm aY aZ) 0,cj bc (zm aY aZ) 1,cj bc (zm aY aZ) 2,cj bc (zm aY aZ) 3,cj bc (zm aY aZ) 4,cj bc (zm aY aZ) 5,cj bc (zm aY aZ) 6]],zm aY aZ,zv 3001 3000]])) (.ret 1 [aY,bc])))))) (.ret 1 [aY,bc])
def IJ:VT:= .ite (zs aV aU) (.loop ⟨461,[aV,aR],3000,[aO,aR,aT,aU,aV]⟩ AF [.ret 0 [zi aV,zo (.app 461 [aV,aR,aO,aR,aT,aU,aV]) 1]]) (.ret 1 [aV,aR])
def BI:SX:= zi aT
def Xv:VT:= .loop ⟨460,[BI,aN],2000,[aO,aN,aT,aU]⟩ IJ [.ret 0 [zo (.app 460 [BI,aN,aO,aN,aT,aU]) 1]]
def GT:VT:= .ite (zs aV aR) (.need (zn (zp (zh aV aR)) (zs (zh aV aR) aO)) (.need (zs (zh aV aR) (zl 0)) (.need (zn (zp aT) (zs aT aO)) (.need (zs aT (zl 0)) (.ite (zs (.app 206 [cj aN (zh aV aR) 0,cj aN (zh aV aR) 1,cj aN (zh aV aR) 2,zg 0 2 0,zg 0 2 1,zg 0 2 2]) aM) (.ret 0 [zi (zh aV aR),aR]) (.ret 0 [aV,zh aV aR])))))) (.ret 1 [aV,aR])
def Jh:VT:= .ite (zs aY (zm (zo (.app 462 [aU,aS,aO,aN,aT]) 0) aZ)) (.need (zn (zp (zi aY)) (zs (zi aY) aO)) (.need (zs (zi aY) (zl 3001)) (.need (zn (zp aY) (zs aY aO)) (.need (zs aY (zl 3001)) (.need (zs (zi aY) (zL (.op .lset [bc,aY,.op .row [cj bc (zi aY) 0,cj bc (zi aY) 1,cj bc (zi aY) 2,cj bc (zi aY) 3,cj bc (zi aY) 4,cj bc (zi aY) 5,cj bc (zi aY) 6]]))) (.ret 0 [zi aY,.op .lset [.op .lset [bc,aY,.op .row [cj bc (zi aY) 0,cj bc (zi aY) 1,cj bc (zi aY) 2,cj bc (zi aY) 3,cj bc (zi aY) 4,cj bc (zi aY) 5,cj bc (zi aY) 6]],zi aY,zv 3001 3000]])))))) (.ret 1 [aY,bc])
def Ix:VT:= .ite (zs aV aR) (.need (zn (zp aU) (zs aU aO)) (.need (zs aU (zl 0)) (.need (zn (zp (zh aV aR)) (zs (zh aV aR) aO)) (.need (zs (zh aV aR) (zl 0)) (.ite (dP (zs (.app 206 [zg 0 3 0,zg 0 3 1,zg 0 3 2,cj aN (zh aV aR) 0,cj aN (zh aV aR) 1,cj aN (zh aV aR) 2]) aM)) (.ret 0 [zi (zh aV aR),aR]) (.ret 0 [aV,zh aV aR])))))) (.ret 1 [aV,aR])
def Lz:VT:= .ite (fV aY (zo (.app 464 [aT,aU,aO,aN,aU]) 0)) (.need (zn (zp (zm aY aZ)) (zs (zm aY aZ) aO)) (.need (zs (zm aY aZ) (zl 3001)) (.need (zn (zp aY) (zs aY aO)) (.need (zs aY (zl 3001)) (.need (zs (zm aY aZ) (zL (.op .lset [bc,aY,.op .row [cj bc (zm aY aZ) 0,cj bc (zm aY aZ) 1,cj bc (zm aY aZ) 2,cj bc (zm aY aZ) 3,cj bc (zm aY aZ) 4,cj bc (zm aY aZ) 5,cj bc (zm aY aZ) 6]]))) (.ret 0 [zm aY aZ,.op .lset [.op .lset [bc,aY,.op .row [cj bc (zm aY aZ) 0,cj bc (zm aY aZ) 1,cj bc (zm aY aZ) 2,cj bc (zm aY aZ) 3,cj bc (zm aY aZ) 4,cj bc (zm aY aZ) 5,cj bc (zm aY aZ) 6]],zm aY aZ,zv 3001 3000]])))))) (.ret 1 [aY,bc])
def AS:VT:= .ite (zs aV aR) (.need (zn (zp (zm (zm (za (zh aT aS) aU) aZ) (zh aV aR))) (zs (zm (zm (za (zh aT aS) aU) aZ) (zh aV aR)) aO)) (.need (zs (zm (zm (za (zh aT aS) aU) aZ) (zh aV aR)) (zl 0)) (.need (zn (zp (zh aV aR)) (zs (zh aV aR) aO)) (.need (zs (zh aV aR) (zl 0)) (.ite (dP (zs (.app 206 [cj aN (zm (zm (za (zh aT aS) aU) aZ) (zh aV aR)) 0,cj aN (zm (zm (za (zh aT aS) aU) aZ) (zh aV aR)) 1,cj aN (zm (zm (za (zh aT aS) aU) aZ) (zh aV aR)) 2,cj aN (zh aV aR) 0,cj aN (zh aV aR) 1,cj aN (zh aV aR) 2]) aM)) (.ret 0 [zi (zh aV aR),aR]) (.ret 0 [aV,zh aV aR])))))) (.ret 1 [aV,aR])
def xf:SX:= zo (.app 462 [aU,aS,aO,aN,aT]) 0
def xT:SX:= zo (.app 464 [aT,aU,aO,aN,aU]) 0
def dY:SX:= zh aT aS
def ky:SX:= za dY aU
def xC:SX:= zm ky aS
def qO:SX:= zm ky aZ
def qH:SX:= zo (.app 466 [xC,dY,aO,aN,aT,aU,aS,dY,ky,qO]) 0
def qb:SX:= zm ky qH
def Uf:SX:= zs aT qH
def Uu:SX:= zs qH dY
def wI:SX:= .app 423 [aN,qH,aU,qb]
def uh:SX:= zs dY qb
def vj:SX:= zs qb aS
def IG:SX:= .app 425 [wI,aT,dY]
def cV4(B:Int):SX:= .app 426 [wI,aO,dY,qb,aS,.ci B]
def cV5:SX:= .app 425 [wI,dY,aS]
def Zh(B:Int):SX:= .app 426 [aN,aO,aT,qH,dY,.ci B]
def pO:SX:= .app 425 [aN,aT,dY]
def YD(B:Int):SX:= .app 426 [pO,aO,dY,qb,aS,.ci B]
def LO:SX:= .app 425 [pO,dY,aS]
def Jx(B:Int):SX:= .app 426 [aN,aO,dY,qb,aS,.ci B]
def wk:SX:= .app 425 [aN,dY,aS]
def qG:SX:= zo (.app 466 [aT,aU,aO,aN,aT,aU,aS,dY,ky,qO]) 0
def qK:SX:= zm ky qG
def TS:SX:= zs aT qG
def TK:SX:= zs qG dY
def wq:SX:= .app 423 [aN,qG,aU,qK]
def uT:SX:= zs dY qK
def uJ:SX:= zs qK aS
def NL:SX:= .app 425 [wq,aT,dY]
def cV8(B:Int):SX:= .app 426 [wq,aO,dY,qK,aS,.ci B]
def cV9:SX:= .app 425 [wq,dY,aS]
def cW0(B:Int):SX:= .app 426 [aN,aO,aT,qG,dY,.ci B]
def cW1(B:Int):SX:= .app 426 [pO,aO,dY,qK,aS,.ci B]
def MH(B:Int):SX:= .app 426 [aN,aO,dY,qK,aS,.ci B]
def rM(B:Int):VT:= .ite (ze (zm aU aT) 1) (.loop ⟨462,[aU,aS],2000,[aO,aN,aT]⟩ GT [.loop ⟨463,[aT,aN],3000,[aO,aN,xf]⟩ Jh [.ret 0 [zo (.app 463 [aT,aN,aO,aN,xf]) 1]]]) (.ite (ze (zm aS aU) 1) (.loop ⟨464,[aT,aU],2000,[aO,aN,aU]⟩ Ix [.loop ⟨465,[aU,aN],3000,[aO,aN,xT]⟩ Lz [.ret 0 [zo (.app 465 [aU,aN,aO,aN,xT]) 1]]]) (.ite (fV aU dY) (.loop ⟨466,[xC,dY],2000,[aO,aN,aT,aU,aS,dY,ky,qO]⟩ AS [.ite (zs qH aU) (.ite (zs aU qb) (.need (.app 422 [aN,aO,qH,aU,qb]) (.ite (Uf) (.ite (Uu) (.need (.app 426 [wI,aO,aT,qH,dY,.ci B]) (.ite (uh) (.ite (vj) (.need (.app 426 [IG,aO,dY,qb,aS,.ci B]) (.ret 0 [.app 425 [IG,dY,aS]])) (.ret 0 [IG])) (.ret 0 [IG]))) (.ite (uh) (.ite (vj) (.need ((cV4 B)) (.ret 0 [cV5])) (.ret 0 [wI])) (.ret 0 [wI]))) (.ite (uh) (.ite (vj) (.need ((cV4 B)) (.ret 0 [cV5])) (.ret 0 [wI])) (.ret 0 [wI])))) (.ite (Uf) (.ite (Uu) (.need ((Zh B)) (.ite (uh) (.ite (vj) (.need ((YD B)) (.ret 0 [LO])) (.ret 0 [pO])) (.ret 0 [pO]))) (.ite (uh) (.ite (vj) (.need ((Jx B)) (.ret 0 [wk])) (.ret 0 [aN])) (.ret 0 [aN]))) (.ite (uh) (.ite (vj) (.need ((Jx B)) (.ret 0 [wk])) (.ret 0 [aN])) (.ret 0 [aN])))) (.ite (Uf) (.ite (Uu) (.need ((Zh B)) (.ite (uh) (.ite (vj) (.need ((YD B)) (.ret 0 [LO])) (.ret 0 [pO])) (.ret 0 [pO]))) (.ite (uh) (.ite (vj) (.need ((Jx B)) (.ret 0 [wk])) (.ret 0 [aN])) (.ret 0 [aN]))) (.ite (uh) (.ite (vj) (.need ((Jx B)) (.ret 0 [wk])) (.ret 0 [aN])) (.ret 0 [aN])))]) (.loop ⟨466,[aT,aU],2000,[aO,aN,aT,aU,aS,dY,ky,qO]⟩ AS [.ite (zs qG aU) (.ite (zs aU qK) (.need (.app 422 [aN,aO,qG,aU,qK]) (.ite (TS) (.ite (TK) (.need (.app 426 [wq,aO,aT,qG,dY,.ci B]) (.ite (uT) (.ite (uJ) (.need (.app 426 [NL,aO,dY,qK,aS,.ci B]) (.ret 0 [.app 425 [NL,dY,aS]])) (.ret 0 [NL])) (.ret 0 [NL]))) (.ite (uT) (.ite (uJ) (.need ((cV8 B)) (.ret 0 [cV9])) (.ret 0 [wq])) (.ret 0 [wq]))) (.ite (uT) (.ite (uJ) (.need ((cV8 B)) (.ret 0 [cV9])) (.ret 0 [wq])) (.ret 0 [wq])))) (.ite (TS) (.ite (TK) (.need ((cW0 B)) (.ite (uT) (.ite (uJ) (.need ((cW1 B)) (.ret 0 [LO])) (.ret 0 [pO])) (.ret 0 [pO]))) (.ite (uT) (.ite (uJ) (.need ((MH B)) (.ret 0 [wk])) (.ret 0 [aN])) (.ret 0 [aN]))) (.ite (uT) (.ite (uJ) (.need ((MH B)) (.ret 0 [wk])) (.ret 0 [aN])) (.ret 0 [aN])))) (.ite (TS) (.ite (TK) (.need ((cW0 B)) (.ite (uT) (.ite (uJ) (.need ((cW1 B)) (.ret 0 [LO])) (.ret 0 [pO])) (.ret 0 [pO]))) (.ite (uT) (.ite (uJ) (.need ((MH B)) (.ret 0 [wk])) (.ret 0 [aN])) (.ret 0 [aN]))) (.ite (uT) (.ite (uJ) (.need ((MH B)) (.ret 0 [wk])) (.ret 0 [aN])) (.ret 0 [aN])))])))
def Yf:VT:= .ite (fO aR aT) (.need (.app 424 [aW,aO,aV,aR]) (.ret 0 [aR,za aR (.ci 20),.app 425 [aW,aV,aR]])) (.ret 1 [aV,aR,aW])
def QW:VT:= .ite (fO bg aT) (.need (.app 426 [bn,aO,bu,za bu aY,bg,.ci 512]) (.ret 0 [bg,za bg (.op (.ar .mul .i64) [bm,aY]),.app 425 [bn,bu,bg]])) (.ret 1 [bu,bg,bn])
def Gg:VT:= .ite (zs aY aT) (.loop ⟨469,[aM,.op (.ar .mul .i64) [bm,aY],bc],4000,[aO,bc,aT,aY]⟩ QW [.ite (zs (za (zo (.app 469 [aM,.op (.ar .mul .i64) [bm,aY],bc,aO,bc,aT,aY]) 0) aY) aT) (.need (.app 426 [zo (.app 469 [aM,.op (.ar .mul .i64) [bm,aY],bc,aO,bc,aT,aY]) 2,aO,zo (.app 469 [aM,.op (.ar .mul .i64) [bm,aY],bc,aO,bc,aT,aY]) 0,za (zo (.app 469 [aM,.op (.ar .mul .i64) [bm,aY],bc,aO,bc,aT,aY]) 0) aY,aT,.ci 512]) (.ret 0 [.op (.ar .mul .i64) [aY,bm],.app 425 [zo (.app 469 [aM,.op (.ar .mul .i64) [bm,aY],bc,aO,bc,aT,aY]) 2,zo (.app 469 [aM,.op (.ar .mul .i64) [bm,aY],bc,aO,bc,aT,aY]) 0,aT]])) (.ret 0 [.op (.ar .mul .i64) [aY,bm],zo (.app 469 [aM,.op (.ar .mul .i64) [bm,aY],bc,aO,bc,aT,aY]) 2])]) (.ret 1 [aY,bc])
def HG:SX:= .app 467 [aM,.ci 20,aN,aO,aN,aT]
def Eg:SX:= zo HG 2
def Gp:SX:= zo HG 0
def sr:SX:= .app 425 [Eg,Gp,aT]
def cW2:VT:= .loop ⟨467,[aM,.ci 20,aN],2000,[aO,aN,aT]⟩ Yf [.need (.app 424 [Eg,aO,Gp,aT]) (.loop ⟨468,[.ci 20,sr],3000,[aO,sr,aT]⟩ Gg [.ret 0 [zo (.app 468 [.ci 20,sr,aO,sr,aT]) 1]])]
def YT:VT:= .need (.app 428 [aN,zl 0,zl 0]) (.ret 0 [.app 425 [aN,aM,zl 0]])
def YX:SX:= .app 425 [aN,aM,zl 0]
def Wv:VT:= .need (zn (zb (zl 0) 400) (.app 431 [aN])) (.need (cJ (zl 0) (zL YX)) (.ret 0 [YX]))
def e41:VT:= .ite (zs aR (zl 0)) (.need (zp aR) (.need (zs aR (zl 1)) (.ite (dP (zn (zn (.op (.scmp .eql) [zg 0 2001 0,zg 1 2001 0]) (zn (cJ (zg 0 2001 1) (zg 1 2001 1)) (cJ (zg 0 2001 2) (zg 1 2001 2)))) (zn (cJ (zg 0 2001 3) (zg 1 2001 3)) (zn (cJ (zg 0 2001 4) (zg 1 2001 4)) (zn (cJ (zg 0 2001 5) (zg 1 2001 5)) (cJ (zg 0 2001 6) (zg 1 2001 6))))))) (.ret 2 [.cb false,aR]) (.ret 0 [aV,zi aR])))) (.ret 1 [aV,aR])
def RM:VT:= .ite (cZ (zl 0) (zl 1)) (.ret 0 [.cb false]) (.loop ⟨107,[.cb false,aM],2000,[aM,zl 0,aN,aM,zl 1,aO,zl 0]⟩ e41 [.ret 0 [.cb true],.ret 0 [zo (.app 107 [.cb false,aM,aM,zl 0,aN,aM,zl 1,aO,zl 0]) 0]])
end Go.Ev
