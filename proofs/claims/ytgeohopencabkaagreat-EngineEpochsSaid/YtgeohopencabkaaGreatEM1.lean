import Derived.Test.YtgeohopencabkaaGreatE40
import Derived.Test.YtgeohopencabkaaGreatE43
import Derived.Test.YtgeohopencabkaaGreatE1
set_option linter.all false
noncomputable section
namespace Go.Ev
open Go
abbrev aM:SX:= .C 0
abbrev aN:SX:= .V 0
abbrev aO:SX:= .V 1
abbrev aR:SX:= .V 2001
abbrev aS:SX:= .V 4
abbrev aT:SX:= .V 2
abbrev aU:SX:= .V 3
abbrev aV:SX:= .V 2000
abbrev aW:SX:= .V 2002
abbrev aY:SX:= .V 3000
abbrev aZ:SX:= .C 1
abbrev bc:SX:= .V 1506
abbrev bd:SX:= .V 5
abbrev be:SX:= .V 1511
abbrev bf:SX:= .V 6
abbrev bg:SX:= .V 3001
abbrev bh:SX:= .V 7
abbrev bi:SX:= .V 8
abbrev bj:SX:= .V 1504
abbrev bm:SX:= .V 1505
abbrev bn:SX:= .V 1510
abbrev bp:SX:= .V 1000
abbrev bq:SX:= .V 1507
abbrev bt:SX:= .V 1509
abbrev bu:SX:= .V 1512
abbrev bv:SX:= .V 1502
abbrev bw:SX:= .V 1503
abbrev bx:SX:= .V 1514
abbrev bz:SX:= .V 1501
abbrev bA:SX:= .V 1508
abbrev bB:SX:= .V 1513
abbrev bC:SX:= .C 2
abbrev bD:SX:= .V 2003
abbrev bE:SX:= .V 9
abbrev bF:SX:= .V 10
abbrev bG:SX:= .V 1001
abbrev bH:SX:= .V 1500
abbrev bI:SX:= .C 400
abbrev bJ:SX:= .V 2005
abbrev bK:SX:= .V 2006
abbrev bL:SX:= .V 2004
abbrev bM:SX:= .V 11
abbrev bN:SX:= .V 1002
abbrev bO:SX:= .V 2007
abbrev bQ:SX:= .V 2008
abbrev bR:SX:= .V 4001
abbrev bS:SX:= .C 61
abbrev bT:SX:= .C 20
abbrev bU:SX:= .C 1000000
abbrev bV:SX:= .V 1003
abbrev bW:SX:= .C 1048576
abbrev bY:SX:= .C 1099511627776
abbrev zg(a b:Nat)(k:Int):SX:= .O .G [.V a,.V b,.C k]
abbrev zu(a b:Nat):SX:= .O .row [zg a b 0,zg a b 1,zg a b 2]
abbrev zv(a b:Nat):SX:= .O .row [zg a b 0,zg a b 1,zg a b 2,zg a b 3,zg a b 4,zg a b 5,zg a b 6]
abbrev aab(a b:Nat):SX:= .O .row [zg a b 0,zg a b 1,zg a b 2,zg a b 3,zg a b 4,zg a b 5,zg a b 6,zg a b 7]
abbrev zl(a:Nat):SX:= .O .Y [.V a]
abbrev zi(x:SX):SX:= .O (.ar .add .i64) [x,aZ]
abbrev zo(x:SX)(k:Int):SX:= .O .G [x,aZ,.C k]
abbrev zb(x:SX)(k:Int):SX:= .O (.cmp .leq) [x,.C k]
abbrev zp(x:SX):SX:= .O (.cmp .leq) [aM,x]
abbrev zs(x y:SX):SX:= .O (.cmp .lss) [x,y]
abbrev zh(x y:SX):SX:= .O (.conv .i64) [.O (.ar .shr .u64) [.O (.conv .u64) [.O (.ar .add .i64) [x,y]],aZ]]
abbrev za(x y:SX):SX:= .O (.ar .add .i64) [x,y]
abbrev ze(x:SX)(k:Int):SX:= .O (.cmp .eql) [x,.C k]
abbrev zn(x y:SX):SX:= .O .and [x,y]
abbrev zt(x:SX)(k:Int):SX:= .O (.cmp .gtr) [x,.C k]
abbrev zc(x y:SX):SX:= .O .lcat [x,y]
abbrev zL(x:SX):SX:= .O .Y [x]
abbrev cr(a b:SX)(k:Int):SX:= .O .G [a,b,.C k]
abbrev ck:SX:= .O .row []
abbrev cG(a b:SX):SX:= .O (.cmp .eql) [a,b]
abbrev ew(a b:SX):SX:= .O (.cmp .neq) [a,b]
abbrev fW(a b:SX):SX:= .O (.cmp .leq) [a,b]
abbrev dO(a b:SX):SX:= .O (.cmp .gtr) [a,b]
abbrev fT(a b:SX):SX:= .O (.cmp .geq) [a,b]
abbrev cY(a:SX):SX:= .O .not [a]
abbrev zm(x y:SX):SX:= .O (.ar .sub .i64) [x,y]
variable{n:Nat}{bad:Nat->Bool}{step:U7->Option (Nat×U7)}
def kr{st:Nat->U7}{j:Nat}{p:U7}(h1: ∀i,i<n->step (st i)=some (0,st (i+1)))(h2:step (st n)=some (j+1,p)):Y9 step (st 0)=some (j,p):=by
 rw[qV];have: ∀k,k<=n->Iter step (st (n-k)) j p:=by
  intro k;induction k with
  |zero=>intro _;exact .out h2
  |succ k ih=>
   intro hk;have e:=h1 (n-(k+1)) (by omega);rw[show n-(k+1)+1=n-k by omega]at e;exact .more e (ih (by omega))
 have h:=this n (j6 _);grind
def il(x:Val)(px:Nat->U7)(bad:Nat->Bool)(n:Nat):Nat×U7:=match(List.range n).find? bad with
 |some i=>(1,px i)
 |none=>(0,[x,.D n])
theorem rS: ∀{n i:Nat},(List.range n).find? bad=some i->i<n/\bad i=true/\ ∀k,k<i->bad k=false:=by simp_all
def HX{x:Val}{px:Nat->U7}
 (h1: ∀i,i<n->bad i=false->step [x,.D i]=some (0,[x,.D (i+1:Nat)])) (h2: ∀i,i<n->bad i=true->step [x,.D i]=some (2,px i))
 (h3:step [x,.D n]=some (1,[x,.D n])):Y9 step [x,.D (0:Int)]=some (il x px bad n):=by
 unfold il;split;rename_i i hi;obtain⟨a,b,c⟩:=rS hi;exact kr (st:=λi=>[x,.D i]) (n:=i) (λk hk=>h1 k (by omega) (c k hk)) (h2 i a b);exact kr (st:=λi=>[x,.D i]) (n:=n) (λk hk=>h1 k hk (by grind)) h3
theorem bd0{x:Val}{px:Nat->U7}:il x px bad n=if(List.range n).any bad then(1,px (((List.range n).find? bad).getD 0))else(0,[x,.D n]):=by
 unfold il;split
 rename_i i hi;have:(List.range n).any bad=true:=by rw[A3];obtain⟨a,b,_⟩:=rS hi;exact⟨i,o7.2 a,b⟩
 rw[this,hi];rfl
 rename_i hn;have:(List.range n).any bad=false:=by rw[J3]at hn;rw[A4];intro i hi;simpa using hn i (o7.1 hi)
 rw[this];rfl
def cw(g:Nat->U7):Nat->U7
 |0=>[]
 |n+1=>cw g n++g n
def rG{g:Nat->U7}{m:Nat}(hg: ∀i,(g i).length<=m): ∀n,(cw g n).length<=n*m
 |0=>by simp[cw]
 |n+1=>by have:=rG hg n;grind[cw,List.length_append,Nat.add_mul]
def mX(g:Nat->U7): ∀n,cw g n=(List.range n).flatMap g
 |0=>rfl
 |n+1=>by rw[cw,mX g n,R2,K2];simp
def Dd{α O:Type}(g:α->List O)(d:α): ∀(l:List α),((List.range l.length).flatMap λi=>g (l.getD i d))=l.flatMap g
 | []=>rfl
 |a::l=>by rw[List.length_cons,O0,A5,M6];simp;rw[<-Dd g d l];congr 1
def bZ3{α O:Type} [DecidableEq O](f:α->O)(d:α): ∀(l r:List α),l.length=r.length->((List.range l.length).any λi=> !decide (f (l.getD i d)=f (r.getD i d)))= !decide (l.map f=r.map f)
 | [],[],_=>by simp
 |a::l,b::r,h=>by rw[List.length_cons,O0,List.any_cons,List.any_map];have:=bZ3 f d l r (by simpa using h);grind
 | [],_::_,h=>by simp at h
 |_::_,[],h=>by simp at h
def cd4(h:n<=10000000):IntKind.i64.wrap ((n:Int)+1)=((n+1:Nat):Int):=by grind[IntKind.wrap,IntKind.bits,IntKind.signed]
structure RowM where
 key:zR
 a:Int
 b:Int
 c:Int
 d:Int
 e:Int
 f:Int
 deriving DecidableEq
structure PaneM where
 key:zR
 a:Int
 b:Int
 deriving DecidableEq
def X1(r:Val)(j:Nat):Val:=r.L.getD j default
def gH(r:Val):RowM:=⟨(X1 r 0).toS,(X1 r 1).I,(X1 r 2).I,(X1 r 3).I,(X1 r 4).I,(X1 r 5).I,(X1 r 6).I⟩
def W7(r:Val):PaneM:=⟨(X1 r 0).toS,(X1 r 1).I,(X1 r 2).I⟩
def cg(l:U7)(i:Nat):Val:=l.getD i (.A [])
def Ce(v:Val):List RowM:=v.L.map gH
def ce(a:U7)(i:Nat):Val:=a.getD i default
def uj{α:Type} [DecidableEq α](a b:α):Bool:=decide (a=b)
@[simp]def e53{α:Type} [DecidableEq α]{a b:α}:uj a b=true↔a=b:=decide_eq_true_iff
def Yx{α:Type} [DecidableEq α](a:α):uj a a=true:=e53.2 rfl
def BE{α:Type} [DecidableEq α](m:Val->α)(l r:U7):Val:=cx (il (.B false) (λk=>[.B false,.D k]) (λi=> !decide (m (cg l i)=m (cg r i))) l.length)
def X8(r:Val):Val:= .A [X1 r 0,X1 r 1,X1 r 2,X1 r 3,X1 r 4,X1 r 5,X1 r 6]
def eR(r:Val):Val:= .A [X1 r 0,X1 r 1,X1 r 2]
def mO(a0:U7)(g:Val->U7)(l:U7):U7:=a0++cw (λi=>g (cg l i)) l.length
def bd1: ∀x:zR,iP x x=false
 | []=>rfl
 |a::x=>by
  show(bif Nat.blt a.toNat a.toNat then true else bif Nat.beq a.toNat a.toNat then iP x x else false)=false;rw[bd1 x];have h1:Nat.blt a.toNat a.toNat=false:=by
   cases h:Nat.blt a.toNat a.toNat with
   |false=>rfl
   |true=>exact absurd (Y8.1 h) (J4 _)
  grind
def bZ5(a b:UInt8)(x y:zR):iP (a::x) (b::y)=true↔a.toNat<b.toNat\/a=b/\iP x y=true:=by show(bif Nat.blt a.toNat b.toNat then true else bif Nat.beq a.toNat b.toNat then iP x y else false)=true↔_;grind[Y8,UInt8.toNat_inj,X0]
theorem by0: ∀{x y z:zR},iP x y=true->iP y z=true->iP x z=true
 |_,[],[],_,h=>by cases h
 |_,_::_,[],_,h=>by cases h
 | [],[],_,h,_=>by cases h
 |_::_,[],_,h,_=>by cases h
 | [],_::_,_::_,_,_=>rfl
 |a::x,b::y,c::z,h1,h2=>by
  rw[bZ5]at*
  rcases h1 with h1|⟨rfl,h1⟩<;>rcases h2 with h2|⟨rfl,h2⟩
  omega;omega;omega;exact .inr ⟨rfl,by0 h1 h2⟩
def Tv: ∀{x y:zR},iP x y=false->iP y x=false->x=y
 | [],[],_,_=>rfl
 | [],_::_,h,_=>by cases h
 |_::_,[],_,h=>by cases h
 |a::x,b::y,h1,h2=>by rw[<-v7,bZ5]at h1 h2;have hab:a=b:=UInt8.toNat_inj.1 (by omega);subst hab;have:=Tv (x:=x) (y:=y) (by grind) (by grind);rw[this]
def fE(p q:PaneM):Bool:=kI p.key q.key||decide (p.key=q.key)&&(decide (p.b<q.b)||decide (p.b=q.b)&&decide (p.a<q.a))
def yT(p q:PaneM):Int:=if kI p.key q.key then-1 else if kI q.key p.key then 1 else if p.b<q.b then-1 else if q.b<p.b then 1 else if p.a<q.a then-1 else if q.a<p.a then 1 else 0
theorem El(p q:PaneM):fE p q=true↔iP p.key q.key=true\/p.key=q.key/\(p.b<q.b\/p.b=q.b/\p.a<q.a):=by simp_all[fE,kI,t7,j8,decide_eq_true_eq]
theorem Nq(p:PaneM):fE p p=false:=by rw[<-v7,El,bd1];simp
theorem PR{p q r:PaneM}(h1:fE p q=true)(h2:fE q r=true):fE p r=true:=by grind[El,by0]
theorem Iv{p q:PaneM}(h1:fE p q=false)(h2:fE q p=false):p=q:=by rw[<-v7,El]at h1 h2;obtain⟨a1,a2⟩:=not_or.1 h1;obtain⟨b1,b2⟩:=not_or.1 h2;have hk:=Tv (by rwa[<-v7]) (by rwa[<-v7]) (x:=p.key) (y:=q.key);obtain⟨k,a,b⟩:=p;obtain⟨k',a',b'⟩:=q;grind
def Pm(p q:PaneM):yT p q<0↔fE p q=true:=by
 rw[El];unfold yT kI;cases h1:iP p.key q.key with
 |true=>simp
 |false=>
  cases h2:iP q.key p.key with
  |true=>
   grind
  |false=>
   have hk:=Tv h1 h2;grind
theorem VE{p q:PaneM}(h:fE p q=true):fE q p=false:=by grind[PR,Nq]
def RJ{p q r:PaneM}(h1:fE p q=false)(h2:fE q r=false):fE p r=false:=by grind[fE,PR,Iv]
def uQ(a b:Val):Int:=yT (W7 a) (W7 b)
def qC(a b:Val):Bool:=fE (W7 a) (W7 b)
def VS(a b:Val):Go.Proofs.ltOf uQ a b=qC a b:=by unfold Go.Proofs.ltOf uQ qC;rw[A9,decide_eq_true_iff,Pm]
def cz6:Go.Sort.SWO (Go.Proofs.ltOf uQ)where
 irrefl x:=by rw[VS];exact Nq _
 trans x y z h1 h2:=by rw[VS]at*;exact PR h1 h2
 ntrans x y z h1 h2:=by rw[VS]at*;exact RJ h1 h2
def jw(r:Val):Val:= .A [X1 r 0,X1 r 1,X1 r 2,X1 r 3,X1 r 4,X1 r 5,X1 r 6,X1 r 7]
def PZ(l:U7)(k:Nat):U7:=(l.set k (jw (cg l (k+1)))).set (k+1) (jw (cg l k))
def CJ:U7->Nat->Nat×U7
 |l,0=>(0,l)
 |l,k+1=>if qC (cg l (k+1)) (cg l k)then CJ (PZ l k) k else(k+1,l)
def IA(l:U7):Nat->U7
 |0=>[]
 |i+1=>(CJ (IA l i++[jw (cg l i)]) i).2
def eu(l:U7):U7:=IA l l.length
def gv(x:Val):U7->U7
 | []=>[x]
 |y::r=>if qC x y then y::gv x r else x::y::r
def ju(l:U7):Nat->U7
 |0=>[]
 |i+1=>gv (jw (cg l i)) (ju l i)
def Vr(a b:U7)(k:Nat)(h:a.length=k):cg (a++b) k=cg b 0:=by simp_all[cg,k5,s9,j6,F5]
def cz7(x:Val)(hx:jw x=x): ∀(s t:U7),(∀y∈s,jw y=y)->(CJ (s.reverse++x::t) s.length).2=(gv x s).reverse++t
 | [],t,_=>rfl
 |y::r,t,h=>by
  have e1:(y::r).reverse++x::t=r.reverse++y::x::t:=by simp
  have a1:cg (r.reverse++y::x::t) r.length=y:=by rw[Vr _ _ _ (by simp)];rfl
  have a2:cg (r.reverse++y::x::t) (r.length+1)=x:=by rw[show r.reverse++y::x::t=(r.reverse++[y])++x::t by simp,Vr _ _ _ (by simp)];rfl
  rw[e1,List.length_cons];unfold CJ gv;rw[a1,a2];split
  have sw:PZ (r.reverse++y::x::t) r.length=r.reverse++x::(y::t):=by simp_all[set,List.set_append,b9,PZ]
  rw[sw,cz7 x hx r (y::t) (λz hz=>h z (by simp[hz]))];simp;simp
def uy(x:Val): ∀s:U7,(gv x s).Perm (x::s)
 | []=> .refl _
 |y::r=>by
  unfold gv;split
  .exact((uy x r).cons y).trans (.swap x y r)
  rfl
def bZ7(l:U7): ∀i,∀y∈ju l i,jw y=y
 |0,y,h=>by cases h
 |i+1,y,h=>by
  have:=(uy (jw (cg l i)) (ju l i)).mem_iff.1 h;rcases p7.1 this with rfl|h
  rfl;exact bZ7 l i y h
def Xl(l:U7): ∀i,(ju l i).length=i
 |0=>rfl
 |i+1=>by rw[ju,(uy _ _).length_eq,List.length_cons,Xl l i]
def Oc(l:U7): ∀i,IA l i=(ju l i).reverse
 |0=>rfl
 |i+1=>by have:=cz7 (jw (cg l i)) rfl (ju l i) [] (bZ7 l i);rw[Xl]at this;rw[IA,Oc l i,this,x5,ju]
def MI(l:U7): ∀i,(ju l i).Perm ((List.range i).map λk=>jw (cg l k))
 |0=> .refl _
 |i+1=>by rw[R2,s6];exact(uy _ _).trans (((MI l i).cons _).trans (S1 _ _).symm)
theorem Gq(x:Val): ∀s:U7,s.Pairwise (λa b=>qC a b=false)->(gv x s).Pairwise (λa b=>qC a b=false)
 | [],_=>by simp[gv]
 |y::r,h=>by
  unfold gv;rw[B5]at h;split
  rename_i hl;rw[B5];refine⟨λz hz=> ?_,Gq x r h.2⟩;rcases p7.1 ((uy x r).mem_iff.1 hz)with rfl|hz
  exact VE hl;grind
  have hl:qC x y=false:=by grind
  rw[B5,B5];refine⟨λz hz=> ?_,h⟩;rcases p7.1 hz with rfl|hz
  exact hl;exact RJ hl (h.1 z hz)
def Jn(l:U7): ∀i,(ju l i).Pairwise (λa b=>qC a b=false)
 |0=> .nil
 |i+1=>Gq _ _ (Jn l i)
def cz9{α:Type}(f:Val->α)(l:U7):((List.range l.length).map λk=>f (cg l k))=l.map f:=by
 refine I1 (by simp) λi h1 h2=> ?_
 have hi:i<l.length:=by simpa using h1
 simp[cg,k5,hi]
def In(l:U7):(eu l).Perm (l.map jw):=by unfold eu;rw[Oc,<-cz9 jw l];exact(List.reverse_perm _).trans (MI l l.length)
def by1(l:U7):(eu l).Pairwise (λa b=>qC b a=false):=by unfold eu;rw[Oc,V5];exact Jn l l.length
theorem yA{α O:Type}{f:α->O}: ∀{l:List α},(l.map f).Nodup-> ∀{a b:α},a∈l->b∈l->f a=f b->a=b
 | [],_,a,b,ha,_,_=>by cases ha
 |x::l,h,a,b,ha,hb,e=>by
  rw[m8,E4]at h;rcases p7.1 ha with h1|h1<;>rcases p7.1 hb with h2|h2
  grind;grind;grind;exact yA h.2 h1 h2 e
def bK9{l:U7}(hn: ∀x∈l,jw x=x)(hd:(l.map W7).Nodup):fD uQ l=eu l:=by
 obtain⟨p1,s1⟩:=vT cz6 l;have hm:l.map jw=l:=by rw[A1 hn];simp
 have p2:=In l;rw[hm]at p2;refine S2 (le:=λa b=>qC b a=false) (λa b ha hb h1 h2=> ?_) (s1.imp λ{a b} h=> ?_) (by1 l) (p1.trans p2.symm);exact yA hd (p1.mem_iff.1 ha) (p2.mem_iff.1 hb) (Iv h2 h1);rw[<-v7];intro hh;exact h ((Pm _ _).2 hh)
end Go.Ev
namespace Go.Ev.Tb
def isR(g:Int)(T:Int->Prop)(s e:Int):Prop:=T s/\T (e-g)/\s<=e-g/\ ∀t,T t->s<=t->t<e-g-> ∃t',T t'/\t<t'/\t'<t+g
def isS(g:Int)(T:Int->Prop)(s e:Int):Prop:=isR g T s e/\(∀t,T t->s-g<t->t<s->False)/\(∀t,T t->e-g<t->t<e->False)
def lap(s e s' e':Int):Prop:=s<e'/\s'<e
def isR.up{g:Int}{T:Int->Prop}{s e:Int}(h:isR g T s e)(y:Int)(h2:y<e-g): ∀(n:Nat) (x:Int),(y-x).toNat<=n->T x->s<=x->x<=y-> ∃x',T x'/\y<x'/\x'<y+g
 |n,x,hn,hx,h3,h4=>by
  obtain⟨x',a1,a2,a3⟩:=h.2.2.2 x hx h3 (by omega);by_cases hy:y<x';exact⟨x',a1,hy,by omega⟩
  cases n with
  |zero=>omega
  |succ n=>exact isR.up h y h2 n x' (by omega) a1 (by omega) (by omega)
def isR.next{g:Int}{T:Int->Prop}{s e:Int}(h:isR g T s e){y:Int}(h1:s<=y)(h2:y<e-g): ∃x',T x'/\y<x'/\x'<y+g:=
 h.up y h2 (y-s).toNat s (j6 _) h.1 (x8 _) h1
def isR.down{g:Int}{T:Int->Prop}{s e:Int}(h:isR g T s e)(y:Int)(h2:y<=e-g): ∀(n:Nat) (x:Int),(y-x).toNat<=n->T x->s<=x->x<y-> ∃x',T x'/\y-g<x'/\x'<y
 |n,x,hn,hx,h3,h4=>by
  obtain⟨x',a1,a2,a3⟩:=h.2.2.2 x hx h3 (by omega);by_cases hy:y<=x';exact⟨x,hx,by omega,h4⟩
  cases n with
  |zero=>omega
  |succ n=>exact isR.down h y h2 n x' (by omega) a1 (by omega) (by omega)
def isR.prev{g:Int}{T:Int->Prop}{s e:Int}(h:isR g T s e){y:Int}(h1:s<y)(h2:y<=e-g): ∃x',T x'/\y-g<x'/\x'<y:=
 h.down y h2 (y-s).toNat s (j6 _) h.1 (x8 _) h1
def isS.inn{g:Int}{T:Int->Prop}{s e s' e':Int}(h:isS g T s e)(h':isR g T s' e')(hl:lap s e s' e'):s<=s'/\e'<=e:=by
 obtain⟨l1,l2⟩:=hl;refine⟨?_,?_⟩
 refine O6.1 λhc=> ?_
 by_cases hq:s<=e'-g;obtain⟨x,a1,a2,a3⟩:=h'.prev hc hq;exact h.2.1 x a1 a2 a3;exact h.2.1 (e'-g) h'.2.1 (by omega) (by omega)
 .refine O6.1 λhc=> ?_
  by_cases hq:s'<=e-g
  .obtain⟨x,a1,a2,a3⟩:=h'.next hq (by omega)
   exact h.2.2 x a1 a2 (by omega)
  exact h.2.2 s' h'.1 (by omega) (by omega)
theorem isS.one{g:Int}{T:Int->Prop}{s e s' e':Int}(h:isS g T s e)(h':isS g T s' e')(hl:lap s e s' e'):s=s'/\e=e':=by have a:=h.inn h'.1 hl;have b:=h'.inn h.1 ⟨hl.2,hl.1⟩;omega
def isR.join{g:Int}{T:Int->Prop}{s e s' e':Int}(h:isR g T s e)(h':isR g T s' e')(hl:lap s e s' e'):isR g T (min s s') (max e e'):=by
 obtain⟨l1,l2⟩:=hl;have b:=h.2.2.1;have e1:min s s'=s\/min s s'=s':=by omega
 have e2:max e e'=e\/max e e'=e':=by omega
 refine⟨?_,?_,by omega,λt ht h1 h2=> ?_⟩
 rcases e1 with q|q<;>rw[q]
 exact h.1;exact h'.1
 rcases e2 with q|q<;>rw[q]
 exact h.2.1;exact h'.2.1;by_cases c1:s<=t/\t<e-g;exact h.2.2.2 t ht c1.1 c1.2;by_cases c2:s'<=t/\t<e'-g;exact h'.2.2.2 t ht c2.1 c2.2;by_cases c3:t<s;exact⟨s,h.1,c3,by omega⟩;exact⟨s',h'.1,by omega,by omega⟩
def isR.mono{g:Int}{T T':Int->Prop}{s e:Int}(h:isR g T s e)(hT: ∀x,T x->T' x)(hn: ∀t,T' t->s<=t->t<e-g->T t):isR g T' s e:=
 ⟨hT _ h.1,hT _ h.2.1,h.2.2.1,λt ht h1 h2=>by obtain⟨x,a1,a2,a3⟩:=h.2.2.2 t (hn t ht h1 h2) h1 h2;grind⟩
def isR.more{g:Int}{T T':Int->Prop}{s e:Int}(t:Int)(h:isR g T s e)(hT: ∀x,T' x↔T x\/x=t):isR g T' s e:=
 ⟨(hT _).2 (.inl h.1),(hT _).2 (.inl h.2.1),h.2.2.1,λx hx h1 h2=>by
   obtain⟨x',a1,a2,a3⟩:=h.next h1 h2
   grind⟩
def isR.own{g:Int}{T:Int->Prop}(t:Int)(ht:T t):isR g T t (t+g):=
 ⟨ht,by grind,by omega,λx _ h1 h2=>by omega⟩
def nowOf:Int->Int->aaB->Int×Int
 |a,b,[]=>(a,b)
 |a,b,(s,e)::l=>nowOf (min a s) (max b e) l
def lapB(s e s' e':Int):Bool:=decide (s<e')&&decide (s'<e)
def vX{s e s' e':Int}:lapB s e s' e'=true↔lap s e s' e':=by simp[lapB,lap]
def joinedOf(g t:Int)(l:aaB):aaB:=l.filter λp=>lapB p.1 p.2 t (t+g)
def si(g t:Int)(l:aaB):aaB:=l.filter λp=> !lapB p.1 p.2 t (t+g)
def ZJ{g:Int}{T:Int->Prop}: ∀(l:aaB) (a b:Int),(∀p∈l,isR g T p.1 p.2/\lap p.1 p.2 a b)->isR g T a b->isR g T (nowOf a b l).1 (nowOf a b l).2
 | [],a,b,h,h0=>h0
 |(s,e)::l,a,b,h,h0=>by have q:=h (s,e) (A7 ..);refine ZJ l _ _ (λp hp=>⟨(h p (y9 _ hp)).1,?_⟩) (h0.join q.1 ⟨q.2.2,q.2.1⟩);have r:=(h p (y9 _ hp)).2;exact⟨by have:=r.1;omega,by have:=r.2;omega⟩
def nowOf_le: ∀(l:aaB) (a b:Int),(nowOf a b l).1<=a/\b<=(nowOf a b l).2/\ ∀p∈l,(nowOf a b l).1<=p.1/\p.2<=(nowOf a b l).2
 | [],a,b=>⟨x8 _,x8 _,λp hp=>absurd hp (D9)⟩
 |(s,e)::l,a,b=>by
  obtain⟨q1,q2,q3⟩:=nowOf_le l (min a s) (max b e);refine⟨by grind[nowOf,min,max],by grind[nowOf,min,max],λp hp=> ?_⟩;rcases p7.1 hp with rfl|hp
  grind[nowOf,min,max];exact q3 p hp
def bZ8: ∀(l:aaB) (a b:Int),((nowOf a b l).1=a\/ ∃p∈l,(nowOf a b l).1=p.1)/\((nowOf a b l).2=b\/ ∃p∈l,(nowOf a b l).2=p.2)
 | [],a,b=>⟨.inl rfl,.inl rfl⟩
 |(s,e)::l,a,b=>by obtain⟨q1,q2⟩:=bZ8 l (min a s) (max b e);grind[nowOf,min,max,List.mem_cons_self,List.mem_cons_of_mem]
def Ses(g:Int)(T:Int->Prop)(l:aaB):Prop:=(∀s e,(s,e)∈l↔isS g T s e)/\ ∀t,T t-> ∃p∈l,p.1<=t/\t+g<=p.2
def dt3(g:Int){T:Int->Prop}(hT: ∀x,¬T x):Ses g T []:=
 ⟨λs e=>⟨λh=>absurd h (D9),λh=>absurd h.1.1 (hT _)⟩,λt h=>absurd h (hT t)⟩
def Og{g:Int}(hg:0<g){T T':Int->Prop}{l:aaB}(t:Int)(h:Ses g T l)(hT: ∀x,T' x↔T x\/x=t):
 isS g T' (nowOf t (t+g) (joinedOf g t l)).1 (nowOf t (t+g) (joinedOf g t l)).2/\
 ∀s e,isS g T' s e↔(s,e)∈si g t l\/(s,e)=nowOf t (t+g) (joinedOf g t l):=by
 have hj: ∀p,p∈joinedOf g t l↔p∈l/\lap p.1 p.2 t (t+g):=λp=>by rw[joinedOf,l7,vX]
 have hr: ∀p,p∈si g t l↔p∈l/\ ¬lap p.1 p.2 t (t+g):=λp=>by rw[si,l7,<-vX];simp
 generalize hJ:joinedOf g t l=J at hj;obtain⟨n1,n2,n3⟩:=nowOf_le J t (t+g);obtain⟨m1,m2⟩:=bZ8 J t (t+g);have hrun:isR g T' (nowOf t (t+g) J).1 (nowOf t (t+g) J).2:=ZJ J t (t+g) (λp hp=>⟨isR.more t ((h.1 p.1 p.2).1 ((hj p).1 hp).1).1 hT,((hj p).1 hp).2⟩) (isR.own t ((hT t).2 (.inr rfl)));generalize nowOf t (t+g) J=N at n1 n2 n3 m1 m2 hrun;have hjoin: ∀p,p∈l->lap p.1 p.2 t (t+g)->N.1<=p.1/\p.2<=N.2:=λp h1 h2=>n3 p ((hj p).2 ⟨h1,h2⟩)
 have hS:isS g T' N.1 N.2:=by
  refine⟨hrun,λx hx h1 h2=> ?_,λx hx h1 h2=> ?_⟩
  rcases(hT x).1 hx with hx|rfl
  rcases m1 with q|⟨p,hp,q⟩
  obtain⟨p,a1,a2,a3⟩:=h.2 x hx;have:=hjoin p a1 ⟨by omega,by omega⟩;omega;exact((h.1 p.1 p.2).1 ((hj p).1 hp).1).2.1 x hx (by omega) (by omega);omega
  rcases(hT x).1 hx with hx|rfl
  rcases m2 with q|⟨p,hp,q⟩
  obtain⟨p,a1,a2,a3⟩:=h.2 x hx;have:=hjoin p a1 ⟨by omega,by omega⟩;omega;exact((h.1 p.1 p.2).1 ((hj p).1 hp).1).2.2 x hx (by omega) (by omega);omega
 refine⟨hS,λs e=>⟨λhs=> ?_,λhs=> ?_⟩⟩;by_cases hl:lap s e N.1 N.2;exact .inr (by have:=hs.one hS hl;exact O7 this.1 this.2)
 have hno: ¬lap s e t (t+g):=λ⟨a,b⟩=>hl ⟨by omega,by omega⟩
 refine .inl ((hr (s,e)).2 ⟨(h.1 s e).2 ?_,hno⟩);have b:=hs.1.2.2.1;refine⟨⟨?_,?_,b,λx hx h1 h2=> ?_⟩,λx hx=>hs.2.1 x ((hT x).2 (.inl hx)),λx hx=>hs.2.2 x ((hT x).2 (.inl hx))⟩
 rcases(hT s).1 hs.1.1 with a|a
 exact a;exact absurd ⟨by omega,by omega⟩ hno
 rcases(hT _).1 hs.1.2.1 with a|a
 exact a;exact absurd ⟨by omega,by omega⟩ hno
 obtain⟨x',a1,a2,a3⟩:=hs.1.2.2.2 x ((hT x).2 (.inl hx)) h1 h2;rcases(hT x').1 a1 with a|a
 exact⟨x',a,a2,a3⟩;exact absurd ⟨by omega,by omega⟩ hno
 rcases hs with hs|hs
 obtain⟨a1,a2⟩:=(hr (s,e)).1 hs;have q:=(h.1 s e).1 a1;have b:=q.1.2.2.1;refine⟨isR.more t q.1 hT,λx hx h1 h2=> ?_,λx hx h1 h2=> ?_⟩
 rcases(hT x).1 hx with c|c
 exact q.2.1 x c h1 h2;exact a2 ⟨by omega,by omega⟩
 rcases(hT x).1 hx with c|c
 exact q.2.2 x c h1 h2;exact a2 ⟨by omega,by omega⟩;rw[<-hs]at hS;exact hS
def RV{g:Int}(hg:0<g){T T':Int->Prop}{l m:aaB}(t:Int)(h:Ses g T l)(hT: ∀x,T' x↔T x\/x=t)
 (hm: ∀p,p∈m↔p∈si g t l\/p=nowOf t (t+g) (joinedOf g t l)):Ses g T' m:=by
 obtain⟨h1,h2⟩:=Og hg t h hT;obtain⟨n1,n2,n3⟩:=nowOf_le (joinedOf g t l) t (t+g);refine⟨λs e=>by rw[hm,h2],λx hx=> ?_⟩;rcases(hT x).1 hx with a|a
 obtain⟨p,b1,b2,b3⟩:=h.2 x a;by_cases c:lap p.1 p.2 t (t+g);have:=n3 p (by rw[joinedOf,l7,vX];exact⟨b1,c⟩);exact⟨_,(hm _).2 (.inr rfl),by omega,by omega⟩;exact⟨p,(hm _).2 (.inl (by rw[si,l7,s7,<-v7,vX];exact⟨b1,c⟩)),b2,b3⟩;grind
def ses_runs{g:Int}(hg:0<g){T:Int->Prop}{l:aaB}(h1: ∀p∈l,isR g T p.1 p.2)(h2: ∀t,T t-> ∃p∈l,p.1<=t/\t+g<=p.2)
 (h3: ∀p∈l,∀q∈l,lap p.1 p.2 q.1 q.2->p=q):Ses g T l:=by
 have hs: ∀p∈l,isS g T p.1 p.2:=λp hp=>by have b:=(h1 p hp).2.2.1;refine⟨h1 p hp,λx hx a1 a2=> ?_,λx hx a1 a2=> ?_⟩;obtain⟨q,c1,c2,c3⟩:=h2 x hx;have:=h3 p hp q c1 ⟨by omega,by omega⟩;subst this;omega;obtain⟨q,c1,c2,c3⟩:=h2 x hx;have:=h3 p hp q c1 ⟨by omega,by omega⟩;subst this;omega
 refine⟨λs e=>⟨λh=>hs (s,e) h,λh=> ?_⟩,h2⟩;obtain⟨q,c1,c2,c3⟩:=h2 s h.1.1;have b:=h.1.2.2.1;have:=h.one (hs q c1) ⟨by omega,by omega⟩;grind
abbrev Ag:=Int×Int×Int×Int
def sumI:aaE->Int
 | []=>0
 |x::l=>x+sumI l
def minI:aaE->Int
 | []=>0
 |x::l=>l.foldl min x
def maxI:aaE->Int
 | []=>0
 |x::l=>l.foldl max x
def agOf(l:aaE):Ag:=((l.length:Int),sumI l,minI l,maxI l)
def cA0: ∀(l:aaE) (x:Int),l.foldl min x<=x/\(∀y∈l,l.foldl min x<=y)/\(l.foldl min x=x\/l.foldl min x∈l)
 | [],x=>⟨x8 _,λy h=>absurd h (D9),.inl rfl⟩
 |a::l,x=>by
  obtain⟨h1,h2,h3⟩:=cA0 l (min x a);refine⟨by show l.foldl min (min x a)<=x;omega,λy hy=> ?_,?_⟩
  rcases p7.1 hy with rfl|hy
  show l.foldl min (min x y)<=y;omega;exact h2 y hy;grind
def Zj: ∀(l:aaE) (x:Int),x<=l.foldl max x/\(∀y∈l,y<=l.foldl max x)/\(l.foldl max x=x\/l.foldl max x∈l)
 | [],x=>⟨x8 _,λy h=>absurd h (D9),.inl rfl⟩
 |a::l,x=>by
  obtain⟨h1,h2,h3⟩:=Zj l (max x a);refine⟨by show x<=l.foldl max (max x a);omega,λy hy=> ?_,?_⟩
  rcases p7.1 hy with rfl|hy
  show y<=l.foldl max (max x y);omega;exact h2 y hy;grind
theorem minI_spec{l:aaE}(h:l≠[]):minI l∈l/\ ∀x∈l,minI l<=x:=by
 match l,h with
 |a::l,_=>
  obtain⟨h1,h2,h3⟩:=cA0 l a;refine⟨?_,λx hx=> ?_⟩
  rcases h3 with h|h
  exact p7.2 (.inl h);exact y9 _ h
  rcases p7.1 hx with rfl|hx
  exact h1;exact h2 x hx
theorem maxI_spec{l:aaE}(h:l≠[]):maxI l∈l/\ ∀x∈l,x<=maxI l:=by
 match l,h with
 |a::l,_=>
  obtain⟨h1,h2,h3⟩:=Zj l a;refine⟨?_,λx hx=> ?_⟩
  rcases h3 with h|h
  exact p7.2 (.inl h);exact y9 _ h
  rcases p7.1 hx with rfl|hx
  exact h1;exact h2 x hx
def cA2{l:aaE}{m:Int}(h1:m∈l)(h2: ∀x∈l,m<=x):minI l=m:=by grind[minI_spec,List.ne_nil_of_mem,Int.le_antisymm]
def cA3{l:aaE}{m:Int}(h1:m∈l)(h2: ∀x∈l,x<=m):maxI l=m:=by grind[maxI_spec,List.ne_nil_of_mem,Int.le_antisymm]
def sumI_app: ∀a b:aaE,sumI (a++b)=sumI a+sumI b
 | [],b=>by simp[sumI]
 |x::a,b=>by show x+sumI (a++b)=x+sumI a+sumI b;rw[sumI_app a b];omega
def cA4{a b:aaE}(h:a.Perm b):sumI a=sumI b:=by
 induction h with
 |nil=>rfl
 |cons x _ ih=>show x+_=x+_;rw[ih]
 |swap x y l=>grind[sumI]
 |trans _ _ h1 h2=>omega
def Yh{a b:aaE}(h:a.Perm b):agOf a=agOf b:=by by_cases hb:b=[];simp_all;obtain⟨m1,m2⟩:=minI_spec hb;obtain⟨x1,x2⟩:=maxI_spec hb;unfold agOf;rw[h.length_eq,cA4 h,cA2 (h.mem_iff.2 m1) (λx hx=>m2 x (h.mem_iff.1 hx)),cA3 (h.mem_iff.2 x1) (λx hx=>x2 x (h.mem_iff.1 hx))]
def ag2(a b:Ag):Ag:=(a.1+b.1,a.2.1+b.2.1,min a.2.2.1 b.2.2.1,max a.2.2.2 b.2.2.2)
def Xa{a b:aaE}(ha:a≠[])(hb:b≠[]):agOf (a++b)=ag2 (agOf a) (agOf b):=by
 obtain⟨m1,m2⟩:=minI_spec ha;obtain⟨m3,m4⟩:=minI_spec hb;obtain⟨x1,x2⟩:=maxI_spec ha;obtain⟨x3,x4⟩:=maxI_spec hb;have e1:minI (a++b)=min (minI a) (minI b):=cA2 (by
  grind) (λx hx=>by
  grind)
 have e2:maxI (a++b)=max (maxI a) (maxI b):=cA3 (by
  grind) (λx hx=>by
  grind)
 show(((a++b).length:Int),sumI (a++b),minI (a++b),maxI (a++b))=_;rw[e1,e2,sumI_app,k9,Int.natCast_add];rfl
def agAll:List Ag->Ag
 | []=>(0,0,0,0)
 |a::l=>l.foldl ag2 a
def dc4{α:Type}(f:α->aaE): ∀(l:List α) (a:aaE),a≠[]->(∀x∈l,f x≠[])->(l.map λx=>agOf (f x)).foldl ag2 (agOf a)=agOf (a++l.flatMap f)
 | [],a,ha,h=>by simp
 |x::l,a,ha,h=>by show(l.map λx=>agOf (f x)).foldl ag2 (ag2 (agOf a) (agOf (f x)))=_;rw[<-Xa ha (h x (A7 ..)),dc4 f l (a++f x) (by simp[ha]) (λy hy=>h y (y9 _ hy)),A5,A0]
def by4{α:Type}(p q:α->Bool): ∀l:List α,(∀x∈l,p x=true->q x=true->False)->(l.filter λx=>p x||q x).Perm (l.filter p++l.filter q)
 | [],h=>G5 _
 |x::l,h=>by have ih:=by4 p q l (λy hy=>h y (y9 _ hy));rw[B0,B0 (p:=p),B0 (p:=q)];cases hp:p x<;>cases hq:q x<;>simp only[I8,S4,n7,if_true,if_false,Bool.or_self];exact ih;exact(List.Perm.cons x ih).trans S5.symm;exact List.Perm.cons x ih;grind
def ZT{α O:Type}(f:O->α->Bool)(l:List α): ∀J:List O,J.Pairwise (λa b=> ∀x∈l,f a x=true->f b x=true->False)->(l.filter λx=>J.any λp=>f p x).Perm (J.flatMap λp=>l.filter (f p))
 | [],h=>by simp
 |p::J,h=>by obtain⟨h1,h2⟩:=B5.1 h;have:=by4 (f p) (λx=>J.any λp=>f p x) l (λx hx a b=>by grind);exact this.trans (S6 _ (ZT f l J h2))
variable{K:Type} [DecidableEq K]
inductive Wd
 |ses (g:Int)
 |win (P:Int->Int->Prop)
abbrev Evt(K:Type):=K×Int×Int
def tms(l:List (Evt K))(k:K)(t:Int):Prop:= ∃x∈l,x.1=k/\x.2.1=t
def inP(k:K)(s e:Int)(x:Evt K):Bool:=decide (x.1=k)&&decide (s<=x.2.1)&&decide (x.2.1<e)
theorem inP_iff{k:K}{s e:Int}{x:Evt K}:inP k s e x=true↔x.1=k/\s<=x.2.1/\x.2.1<e:=by simp[inP,and_assoc]
def vals(l:List (Evt K))(k:K)(s e:Int):aaE:=(l.filter (inP k s e)).map (·.2.2)
def Pan:Wd->List (Evt K)->K->Int->Int->Prop
 | .ses g,l,k,s,e=>isS g (tms l k) s e
 | .win P,l,k,s,e=>P s e/\ ∃t,tms l k t/\s<=t/\t<e
def Tab(W:Wd)(l:List (Evt K))(M:K->Int->Int->Option Ag):Prop:= ∀k s e a,M k s e=some a↔Pan W l k s e/\a=agOf (vals l k s e)
def Tab.none{W:Wd}{l:List (Evt K)}{M:K->Int->Int->Option Ag}(h:Tab W l M){k:K}{s e:Int}:M k s e=none↔ ¬Pan W l k s e:=by
 cases hm:M k s e with
 |none=>exact⟨λ_ hp=>(by have:=(h k s e _).2 ⟨hp,rfl⟩;grind),λ_=>rfl⟩
 |some a=>exact⟨λx=>(by cases x),λx=>absurd ((h k s e a).1 hm).1 x⟩
def Tab.uniq{W:Wd}{l:List (Evt K)}{M M':K->Int->Int->Option Ag}(h:Tab W l M)(h':Tab W l M')(k:K)(s e:Int):M k s e=M' k s e:=by
 cases hm:M' k s e with
 |none=>exact h.none.2 (h'.none.1 hm)
 |some a=>exact(h k s e a).2 ((h' k s e a).1 hm)
omit [DecidableEq K]in
def tms_app(l:List (Evt K))(o:Evt K)(k:K)(t:Int):tms (l++[o]) k t↔tms l k t\/(o.1=k/\t=o.2.1):=by
 constructor
 rintro⟨x,hx,h1,h2⟩;rcases t8.1 hx with h|h
 exact .inl ⟨x,h,h1,h2⟩;grind;rintro(⟨x,hx,h1,h2⟩|⟨h1,h2⟩);exact⟨x,t8.2 (.inl hx),h1,h2⟩;exact⟨o,t8.2 (.inr (m9.2 rfl)),h1,h2.symm⟩
def vals_app(l:List (Evt K))(o:Evt K)(k:K)(s e:Int):vals (l++[o]) k s e=vals l k s e++(if inP k s e o then [o.2.2]else []):=by unfold vals;cases h:inP k s e o<;>simp[B0,h]
def cA5{l m:List (Evt K)}(h:l.Perm m)(k:K)(s e:Int):(vals l k s e).Perm (vals m k s e):=(h.filter _).map _
omit [DecidableEq K]in
def d12{l m:List (Evt K)}(h:l.Perm m)(k:K):tms l k=tms m k:=by funext t;exact propext ⟨λ⟨x,a,b⟩=>⟨x,h.mem_iff.1 a,b⟩,λ⟨x,a,b⟩=>⟨x,h.mem_iff.2 a,b⟩⟩
def Tab.perm{W:Wd}{l m:List (Evt K)}{M:K->Int->Int->Option Ag}(h:Tab W l M)(hp:l.Perm m):Tab W m M:=λk s e a=>by rw[h k s e a,Yh (cA5 hp k s e)];cases W<;>simp only[Pan,d12 hp k]
def cA6{l:List (Evt K)}{k:K}{s e t:Int}(h:tms l k t)(h1:s<=t)(h2:t<e):vals l k s e≠[]:=by obtain⟨x,a,b,c⟩:=h;exact S3 (k6.2 ⟨x,l7.2 ⟨a,inP_iff.2 ⟨b,by omega,by omega⟩⟩,rfl⟩)
def d13{l:List (Evt K)}{k:K}{s e:Int}(h: ∀t,tms l k t->s<=t->t<e->False):vals l k s e=[]:=by unfold vals;rw[R5.2 λx hx hc=> ?_,I7];obtain⟨a,b,c⟩:=inP_iff.1 hc;exact h _ ⟨x,hx,a,rfl⟩ b c
def Pan.ne{W:Wd}{l:List (Evt K)}{k:K}{s e:Int}(hg: ∀g,W= .ses g->0<g)(h:Pan W l k s e):vals l k s e≠[]:=by
 cases W with
 |ses g=>exact cA6 h.1.1 (x8 _) (by have:=h.1.2.2.1;grind)
 |win P=>obtain⟨_,t,a,b,c⟩:=h;exact cA6 a b c
def tab_nil(W:Wd):Tab W ([]:List (Evt K)) (λ_ _ _=>none):=λk s e a=>by
 refine⟨λh=>(by cases h),λh=> ?_⟩;cases W with
 |ses g=>obtain⟨x,hx,_⟩:=h.1.1.1;cases hx
 |win P=>obtain⟨_,t,⟨x,hx,_⟩,_⟩:=h.1;cases hx
def putA(a:Option Ag)(v:Int):Ag:=match a with|none=>agOf [v]|some a=>ag2 a (agOf [v])
def tab_win{P:Int->Int->Prop}{l:List (Evt K)}{M M':K->Int->Int->Option Ag}(o:Evt K)(h:Tab (.win P) l M)
 (h1: ∀k s e,(k=o.1/\P s e/\s<=o.2.1/\o.2.1<e)->M' k s e=some (putA (M k s e) o.2.2))
 (h2: ∀k s e,¬(k=o.1/\P s e/\s<=o.2.1/\o.2.1<e)->M' k s e=M k s e):Tab (.win P) (l++[o]) M':=by
 intro k s e a;by_cases c:k=o.1/\P s e/\s<=o.2.1/\o.2.1<e
 obtain⟨rfl,hP,c1,c2⟩:=c;have hin:inP o.1 s e o=true:=inP_iff.2 ⟨rfl,c1,c2⟩;have hp:Pan (.win P) (l++[o]) o.1 s e:=⟨hP,o.2.1,(tms_app ..).2 (.inr ⟨rfl,rfl⟩),c1,c2⟩;have hv:putA (M o.1 s e) o.2.2=agOf (vals (l++[o]) o.1 s e):=by
  rw[vals_app,i6 hin];cases hm:M o.1 s e with
  |none=>
   have hn:=h.none.1 hm;rw[d13 λt a b c=>hn ⟨hP,t,a,b,c⟩];rfl
  |some b=>
   obtain⟨q1,q2⟩:=(h _ _ _ _).1 hm;rw[Xa (Pan.ne (λg hg=>by cases hg) q1) (by simp),<-q2];rfl
 grind
 rw[h2 k s e c,h k s e a];have hpan:Pan (.win P) (l++[o]) k s e↔Pan (.win P) l k s e:=by
  constructor
  rintro⟨hP,t,a,b,d⟩;rcases(tms_app ..).1 a with a|a
  exact⟨hP,t,a,b,d⟩;grind;rintro⟨hP,t,a,b,d⟩;exact⟨hP,t,(tms_app ..).2 (.inl a),b,d⟩
 rw[hpan];refine and_congr_right λhp=> ?_
 rw[vals_app,b9 λhc=> ?_,x5];obtain⟨q1,q2,q3⟩:=inP_iff.1 hc;exact c ⟨q1.symm,hp.1,q2,q3⟩
def cA7{g:Int}(hg:0<g){l:List (Evt K)}{k:K}{t:Int}{L:aaB}(hL:Ses g (tms l k) L)(hn:L.Nodup):
 (vals l k (nowOf t (t+g) (joinedOf g t L)).1 (nowOf t (t+g) (joinedOf g t L)).2).Perm ((joinedOf g t L).flatMap λp=>vals l k p.1 p.2):=by
 have hT': ∀x,(tms l k x\/x=t)↔tms l k x\/x=t:=λ_=>Iff.rfl
 obtain⟨h1,h2⟩:=Og (T':=λx=>tms l k x\/x=t) hg t hL hT';obtain⟨n1,n2,n3⟩:=nowOf_le (joinedOf g t L) t (t+g);have hj: ∀p,p∈joinedOf g t L↔p∈L/\lap p.1 p.2 t (t+g):=λp=>by rw[joinedOf,l7,vX]
 have hJn:(joinedOf g t L).Pairwise (λa b=> ∀x∈l,inP k a.1 a.2 x=true->inP k b.1 b.2 x=true->False):=by have hnd:(joinedOf g t L).Nodup:=hn.filter _;refine List.Pairwise.imp_of_mem (λ{a b} ha hb hne x hx i1 i2=>hne ?_) hnd;obtain⟨_,a1,a2⟩:=inP_iff.1 i1;obtain⟨_,b1,b2⟩:=inP_iff.1 i2;have:=((hL.1 a.1 a.2).1 ((hj a).1 ha).1).one ((hL.1 b.1 b.2).1 ((hj b).1 hb).1) ⟨by omega,by omega⟩;grind
 have hfil:l.filter (inP k (nowOf t (t+g) (joinedOf g t L)).1 (nowOf t (t+g) (joinedOf g t L)).2)=l.filter λx=>(joinedOf g t L).any λp=>inP k p.1 p.2 x:=by
  refine List.filter_congr λx hx=> ?_
  rw[A9,A3];constructor;intro h;obtain⟨a1,a2,a3⟩:=inP_iff.1 h;obtain⟨p,b1,b2,b3⟩:=hL.2 x.2.1 ⟨x,hx,a1,rfl⟩;refine⟨p,(hj p).2 ⟨b1,?_⟩,inP_iff.2 ⟨a1,b2,by omega⟩⟩;by_cases c:lap p.1 p.2 t (t+g);exact c
  exfalso;have hr:p∈si g t L:=by rw[si,l7,s7,<-v7,vX];exact⟨b1,c⟩
  have hs:=(h2 p.1 p.2).2 (.inl hr);have e:=h1.one hs ⟨by omega,by omega⟩;exact c ⟨by omega,by omega⟩;grind[inP_iff]
 unfold vals;rw[hfil];refine((ZT (λ(p:Int×Int) x=>inP k p.1 p.2 x) l _ hJn).map _).trans ?_;rw[List.map_flatMap]
def ses_ex{g:Int}(hg:0<g)(k:K): ∀l:List (Evt K),∃L,Ses g (λt=> ∃x∈l,x.1=k/\x.2.1=t) L
 | []=>⟨[],dt3 g (λx ⟨_,h,_⟩=>by cases h)⟩
 |o::l=>by
  obtain⟨L,h⟩:=ses_ex hg k l;by_cases ho:o.1=k
  exact⟨nowOf o.2.1 (o.2.1+g) (joinedOf g o.2.1 L)::si g o.2.1 L,RV hg o.2.1 h (λx=>⟨λ⟨y,a,b,c⟩=>by
   grind,λhx=>by
   grind⟩) (λp=>by grind)⟩
  refine⟨L,?_⟩;grind
def tab_ses{g:Int}(hg:0<g){l:List (Evt K)}{M M':K->Int->Int->Option Ag}(o:Evt K){L:aaB}(h:Tab (.ses g) l M)
 (hL: ∀s e,(s,e)∈L↔M o.1 s e≠none) (hn:L.Nodup)
 (h1: ∀s e,(s,e)=nowOf o.2.1 (o.2.1+g) (joinedOf g o.2.1 L)->M' o.1 s e=some (agAll (agOf [o.2.2]::(joinedOf g o.2.1 L).map λp=>(M o.1 p.1 p.2).getD (0,0,0,0))))
 (h2: ∀s e,(s,e)≠nowOf o.2.1 (o.2.1+g) (joinedOf g o.2.1 L)->(s,e)∈joinedOf g o.2.1 L->M' o.1 s e=none)
 (h3: ∀k s e,k≠o.1\/((s,e)≠nowOf o.2.1 (o.2.1+g) (joinedOf g o.2.1 L)/\(s,e)∉joinedOf g o.2.1 L)->M' k s e=M k s e):Tab (.ses g) (l++[o]) M':=by
 have hcov: ∀t,tms l o.1 t-> ∃p∈L,p.1<=t/\t+g<=p.2:=λt ht=>by obtain⟨L',h1,h2⟩:=ses_ex hg o.1 l;obtain⟨p,a,b,c⟩:=h2 t ht;exact⟨p,(hL p.1 p.2).2 λhm=>h.none.1 hm ((h1 p.1 p.2).1 a),b,c⟩
 have hS:Ses g (tms l o.1) L:=⟨λs e=>by rw[hL,ne_eq,h.none];exact Classical.not_not,hcov⟩
 have hT: ∀x,tms (l++[o]) o.1 x↔tms l o.1 x\/x=o.2.1:=λx=>by rw[tms_app];simp
 obtain⟨q1,q2⟩:=Og hg o.2.1 hS hT;obtain⟨n1,n2,n3⟩:=nowOf_le (joinedOf g o.2.1 L) o.2.1 (o.2.1+g);have hj: ∀p,p∈joinedOf g o.2.1 L↔p∈L/\lap p.1 p.2 o.2.1 (o.2.1+g):=λp=>by rw[joinedOf,l7,vX]
 have hr: ∀p,p∈si g o.2.1 L↔p∈L/\ ¬lap p.1 p.2 o.2.1 (o.2.1+g):=λp=>by rw[si,l7,<-vX];simp
 have hvj:=cA7 hg (t:=o.2.1) hS hn;intro k s e a;by_cases hk:k=o.1;subst hk;by_cases c:(s,e)=nowOf o.2.1 (o.2.1+g) (joinedOf g o.2.1 L)
 rw[h1 s e c];have hp:Pan (.ses g) (l++[o]) o.1 s e:=(q2 s e).2 (.inr c);have hv:agAll (agOf [o.2.2]::(joinedOf g o.2.1 L).map λp=>(M o.1 p.1 p.2).getD (0,0,0,0))=agOf (vals (l++[o]) o.1 s e):=by
  have e1:((joinedOf g o.2.1 L).map λp=>(M o.1 p.1 p.2).getD (0,0,0,0))=(joinedOf g o.2.1 L).map λp=>agOf (vals l o.1 p.1 p.2):=by
   refine A1 λp hp=> ?_
   have:=(h o.1 p.1 p.2 _).2 ⟨(hS.1 p.1 p.2).1 ((hj p).1 hp).1,rfl⟩;rw[this];rfl
  show((joinedOf g o.2.1 L).map λp=>(M o.1 p.1 p.2).getD (0,0,0,0)).foldl ag2 (agOf [o.2.2])=_;rw[e1,dc4 (λ(p:Int×Int)=>vals l o.1 p.1 p.2) _ _ (by simp) (λ(p:Int×Int) hp=>Pan.ne (W:= .ses g) (l:=l) (k:=o.1) (s:=p.1) (e:=p.2) (λ_ e=>by cases e;exact hg) ((hS.1 p.1 p.2).1 ((hj p).1 hp).1))];rw[vals_app,i6 (inP_iff.2 ⟨rfl,by rw[<-c]at n1;exact n1,by rw[<-c]at n2;omega⟩)];rw[<-c]at hvj;exact Yh ((List.Perm.cons _ hvj.symm).trans (S1 _ _).symm)
 rw[hv];exact⟨λhh=>⟨hp,by cases hh;rfl⟩,λhh=>by rw[hh.2]⟩;by_cases d:(s,e)∈joinedOf g o.2.1 L
 rw[h2 s e c d];refine⟨λhh=>(by cases hh),λhh=> ?_⟩;rcases(q2 s e).1 hh.1 with x|x
 exact absurd ((hj _).1 d).2 ((hr _).1 x).2;exact absurd x c
 rw[h3 o.1 s e (.inr ⟨c,d⟩),h o.1 s e a];have hpan:Pan (.ses g) (l++[o]) o.1 s e↔Pan (.ses g) l o.1 s e:=by show isS g _ s e↔isS g _ s e;rw[q2 s e,<-hS.1 s e,hr];constructor;rintro(x|x);exact x.1;exact absurd x c;intro x;exact .inl ⟨x,λy=>d ((hj _).2 ⟨x,y⟩)⟩
 rw[hpan];refine and_congr_right λhp=> ?_
 rw[vals_app,b9 λhc=> ?_,x5];obtain⟨z1,z2,z3⟩:=inP_iff.1 hc;exact d ((hj _).2 ⟨(hS.1 s e).2 hp,by omega,z3⟩)
 rw[h3 k s e (.inl hk),h k s e a];have ht:tms (l++[o]) k=tms l k:=by
  funext x;refine propext ⟨λhx=> ?_,λhx=>(tms_app ..).2 (.inl hx)⟩;rcases(tms_app ..).1 hx with y|y
  exact y;exact absurd y.1.symm hk
 rw[vals_app,b9 λhc=>hk (inP_iff.1 hc).1.symm,x5];simp[Pan,ht]
end Go.Ev.Tb
namespace Go.Ev.Tb
def sumN:uq->Nat
 | []=>0
 |x::l=>x+sumN l
theorem YV{α:Type}: ∀l:List α,sumN (l.map λ_=>0)=0
 | []=>rfl
 |a::l=>by show 0+sumN (l.map λ_=>0)=0;rw[YV l]
def c00{α:Type}(f g:α->Nat): ∀l:List α,sumN (l.map λx=>f x+g x)=sumN (l.map f)+sumN (l.map g)
 | []=>rfl
 |a::l=>by show f a+g a+sumN (l.map λx=>f x+g x)=f a+sumN (l.map f)+(g a+sumN (l.map g));rw[c00 f g l];omega
def c01{α:Type}(p:α->Bool): ∀l:List α,sumN (l.map λx=>if p x then 1 else 0)=(l.filter p).length
 | []=>rfl
 |a::l=>by show(if p a then 1 else 0)+sumN (l.map λx=>if p x then 1 else 0)=_;rw[c01 p l,B0];grind
def twice{α O:Type}(f:O->α->Bool)(l:List α): ∀R:List O,sumN (R.map λp=>(l.filter (f p)).length)=sumN (l.map λx=>(R.filter λp=>f p x).length)
 | []=>by grind[sumN,YV]
 |p::R=>by show(l.filter (f p)).length+sumN (R.map λp=>(l.filter (f p)).length)=_;rw[twice f l R,<-c01 (f p) l,<-c00];grind
end Go.Ev.Tb
namespace Go.Ev
open Go
def Jx:SX:= zb (zl 0) 1000000
def Np:VT:= .J (zs aM (zl 0)) (.N (Jx) (.W 0 [aN])) (.both (.W 0 [ck]) (.N (Jx) (.W 0 [aN])))
def IJ:VT:= .J (zs aV aS) (.N (zn (zp (za aU aV)) (zs (za aU aV) aO)) (.N (zs (za aU aV) (zl 2001)) (.N (zn (zp (za aT aV)) (zs (za aT aV) aO)) (.N (zs (za aT aV) (zl 2001)) (.N (zs (za aU aV) (zL (.O .lset [aR,za aT aV,.O .row [cr aR (za aU aV) 0,cr aR (za aU aV) 1,cr aR (za aU aV) 2,cr aR (za aU aV) 3,cr aR (za aU aV) 4,cr aR (za aU aV) 5,cr aR (za aU aV) 6]]))) (.W 0 [zi aV,.O .lset [.O .lset [aR,za aT aV,.O .row [cr aR (za aU aV) 0,cr aR (za aU aV) 1,cr aR (za aU aV) 2,cr aR (za aU aV) 3,cr aR (za aU aV) 4,cr aR (za aU aV) 5,cr aR (za aU aV) 6]],za aU aV,.O .row [cr aR (za aT aV) 0,cr aR (za aT aV) 1,cr aR (za aT aV) 2,cr aR (za aT aV) 3,cr aR (za aT aV) 4,cr aR (za aT aV) 5,cr aR (za aT aV) 6]]])))))) (.W 1 [aV,aR])
def cA8:VT:= .loop ⟨452,[aM,aN],2000,[aO,aN,aT,aU,aS]⟩ IJ [.W 0 [zo (.Q 452 [aM,aN,aO,aN,aT,aU,aS]) 1]]
def Mq:SX:= zs aT bE
def tp:SX:= zs aO bi
def sZ:SX:= dO aO bi
def IE:SX:= dO aT bE
def MS:VT:= .J (.O (.scmp .lss) [aN,bh]) (.J (Mq) (.J (tp) (.W 0 [.C (-1)]) (.J (sZ) (.W 0 [.C (-1)]) (.W 0 [.C (-1)]))) (.J (IE) (.J (tp) (.W 0 [.C (-1)]) (.J (sZ) (.W 0 [.C (-1)]) (.W 0 [.C (-1)]))) (.J (tp) (.W 0 [.C (-1)]) (.J (sZ) (.W 0 [.C (-1)]) (.W 0 [.C (-1)]))))) (.J (.O (.scmp .gtr) [aN,bh]) (.J (Mq) (.J (tp) (.W 0 [aZ]) (.J (sZ) (.W 0 [aZ]) (.W 0 [aZ]))) (.J (IE) (.J (tp) (.W 0 [aZ]) (.J (sZ) (.W 0 [aZ]) (.W 0 [aZ]))) (.J (tp) (.W 0 [aZ]) (.J (sZ) (.W 0 [aZ]) (.W 0 [aZ]))))) (.J (Mq) (.J (tp) (.W 0 [.C (-1)]) (.J (sZ) (.W 0 [.C (-1)]) (.W 0 [.C (-1)]))) (.J (IE) (.J (tp) (.W 0 [aZ]) (.J (sZ) (.W 0 [aZ]) (.W 0 [aZ]))) (.J (tp) (.W 0 [.C (-1)]) (.J (sZ) (.W 0 [aZ]) (.W 0 [aM]))))))
def VZ:VT:= .J (ew aV aR) (.J (dO aV aR) (.N (.Q 420 [aW,aO,zm aU aV,aU,aR]) (.W 0 [zm aV aR,aR,.Q 421 [aW,zm aU aV,aU,aR]])) (.N (.Q 420 [aW,aO,zm aU aV,zm (za aU aR) aV,aV]) (.W 0 [aV,zm aR aV,.Q 421 [aW,zm aU aV,zm (za aU aR) aV,aV]]))) (.W 1 [aV,aR,aW])
def Hr:SX:= zm aU aT
def Ie:SX:= zm aS aU
def DK:SX:= .Q 458 [Hr,Ie,aN,aO,aN,aU]
def GJ:SX:= zo DK 2
def zj:SX:= zo DK 0
def GG:SX:= zm aU zj
def Zh:VT:= .loop ⟨458,[Hr,Ie,aN],2000,[aO,aN,aU]⟩ VZ [.N (.Q 420 [GJ,aO,GG,aU,zj]) (.W 0 [.Q 421 [GJ,GG,aU,zj]])]
def xM:VT:= .J (dO aY aT) (.N (zn (zp aY) (zs aY aO)) (.N (zs aY (zl 3001)) (.N (zn (zp (zm aY aZ)) (zs (zm aY aZ) aO)) (.N (zs (zm aY aZ) (zl 3001)) (.J (zs (.Q 206 [zg 3001 3000 0,zg 3001 3000 1,zg 3001 3000 2,cr bg (zm aY aZ) 0,cr bg (zm aY aZ) 1,cr bg (zm aY aZ) 2]) aM) (.N (zs (zm aY aZ) (zL (.O .lset [bg,aY,.O .row [cr bg (zm aY aZ) 0,cr bg (zm aY aZ) 1,cr bg (zm aY aZ) 2,cr bg (zm aY aZ) 3,cr bg (zm aY aZ) 4,cr bg (zm aY aZ) 5,cr bg (zm aY aZ) 6]]))) (.W 0 [zm aY aZ,.O .lset [.O .lset [bg,aY,.O .row [cr bg (zm aY aZ) 0,cr bg (zm aY aZ) 1,cr bg (zm aY aZ) 2,cr bg (zm aY aZ) 3,cr bg (zm aY aZ) 4,cr bg (zm aY aZ) 5,cr bg (zm aY aZ) 6]],zm aY aZ,zv 3001 3000]])) (.W 1 [aY,bg])))))) (.W 1 [aY,bg])
def Jk:VT:= .J (zs aV aU) (.loop ⟨461,[aV,aR],3000,[aO,aR,aT,aU,aV]⟩ xM [.W 0 [zi aV,zo (.Q 461 [aV,aR,aO,aR,aT,aU,aV]) 1]]) (.W 1 [aV,aR])
def CH:SX:= zi aT
def dc6:VT:= .loop ⟨460,[CH,aN],2000,[aO,aN,aT,aU]⟩ Jk [.W 0 [zo (.Q 460 [CH,aN,aO,aN,aT,aU]) 1]]
def FZ:VT:= .J (zs aV aR) (.N (zn (zp (zh aV aR)) (zs (zh aV aR) aO)) (.N (zs (zh aV aR) (zl 0)) (.N (zn (zp aT) (zs aT aO)) (.N (zs aT (zl 0)) (.J (zs (.Q 206 [cr aN (zh aV aR) 0,cr aN (zh aV aR) 1,cr aN (zh aV aR) 2,zg 0 2 0,zg 0 2 1,zg 0 2 2]) aM) (.W 0 [zi (zh aV aR),aR]) (.W 0 [aV,zh aV aR])))))) (.W 1 [aV,aR])
def IX:VT:= .J (zs aY (zm (zo (.Q 462 [aU,aS,aO,aN,aT]) 0) aZ)) (.N (zn (zp (zi aY)) (zs (zi aY) aO)) (.N (zs (zi aY) (zl 3001)) (.N (zn (zp aY) (zs aY aO)) (.N (zs aY (zl 3001)) (.N (zs (zi aY) (zL (.O .lset [bg,aY,.O .row [cr bg (zi aY) 0,cr bg (zi aY) 1,cr bg (zi aY) 2,cr bg (zi aY) 3,cr bg (zi aY) 4,cr bg (zi aY) 5,cr bg (zi aY) 6]]))) (.W 0 [zi aY,.O .lset [.O .lset [bg,aY,.O .row [cr bg (zi aY) 0,cr bg (zi aY) 1,cr bg (zi aY) 2,cr bg (zi aY) 3,cr bg (zi aY) 4,cr bg (zi aY) 5,cr bg (zi aY) 6]],zi aY,zv 3001 3000]])))))) (.W 1 [aY,bg])
def EV:VT:= .J (zs aV aR) (.N (zn (zp aU) (zs aU aO)) (.N (zs aU (zl 0)) (.N (zn (zp (zh aV aR)) (zs (zh aV aR) aO)) (.N (zs (zh aV aR) (zl 0)) (.J (cY (zs (.Q 206 [zg 0 3 0,zg 0 3 1,zg 0 3 2,cr aN (zh aV aR) 0,cr aN (zh aV aR) 1,cr aN (zh aV aR) 2]) aM)) (.W 0 [zi (zh aV aR),aR]) (.W 0 [aV,zh aV aR])))))) (.W 1 [aV,aR])
def IQ:VT:= .J (dO aY (zo (.Q 464 [aT,aU,aO,aN,aU]) 0)) (.N (zn (zp (zm aY aZ)) (zs (zm aY aZ) aO)) (.N (zs (zm aY aZ) (zl 3001)) (.N (zn (zp aY) (zs aY aO)) (.N (zs aY (zl 3001)) (.N (zs (zm aY aZ) (zL (.O .lset [bg,aY,.O .row [cr bg (zm aY aZ) 0,cr bg (zm aY aZ) 1,cr bg (zm aY aZ) 2,cr bg (zm aY aZ) 3,cr bg (zm aY aZ) 4,cr bg (zm aY aZ) 5,cr bg (zm aY aZ) 6]]))) (.W 0 [zm aY aZ,.O .lset [.O .lset [bg,aY,.O .row [cr bg (zm aY aZ) 0,cr bg (zm aY aZ) 1,cr bg (zm aY aZ) 2,cr bg (zm aY aZ) 3,cr bg (zm aY aZ) 4,cr bg (zm aY aZ) 5,cr bg (zm aY aZ) 6]],zm aY aZ,zv 3001 3000]])))))) (.W 1 [aY,bg])
def zU:VT:= .J (zs aV aR) (.N (zn (zp (zm (zm (za (zh aT aS) aU) aZ) (zh aV aR))) (zs (zm (zm (za (zh aT aS) aU) aZ) (zh aV aR)) aO)) (.N (zs (zm (zm (za (zh aT aS) aU) aZ) (zh aV aR)) (zl 0)) (.N (zn (zp (zh aV aR)) (zs (zh aV aR) aO)) (.N (zs (zh aV aR) (zl 0)) (.J (cY (zs (.Q 206 [cr aN (zm (zm (za (zh aT aS) aU) aZ) (zh aV aR)) 0,cr aN (zm (zm (za (zh aT aS) aU) aZ) (zh aV aR)) 1,cr aN (zm (zm (za (zh aT aS) aU) aZ) (zh aV aR)) 2,cr aN (zh aV aR) 0,cr aN (zh aV aR) 1,cr aN (zh aV aR) 2]) aM)) (.W 0 [zi (zh aV aR),aR]) (.W 0 [aV,zh aV aR])))))) (.W 1 [aV,aR])
def yk:SX:= zo (.Q 462 [aU,aS,aO,aN,aT]) 0
def xW:SX:= zo (.Q 464 [aT,aU,aO,aN,aU]) 0
def dz:SX:= zh aT aS
def jj:SX:= za dz aU
def Aw:SX:= zm jj aS
def qS:SX:= zm jj aZ
def qw:SX:= zo (.Q 466 [Aw,dz,aO,aN,aT,aU,aS,dz,jj,qS]) 0
def pw:SX:= zm jj qw
def Pb:SX:= zs aT qw
def SK:SX:= zs qw dz
def vw:SX:= .Q 423 [aN,qw,aU,pw]
def ua:SX:= zs dz pw
def uz:SX:= zs pw aS
def KQ:SX:= .Q 425 [vw,aT,dz]
def dc7(B:Int):SX:= .Q 426 [vw,aO,dz,pw,aS,.C B]
def ZZ:SX:= .Q 425 [vw,dz,aS]
def XA(B:Int):SX:= .Q 426 [aN,aO,aT,qw,dz,.C B]
def pH:SX:= .Q 425 [aN,aT,dz]
def dd0(B:Int):SX:= .Q 426 [pH,aO,dz,pw,aS,.C B]
def LE:SX:= .Q 425 [pH,dz,aS]
def Jo(B:Int):SX:= .Q 426 [aN,aO,dz,pw,aS,.C B]
def vg:SX:= .Q 425 [aN,dz,aS]
def qG:SX:= zo (.Q 466 [aT,aU,aO,aN,aT,aU,aS,dz,jj,qS]) 0
def pJ:SX:= zm jj qG
def Vj:SX:= zs aT qG
def Qm:SX:= zs qG dz
def vp:SX:= .Q 423 [aN,qG,aU,pJ]
def uB:SX:= zs dz pJ
def tQ:SX:= zs pJ aS
def Nd:SX:= .Q 425 [vp,aT,dz]
def ZA(B:Int):SX:= .Q 426 [vp,aO,dz,pJ,aS,.C B]
def ZY:SX:= .Q 425 [vp,dz,aS]
def dd3(B:Int):SX:= .Q 426 [aN,aO,aT,qG,dz,.C B]
def dd4(B:Int):SX:= .Q 426 [pH,aO,dz,pJ,aS,.C B]
def MA(B:Int):SX:= .Q 426 [aN,aO,dz,pJ,aS,.C B]
def qT(B:Int):VT:= .J (ze (zm aU aT) 1) (.loop ⟨462,[aU,aS],2000,[aO,aN,aT]⟩ FZ [.loop ⟨463,[aT,aN],3000,[aO,aN,yk]⟩ IX [.W 0 [zo (.Q 463 [aT,aN,aO,aN,yk]) 1]]]) (.J (ze (zm aS aU) 1) (.loop ⟨464,[aT,aU],2000,[aO,aN,aU]⟩ EV [.loop ⟨465,[aU,aN],3000,[aO,aN,xW]⟩ IQ [.W 0 [zo (.Q 465 [aU,aN,aO,aN,xW]) 1]]]) (.J (dO aU dz) (.loop ⟨466,[Aw,dz],2000,[aO,aN,aT,aU,aS,dz,jj,qS]⟩ zU [.J (zs qw aU) (.J (zs aU pw) (.N (.Q 422 [aN,aO,qw,aU,pw]) (.J (Pb) (.J (SK) (.N (.Q 426 [vw,aO,aT,qw,dz,.C B]) (.J (ua) (.J (uz) (.N (.Q 426 [KQ,aO,dz,pw,aS,.C B]) (.W 0 [.Q 425 [KQ,dz,aS]])) (.W 0 [KQ])) (.W 0 [KQ]))) (.J (ua) (.J (uz) (.N ((dc7 B)) (.W 0 [ZZ])) (.W 0 [vw])) (.W 0 [vw]))) (.J (ua) (.J (uz) (.N ((dc7 B)) (.W 0 [ZZ])) (.W 0 [vw])) (.W 0 [vw])))) (.J (Pb) (.J (SK) (.N ((XA B)) (.J (ua) (.J (uz) (.N ((dd0 B)) (.W 0 [LE])) (.W 0 [pH])) (.W 0 [pH]))) (.J (ua) (.J (uz) (.N ((Jo B)) (.W 0 [vg])) (.W 0 [aN])) (.W 0 [aN]))) (.J (ua) (.J (uz) (.N ((Jo B)) (.W 0 [vg])) (.W 0 [aN])) (.W 0 [aN])))) (.J (Pb) (.J (SK) (.N ((XA B)) (.J (ua) (.J (uz) (.N ((dd0 B)) (.W 0 [LE])) (.W 0 [pH])) (.W 0 [pH]))) (.J (ua) (.J (uz) (.N ((Jo B)) (.W 0 [vg])) (.W 0 [aN])) (.W 0 [aN]))) (.J (ua) (.J (uz) (.N ((Jo B)) (.W 0 [vg])) (.W 0 [aN])) (.W 0 [aN])))]) (.loop ⟨466,[aT,aU],2000,[aO,aN,aT,aU,aS,dz,jj,qS]⟩ zU [.J (zs qG aU) (.J (zs aU pJ) (.N (.Q 422 [aN,aO,qG,aU,pJ]) (.J (Vj) (.J (Qm) (.N (.Q 426 [vp,aO,aT,qG,dz,.C B]) (.J (uB) (.J (tQ) (.N (.Q 426 [Nd,aO,dz,pJ,aS,.C B]) (.W 0 [.Q 425 [Nd,dz,aS]])) (.W 0 [Nd])) (.W 0 [Nd]))) (.J (uB) (.J (tQ) (.N ((ZA B)) (.W 0 [ZY])) (.W 0 [vp])) (.W 0 [vp]))) (.J (uB) (.J (tQ) (.N ((ZA B)) (.W 0 [ZY])) (.W 0 [vp])) (.W 0 [vp])))) (.J (Vj) (.J (Qm) (.N ((dd3 B)) (.J (uB) (.J (tQ) (.N ((dd4 B)) (.W 0 [LE])) (.W 0 [pH])) (.W 0 [pH]))) (.J (uB) (.J (tQ) (.N ((MA B)) (.W 0 [vg])) (.W 0 [aN])) (.W 0 [aN]))) (.J (uB) (.J (tQ) (.N ((MA B)) (.W 0 [vg])) (.W 0 [aN])) (.W 0 [aN])))) (.J (Vj) (.J (Qm) (.N ((dd3 B)) (.J (uB) (.J (tQ) (.N ((dd4 B)) (.W 0 [LE])) (.W 0 [pH])) (.W 0 [pH]))) (.J (uB) (.J (tQ) (.N ((MA B)) (.W 0 [vg])) (.W 0 [aN])) (.W 0 [aN]))) (.J (uB) (.J (tQ) (.N ((MA B)) (.W 0 [vg])) (.W 0 [aN])) (.W 0 [aN])))])))
def ee2:VT:= .J (fW aR aT) (.N (.Q 424 [aW,aO,aV,aR]) (.W 0 [aR,za aR bT,.Q 425 [aW,aV,aR]])) (.W 1 [aV,aR,aW])
def Vu:VT:= .J (fW bR aT) (.N (.Q 426 [.V 4002,aO,.V 4000,za (.V 4000) aY,bR,.C 512]) (.W 0 [bR,za bR (.O (.ar .mul .i64) [bC,aY]),.Q 425 [.V 4002,.V 4000,bR]])) (.W 1 [.V 4000,bR,.V 4002])
def DL:VT:= .J (zs aY aT) (.loop ⟨469,[aM,.O (.ar .mul .i64) [bC,aY],bg],4000,[aO,bg,aT,aY]⟩ Vu [.J (zs (za (zo (.Q 469 [aM,.O (.ar .mul .i64) [bC,aY],bg,aO,bg,aT,aY]) 0) aY) aT) (.N (.Q 426 [zo (.Q 469 [aM,.O (.ar .mul .i64) [bC,aY],bg,aO,bg,aT,aY]) 2,aO,zo (.Q 469 [aM,.O (.ar .mul .i64) [bC,aY],bg,aO,bg,aT,aY]) 0,za (zo (.Q 469 [aM,.O (.ar .mul .i64) [bC,aY],bg,aO,bg,aT,aY]) 0) aY,aT,.C 512]) (.W 0 [.O (.ar .mul .i64) [aY,bC],.Q 425 [zo (.Q 469 [aM,.O (.ar .mul .i64) [bC,aY],bg,aO,bg,aT,aY]) 2,zo (.Q 469 [aM,.O (.ar .mul .i64) [bC,aY],bg,aO,bg,aT,aY]) 0,aT]])) (.W 0 [.O (.ar .mul .i64) [aY,bC],zo (.Q 469 [aM,.O (.ar .mul .i64) [bC,aY],bg,aO,bg,aT,aY]) 2])]) (.W 1 [aY,bg])
def GA:SX:= .Q 467 [aM,bT,aN,aO,aN,aT]
def Eg:SX:= zo GA 2
def Gh:SX:= zo GA 0
def ta:SX:= .Q 425 [Eg,Gh,aT]
def YU:VT:= .loop ⟨467,[aM,bT,aN],2000,[aO,aN,aT]⟩ ee2 [.N (.Q 424 [Eg,aO,Gh,aT]) (.loop ⟨468,[bT,ta],3000,[aO,ta,aT]⟩ DL [.W 0 [zo (.Q 468 [bT,ta,aO,ta,aT]) 1]])]
def XT:VT:= .N (.Q 428 [aN,zl 0,zl 0]) (.W 0 [.Q 425 [aN,aM,zl 0]])
def bz4:SX:= .Q 425 [aN,aM,zl 0]
def YL:VT:= .N (zn (zb (zl 0) 400) (.Q 431 [aN])) (.N (cG (zl 0) (zL bz4)) (.W 0 [bz4]))
def ee3:VT:= .J (zs aR (zl 0)) (.N (zp aR) (.N (zs aR (zl 1)) (.J (cY (zn (zn (.O (.scmp .eql) [zg 0 2001 0,zg 1 2001 0]) (zn (cG (zg 0 2001 1) (zg 1 2001 1)) (cG (zg 0 2001 2) (zg 1 2001 2)))) (zn (cG (zg 0 2001 3) (zg 1 2001 3)) (zn (cG (zg 0 2001 4) (zg 1 2001 4)) (zn (cG (zg 0 2001 5) (zg 1 2001 5)) (cG (zg 0 2001 6) (zg 1 2001 6))))))) (.W 2 [.cb false,aR]) (.W 0 [aV,zi aR])))) (.W 1 [aV,aR])
def RR:VT:= .J (ew (zl 0) (zl 1)) (.W 0 [.cb false]) (.loop ⟨107,[.cb false,aM],2000,[aM,zl 0,aN,aM,zl 1,aO,zl 0]⟩ ee3 [.W 0 [.cb true],.W 0 [zo (.Q 107 [.cb false,aM,aM,zl 0,aN,aM,zl 1,aO,zl 0]) 0]])
