import Derived.Test.YtliadehnohhngaaGreatE40
import Derived.Test.YtliadehnohhngaaGreatE43
import Derived.Test.YtliadehnohhngaaGreatE1
set_option linter.all false
noncomputable section
namespace Go.Ev
open Go
abbrev aM:SX:= .C 0
abbrev aN:SX:= .V 0
abbrev aO:SX:= .V 1
abbrev aR:SX:= .V 2001
abbrev aS:SX:= .V 2
abbrev aT:SX:= .V 4
abbrev aU:SX:= .V 2000
abbrev aV:SX:= .V 3
abbrev aW:SX:= .V 2002
abbrev aY:SX:= .V 3000
abbrev aZ:SX:= .C 1
abbrev bc:SX:= .V 3001
abbrev bd:SX:= .V 6
abbrev be:SX:= .V 1000
abbrev bf:SX:= .V 7
abbrev bg:SX:= .V 5
abbrev bh:SX:= .V 8
abbrev bi:SX:= .V 4001
abbrev bj:SX:= .V 2003
abbrev bm:SX:= .C 2
abbrev bn:SX:= .V 4002
abbrev bp:SX:= .V 9
abbrev bq:SX:= .V 2004
abbrev bt:SX:= .V 10
abbrev bu:SX:= .V 1001
abbrev bv:SX:= .V 2005
abbrev bw:SX:= .V 2006
abbrev bx:SX:= .V 2008
abbrev bz:SX:= .V 6001
abbrev bA:SX:= .V 2007
abbrev bB:SX:= .C 400
abbrev bC:SX:= .V 11
abbrev bD:SX:= .V 6002
abbrev bE:SX:= .V 5001
abbrev bF:SX:= .V 4003
abbrev bG:SX:= .C 61
abbrev bH:SX:= .V 6000
abbrev bI:SX:= .V 4000
abbrev bJ:SX:= .V 12
abbrev bK:SX:= .C 1000000
abbrev bL:SX:= .C 60
abbrev bM:SX:= .C 32
abbrev bN:SX:= .V 1002
abbrev bO:SX:= .C 4294967295
abbrev bQ:SX:= .V 13
abbrev bR:SX:= .C 100
abbrev bS:SX:= .C 30
abbrev bT:SX:= .V 1004
abbrev bU:SX:= .V 14
abbrev bV:SX:= .V 15
abbrev bW:SX:= .V 1003
abbrev bX:SX:= .C 1048576
abbrev bY:SX:= .C 1099511627776
abbrev zg(a b:Nat)(k:Int):SX:= .O .G [.V a,.V b,.C k]
abbrev zu(a b:Nat):SX:= .O .row [zg a b 0,zg a b 1,zg a b 2]
abbrev zv(a b:Nat):SX:= .O .row [zg a b 0,zg a b 1,zg a b 2,zg a b 3,zg a b 4,zg a b 5,zg a b 6]
abbrev zw(a b:Nat):SX:= .O .row [zg a b 0,zg a b 1,zg a b 2,zg a b 3,zg a b 4,zg a b 5,zg a b 6,zg a b 7]
abbrev zl(a:Nat):SX:= .O .Y [.V a]
abbrev zi(x:SX):SX:= .O (.ar .add .i64) [x,aZ]
abbrev zo(x:SX)(k:Int):SX:= .O .G [x,aZ,.C k]
abbrev zb(x:SX)(k:Int):SX:= .O (.cmp .leq) [x,.C k]
abbrev zp(x:SX):SX:= .O (.cmp .leq) [aM,x]
abbrev zs(x y:SX):SX:= .O (.cmp .lss) [x,y]
abbrev zh(x y:SX):SX:= .O (.conv .i64) [.O (.ar .shr .u64) [.O (.conv .u64) [.O (.ar .add .i64) [x,y]],aZ]]
abbrev za(x y:SX):SX:= .O (.ar .add .i64) [x,y]
abbrev ze(x:SX)(k:Int):SX:= .O (.cmp .eql) [x,.C k]
abbrev zn(x y:SX):SX:= .O .and [x,y]
abbrev zt(x:SX)(k:Int):SX:= .O (.cmp .gtr) [x,.C k]
abbrev zc(x y:SX):SX:= .O .lcat [x,y]
abbrev zL(x:SX):SX:= .O .Y [x]
abbrev cq(a b:SX)(k:Int):SX:= .O .G [a,b,.C k]
abbrev co:SX:= .O .row []
abbrev cF(a b:SX):SX:= .O (.cmp .eql) [a,b]
abbrev cX(a b:SX):SX:= .O (.cmp .neq) [a,b]
abbrev eE(a b:SX):SX:= .O (.cmp .leq) [a,b]
abbrev dF(a b:SX):SX:= .O (.cmp .gtr) [a,b]
abbrev eQ(a b:SX):SX:= .O (.cmp .geq) [a,b]
abbrev dR(a:SX):SX:= .O .not [a]
abbrev zm(x y:SX):SX:= .O (.ar .sub .i64) [x,y]
variable{n:Nat}{bad:Nat->Bool}{step:U0->Option (Nat×U0)}
def fD{st:Nat->U0}{j:Nat}{p:U0}(h1: ∀i,i<n->step (st i)=some (0,st (i+1)))(h2:step (st n)=some (j+1,p)):cQ step (st 0)=some (j,p):=by
 rw[kK];have: ∀k,k<=n->Iter step (st (n-k)) j p:=by
  intro k;induction k with
  |zero=>intro _;exact .out h2
  |succ k ih=>
   intro hk;have e:=h1 (n-(k+1)) (by omega);rw[show n-(k+1)+1=n-k by omega]at e;exact .more e (ih (by omega))
 have h:=this n (j5 _);grind
def gg(x:Val)(px:Nat->U0)(bad:Nat->Bool)(n:Nat):Nat×U0:=match(List.range n).find? bad with
 |some i=>(1,px i)
 |none=>(0,[x,.D n])
theorem pg: ∀{n i:Nat},(List.range n).find? bad=some i->i<n/\bad i=true/\ ∀k,k<i->bad k=false:=by simp_all
def wH{x:Val}{px:Nat->U0}
 (h1: ∀i,i<n->bad i=false->step [x,.D i]=some (0,[x,.D (i+1:Nat)])) (h2: ∀i,i<n->bad i=true->step [x,.D i]=some (2,px i))
 (h3:step [x,.D n]=some (1,[x,.D n])):cQ step [x,.D (0:Int)]=some (gg x px bad n):=by
 unfold gg;split;rename_i i hi;obtain⟨a,b,c⟩:=pg hi;exact fD (st:=λi=>[x,.D i]) (n:=i) (λk hk=>h1 k (by omega) (c k hk)) (h2 i a b);exact fD (st:=λi=>[x,.D i]) (n:=n) (λk hk=>h1 k hk (by grind)) h3
theorem JP{x:Val}{px:Nat->U0}:gg x px bad n=if(List.range n).any bad then(1,px (((List.range n).find? bad).getD 0))else(0,[x,.D n]):=by
 unfold gg;split
 rename_i i hi;have:(List.range n).any bad=true:=by rw[K2];obtain⟨a,b,_⟩:=pg hi;exact⟨i,p7.2 a,b⟩
 rw[this,hi];rfl
 rename_i hn;have:(List.range n).any bad=false:=by rw[K8]at hn;rw[C9];intro i hi;simpa using hn i (p7.1 hi)
 rw[this];rfl
def cw(g:Nat->U0):Nat->U0
 |0=>[]
 |n+1=>cw g n++g n
def jz{g:Nat->U0}{m:Nat}(hg: ∀i,(g i).length<=m): ∀n,(cw g n).length<=n*m
 |0=>by simp[cw]
 |n+1=>by have:=jz hg n;grind[cw,List.length_append,Nat.add_mul]
def nw(g:Nat->U0): ∀n,cw g n=(List.range n).flatMap g
 |0=>rfl
 |n+1=>by rw[cw,nw g n,R2,O1];simp
def bC7{α:Type}(q:α->Bool)(d:α): ∀(l:List α),((List.range l.length).any λi=>q (l.getD i d))=l.any q
 | []=>rfl
 |a::l=>by rw[List.length_cons,J5,List.any_cons,List.any_map];simp;rw[<-bC7 q d l];congr 1
def zW{α O:Type}(g:α->List O)(d:α): ∀(l:List α),((List.range l.length).flatMap λi=>g (l.getD i d))=l.flatMap g
 | []=>rfl
 |a::l=>by rw[List.length_cons,J5,B2,K9];simp;rw[<-zW g d l];congr 1
def c25{α O:Type} [DecidableEq O](f:α->O)(d:α): ∀(l r:List α),l.length=r.length->((List.range l.length).any λi=> !decide (f (l.getD i d)=f (r.getD i d)))= !decide (l.map f=r.map f)
 | [],[],_=>by simp
 |a::l,b::r,h=>by rw[List.length_cons,J5,List.any_cons,List.any_map];have:=c25 f d l r (by simpa using h);grind
 | [],_::_,h=>by simp at h
 |_::_,[],h=>by simp at h
def cf8(h:n<=10000000):IntKind.i64.wrap ((n:Int)+1)=((n+1:Nat):Int):=by grind[IntKind.wrap,IntKind.bits,IntKind.signed]
structure RowM where
 key:qw
 a:Int
 b:Int
 c:Int
 d:Int
 e:Int
 f:Int
 deriving DecidableEq
structure PaneM where
 key:qw
 a:Int
 b:Int
 deriving DecidableEq
def Y5(r:Val)(j:Nat):Val:=r.L.getD j default
def km(r:Val):RowM:=⟨(Y5 r 0).S,(Y5 r 1).I,(Y5 r 2).I,(Y5 r 3).I,(Y5 r 4).I,(Y5 r 5).I,(Y5 r 6).I⟩
def Y2(r:Val):PaneM:=⟨(Y5 r 0).S,(Y5 r 1).I,(Y5 r 2).I⟩
def cg(l:U0)(i:Nat):Val:=l.getD i (.A [])
def NL(v:Val):List RowM:=v.L.map km
def ce(a:U0)(i:Nat):Val:=a.getD i default
def xw{α:Type} [DecidableEq α](a b:α):Bool:=decide (a=b)
@[simp]def e66{α:Type} [DecidableEq α]{a b:α}:xw a b=true↔a=b:=decide_eq_true_iff
def Zw{α:Type} [DecidableEq α](a:α):xw a a=true:=e66.2 rfl
def Gz{α:Type} [DecidableEq α](m:Val->α)(l r:U0):Val:=cC (gg (.B false) (λk=>[.B false,.D k]) (λi=> !decide (m (cg l i)=m (cg r i))) l.length)
def cO(r:Val):Val:= .A [Y5 r 0,Y5 r 1,Y5 r 2,Y5 r 3,Y5 r 4,Y5 r 5,Y5 r 6]
def fF(r:Val):Val:= .A [Y5 r 0,Y5 r 1,Y5 r 2]
def iv(a0:U0)(g:Val->U0)(l:U0):U0:=a0++cw (λi=>g (cg l i)) l.length
def HI: ∀x:qw,ii x x=false
 | []=>rfl
 |a::x=>by
  show(bif Nat.blt a.toNat a.toNat then true else bif Nat.beq a.toNat a.toNat then ii x x else false)=false;rw[HI x];have h1:Nat.blt a.toNat a.toNat=false:=by
   cases h:Nat.blt a.toNat a.toNat with
   |false=>rfl
   |true=>exact absurd (eH.1 h) (Nat.lt_irrefl _)
  grind
def c27(a b:UInt8)(x y:qw):ii (a::x) (b::y)=true↔a.toNat<b.toNat\/a=b/\ii x y=true:=by show(bif Nat.blt a.toNat b.toNat then true else bif Nat.beq a.toNat b.toNat then ii x y else false)=true↔_;grind[eH,UInt8.toNat_inj,Y0]
theorem VS: ∀{x y z:qw},ii x y=true->ii y z=true->ii x z=true
 |_,[],[],_,h=>by cases h
 |_,_::_,[],_,h=>by cases h
 | [],[],_,h,_=>by cases h
 |_::_,[],_,h,_=>by cases h
 | [],_::_,_::_,_,_=>rfl
 |a::x,b::y,c::z,h1,h2=>by
  rw[c27]at*
  rcases h1 with h1|⟨rfl,h1⟩<;>rcases h2 with h2|⟨rfl,h2⟩
  omega;omega;omega;exact .inr ⟨rfl,VS h1 h2⟩
def Ja: ∀{x y:qw},ii x y=false->ii y x=false->x=y
 | [],[],_,_=>rfl
 | [],_::_,h,_=>by cases h
 |_::_,[],_,h=>by cases h
 |a::x,b::y,h1,h2=>by rw[<-A2,c27]at h1 h2;have hab:a=b:=UInt8.toNat_inj.1 (by omega);subst hab;have:=Ja (x:=x) (y:=y) (by grind) (by grind);rw[this]
def fX(p q:PaneM):Bool:=gC p.key q.key||decide (p.key=q.key)&&(decide (p.b<q.b)||decide (p.b=q.b)&&decide (p.a<q.a))
def BX(p q:PaneM):Int:=if gC p.key q.key then-1 else if gC q.key p.key then 1 else if p.b<q.b then-1 else if q.b<p.b then 1 else if p.a<q.a then-1 else if q.a<p.a then 1 else 0
theorem Jh(p q:PaneM):fX p q=true↔ii p.key q.key=true\/p.key=q.key/\(p.b<q.b\/p.b=q.b/\p.a<q.a):=by simp_all[fX,gC,s9,j8,decide_eq_true_eq]
theorem QC(p:PaneM):fX p p=false:=by rw[<-A2,Jh,HI];simp
theorem Zc{p q r:PaneM}(h1:fX p q=true)(h2:fX q r=true):fX p r=true:=by grind[Jh,VS]
theorem OU{p q:PaneM}(h1:fX p q=false)(h2:fX q p=false):p=q:=by rw[<-A2,Jh]at h1 h2;obtain⟨a1,a2⟩:=not_or.1 h1;obtain⟨b1,b2⟩:=not_or.1 h2;have hk:=Ja (by rwa[<-A2]) (by rwa[<-A2]) (x:=p.key) (y:=q.key);obtain⟨k,a,b⟩:=p;obtain⟨k',a',b'⟩:=q;grind
def YC(p q:PaneM):BX p q<0↔fX p q=true:=by
 rw[Jh];unfold BX gC;cases h1:ii p.key q.key with
 |true=>simp
 |false=>
  cases h2:ii q.key p.key with
  |true=>
   grind
  |false=>
   have hk:=Ja h1 h2;grind
theorem Sf{p q:PaneM}(h:fX p q=true):fX q p=false:=by grind[Zc,QC]
def SY{p q r:PaneM}(h1:fX p q=false)(h2:fX q r=false):fX p r=false:=by grind[fX,Zc,OU]
def vw(a b:Val):Int:=BX (Y2 a) (Y2 b)
def mD(a b:Val):Bool:=fX (Y2 a) (Y2 b)
def YQ(a b:Val):Go.Proofs.ltOf vw a b=mD a b:=by unfold Go.Proofs.ltOf vw mD;rw[D6,decide_eq_true_iff,YC]
def cz6:Go.Sort.SWO (Go.Proofs.ltOf vw)where
 irrefl x:=by rw[YQ];exact QC _
 trans x y z h1 h2:=by rw[YQ]at*;exact Zc h1 h2
 ntrans x y z h1 h2:=by rw[YQ]at*;exact SY h1 h2
def eR(r:Val):Val:= .A [Y5 r 0,Y5 r 1,Y5 r 2,Y5 r 3,Y5 r 4,Y5 r 5,Y5 r 6,Y5 r 7]
def Iw(r:Val):Val.A [Y5 r 0,Y5 r 1,Y5 r 2,Y5 r 3,Y5 r 4,Y5 r 5,Y5 r 6,Y5 r 7]=eR r:=rfl
def Dn(l:U0)(k:Nat):U0:=(l.set k (eR (cg l (k+1)))).set (k+1) (eR (cg l k))
def oK:U0->Nat->Nat×U0
 |l,0=>(0,l)
 |l,k+1=>if mD (cg l (k+1)) (cg l k)then oK (Dn l k) k else(k+1,l)
def mg(l:U0):Nat->U0
 |0=>[]
 |i+1=>(oK (mg l i++[eR (cg l i)]) i).2
def jM(l:U0):U0:=mg l l.length
def bC8(l:U0)(k:Nat):(Dn l k).length=l.length:=by simp[Dn]
def Vg: ∀(k:Nat) (l:U0),(oK l k).2.length=l.length
 |0,_=>rfl
 |k+1,l=>by unfold oK;split;rw[Vg k,bC8];rfl
def Oc(l:U0): ∀i,(mg l i).length=i
 |0=>rfl
 |i+1=>by rw[mg,Vg,k7,Oc l i];rfl
def ic(x:Val):U0->U0
 | []=>[x]
 |y::r=>if mD x y then y::ic x r else x::y::r
def jB(l:U0):Nat->U0
 |0=>[]
 |i+1=>ic (eR (cg l i)) (jB l i)
def YA(a b:U0)(k:Nat)(h:a.length=k):cg (a++b) k=cg b 0:=by simp_all[cg,k5,s6,j5,J7]
def cz7(x:Val)(hx:eR x=x): ∀(s t:U0),(∀y∈s,eR y=y)->(oK (s.reverse++x::t) s.length).2=(ic x s).reverse++t
 | [],t,_=>rfl
 |y::r,t,h=>by
  have e1:(y::r).reverse++x::t=r.reverse++y::x::t:=by simp
  have a1:cg (r.reverse++y::x::t) r.length=y:=by rw[YA _ _ _ (by simp)];rfl
  have a2:cg (r.reverse++y::x::t) (r.length+1)=x:=by rw[show r.reverse++y::x::t=(r.reverse++[y])++x::t by simp,YA _ _ _ (by simp)];rfl
  rw[e1,List.length_cons];unfold oK ic;rw[a1,a2];split
  have sw:Dn (r.reverse++y::x::t) r.length=r.reverse++x::(y::t):=by simp_all[set,List.set_append,b9,Dn]
  rw[sw,cz7 x hx r (y::t) (λz hz=>h z (by simp[hz]))];simp;simp
def vn(x:Val): ∀s:U0,(ic x s).Perm (x::s)
 | []=> .refl _
 |y::r=>by
  unfold ic;split
  .exact((vn x r).cons y).trans (.swap x y r)
  rfl
def c28(l:U0): ∀i,∀y∈jB l i,eR y=y
 |0,y,h=>by cases h
 |i+1,y,h=>by
  have:=(vn (eR (cg l i)) (jB l i)).mem_iff.1 h;rcases n8.1 this with rfl|h
  rfl;exact c28 l i y h
def cz8(l:U0): ∀i,(jB l i).length=i
 |0=>rfl
 |i+1=>by rw[jB,(vn _ _).length_eq,List.length_cons,cz8 l i]
def Ye(l:U0): ∀i,mg l i=(jB l i).reverse
 |0=>rfl
 |i+1=>by have:=cz7 (eR (cg l i)) rfl (jB l i) [] (c28 l i);rw[cz8]at this;rw[mg,Ye l i,this,o9,jB]
def LJ(l:U0): ∀i,(jB l i).Perm ((List.range i).map λk=>eR (cg l k))
 |0=> .refl _
 |i+1=>by rw[R2,r9];exact(vn _ _).trans (((LJ l i).cons _).trans (U7 _ _).symm)
theorem FI(x:Val): ∀s:U0,s.Pairwise (λa b=>mD a b=false)->(ic x s).Pairwise (λa b=>mD a b=false)
 | [],_=>by simp[ic]
 |y::r,h=>by
  unfold ic;rw[B8]at h;split
  rename_i hl;rw[B8];refine⟨λz hz=> ?_,FI x r h.2⟩;rcases n8.1 ((vn x r).mem_iff.1 hz)with rfl|hz
  exact Sf hl;grind
  have hl:mD x y=false:=by grind
  rw[B8,B8];refine⟨λz hz=> ?_,h⟩;rcases n8.1 hz with rfl|hz
  exact hl;exact SY hl (h.1 z hz)
def KK(l:U0): ∀i,(jB l i).Pairwise (λa b=>mD a b=false)
 |0=> .nil
 |i+1=>FI _ _ (KK l i)
def cz9{α:Type}(f:Val->α)(l:U0):((List.range l.length).map λk=>f (cg l k))=l.map f:=by
 refine J4 (by simp) λi h1 h2=> ?_
 have hi:i<l.length:=by simpa using h1
 simp[cg,k5,hi]
def OW(l:U0):(jM l).Perm (l.map eR):=by unfold jM;rw[Ye,<-cz9 eR l];exact(List.reverse_perm _).trans (LJ l l.length)
def bC9(l:U0):(jM l).Pairwise (λa b=>mD b a=false):=by unfold jM;rw[Ye,U8];exact KK l l.length
theorem NJ{α O:Type}{f:α->O}: ∀{l:List α},(l.map f).Nodup-> ∀{a b:α},a∈l->b∈l->f a=f b->a=b
 | [],_,a,b,ha,_,_=>by cases ha
 |x::l,h,a,b,ha,hb,e=>by
  rw[m8,E7]at h;rcases n8.1 ha with h1|h1<;>rcases n8.1 hb with h2|h2
  grind;grind;grind;exact NJ h.2 h1 h2 e
def bO8{l:U0}(hn: ∀x∈l,eR x=x)(hd:(l.map Y2).Nodup):gn vw l=jM l:=by
 obtain⟨p1,s1⟩:=xS cz6 l;have hm:l.map eR=l:=by rw[y6 hn];simp
 have p2:=OW l;rw[hm]at p2;refine S3 (le:=λa b=>mD b a=false) (λa b ha hb h1 h2=> ?_) (s1.imp λ{a b} h=> ?_) (bC9 l) (p1.trans p2.symm);exact NJ hd (p1.mem_iff.1 ha) (p2.mem_iff.1 hb) (OU h2 h1);rw[<-A2];intro hh;exact h ((YC _ _).2 hh)
end Go.Ev
namespace Go.Ev.Tb
def isR(g:Int)(T:Int->Prop)(s e:Int):Prop:=T s/\T (e-g)/\s<=e-g/\ ∀t,T t->s<=t->t<e-g-> ∃t',T t'/\t<t'/\t'<t+g
def isS(g:Int)(T:Int->Prop)(s e:Int):Prop:=isR g T s e/\(∀t,T t->s-g<t->t<s->False)/\(∀t,T t->e-g<t->t<e->False)
def lap(s e s' e':Int):Prop:=s<e'/\s'<e
def isR.up{g:Int}{T:Int->Prop}{s e:Int}(h:isR g T s e)(y:Int)(h2:y<e-g): ∀(n:Nat) (x:Int),(y-x).toNat<=n->T x->s<=x->x<=y-> ∃x',T x'/\y<x'/\x'<y+g
 |n,x,hn,hx,h3,h4=>by
  obtain⟨x',a1,a2,a3⟩:=h.2.2.2 x hx h3 (by omega);by_cases hy:y<x';exact⟨x',a1,hy,by omega⟩
  cases n with
  |zero=>omega
  |succ n=>exact isR.up h y h2 n x' (by omega) a1 (by omega) (by omega)
def isR.next{g:Int}{T:Int->Prop}{s e:Int}(h:isR g T s e){y:Int}(h1:s<=y)(h2:y<e-g): ∃x',T x'/\y<x'/\x'<y+g:=
 h.up y h2 (y-s).toNat s (j5 _) h.1 (y8 _) h1
def isR.down{g:Int}{T:Int->Prop}{s e:Int}(h:isR g T s e)(y:Int)(h2:y<=e-g): ∀(n:Nat) (x:Int),(y-x).toNat<=n->T x->s<=x->x<y-> ∃x',T x'/\y-g<x'/\x'<y
 |n,x,hn,hx,h3,h4=>by
  obtain⟨x',a1,a2,a3⟩:=h.2.2.2 x hx h3 (by omega);by_cases hy:y<=x';exact⟨x,hx,by omega,h4⟩
  cases n with
  |zero=>omega
  |succ n=>exact isR.down h y h2 n x' (by omega) a1 (by omega) (by omega)
def isR.prev{g:Int}{T:Int->Prop}{s e:Int}(h:isR g T s e){y:Int}(h1:s<y)(h2:y<=e-g): ∃x',T x'/\y-g<x'/\x'<y:=
 h.down y h2 (y-s).toNat s (j5 _) h.1 (y8 _) h1
def isS.inn{g:Int}{T:Int->Prop}{s e s' e':Int}(h:isS g T s e)(h':isR g T s' e')(hl:lap s e s' e'):s<=s'/\e'<=e:=by
 obtain⟨l1,l2⟩:=hl;refine⟨?_,?_⟩
 refine E8.1 λhc=> ?_
 by_cases hq:s<=e'-g;obtain⟨x,a1,a2,a3⟩:=h'.prev hc hq;exact h.2.1 x a1 a2 a3;exact h.2.1 (e'-g) h'.2.1 (by omega) (by omega)
 .refine E8.1 λhc=> ?_
  by_cases hq:s'<=e-g
  .obtain⟨x,a1,a2,a3⟩:=h'.next hq (by omega)
   exact h.2.2 x a1 a2 (by omega)
  exact h.2.2 s' h'.1 (by omega) (by omega)
theorem isS.one{g:Int}{T:Int->Prop}{s e s' e':Int}(h:isS g T s e)(h':isS g T s' e')(hl:lap s e s' e'):s=s'/\e=e':=by have a:=h.inn h'.1 hl;have b:=h'.inn h.1 ⟨hl.2,hl.1⟩;omega
def isR.join{g:Int}{T:Int->Prop}{s e s' e':Int}(h:isR g T s e)(h':isR g T s' e')(hl:lap s e s' e'):isR g T (min s s') (max e e'):=by
 obtain⟨l1,l2⟩:=hl;have b:=h.2.2.1;have e1:min s s'=s\/min s s'=s':=by omega
 have e2:max e e'=e\/max e e'=e':=by omega
 refine⟨?_,?_,by omega,λt ht h1 h2=> ?_⟩
 rcases e1 with q|q<;>rw[q]
 exact h.1;exact h'.1
 rcases e2 with q|q<;>rw[q]
 exact h.2.1;exact h'.2.1;by_cases c1:s<=t/\t<e-g;exact h.2.2.2 t ht c1.1 c1.2;by_cases c2:s'<=t/\t<e'-g;exact h'.2.2.2 t ht c2.1 c2.2;by_cases c3:t<s;exact⟨s,h.1,c3,by omega⟩;exact⟨s',h'.1,by omega,by omega⟩
def isR.mono{g:Int}{T T':Int->Prop}{s e:Int}(h:isR g T s e)(hT: ∀x,T x->T' x)(hn: ∀t,T' t->s<=t->t<e-g->T t):isR g T' s e:=
 ⟨hT _ h.1,hT _ h.2.1,h.2.2.1,λt ht h1 h2=>by obtain⟨x,a1,a2,a3⟩:=h.2.2.2 t (hn t ht h1 h2) h1 h2;grind⟩
def isR.more{g:Int}{T T':Int->Prop}{s e:Int}(t:Int)(h:isR g T s e)(hT: ∀x,T' x↔T x\/x=t):isR g T' s e:=
 ⟨(hT _).2 (.inl h.1),(hT _).2 (.inl h.2.1),h.2.2.1,λx hx h1 h2=>by
   obtain⟨x',a1,a2,a3⟩:=h.next h1 h2
   grind⟩
def isR.own{g:Int}{T:Int->Prop}(t:Int)(ht:T t):isR g T t (t+g):=
 ⟨ht,by grind,by omega,λx _ h1 h2=>by omega⟩
def nowOf:Int->Int->aaB->Int×Int
 |a,b,[]=>(a,b)
 |a,b,(s,e)::l=>nowOf (min a s) (max b e) l
def lapB(s e s' e':Int):Bool:=decide (s<e')&&decide (s'<e)
def xO{s e s' e':Int}:lapB s e s' e'=true↔lap s e s' e':=by simp[lapB,lap]
def joinedOf(g t:Int)(l:aaB):aaB:=l.filter λp=>lapB p.1 p.2 t (t+g)
def uJ(g t:Int)(l:aaB):aaB:=l.filter λp=> !lapB p.1 p.2 t (t+g)
def bD0{g:Int}{T:Int->Prop}: ∀(l:aaB) (a b:Int),(∀p∈l,isR g T p.1 p.2/\lap p.1 p.2 a b)->isR g T a b->isR g T (nowOf a b l).1 (nowOf a b l).2
 | [],a,b,h,h0=>h0
 |(s,e)::l,a,b,h,h0=>by have q:=h (s,e) (C4 ..);refine bD0 l _ _ (λp hp=>⟨(h p (y7 _ hp)).1,?_⟩) (h0.join q.1 ⟨q.2.2,q.2.1⟩);have r:=(h p (y7 _ hp)).2;exact⟨by have:=r.1;omega,by have:=r.2;omega⟩
def nowOf_le: ∀(l:aaB) (a b:Int),(nowOf a b l).1<=a/\b<=(nowOf a b l).2/\ ∀p∈l,(nowOf a b l).1<=p.1/\p.2<=(nowOf a b l).2
 | [],a,b=>⟨y8 _,y8 _,λp hp=>absurd hp (G3)⟩
 |(s,e)::l,a,b=>by
  obtain⟨q1,q2,q3⟩:=nowOf_le l (min a s) (max b e);refine⟨by grind[nowOf,min,max],by grind[nowOf,min,max],λp hp=> ?_⟩;rcases n8.1 hp with rfl|hp
  grind[nowOf,min,max];exact q3 p hp
def c29: ∀(l:aaB) (a b:Int),((nowOf a b l).1=a\/ ∃p∈l,(nowOf a b l).1=p.1)/\((nowOf a b l).2=b\/ ∃p∈l,(nowOf a b l).2=p.2)
 | [],a,b=>⟨.inl rfl,.inl rfl⟩
 |(s,e)::l,a,b=>by obtain⟨q1,q2⟩:=c29 l (min a s) (max b e);grind[nowOf,min,max,List.mem_cons_self,List.mem_cons_of_mem]
def Ses(g:Int)(T:Int->Prop)(l:aaB):Prop:=(∀s e,(s,e)∈l↔isS g T s e)/\ ∀t,T t-> ∃p∈l,p.1<=t/\t+g<=p.2
def dr0(g:Int){T:Int->Prop}(hT: ∀x,¬T x):Ses g T []:=
 ⟨λs e=>⟨λh=>absurd h (G3),λh=>absurd h.1.1 (hT _)⟩,λt h=>absurd h (hT t)⟩
def Ux{g:Int}(hg:0<g){T T':Int->Prop}{l:aaB}(t:Int)(h:Ses g T l)(hT: ∀x,T' x↔T x\/x=t):
 isS g T' (nowOf t (t+g) (joinedOf g t l)).1 (nowOf t (t+g) (joinedOf g t l)).2/\
 ∀s e,isS g T' s e↔(s,e)∈uJ g t l\/(s,e)=nowOf t (t+g) (joinedOf g t l):=by
 have hj: ∀p,p∈joinedOf g t l↔p∈l/\lap p.1 p.2 t (t+g):=λp=>by rw[joinedOf,l9,xO]
 have hr: ∀p,p∈uJ g t l↔p∈l/\ ¬lap p.1 p.2 t (t+g):=λp=>by rw[uJ,l9,<-xO];simp
 generalize hJ:joinedOf g t l=J at hj;obtain⟨n1,n2,n3⟩:=nowOf_le J t (t+g);obtain⟨m1,m2⟩:=c29 J t (t+g);have hrun:isR g T' (nowOf t (t+g) J).1 (nowOf t (t+g) J).2:=bD0 J t (t+g) (λp hp=>⟨isR.more t ((h.1 p.1 p.2).1 ((hj p).1 hp).1).1 hT,((hj p).1 hp).2⟩) (isR.own t ((hT t).2 (.inr rfl)));generalize nowOf t (t+g) J=N at n1 n2 n3 m1 m2 hrun;have hjoin: ∀p,p∈l->lap p.1 p.2 t (t+g)->N.1<=p.1/\p.2<=N.2:=λp h1 h2=>n3 p ((hj p).2 ⟨h1,h2⟩)
 have hS:isS g T' N.1 N.2:=by
  refine⟨hrun,λx hx h1 h2=> ?_,λx hx h1 h2=> ?_⟩
  rcases(hT x).1 hx with hx|rfl
  rcases m1 with q|⟨p,hp,q⟩
  obtain⟨p,a1,a2,a3⟩:=h.2 x hx;have:=hjoin p a1 ⟨by omega,by omega⟩;omega;exact((h.1 p.1 p.2).1 ((hj p).1 hp).1).2.1 x hx (by omega) (by omega);omega
  rcases(hT x).1 hx with hx|rfl
  rcases m2 with q|⟨p,hp,q⟩
  obtain⟨p,a1,a2,a3⟩:=h.2 x hx;have:=hjoin p a1 ⟨by omega,by omega⟩;omega;exact((h.1 p.1 p.2).1 ((hj p).1 hp).1).2.2 x hx (by omega) (by omega);omega
 refine⟨hS,λs e=>⟨λhs=> ?_,λhs=> ?_⟩⟩;by_cases hl:lap s e N.1 N.2;exact .inr (by have:=hs.one hS hl;exact M3 this.1 this.2)
 have hno: ¬lap s e t (t+g):=λ⟨a,b⟩=>hl ⟨by omega,by omega⟩
 refine .inl ((hr (s,e)).2 ⟨(h.1 s e).2 ?_,hno⟩);have b:=hs.1.2.2.1;refine⟨⟨?_,?_,b,λx hx h1 h2=> ?_⟩,λx hx=>hs.2.1 x ((hT x).2 (.inl hx)),λx hx=>hs.2.2 x ((hT x).2 (.inl hx))⟩
 rcases(hT s).1 hs.1.1 with a|a
 exact a;exact absurd ⟨by omega,by omega⟩ hno
 rcases(hT _).1 hs.1.2.1 with a|a
 exact a;exact absurd ⟨by omega,by omega⟩ hno
 obtain⟨x',a1,a2,a3⟩:=hs.1.2.2.2 x ((hT x).2 (.inl hx)) h1 h2;rcases(hT x').1 a1 with a|a
 exact⟨x',a,a2,a3⟩;exact absurd ⟨by omega,by omega⟩ hno
 rcases hs with hs|hs
 obtain⟨a1,a2⟩:=(hr (s,e)).1 hs;have q:=(h.1 s e).1 a1;have b:=q.1.2.2.1;refine⟨isR.more t q.1 hT,λx hx h1 h2=> ?_,λx hx h1 h2=> ?_⟩
 rcases(hT x).1 hx with c|c
 exact q.2.1 x c h1 h2;exact a2 ⟨by omega,by omega⟩
 rcases(hT x).1 hx with c|c
 exact q.2.2 x c h1 h2;exact a2 ⟨by omega,by omega⟩;rw[<-hs]at hS;exact hS
def Uz{g:Int}(hg:0<g){T T':Int->Prop}{l m:aaB}(t:Int)(h:Ses g T l)(hT: ∀x,T' x↔T x\/x=t)
 (hm: ∀p,p∈m↔p∈uJ g t l\/p=nowOf t (t+g) (joinedOf g t l)):Ses g T' m:=by
 obtain⟨h1,h2⟩:=Ux hg t h hT;obtain⟨n1,n2,n3⟩:=nowOf_le (joinedOf g t l) t (t+g);refine⟨λs e=>by rw[hm,h2],λx hx=> ?_⟩;rcases(hT x).1 hx with a|a
 obtain⟨p,b1,b2,b3⟩:=h.2 x a;by_cases c:lap p.1 p.2 t (t+g);have:=n3 p (by rw[joinedOf,l9,xO];exact⟨b1,c⟩);exact⟨_,(hm _).2 (.inr rfl),by omega,by omega⟩;exact⟨p,(hm _).2 (.inl (by rw[uJ,l9,s8,<-A2,xO];exact⟨b1,c⟩)),b2,b3⟩;grind
def ses_runs{g:Int}(hg:0<g){T:Int->Prop}{l:aaB}(h1: ∀p∈l,isR g T p.1 p.2)(h2: ∀t,T t-> ∃p∈l,p.1<=t/\t+g<=p.2)
 (h3: ∀p∈l,∀q∈l,lap p.1 p.2 q.1 q.2->p=q):Ses g T l:=by
 have hs: ∀p∈l,isS g T p.1 p.2:=λp hp=>by have b:=(h1 p hp).2.2.1;refine⟨h1 p hp,λx hx a1 a2=> ?_,λx hx a1 a2=> ?_⟩;obtain⟨q,c1,c2,c3⟩:=h2 x hx;have:=h3 p hp q c1 ⟨by omega,by omega⟩;subst this;omega;obtain⟨q,c1,c2,c3⟩:=h2 x hx;have:=h3 p hp q c1 ⟨by omega,by omega⟩;subst this;omega
 refine⟨λs e=>⟨λh=>hs (s,e) h,λh=> ?_⟩,h2⟩;obtain⟨q,c1,c2,c3⟩:=h2 s h.1.1;have b:=h.1.2.2.1;have:=h.one (hs q c1) ⟨by omega,by omega⟩;grind
abbrev Ag:=Int×Int×Int×Int
def sumI:aaC->Int
 | []=>0
 |x::l=>x+sumI l
def minI:aaC->Int
 | []=>0
 |x::l=>l.foldl min x
def maxI:aaC->Int
 | []=>0
 |x::l=>l.foldl max x
def agOf(l:aaC):Ag:=((l.length:Int),sumI l,minI l,maxI l)
def cA0: ∀(l:aaC) (x:Int),l.foldl min x<=x/\(∀y∈l,l.foldl min x<=y)/\(l.foldl min x=x\/l.foldl min x∈l)
 | [],x=>⟨y8 _,λy h=>absurd h (G3),.inl rfl⟩
 |a::l,x=>by
  obtain⟨h1,h2,h3⟩:=cA0 l (min x a);refine⟨by show l.foldl min (min x a)<=x;omega,λy hy=> ?_,?_⟩
  rcases n8.1 hy with rfl|hy
  show l.foldl min (min x y)<=y;omega;exact h2 y hy;grind
def cA1: ∀(l:aaC) (x:Int),x<=l.foldl max x/\(∀y∈l,y<=l.foldl max x)/\(l.foldl max x=x\/l.foldl max x∈l)
 | [],x=>⟨y8 _,λy h=>absurd h (G3),.inl rfl⟩
 |a::l,x=>by
  obtain⟨h1,h2,h3⟩:=cA1 l (max x a);refine⟨by show x<=l.foldl max (max x a);omega,λy hy=> ?_,?_⟩
  rcases n8.1 hy with rfl|hy
  show y<=l.foldl max (max x y);omega;exact h2 y hy;grind
theorem minI_spec{l:aaC}(h:l≠[]):minI l∈l/\ ∀x∈l,minI l<=x:=by
 match l,h with
 |a::l,_=>
  obtain⟨h1,h2,h3⟩:=cA0 l a;refine⟨?_,λx hx=> ?_⟩
  rcases h3 with h|h
  exact n8.2 (.inl h);exact y7 _ h
  rcases n8.1 hx with rfl|hx
  exact h1;exact h2 x hx
theorem maxI_spec{l:aaC}(h:l≠[]):maxI l∈l/\ ∀x∈l,x<=maxI l:=by
 match l,h with
 |a::l,_=>
  obtain⟨h1,h2,h3⟩:=cA1 l a;refine⟨?_,λx hx=> ?_⟩
  rcases h3 with h|h
  exact n8.2 (.inl h);exact y7 _ h
  rcases n8.1 hx with rfl|hx
  exact h1;exact h2 x hx
def cA2{l:aaC}{m:Int}(h1:m∈l)(h2: ∀x∈l,m<=x):minI l=m:=by grind[minI_spec,List.ne_nil_of_mem,Int.le_antisymm]
def cA3{l:aaC}{m:Int}(h1:m∈l)(h2: ∀x∈l,x<=m):maxI l=m:=by grind[maxI_spec,List.ne_nil_of_mem,Int.le_antisymm]
def sumI_app: ∀a b:aaC,sumI (a++b)=sumI a+sumI b
 | [],b=>by simp[sumI]
 |x::a,b=>by show x+sumI (a++b)=x+sumI a+sumI b;rw[sumI_app a b];omega
def cA4{a b:aaC}(h:a.Perm b):sumI a=sumI b:=by
 induction h with
 |nil=>rfl
 |cons x _ ih=>show x+_=x+_;rw[ih]
 |swap x y l=>grind[sumI]
 |trans _ _ h1 h2=>omega
def bD1{a b:aaC}(h:a.Perm b):agOf a=agOf b:=by by_cases hb:b=[];simp_all;obtain⟨m1,m2⟩:=minI_spec hb;obtain⟨x1,x2⟩:=maxI_spec hb;unfold agOf;rw[h.length_eq,cA4 h,cA2 (h.mem_iff.2 m1) (λx hx=>m2 x (h.mem_iff.1 hx)),cA3 (h.mem_iff.2 x1) (λx hx=>x2 x (h.mem_iff.1 hx))]
def ag2(a b:Ag):Ag:=(a.1+b.1,a.2.1+b.2.1,min a.2.2.1 b.2.2.1,max a.2.2.2 b.2.2.2)
def c30{a b:aaC}(ha:a≠[])(hb:b≠[]):agOf (a++b)=ag2 (agOf a) (agOf b):=by
 obtain⟨m1,m2⟩:=minI_spec ha;obtain⟨m3,m4⟩:=minI_spec hb;obtain⟨x1,x2⟩:=maxI_spec ha;obtain⟨x3,x4⟩:=maxI_spec hb;have e1:minI (a++b)=min (minI a) (minI b):=cA2 (by
  grind) (λx hx=>by
  grind)
 have e2:maxI (a++b)=max (maxI a) (maxI b):=cA3 (by
  grind) (λx hx=>by
  grind)
 show(((a++b).length:Int),sumI (a++b),minI (a++b),maxI (a++b))=_;rw[e1,e2,sumI_app,k7,Int.natCast_add];rfl
def agAll:List Ag->Ag
 | []=>(0,0,0,0)
 |a::l=>l.foldl ag2 a
def da6{α:Type}(f:α->aaC): ∀(l:List α) (a:aaC),a≠[]->(∀x∈l,f x≠[])->(l.map λx=>agOf (f x)).foldl ag2 (agOf a)=agOf (a++l.flatMap f)
 | [],a,ha,h=>by simp
 |x::l,a,ha,h=>by show(l.map λx=>agOf (f x)).foldl ag2 (ag2 (agOf a) (agOf (f x)))=_;rw[<-c30 ha (h x (C4 ..)),da6 f l (a++f x) (by simp[ha]) (λy hy=>h y (y7 _ hy)),B2,A8]
def bD2{α:Type}(p q:α->Bool): ∀l:List α,(∀x∈l,p x=true->q x=true->False)->(l.filter λx=>p x||q x).Perm (l.filter p++l.filter q)
 | [],h=>K7 _
 |x::l,h=>by have ih:=bD2 p q l (λy hy=>h y (y7 _ hy));rw[B1,B1 (p:=p),B1 (p:=q)];cases hp:p x<;>cases hq:q x<;>simp only[G2,Bool.or_true,n9,if_true,if_false,Bool.or_self];exact ih;exact(List.Perm.cons x ih).trans List.perm_middle.symm;exact List.Perm.cons x ih;grind
def bg7{α O:Type}(f:O->α->Bool)(l:List α): ∀J:List O,J.Pairwise (λa b=> ∀x∈l,f a x=true->f b x=true->False)->(l.filter λx=>J.any λp=>f p x).Perm (J.flatMap λp=>l.filter (f p))
 | [],h=>by simp
 |p::J,h=>by obtain⟨h1,h2⟩:=B8.1 h;have:=bD2 (f p) (λx=>J.any λp=>f p x) l (λx hx a b=>by grind);exact this.trans (S5 _ (bg7 f l J h2))
variable{K:Type} [DecidableEq K]
inductive Wd
 |ses (g:Int)
 |win (P:Int->Int->Prop)
abbrev Evt(K:Type):=K×Int×Int
def tms(l:List (Evt K))(k:K)(t:Int):Prop:= ∃x∈l,x.1=k/\x.2.1=t
def inP(k:K)(s e:Int)(x:Evt K):Bool:=decide (x.1=k)&&decide (s<=x.2.1)&&decide (x.2.1<e)
theorem inP_iff{k:K}{s e:Int}{x:Evt K}:inP k s e x=true↔x.1=k/\s<=x.2.1/\x.2.1<e:=by simp[inP,and_assoc]
def vals(l:List (Evt K))(k:K)(s e:Int):aaC:=(l.filter (inP k s e)).map (·.2.2)
def Pan:Wd->List (Evt K)->K->Int->Int->Prop
 | .ses g,l,k,s,e=>isS g (tms l k) s e
 | .win P,l,k,s,e=>P s e/\ ∃t,tms l k t/\s<=t/\t<e
def Tab(W:Wd)(l:List (Evt K))(M:K->Int->Int->Option Ag):Prop:= ∀k s e a,M k s e=some a↔Pan W l k s e/\a=agOf (vals l k s e)
def Tab.none{W:Wd}{l:List (Evt K)}{M:K->Int->Int->Option Ag}(h:Tab W l M){k:K}{s e:Int}:M k s e=none↔ ¬Pan W l k s e:=by
 cases hm:M k s e with
 |none=>exact⟨λ_ hp=>(by have:=(h k s e _).2 ⟨hp,rfl⟩;grind),λ_=>rfl⟩
 |some a=>exact⟨λx=>(by cases x),λx=>absurd ((h k s e a).1 hm).1 x⟩
def Tab.uniq{W:Wd}{l:List (Evt K)}{M M':K->Int->Int->Option Ag}(h:Tab W l M)(h':Tab W l M')(k:K)(s e:Int):M k s e=M' k s e:=by
 cases hm:M' k s e with
 |none=>exact h.none.2 (h'.none.1 hm)
 |some a=>exact(h k s e a).2 ((h' k s e a).1 hm)
omit [DecidableEq K]in
def tms_app(l:List (Evt K))(o:Evt K)(k:K)(t:Int):tms (l++[o]) k t↔tms l k t\/(o.1=k/\t=o.2.1):=by
 constructor
 rintro⟨x,hx,h1,h2⟩;rcases x6.1 hx with h|h
 exact .inl ⟨x,h,h1,h2⟩;grind;rintro(⟨x,hx,h1,h2⟩|⟨h1,h2⟩);exact⟨x,x6.2 (.inl hx),h1,h2⟩;exact⟨o,x6.2 (.inr (o7.2 rfl)),h1,h2.symm⟩
def vals_app(l:List (Evt K))(o:Evt K)(k:K)(s e:Int):vals (l++[o]) k s e=vals l k s e++(if inP k s e o then [o.2.2]else []):=by unfold vals;cases h:inP k s e o<;>simp[B1,h]
def cA5{l m:List (Evt K)}(h:l.Perm m)(k:K)(s e:Int):(vals l k s e).Perm (vals m k s e):=(h.filter _).map _
omit [DecidableEq K]in
def d01{l m:List (Evt K)}(h:l.Perm m)(k:K):tms l k=tms m k:=by funext t;exact propext ⟨λ⟨x,a,b⟩=>⟨x,h.mem_iff.1 a,b⟩,λ⟨x,a,b⟩=>⟨x,h.mem_iff.2 a,b⟩⟩
def Tab.perm{W:Wd}{l m:List (Evt K)}{M:K->Int->Int->Option Ag}(h:Tab W l M)(hp:l.Perm m):Tab W m M:=λk s e a=>by rw[h k s e a,bD1 (cA5 hp k s e)];cases W<;>simp only[Pan,d01 hp k]
def Zp{l:List (Evt K)}{k:K}{s e t:Int}(h:tms l k t)(h1:s<=t)(h2:t<e):vals l k s e≠[]:=by obtain⟨x,a,b,c⟩:=h;exact S4 (j9.2 ⟨x,l9.2 ⟨a,inP_iff.2 ⟨b,by omega,by omega⟩⟩,rfl⟩)
def d02{l:List (Evt K)}{k:K}{s e:Int}(h: ∀t,tms l k t->s<=t->t<e->False):vals l k s e=[]:=by unfold vals;rw[R7.2 λx hx hc=> ?_,P0];obtain⟨a,b,c⟩:=inP_iff.1 hc;exact h _ ⟨x,hx,a,rfl⟩ b c
def Pan.ne{W:Wd}{l:List (Evt K)}{k:K}{s e:Int}(hg: ∀g,W= .ses g->0<g)(h:Pan W l k s e):vals l k s e≠[]:=by
 cases W with
 |ses g=>exact Zp h.1.1 (y8 _) (by have:=h.1.2.2.1;grind)
 |win P=>obtain⟨_,t,a,b,c⟩:=h;exact Zp a b c
def tab_nil(W:Wd):Tab W ([]:List (Evt K)) (λ_ _ _=>none):=λk s e a=>by
 refine⟨λh=>(by cases h),λh=> ?_⟩;cases W with
 |ses g=>obtain⟨x,hx,_⟩:=h.1.1.1;cases hx
 |win P=>obtain⟨_,t,⟨x,hx,_⟩,_⟩:=h.1;cases hx
def putA(a:Option Ag)(v:Int):Ag:=match a with|none=>agOf [v]|some a=>ag2 a (agOf [v])
def tab_win{P:Int->Int->Prop}{l:List (Evt K)}{M M':K->Int->Int->Option Ag}(o:Evt K)(h:Tab (.win P) l M)
 (h1: ∀k s e,(k=o.1/\P s e/\s<=o.2.1/\o.2.1<e)->M' k s e=some (putA (M k s e) o.2.2))
 (h2: ∀k s e,¬(k=o.1/\P s e/\s<=o.2.1/\o.2.1<e)->M' k s e=M k s e):Tab (.win P) (l++[o]) M':=by
 intro k s e a;by_cases c:k=o.1/\P s e/\s<=o.2.1/\o.2.1<e
 obtain⟨rfl,hP,c1,c2⟩:=c;have hin:inP o.1 s e o=true:=inP_iff.2 ⟨rfl,c1,c2⟩;have hp:Pan (.win P) (l++[o]) o.1 s e:=⟨hP,o.2.1,(tms_app ..).2 (.inr ⟨rfl,rfl⟩),c1,c2⟩;have hv:putA (M o.1 s e) o.2.2=agOf (vals (l++[o]) o.1 s e):=by
  rw[vals_app,c9 hin];cases hm:M o.1 s e with
  |none=>
   have hn:=h.none.1 hm;rw[d02 λt a b c=>hn ⟨hP,t,a,b,c⟩];rfl
  |some b=>
   obtain⟨q1,q2⟩:=(h _ _ _ _).1 hm;rw[c30 (Pan.ne (λg hg=>by cases hg) q1) (by simp),<-q2];rfl
 grind
 rw[h2 k s e c,h k s e a];have hpan:Pan (.win P) (l++[o]) k s e↔Pan (.win P) l k s e:=by
  constructor
  rintro⟨hP,t,a,b,d⟩;rcases(tms_app ..).1 a with a|a
  exact⟨hP,t,a,b,d⟩;grind;rintro⟨hP,t,a,b,d⟩;exact⟨hP,t,(tms_app ..).2 (.inl a),b,d⟩
 rw[hpan];refine and_congr_right λhp=> ?_
 rw[vals_app,b9 λhc=> ?_,o9];obtain⟨q1,q2,q3⟩:=inP_iff.1 hc;exact c ⟨q1.symm,hp.1,q2,q3⟩
def cA7{g:Int}(hg:0<g){l:List (Evt K)}{k:K}{t:Int}{L:aaB}(hL:Ses g (tms l k) L)(hn:L.Nodup):
 (vals l k (nowOf t (t+g) (joinedOf g t L)).1 (nowOf t (t+g) (joinedOf g t L)).2).Perm ((joinedOf g t L).flatMap λp=>vals l k p.1 p.2):=by
 have hT': ∀x,(tms l k x\/x=t)↔tms l k x\/x=t:=λ_=>Iff.rfl
 obtain⟨h1,h2⟩:=Ux (T':=λx=>tms l k x\/x=t) hg t hL hT';obtain⟨n1,n2,n3⟩:=nowOf_le (joinedOf g t L) t (t+g);have hj: ∀p,p∈joinedOf g t L↔p∈L/\lap p.1 p.2 t (t+g):=λp=>by rw[joinedOf,l9,xO]
 have hJn:(joinedOf g t L).Pairwise (λa b=> ∀x∈l,inP k a.1 a.2 x=true->inP k b.1 b.2 x=true->False):=by have hnd:(joinedOf g t L).Nodup:=hn.filter _;refine List.Pairwise.imp_of_mem (λ{a b} ha hb hne x hx i1 i2=>hne ?_) hnd;obtain⟨_,a1,a2⟩:=inP_iff.1 i1;obtain⟨_,b1,b2⟩:=inP_iff.1 i2;have:=((hL.1 a.1 a.2).1 ((hj a).1 ha).1).one ((hL.1 b.1 b.2).1 ((hj b).1 hb).1) ⟨by omega,by omega⟩;grind
 have hfil:l.filter (inP k (nowOf t (t+g) (joinedOf g t L)).1 (nowOf t (t+g) (joinedOf g t L)).2)=l.filter λx=>(joinedOf g t L).any λp=>inP k p.1 p.2 x:=by
  refine List.filter_congr λx hx=> ?_
  rw[D6,K2];constructor;intro h;obtain⟨a1,a2,a3⟩:=inP_iff.1 h;obtain⟨p,b1,b2,b3⟩:=hL.2 x.2.1 ⟨x,hx,a1,rfl⟩;refine⟨p,(hj p).2 ⟨b1,?_⟩,inP_iff.2 ⟨a1,b2,by omega⟩⟩;by_cases c:lap p.1 p.2 t (t+g);exact c
  exfalso;have hr:p∈uJ g t L:=by rw[uJ,l9,s8,<-A2,xO];exact⟨b1,c⟩
  have hs:=(h2 p.1 p.2).2 (.inl hr);have e:=h1.one hs ⟨by omega,by omega⟩;exact c ⟨by omega,by omega⟩;grind[inP_iff]
 unfold vals;rw[hfil];refine((bg7 (λ(p:Int×Int) x=>inP k p.1 p.2 x) l _ hJn).map _).trans ?_;rw[List.map_flatMap]
def ses_ex{g:Int}(hg:0<g)(k:K): ∀l:List (Evt K),∃L,Ses g (λt=> ∃x∈l,x.1=k/\x.2.1=t) L
 | []=>⟨[],dr0 g (λx ⟨_,h,_⟩=>by cases h)⟩
 |o::l=>by
  obtain⟨L,h⟩:=ses_ex hg k l;by_cases ho:o.1=k
  exact⟨nowOf o.2.1 (o.2.1+g) (joinedOf g o.2.1 L)::uJ g o.2.1 L,Uz hg o.2.1 h (λx=>⟨λ⟨y,a,b,c⟩=>by
   grind,λhx=>by
   grind⟩) (λp=>by grind)⟩
  refine⟨L,?_⟩;grind
def tab_ses{g:Int}(hg:0<g){l:List (Evt K)}{M M':K->Int->Int->Option Ag}(o:Evt K){L:aaB}(h:Tab (.ses g) l M)
 (hL: ∀s e,(s,e)∈L↔M o.1 s e≠none) (hn:L.Nodup)
 (h1: ∀s e,(s,e)=nowOf o.2.1 (o.2.1+g) (joinedOf g o.2.1 L)->M' o.1 s e=some (agAll (agOf [o.2.2]::(joinedOf g o.2.1 L).map λp=>(M o.1 p.1 p.2).getD (0,0,0,0))))
 (h2: ∀s e,(s,e)≠nowOf o.2.1 (o.2.1+g) (joinedOf g o.2.1 L)->(s,e)∈joinedOf g o.2.1 L->M' o.1 s e=none)
 (h3: ∀k s e,k≠o.1\/((s,e)≠nowOf o.2.1 (o.2.1+g) (joinedOf g o.2.1 L)/\(s,e)∉joinedOf g o.2.1 L)->M' k s e=M k s e):Tab (.ses g) (l++[o]) M':=by
 have hcov: ∀t,tms l o.1 t-> ∃p∈L,p.1<=t/\t+g<=p.2:=λt ht=>by obtain⟨L',h1,h2⟩:=ses_ex hg o.1 l;obtain⟨p,a,b,c⟩:=h2 t ht;exact⟨p,(hL p.1 p.2).2 λhm=>h.none.1 hm ((h1 p.1 p.2).1 a),b,c⟩
 have hS:Ses g (tms l o.1) L:=⟨λs e=>by rw[hL,ne_eq,h.none];exact Classical.not_not,hcov⟩
 have hT: ∀x,tms (l++[o]) o.1 x↔tms l o.1 x\/x=o.2.1:=λx=>by rw[tms_app];simp
 obtain⟨q1,q2⟩:=Ux hg o.2.1 hS hT;obtain⟨n1,n2,n3⟩:=nowOf_le (joinedOf g o.2.1 L) o.2.1 (o.2.1+g);have hj: ∀p,p∈joinedOf g o.2.1 L↔p∈L/\lap p.1 p.2 o.2.1 (o.2.1+g):=λp=>by rw[joinedOf,l9,xO]
 have hr: ∀p,p∈uJ g o.2.1 L↔p∈L/\ ¬lap p.1 p.2 o.2.1 (o.2.1+g):=λp=>by rw[uJ,l9,<-xO];simp
 have hvj:=cA7 hg (t:=o.2.1) hS hn;intro k s e a;by_cases hk:k=o.1;subst hk;by_cases c:(s,e)=nowOf o.2.1 (o.2.1+g) (joinedOf g o.2.1 L)
 rw[h1 s e c];have hp:Pan (.ses g) (l++[o]) o.1 s e:=(q2 s e).2 (.inr c);have hv:agAll (agOf [o.2.2]::(joinedOf g o.2.1 L).map λp=>(M o.1 p.1 p.2).getD (0,0,0,0))=agOf (vals (l++[o]) o.1 s e):=by
  have e1:((joinedOf g o.2.1 L).map λp=>(M o.1 p.1 p.2).getD (0,0,0,0))=(joinedOf g o.2.1 L).map λp=>agOf (vals l o.1 p.1 p.2):=by
   refine y6 λp hp=> ?_
   have:=(h o.1 p.1 p.2 _).2 ⟨(hS.1 p.1 p.2).1 ((hj p).1 hp).1,rfl⟩;rw[this];rfl
  show((joinedOf g o.2.1 L).map λp=>(M o.1 p.1 p.2).getD (0,0,0,0)).foldl ag2 (agOf [o.2.2])=_;rw[e1,da6 (λ(p:Int×Int)=>vals l o.1 p.1 p.2) _ _ (by simp) (λ(p:Int×Int) hp=>Pan.ne (W:= .ses g) (l:=l) (k:=o.1) (s:=p.1) (e:=p.2) (λ_ e=>by cases e;exact hg) ((hS.1 p.1 p.2).1 ((hj p).1 hp).1))];rw[vals_app,c9 (inP_iff.2 ⟨rfl,by rw[<-c]at n1;exact n1,by rw[<-c]at n2;omega⟩)];rw[<-c]at hvj;exact bD1 ((List.Perm.cons _ hvj.symm).trans (U7 _ _).symm)
 rw[hv];exact⟨λhh=>⟨hp,by cases hh;rfl⟩,λhh=>by rw[hh.2]⟩;by_cases d:(s,e)∈joinedOf g o.2.1 L
 rw[h2 s e c d];refine⟨λhh=>(by cases hh),λhh=> ?_⟩;rcases(q2 s e).1 hh.1 with x|x
 exact absurd ((hj _).1 d).2 ((hr _).1 x).2;exact absurd x c
 rw[h3 o.1 s e (.inr ⟨c,d⟩),h o.1 s e a];have hpan:Pan (.ses g) (l++[o]) o.1 s e↔Pan (.ses g) l o.1 s e:=by show isS g _ s e↔isS g _ s e;rw[q2 s e,<-hS.1 s e,hr];constructor;rintro(x|x);exact x.1;exact absurd x c;intro x;exact .inl ⟨x,λy=>d ((hj _).2 ⟨x,y⟩)⟩
 rw[hpan];refine and_congr_right λhp=> ?_
 rw[vals_app,b9 λhc=> ?_,o9];obtain⟨z1,z2,z3⟩:=inP_iff.1 hc;exact d ((hj _).2 ⟨(hS.1 s e).2 hp,by omega,z3⟩)
 rw[h3 k s e (.inl hk),h k s e a];have ht:tms (l++[o]) k=tms l k:=by
  funext x;refine propext ⟨λhx=> ?_,λhx=>(tms_app ..).2 (.inl hx)⟩;rcases(tms_app ..).1 hx with y|y
  exact y;exact absurd y.1.symm hk
 rw[vals_app,b9 λhc=>hk (inP_iff.1 hc).1.symm,o9];simp[Pan,ht]
end Go.Ev.Tb
namespace Go.Ev.Tb
def sumN:HQ->Nat
 | []=>0
 |x::l=>x+sumN l
theorem bD3{α:Type}: ∀l:List α,sumN (l.map λ_=>0)=0
 | []=>rfl
 |a::l=>by show 0+sumN (l.map λ_=>0)=0;rw[bD3 l]
def c31{α:Type}(f g:α->Nat): ∀l:List α,sumN (l.map λx=>f x+g x)=sumN (l.map f)+sumN (l.map g)
 | []=>rfl
 |a::l=>by show f a+g a+sumN (l.map λx=>f x+g x)=f a+sumN (l.map f)+(g a+sumN (l.map g));rw[c31 f g l];omega
def c32{α:Type}(p:α->Bool): ∀l:List α,sumN (l.map λx=>if p x then 1 else 0)=(l.filter p).length
 | []=>rfl
 |a::l=>by show(if p a then 1 else 0)+sumN (l.map λx=>if p x then 1 else 0)=_;rw[c32 p l,B1];grind
def twice{α O:Type}(f:O->α->Bool)(l:List α): ∀R:List O,sumN (R.map λp=>(l.filter (f p)).length)=sumN (l.map λx=>(R.filter λp=>f p x).length)
 | []=>by grind[sumN,bD3]
 |p::R=>by show(l.filter (f p)).length+sumN (R.map λp=>(l.filter (f p)).length)=_;rw[twice f l R,<-c32 (f p) l,<-c31];grind
end Go.Ev.Tb
namespace Go.Ev
open Go
def LE:SX:= zb (zl 0) 1000000
def Ms:VT:= .J (zs aM (zl 0)) (.N (LE) (.W 0 [aN])) (.both (.W 0 [co]) (.N (LE) (.W 0 [aN])))
def MH:VT:= .J (zs aU aT) (.N (zn (zp (za aV aU)) (zs (za aV aU) aO)) (.N (zs (za aV aU) (zl 2001)) (.N (zn (zp (za aS aU)) (zs (za aS aU) aO)) (.N (zs (za aS aU) (zl 2001)) (.N (zs (za aV aU) (zL (.O .lset [aR,za aS aU,.O .row [cq aR (za aV aU) 0,cq aR (za aV aU) 1,cq aR (za aV aU) 2,cq aR (za aV aU) 3,cq aR (za aV aU) 4,cq aR (za aV aU) 5,cq aR (za aV aU) 6]]))) (.W 0 [zi aU,.O .lset [.O .lset [aR,za aS aU,.O .row [cq aR (za aV aU) 0,cq aR (za aV aU) 1,cq aR (za aV aU) 2,cq aR (za aV aU) 3,cq aR (za aV aU) 4,cq aR (za aV aU) 5,cq aR (za aV aU) 6]],za aV aU,.O .row [cq aR (za aS aU) 0,cq aR (za aS aU) 1,cq aR (za aS aU) 2,cq aR (za aS aU) 3,cq aR (za aS aU) 4,cq aR (za aS aU) 5,cq aR (za aS aU) 6]]])))))) (.W 1 [aU,aR])
def cA8:VT:= .loop ⟨452,[aM,aN],2000,[aO,aN,aS,aV,aT]⟩ MH [.W 0 [zo (.Q 452 [aM,aN,aO,aN,aS,aV,aT]) 1]]
def Ph:SX:= zs aS bp
def uG:SX:= zs aO bh
def uo:SX:= dF aO bh
def Qc:SX:= dF aS bp
def Nb:VT:= .J (.O (.scmp .lss) [aN,bf]) (.J (Ph) (.J (uG) (.W 0 [.C (-1)]) (.J (uo) (.W 0 [.C (-1)]) (.W 0 [.C (-1)]))) (.J (Qc) (.J (uG) (.W 0 [.C (-1)]) (.J (uo) (.W 0 [.C (-1)]) (.W 0 [.C (-1)]))) (.J (uG) (.W 0 [.C (-1)]) (.J (uo) (.W 0 [.C (-1)]) (.W 0 [.C (-1)]))))) (.J (.O (.scmp .gtr) [aN,bf]) (.J (Ph) (.J (uG) (.W 0 [aZ]) (.J (uo) (.W 0 [aZ]) (.W 0 [aZ]))) (.J (Qc) (.J (uG) (.W 0 [aZ]) (.J (uo) (.W 0 [aZ]) (.W 0 [aZ]))) (.J (uG) (.W 0 [aZ]) (.J (uo) (.W 0 [aZ]) (.W 0 [aZ]))))) (.J (Ph) (.J (uG) (.W 0 [.C (-1)]) (.J (uo) (.W 0 [.C (-1)]) (.W 0 [.C (-1)]))) (.J (Qc) (.J (uG) (.W 0 [aZ]) (.J (uo) (.W 0 [aZ]) (.W 0 [aZ]))) (.J (uG) (.W 0 [.C (-1)]) (.J (uo) (.W 0 [aZ]) (.W 0 [aM]))))))
def UR:VT:= .J (cX aU aR) (.J (dF aU aR) (.N (.Q 420 [aW,aO,zm aV aU,aV,aR]) (.W 0 [zm aU aR,aR,.Q 421 [aW,zm aV aU,aV,aR]])) (.N (.Q 420 [aW,aO,zm aV aU,zm (za aV aR) aU,aU]) (.W 0 [aU,zm aR aU,.Q 421 [aW,zm aV aU,zm (za aV aR) aU,aU]]))) (.W 1 [aU,aR,aW])
def Hb:SX:= zm aV aS
def Kd:SX:= zm aT aV
def HM:SX:= .Q 458 [Hb,Kd,aN,aO,aN,aV]
def HJ:SX:= zo HM 2
def BV:SX:= zo HM 0
def Gb:SX:= zm aV BV
def da7:VT:= .loop ⟨458,[Hb,Kd,aN],2000,[aO,aN,aV]⟩ UR [.N (.Q 420 [HJ,aO,Gb,aV,BV]) (.W 0 [.Q 421 [HJ,Gb,aV,BV]])]
def Cv:VT:= .J (dF aY aS) (.N (zn (zp aY) (zs aY aO)) (.N (zs aY (zl 3001)) (.N (zn (zp (zm aY aZ)) (zs (zm aY aZ) aO)) (.N (zs (zm aY aZ) (zl 3001)) (.J (zs (.Q 206 [zg 3001 3000 0,zg 3001 3000 1,zg 3001 3000 2,cq bc (zm aY aZ) 0,cq bc (zm aY aZ) 1,cq bc (zm aY aZ) 2]) aM) (.N (zs (zm aY aZ) (zL (.O .lset [bc,aY,.O .row [cq bc (zm aY aZ) 0,cq bc (zm aY aZ) 1,cq bc (zm aY aZ) 2,cq bc (zm aY aZ) 3,cq bc (zm aY aZ) 4,cq bc (zm aY aZ) 5,cq bc (zm aY aZ) 6]]))) (.W 0 [zm aY aZ,.O .lset [.O .lset [bc,aY,.O .row [cq bc (zm aY aZ) 0,cq bc (zm aY aZ) 1,cq bc (zm aY aZ) 2,cq bc (zm aY aZ) 3,cq bc (zm aY aZ) 4,cq bc (zm aY aZ) 5,cq bc (zm aY aZ) 6]],zm aY aZ,zv 3001 3000]])) (.W 1 [aY,bc])))))) (.W 1 [aY,bc])
def Qa:VT:= .J (zs aU aV) (.loop ⟨461,[aU,aR],3000,[aO,aR,aS,aV,aU]⟩ Cv [.W 0 [zi aU,zo (.Q 461 [aU,aR,aO,aR,aS,aV,aU]) 1]]) (.W 1 [aU,aR])
def Dj:SX:= zi aS
def Zz:VT:= .loop ⟨460,[Dj,aN],2000,[aO,aN,aS,aV]⟩ Qa [.W 0 [zo (.Q 460 [Dj,aN,aO,aN,aS,aV]) 1]]
def Hg:VT:= .J (zs aU aR) (.N (zn (zp (zh aU aR)) (zs (zh aU aR) aO)) (.N (zs (zh aU aR) (zl 0)) (.N (zn (zp aS) (zs aS aO)) (.N (zs aS (zl 0)) (.J (zs (.Q 206 [cq aN (zh aU aR) 0,cq aN (zh aU aR) 1,cq aN (zh aU aR) 2,zg 0 2 0,zg 0 2 1,zg 0 2 2]) aM) (.W 0 [zi (zh aU aR),aR]) (.W 0 [aU,zh aU aR])))))) (.W 1 [aU,aR])
def PV:VT:= .J (zs aY (zm (zo (.Q 462 [aV,aT,aO,aN,aS]) 0) aZ)) (.N (zn (zp (zi aY)) (zs (zi aY) aO)) (.N (zs (zi aY) (zl 3001)) (.N (zn (zp aY) (zs aY aO)) (.N (zs aY (zl 3001)) (.N (zs (zi aY) (zL (.O .lset [bc,aY,.O .row [cq bc (zi aY) 0,cq bc (zi aY) 1,cq bc (zi aY) 2,cq bc (zi aY) 3,cq bc (zi aY) 4,cq bc (zi aY) 5,cq bc (zi aY) 6]]))) (.W 0 [zi aY,.O .lset [.O .lset [bc,aY,.O .row [cq bc (zi aY) 0,cq bc (zi aY) 1,cq bc (zi aY) 2,cq bc (zi aY) 3,cq bc (zi aY) 4,cq bc (zi aY) 5,cq bc (zi aY) 6]],zi aY,zv 3001 3000]])))))) (.W 1 [aY,bc])
def Gn:VT:= .J (zs aU aR) (.N (zn (zp aV) (zs aV aO)) (.N (zs aV (zl 0)) (.N (zn (zp (zh aU aR)) (zs (zh aU aR) aO)) (.N (zs (zh aU aR) (zl 0)) (.J (dR (zs (.Q 206 [zg 0 3 0,zg 0 3 1,zg 0 3 2,cq aN (zh aU aR) 0,cq aN (zh aU aR) 1,cq aN (zh aU aR) 2]) aM)) (.W 0 [zi (zh aU aR),aR]) (.W 0 [aU,zh aU aR])))))) (.W 1 [aU,aR])
def NC:VT:= .J (dF aY (zo (.Q 464 [aS,aV,aO,aN,aV]) 0)) (.N (zn (zp (zm aY aZ)) (zs (zm aY aZ) aO)) (.N (zs (zm aY aZ) (zl 3001)) (.N (zn (zp aY) (zs aY aO)) (.N (zs aY (zl 3001)) (.N (zs (zm aY aZ) (zL (.O .lset [bc,aY,.O .row [cq bc (zm aY aZ) 0,cq bc (zm aY aZ) 1,cq bc (zm aY aZ) 2,cq bc (zm aY aZ) 3,cq bc (zm aY aZ) 4,cq bc (zm aY aZ) 5,cq bc (zm aY aZ) 6]]))) (.W 0 [zm aY aZ,.O .lset [.O .lset [bc,aY,.O .row [cq bc (zm aY aZ) 0,cq bc (zm aY aZ) 1,cq bc (zm aY aZ) 2,cq bc (zm aY aZ) 3,cq bc (zm aY aZ) 4,cq bc (zm aY aZ) 5,cq bc (zm aY aZ) 6]],zm aY aZ,zv 3001 3000]])))))) (.W 1 [aY,bc])
def AQ:VT:= .J (zs aU aR) (.N (zn (zp (zm (zm (za (zh aS aT) aV) aZ) (zh aU aR))) (zs (zm (zm (za (zh aS aT) aV) aZ) (zh aU aR)) aO)) (.N (zs (zm (zm (za (zh aS aT) aV) aZ) (zh aU aR)) (zl 0)) (.N (zn (zp (zh aU aR)) (zs (zh aU aR) aO)) (.N (zs (zh aU aR) (zl 0)) (.J (dR (zs (.Q 206 [cq aN (zm (zm (za (zh aS aT) aV) aZ) (zh aU aR)) 0,cq aN (zm (zm (za (zh aS aT) aV) aZ) (zh aU aR)) 1,cq aN (zm (zm (za (zh aS aT) aV) aZ) (zh aU aR)) 2,cq aN (zh aU aR) 0,cq aN (zh aU aR) 1,cq aN (zh aU aR) 2]) aM)) (.W 0 [zi (zh aU aR),aR]) (.W 0 [aU,zh aU aR])))))) (.W 1 [aU,aR])
def Cj:SX:= zo (.Q 462 [aV,aT,aO,aN,aS]) 0
def BY:SX:= zo (.Q 464 [aS,aV,aO,aN,aV]) 0
def dQ:SX:= zh aS aT
def kF:SX:= za dQ aV
def An:SX:= zm kF aT
def rG:SX:= zm kF aZ
def qW:SX:= zo (.Q 466 [An,dQ,aO,aN,aS,aV,aT,dQ,kF,rG]) 0
def sI:SX:= zm kF qW
def Vj:SX:= zs aS qW
def WV:SX:= zs qW dQ
def xL:SX:= .Q 423 [aN,qW,aV,sI]
def uS:SX:= zs dQ sI
def ve:SX:= zs sI aT
def Pg:SX:= .Q 425 [xL,aS,dQ]
def da9(B:Int):SX:= .Q 426 [xL,aO,dQ,sI,aT,.C B]
def db0:SX:= .Q 425 [xL,dQ,aT]
def db1(B:Int):SX:= .Q 426 [aN,aO,aS,qW,dQ,.C B]
def sy:SX:= .Q 425 [aN,aS,dQ]
def db2(B:Int):SX:= .Q 426 [sy,aO,dQ,sI,aT,.C B]
def KJ:SX:= .Q 425 [sy,dQ,aT]
def ML(B:Int):SX:= .Q 426 [aN,aO,dQ,sI,aT,.C B]
def xo:SX:= .Q 425 [aN,dQ,aT]
def sa:SX:= zo (.Q 466 [aS,aV,aO,aN,aS,aV,aT,dQ,kF,rG]) 0
def sc:SX:= zm kF sa
def XD:SX:= zs aS sa
def Xk:SX:= zs sa dQ
def wB:SX:= .Q 423 [aN,sa,aV,sc]
def uU:SX:= zs dQ sc
def vq:SX:= zs sc aT
def Nr:SX:= .Q 425 [wB,aS,dQ]
def db3(B:Int):SX:= .Q 426 [wB,aO,dQ,sc,aT,.C B]
def db4:SX:= .Q 425 [wB,dQ,aT]
def db5(B:Int):SX:= .Q 426 [aN,aO,aS,sa,dQ,.C B]
def db6(B:Int):SX:= .Q 426 [sy,aO,dQ,sc,aT,.C B]
def LQ(B:Int):SX:= .Q 426 [aN,aO,dQ,sc,aT,.C B]
def sH(B:Int):VT:= .J (ze (zm aV aS) 1) (.loop ⟨462,[aV,aT],2000,[aO,aN,aS]⟩ Hg [.loop ⟨463,[aS,aN],3000,[aO,aN,Cj]⟩ PV [.W 0 [zo (.Q 463 [aS,aN,aO,aN,Cj]) 1]]]) (.J (ze (zm aT aV) 1) (.loop ⟨464,[aS,aV],2000,[aO,aN,aV]⟩ Gn [.loop ⟨465,[aV,aN],3000,[aO,aN,BY]⟩ NC [.W 0 [zo (.Q 465 [aV,aN,aO,aN,BY]) 1]]]) (.J (dF aV dQ) (.loop ⟨466,[An,dQ],2000,[aO,aN,aS,aV,aT,dQ,kF,rG]⟩ AQ [.J (zs qW aV) (.J (zs aV sI) (.N (.Q 422 [aN,aO,qW,aV,sI]) (.J (Vj) (.J (WV) (.N (.Q 426 [xL,aO,aS,qW,dQ,.C B]) (.J (uS) (.J (ve) (.N (.Q 426 [Pg,aO,dQ,sI,aT,.C B]) (.W 0 [.Q 425 [Pg,dQ,aT]])) (.W 0 [Pg])) (.W 0 [Pg]))) (.J (uS) (.J (ve) (.N ((da9 B)) (.W 0 [db0])) (.W 0 [xL])) (.W 0 [xL]))) (.J (uS) (.J (ve) (.N ((da9 B)) (.W 0 [db0])) (.W 0 [xL])) (.W 0 [xL])))) (.J (Vj) (.J (WV) (.N ((db1 B)) (.J (uS) (.J (ve) (.N ((db2 B)) (.W 0 [KJ])) (.W 0 [sy])) (.W 0 [sy]))) (.J (uS) (.J (ve) (.N ((ML B)) (.W 0 [xo])) (.W 0 [aN])) (.W 0 [aN]))) (.J (uS) (.J (ve) (.N ((ML B)) (.W 0 [xo])) (.W 0 [aN])) (.W 0 [aN])))) (.J (Vj) (.J (WV) (.N ((db1 B)) (.J (uS) (.J (ve) (.N ((db2 B)) (.W 0 [KJ])) (.W 0 [sy])) (.W 0 [sy]))) (.J (uS) (.J (ve) (.N ((ML B)) (.W 0 [xo])) (.W 0 [aN])) (.W 0 [aN]))) (.J (uS) (.J (ve) (.N ((ML B)) (.W 0 [xo])) (.W 0 [aN])) (.W 0 [aN])))]) (.loop ⟨466,[aS,aV],2000,[aO,aN,aS,aV,aT,dQ,kF,rG]⟩ AQ [.J (zs sa aV) (.J (zs aV sc) (.N (.Q 422 [aN,aO,sa,aV,sc]) (.J (XD) (.J (Xk) (.N (.Q 426 [wB,aO,aS,sa,dQ,.C B]) (.J (uU) (.J (vq) (.N (.Q 426 [Nr,aO,dQ,sc,aT,.C B]) (.W 0 [.Q 425 [Nr,dQ,aT]])) (.W 0 [Nr])) (.W 0 [Nr]))) (.J (uU) (.J (vq) (.N ((db3 B)) (.W 0 [db4])) (.W 0 [wB])) (.W 0 [wB]))) (.J (uU) (.J (vq) (.N ((db3 B)) (.W 0 [db4])) (.W 0 [wB])) (.W 0 [wB])))) (.J (XD) (.J (Xk) (.N ((db5 B)) (.J (uU) (.J (vq) (.N ((db6 B)) (.W 0 [KJ])) (.W 0 [sy])) (.W 0 [sy]))) (.J (uU) (.J (vq) (.N ((LQ B)) (.W 0 [xo])) (.W 0 [aN])) (.W 0 [aN]))) (.J (uU) (.J (vq) (.N ((LQ B)) (.W 0 [xo])) (.W 0 [aN])) (.W 0 [aN])))) (.J (XD) (.J (Xk) (.N ((db5 B)) (.J (uU) (.J (vq) (.N ((db6 B)) (.W 0 [KJ])) (.W 0 [sy])) (.W 0 [sy]))) (.J (uU) (.J (vq) (.N ((LQ B)) (.W 0 [xo])) (.W 0 [aN])) (.W 0 [aN]))) (.J (uU) (.J (vq) (.N ((LQ B)) (.W 0 [xo])) (.W 0 [aN])) (.W 0 [aN])))])))
def ei4:VT:= .J (eE aR aS) (.N (.Q 424 [aW,aO,aU,aR]) (.W 0 [aR,za aR (.C 20),.Q 425 [aW,aU,aR]])) (.W 1 [aU,aR,aW])
def RA:VT:= .J (eE bi aS) (.N (.Q 426 [bn,aO,bI,za bI aY,bi,.C 512]) (.W 0 [bi,za bi (.O (.ar .mul .i64) [bm,aY]),.Q 425 [bn,bI,bi]])) (.W 1 [bI,bi,bn])
def Ga:VT:= .J (zs aY aS) (.loop ⟨469,[aM,.O (.ar .mul .i64) [bm,aY],bc],4000,[aO,bc,aS,aY]⟩ RA [.J (zs (za (zo (.Q 469 [aM,.O (.ar .mul .i64) [bm,aY],bc,aO,bc,aS,aY]) 0) aY) aS) (.N (.Q 426 [zo (.Q 469 [aM,.O (.ar .mul .i64) [bm,aY],bc,aO,bc,aS,aY]) 2,aO,zo (.Q 469 [aM,.O (.ar .mul .i64) [bm,aY],bc,aO,bc,aS,aY]) 0,za (zo (.Q 469 [aM,.O (.ar .mul .i64) [bm,aY],bc,aO,bc,aS,aY]) 0) aY,aS,.C 512]) (.W 0 [.O (.ar .mul .i64) [aY,bm],.Q 425 [zo (.Q 469 [aM,.O (.ar .mul .i64) [bm,aY],bc,aO,bc,aS,aY]) 2,zo (.Q 469 [aM,.O (.ar .mul .i64) [bm,aY],bc,aO,bc,aS,aY]) 0,aS]])) (.W 0 [.O (.ar .mul .i64) [aY,bm],zo (.Q 469 [aM,.O (.ar .mul .i64) [bm,aY],bc,aO,bc,aS,aY]) 2])]) (.W 1 [aY,bc])
def FM:SX:= .Q 467 [aM,.C 20,aN,aO,aN,aS]
def HK:SX:= zo FM 2
def IP:SX:= zo FM 0
def tE:SX:= .Q 425 [HK,IP,aS]
def db7:VT:= .loop ⟨467,[aM,.C 20,aN],2000,[aO,aN,aS]⟩ ei4 [.N (.Q 424 [HK,aO,IP,aS]) (.loop ⟨468,[.C 20,tE],3000,[aO,tE,aS]⟩ Ga [.W 0 [zo (.Q 468 [.C 20,tE,aO,tE,aS]) 1]])]
def cB1:VT:= .N (.Q 428 [aN,zl 0,zl 0]) (.W 0 [.Q 425 [aN,aM,zl 0]])
def bE2:SX:= .Q 425 [aN,aM,zl 0]
def bE3:VT:= .N (zn (zb (zl 0) 400) (.Q 431 [aN])) (.N (cF (zl 0) (zL bE2)) (.W 0 [bE2]))
