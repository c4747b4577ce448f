import Derived.Test.YtbfbcanipfnfeaaE41
import Derived.Test.YtbfbcanipfnfeaaE32
import Derived.ChangeArms
set_option linter.unusedVariables false
set_option linter.unusedSimpArgs false
namespace Go.Ev
open Go Go.RowKit Go.WideShapes Go.ChangeShapes
def bL6{α:Type}(P:Program)(g:TypeId→Option (List α)):List Field→Nat→Option (List α)
 | [],_=>some []
 |f::r,o=>match g f.type with
  |some l=>bif Nat.beq f.offset o&&Nat.beq (P.cellsOf f.type) l.length then(match bL6 P g r (o+l.length)with
      |some l2=>some (l++l2)
      |none=>none)else none
  |none=>none
def cm0(P:Program):Nat→TypeId→Option (List CT)
 |0,_=>none
 |n+1,t=>match P.underlying t with
  |some .bool=>some [.bool]
  |some (.int k)=>some [.int k]
  |some .string=>some [.str]
  |some (.struct fs)=>match bL6 P (cm0 P n) fs.toList 0 with
   |some l=>bif Nat.beq (P.cellsOf t) l.length then some l else none
   |none=>none
  |_=>none
def cs9:CT→Value→Prop
 | .int k,v=> ∃n,v= .int k n∧k.min≤n∧n≤k.max
 | .str,v=> ∃s,v= .string s
 | .bool,v=> ∃b,v= .bool b
def a33{α:Type}(fit:α→Value→Prop):List α→List Value→Prop
 | [],vs=>vs=[]
 |c::s,vs=> ∃v r,vs=v::r∧fit c v∧a33 fit s r
def c51:List CT→List Value→Prop:=a33 cs9
theorem be7{α:Type}{fit:α→Value→Prop}: ∀{s t:List α} {vs us:List Value},a33 fit s vs→a33 fit t us→a33 fit (s++t) (vs++us)
 | [],_,_,_,h,k=>by rw[h];exact k
 |_::s,_,_,_,⟨v,r,e,h1,h⟩,k=>⟨v,_,by rw[e];rfl,h1,be7 h k⟩
section
variable{H:Type}{enc:TypeId×Value→H}{P:Program}{w:World}{base:Nat}{sp:Nat→Bool}{hd:Bool}
theorem b40{α β:Type}{g:α→Option β}: ∀{l:List α} {r:List β},l.mapM g=some r→ ∀a∈l,∃b∈r,g a=some b
 | [],_,_,_,h=>by cases h
 |x::l,r,h,a,ha=>by
  rw[C3]at h
  simp only[Option.bind_eq_bind,j6,Option.pure_def,a8]at h
  obtain⟨y,hy,ys,hys,rfl⟩:=h
  rcases l5.1 ha with rfl|ha
  ·exact⟨y,A9 ..,hy⟩
  ·obtain⟨b,hb,e⟩:=b40 hys a ha
   exact⟨b,D1 _ hb,e⟩
theorem ay0{α:Type}{fit:α→Value→Prop}{g:TypeId→Option (List α)}{cs:List Value}{Q:TypeId→List Value→Prop}(hg: ∀t l vs,g t=some l→Q t vs→a33 fit l vs): ∀{fs:List Field} {o:Nat} {l:List α},bL6 P g fs o=some l→(∀f∈fs,Q f.type ((cs.drop f.offset).take (P.cellsOf f.type)))→
 a33 fit l ((cs.drop o).take l.length)
 | [],o,l,h,_=>by
   simp only[bL6,a8]at h
   subst h;simp[a33]
 |f::r,o,l,h,hq=>by
  simp only[bL6]at h
  split at h
  ·rename_i l1 h1
   cases hc:(Nat.beq f.offset o&&Nat.beq (P.cellsOf f.type) l1.length)with
   |false=>rw[hc]at h;cases h
   |true=>
    rw[hc]at h
    simp only[cond_true]at h
    obtain⟨c1,c2⟩:=M6 hc
    have c1:=M8.1 c1
    have c2:=M8.1 c2
    split at h
    ·rename_i l2 h2
     simp only[a8]at h
     subst h
     have a:=hg _ _ _ h1 (hq f (A9 ..))
     rw[c1,c2]at a
     have b:=ay0 hg h2 (fun f hf=>hq f (D1 _ hf))
     have:=be7 a b
     rw[e8,List.take_add,F9]
     exact this
    ·cases h
  ·cases h
theorem be8: ∀{m:Nat} {n:Nat} {t:TypeId} {cs:List Value} {x:DataW H×List MemPlace} {l:List CT},cm0 P m t=some l→DataW.trod enc P w base sp hd n t cs=some x→c51 l cs
 |0,_,_,_,_,_,h,_=>by cases h
 |m+1,0,_,_,_,_,_,h=>by simp[DataW.trod]at h
 |m+1,n+1,t,cs,x,l,hc,ht=>by
  unfold DataW.trod at ht
  simp only[cm0]at hc
  cases hu:P.underlying t with
  |none=>rw[hu]at hc;cases hc
  |some d=>
   rw[hu]at hc ht
   cases d with
   |bool=>
    simp only[a8]at hc;subst hc
    split at ht<;>simp_all [c51,a33,cs9]
   |int k=>
    simp only[a8]at hc;subst hc
    split at ht<;>simp_all [c51,a33,cs9,Lit.wf]
   |string=>
    simp only[a8]at hc;subst hc
    split at ht<;>simp_all [c51,a33,cs9]
   |struct fs=>
    simp only at hc
    split at hc
    ·rename_i l1 h1
     cases hb:Nat.beq (P.cellsOf t) l1.length with
     |false=>rw[hb]at hc;cases hc
     |true=>
      rw[hb]at hc
      simp only[cond_true,a8]at hc;subst hc
      have hb:=M8.1 hb
      split at ht<;>simp_all
      rename_i heq
      subst heq
      obtain⟨hlen,ys,hys,_⟩:=ht
      have key: ∀cs:List Value,cs.length=l1.length→(fs.toList.mapM fun f=>DataW.trod enc P w base sp hd n f.type ((cs.drop f.offset).take (P.cellsOf f.type)))=some ys→c51 l1 cs:=fun cs hl hy=>by
       have:=ay0 (cs:=cs) (Q:=fun t vs=> ∃x,DataW.trod enc P w base sp hd n t vs=some x) (fun t l vs hl ⟨x,hx⟩=>be8 hl hx) h1 (fun f hf=>by
        obtain⟨b,_,e⟩:=b40 hy f hf
        exact⟨b,e⟩)
       rw[B8,←hl,C7]at this
       exact this
      exact key _ hlen (by simpa using hys)
    ·cases hc
   |_=>cases hc
inductive Sh where
 |col (c:CT)
 |sl (sig:List CT)
def shT(P:Program):Nat→TypeId→Option (List Sh)
 |0,_=>none
 |n+1,t=>match P.underlying t with
  |some .bool=>some [.col .bool]
  |some (.int k)=>some [.col (.int k)]
  |some .string=>some [.col .str]
  |some (.slice e)=>match cm0 P n e with
   |some l=>bif Nat.beq (P.cellsOf e) l.length&&Nat.blt 0 l.length then some [.sl l]else none
   |none=>none
  |some (.struct fs)=>match bL6 P (shT P n) fs.toList 0 with
   |some l=>bif Nat.beq (P.cellsOf t) l.length then some l else none
   |none=>none
  |_=>none
def av7(w:World):Sh→Value→Prop
 | .col c,v=>cs9 c v
 | .sl sig,v=>v= .slice none 0 0∨ ∃a len cap,v= .slice (some a) len cap∧0<sig.length∧(len≤cap∧cap≤maxLen)∧(∀i,i<len→ ∃vs,w.cells? 0 (a.add (i*sig.length)) sig.length=some vs∧c51 sig vs)∧ ∀j,j<len*sig.length→w.frozen? ⟨a.block,a.off+j,none⟩=false
def cE9(w:World)(ps:List MemPlace):Prop:= ∀b off,MemPlace.cell b off∈ps→w.frozen? ⟨b,off,none⟩=false
theorem bp6: ∀{m:Nat} {n:Nat} {t:TypeId} {cs:List Value} {x:DataW H×List MemPlace} {l:List Sh},shT P m t=some l→DataW.trod enc P w 0 sp hd n t cs=some x→cE9 w x.2→a33 (av7 w) l cs
 |0,_,_,_,_,_,h,_,_=>by cases h
 |m+1,0,_,_,_,_,_,h,_=>by simp[DataW.trod]at h
 |m+1,n+1,t,cs,x,l,hc,ht,hw=>by
  simp only[shT]at hc
  cases hu:P.underlying t with
  |none=>rw[hu]at hc;cases hc
  |some d=>
   have ht0:=ht
   unfold DataW.trod at ht
   rw[hu]at hc ht
   cases d with
   |bool=>
    simp only[a8]at hc;subst hc
    split at ht<;>simp_all [a33,av7,cs9]
   |int k=>
    simp only[a8]at hc;subst hc
    split at ht<;>simp_all [a33,av7,cs9,Lit.wf]
   |string=>
    simp only[a8]at hc;subst hc
    split at ht<;>simp_all [a33,av7,cs9]
   |slice e=>
    simp only at hc
    split at hc
    ·rename_i l1 h1
     cases hb:(Nat.beq (P.cellsOf e) l1.length&&Nat.blt 0 l1.length)with
     |false=>rw[hb]at hc;cases hc
     |true=>
      rw[hb]at hc
      simp only[cond_true,a8]at hc;subst hc
      obtain⟨hb,hb0⟩:=M6 hb
      rw[N9]at hb0
      have hb:=M8.1 hb
      rcases DataW.trod_slice hu ht0 with⟨rfl,_⟩|⟨a,len,cap,elems,rest,n',hn,rfl,rfl,_,hlc,hcm,hel,hi,_⟩
      ·exact⟨_,_,rfl,.inl rfl,rfl⟩
      ·refine⟨_,_,rfl,.inr ⟨a,len,cap,rfl,hb0,⟨hlc,hcm⟩,fun i hlt=> ?_,fun j hj=> ?_⟩,rfl⟩
       ·have:=hi i hlt
        rw[j0 (by omega),j6]at this
        obtain⟨vs,h2,h3⟩:=this
        rw[hb]at h2
        exact⟨vs,h2,be8 h1 h3⟩
       ·apply hw
        simp only[x5,MemPlace.row,k9,r6]
        refine .inl ⟨j,?_,rfl⟩
        rw[hb,hel,l7];omega
    ·cases hc
   |struct fs=>
    simp only at hc
    split at hc
    ·rename_i l1 h1
     cases hb:Nat.beq (P.cellsOf t) l1.length with
     |false=>rw[hb]at hc;cases hc
     |true=>
      rw[hb]at hc
      simp only[cond_true,a8]at hc;subst hc
      have hb:=M8.1 hb
      split at ht<;>simp_all
      rename_i heq
      subst heq
      obtain⟨hlen,ys,hys,hx⟩:=ht
      have hw2: ∀y∈ys,cE9 w y.2:=fun y hy b off hm=>hw b off (by
        rw[←hx]
        exact u5.2 ⟨y,hy,hm⟩)
      have key: ∀cs:List Value,cs.length=l1.length→(fs.toList.mapM fun f=>DataW.trod enc P w 0 sp hd n f.type ((cs.drop f.offset).take (P.cellsOf f.type)))=some ys→a33 (av7 w) l1 cs:=fun cs hl hy=>by
       have:=ay0 (cs:=cs) (fit:=av7 w) (Q:=fun t vs=> ∃x,DataW.trod enc P w 0 sp hd n t vs=some x∧cE9 w x.2) (fun t l vs hl ⟨x,hx,hz⟩=>bp6 hl hx hz) h1 (fun f hf=>by
        obtain⟨b,hb,e⟩:=b40 hy f hf
        exact⟨b,e,hw2 b hb⟩)
       rw[B8,←hl,C7]at this
       exact this
      exact key _ hlen (by simpa using hys)
    ·cases hc
   |_=>cases hc
def aB6(w:World)(sz:Nat)(a:Addr)(len:Nat):List Val:=(List.range len).map fun i=> .vl (((w.cells? 0 (a.add (i*sz)) sz).getD []).map cs5)
def aX2(w:World)(s:Sh)(v:Value):Val:=match s,v with
 | .col _,v=>cs5 v
 | .sl sig,.slice (some a) len _=> .vl (aB6 w sig.length a len)
 |_,_=> .vl []
def cY4(sig:List CT)(v:Value):Option Loc:=match v with
 | .slice (some a) len _=>if 0<len then some ⟨a.block,a.off,len*sig.length⟩else none
 |_=>none
def nSl:Sh→Nat
 | .sl _=>1
 | .col _=>0
def cF0(n b:Nat):Sh→AV
 | .col (.int k)=> .oint k (.va n)
 | .col .str=> .ostr (.va n)
 | .col .bool=> .obool (.va n)
 | .sl sig=> .osl b (.ci 0) (.op .llen [.va n]) sig.length
def aA2:List Sh→Nat→Nat→List AV
 | [],_,_=>[]
 |s::r,n,b=>cF0 n b s::aA2 r (n+1) (b+nSl s)
def a43:List Sh→Nat→List Blk
 | [],_=>[]
 | .sl sig::r,n=> .arr an1 sig (.va n)::a43 r (n+1)
 | .col _::r,n=>a43 r (n+1)
def al8:List Sh→List Value→List (Option Loc)
 | .sl sig::r,v::vs=>cY4 sig v::al8 r vs
 | .col _::r,_::vs=>al8 r vs
 |_,_=>[]
theorem b41{a:Addr}{n:Nat}{vs:List Value}(h:w.cells? 0 a n=some vs):vs.length=n∧ ∀j,j<n→w.cell? (a.add j)=vs[j]? :=by
 unfold World.cells? at h
 rw[if_pos (k8 _)]at h
 have: ∀(l:List Nat) (vs:List Value),(l.mapM fun i=>w.cell? (a.add i))=some vs→vs.length=l.length∧ ∀j (hj:j<l.length),w.cell? (a.add l[j])=vs[j]? :=by
  intro l
  induction l with
  |nil=>intro vs h;simp at h;subst h;exact⟨rfl,fun j hj=>by simp at hj⟩
  |cons x l ih=>
   intro vs h
   rw[C3]at h
   simp only[Option.bind_eq_bind,j6,Option.pure_def,a8]at h
   obtain⟨y,hy,ys,hys,rfl⟩:=h
   obtain⟨h1,h2⟩:=ih ys hys
   refine⟨by simp[h1],fun j hj=> ?_⟩
   cases j with
   |zero=>simpa using hy
   |succ j=>simpa using h2 j (by simpa using hj)
 obtain⟨h1,h2⟩:=this _ _ h
 rw[E1]at h1
 exact⟨h1,fun j hj=>by
  have:=h2 j (by rw[E1];exact hj)
  rwa[List.getElem_range]at this⟩
theorem aO1{a:Addr}{k:Nat}{v:Value}(h:w.cell? (a.add k)=some v): ∃C e lo hi,w.heap[a.block]? =some (.cells C e (lo,hi))∧C[a.off+k]? =some v∧(k=0→a.spot=none):=by
 have hb:(a.add k).block=a.block:=by unfold Addr.add;split<;>rfl
 have ho:(a.add k).off=a.off+k:=by unfold Addr.add;split<;>simp_all
 unfold World.cell? at h
 rw[hb,ho]at h
 split at h
 ·rename_i C e fr hh
  split at h
  ·cases h
  ·rename_i hs
   refine⟨C,e,fr.1,fr.2,hh,h,fun hk=> ?_⟩
   subst hk
   simpa[Addr.add]using hs
 ·cases h
theorem ct0: ∀{sig:List CT} {vs:List Value} {j:Nat},c51 sig vs→j<sig.length→ ∃u,vs[j]? =some u∧a26 (sig.getD j .bool) (cs5 u)=u
 |c::s,vs,0,⟨v,r,e,h,_⟩,_=>by
  refine⟨v,by rw[e];rfl,?_⟩
  cases c with
  |int k=>obtain⟨n,rfl,_⟩:=h;rfl
  |str=>obtain⟨n,rfl⟩:=h;simp[a26,cs5,Val.toS]
  |bool=>obtain⟨n,rfl⟩:=h;rfl
 |c::s,vs,j+1,⟨v,r,e,_,h⟩,hj=>by
  obtain⟨u,h1,h2⟩:=ct0 (sig:=s) (vs:=r) (j:=j) h (by simpa using hj)
  exact⟨u,by rw[e];simpa using h1,by simpa using h2⟩
 | [],_,_,_,hj=>by simp at hj
theorem cY5{β:Bij}{ω:Opq}{sig:List CT}{a:Addr}{len n:Nat}(h0:0<len)(hs:0<sig.length)(hc: ∀i,i<len→ ∃vs,w.cells? 0 (a.add (i*sig.length)) sig.length=some vs∧c51 sig vs)
 (hf: ∀j,j<len*sig.length→w.frozen? ⟨a.block,a.off+j,none⟩=false) (hw:ω.w n= .vl (aB6 w sig.length a len)):BR β ω ⟨a.block,a.off,len*sig.length⟩ w.heap[a.block]? (.arr an1 sig (.va n)):=by
 have hcell: ∀i j,i<len→j<sig.length→ ∃u C e lo hi,w.heap[a.block]? =some (.cells C e (lo,hi))∧C[a.off+(i*sig.length+j)]? =some u∧a26 (sig.getD j .bool) ((((aB6 w sig.length a len).getD i (.vl [])).toL).getD j default)=u:=by
  intro i j hi hj
  obtain⟨vs,h1,h2⟩:=hc i hi
  obtain⟨h3,h4⟩:=b41 h1
  obtain⟨u,h5,h6⟩:=ct0 h2 hj
  have h7:=h4 j hj
  rw[h5]at h7
  have hadd:(a.add (i*sig.length)).add j=a.add (i*sig.length+j)∨True:= .inr trivial
  obtain⟨C,e,lo,hi',h8,h9,_⟩:=aO1 h7
  have hb:(a.add (i*sig.length)).block=a.block:=by unfold Addr.add;split<;>rfl
  have ho:(a.add (i*sig.length)).off=a.off+i*sig.length:=by unfold Addr.add;split<;>simp_all
  rw[hb]at h8
  rw[ho,l8]at h9
  refine⟨u,C,e,lo,hi',h8,h9,?_⟩
  rw[←h6]
  congr 1
  simp only[aB6,d9,r5,List.getElem?_range hi,Option.map_some,Option.getD_some,Val.toL,h1,h5]
 obtain⟨_,C,e,lo,hi,hh,_,_⟩:=hcell 0 0 h0 hs
 have hC: ∀i j,i<len→j<sig.length→ ∃u,C[a.off+(i*sig.length+j)]? =some u∧a26 (sig.getD j .bool) ((((aB6 w sig.length a len).getD i (.vl [])).toL).getD j default)=u:=by
  intro i j h1 h2
  obtain⟨u,C',e',lo',hi',g1,g2,g3⟩:=hcell i j h1 h2
  rw[hh]at g1
  simp only[a8,Obj.cells.injEq,d7]at g1
  obtain⟨rfl,rfl,rfl,rfl⟩:=g1
  exact⟨u,g2,g3⟩
 have hl:(dL ω (.va n))=aB6 w sig.length a len:=by show(ω.w n).toL=_;rw[hw];rfl
 have hlen:(aB6 w sig.length a len).length=len:=by simp[aB6]
 refine⟨C,e,lo,hi,hh,.inr rfl,?_,by rw[hl,hlen];exact b9 _,fun i v hi'=> ?_,fun i hi'=> ?_⟩
 ·obtain⟨u,h1,_⟩:=hC (len-1) (sig.length-1) (by omega) (by omega)
  have:=(E9.1 h1).1
  have e1:(len-1)*sig.length+sig.length=len*sig.length:=by rw[←Nat.succ_mul];congr 1;omega
  show a.off+len*sig.length≤C.size
  omega
 ·rw[hl]at hi'
  have hlt:i<len*sig.length:=by
   have:=(k6.1 hi').1
   rw[O3,hlen]at this;exact this
  have hq:i/sig.length<len:=Nat.div_lt_of_lt_mul (by rw[x9];exact hlt)
  have hr:i % sig.length<sig.length:=Nat.mod_lt _ hs
  have hi2:i=i/sig.length*sig.length+i % sig.length:=by rw[x9];exact(Nat.div_add_mod i sig.length).symm
  obtain⟨u,h1,h2⟩:=hC _ _ hq hr
  rw[hi2,ag0 hr (by rw[hlen];exact hq),h2,a8]at hi'
  show C[a.off+i]? =some v
  rw[hi2,h1,hi']
 ·have:=hf i hi'
  unfold World.frozen? at this
  rw[hh]at this
  simp only[D2,decide_eq_false_iff_not]at this
  show¬(lo≤a.off+i∧a.off+i<hi)
  omega
theorem bA5{α:Type}{fit:α→Value→Prop}: ∀{s:List α} {vs:List Value} {i:Nat} {a:α} {v:Value},a33 fit s vs→s[i]? =some a→vs[i]? =some v→fit a v
 |_::_,_,0,_,_,⟨v,r,rfl,h,_⟩,h1,h2=>by
  simp only[List.getElem?_cons_zero,a8]at h1 h2
  subst h1;subst h2;exact h
 |_::_,_,i+1,_,_,⟨v,r,rfl,_,h⟩,h1,h2=>bA5 (i:=i) h (by simpa using h1) (by simpa using h2)
 | [],_,_,_,_,_,h1,_=>by simp at h1
theorem aD7: ∀{L:List Sh} {vs:List Value} {n:Nat},a33 (av7 w) L vs→(al8 L vs).length=(a43 L n).length∧ ∀(j:Nat) (x:Blk),(a43 L n)[j]? =some x→ ∃sig m v,x= .arr an1 sig (.va (n+m))∧L[m]? =some (.sl sig)∧vs[m]? =some v∧(al8 L vs)[j]? =some (cY4 sig v)
 | [],vs,n,h=>⟨by simp[al8,a43],fun j x hx=>by simp[a43]at hx⟩
 | .col c::r,_,n,⟨v,vs,rfl,_,h⟩=>by
   obtain⟨h1,h2⟩:=aD7 (n:=n+1) h
   refine⟨h1,fun j x hx=> ?_⟩
   obtain⟨sig,m,v',e1,e2,e3,e4⟩:=h2 j x hx
   exact⟨sig,m+1,v',by rw[e1,l8,y6 1 m],by simpa using e2,by simpa using e3,e4⟩
 | .sl sig::r,_,n,⟨v,vs,rfl,_,h⟩=>by
   obtain⟨h1,h2⟩:=aD7 (n:=n+1) h
   refine⟨by simp only[al8,a43,List.length_cons,h1],fun j x hx=> ?_⟩
   cases j with
   |zero=>
    simp only[a43,List.getElem?_cons_zero,a8]at hx
    exact⟨sig,0,v,hx.symm,rfl,rfl,rfl⟩
   |succ j=>
    obtain⟨sig',m,v',e1,e2,e3,e4⟩:=h2 j x (by simpa[a43]using hx)
    exact⟨sig',m+1,v',by rw[e1,l8,y6 1 m],by simpa using e2,by simpa using e3,by simpa[al8]using e4⟩
theorem c52{sig:List CT}{v:Value}{M:Loc}(e:cY4 sig v=some M): ∃a len cap,v= .slice (some a) len cap∧0<len∧M=⟨a.block,a.off,len*sig.length⟩:=by
 unfold cY4 at e
 split at e
 ·rename_i a len cap
  split at e
  ·rename_i h
   simp only[a8]at e
   exact⟨a,len,cap,rfl,h,e.symm⟩
  ·cases e
 ·cases e
theorem ct1{β:Bij}{ω:Opq}{L:List Sh}{vs:List Value}(hfit:a33 (av7 w) L vs)(hω: ∀(i:Nat) s v,L[i]? =some s→vs[i]? =some v→ω.w i=aX2 w s v)(hβ: ∀b,β b=((al8 L vs)[b]?).getD none)
 {h:Heap} (hn:h.next=(a43 L 0).length) (hwm:h.wm=(a43 L 0).length) (hg: ∀b,h.get b=(a43 L 0)[b]?):HR β ω (· <w.heap.size) w h w:=by
 obtain⟨hlen,hat⟩:=aD7 (n:=0) hfit
 have hlt: ∀b x,h.get b=some x→b<(a43 L 0).length:=fun b x hx=>by
  rw[hg]at hx;exact(k6.1 hx).1
 have harr: ∀b x,h.get b=some x→x.isArr=true:=fun b x hx=>by
  rw[hg]at hx
  obtain⟨sig,m,v,e,_⟩:=hat b x hx
  rw[e];rfl
 have hloc: ∀b M,β b=some M→ ∃sig m a len cap,L[m]? =some (.sl sig)∧vs[m]? =some (.slice (some a) len cap)∧0<len∧M=⟨a.block,a.off,len*sig.length⟩∧(a43 L 0)[b]? =some (.arr an1 sig (.va m)):=by
  intro b M hb
  rw[hβ]at hb
  have hb':b<(a43 L 0).length:=by
   rcases d8 b (al8 L vs).length with hh|hh
   ·omega
   ·rw[j7 hh]at hb;cases hb
  obtain⟨sig,m,v,e1,e2,e3,e4⟩:=hat b _ (j0 hb')
  rw[e4,Option.getD_some]at hb
  obtain⟨a,len,cap,rfl,h0,rfl⟩:=c52 hb
  exact⟨sig,m,a,len,cap,e2,e3,h0,rfl,by rw[j0 hb',e1,i3]⟩
 have hbr: ∀b x M,h.get b=some x→β b=some M→BR β ω M w.heap[M.blk]? x:=by
  intro b x M hx hb
  obtain⟨sig,m,a,len,cap,h1,h2,h0,rfl,h4⟩:=hloc b M hb
  rw[hg,h4,a8]at hx
  subst hx
  have hf:=bA5 hfit h1 h2
  rcases hf with hf|⟨a',len',cap',hf,hs,_,hc,hz⟩
  ·cases hf
  ·simp only[Value.slice.injEq,a8]at hf
   obtain⟨rfl,rfl,rfl⟩:=hf
   exact cY5 h0 hs hc hz (hω m _ _ h1 h2)
 refine⟨hbr,fun b b' x x' M M' h1 h2 _ _ _ h5=> ?_,fun b hb=> ?_,fun b hb=> ?_,fun b M hb=> ?_,fun i hi=>hi,fun i _=>rfl,fun b x M h1 h2 _=> ?_,b9 _,rfl,rfl,rfl,b9 _⟩
 ·have q1:=hlt _ _ h1
  have q2:=hlt _ _ h2
  rw[hwm]at h5
  rcases h5 with h5|h5|h5|h5
  ·omega
  ·omega
  ·rw[harr _ _ h1]at h5;cases h5
  ·rw[harr _ _ h2]at h5;cases h5
 ·rw[hn]at hb
  rw[hβ,j7 (by omega)];rfl
 ·rw[hn]at hb
  rw[hg,j7 hb]
 ·obtain⟨sig,m,a,len,cap,h1,h2,h0,rfl,h4⟩:=hloc b M hb
  obtain⟨C,e',lo,hi,hh,_⟩:=hbr b _ _ (by rw[hg];exact h4) hb
  exact(E9.1 hh).1
 ·have:=hlt _ _ h1
  rw[hwm]at h2;omega
theorem bp7{β:Bij}{ω:Opq}: ∀{L:List Sh} {vs:List Value} {n b:Nat},a33 (av7 w) L vs→(∀(i:Nat) s v,L[i]? =some s→vs[i]? =some v→ω.w (n+i)=aX2 w s v)→(∀(j:Nat) x,(al8 L vs)[j]? =some x→β (b+j)=x)→VRs β ω (aA2 L n b) vs
 | [],_,_,_,h,_,_=>by rw[h];rfl
 |s::r,_,n,b,⟨v,vs,rfl,hf,h⟩,hω,hβ=>by
  have hv:=hω 0 s v rfl rfl
  rw[Nat.add_zero]at hv
  have hrest:VRs β ω (aA2 r (n+1) (b+nSl s)) vs:=by
   refine bp7 h (fun i s' v' h1 h2=> ?_) (fun j x hx=> ?_)
   ·have:=hω (i+1) s' v' (by simpa using h1) (by simpa using h2)
    rw[←this];congr 1;omega
   ·cases s with
    |col c=>exact hβ j x hx
    |sl sig=>
     have:=hβ (j+1) x (by simpa[al8]using hx)
     rw[←this];congr 1;simp only[nSl];omega
  refine⟨v,vs,rfl,?_,hrest⟩
  cases s with
  |col c=>
   cases c with
   |int k=>obtain⟨m,rfl,_⟩:=hf;show Value.int k m= .int k (ω.w n).toI;rw[hv];rfl
   |str=>obtain⟨m,rfl⟩:=hf;show Value.string m= .string ⟨(ω.w n).toS.toArray⟩;rw[hv];simp[aX2,cs5,Val.toS]
   |bool=>obtain⟨m,rfl⟩:=hf;show Value.bool m= .bool (ω.w n).toB;rw[hv];rfl
  |sl sig=>
   rcases hf with rfl|⟨a,len,cap,rfl,hs,hlc,hc,hz⟩
   ·refine .inr ⟨none,0,rfl,fun _=>rfl,?_⟩
    show(((ω.w n).toL.length:Nat):Int)=0
    rw[hv];rfl
   ·have hd:dI ω (.op .llen [.va n])=(len:Int):=by
     show(((ω.w n).toL.length:Nat):Int)=len
     rw[hv];simp[aX2,aB6,Val.toL]
    by_cases h0:0<len
    ·refine .inl ⟨⟨a.block,a.off,len*sig.length⟩,cap,a,?_,by rw[hd];rfl,by rw[hd];exact hlc.1,fun _=> ?_⟩
     ·have:=hβ 0 (some ⟨a.block,a.off,len*sig.length⟩) (by simp[al8,cY4,h0])
      exact this
     ·obtain⟨us,h1,h2⟩:=hc 0 h0
      obtain⟨h3,h4⟩:=b41 h1
      have h5:=h4 0 hs
      rw[j0 (by omega)]at h5
      have e0:(a.add (0*sig.length)).add 0=a.add 0:=by simp[Addr.add]
      rw[e0]at h5
      obtain⟨_,_,_,_,_,_,h6⟩:=aO1 h5
      show a=⟨a.block,a.off+(dI ω (.ci 0)).toNat*sig.length,none⟩
      have:(dI ω (.ci 0)).toNat=0:=rfl
      rw[this,B5,Nat.add_zero,←h6 rfl]
    ·obtain rfl:len=0:=by omega
     exact .inr ⟨some a,cap,rfl,fun hh=>(by cases hh),hd⟩
def ct2(F:Nat→List Val→Val)(P:Program)(w:World)(L:List Sh)(cells:List Value):Opq:=⟨fun _=> .bool false,fun n=>aX2 w (L.getD n (.col .bool)) (cells.getD n (.bool false)),F,fun _=>rfl,fun t=>aq0 P t,fun _=>none⟩
end
end Go.Ev
