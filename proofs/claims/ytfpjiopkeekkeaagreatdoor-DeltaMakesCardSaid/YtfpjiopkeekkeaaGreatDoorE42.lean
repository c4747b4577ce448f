import Derived.Test.YtfpjiopkeekkeaaGreatDoorE41
import Derived.Test.YtfpjiopkeekkeaaGreatDoorE32
import Derived.ChangeArms
set_option autoImplicit false
set_option linter.unusedVariables false
set_option linter.unusedSimpArgs false
namespace Go.Ev
open Go Go.RowKit Go.WideShapes Go.ChangeShapes
def bO3{α:Type}(P:Program)(g:TypeId→Option (List α)):List Field→Nat→Option (List α)
 | [],_=>some []
 |f::r,o=>match g f.type with
  |some l=>bif Nat.beq f.offset o&&Nat.beq (P.cellsOf f.type) l.length then(match bO3 P g r (o+l.length)with
      |some l2=>some (l++l2)
      |none=>none)else none
  |none=>none
def cq6(P:Program):Nat→TypeId→Option (List CT)
 |0,_=>none
 |n+1,t=>match P.underlying t with
  |some .bool=>some [.bool]
  |some (.int k)=>some [.int k]
  |some .string=>some [.str]
  |some (.struct fs)=>match bO3 P (cq6 P n) fs.toList 0 with
   |some l=>bif Nat.beq (P.cellsOf t) l.length then some l else none
   |none=>none
  |_=>none
def cx7:CT→Value→Prop
 | .int k,v=> ∃n,v= .int k n∧k.min≤n∧n≤k.max
 | .str,v=> ∃s,v= .string s
 | .bool,v=> ∃b,v= .bool b
def a28{α:Type}(fit:α→Value→Prop):List α→List Value→Prop
 | [],vs=>vs=[]
 |c::s,vs=> ∃v r,vs=v::r∧fit c v∧a28 fit s r
def cq7:List CT→List Value→Prop:=a28 cx7
theorem ad3{α:Type}{fit:α→Value→Prop}: ∀{s:List α} {vs:List Value},a28 fit s vs→vs.length=s.length
 | [],_,h=>by rw[h];rfl
 |_::s,_,⟨v,r,e,_,h⟩=>by rw[e];simp[ad3 h]
theorem ak7{α:Type}{fit:α→Value→Prop}: ∀{s t:List α} {vs us:List Value},a28 fit s vs→a28 fit t us→a28 fit (s++t) (vs++us)
 | [],_,_,_,h,k=>by rw[h];exact k
 |_::s,_,_,_,⟨v,r,e,h1,h⟩,k=>⟨v,_,by rw[e];rfl,h1,ak7 h k⟩
section
variable{H:Type}{enc:TypeId×Value→H}{P:Program}{w:World}{base:Nat}{sp:Nat→Bool}{hd:Bool}
theorem b77{α β:Type}{g:α→Option β}: ∀{l:List α} {r:List β},l.mapM g=some r→ ∀a∈l,∃b∈r,g a=some b
 | [],_,_,_,h=>by cases h
 |x::l,r,h,a,ha=>by
  rw[D6]at h
  simp only[Option.bind_eq_bind,k8,Option.pure_def,a8]at h
  obtain⟨y,hy,ys,hys,rfl⟩:=h
  rcases r6.1 ha with rfl|ha
  ·exact⟨y,C6 ..,hy⟩
  ·obtain⟨b,hb,e⟩:=b77 hys a ha
   exact⟨b,D5 _ hb,e⟩
theorem aD4{α:Type}{fit:α→Value→Prop}{g:TypeId→Option (List α)}{cs:List Value}{Q:TypeId→List Value→Prop}(hg: ∀t l vs,g t=some l→Q t vs→a28 fit l vs): ∀{fs:List Field} {o:Nat} {l:List α},bO3 P g fs o=some l→(∀f∈fs,Q f.type ((cs.drop f.offset).take (P.cellsOf f.type)))→
 a28 fit l ((cs.drop o).take l.length)
 | [],o,l,h,_=>by
   simp only[bO3,a8]at h
   subst h;simp[a28]
 |f::r,o,l,h,hq=>by
  simp only[bO3]at h
  split at h
  ·rename_i l1 h1
   cases hc:(Nat.beq f.offset o&&Nat.beq (P.cellsOf f.type) l1.length)with
   |false=>rw[hc]at h;cases h
   |true=>
    rw[hc]at h
    simp only[cond_true]at h
    obtain⟨c1,c2⟩:=O4 hc
    have c1:=O6.1 c1
    have c2:=O6.1 c2
    split at h
    ·rename_i l2 h2
     simp only[a8]at h
     subst h
     have a:=hg _ _ _ h1 (hq f (C6 ..))
     rw[c1,c2]at a
     have b:=aD4 hg h2 (fun f hf=>hq f (D5 _ hf))
     have:=ak7 a b
     rw[j5,List.take_add,I7]
     exact this
    ·cases h
  ·cases h
theorem bi6: ∀{m:Nat} {n:Nat} {t:TypeId} {cs:List Value} {x:DataW H×List MemPlace} {l:List CT},cq6 P m t=some l→DataW.trod enc P w base sp hd n t cs=some x→cq7 l cs
 |0,_,_,_,_,_,h,_=>by cases h
 |m+1,0,_,_,_,_,_,h=>by simp[DataW.trod]at h
 |m+1,n+1,t,cs,x,l,hc,ht=>by
  unfold DataW.trod at ht
  simp only[cq6]at hc
  cases hu:P.underlying t with
  |none=>rw[hu]at hc;cases hc
  |some d=>
   rw[hu]at hc ht
   cases d with
   |bool=>
    simp only[a8]at hc;subst hc
    split at ht<;>simp_all [cq7,a28,cx7]
   |int k=>
    simp only[a8]at hc;subst hc
    split at ht<;>simp_all [cq7,a28,cx7,Lit.wf]
   |string=>
    simp only[a8]at hc;subst hc
    split at ht<;>simp_all [cq7,a28,cx7]
   |struct fs=>
    simp only at hc
    split at hc
    ·rename_i l1 h1
     cases hb:Nat.beq (P.cellsOf t) l1.length with
     |false=>rw[hb]at hc;cases hc
     |true=>
      rw[hb]at hc
      simp only[cond_true,a8]at hc;subst hc
      have hb:=O6.1 hb
      split at ht<;>simp_all
      rename_i heq
      subst heq
      obtain⟨hlen,ys,hys,_⟩:=ht
      have key: ∀cs:List Value,cs.length=l1.length→(fs.toList.mapM fun f=>DataW.trod enc P w base sp hd n f.type ((cs.drop f.offset).take (P.cellsOf f.type)))=some ys→cq7 l1 cs:=fun cs hl hy=>by
       have:=aD4 (cs:=cs) (Q:=fun t vs=> ∃x,DataW.trod enc P w base sp hd n t vs=some x) (fun t l vs hl ⟨x,hx⟩=>bi6 hl hx) h1 (fun f hf=>by
        obtain⟨b,_,e⟩:=b77 hy f hf
        exact⟨b,e⟩)
       rw[C3,←hl,F8]at this
       exact this
      exact key _ hlen (by simpa using hys)
    ·cases hc
   |_=>cases hc
inductive Sh where
 |col (c:CT)
 |sl (sig:List CT)
def shT(P:Program):Nat→TypeId→Option (List Sh)
 |0,_=>none
 |n+1,t=>match P.underlying t with
  |some .bool=>some [.col .bool]
  |some (.int k)=>some [.col (.int k)]
  |some .string=>some [.col .str]
  |some (.slice e)=>match cq6 P n e with
   |some l=>bif Nat.beq (P.cellsOf e) l.length&&Nat.blt 0 l.length then some [.sl l]else none
   |none=>none
  |some (.struct fs)=>match bO3 P (shT P n) fs.toList 0 with
   |some l=>bif Nat.beq (P.cellsOf t) l.length then some l else none
   |none=>none
  |_=>none
def bi7(w:World):Sh→Value→Prop
 | .col c,v=>cx7 c v
 | .sl sig,v=>v= .slice none 0 0∨ ∃a len cap,v= .slice (some a) len cap∧0<sig.length∧(len≤cap∧cap≤maxLen)∧(∀i,i<len→ ∃vs,w.cells? 0 (a.add (i*sig.length)) sig.length=some vs∧cq7 sig vs)∧ ∀j,j<len*sig.length→w.frozen? ⟨a.block,a.off+j,none⟩=false
def d05(w:World)(ps:List MemPlace):Prop:= ∀b off,MemPlace.cell b off∈ps→w.frozen? ⟨b,off,none⟩=false
theorem aS7: ∀{m:Nat} {n:Nat} {t:TypeId} {cs:List Value} {x:DataW H×List MemPlace} {l:List Sh},shT P m t=some l→DataW.trod enc P w 0 sp hd n t cs=some x→d05 w x.2→a28 (bi7 w) l cs
 |0,_,_,_,_,_,h,_,_=>by cases h
 |m+1,0,_,_,_,_,_,h,_=>by simp[DataW.trod]at h
 |m+1,n+1,t,cs,x,l,hc,ht,hw=>by
  simp only[shT]at hc
  cases hu:P.underlying t with
  |none=>rw[hu]at hc;cases hc
  |some d=>
   have ht0:=ht
   unfold DataW.trod at ht
   rw[hu]at hc ht
   cases d with
   |bool=>
    simp only[a8]at hc;subst hc
    split at ht<;>simp_all [a28,bi7,cx7]
   |int k=>
    simp only[a8]at hc;subst hc
    split at ht<;>simp_all [a28,bi7,cx7,Lit.wf]
   |string=>
    simp only[a8]at hc;subst hc
    split at ht<;>simp_all [a28,bi7,cx7]
   |slice e=>
    simp only at hc
    split at hc
    ·rename_i l1 h1
     cases hb:(Nat.beq (P.cellsOf e) l1.length&&Nat.blt 0 l1.length)with
     |false=>rw[hb]at hc;cases hc
     |true=>
      rw[hb]at hc
      simp only[cond_true,a8]at hc;subst hc
      obtain⟨hb,hb0⟩:=O4 hb
      rw[P9]at hb0
      have hb:=O6.1 hb
      rcases DataW.trod_slice hu ht0 with⟨rfl,_⟩|⟨a,len,cap,elems,rest,n',hn,rfl,rfl,_,hlc,hcm,hel,hi,_⟩
      ·exact⟨_,_,rfl,.inl rfl,rfl⟩
      ·refine⟨_,_,rfl,.inr ⟨a,len,cap,rfl,hb0,⟨hlc,hcm⟩,fun i hlt=> ?_,fun j hj=> ?_⟩,rfl⟩
       ·have:=hi i hlt
        rw[j7 (by omega),k8]at this
        obtain⟨vs,h2,h3⟩:=this
        rw[hb]at h2
        exact⟨vs,h2,bi6 h1 h3⟩
       ·apply hw
        simp only[A0,MemPlace.row,o8,r7]
        refine .inl ⟨j,?_,rfl⟩
        rw[hb,hel,p7];omega
    ·cases hc
   |struct fs=>
    simp only at hc
    split at hc
    ·rename_i l1 h1
     cases hb:Nat.beq (P.cellsOf t) l1.length with
     |false=>rw[hb]at hc;cases hc
     |true=>
      rw[hb]at hc
      simp only[cond_true,a8]at hc;subst hc
      have hb:=O6.1 hb
      split at ht<;>simp_all
      rename_i heq
      subst heq
      obtain⟨hlen,ys,hys,hx⟩:=ht
      have hw2: ∀y∈ys,d05 w y.2:=fun y hy b off hm=>hw b off (by
        rw[←hx]
        exact y6.2 ⟨y,hy,hm⟩)
      have key: ∀cs:List Value,cs.length=l1.length→(fs.toList.mapM fun f=>DataW.trod enc P w 0 sp hd n f.type ((cs.drop f.offset).take (P.cellsOf f.type)))=some ys→a28 (bi7 w) l1 cs:=fun cs hl hy=>by
       have:=aD4 (cs:=cs) (fit:=bi7 w) (Q:=fun t vs=> ∃x,DataW.trod enc P w 0 sp hd n t vs=some x∧d05 w x.2) (fun t l vs hl ⟨x,hx,hz⟩=>aS7 hl hx hz) h1 (fun f hf=>by
        obtain⟨b,hb,e⟩:=b77 hy f hf
        exact⟨b,e,hw2 b hb⟩)
       rw[C3,←hl,F8]at this
       exact this
      exact key _ hlen (by simpa using hys)
    ·cases hc
   |_=>cases hc
def aX7(w:World)(sz:Nat)(a:Addr)(len:Nat):List Val:=(List.range len).map fun i=> .vl (((w.cells? 0 (a.add (i*sz)) sz).getD []).map cQ3)
def cg4(w:World)(s:Sh)(v:Value):Val:=match s,v with
 | .col _,v=>cQ3 v
 | .sl sig,.slice (some a) len _=> .vl (aX7 w sig.length a len)
 |_,_=> .vl []
def d06(sig:List CT)(v:Value):Option Loc:=match v with
 | .slice (some a) len _=>if 0<len then some ⟨a.block,a.off,len*sig.length⟩else none
 |_=>none
def nSl:Sh→Nat
 | .sl _=>1
 | .col _=>0
def de3(n b:Nat):Sh→AV
 | .col (.int k)=> .oint k (.va n)
 | .col .str=> .ostr (.va n)
 | .col .bool=> .obool (.va n)
 | .sl sig=> .osl b (.ci 0) (.op .llen [.va n]) sig.length
def bE0:List Sh→Nat→Nat→List AV
 | [],_,_=>[]
 |s::r,n,b=>de3 n b s::bE0 r (n+1) (b+nSl s)
def aq2:List Sh→Nat→List Blk
 | [],_=>[]
 | .sl sig::r,n=> .arr au8 sig (.va n)::aq2 r (n+1)
 | .col _::r,n=>aq2 r (n+1)
def at7:List Sh→List Value→List (Option Loc)
 | .sl sig::r,v::vs=>d06 sig v::at7 r vs
 | .col _::r,_::vs=>at7 r vs
 |_,_=>[]
theorem bE1{a:Addr}{n:Nat}{vs:List Value}(h:w.cells? 0 a n=some vs):vs.length=n∧ ∀j,j<n→w.cell? (a.add j)=vs[j]? :=by
 unfold World.cells? at h
 rw[if_pos (q9 _)]at h
 have: ∀(l:List Nat) (vs:List Value),(l.mapM fun i=>w.cell? (a.add i))=some vs→vs.length=l.length∧ ∀j (hj:j<l.length),w.cell? (a.add l[j])=vs[j]? :=by
  intro l
  induction l with
  |nil=>intro vs h;simp at h;subst h;exact⟨rfl,fun j hj=>by simp at hj⟩
  |cons x l ih=>
   intro vs h
   rw[D6]at h
   simp only[Option.bind_eq_bind,k8,Option.pure_def,a8]at h
   obtain⟨y,hy,ys,hys,rfl⟩:=h
   obtain⟨h1,h2⟩:=ih ys hys
   refine⟨by simp[h1],fun j hj=> ?_⟩
   cases j with
   |zero=>simpa using hy
   |succ j=>simpa using h2 j (by simpa using hj)
 obtain⟨h1,h2⟩:=this _ _ h
 rw[I9]at h1
 exact⟨h1,fun j hj=>by
  have:=h2 j (by rw[I9];exact hj)
  rwa[List.getElem_range]at this⟩
theorem bi8{a:Addr}{k:Nat}{v:Value}(h:w.cell? (a.add k)=some v): ∃C e lo hi,w.heap[a.block]? =some (.cells C e (lo,hi))∧C[a.off+k]? =some v∧(k=0→a.spot=none):=by
 have hb:(a.add k).block=a.block:=by unfold Addr.add;split<;>rfl
 have ho:(a.add k).off=a.off+k:=by unfold Addr.add;split<;>simp_all
 unfold World.cell? at h
 rw[hb,ho]at h
 split at h
 ·rename_i C e fr hh
  split at h
  ·cases h
  ·rename_i hs
   refine⟨C,e,fr.1,fr.2,hh,h,fun hk=> ?_⟩
   subst hk
   simpa[Addr.add]using hs
 ·cases h
theorem cx8: ∀{sig:List CT} {vs:List Value} {j:Nat},cq7 sig vs→j<sig.length→ ∃u,vs[j]? =some u∧a56 (sig.getD j .bool) (cQ3 u)=u
 |c::s,vs,0,⟨v,r,e,h,_⟩,_=>by
  refine⟨v,by rw[e];rfl,?_⟩
  cases c with
  |int k=>obtain⟨n,rfl,_⟩:=h;rfl
  |str=>obtain⟨n,rfl⟩:=h;simp[a56,cQ3,Val.toS]
  |bool=>obtain⟨n,rfl⟩:=h;rfl
 |c::s,vs,j+1,⟨v,r,e,_,h⟩,hj=>by
  obtain⟨u,h1,h2⟩:=cx8 (sig:=s) (vs:=r) (j:=j) h (by simpa using hj)
  exact⟨u,by rw[e];simpa using h1,by simpa using h2⟩
 | [],_,_,_,hj=>by simp at hj
theorem d07{β:Bij}{ω:Opq}{sig:List CT}{a:Addr}{len n:Nat}(h0:0<len)(hs:0<sig.length)(hc: ∀i,i<len→ ∃vs,w.cells? 0 (a.add (i*sig.length)) sig.length=some vs∧cq7 sig vs)
 (hf: ∀j,j<len*sig.length→w.frozen? ⟨a.block,a.off+j,none⟩=false) (hw:ω.w n= .vl (aX7 w sig.length a len)):BR β ω ⟨a.block,a.off,len*sig.length⟩ w.heap[a.block]? (.arr au8 sig (.va n)):=by
 have hcell: ∀i j,i<len→j<sig.length→ ∃u C e lo hi,w.heap[a.block]? =some (.cells C e (lo,hi))∧C[a.off+(i*sig.length+j)]? =some u∧a56 (sig.getD j .bool) ((((aX7 w sig.length a len).getD i (.vl [])).toL).getD j default)=u:=by
  intro i j hi hj
  obtain⟨vs,h1,h2⟩:=hc i hi
  obtain⟨h3,h4⟩:=bE1 h1
  obtain⟨u,h5,h6⟩:=cx8 h2 hj
  have h7:=h4 j hj
  rw[h5]at h7
  have hadd:(a.add (i*sig.length)).add j=a.add (i*sig.length+j)∨True:= .inr trivial
  obtain⟨C,e,lo,hi',h8,h9,_⟩:=bi8 h7
  have hb:(a.add (i*sig.length)).block=a.block:=by unfold Addr.add;split<;>rfl
  have ho:(a.add (i*sig.length)).off=a.off+i*sig.length:=by unfold Addr.add;split<;>simp_all
  rw[hb]at h8
  rw[ho,p9]at h9
  refine⟨u,C,e,lo,hi',h8,h9,?_⟩
  rw[←h6]
  congr 1
  simp only[aX7,i3,v7,List.getElem?_range hi,Option.map_some,Option.getD_some,Val.toL,h1,h5]
 obtain⟨_,C,e,lo,hi,hh,_,_⟩:=hcell 0 0 h0 hs
 have hC: ∀i j,i<len→j<sig.length→ ∃u,C[a.off+(i*sig.length+j)]? =some u∧a56 (sig.getD j .bool) ((((aX7 w sig.length a len).getD i (.vl [])).toL).getD j default)=u:=by
  intro i j h1 h2
  obtain⟨u,C',e',lo',hi',g1,g2,g3⟩:=hcell i j h1 h2
  rw[hh]at g1
  simp only[a8,Obj.cells.injEq,e9]at g1
  obtain⟨rfl,rfl,rfl,rfl⟩:=g1
  exact⟨u,g2,g3⟩
 have hl:(dL ω (.va n))=aX7 w sig.length a len:=by show(ω.w n).toL=_;rw[hw];rfl
 have hlen:(aX7 w sig.length a len).length=len:=by simp[aX7]
 refine⟨C,e,lo,hi,hh,.inr rfl,?_,by rw[hl,hlen];exact b9 _,fun i v hi'=> ?_,fun i hi'=> ?_⟩
 ·obtain⟨u,h1,_⟩:=hC (len-1) (sig.length-1) (by omega) (by omega)
  have:=(N8.1 h1).1
  have e1:(len-1)*sig.length+sig.length=len*sig.length:=by rw[←Nat.succ_mul];congr 1;omega
  show a.off+len*sig.length≤C.size
  omega
 ·rw[hl]at hi'
  have hlt:i<len*sig.length:=by
   have:=(m7.1 hi').1
   rw[Q5,hlen]at this;exact this
  have hq:i/sig.length<len:=Nat.div_lt_of_lt_mul (by rw[u9];exact hlt)
  have hr:i % sig.length<sig.length:=Nat.mod_lt _ hs
  have hi2:i=i/sig.length*sig.length+i % sig.length:=by rw[u9];exact(Nat.div_add_mod i sig.length).symm
  obtain⟨u,h1,h2⟩:=hC _ _ hq hr
  rw[hi2,aj5 hr (by rw[hlen];exact hq),h2,a8]at hi'
  show C[a.off+i]? =some v
  rw[hi2,h1,hi']
 ·have:=hf i hi'
  unfold World.frozen? at this
  rw[hh]at this
  simp only[E2,decide_eq_false_iff_not]at this
  show¬(lo≤a.off+i∧a.off+i<hi)
  omega
theorem b78{α:Type}{fit:α→Value→Prop}: ∀{s:List α} {vs:List Value} {i:Nat} {a:α} {v:Value},a28 fit s vs→s[i]? =some a→vs[i]? =some v→fit a v
 |_::_,_,0,_,_,⟨v,r,rfl,h,_⟩,h1,h2=>by
  simp only[List.getElem?_cons_zero,a8]at h1 h2
  subst h1;subst h2;exact h
 |_::_,_,i+1,_,_,⟨v,r,rfl,_,h⟩,h1,h2=>b78 (i:=i) h (by simpa using h1) (by simpa using h2)
 | [],_,_,_,_,_,h1,_=>by simp at h1
theorem b79: ∀{L:List Sh} {vs:List Value} {n:Nat},a28 (bi7 w) L vs→(at7 L vs).length=(aq2 L n).length∧ ∀(j:Nat) (x:Blk),(aq2 L n)[j]? =some x→ ∃sig m v,x= .arr au8 sig (.va (n+m))∧L[m]? =some (.sl sig)∧vs[m]? =some v∧(at7 L vs)[j]? =some (d06 sig v)
 | [],vs,n,h=>⟨by simp[at7,aq2],fun j x hx=>by simp[aq2]at hx⟩
 | .col c::r,_,n,⟨v,vs,rfl,_,h⟩=>by
   obtain⟨h1,h2⟩:=b79 (n:=n+1) h
   refine⟨h1,fun j x hx=> ?_⟩
   obtain⟨sig,m,v',e1,e2,e3,e4⟩:=h2 j x hx
   exact⟨sig,m+1,v',by rw[e1,p9,A6 1 m],by simpa using e2,by simpa using e3,e4⟩
 | .sl sig::r,_,n,⟨v,vs,rfl,_,h⟩=>by
   obtain⟨h1,h2⟩:=b79 (n:=n+1) h
   refine⟨by simp only[at7,aq2,List.length_cons,h1],fun j x hx=> ?_⟩
   cases j with
   |zero=>
    simp only[aq2,List.getElem?_cons_zero,a8]at hx
    exact⟨sig,0,v,hx.symm,rfl,rfl,rfl⟩
   |succ j=>
    obtain⟨sig',m,v',e1,e2,e3,e4⟩:=h2 j x (by simpa[aq2]using hx)
    exact⟨sig',m+1,v',by rw[e1,p9,A6 1 m],by simpa using e2,by simpa using e3,by simpa[at7]using e4⟩
theorem c79{sig:List CT}{v:Value}{M:Loc}(e:d06 sig v=some M): ∃a len cap,v= .slice (some a) len cap∧0<len∧M=⟨a.block,a.off,len*sig.length⟩:=by
 unfold d06 at e
 split at e
 ·rename_i a len cap
  split at e
  ·rename_i h
   simp only[a8]at e
   exact⟨a,len,cap,rfl,h,e.symm⟩
  ·cases e
 ·cases e
theorem d08{β:Bij}{ω:Opq}{L:List Sh}{vs:List Value}(hfit:a28 (bi7 w) L vs)(hω: ∀(i:Nat) s v,L[i]? =some s→vs[i]? =some v→ω.w i=cg4 w s v)(hβ: ∀b,β b=((at7 L vs)[b]?).getD none)
 {h:Heap} (hn:h.next=(aq2 L 0).length) (hwm:h.wm=(aq2 L 0).length) (hg: ∀b,h.get b=(aq2 L 0)[b]?):HR β ω (· <w.heap.size) w h w:=by
 obtain⟨hlen,hat⟩:=b79 (n:=0) hfit
 have hlt: ∀b x,h.get b=some x→b<(aq2 L 0).length:=fun b x hx=>by
  rw[hg]at hx;exact(m7.1 hx).1
 have harr: ∀b x,h.get b=some x→x.isArr=true:=fun b x hx=>by
  rw[hg]at hx
  obtain⟨sig,m,v,e,_⟩:=hat b x hx
  rw[e];rfl
 have hloc: ∀b M,β b=some M→ ∃sig m a len cap,L[m]? =some (.sl sig)∧vs[m]? =some (.slice (some a) len cap)∧0<len∧M=⟨a.block,a.off,len*sig.length⟩∧(aq2 L 0)[b]? =some (.arr au8 sig (.va m)):=by
  intro b M hb
  rw[hβ]at hb
  have hb':b<(aq2 L 0).length:=by
   rcases i4 b (at7 L vs).length with hh|hh
   ·omega
   ·rw[l6 hh]at hb;cases hb
  obtain⟨sig,m,v,e1,e2,e3,e4⟩:=hat b _ (j7 hb')
  rw[e4,Option.getD_some]at hb
  obtain⟨a,len,cap,rfl,h0,rfl⟩:=c79 hb
  exact⟨sig,m,a,len,cap,e2,e3,h0,rfl,by rw[j7 hb',e1,j8]⟩
 have hbr: ∀b x M,h.get b=some x→β b=some M→BR β ω M w.heap[M.blk]? x:=by
  intro b x M hx hb
  obtain⟨sig,m,a,len,cap,h1,h2,h0,rfl,h4⟩:=hloc b M hb
  rw[hg,h4,a8]at hx
  subst hx
  have hf:=b78 hfit h1 h2
  rcases hf with hf|⟨a',len',cap',hf,hs,_,hc,hz⟩
  ·cases hf
  ·simp only[Value.slice.injEq,a8]at hf
   obtain⟨rfl,rfl,rfl⟩:=hf
   exact d07 h0 hs hc hz (hω m _ _ h1 h2)
 refine⟨hbr,fun b b' x x' M M' h1 h2 _ _ _ h5=> ?_,fun b hb=> ?_,fun b hb=> ?_,fun b M hb=> ?_,fun i hi=>hi,fun i _=>rfl,fun b x M h1 h2 _=> ?_,b9 _,rfl,rfl,rfl,b9 _⟩
 ·have q1:=hlt _ _ h1
  have q2:=hlt _ _ h2
  rw[hwm]at h5
  rcases h5 with h5|h5|h5|h5
  ·omega
  ·omega
  ·rw[harr _ _ h1]at h5;cases h5
  ·rw[harr _ _ h2]at h5;cases h5
 ·rw[hn]at hb
  rw[hβ,l6 (by omega)];rfl
 ·rw[hn]at hb
  rw[hg,l6 hb]
 ·obtain⟨sig,m,a,len,cap,h1,h2,h0,rfl,h4⟩:=hloc b M hb
  obtain⟨C,e',lo,hi,hh,_⟩:=hbr b _ _ (by rw[hg];exact h4) hb
  exact(N8.1 hh).1
 ·have:=hlt _ _ h1
  rw[hwm]at h2;omega
theorem c80{β:Bij}{ω:Opq}: ∀{L:List Sh} {vs:List Value} {n b:Nat},a28 (bi7 w) L vs→(∀(i:Nat) s v,L[i]? =some s→vs[i]? =some v→ω.w (n+i)=cg4 w s v)→(∀(j:Nat) x,(at7 L vs)[j]? =some x→β (b+j)=x)→VRs β ω (bE0 L n b) vs
 | [],_,_,_,h,_,_=>by rw[h];rfl
 |s::r,_,n,b,⟨v,vs,rfl,hf,h⟩,hω,hβ=>by
  have hv:=hω 0 s v rfl rfl
  rw[Nat.add_zero]at hv
  have hrest:VRs β ω (bE0 r (n+1) (b+nSl s)) vs:=by
   refine c80 h (fun i s' v' h1 h2=> ?_) (fun j x hx=> ?_)
   ·have:=hω (i+1) s' v' (by simpa using h1) (by simpa using h2)
    rw[←this];congr 1;omega
   ·cases s with
    |col c=>exact hβ j x hx
    |sl sig=>
     have:=hβ (j+1) x (by simpa[at7]using hx)
     rw[←this];congr 1;simp only[nSl];omega
  refine⟨v,vs,rfl,?_,hrest⟩
  cases s with
  |col c=>
   cases c with
   |int k=>obtain⟨m,rfl,_⟩:=hf;show Value.int k m= .int k (ω.w n).toI;rw[hv];rfl
   |str=>obtain⟨m,rfl⟩:=hf;show Value.string m= .string ⟨(ω.w n).toS.toArray⟩;rw[hv];simp[cg4,cQ3,Val.toS]
   |bool=>obtain⟨m,rfl⟩:=hf;show Value.bool m= .bool (ω.w n).toB;rw[hv];rfl
  |sl sig=>
   rcases hf with rfl|⟨a,len,cap,rfl,hs,hlc,hc,hz⟩
   ·refine .inr ⟨none,0,rfl,fun _=>rfl,?_⟩
    show(((ω.w n).toL.length:Nat):Int)=0
    rw[hv];rfl
   ·have hd:dI ω (.op .llen [.va n])=(len:Int):=by
     show(((ω.w n).toL.length:Nat):Int)=len
     rw[hv];simp[cg4,aX7,Val.toL]
    by_cases h0:0<len
    ·refine .inl ⟨⟨a.block,a.off,len*sig.length⟩,cap,a,?_,by rw[hd];rfl,by rw[hd];exact hlc.1,fun _=> ?_⟩
     ·have:=hβ 0 (some ⟨a.block,a.off,len*sig.length⟩) (by simp[at7,d06,h0])
      exact this
     ·obtain⟨us,h1,h2⟩:=hc 0 h0
      obtain⟨h3,h4⟩:=bE1 h1
      have h5:=h4 0 hs
      rw[j7 (by omega)]at h5
      have e0:(a.add (0*sig.length)).add 0=a.add 0:=by simp[Addr.add]
      rw[e0]at h5
      obtain⟨_,_,_,_,_,_,h6⟩:=bi8 h5
      show a=⟨a.block,a.off+(dI ω (.ci 0)).toNat*sig.length,none⟩
      have:(dI ω (.ci 0)).toNat=0:=rfl
      rw[this,D0,Nat.add_zero,←h6 rfl]
    ·obtain rfl:len=0:=by omega
     exact .inr ⟨some a,cap,rfl,fun hh=>(by cases hh),hd⟩
def bE2(F:Nat→List Val→Val)(P:Program)(w:World)(L:List Sh)(cells:List Value):Opq:=⟨fun _=> .bool false,fun n=>cg4 w (L.getD n (.col .bool)) (cells.getD n (.bool false)),F,fun _=>rfl,fun t=>av0 P t,fun _=>none⟩
def b80(r:Res):Option (SX×AV):=match r with
 | .val v _=>some (.cb true,v)
 | .need e v _=>some (e,v)
 |_=>none
theorem bO4{r:Res}{e:SX}{v:AV}{ω:Opq}(h:b80 r=some (e,v))(hd:dB ω e=true): ∃h',r= .val v h'∨ ∃x,r= .need x v h'∧dB ω x=true:=by
 unfold b80 at h
 split at h
 ·simp only[a8,e9]at h
  obtain⟨_,rfl⟩:=h
  exact⟨_,.inl rfl⟩
 ·simp only[a8,e9]at h
  obtain⟨rfl,rfl⟩:=h
  exact⟨_,.inr ⟨_,rfl,hd⟩⟩
 ·cases h
theorem cI6{E:Env}{F:Nat→List Val→Val}{x:HC}(hx:T8 E (OmF F E.P) x)(ho:cg3 x.c x.nv=true){L:List Sh}{cells:List Value}(hfit:a28 (bi7 w) L cells)(hb:x.c.blks=aq2 L 0)(hmt:x.c.mt=x.c.blks.length)
 {us:List Value} (hus: ∀β ω,VRs β ω (bE0 L 0 0) cells→VRs β ω x.c.args us) {e:SX} (he:b80 (a62 x.c x.nv x.c.args x.c.heap)=some (e,.obool (.cb true))) (hd:dB (bE2 F E.P w L cells) e=true):
 Calls E.P x.f us.toArray w (fun e w'=>e= .returned (.bool true)∧RowKit.Below w.heap.size w w'):=by
 obtain⟨h',hh⟩:=bO4 he hd
 obtain⟨hn,hwm,a54⟩:=x.c.heap_ok (c62 ho).lt
 have hl:=ad3 hfit
 have hω: ∀(i:Nat) s v,L[i]? =some s→cells[i]? =some v→(bE2 F E.P w L cells).w i=cg4 w s v:=fun i s v h1 h2=>by
  show cg4 w (L.getD i (.col .bool)) (cells.getD i (.bool false))=_
  rw[i3,h1,i3,h2];rfl
 have hr:HR (fun b=>((at7 L cells)[b]?).getD none) (bE2 F E.P w L cells) (· <w.heap.size) w x.c.heap w:=
  d08 hfit hω (fun _=>rfl) (by rw[hn,hb]) (by rw[hwm,hmt,hb]) (fun b=>by rw[a54,hb])
 have hv:=hus _ _ (c80 (β:=fun b=>((at7 L cells)[b]?).getD none) (ω:=bE2 F E.P w L cells) (n:=0) (b:=0) hfit (fun i s v h1 h2=>by rw[j8];exact hω i s v h1 h2) (fun j y hy=>by
   show((at7 L cells)[0+j]?).getD none=y
   rw[j8,hy];rfl))
 refine Calls.mono (hx _ ⟨rfl,fun _=>rfl⟩ _ _ _ _ hh (· <w.heap.size) w _ w us hr hv) ?_
 rintro e' w' ⟨u,β',rfl,h1,h3,_⟩
 exact⟨by rw[show u= .bool true from h1],h3.os,h3.tape,h3.out,h3.size,h3.keep⟩
def bi9(P:Program)(t:TypeId):Bool:=match P.underlying t with
 |some (.struct _)=>true
 |_=>false
theorem c81{r:Reach}{b:Nat}{t:TypeId}{v:Value}(h:bi9 P t=true)(hv:Value.okWide P w r b t v): ∃cs,v= .agg cs:=by
 unfold bi9 at h
 split at h
 ·rename_i fs e
  unfold Value.okWide at hv
  rw[e]at hv
  obtain⟨cs,hc,_⟩:=hv
  exact⟨cs,hc⟩
 ·cases h
end
end Go.Ev
