import Derived.Test.YtagmhdcpfhpmfaaGreatE41
import Derived.Test.YtagmhdcpfhpmfaaGreatE32
import Derived.ChangeArms
set_option linter.unusedVariables false
set_option linter.unusedSimpArgs false
namespace Go.Ev
open Go Go.RowKit Go.WideShapes Go.ChangeShapes
def dx7:CT→Value→Prop
 | .int k,v=> ∃n,v= .int k n∧k.min≤n∧n≤k.max
 | .str,v=> ∃s,v= .string s
 | .bool,v=> ∃b,v= .bool b
def bH0{α:Type}(fit:α→Value→Prop):List α→List Value→Prop
 | [],vs=>vs=[]
 |c::s,vs=> ∃v r,vs=v::r∧fit c v∧bH0 fit s r
def dt0:List CT→List Value→Prop:=bH0 dx7
theorem aS1{α:Type}{fit:α→Value→Prop}: ∀{s:List α} {vs:List Value},bH0 fit s vs→vs.length=s.length
 | [],_,h=>by rw[h];rfl
 |_::s,_,⟨v,r,e,_,h⟩=>by rw[e];simp[aS1 h]
section
variable{H:Type}{enc:TypeId×Value→H}{P:Program}{w:World}{base:Nat}{sp:Nat→Bool}{hd:Bool}
inductive Sh where
 |col (c:CT)
 |sl (sig:List CT)
def do3(w:World):Sh→Value→Prop
 | .col c,v=>dx7 c v
 | .sl sig,v=>v= .slice none 0 0∨ ∃a len cap,v= .slice (some a) len cap∧0<sig.length∧(len≤cap∧cap≤maxLen)∧(∀i,i<len→ ∃vs,w.cells? 0 (a.add (i*sig.length)) sig.length=some vs∧dt0 sig vs)∧ ∀j,j<len*sig.length→w.frozen? ⟨a.block,a.off+j,none⟩=false
def dx8(w:World)(ps:List MemPlace):Prop:= ∀b off,MemPlace.cell b off∈ps→w.frozen? ⟨b,off,none⟩=false
def br6(w:World)(sz:Nat)(a:Addr)(len:Nat):List Val:=(List.range len).map fun i=> .vl (((w.cells? 0 (a.add (i*sz)) sz).getD []).map dd0)
def d12(w:World)(s:Sh)(v:Value):Val:=match s,v with
 | .col _,v=>dd0 v
 | .sl sig,.slice (some a) len _=> .vl (br6 w sig.length a len)
 |_,_=> .vl []
def de9(sig:List CT)(v:Value):Option Loc:=match v with
 | .slice (some a) len _=>if 0<len then some ⟨a.block,a.off,len*sig.length⟩else none
 |_=>none
def nSl:Sh→Nat
 | .sl _=>1
 | .col _=>0
def dt1(n b:Nat):Sh→AV
 | .col (.int k)=> .oint k (.va n)
 | .col .str=> .ostr (.va n)
 | .col .bool=> .obool (.va n)
 | .sl sig=> .osl b (.ci 0) (.op .llen [.va n]) sig.length
def c21:List Sh→Nat→Nat→List AV
 | [],_,_=>[]
 |s::r,n,b=>dt1 n b s::c21 r (n+1) (b+nSl s)
def aw0:List Sh→Nat→List Blk
 | [],_=>[]
 | .sl sig::r,n=> .arr aB0 sig (.va n)::aw0 r (n+1)
 | .col _::r,n=>aw0 r (n+1)
def az1:List Sh→List Value→List (Option Loc)
 | .sl sig::r,v::vs=>de9 sig v::az1 r vs
 | .col _::r,_::vs=>az1 r vs
 |_,_=>[]
theorem c22{a:Addr}{n:Nat}{vs:List Value}(h:w.cells? 0 a n=some vs):vs.length=n∧ ∀j,j<n→w.cell? (a.add j)=vs[j]? :=by
 unfold World.cells? at h
 rw[if_pos (m7 _)]at h
 have: ∀(l:List Nat) (vs:List Value),(l.mapM fun i=>w.cell? (a.add i))=some vs→vs.length=l.length∧ ∀j (hj:j<l.length),w.cell? (a.add l[j])=vs[j]? :=by
  intro l
  induction l with
  |nil=>intro vs h;simp at h;subst h;exact⟨rfl,fun j hj=>by simp at hj⟩
  |cons x l ih=>
   intro vs h
   rw[C0]at h
   simp only[Option.bind_eq_bind,j9,Option.pure_def,d5]at h
   obtain⟨y,hy,ys,hys,rfl⟩:=h
   obtain⟨h1,h2⟩:=ih ys hys
   refine⟨by simp[h1],fun j hj=> ?_⟩
   cases j with
   |zero=>simpa using hy
   |succ j=>simpa using h2 j (by simpa using hj)
 obtain⟨h1,h2⟩:=this _ _ h
 rw[D5]at h1
 exact⟨h1,fun j hj=>by
  have:=h2 j (by rw[D5];exact hj)
  rwa[List.getElem_range]at this⟩
theorem bH1{a:Addr}{k:Nat}{v:Value}(h:w.cell? (a.add k)=some v): ∃C e lo hi,w.heap[a.block]? =some (.cells C e (lo,hi))∧C[a.off+k]? =some v∧(k=0→a.spot=none):=by
 have hb:(a.add k).block=a.block:=by unfold Addr.add;split<;>rfl
 have ho:(a.add k).off=a.off+k:=by unfold Addr.add;split<;>simp_all
 unfold World.cell? at h
 rw[hb,ho]at h
 split at h
 ·rename_i C e fr hh
  split at h
  ·cases h
  ·rename_i hs
   refine⟨C,e,fr.1,fr.2,hh,h,fun hk=> ?_⟩
   subst hk
   simpa[Addr.add]using hs
 ·cases h
theorem cQ6: ∀{sig:List CT} {vs:List Value} {j:Nat},dt0 sig vs→j<sig.length→ ∃u,vs[j]? =some u∧av8 (sig.getD j .bool) (dd0 u)=u
 |c::s,vs,0,⟨v,r,e,h,_⟩,_=>by
  refine⟨v,by rw[e];rfl,?_⟩
  cases c with
  |int k=>obtain⟨n,rfl,_⟩:=h;rfl
  |str=>obtain⟨n,rfl⟩:=h;simp[av8,dd0,Val.toS]
  |bool=>obtain⟨n,rfl⟩:=h;rfl
 |c::s,vs,j+1,⟨v,r,e,_,h⟩,hj=>by
  obtain⟨u,h1,h2⟩:=cQ6 (sig:=s) (vs:=r) (j:=j) h (by simpa using hj)
  exact⟨u,by rw[e];simpa using h1,by simpa using h2⟩
 | [],_,_,_,hj=>by simp at hj
theorem df0{β:Bij}{ω:Opq}{sig:List CT}{a:Addr}{len n:Nat}(h0:0<len)(hs:0<sig.length)(hc: ∀i,i<len→ ∃vs,w.cells? 0 (a.add (i*sig.length)) sig.length=some vs∧dt0 sig vs)
 (hf: ∀j,j<len*sig.length→w.frozen? ⟨a.block,a.off+j,none⟩=false) (hw:ω.w n= .vl (br6 w sig.length a len)):BR β ω ⟨a.block,a.off,len*sig.length⟩ w.heap[a.block]? (.arr aB0 sig (.va n)):=by
 have hcell: ∀i j,i<len→j<sig.length→ ∃u C e lo hi,w.heap[a.block]? =some (.cells C e (lo,hi))∧C[a.off+(i*sig.length+j)]? =some u∧av8 (sig.getD j .bool) ((((br6 w sig.length a len).getD i (.vl [])).toL).getD j default)=u:=by
  intro i j hi hj
  obtain⟨vs,h1,h2⟩:=hc i hi
  obtain⟨h3,h4⟩:=c22 h1
  obtain⟨u,h5,h6⟩:=cQ6 h2 hj
  have h7:=h4 j hj
  rw[h5]at h7
  have hadd:(a.add (i*sig.length)).add j=a.add (i*sig.length+j)∨True:= .inr trivial
  obtain⟨C,e,lo,hi',h8,h9,_⟩:=bH1 h7
  have hb:(a.add (i*sig.length)).block=a.block:=by unfold Addr.add;split<;>rfl
  have ho:(a.add (i*sig.length)).off=a.off+i*sig.length:=by unfold Addr.add;split<;>simp_all
  rw[hb]at h8
  rw[ho,n5]at h9
  refine⟨u,C,e,lo,hi',h8,h9,?_⟩
  rw[←h6]
  congr 1
  simp only[br6,n6,y5,List.getElem?_range hi,Option.map_some,Option.getD_some,Val.toL,h1,h5]
 obtain⟨_,C,e,lo,hi,hh,_,_⟩:=hcell 0 0 h0 hs
 have hC: ∀i j,i<len→j<sig.length→ ∃u,C[a.off+(i*sig.length+j)]? =some u∧av8 (sig.getD j .bool) ((((br6 w sig.length a len).getD i (.vl [])).toL).getD j default)=u:=by
  intro i j h1 h2
  obtain⟨u,C',e',lo',hi',g1,g2,g3⟩:=hcell i j h1 h2
  rw[hh]at g1
  simp only[d5,Obj.cells.injEq,d9]at g1
  obtain⟨rfl,rfl,rfl,rfl⟩:=g1
  exact⟨u,g2,g3⟩
 have hl:(dL ω (.va n))=br6 w sig.length a len:=by show(ω.w n).toL=_;rw[hw];rfl
 have hlen:(br6 w sig.length a len).length=len:=by simp[br6]
 refine⟨C,e,lo,hi,hh,.inr rfl,?_,by rw[hl,hlen];exact d8 _,fun i v hi'=> ?_,fun i hi'=> ?_⟩
 ·obtain⟨u,h1,_⟩:=hC (len-1) (sig.length-1) (by omega) (by omega)
  have:=(G0.1 h1).1
  have e1:(len-1)*sig.length+sig.length=len*sig.length:=by rw[←Nat.succ_mul];congr 1;omega
  show a.off+len*sig.length≤C.size
  omega
 ·rw[hl]at hi'
  have hlt:i<len*sig.length:=by
   have:=(n9.1 hi').1
   rw[M7,hlen]at this;exact this
  have hq:i/sig.length<len:=Nat.div_lt_of_lt_mul (by rw[Nat.mul_comm];exact hlt)
  have hr:i % sig.length<sig.length:=Nat.mod_lt _ hs
  have hi2:i=i/sig.length*sig.length+i % sig.length:=by rw[Nat.mul_comm];exact(Nat.div_add_mod i sig.length).symm
  obtain⟨u,h1,h2⟩:=hC _ _ hq hr
  rw[hi2,aC5 hr (by rw[hlen];exact hq),h2,d5]at hi'
  show C[a.off+i]? =some v
  rw[hi2,h1,hi']
 ·have:=hf i hi'
  unfold World.frozen? at this
  rw[hh]at this
  simp only[Bool.and_eq_false_iff,decide_eq_false_iff_not]at this
  show¬(lo≤a.off+i∧a.off+i<hi)
  omega
theorem c23{α:Type}{fit:α→Value→Prop}: ∀{s:List α} {vs:List Value} {i:Nat} {a:α} {v:Value},bH0 fit s vs→s[i]? =some a→vs[i]? =some v→fit a v
 |_::_,_,0,_,_,⟨v,r,rfl,h,_⟩,h1,h2=>by
  simp only[List.getElem?_cons_zero,d5]at h1 h2
  subst h1;subst h2;exact h
 |_::_,_,i+1,_,_,⟨v,r,rfl,_,h⟩,h1,h2=>c23 (i:=i) h (by simpa using h1) (by simpa using h2)
 | [],_,_,_,_,_,h1,_=>by simp at h1
theorem br7: ∀{L:List Sh} {vs:List Value} {n:Nat},bH0 (do3 w) L vs→(az1 L vs).length=(aw0 L n).length∧ ∀(j:Nat) (x:Blk),(aw0 L n)[j]? =some x→ ∃sig m v,x= .arr aB0 sig (.va (n+m))∧L[m]? =some (.sl sig)∧vs[m]? =some v∧(az1 L vs)[j]? =some (de9 sig v)
 | [],vs,n,h=>⟨by simp[az1,aw0],fun j x hx=>by simp[aw0]at hx⟩
 | .col c::r,_,n,⟨v,vs,rfl,_,h⟩=>by
   obtain⟨h1,h2⟩:=br7 (n:=n+1) h
   refine⟨h1,fun j x hx=> ?_⟩
   obtain⟨sig,m,v',e1,e2,e3,e4⟩:=h2 j x hx
   exact⟨sig,m+1,v',by rw[e1,n5,v9 1 m],by simpa using e2,by simpa using e3,e4⟩
 | .sl sig::r,_,n,⟨v,vs,rfl,_,h⟩=>by
   obtain⟨h1,h2⟩:=br7 (n:=n+1) h
   refine⟨by simp only[az1,aw0,List.length_cons,h1],fun j x hx=> ?_⟩
   cases j with
   |zero=>
    simp only[aw0,List.getElem?_cons_zero,d5]at hx
    exact⟨sig,0,v,hx.symm,rfl,rfl,rfl⟩
   |succ j=>
    obtain⟨sig',m,v',e1,e2,e3,e4⟩:=h2 j x (by simpa[aw0]using hx)
    exact⟨sig',m+1,v',by rw[e1,n5,v9 1 m],by simpa using e2,by simpa using e3,by simpa[az1]using e4⟩
theorem cq3{sig:List CT}{v:Value}{M:Loc}(e:de9 sig v=some M): ∃a len cap,v= .slice (some a) len cap∧0<len∧M=⟨a.block,a.off,len*sig.length⟩:=by
 unfold de9 at e
 split at e
 ·rename_i a len cap
  split at e
  ·rename_i h
   simp only[d5]at e
   exact⟨a,len,cap,rfl,h,e.symm⟩
  ·cases e
 ·cases e
theorem df1{β:Bij}{ω:Opq}{L:List Sh}{vs:List Value}(hfit:bH0 (do3 w) L vs)(hω: ∀(i:Nat) s v,L[i]? =some s→vs[i]? =some v→ω.w i=d12 w s v)(hβ: ∀b,β b=((az1 L vs)[b]?).getD none)
 {h:Heap} (hn:h.next=(aw0 L 0).length) (hwm:h.wm=(aw0 L 0).length) (hg: ∀b,h.get b=(aw0 L 0)[b]?):HR β ω (· <w.heap.size) w h w:=by
 obtain⟨hlen,hat⟩:=br7 (n:=0) hfit
 have hlt: ∀b x,h.get b=some x→b<(aw0 L 0).length:=fun b x hx=>by
  rw[hg]at hx;exact(n9.1 hx).1
 have harr: ∀b x,h.get b=some x→x.isArr=true:=fun b x hx=>by
  rw[hg]at hx
  obtain⟨sig,m,v,e,_⟩:=hat b x hx
  rw[e];rfl
 have hloc: ∀b M,β b=some M→ ∃sig m a len cap,L[m]? =some (.sl sig)∧vs[m]? =some (.slice (some a) len cap)∧0<len∧M=⟨a.block,a.off,len*sig.length⟩∧(aw0 L 0)[b]? =some (.arr aB0 sig (.va m)):=by
  intro b M hb
  rw[hβ]at hb
  have hb':b<(aw0 L 0).length:=by
   rcases g8 b (az1 L vs).length with hh|hh
   ·omega
   ·rw[j8 hh]at hb;cases hb
  obtain⟨sig,m,v,e1,e2,e3,e4⟩:=hat b _ (j2 hb')
  rw[e4,Option.getD_some]at hb
  obtain⟨a,len,cap,rfl,h0,rfl⟩:=cq3 hb
  exact⟨sig,m,a,len,cap,e2,e3,h0,rfl,by rw[j2 hb',e1,l9]⟩
 have hbr: ∀b x M,h.get b=some x→β b=some M→BR β ω M w.heap[M.blk]? x:=by
  intro b x M hx hb
  obtain⟨sig,m,a,len,cap,h1,h2,h0,rfl,h4⟩:=hloc b M hb
  rw[hg,h4,d5]at hx
  subst hx
  have hf:=c23 hfit h1 h2
  rcases hf with hf|⟨a',len',cap',hf,hs,_,hc,hz⟩
  ·cases hf
  ·simp only[Value.slice.injEq,d5]at hf
   obtain⟨rfl,rfl,rfl⟩:=hf
   exact df0 h0 hs hc hz (hω m _ _ h1 h2)
 refine⟨hbr,fun b b' x x' M M' h1 h2 _ _ _ h5=> ?_,fun b hb=> ?_,fun b hb=> ?_,fun b M hb=> ?_,fun i hi=>hi,fun i _=>rfl,fun b x M h1 h2 _=> ?_,d8 _,rfl,rfl,rfl,d8 _⟩
 ·have q1:=hlt _ _ h1
  have q2:=hlt _ _ h2
  rw[hwm]at h5
  rcases h5 with h5|h5|h5|h5
  ·omega
  ·omega
  ·rw[harr _ _ h1]at h5;cases h5
  ·rw[harr _ _ h2]at h5;cases h5
 ·rw[hn]at hb
  rw[hβ,j8 (by omega)];rfl
 ·rw[hn]at hb
  rw[hg,j8 hb]
 ·obtain⟨sig,m,a,len,cap,h1,h2,h0,rfl,h4⟩:=hloc b M hb
  obtain⟨C,e',lo,hi,hh,_⟩:=hbr b _ _ (by rw[hg];exact h4) hb
  exact(G0.1 hh).1
 ·have:=hlt _ _ h1
  rw[hwm]at h2;omega
theorem cq4{β:Bij}{ω:Opq}: ∀{L:List Sh} {vs:List Value} {n b:Nat},bH0 (do3 w) L vs→(∀(i:Nat) s v,L[i]? =some s→vs[i]? =some v→ω.w (n+i)=d12 w s v)→(∀(j:Nat) x,(az1 L vs)[j]? =some x→β (b+j)=x)→VRs β ω (c21 L n b) vs
 | [],_,_,_,h,_,_=>by rw[h];rfl
 |s::r,_,n,b,⟨v,vs,rfl,hf,h⟩,hω,hβ=>by
  have hv:=hω 0 s v rfl rfl
  rw[Nat.add_zero]at hv
  have hrest:VRs β ω (c21 r (n+1) (b+nSl s)) vs:=by
   refine cq4 h (fun i s' v' h1 h2=> ?_) (fun j x hx=> ?_)
   ·have:=hω (i+1) s' v' (by simpa using h1) (by simpa using h2)
    rw[←this];congr 1;omega
   ·cases s with
    |col c=>exact hβ j x hx
    |sl sig=>
     have:=hβ (j+1) x (by simpa[az1]using hx)
     rw[←this];congr 1;simp only[nSl];omega
  refine⟨v,vs,rfl,?_,hrest⟩
  cases s with
  |col c=>
   cases c with
   |int k=>obtain⟨m,rfl,_⟩:=hf;show Value.int k m= .int k (ω.w n).toI;rw[hv];rfl
   |str=>obtain⟨m,rfl⟩:=hf;show Value.string m= .string ⟨(ω.w n).toS.toArray⟩;rw[hv];simp[d12,dd0,Val.toS]
   |bool=>obtain⟨m,rfl⟩:=hf;show Value.bool m= .bool (ω.w n).toB;rw[hv];rfl
  |sl sig=>
   rcases hf with rfl|⟨a,len,cap,rfl,hs,hlc,hc,hz⟩
   ·refine .inr ⟨none,0,rfl,fun _=>rfl,?_⟩
    show(((ω.w n).toL.length:Nat):Int)=0
    rw[hv];rfl
   ·have hd:dI ω (.op .llen [.va n])=(len:Int):=by
     show(((ω.w n).toL.length:Nat):Int)=len
     rw[hv];simp[d12,br6,Val.toL]
    by_cases h0:0<len
    ·refine .inl ⟨⟨a.block,a.off,len*sig.length⟩,cap,a,?_,by rw[hd];rfl,by rw[hd];exact hlc.1,fun _=> ?_⟩
     ·have:=hβ 0 (some ⟨a.block,a.off,len*sig.length⟩) (by simp[az1,de9,h0])
      exact this
     ·obtain⟨us,h1,h2⟩:=hc 0 h0
      obtain⟨h3,h4⟩:=c22 h1
      have h5:=h4 0 hs
      rw[j2 (by omega)]at h5
      have e0:(a.add (0*sig.length)).add 0=a.add 0:=by simp[Addr.add]
      rw[e0]at h5
      obtain⟨_,_,_,_,_,_,h6⟩:=bH1 h5
      show a=⟨a.block,a.off+(dI ω (.ci 0)).toNat*sig.length,none⟩
      have:(dI ω (.ci 0)).toNat=0:=rfl
      rw[this,A5,Nat.add_zero,←h6 rfl]
    ·obtain rfl:len=0:=by omega
     exact .inr ⟨some a,cap,rfl,fun hh=>(by cases hh),hd⟩
def c24(F:Nat→List Val→Val)(P:Program)(w:World)(L:List Sh)(cells:List Value):Opq:=⟨fun _=> .bool false,fun n=>d12 w (L.getD n (.col .bool)) (cells.getD n (.bool false)),F,fun _=>rfl,fun t=>aJ8 P t⟩
def br8(r:Res):Option (SX×AV):=match r with
 | .val v _=>some (.cb true,v)
 | .need e v _=>some (e,v)
 |_=>none
theorem c98{r:Res}{e:SX}{v:AV}{ω:Opq}(h:br8 r=some (e,v))(hd:dB ω e=true): ∃h',r= .val v h'∨ ∃x,r= .need x v h'∧dB ω x=true:=by
 unfold br8 at h
 split at h
 ·simp only[d5,d9]at h
  obtain⟨_,rfl⟩:=h
  exact⟨_,.inl rfl⟩
 ·simp only[d5,d9]at h
  obtain⟨rfl,rfl⟩:=h
  exact⟨_,.inr ⟨_,rfl,hd⟩⟩
 ·cases h
theorem d13{E:Env}{F:Nat→List Val→Val}{x:HC}(hx:S7 E (OmF F E.P) x)(ho:cz4 x.c x.nv=true){L:List Sh}{cells:List Value}(hfit:bH0 (do3 w) L cells)(hb:x.c.blks=aw0 L 0)(hmt:x.c.mt=x.c.blks.length)
 {us:List Value} (hus: ∀β ω,VRs β ω (c21 L 0 0) cells→VRs β ω x.c.args us) {e:SX} (he:br8 (a89 x.c x.nv x.c.args x.c.heap)=some (e,.obool (.cb true))) (hd:dB (c24 F E.P w L cells) e=true):
 Calls E.P x.f us.toArray w (fun e w'=>e= .returned (.bool true)∧RowKit.Below w.heap.size w w'):=by
 obtain⟨h',hh⟩:=c98 he hd
 obtain⟨hn,hwm,a29⟩:=x.c.heap_ok (co8 ho).lt
 have hl:=aS1 hfit
 have hω: ∀(i:Nat) s v,L[i]? =some s→cells[i]? =some v→(c24 F E.P w L cells).w i=d12 w s v:=fun i s v h1 h2=>by
  show d12 w (L.getD i (.col .bool)) (cells.getD i (.bool false))=_
  rw[n6,h1,n6,h2];rfl
 have hr:HR (fun b=>((az1 L cells)[b]?).getD none) (c24 F E.P w L cells) (· <w.heap.size) w x.c.heap w:=
  df1 hfit hω (fun _=>rfl) (by rw[hn,hb]) (by rw[hwm,hmt,hb]) (fun b=>by rw[a29,hb])
 have hv:=hus _ _ (cq4 (β:=fun b=>((az1 L cells)[b]?).getD none) (ω:=c24 F E.P w L cells) (n:=0) (b:=0) hfit (fun i s v h1 h2=>by rw[l9];exact hω i s v h1 h2) (fun j y hy=>by
   show((az1 L cells)[0+j]?).getD none=y
   rw[l9,hy];rfl))
 refine Calls.mono (hx _ ⟨rfl,fun _=>rfl⟩ _ _ _ _ hh (· <w.heap.size) w _ w us hr hv) ?_
 rintro e' w' ⟨u,β',rfl,h1,h3,_⟩
 exact⟨by rw[show u= .bool true from h1],h3.os,h3.tape,h3.out,h3.size,h3.keep⟩
end
end Go.Ev
