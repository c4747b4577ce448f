import Derived.Test.YtdbiooidpgafaaaGreatEL3
import Derived.Test.YtdbiooidpgafaaaGreatEM1
set_option linter.unusedSimpArgs false
set_option linter.unusedVariables false
namespace Go.Ev.S9
open Go Go.Ev
def rA(r:Val):Tb.Ag:=(ci r 3,ci r 4,ci r 5,ci r 6)
def lkP(m:List Val)(p:PaneM):Option Tb.Ag:=(m.find? fun r=>decide (Q5 r=p)).map rA
def lk(m:List Val)(k:List UInt8)(s e:Int):Option Tb.Ag:=lkP m ⟨k,s,e⟩
def set1(m:List Val)(r:Val):List Val:=bif aU0 m (a23 r)then m.set (a58 m (a23 r)) (a30 r)else m++[a30 r]
def bK3(m:List Val)(p:Val):List Val:=m.eraseIdx (a58 m (a23 p))
theorem cx8(r p:Val):keq [.str,.int .i64,.int .i64] r p=decide (Q5 r=Q5 p):=by
 show(decide ((Q9 p 0).toS=(Q9 r 0).toS)&&(decide ((Q9 p 1).toI=(Q9 r 1).toI)&&(decide ((Q9 p 2).toI=(Q9 r 2).toI)&&true)))=_
 rw[A4,v7]
 simp only[e9,decide_eq_true_eq,Q5,PaneM.mk.injEq]
 constructor
 ·rintro⟨a,b,c⟩;exact⟨a.symm,b.symm,c.symm⟩
 ·rintro⟨a,b,c⟩;exact⟨a.symm,b.symm,c.symm⟩
theorem bK4(l:List Val)(p:Val):a58 l p=l.findIdx fun r=>decide (Q5 r=Q5 p):=by
  unfold a58
  congr 1
  funext r
  exact cx8 r p
theorem an8(x:Val)(m:List Val)(p:Val):a58 (x::m) p=if Q5 x=Q5 p then 0 else a58 m p+1:=by
 rw[bK4,bK4,List.findIdx_cons]
 by_cases h:Q5 x=Q5 p
 ·rw[if_pos h,decide_eq_true h];rfl
 ·rw[if_neg h,decide_eq_false h];rfl
theorem al4(x:Val)(m:List Val)(p:Val):aU0 (x::m) p=(decide (Q5 x=Q5 p)||aU0 m p):=by
 unfold aU0
 rw[an8]
 by_cases h:Q5 x=Q5 p
 ·rw[if_pos h,decide_eq_true h];simp
 ·rw[if_neg h,decide_eq_false h];simp
theorem dm1(x:Val)(m:List Val)(n:Nat):atV (x::m) (n+1)=atV m n:=rfl
theorem aT2(x:Val)(m:List Val)(p:Val)(j:Nat):aZ5 (x::m) p j=if Q5 x=Q5 p then Q9 x j else aZ5 m p j:=by
 unfold aZ5
 rw[al4,an8]
 by_cases h:Q5 x=Q5 p
 ·rw[if_pos h,if_pos h,decide_eq_true h];rfl
 ·rw[if_neg h,if_neg h,decide_eq_false h,y5,dm1]
theorem a40(x:Val)(m:List Val)(p:PaneM):lkP (x::m) p=if Q5 x=p then some (rA x)else lkP m p:=by
 unfold lkP
 rw[List.find?_cons]
 by_cases h:Q5 x=p
 ·rw[if_pos h,decide_eq_true h];rfl
 ·rw[if_neg h,decide_eq_false h]
theorem cS8(p:PaneM):lkP [] p=none:=rfl
theorem aT3(x:Val)(m:List Val)(r:Val):set1 (x::m) r=if Q5 x=Q5 r then a30 r::m else x::set1 m r:=by
 unfold set1
 rw[al4,an8]
 have e:Q5 (a23 r)=Q5 r:=rfl
 rw[e]
 by_cases h:Q5 x=Q5 r
 ·rw[if_pos h,if_pos h,decide_eq_true h];rfl
 ·rw[if_neg h,if_neg h,decide_eq_false h,y5]
  cases aU0 m (a23 r)<;>rfl
theorem ba1(r:Val):set1 [] r=[a30 r]:=rfl
theorem cg7(x:Val)(m:List Val)(r:Val):bK3 (x::m) r=if Q5 x=Q5 r then m else x::bK3 m r:=by
 unfold bK3
 rw[an8]
 have e:Q5 (a23 r)=Q5 r:=rfl
 rw[e]
 by_cases h:Q5 x=Q5 r
 ·rw[if_pos h,if_pos h];rfl
 ·rw[if_neg h,if_neg h];rfl
theorem aI7(r:Val)(p:PaneM): ∀m:List Val,lkP (set1 m r) p=if Q5 r=p then some (rA r)else lkP m p
 | []=>by rw[ba1,a40];rfl
 |x::m=>by
  rw[aT3]
  by_cases h:Q5 x=Q5 r
  ·rw[if_pos h,a40,a40]
   have e:Q5 (a30 r)=Q5 r:=rfl
   rw[e,h]
   by_cases h2:Q5 r=p
   ·rw[if_pos h2,if_pos h2];rfl
   ·rw[if_neg h2,if_neg h2,if_neg h2]
  ·rw[if_neg h,a40,a40,aI7 r p m]
   by_cases h2:Q5 x=p
   ·rw[if_pos h2,if_pos h2,if_neg (fun h3=>h (h2.trans h3.symm))]
   ·rw[if_neg h2,if_neg h2]
theorem ba2(r:Val): ∀m:List Val,∀x∈set1 m r,x∈m∨x=a30 r
 | [],x,h=>by rw[ba1,o7]at h;exact .inr h
 |y::m,x,h=>by
  rw[aT3]at h
  by_cases c:Q5 y=Q5 r
  ·rw[if_pos c]at h
   rcases k5.1 h with h|h
   ·exact .inr h
   ·exact .inl (n8 _ h)
  ·rw[if_neg c]at h
   rcases k5.1 h with h|h
   ·exact .inl (by rw[h];exact r8 ..)
   ·rcases ba2 r m x h with h|h
    ·exact .inl (n8 _ h)
    ·exact .inr h
theorem cg8(r:Val): ∀m:List Val,(m.map Q5).Nodup→((set1 m r).map Q5).Nodup
 | [],h=>by rw[ba1];simp
 |y::m,h=>by
  rw[k6,B2]at h
  rw[aT3]
  by_cases c:Q5 y=Q5 r
  ·rw[if_pos c,k6,B2]
   have e:Q5 (a30 r)=Q5 y:=c.symm
   rw[e];exact h
  ·rw[if_neg c,k6,B2]
   refine⟨fun hm=> ?_,cg8 r m h.2⟩
   obtain⟨x,hx,e⟩:=j6.1 hm
   rcases ba2 r m x hx with q|q
   ·exact h.1 (j6.2 ⟨x,q,e⟩)
   ·subst q;exact c e.symm
theorem bK5(p:Val)(m:List Val):(bK3 m p).Sublist m:=List.eraseIdx_sublist _ _
theorem cx9{m:List Val}{p:PaneM}(h:p∉m.map Q5):lkP m p=none:=by
 unfold lkP
 rw[P0.2 fun x hx=> ?_]
 ·rfl
 ·rw[decide_eq_true_eq]
  exact fun e=>h (j6.2 ⟨x,hx,e⟩)
theorem bK6(r:Val)(p:PaneM): ∀m:List Val,(m.map Q5).Nodup→lkP (bK3 m r) p=if Q5 r=p then none else lkP m p
 | [],h=>by
   have e:bK3 [] r=[]:=rfl
   rw[e,cS8];simp
 |x::m,h=>by
  rw[k6,B2]at h
  rw[cg7]
  by_cases c:Q5 x=Q5 r
  ·rw[if_pos c,a40]
   by_cases d:Q5 r=p
   ·rw[if_pos d,cx9 (by rw[←d,←c];exact h.1)]
   ·rw[if_neg d,if_neg (by rw[c];exact d)]
  ·rw[if_neg c,a40,a40,bK6 r p m h.2]
   by_cases d:Q5 r=p
   ·rw[if_pos d,if_pos d,if_neg (by rw[←d];exact c)]
   ·rw[if_neg d,if_neg d]
theorem aI8{m:List Val}{p:PaneM}{a:Tb.Ag}(h:lkP m p=some a): ∃r∈m,Q5 r=p∧rA r=a:=by
 unfold lkP at h
 obtain⟨r,h1,h2⟩:=l5.1 h
 exact⟨r,List.mem_of_find?_eq_some h1,of_decide_eq_true (p:=Q5 r=p) (by simpa using List.find?_some h1),h2⟩
theorem aT4: ∀{m:List Val} {r:Val},(m.map Q5).Nodup→r∈m→lkP m (Q5 r)=some (rA r)
 | [],r,_,h=>absurd h (B1)
 |x::m,r,hn,h=>by
  rw[k6,B2]at hn
  rw[a40]
  rcases k5.1 h with rfl|h
  ·rw[if_pos rfl]
  ·rw[if_neg fun e=>hn.1 (j6.2 ⟨r,h,e.symm⟩)]
   exact aT4 hn.2 h
theorem ay9{p:Val}{a:Tb.Ag}: ∀{m:List Val},lkP m (Q5 p)=some a→ ∃r∈m,Q5 r=Q5 p∧rA r=a∧aU0 m p=true∧ ∀j,aZ5 m p j=Q9 r j
 | [],h=>by cases h
 |x::m,h=>by
  rw[a40]at h
  by_cases c:Q5 x=Q5 p
  ·rw[if_pos c]at h
   exact⟨x,r8 ..,c,O0 h,by rw[al4,decide_eq_true c];rfl,fun j=>by rw[aT2,if_pos c]⟩
  ·rw[if_neg c]at h
   obtain⟨r,h1,h2,h3,h4,h5⟩:=ay9 h
   exact⟨r,n8 _ h1,h2,h3,by rw[al4,h4,Bool.or_true],fun j=>by rw[aT2,if_neg c];exact h5 j⟩
theorem aT5{p:Val}: ∀{m:List Val},lkP m (Q5 p)=none→aU0 m p=false∧ ∀j,aZ5 m p j= .vi 0
 | [],h=>⟨rfl,fun j=>rfl⟩
 |x::m,h=>by
  rw[a40]at h
  by_cases c:Q5 x=Q5 p
  ·rw[if_pos c]at h;cases h
  ·rw[if_neg c]at h
   obtain⟨h1,h2⟩:=aT5 h
   exact⟨by rw[al4,h1,decide_eq_false c];rfl,fun j=>by rw[aT2,if_neg c];exact h2 j⟩
theorem az0{l:List Val}{n:Nat}(h:n<l.length):l.take (n+1)=l.take n++[atV l n]:=by
 have e:atV l n=l[n]:=by simp[atV,i6,h]
 rw[e,M0]
theorem cg9(m R:List Val): ∀n,n≤R.length→an6 (.vl m) R n= .vl ((R.take n).foldl set1 m)
 |0,_=>rfl
 |n+1,h=>by
  rw[az0 (by omega),P3]
  unfold an6
  rw[cg9 m R n (by omega)]
  show(bif aU0 ((R.take n).foldl set1 m) (a23 (atV R n))then Val.vl (((R.take n).foldl set1 m).set (a58 ((R.take n).foldl set1 m) (a23 (atV R n))) (a30 (atV R n)))else Val.vl (((R.take n).foldl set1 m)++[a30 (atV R n)]))=Val.vl (set1 ((R.take n).foldl set1 m) (atV R n))
  unfold set1
  cases aU0 ((R.take n).foldl _ m) (a23 (atV R n))<;>rfl
theorem bK7(m R:List Val):an6 (.vl m) R R.length= .vl (R.foldl set1 m):=by
 rw[cg9 m R R.length (e8 _),B0]
theorem ch0(m R:List Val): ∀n,n≤R.length→at2 (.vl m) R n= .vl ((R.take n).foldl bK3 m)
 |0,_=>rfl
 |n+1,h=>by
  rw[az0 (by omega),P3]
  unfold at2
  rw[ch0 m R n (by omega)]
  rfl
theorem cy0(m R:List Val):at2 (.vl m) R R.length= .vl (R.foldl bK3 m):=by
 rw[ch0 m R R.length (e8 _),B0]
theorem by4{p:PaneM}: ∀(R m:List Val),p∉R.map Q5→lkP (R.foldl set1 m) p=lkP m p
 | [],m,h=>rfl
 |r::R,m,h=>by
  rw[k6,k5]at h
  rw[List.foldl_cons,by4 R _ (fun x=>h (.inr x)),aI7,if_neg fun e=>h (.inl e.symm)]
theorem ba3{r:Val}: ∀(R m:List Val),(R.map Q5).Nodup→r∈R→lkP (R.foldl set1 m) (Q5 r)=some (rA r)
 | [],m,_,h=>absurd h (B1)
 |x::R,m,hn,h=>by
  rw[k6,B2]at hn
  rw[List.foldl_cons]
  rcases k5.1 h with rfl|h
  ·rw[by4 R _ hn.1,aI7,if_pos rfl]
  ·exact ba3 R _ hn.2 h
theorem ba4: ∀(R m:List Val),∀x∈R.foldl set1 m,x∈m∨ ∃r∈R,x=a30 r
 | [],m,x,h=> .inl h
 |r::R,m,x,h=>by
  rcases ba4 R (set1 m r) x h with h|⟨y,h1,h2⟩
  ·rcases ba2 r m x h with h|h
   ·exact .inl h
   ·exact .inr ⟨r,r8 ..,h⟩
  ·exact .inr ⟨y,n8 _ h1,h2⟩
theorem by5: ∀(R m:List Val),(m.map Q5).Nodup→((R.foldl set1 m).map Q5).Nodup
 | [],m,h=>h
 |r::R,m,h=>by5 R _ (cg8 r m h)
theorem ba5: ∀(G m:List Val),(G.foldl bK3 m).Sublist m
 | [],m=>List.Sublist.refl _
 |g::G,m=>(ba5 G (bK3 m g)).trans (bK5 g m)
theorem cS9(G m:List Val)(h:(m.map Q5).Nodup):((G.foldl bK3 m).map Q5).Nodup:=h.sublist ((ba5 G m).map _)
theorem ch1(p:PaneM): ∀(G m:List Val),(m.map Q5).Nodup→lkP (G.foldl bK3 m) p=if p∈G.map Q5 then none else lkP m p
 | [],m,h=>by simp
 |g::G,m,h=>by
  rw[List.foldl_cons,ch1 p G _ (h.sublist ((bK5 g m).map _)),bK6 g p m h,k6]
  by_cases c:p∈G.map Q5
  ·rw[if_pos c,if_pos (n8 _ c)]
  ·rw[if_neg c]
   by_cases d:Q5 g=p
   ·rw[if_pos d,if_pos (by rw[d];exact r8 ..)]
   ·rw[if_neg d,if_neg fun hm=>(k5.1 hm).elim (fun e=>d e.symm) c]
end Go.Ev.S9
namespace Go.Ev.S9
open Go Go.Ev
def agV(a:Tb.Ag):Val:= .vl [.vi a.1,.vi a.2.1,.vi a.2.2.1,.vi a.2.2.2]
def inA(a:Tb.Ag):Prop:=inI a.1∧inI a.2.1∧inI a.2.2.1∧inI a.2.2.2
theorem dm2:inI 0:=⟨by decide,by decide⟩
theorem cT0:inI 1:=⟨by decide,by decide⟩
theorem bK8{g g':Nat→List Val}: ∀n,(∀k,k<n→g k=g' k)→Y2 g n=Y2 g' n
 |0,_=>rfl
 |n+1,h=>by rw[Y2,Y2,bK8 n (fun k hk=>h k (by omega)),h n (by omega)]
theorem bm9(L:List Val): ∀n,n≤L.length→cS7 (fun k=>ci (atV L k) 0) n=Tb.sumI ((L.take n).map fun r=>ci r 0)
 |0,_=>rfl
 |n+1,h=>by
  rw[az0 (by omega),o9,Tb.sumI_app,←bm9 L n (by omega)]
  show _+_=_+(ci (atV L n) 0+0)
  rw[M3]
theorem cy1(L:List Val):cS7 (fun k=>ci (atV L k) 0) L.length=Tb.sumI (L.map fun r=>ci r 0):=by
  rw[bm9 L _ (e8 _),B0]
theorem ch2{L:List Val}(hL: ∀r∈L,inI (ci r 0))(hn:L.length≤1000000)(h:aV6 L=0):inI (Tb.sumI (L.map fun r=>ci r 0))∧cd6 L=Tb.sumI (L.map fun r=>ci r 0):=by
  have hg: ∀k,inI (ci (atV L k) 0):=fun k=>by
   by_cases c:k<L.length
   ·have e:atV L k=L[k]:=by simp[atV,i6,c]
    rw[e];exact hL _ (A7 c)
   ·have e:atV L k= .vl []:=by simp[atV,i6,l8 (C7.1 c)]
    rw[e];exact dm2
  obtain⟨h1,h2⟩:=cg6 hg hn
  rw[cy1]at h1 h2
  have h0:(ao4 (fun k=>ci (atV L k) 0) L.length).2=0:=by
    unfold aV6 aD5 at h
    by_cases c:(ao4 (fun k=>ci (atV L k) 0) L.length).2=0
    ·exact c
    ·rw[if_neg c]at h;cases h
  refine⟨h1.1 h0,?_⟩
  unfold cd6 aD5
  rw[if_pos h0]
  exact h2 h0
theorem ch3{gs:List Tb.Ag}(x:Tb.Ag)(h:gs≠[]):Tb.agAll (gs++[x])=Tb.ag2 (Tb.agAll gs) x:=by
 cases gs with
 |nil=>exact absurd rfl h
 |cons a l=>
  show(l++[x]).foldl Tb.ag2 a=_
  rw[P3];rfl
theorem bK9: ∀(l:List Tb.Ag) (a:Tb.Ag),(l.foldl Tb.ag2 a).1=a.1+Tb.sumI (l.map (·.1))∧(l.foldl Tb.ag2 a).2.1=a.2.1+Tb.sumI (l.map (·.2.1))
 | [],a=>⟨(M3 _).symm,(M3 _).symm⟩
 |x::l,a=>by
  obtain⟨h1,h2⟩:=bK9 l (Tb.ag2 a x)
  rw[List.foldl_cons,h1,h2]
  refine⟨?_,?_⟩
  ·show a.1+x.1+_=a.1+(x.1+_);omega
  ·show a.2.1+x.2.1+_=a.2.1+(x.2.1+_);omega
theorem bn0{gs:List Tb.Ag}:(Tb.agAll gs).1=Tb.sumI (gs.map (·.1))∧(Tb.agAll gs).2.1=Tb.sumI (gs.map (·.2.1)):=by
 cases gs with
 |nil=>exact⟨rfl,rfl⟩
 |cons a l=>exact bK9 l a
theorem ch4: ∀(l:List Tb.Ag) (a:Tb.Ag),inI a.2.2.1∧inI a.2.2.2→(∀x∈l,inA x)→inI (l.foldl Tb.ag2 a).2.2.1∧inI (l.foldl Tb.ag2 a).2.2.2
 | [],a,h,_=>h
 |x::l,a,h,hl=>by
  refine ch4 l _ ?_ (fun y hy=>hl y (n8 _ hy))
  have hx:=(hl x (r8 ..)).2.2
  show inI (min a.2.2.1 x.2.2.1)∧inI (max a.2.2.2 x.2.2.2)
  unfold inI at*
  omega
theorem cy2{gs:List Tb.Ag}(hne:gs≠[])(h: ∀x∈gs,inA x):inI (Tb.agAll gs).2.2.1∧inI (Tb.agAll gs).2.2.2:=by
 cases gs with
 |nil=>exact absurd rfl hne
 |cons a l=>exact ch4 l a (h a (r8 ..)).2.2 (fun x hx=>h x (n8 _ hx))
theorem ch5{gs:List Tb.Ag}{k:Nat}(h:k<gs.length):atV (gs.map agV) k=agV gs[k]:=by simp[atV,i6,h]
theorem aT6{a:Tb.Ag}(h:1≤a.1):ay4 (agV a)=false:=by
 show ak9 a.1 a.2.1 a.2.2.1 a.2.2.2=false
 unfold ak9
 rw[decide_eq_false (by omega)];rfl
theorem cE6{gs:List Tb.Ag}(hc: ∀a∈gs,1≤a.1∧inA a)(c:Nat): ∀k,k<gs.length→jG (gs.map agV) c k=[.vl [Q9 (atV (gs.map agV) k) c]]:=fun k hk=>by
 unfold jG
 rw[ch5 hk,aT6 (hc _ (A7 hk)).1];rfl
theorem cE7{gs:List Tb.Ag}(hc: ∀a∈gs,1≤a.1∧inA a)(c:Nat):Y2 (jG (gs.map agV) c) (gs.map agV).length=gs.map fun a=> .vl [Q9 (agV a) c]:=by
 rw[bK8 (g':=fun k=>[(fun r=>Val.vl [Q9 r c]) (atV (gs.map agV) k)]) _ (fun k hk=>cE6 hc c k (by simpa using hk))]
 refine(aI5 (fun r=>Val.vl [Q9 r c]) (gs.map agV)).trans ?_
 rw[s7];rfl
theorem ch6{gs:List Tb.Ag}(hc: ∀a∈gs,1≤a.1∧inA a): ∀k,k≤gs.length→(Y2 (jG (gs.map agV) 0) k).length=k
 |0,_=>rfl
 |k+1,h=>by rw[Y2,j9,ch6 hc k (by omega),cE6 hc 0 k (by omega)];rfl
theorem cE8{gs:List Tb.Ag}(hc: ∀a∈gs,1≤a.1∧inA a): ∀k,k<gs.length→ ∃x y,jS (gs.map agV) (k+1)=[x,y,.vi (Tb.agAll (gs.take (k+1))).2.2.1,.vi (Tb.agAll (gs.take (k+1))).2.2.2]
 |0,h=>by
  have e:gs.take 1=[gs[0]]:=by
   rw[←M0 h];rfl
  unfold jS
  rw[ch5 h,aT6 (hc _ (A7 h)).1,ch6 hc 0 (by omega),e,if_pos rfl]
  refine⟨Q9 (agV gs[0]) 0,Q9 (agV gs[0]) 1,?_⟩
  show [Q9 (agV gs[0]) 0,Q9 (agV gs[0]) 1,Val.vi (min gs[0].2.2.1 gs[0].2.2.1),.vi (max gs[0].2.2.2 gs[0].2.2.2)]=[Q9 (agV gs[0]) 0,Q9 (agV gs[0]) 1,Val.vi gs[0].2.2.1,.vi gs[0].2.2.2]
  rw[Int.min_self,Int.max_self]
 |k+1,h=>by
  obtain⟨x,y,e⟩:=cE8 hc k (by omega)
  have e2:gs.take (k+1+1)=gs.take (k+1)++[gs[k+1]]:=(M0 h).symm
  have hne:gs.take (k+1)≠[]:=fun c=>by
   have:=congrArg List.length c
   rw[j0]at this
   have h0:([]:List Tb.Ag).length=0:=rfl
   omega
  rw[e2,ch3 _ hne]
  rw[show jS (gs.map agV) (k+1+1)=(bif ay4 (atV (gs.map agV) (k+1))then jS (gs.map agV) (k+1)else
   (if(Y2 (jG (gs.map agV) 0) (k+1)).length=0 then [Q9 (atV (gs.map agV) (k+1)) 0,Q9 (atV (gs.map agV) (k+1)) 1,.vi (min (ci (atV (gs.map agV) (k+1)) 2) (ci (atV (gs.map agV) (k+1)) 2)),.vi (max (ci (atV (gs.map agV) (k+1)) 3) (ci (atV (gs.map agV) (k+1)) 3))]
    else [(jS (gs.map agV) (k+1)).getD 0 default,(jS (gs.map agV) (k+1)).getD 1 default,.vi (min ((jS (gs.map agV) (k+1)).getD 2 default).toI (ci (atV (gs.map agV) (k+1)) 2)),.vi (max ((jS (gs.map agV) (k+1)).getD 3 default).toI (ci (atV (gs.map agV) (k+1)) 3))]))from rfl]
  rw[ch5 h,aT6 (hc _ (A7 h)).1,ch6 hc (k+1) (by omega),if_neg (by omega),e]
  exact⟨_,_,rfl⟩
theorem cT1{gs:List Tb.Ag}(hc: ∀a∈gs,1≤a.1∧inA a)(hn:gs.length≤1000000)(hne:gs≠[])(h:jE (gs.map agV)=0):
 jR (gs.map agV)=[.vi (Tb.agAll gs).1,.vi (Tb.agAll gs).2.1,.vi (Tb.agAll gs).2.2.1,.vi (Tb.agAll gs).2.2.2]∧inA (Tb.agAll gs):=by
 have hn': ¬(aV6 (jC (gs.map agV))≠0∨aV6 (jT (gs.map agV))≠0):=fun c=>by
  unfold jE at h;rw[if_pos c]at h;cases h
 have e0:aV6 (jC (gs.map agV))=0:=Classical.byContradiction fun c=>hn' (.inl c)
 have e1:aV6 (jT (gs.map agV))=0:=Classical.byContradiction fun c=>hn' (.inr c)
 have c0:jC (gs.map agV)=gs.map fun a=> .vl [Q9 (agV a) 0]:=cE7 hc 0
 have c1:jT (gs.map agV)=gs.map fun a=> .vl [Q9 (agV a) 1]:=cE7 hc 1
 rw[c0]at e0
 rw[c1]at e1
 obtain⟨s1,s2⟩:=ch2 (fun r hr=>by
  obtain⟨a,ha,rfl⟩:=j6.1 hr
  exact(hc a ha).2.1) (by simpa using hn) e0
 obtain⟨s3,s4⟩:=ch2 (fun r hr=>by
  obtain⟨a,ha,rfl⟩:=j6.1 hr
  exact(hc a ha).2.2.1) (by simpa using hn) e1
 rw[s7]at s1 s2 s3 s4
 have m1:Tb.sumI (gs.map ((fun r=>ci r 0)∘fun a=>Val.vl [Q9 (agV a) 0]))=(Tb.agAll gs).1:=bn0.1.symm
 have m2:Tb.sumI (gs.map ((fun r=>ci r 0)∘fun a=>Val.vl [Q9 (agV a) 1]))=(Tb.agAll gs).2.1:=bn0.2.symm
 rw[m1]at s1 s2
 rw[m2]at s3 s4
 have hl:0<gs.length:=List.length_pos_iff.2 hne
 obtain⟨x,y,e⟩:=cE8 hc (gs.length-1) (by omega)
 rw[show gs.length-1+1=gs.length by omega,B0]at e
 refine⟨?_,s1,s3,cy2 hne fun x hx=>(hc x hx).2⟩
 unfold jR
 rw[if_neg hn',c0,c1,s2,s4,m7,e]
 rfl
theorem aF0(v:Int):Tb.agOf [v]=(1,v,v,v):=by
 show((1:Int),v+0,v,v)=_
 rw[M3]
theorem cy3{a:Tb.Ag}{v:Int}(ha:1≤a.1)(hi:inA a)(hv:inI v)(h:jE (pR (.vi a.1) (.vi a.2.1) (.vi a.2.2.1) (.vi a.2.2.2) (.vi v))=0):
 bS2 (.vi a.1) (.vi a.2.1) (.vi a.2.2.1) (.vi a.2.2.2) (.vi v)=[.vi (Tb.ag2 a (Tb.agOf [v])).1,.vi (Tb.ag2 a (Tb.agOf [v])).2.1,.vi (Tb.ag2 a (Tb.agOf [v])).2.2.1,.vi (Tb.ag2 a (Tb.agOf [v])).2.2.2]∧inA (Tb.ag2 a (Tb.agOf [v])):=by
 have e:pR (.vi a.1) (.vi a.2.1) (.vi a.2.2.1) (.vi a.2.2.2) (.vi v)=[a,Tb.agOf [v]].map agV:=by rw[aF0];rfl
 unfold bS2
 rw[if_neg (by rw[h];simp)]
 rw[e]at h⊢
 refine cT1 (fun x hx=> ?_) (by simp) (by simp) h
 rcases k5.1 hx with rfl|hx
 ·exact⟨ha,hi⟩
 ·rw[o7]at hx
  subst hx
  rw[aF0]
  exact⟨y8 _,cT0,hv,hv,hv⟩
theorem cy4{v:Int}(hv:inI v)(h:jE (pR (.vi 0) (.vi 0) (.vi 0) (.vi 0) (.vi v))=0):
 bS2 (.vi 0) (.vi 0) (.vi 0) (.vi 0) (.vi v)=[.vi (Tb.agOf [v]).1,.vi (Tb.agOf [v]).2.1,.vi (Tb.agOf [v]).2.2.1,.vi (Tb.agOf [v]).2.2.2]∧inA (Tb.agOf [v]):=by
 have e1:jC (pR (.vi 0) (.vi 0) (.vi 0) (.vi 0) (.vi v))=jC ([Tb.agOf [v]].map agV):=by rw[aF0];rfl
 have e2:jT (pR (.vi 0) (.vi 0) (.vi 0) (.vi 0) (.vi v))=jT ([Tb.agOf [v]].map agV):=by rw[aF0];rfl
 have e3:jS (pR (.vi 0) (.vi 0) (.vi 0) (.vi 0) (.vi v)) (pR (.vi 0) (.vi 0) (.vi 0) (.vi 0) (.vi v)).length=jS ([Tb.agOf [v]].map agV) ([Tb.agOf [v]].map agV).length:=by rw[aF0];rfl
 have e4:jE (pR (.vi 0) (.vi 0) (.vi 0) (.vi 0) (.vi v))=jE ([Tb.agOf [v]].map agV):=by unfold jE;rw[e1,e2]
 have e5:jR (pR (.vi 0) (.vi 0) (.vi 0) (.vi 0) (.vi v))=jR ([Tb.agOf [v]].map agV):=by unfold jR;rw[e1,e2,e3]
 unfold bS2
 rw[if_neg (by rw[h];simp),e5]
 rw[e4]at h
 refine cT1 (gs:=[Tb.agOf [v]]) (fun x hx=> ?_) (by simp) (by simp) h
 rw[o7]at hx
 subst hx
 rw[aF0]
 exact⟨y8 _,cT0,hv,hv,hv⟩
end Go.Ev.S9
namespace Go.Ev.S9
open Go Go.Ev
def isW(step size:Int)(a b:Int):Prop:=a % step=0∧b=a+size
theorem cT2{step s t a:Int}{n:Nat}(h1:1≤step)(hn:(n:Int)*step=s):(∃j:Nat,j<n∧a=al0 t step-s+step+(j:Int)*step)↔a % step=0∧a≤t∧t<a+s:=by
 have hq:step*(t/step)+t % step=t:=Int.mul_ediv_add_emod t step
 have r1:0≤t % step:=K7 _ (by omega)
 have r2:t % step<step:=K8 _ (by omega)
 generalize t/step=q at hq
 have hd:al0 t step=step*q:=by unfold al0;omega
 rw[hd]
 constructor
 ·rintro⟨j,hj,rfl⟩
  have e:step*q-s+step+(j:Int)*step=step*(q-n+1+j):=by
   rw[←hn,M4,M4,Int.mul_sub,Int.mul_one,F5 (n:Int) step,F5 (j:Int) step]
  have b1:(j:Int)*step≤((n:Int)-1)*step:=O8 (by omega) (by omega)
  have b2:0≤(j:Int)*step:=Int.mul_nonneg (by omega) (by omega)
  rw[Int.sub_mul,hn]at b1
  refine⟨by rw[e];exact Int.mul_emod_right _ _,by omega,by omega⟩
 ·rintro⟨c1,c2,c3⟩
  have ha:step*(a/step)=a:=by
   have:=Int.mul_ediv_add_emod a step;omega
  generalize a/step=c at ha
  have l1:c<q+1:=Int.lt_of_mul_lt_mul_left (a:=step) (by rw[M4];omega) (by omega)
  have l2:q<c+n:=Int.lt_of_mul_lt_mul_left (a:=step) (by rw[M4,F5 step (n:Int)];omega) (by omega)
  refine⟨(c-(q-n+1)).toNat,by omega,?_⟩
  rw[K9 (by omega),Int.sub_mul,G9,Int.sub_mul,F5 c step,F5 q step,hn]
  omega
theorem d89{k s l g:Int}(h:T2 k s l g=true)(h3:k≠3):1≤Z9 k s l∧(aF9 k s l:Int)*Z9 k s l=s∧1≤s∧s≤1048576∧aF9 k s l≤16:=by
 unfold T2 at h
 by_cases h1:k=1
 ·subst h1
  rw[if_pos rfl]at h
  simp only[e9,decide_eq_true_eq]at h
  have e:Z9 1 s l=s:=rfl
  unfold aF9
  rw[e]
  obtain⟨m1,m2⟩:=aI3 (s:=s) (l:=s) (Int.emod_self) (by omega) (by omega)
  have:s/s=1:=Int.ediv_self (by omega)
  refine⟨by omega,m1,by omega,by omega,by rw[this];decide⟩
 ·rw[if_neg h1]at h
  by_cases h2:k=2
  ·subst h2
   rw[if_pos rfl]at h
   simp only[e9,decide_eq_true_eq]at h
   have e:Z9 2 s l=l:=rfl
   unfold aF9
   rw[e]
   obtain⟨m1,m2⟩:=aI3 (s:=s) (l:=l) (by omega) (by omega) (by omega)
   refine⟨by omega,m1,by omega,by omega,by omega⟩
  ·rw[if_neg h2]at h
   simp only[e9,decide_eq_true_eq]at h
   exact absurd h.1.1.1.1 h3
theorem ch7{k s l g:Int}(h:T2 k s l g=true)(h3:k=3):1≤g∧g≤1048576:=by
 subst h3
 unfold T2 at h
 rw[if_neg (by decide),if_neg (by decide)]at h
 simp only[e9,decide_eq_true_eq]at h
 omega
def ofP(st step s:Int)(n:Nat):List (Int×Int):=(List.range n).map fun(j:Nat)=>(st+(j:Int)*step,st+(j:Int)*step+s)
theorem ch8{k s l g t:Int}(h:T2 k s l g=true)(h3:k≠3)(ht:U8 t=true):ofV k s l g (.vi t)=(ofP (al0 t (Z9 k s l)-s+Z9 k s l) (Z9 k s l) s (aF9 k s l)).map fun p=>Val.vl [.vi p.1,.vi p.2]:=by
 unfold ofV
 rw[h,R0,ht]
 simp only[A4,cond_true,if_neg h3]
 rw[Z5]
 unfold ofP
 rw[s7,O9]
 rfl
theorem d90{k s l g t:Int}(h:T2 k s l g=true)(h3:k≠3)(ht:U8 t=true):
 ((ofV k s l g (.vi t)).map Q7).Nodup∧(∀a b,(a,b)∈(ofV k s l g (.vi t)).map Q7↔isW (Z9 k s l) s a b∧a≤t∧t<b)∧ ∀r∈ofV k s l g (.vi t),r= .vl [.vi (Q7 r).1,.vi (Q7 r).2]:=by
 obtain⟨w1,w2,w3,w4,w5⟩:=d89 h h3
 have e:(ofV k s l g (.vi t)).map Q7=ofP (al0 t (Z9 k s l)-s+Z9 k s l) (Z9 k s l) s (aF9 k s l):=by
  rw[ch8 h h3 ht,s7]
  exact List.map_id _
 have hi:=fun a=>cT2 (t:=t) (a:=a) w1 w2
 rw[e]
 refine⟨?_,fun a b=> ?_,fun r hr=> ?_⟩
 ·unfold ofP
  rw[C6,M5]
  refine List.Pairwise.imp (fun {i j} hij e=> ?_) (C6.1 (J8 (n:=aF9 k s l)))
  have e:=congrArg Prod.fst e
  have e:(i:Int)*Z9 k s l=(j:Int)*Z9 k s l:=by simp only at e;omega
  have:=Int.eq_of_mul_eq_mul_right (by omega) e
  exact hij (by omega)
 ·unfold ofP isW
  rw[j6]
  constructor
  ·rintro⟨j,hj,e⟩
   have e1:=congrArg Prod.fst e
   have e2:=congrArg Prod.snd e
   simp only at e1 e2
   obtain⟨c1,c2,c3⟩:=(hi a).1 ⟨j,s9.1 hj,by omega⟩
   exact⟨⟨c1,by omega⟩,c2,by omega⟩
  ·rintro⟨⟨c1,rfl⟩,c2,c3⟩
   obtain⟨j,hj,e⟩:=(hi a).2 ⟨c1,c2,c3⟩
   exact⟨j,s9.2 hj,by rw[←e]⟩
 ·rw[ch8 h h3 ht]at hr
  obtain⟨p,_,rfl⟩:=j6.1 hr
  rfl
def ah3(ks:List UInt8)(a b:Int)(A:Tb.Ag):Val:= .vl [.vs ks,.vi a,.vi b,.vi A.1,.vi A.2.1,.vi A.2.2.1,.vi A.2.2.2]
theorem ch9(ks:List UInt8)(a b:Int)(A:Tb.Ag):Q5 (ah3 ks a b A)=⟨ks,a,b⟩:=rfl
theorem cT3(ks:List UInt8)(a b:Int)(A:Tb.Ag):rA (ah3 ks a b A)=A:=rfl
def nrm(r:Val):Prop:= ∃ks a b A,r=ah3 ks a b A∧ks.length≤1000∧inA A
theorem ci0{r:Val}(h:nrm r):rowS r:=by
 obtain⟨ks,a,b,A,rfl,h1,h2⟩:=h
 exact⟨ks,a,b,_,_,_,_,rfl,h1⟩
abbrev Ev3:=Tb.Evt (List UInt8)
structure TOK (W:Tb.Wd) (evs:List Ev3) (m:List Val):Prop where
 tab:Tb.Tab W evs (lk m)
 nd:(m.map Q5).Nodup
 nrm: ∀r∈m,nrm r
 gap: ∀g,W= .ses g→0<g
theorem TOK.pos{W:Tb.Wd}{evs:List Ev3}{m:List Val}(h:TOK W evs m){k:List UInt8}{s e:Int}{a:Tb.Ag}(ha:lk m k s e=some a):1≤a.1∧inA a∧a=Tb.agOf (Tb.vals evs k s e)∧Tb.Pan W evs k s e:=by
 obtain⟨h1,h2⟩:=(h.tab k s e a).1 ha
 obtain⟨r,hr,_,rfl⟩:=aI8 ha
 obtain⟨ks,x,y,A,rfl,_,hA⟩:=h.nrm r hr
 have hne:=Tb.Pan.ne h.gap h1
 have:=List.length_pos_iff.2 hne
 refine⟨?_,hA,h2,h1⟩
 rw[h2]
 show(1:Int)≤((Tb.vals evs k s e).length:Int)
 omega
theorem d91{W:Tb.Wd}{evs:List Ev3}{m:List Val}(h:TOK W evs m){ks:List UInt8}{a b v:Int}(hv:inI v)(he:tpE m (.vs ks) (.vi v) (.vl [.vi a,.vi b])=0):
 tpR m (.vs ks) (.vi v) (.vl [.vi a,.vi b])=ah3 ks a b (Tb.putA (lk m ks a b) v)∧inA (Tb.putA (lk m ks a b) v):=by
 have hp:Q5 (pnR (.vs ks) (.vl [.vi a,.vi b]))=⟨ks,a,b⟩:=rfl
 unfold tpR tpQ
 unfold tpE at he
 unfold pcA at he⊢
 cases hl:lk m ks a b with
 |none=>
  obtain⟨_,hc⟩:=aT5 (m:=m) (p:=pnR (.vs ks) (.vl [.vi a,.vi b])) (by rw[hp];exact hl)
  rw[hc,hc,hc,hc]at he⊢
  obtain⟨e1,e2⟩:=cy4 hv he
  rw[e1]
  exact⟨rfl,e2⟩
 |some c=>
  obtain⟨q1,q2,_,_⟩:=h.pos hl
  obtain⟨r,hr,_,hA,_,hc⟩:=ay9 (m:=m) (p:=pnR (.vs ks) (.vl [.vi a,.vi b])) (a:=c) (by rw[hp];exact hl)
  obtain⟨k',x,y,A,rfl,_,_⟩:=h.nrm r hr
  have hA:A=c:=hA
  subst hA
  rw[hc,hc,hc,hc]at he⊢
  obtain⟨e1,e2⟩:=cy3 q1 q2 hv he
  have e1:bS2 (Q9 (ah3 k' x y A) 3) (Q9 (ah3 k' x y A) 4) (Q9 (ah3 k' x y A) 5) (Q9 (ah3 k' x y A) 6) (.vi v)=_:=e1
  rw[e1]
  exact⟨rfl,e2⟩
end Go.Ev.S9
namespace Go.Ev.S9
open Go Go.Ev
structure XOk (X:Nat→List Val→Val):Prop where
 x431: ∀l:List Val,(∀r∈l,rowS r)→(X 431 [.vl l]).toB=true
 x491: ∀l:List Val,(l.map Q5).Nodup→(X 491 [.vl l]).toB=true
 x490: ∀l:List Val,(∀r∈l,rowS r)→ ∃l',X 490 [.vl l]= .vl l'∧l'.Perm l
 x490u: ∀l l':List Val,(∀r∈l,rowS r)→l.Perm l'→(l.map Q5).Nodup→X 490 [.vl l]=X 490 [.vl l']
 x3: ∀v:Val,X 3 [v,v]= .vb true
theorem cy5{ek t v:Int}{ks:List UInt8}(h:R8 ek ks t v=0)(h1:ek=1):ks.length≤32∧U8 t=true:=by
 subst h1
 unfold R8 at h
 rw[if_neg (by omega),if_pos rfl]at h
 by_cases q:ks=[]∨32<ks.length
 ·rw[if_pos q]at h;cases h
 ·rw[if_neg q]at h
  refine⟨C7.1 fun c=>q (.inr c),?_⟩
  cases ht:U8 t
  ·rw[ht]at h;cases h
  ·rfl
def w9L(k s l g:Int)(m:List Val)(ek:Int)(ks:List UInt8)(t v:Int):List Val:=[.vi k,.vi s,.vi l,.vi g,.vl m,.vi ek,.vs ks,.vi t,.vi v]
section
variable{X:Nat→List Val→Val}{k s l g ek t v:Int}{m:List Val}{ks:List UInt8}
theorem an9:ao5 (w9L k s l g m ek ks t v)=if R8 ek ks t v≠0 then R8 ek ks t v else if ek≠1 then 2 else if k=3 then seE (.vi g) m (.vs ks) (.vi t) (.vi v)else(tpX m (ofV k s l g (.vi t)) (.vs ks) (.vi v) (.vi 0)).toI:=rfl
theorem ba6:ay5 (w9L k s l g m ek ks t v)=if R8 ek ks t v≠0∨ek≠1 then []else if k=3 then seG (.vi g) m (.vs ks) (.vi t) (.vi v)else []:=rfl
theorem ba7:as8 X (w9L k s l g m ek ks t v)=if R8 ek ks t v≠0∨ek≠1 then .vl []else if k=3 then .vl (seR (.vi g) m (.vs ks) (.vi t) (.vi v))else
 if ao5 (w9L k s l g m ek ks t v)≠0 then .vl []else X 490 [.vl (tpL m (ofV k s l g (.vi t)) (.vs ks) (.vi v) (ofV k s l g (.vi t)).length)]:=rfl
theorem ba8:aU1 X (w9L k s l g m ek ks t v)=if ao5 (w9L k s l g m ek ks t v)≠0 then .vl m else an6 (at2 (.vl m) (ay5 (w9L k s l g m ek ks t v)) (ay5 (w9L k s l g m ek ks t v)).length) (as8 X (w9L k s l g m ek ks t v)).toL (as8 X (w9L k s l g m ek ks t v)).toL.length:=rfl
theorem ci1(h:ao5 (w9L k s l g m ek ks t v)≠0):ay5 (w9L k s l g m ek ks t v)=[]∧as8 X (w9L k s l g m ek ks t v)= .vl []∧aU1 X (w9L k s l g m ek ks t v)= .vl m:=by
 refine⟨?_,?_,by rw[ba8,if_pos h]⟩
 ·rw[ba6]
  by_cases c:R8 ek ks t v≠0∨ek≠1
  ·rw[if_pos c]
  ·rw[if_neg c]
   by_cases c3:k=3
   ·rw[if_pos c3]
    rw[an9,if_neg (fun q=>c (.inl q)),if_neg (fun q=>c (.inr q)),if_pos c3]at h
    unfold seG;rw[if_pos h]
   ·rw[if_neg c3]
 ·rw[ba7]
  by_cases c:R8 ek ks t v≠0∨ek≠1
  ·rw[if_pos c]
  ·rw[if_neg c]
   by_cases c3:k=3
   ·rw[if_pos c3]
    rw[an9,if_neg (fun q=>c (.inl q)),if_neg (fun q=>c (.inr q)),if_pos c3]at h
    unfold seR;rw[if_pos h]
   ·rw[if_neg c3,if_pos h]
theorem bL0(h:ao5 (w9L k s l g m ek ks t v)=0):R8 ek ks t v=0∧ek=1:=by
 rw[an9]at h
 by_cases c:R8 ek ks t v≠0
 ·rw[if_pos c]at h;exact absurd h c
 ·rw[if_neg c]at h
  by_cases d:ek≠1
  ·rw[if_pos d]at h;cases h
  ·exact⟨Classical.not_not.1 c,Classical.not_not.1 d⟩
theorem d92(L:List Val):jE L=0∨jE L=30:=by
 unfold jE;split
 ·exact .inr rfl
 ·exact .inl rfl
theorem d93(h0:R8 ek ks t v=0)(h1:ek=1):ao5 (w9L k s l g m ek ks t v)=0∨ao5 (w9L k s l g m ek ks t v)=30:=by
 rw[an9,if_neg (by rw[h0];simp),if_neg (by rw[h1];simp)]
 by_cases c3:k=3
 ·rw[if_pos c3];exact d92 _
 ·rw[if_neg c3]
  unfold tpX
  split
  ·exact d92 _
  ·split<;>exact .inl rfl
theorem aR7{S:List Val}{r:Val}(h:r∈S): ∃i,i<S.length∧atV S i=r:=by
 obtain⟨i,hi,e⟩:=O1 h
 exact⟨i,hi,by simp[atV,i6,hi,e]⟩
theorem cy6(hX:XOk X)(h3:k≠3)(hR:T2 k s l g=true){evs:List Ev3}(hT:TOK (.win (isW (Z9 k s l) s)) evs m)(hv:inI v)(he:ao5 (w9L k s l g m ek ks t v)=0):
 ∃R,as8 X (w9L k s l g m ek ks t v)= .vl R∧ay5 (w9L k s l g m ek ks t v)=[]∧aU1 X (w9L k s l g m ek ks t v)= .vl (R.foldl set1 m)∧R.length≤16∧
  TOK (.win (isW (Z9 k s l) s)) (evs++[(ks,t,v)]) (R.foldl set1 m)∧ ∀r∈R,nrm r∧lkP (R.foldl set1 m) (Q5 r)=some (rA r):=by
 obtain⟨e0,e1⟩:=bL0 he
 obtain⟨k32,ht⟩:=cy5 e0 e1
 have hd: ¬(R8 ek ks t v≠0∨ek≠1):=fun c=>c.elim (fun c=>c e0) (fun c=>c e1)
 obtain⟨p1,p2,p3⟩:=d90 (t:=t) hR h3 ht
 have hlen:=by3 (k:=k) (s:=s) (l:=l) (g:=g) (t:= .vi t) h3
 have hG:ay5 (w9L k s l g m ek ks t v)=[]:=by rw[ba6,if_neg hd,if_neg h3]
 have hx:(tpX m (ofV k s l g (.vi t)) (.vs ks) (.vi v) (.vi 0)).toI=0:=by
  rw[an9,if_neg (fun c=>c e0),if_neg (fun c=>c e1),if_neg h3]at he
  exact he
 have hR0:as8 X (w9L k s l g m ek ks t v)=X 490 [.vl (tpL m (ofV k s l g (.vi t)) (.vs ks) (.vi v) (ofV k s l g (.vi t)).length)]:=by rw[ba7,if_neg hd,if_neg h3,if_neg (by rw[he];simp)]
 have hP:aU1 X (w9L k s l g m ek ks t v)=an6 (.vl m) (as8 X (w9L k s l g m ek ks t v)).toL (as8 X (w9L k s l g m ek ks t v)).toL.length:=by
  rw[ba8,if_neg (by rw[he];simp),hG];rfl
 rw[hP,hR0,hG]
 generalize ofV k s l g (.vi t)=S at*
 obtain⟨t1,t2,t3⟩:=ba0 m S (.vs ks) (.vi v)
 have hK:tpK m S (.vs ks) (.vi v)=S.length:=by
  refine N6 t1 (C7.1 fun c=> ?_)
  unfold tpX at hx
  rw[if_pos c]at hx
  exact t3 c hx
 have hrow: ∀r∈S,tpR m (.vs ks) (.vi v) r=ah3 ks (Q7 r).1 (Q7 r).2 (Tb.putA (lk m ks (Q7 r).1 (Q7 r).2) v)∧inA (Tb.putA (lk m ks (Q7 r).1 (Q7 r).2) v):=fun r hr=>by
  obtain⟨i,hi,e⟩:=aR7 hr
  have hz:=t2 i (by omega)
  rw[e]at hz
  have e2:=p3 r hr
  generalize Q7 r=p at*
  subst e2
  exact d91 hT hv hz
 have hL:tpL m S (.vs ks) (.vi v) S.length=S.map fun r=>ah3 ks (Q7 r).1 (Q7 r).2 (Tb.putA (lk m ks (Q7 r).1 (Q7 r).2) v):=by
  unfold tpL
  refine(aI5 (tpR m (.vs ks) (.vi v)) S).trans ?_
  exact u5 fun r hr=>(hrow r hr).1
 rw[hL]
 have hn: ∀r∈S.map fun r=>ah3 ks (Q7 r).1 (Q7 r).2 (Tb.putA (lk m ks (Q7 r).1 (Q7 r).2) v),nrm r:=fun r hr=>by
  obtain⟨x,hx,rfl⟩:=j6.1 hr
  exact⟨_,_,_,_,rfl,by omega,(hrow x hx).2⟩
 obtain⟨R,hq,hp⟩:=hX.x490 _ (fun r hr=>ci0 (hn r hr))
 rw[hq,a75,bK7]
 have hRn: ∀r∈R,nrm r:=fun r hr=>hn r (hp.mem_iff.1 hr)
 have hk:(S.map fun r=>ah3 ks (Q7 r).1 (Q7 r).2 (Tb.putA (lk m ks (Q7 r).1 (Q7 r).2) v)).map Q5=(S.map Q7).map fun p=>(⟨ks,p.1,p.2⟩:PaneM):=by
  rw[s7,s7];rfl
 have hkn:(R.map Q5).Nodup:=by
  refine(hp.map Q5).nodup_iff.2 ?_
  rw[hk,C6,M5]
  refine List.Pairwise.imp (fun {a b} hab e=>hab ?_) (C6.1 p1)
  have e:(⟨ks,a.1,a.2⟩:PaneM)=⟨ks,b.1,b.2⟩:=e
  injection e with _ x y
  exact A3 x y
 have hmem: ∀q:PaneM,q∈R.map Q5↔q.key=ks∧(q.a,q.b)∈S.map Q7:=fun q=>by
  rw[(hp.map Q5).mem_iff,hk,j6]
  constructor
  ·rintro⟨p,h,rfl⟩;exact⟨rfl,h⟩
  ·rintro⟨h1,h2⟩;exact⟨(q.a,q.b),h2,by rw[←h1]⟩
 refine⟨R,rfl,rfl,rfl,?_,⟨?_,by5 R m hT.nd,fun r hr=> ?_,hT.gap⟩,fun r hr=>⟨hRn r hr,ba3 R m hkn hr⟩⟩
 ·rw[hp.length_eq,m7];exact hlen
 ·refine Tb.tab_win (ks,t,v) hT.tab (fun k' a b c=> ?_) (fun k' a b c=> ?_)
  ·obtain⟨rfl,c1,c2,c3⟩:=c
   have hin:(a,b)∈S.map Q7:=(p2 a b).2 ⟨c1,c2,c3⟩
   obtain⟨r,hr,er⟩:=j6.1 hin
   have hr2:ah3 k' a b (Tb.putA (lk m k' a b) v)∈R:=hp.mem_iff.2 (j6.2 ⟨r,hr,by simp only[er]⟩)
   exact ba3 R m hkn hr2
  ·refine by4 R m fun hq=>c ?_
   obtain⟨h1,h2⟩:=(hmem _).1 hq
   obtain⟨c1,c2,c3⟩:=(p2 a b).1 h2
   exact⟨h1,c1,c2,c3⟩
 ·rcases ba4 R m r hr with h|⟨x,hx,rfl⟩
  ·exact hT.nrm r h
  ·obtain⟨a,b,c,d,rfl,h1,h2⟩:=hRn x hx
   exact⟨a,b,c,d,rfl,h1,h2⟩
end
end Go.Ev.S9
namespace Go.Ev.S9
open Go Go.Ev
theorem bn1(y:Int×Int): ∀(x:List (Int×Int)) (a b:Int),Tb.nowOf a b (x++[y])=(min (Tb.nowOf a b x).1 y.1,max (Tb.nowOf a b x).2 y.2)
 | [],a,b=>rfl
 |p::x,a,b=>by
  show Tb.nowOf (min a p.1) (max b p.2) (x++[y])=_
  rw[bn1 y x];rfl
theorem cE9(l:List Val)(t o:Int):jnL l t o=(l.filter fun r=>bS3 t o r).map sp2:=by
 unfold jnL
 rw[Z5]
 refine(aB8 (fun r=>bif bS3 t o r then [sp2 r]else []) (.vl []) l).trans ?_
 induction l with
 |nil=>rfl
 |cons a l ih=>
  rw[x6,ih,s8]
  cases bS3 t o a<;>rfl
theorem cT4(l:List Val)(t g:Int):(jnL l t (t+g)).map Q7=Tb.joinedOf g t (l.map Q7):=by
 rw[cE9,s7]
 show((l.filter fun r=>bS3 t (t+g) r).map Q7)=_
 unfold Tb.joinedOf
 rw[List.filter_map]
 rfl
theorem ci2(l:List Val)(t g:Int): ∀i,i≤l.length→nwV l (.vi t) (.vi (t+g)) i=(.vi (Tb.nowOf t (t+g) (Tb.joinedOf g t ((l.take i).map Q7))).1,.vi (Tb.nowOf t (t+g) (Tb.joinedOf g t ((l.take i).map Q7))).2)
 |0,_=>rfl
 |i+1,h=>by
  rw[show nwV l (.vi t) (.vi (t+g)) (i+1)=(bif bS3 t (t+g) (atV l i)then(Val.vi (min (nwV l (.vi t) (.vi (t+g)) i).1.toI (ci (atV l i) 0)),Val.vi (max (nwV l (.vi t) (.vi (t+g)) i).2.toI (ci (atV l i) 1)))else nwV l (.vi t) (.vi (t+g)) i)from rfl]
  rw[ci2 l t g i (by omega),az0 (by omega),o9]
  have e:Tb.joinedOf g t ((l.take i).map Q7++[Q7 (atV l i)])=Tb.joinedOf g t ((l.take i).map Q7)++(if bS3 t (t+g) (atV l i)then [Q7 (atV l i)]else []):=by
   unfold Tb.joinedOf
   rw[C4]
   congr 1
   rw[s8];rfl
  rw[List.map_singleton,e]
  cases bS3 t (t+g) (atV l i)with
  |false=>simp
  |true=>
   rw[if_pos rfl,bn1];rfl
theorem d94(l:List Val)(t g:Int):nwV l (.vi t) (.vi (t+g)) l.length=(.vi (Tb.nowOf t (t+g) (Tb.joinedOf g t (l.map Q7))).1,.vi (Tb.nowOf t (t+g) (Tb.joinedOf g t (l.map Q7))).2):=by
 rw[ci2 l t g _ (e8 _),B0]
theorem by6{m:List Val}{ks:List UInt8}{r:Val}:r∈spL m ks↔ ∃x∈m,(Q9 x 0).toS=ks∧r= .vl [Q9 x 1,Q9 x 2]:=by
 rw[bK2,B6]
 refine exists_congr fun x=>and_congr_right fun _=> ?_
 unfold spF
 by_cases h:(Q9 x 0).toS=ks
 ·rw[decide_eq_true h];simp[h]
 ·rw[decide_eq_false h];simp[h]
theorem ci3(m:List Val)(ks:List UInt8):(ssV m (.vs ks)).Perm (spL m ks):=(a98 swo_spanV _).1
theorem d95{W:Tb.Wd}{evs:List Ev3}{m:List Val}(h:TOK W evs m)(ks:List UInt8):
 ((ssV m (.vs ks)).map Q7).Nodup∧(∀s e,(s,e)∈(ssV m (.vs ks)).map Q7↔lk m ks s e≠none)∧ ∀r∈ssV m (.vs ks),r= .vl [.vi (Q7 r).1,.vi (Q7 r).2]:=by
 have hp:=ci3 m ks
 refine⟨((hp.map Q7).nodup_iff).2 (cE4 ks h.nd),fun s e=> ?_,fun r hr=> ?_⟩
 ·rw[(hp.map Q7).mem_iff,j6]
  constructor
  ·rintro⟨r,hr,he⟩
   obtain⟨x,hx,rfl,rfl⟩:=by6.1 hr
   obtain⟨k',a,b,A,rfl,_,_⟩:=h.nrm x hx
   have he:(a,b)=(s,e):=he
   cases he
   have:=aT4 h.nd hx
   intro hc
   have hc:lkP m (Q5 (ah3 (Q9 (ah3 k' s e A) 0).toS s e A))=none:=hc
   have hc:lkP m (Q5 (ah3 k' s e A))=none:=hc
   rw[this]at hc;cases hc
  ·intro hn
   cases hl:lk m ks s e with
   |none=>exact absurd hl hn
   |some c=>
    obtain⟨x,hx,hpn,_⟩:=aI8 hl
    obtain⟨k',a,b,A,rfl,_,_⟩:=h.nrm x hx
    have hpn:(⟨k',a,b⟩:PaneM)=⟨ks,s,e⟩:=hpn
    cases hpn
    exact⟨_,by6.2 ⟨_,hx,rfl,rfl⟩,rfl⟩
 ·obtain⟨x,hx,_,rfl⟩:=by6.1 (hp.mem_iff.1 hr)
  obtain⟨k',a,b,A,rfl,_,_⟩:=h.nrm x hx
  rfl
theorem cy7{a b:Val}(h:ci a 1<ci b 1):spanV a b<0:=by
 unfold spanV bS1
 rw[if_pos h];decide
theorem cy8(m:List Val)(ks:List UInt8){i:Nat}(h0:0<i)(hi:i<(ssV m (.vs ks)).length):ci (atV (ssV m (.vs ks)) (i-1)) 1≤ci (atV (ssV m (.vs ks)) i) 1:=by
 have hs:=(a98 swo_spanV (spL m ks)).2
 have hi':i<(a81 spanV (spL m ks)).length:=hi
 have hpw:=K5.1 hs (i-1) i (by omega) hi' (by omega)
 have e1:atV (ssV m (.vs ks)) (i-1)=(a81 spanV (spL m ks))[i-1]:=by
  show atV (a81 spanV (spL m ks)) (i-1)=_
  simp[atV,i6,show i-1<(a81 spanV (spL m ks)).length by omega]
 have e2:atV (ssV m (.vs ks)) i=(a81 spanV (spL m ks))[i]:=by
  show atV (a81 spanV (spL m ks)) i=_
  simp[atV,i6,hi']
 rw[e1,e2]
 exact E7.1 fun hc=>hpw (cy7 hc)
def at0(evs:List Ev3):Prop:= ∀x∈evs,U8 x.2.1=true∧inI x.2.2
theorem at1{t:Int}:U8 t=true↔ -1099511627776≤t∧t≤1099511627776:=by
 unfold U8
 rw[e9,decide_eq_true_eq,decide_eq_true_eq]
theorem d96{g t:Int}{evs:List Ev3}{m:List Val}(hT:TOK (.ses g) evs m)(hev:at0 evs)(ht:U8 t=true)(hg1:1≤g)(hg2:g≤1048576)(ks:List UInt8):ae1 g t (ssV m (.vs ks))=true:=by
 obtain⟨h1,h2,h3⟩:=d95 hT ks
 have hord:=fun {i}=>cy8 m ks (i:=i)
 generalize ssV m (.vs ks)=S at*
 have hs: ∀r∈S,Tb.isS g (Tb.tms evs ks) (Q7 r).1 (Q7 r).2:=fun r hr=>by
  have hm:((Q7 r).1,(Q7 r).2)∈S.map Q7:=j6.2 ⟨r,hr,rfl⟩
  cases hl:lk m ks (Q7 r).1 (Q7 r).2 with
  |none=>exact absurd hl ((h2 _ _).1 hm)
  |some c=>exact(hT.pos hl).2.2.2
 have hb: ∀i,i<S.length→bw9 g S i=false:=fun i hi=>by
  have e:atV S i=S[i]:=by simp[atV,i6,hi]
  have hr:atV S i∈S:=by rw[e];exact A7 hi
  have q:=hs _ hr
  have hb:=q.1.2.2.1
  obtain⟨x1,hx1,_,ex1⟩:=q.1.1
  obtain⟨x2,hx2,_,ex2⟩:=q.1.2.1
  have b1:=at1.1 (hev x1 hx1).1
  have b2:=at1.1 (hev x2 hx2).1
  rw[ex1]at b1
  rw[ex2]at b2
  have s1:(Q7 (atV S i)).1=ci (atV S i) 0:=rfl
  have s2:(Q7 (atV S i)).2=ci (atV S i) 1:=rfl
  rw[s1]at b1
  rw[s2]at b2
  rw[s1,s2]at hb
  have e64:arI .sub .i64 (ci (atV S i) 1) (ci (atV S i) 0)=ci (atV S i) 1-ci (atV S i) 0:=aF8 (by omega) (by omega)
  unfold bw9
  rw[e64,decide_eq_false (by omega),decide_eq_false (by omega: ¬ci (atV S i) 1-ci (atV S i) 0<g),Bool.and_false,y5,y5]
  by_cases h0:0<i
  ·have e':atV S (i-1)=S[i-1]:=by simp[atV,i6,show i-1<S.length by omega]
   have hr':atV S (i-1)∈S:=by rw[e'];exact A7 _
   have q':=hs _ hr'
   have ho:=hord h0 hi
   have b':=q'.1.2.2.1
   rw[decide_eq_true h0,B5]
   refine decide_eq_false fun hc=> ?_
   have s1':(Q7 (atV S (i-1))).1=ci (atV S (i-1)) 0:=rfl
   have s2':(Q7 (atV S (i-1))).2=ci (atV S (i-1)) 1:=rfl
   have:=q'.one q ⟨by rw[s1',s2];omega,by rw[s1,s2'];exact hc⟩
   have hp:=K5.1 (C6.1 h1) (i-1) i (by simp;omega) (by simpa using hi) (by omega)
   rw[List.getElem_map,List.getElem_map,←e,←e']at hp
   exact hp (A3 this.1 this.2)
  ·rw[decide_eq_false h0];rfl
 unfold ae1
 rw[decide_eq_true hg1,decide_eq_true hg2,ht]
 have:(List.range S.length).any (bw9 g S)=false:=by
  rw[N3]
  intro i hi
  rw[hb i (s9.1 hi)];decide
 rw[this];rfl
end Go.Ev.S9
namespace Go.Ev.S9
open Go Go.Ev
def pr(ks:List UInt8)(p:Int×Int):Val:= .vl [.vs ks,.vi p.1,.vi p.2]
section
variable{X:Nat→List Val→Val}{k s l g ek t v:Int}{m:List Val}{ks:List UInt8}
theorem d97(ht:U8 t=true)(hg1:1≤g)(hg2:g≤1048576):bS9 g t= .vi (t+g):=by
 have b:=at1.1 ht
 unfold bS9
 rw[ak8 (by omega) (by omega)]
theorem d98{J:List (Int×Int)}{n1 n2:Int}{x:Val}:x∈goV (J.map (pr ks)) (.vs ks) (.vi n1) (.vi n2)↔ ∃p∈J,p≠(n1,n2)∧x=pr ks p:=by
 have e:goV (J.map (pr ks)) (.vs ks) (.vi n1) (.vi n2)=(J.map (pr ks)).flatMap (goF (.vs ks) (.vi n1) (.vi n2)):=by
  unfold goV
  rw[Z5]
  exact aB8 (goF (.vs ks) (.vi n1) (.vi n2)) (.vl []) (J.map (pr ks))
 rw[e,B6]
 constructor
 ·rintro⟨y,hy,hx⟩
  obtain⟨p,hp,rfl⟩:=j6.1 hy
  refine⟨p,hp,?_⟩
  unfold goF at hx
  have hs:cW2 (.vs ks) (.vi n1) (.vi n2) (pr ks p)=(decide (ks=ks)&&(decide (p.1=n1)&&decide (p.2=n2))):=rfl
  rw[hs]at hx
  by_cases c:p.1=n1∧p.2=n2
  ·rw[decide_eq_true c.1,decide_eq_true c.2,decide_eq_true rfl]at hx;cases hx
  ·have hz:(decide (ks=ks)&&(decide (p.1=n1)&&decide (p.2=n2)))=false:=by simp;omega
   rw[hz]at hx
   have hx:x∈[a23 (pr ks p)]:=hx
   rw[o7]at hx
   exact⟨fun q=>c ⟨by rw[q],by rw[q]⟩,hx⟩
 ·rintro⟨p,hp,hne,rfl⟩
  refine⟨_,j6.2 ⟨p,hp,rfl⟩,?_⟩
  unfold goF
  have hs:cW2 (.vs ks) (.vi n1) (.vi n2) (pr ks p)=(decide (ks=ks)&&(decide (p.1=n1)&&decide (p.2=n2))):=rfl
  have hz:(decide (ks=ks)&&(decide (p.1=n1)&&decide (p.2=n2)))=false:=by
   simp only[Bool.and_eq_false_iff,decide_eq_false_iff_not]
   by_cases c:p.1=n1
   ·exact .inr (.inr fun d=>hne (A3 c d))
   ·exact .inr (.inl c)
  rw[hs,hz]
  exact o7.2 rfl
theorem d99{J:List (Int×Int)}{n1 n2:Int}:(goV (J.map (pr ks)) (.vs ks) (.vi n1) (.vi n2)).length≤J.length:=by
 unfold goV
 have:=a64 (g:=fun i=>goF (.vs ks) (.vi n1) (.vi n2) (atV (J.map (pr ks)) i)) (m:=1) (fun i=>by2 _ _ _ _) (J.map (pr ks)).length
 simpa using this
theorem b71(hk:k=3)(hR:T2 k s l g=true){evs:List Ev3}(hT:TOK (.ses g) evs m)(hm:m.length≤400)(hev:at0 evs)(hv:inI v)(he:ao5 (w9L k s l g m ek ks t v)=0):
 ∃R m',as8 X (w9L k s l g m ek ks t v)= .vl R∧aU1 X (w9L k s l g m ek ks t v)= .vl m'∧R.length≤16∧(ay5 (w9L k s l g m ek ks t v)).length≤400∧
  TOK (.ses g) (evs++[(ks,t,v)]) m'∧(∀r∈R,nrm r∧lkP m' (Q5 r)=some (rA r))∧ ∀p∈ay5 (w9L k s l g m ek ks t v),lkP m' (Q5 p)=none∧ ∃a b,p= .vl [.vs ks,.vi a,.vi b]:=by
 obtain⟨e0,e1⟩:=bL0 he
 obtain⟨k32,ht⟩:=cy5 e0 e1
 obtain⟨hg1,hg2⟩:=ch7 hR hk
 have hd: ¬(R8 ek ks t v≠0∨ek≠1):=fun c=>c.elim (fun c=>c e0) (fun c=>c e1)
 have hio:=d96 hT hev ht hg1 hg2 ks
 obtain⟨s1,s2,s3⟩:=d95 hT ks
 have hsl:(ssV m (.vs ks)).length≤400:=by
  rw[(ci3 m ks).length_eq];exact p7 (b99 m ks) hm
 have hown:=d97 ht hg1 hg2
 have hse:seE (.vi g) m (.vs ks) (.vi t) (.vi v)=0:=by
  rw[an9,if_neg (fun c=>c e0),if_neg (fun c=>c e1),if_pos hk]at he
  exact he
 have hG:ay5 (w9L k s l g m ek ks t v)=seG (.vi g) m (.vs ks) (.vi t) (.vi v):=by rw[ba6,if_neg hd,if_pos hk]
 have hR0:as8 X (w9L k s l g m ek ks t v)= .vl (seR (.vi g) m (.vs ks) (.vi t) (.vi v)):=by rw[ba7,if_neg hd,if_pos hk]
 have hP:aU1 X (w9L k s l g m ek ks t v)=an6 (at2 (.vl m) (seG (.vi g) m (.vs ks) (.vi t) (.vi v)) (seG (.vi g) m (.vs ks) (.vi t) (.vi v)).length) (seR (.vi g) m (.vs ks) (.vi t) (.vi v)) (seR (.vi g) m (.vs ks) (.vi t) (.vi v)).length:=by
  rw[ba8,if_neg (by rw[he];simp),hG,hR0];rfl
 have hjn:jnV (.vi g) m (.vs ks) (.vi t)=(Tb.joinedOf g t ((ssV m (.vs ks)).map Q7)).map fun p=>Val.vl [.vi p.1,.vi p.2]:=by
  unfold jnV
  rw[R0,R0,hio,cond_true]
  unfold siJ
  rw[R0,R0,hown,R0,←cT4,cE9,s7,s7]
  refine u5 fun r hr=> ?_
  have e:=s3 r (n7.1 hr).1
  have e2:(Q9 r 0)= .vi (Q7 r).1:=by rw[e];rfl
  have e3:(Q9 r 1)= .vi (Q7 r).2:=by rw[e];rfl
  show Val.vl [Q9 r 0,Q9 r 1]=Val.vl [.vi (Q7 r).1,.vi (Q7 r).2]
  rw[e2,e3]
 have hnw:nwP (.vi g) m (.vs ks) (.vi t)=[.vi (Tb.nowOf t (t+g) (Tb.joinedOf g t ((ssV m (.vs ks)).map Q7))).1,.vi (Tb.nowOf t (t+g) (Tb.joinedOf g t ((ssV m (.vs ks)).map Q7))).2]:=by
  unfold nwP
  rw[R0,R0,hio,cond_true]
  unfold siN
  rw[R0,R0,hown,d94]
 have hpn:pnV (.vi g) m (.vs ks) (.vi t)=(Tb.joinedOf g t ((ssV m (.vs ks)).map Q7)).map (pr ks):=by
  unfold pnV
  rw[hjn,s7];rfl
 have hjl:(Tb.joinedOf g t ((ssV m (.vs ks)).map Q7)).length≤400:=by
  have h1:=List.length_filter_le (fun p:Int×Int=>Tb.lapB p.1 p.2 t (t+g)) ((ssV m (.vs ks)).map Q7)
  rw[m7]at h1
  exact p7 h1 hsl
 have hjm: ∀p∈Tb.joinedOf g t ((ssV m (.vs ks)).map Q7),∃c,lk m ks p.1 p.2=some c:=fun p hp=>by
  have h1:=(n7.1 hp).1
  cases hl:lk m ks p.1 p.2 with
  |some c=>exact⟨c,rfl⟩
  |none=>exact absurd hl ((s2 p.1 p.2).1 h1)
 have htab:=fun M'=>Tb.tab_ses (g:=g) (by omega) (M':=M') (ks,t,v) hT.tab s2 s1
 have hbase:bJ6 m (pnV (.vi g) m (.vs ks) (.vi t)) (.vi v)=(Tb.agOf [v]::(Tb.joinedOf g t ((ssV m (.vs ks)).map Q7)).map fun p=>(lk m ks p.1 p.2).getD (0,0,0,0)).map agV:=by
  rw[hpn]
  unfold bJ6
  rw[k6,s7,s7,aF0]
  refine congrArg (List.cons _) (u5 fun p hp=> ?_)
  obtain⟨c,hc⟩:=hjm p hp
  show alR m (pr ks p)=agV ((lk m ks p.1 p.2).getD (0,0,0,0))
  rw[hc]
  obtain⟨r,hr,_,hA,_,hcol⟩:=ay9 (m:=m) (p:=a23 (pr ks p)) (a:=c) hc
  obtain⟨k',x,y,A,rfl,_,_⟩:=hT.nrm r hr
  have hA:A=c:=hA
  subst hA
  unfold alR cd7
  rw[hcol,hcol,hcol,hcol];rfl
 have hcs: ∀a∈(Tb.agOf [v]::(Tb.joinedOf g t ((ssV m (.vs ks)).map Q7)).map fun p=>(lk m ks p.1 p.2).getD (0,0,0,0)),1≤a.1∧inA a:=fun a ha=>by
  rcases k5.1 ha with rfl|ha
  ·rw[aF0];exact⟨y8 _,cT0,hv,hv,hv⟩
  ·obtain⟨p,hp,rfl⟩:=j6.1 ha
   obtain⟨c,hc⟩:=hjm p hp
   simp only[hc,Option.getD_some]
   exact⟨(hT.pos hc).1,(hT.pos hc).2.1⟩
 have hje:jE ((Tb.agOf [v]::(Tb.joinedOf g t ((ssV m (.vs ks)).map Q7)).map fun p=>(lk m ks p.1 p.2).getD (0,0,0,0)).map agV)=0:=by
  rw[←hbase];exact hse
 obtain⟨hjr,hia⟩:=cT1 hcs (by simp only[List.length_cons,m7];omega) (by simp) hje
 have hsr:seR (.vi g) m (.vs ks) (.vi t) (.vi v)=[ah3 ks (Tb.nowOf t (t+g) (Tb.joinedOf g t ((ssV m (.vs ks)).map Q7))).1 (Tb.nowOf t (t+g) (Tb.joinedOf g t ((ssV m (.vs ks)).map Q7))).2 (Tb.agAll (Tb.agOf [v]::(Tb.joinedOf g t ((ssV m (.vs ks)).map Q7)).map fun p=>(lk m ks p.1 p.2).getD (0,0,0,0)))]:=by
  unfold seR
  rw[if_neg (by rw[hse];simp),hbase,hnw,hjr];rfl
 have hsg:seG (.vi g) m (.vs ks) (.vi t) (.vi v)=goV ((Tb.joinedOf g t ((ssV m (.vs ks)).map Q7)).map (pr ks)) (.vs ks) (.vi (Tb.nowOf t (t+g) (Tb.joinedOf g t ((ssV m (.vs ks)).map Q7))).1) (.vi (Tb.nowOf t (t+g) (Tb.joinedOf g t ((ssV m (.vs ks)).map Q7))).2):=by
  unfold seG
  rw[if_neg (by rw[hse];simp),hpn,hnw];rfl
 rw[hsg,hsr]at hP
 rw[hsr]at hR0
 rw[hG,hsg,hR0,hP,cy0,bK7]
 clear hP hR0 hG hsr hsg hje hbase hjr hnw hpn hjn hse
 have gm:=fun x=>d98 (ks:=ks) (J:=Tb.joinedOf g t ((ssV m (.vs ks)).map Q7)) (n1:=(Tb.nowOf t (t+g) (Tb.joinedOf g t ((ssV m (.vs ks)).map Q7))).1) (n2:=(Tb.nowOf t (t+g) (Tb.joinedOf g t ((ssV m (.vs ks)).map Q7))).2) (x:=x)
 have gl:=d99 (ks:=ks) (J:=Tb.joinedOf g t ((ssV m (.vs ks)).map Q7)) (n1:=(Tb.nowOf t (t+g) (Tb.joinedOf g t ((ssV m (.vs ks)).map Q7))).1) (n2:=(Tb.nowOf t (t+g) (Tb.joinedOf g t ((ssV m (.vs ks)).map Q7))).2)
 generalize hAA:Tb.agAll (Tb.agOf [v]::(Tb.joinedOf g t ((ssV m (.vs ks)).map Q7)).map fun p=>(lk m ks p.1 p.2).getD (0,0,0,0))=A at*
 have htab: ∀M',(∀s e,(s,e)=Tb.nowOf t (t+g) (Tb.joinedOf g t ((ssV m (.vs ks)).map Q7))→M' ks s e=some A)→(∀s e,(s,e)≠Tb.nowOf t (t+g) (Tb.joinedOf g t ((ssV m (.vs ks)).map Q7))→(s,e)∈Tb.joinedOf g t ((ssV m (.vs ks)).map Q7)→M' ks s e=none)→(∀k s e,k≠ks∨((s,e)≠Tb.nowOf t (t+g) (Tb.joinedOf g t ((ssV m (.vs ks)).map Q7))∧(s,e)∉Tb.joinedOf g t ((ssV m (.vs ks)).map Q7))→M' k s e=lk m k s e)→Tb.Tab (.ses g) (evs++[(ks,t,v)]) M':=htab
 generalize Tb.nowOf t (t+g) (Tb.joinedOf g t ((ssV m (.vs ks)).map Q7))=N at*
 generalize Tb.joinedOf g t ((ssV m (.vs ks)).map Q7)=J at*
 generalize goV (J.map (pr ks)) (.vs ks) (.vi N.1) (.vi N.2)=G at*
 have hlk: ∀q,lkP ([ah3 ks N.1 N.2 A].foldl set1 (G.foldl bK3 m)) q=if(⟨ks,N.1,N.2⟩:PaneM)=q then some A else if q∈G.map Q5 then none else lkP m q:=fun q=>by
  show lkP (set1 (G.foldl bK3 m) (ah3 ks N.1 N.2 A)) q=_
  rw[aI7,ch1 q G m hT.nd,ch9,cT3]
 have hgq: ∀k' a b,(⟨k',a,b⟩:PaneM)∈G.map Q5↔k'=ks∧(a,b)∈J∧(a,b)≠N:=fun k' a b=>by
  rw[j6]
  constructor
  ·rintro⟨x,hx,e⟩
   obtain⟨p,hp,hne,rfl⟩:=(gm x).1 hx
   have e:(⟨ks,p.1,p.2⟩:PaneM)=⟨k',a,b⟩:=e
   cases e
   exact⟨rfl,hp,hne⟩
  ·rintro⟨rfl,h1,h2⟩
   exact⟨pr k' (a,b),(gm _).2 ⟨(a,b),h1,h2,rfl⟩,rfl⟩
 refine⟨_,_,rfl,rfl,by simp,by omega,⟨htab _ (fun a b h=> ?_) (fun a b h1 h2=> ?_) (fun k' a b h=> ?_),?_,fun r hr=> ?_,hT.gap⟩,fun r hr=> ?_,fun p hp=> ?_⟩
 ·show lkP _ ⟨ks,a,b⟩=some A
  rw[hlk,if_pos (by rw[←h])]
 ·show lkP _ ⟨ks,a,b⟩=none
  rw[hlk,if_neg (fun c=>h1 (by injection c with _ x y;exact(A3 x y).symm)),if_pos ((hgq _ _ _).2 ⟨rfl,h2,h1⟩)]
 ·show lkP _ ⟨k',a,b⟩=lkP m ⟨k',a,b⟩
  rw[hlk]
  rcases h with h|⟨h1,h2⟩
  ·rw[if_neg (fun c=>h (by injection c with x;exact x.symm)),if_neg (fun c=>h ((hgq _ _ _).1 c).1)]
  ·rw[if_neg (fun c=>h1 (by injection c with _ x y;exact(A3 x y).symm)),if_neg (fun c=>h2 ((hgq _ _ _).1 c).2.1)]
 ·exact by5 _ _ (cS9 G m hT.nd)
 ·rcases ba4 _ _ r hr with h|⟨x,hx,rfl⟩
  ·exact hT.nrm r ((ba5 G m).subset h)
  ·rw[o7]at hx
   subst hx
   exact⟨ks,N.1,N.2,A,rfl,by omega,hia⟩
 ·rw[o7]at hr
  subst hr
  exact⟨⟨ks,N.1,N.2,A,rfl,by omega,hia⟩,by rw[hlk,ch9,if_pos rfl];rfl⟩
 ·obtain⟨q,h1,h2,rfl⟩:=(gm p).1 hp
  have e:Q5 (pr ks q)=⟨ks,q.1,q.2⟩:=rfl
  refine⟨?_,q.1,q.2,rfl⟩
  rw[hlk,e,if_neg (fun c=>h2 (by injection c with _ x y;exact(A3 x y).symm)),if_pos ((hgq _ _ _).2 ⟨rfl,h1,h2⟩)]
def wdO(k s l g:Int):Tb.Wd:=if k=3 then .ses g else .win (isW (Z9 k s l) s)
theorem ba9(hX:XOk X)(hR:T2 k s l g=true){evs:List Ev3}(hT:TOK (wdO k s l g) evs m)(hm:m.length≤400)(hev:at0 evs)(hv:inI v)(he:ao5 (w9L k s l g m ek ks t v)=0):
 ∃R m',as8 X (w9L k s l g m ek ks t v)= .vl R∧aU1 X (w9L k s l g m ek ks t v)= .vl m'∧R.length≤16∧(ay5 (w9L k s l g m ek ks t v)).length≤400∧
  TOK (wdO k s l g) (evs++[(ks,t,v)]) m'∧(∀r∈R,nrm r∧lkP m' (Q5 r)=some (rA r))∧ ∀p∈ay5 (w9L k s l g m ek ks t v),lkP m' (Q5 p)=none∧ ∃a b,p= .vl [.vs ks,.vi a,.vi b]:=by
 by_cases hk:k=3
 ·have hw:wdO k s l g= .ses g:=if_pos hk
  rw[hw]at hT⊢
  exact b71 hk hR hT hm hev hv he
 ·have hw:wdO k s l g= .win (isW (Z9 k s l) s):=if_neg hk
  rw[hw]at hT⊢
  obtain⟨R,a1,a2,a3,a4,a5,a6⟩:=cy6 hX hk hR hT hv he
  refine⟨R,_,a1,a3,a4,by rw[a2];simp,a5,a6,fun p hp=> ?_⟩
  rw[a2]at hp;cases hp
end
end Go.Ev.S9
namespace Go.Ev.S9
open Go Go.Ev
theorem aI9: ∀a b:List Nat,Tb.sumN (a++b)=Tb.sumN a+Tb.sumN b
 | [],b=>(j7 _).symm
 |x::a,b=>by show x+Tb.sumN (a++b)=x+Tb.sumN a+Tb.sumN b;rw[aI9 a b];omega
theorem by7{α:Type}(f:α→Nat)(c:Nat): ∀l:List α,(∀x∈l,f x≤c)→Tb.sumN (l.map f)≤c*l.length
 | [],_=>by rw[G5];exact l6 _
 |x::l,h=>by
  have h1:=h x (r8 ..)
  have h2:=by7 f c l (fun y hy=>h y (n8 _ hy))
  show f x+Tb.sumN (l.map f)≤c*(l.length+1)
  rw[Nat.mul_add];omega
theorem ci4{α:Type}(f:α→Nat): ∀l:List α,(∀x∈l,1≤f x)→l.length≤Tb.sumN (l.map f)
 | [],_=>e8 _
 |x::l,h=>by
  have h1:=h x (r8 ..)
  have h2:=ci4 f l (fun y hy=>h y (n8 _ hy))
  show l.length+1≤f x+Tb.sumN (l.map f)
  omega
def inR(r:Val)(x:Ev3):Bool:=Tb.inP (Q5 r).key (Q5 r).a (Q5 r).b x
def pab(r:Val):Int×Int:=((Q5 r).a,(Q5 r).b)
theorem bS5{W:Tb.Wd}{evs:List Ev3}{m:List Val}(hT:TOK W evs m)(x:Ev3):
 ((m.filter fun r=>inR r x).map pab).Nodup∧ ∀a b,(a,b)∈(m.filter fun r=>inR r x).map pab↔Tb.Pan W evs x.1 a b∧a≤x.2.1∧x.2.1<b:=by
 have hkey: ∀r∈m.filter fun r=>inR r x,(Q5 r).key=x.1∧(Q5 r).a≤x.2.1∧x.2.1<(Q5 r).b:=fun r hr=>by
  obtain⟨q1,q2,q3⟩:=Tb.inP_iff.1 (n7.1 hr).2
  exact⟨q1.symm,q2,q3⟩
 have hnd:((m.filter fun r=>inR r x).map Q5).Nodup:=hT.nd.sublist (List.filter_sublist.map _)
 refine⟨?_,fun a b=> ?_⟩
 ·rw[C6,M5]at hnd⊢
  refine hnd.imp_of_mem fun {r r'} hr hr' hne e=>hne ?_
  have h1:=(hkey r hr).1
  have h2:=(hkey r' hr').1
  have e1:(Q5 r).a=(Q5 r').a:=congrArg Prod.fst e
  have e2:(Q5 r).b=(Q5 r').b:=congrArg Prod.snd e
  generalize Q5 r=p at*
  generalize Q5 r'=p' at*
  cases p;cases p'
  simp only at h1 h2 e1 e2
  subst h1 h2 e1 e2;rfl
 ·rw[j6]
  constructor
  ·rintro⟨r,hr,e⟩
   obtain⟨q1,q2,q3⟩:=hkey r hr
   have hm:=(n7.1 hr).1
   have hl:=aT4 hT.nd hm
   have e1:(Q5 r).a=a:=congrArg Prod.fst e
   have e2:(Q5 r).b=b:=congrArg Prod.snd e
   have hp:Q5 r=⟨x.1,a,b⟩:=by
    generalize Q5 r=p at*
    cases p
    simp only at q1 e1 e2
    subst q1 e1 e2;rfl
   rw[hp]at hl
   have hl:lk m x.1 a b=some (rA r):=hl
   rw[e1]at q2
   rw[e2]at q3
   exact⟨((hT.tab _ _ _ _).1 hl).1,q2,q3⟩
  ·rintro⟨h1,h2,h3⟩
   have hl:=(hT.tab x.1 a b _).2 ⟨h1,rfl⟩
   obtain⟨r,hr,hp,_⟩:=aI8 hl
   refine⟨r,n7.2 ⟨hr,?_⟩,?_⟩
   ·unfold inR
    rw[hp]
    exact Tb.inP_iff.2 ⟨rfl,h2,h3⟩
   ·unfold pab;rw[hp]
section
variable{k s l g:Int}{m:List Val}
theorem cy9(hR:T2 k s l g=true){evs:List Ev3}(hT:TOK (wdO k s l g) evs m)(hev:at0 evs){x:Ev3}(hx:x∈evs):(m.filter fun r=>inR r x).length=(ofV k s l g (.vi x.2.1)).length:=by
 obtain⟨h1,h2⟩:=bS5 hT x
 have ht:=(hev x hx).1
 have lm:((m.filter fun r=>inR r x).map pab).length=(m.filter fun r=>inR r x).length:=m7 ..
 rw[←lm]
 by_cases hk:k=3
 ·have hw:wdO k s l g= .ses g:=if_pos hk
  rw[hw]at h2
  obtain⟨hg1,_⟩:=ch7 hR hk
  obtain⟨L,q1,q2⟩:=Tb.ses_ex (g:=g) (by omega) x.1 evs
  obtain⟨p,p1,p2,p3⟩:=q2 x.2.1 ⟨x,hx,rfl,rfl⟩
  have hs:=(q1 p.1 p.2).1 p1
  have hp:((m.filter fun r=>inR r x).map pab).Perm [p]:=by
   refine(G7 h1 (by simp)).2 fun ab=> ?_
   rw[o7]
   refine(h2 ab.1 ab.2).trans ⟨fun⟨c1,c2,c3⟩=> ?_,fun c=> ?_⟩
   ·have:=Tb.isS.one c1 hs ⟨by omega,by omega⟩
    exact A3 this.1 this.2
   ·subst c
    exact⟨hs,p2,by omega⟩
  rw[hp.length_eq]
  unfold ofV
  rw[hR,R0,ht]
  simp[hk]
 ·have hw:wdO k s l g= .win (isW (Z9 k s l) s):=if_neg hk
  rw[hw]at h2
  obtain⟨p1,p2,p3⟩:=d90 (t:=x.2.1) hR hk ht
  have lo:((ofV k s l g (.vi x.2.1)).map Q7).length=(ofV k s l g (.vi x.2.1)).length:=m7 ..
  rw[←lo]
  refine List.Perm.length_eq ((G7 h1 p1).2 fun ab=> ?_)
  refine(h2 ab.1 ab.2).trans (Iff.trans ?_ (p2 ab.1 ab.2).symm)
  constructor
  ·rintro⟨⟨c1,_⟩,c2,c3⟩
   exact⟨c1,c2,c3⟩
  ·rintro⟨c1,c2,c3⟩
   exact⟨⟨c1,x.2.1,⟨x,hx,rfl,rfl⟩,c2,c3⟩,c2,c3⟩
theorem aD0{W:Tb.Wd}{evs:List Ev3}(hT:TOK W evs m){r:Val}(hr:r∈m):1≤ci r 3∧(ci r 3).toNat=(evs.filter (inR r)).length∧rA r=Tb.agOf (Tb.vals evs (Q5 r).key (Q5 r).a (Q5 r).b)∧Tb.vals evs (Q5 r).key (Q5 r).a (Q5 r).b≠[]:=by
 have hl:=aT4 hT.nd hr
 have hl:lk m (Q5 r).key (Q5 r).a (Q5 r).b=some (rA r):=hl
 obtain⟨q1,q2,q3,q4⟩:=hT.pos hl
 have e:ci r 3=((Tb.vals evs (Q5 r).key (Q5 r).a (Q5 r).b).length:Int):=congrArg Prod.fst q3
 refine⟨q1,?_,q3,Tb.Pan.ne hT.gap q4⟩
 rw[e,Int.toNat_natCast]
 unfold Tb.vals
 rw[m7];rfl
def b01(m:List Val):Nat:=Tb.sumN (m.map fun r=>(ci r 3).toNat)
def ao7(k s l g:Int)(evs:List Ev3):Nat:=Tb.sumN (evs.map fun x=>(ofV k s l g (.vi x.2.1)).length)
theorem bL1(hR:T2 k s l g=true){evs:List Ev3}(hT:TOK (wdO k s l g) evs m)(hev:at0 evs):b01 m=ao7 k s l g evs:=by
 unfold b01 ao7
 rw[u5 (fun r hr=>(aD0 hT hr).2.1),Tb.twice (fun r x=>inR r x) evs m]
 congr 1
 exact u5 fun x hx=>cy9 hR hT hev hx
theorem ci5(k s l g:Int)(t:Val):(ofV k s l g t).length≤16:=by
 by_cases hk:k=3
 ·unfold ofV
  cases (T2 k s l g&&U8 t.toI)with
  |false=>exact l6 _
  |true=>
   rw[cond_true,if_pos hk]
   show 1≤16
   omega
 ·exact by3 hk
theorem cT5(k s l g:Int)(t:Val)(hk:k=3):(ofV k s l g t).length≤1:=by
 unfold ofV
 cases (T2 k s l g&&U8 t.toI)with
 |false=>exact l6 _
 |true=>
  rw[cond_true,if_pos hk]
  exact e8 _
theorem by8(k s l g:Int)(evs:List Ev3):ao7 k s l g evs≤16*evs.length∧(k=3→ao7 k s l g evs≤evs.length):=by
 refine⟨by7 _ 16 evs fun x _=>ci5 k s l g _,fun hk=> ?_⟩
 have:=by7 (fun x:Ev3=>(ofV k s l g (.vi x.2.1)).length) 1 evs fun x _=>cT5 k s l g _ hk
 rw[C8]at this
 exact this
theorem ci6(hR:T2 k s l g=true){evs:List Ev3}(hT:TOK (wdO k s l g) evs m)(hev:at0 evs):m.length≤16*evs.length∧(k=3→m.length≤evs.length):=by
 have h1:m.length≤b01 m:=ci4 _ m fun r hr=>by
  have:=(aD0 hT hr).1
  omega
 rw[bL1 hR hT hev]at h1
 obtain⟨h2,h3⟩:=by8 k s l g evs
 exact⟨by omega,fun hk=>by have:=h3 hk;omega⟩
theorem da0{W:Tb.Wd}{evs:List Ev3}(hT:TOK W evs m){r:Val}(hr:r∈m):as7 (ci r 3) (ci r 4) (ci r 5) (ci r 6)=true∧ak9 (ci r 3) (ci r 4) (ci r 5) (ci r 6)=false:=by
 obtain⟨h1,_,h3,h4⟩:=aD0 hT hr
 have hb:ak9 (ci r 3) (ci r 4) (ci r 5) (ci r 6)=false:=by
  unfold ak9
  rw[decide_eq_false (by omega)];rfl
 refine⟨?_,hb⟩
 generalize Tb.vals evs (Q5 r).key (Q5 r).a (Q5 r).b=V at*
 have e0:ci r 3=(V.length:Int):=congrArg Prod.fst h3
 have e1:ci r 4=Tb.sumI V:=congrArg (fun x=>x.2.1) h3
 have e2:ci r 5=Tb.minI V:=congrArg (fun x=>x.2.2.1) h3
 have e3:ci r 6=Tb.maxI V:=congrArg (fun x=>x.2.2.2) h3
 obtain⟨m1,m2⟩:=Tb.minI_spec h4
 have mx:=(Tb.maxI_spec h4).2 _ m1
 unfold as7
 rw[hb,y5,decide_eq_true (by omega:0<ci r 3),decide_eq_true (by omega:ci r 5≤ci r 6),B5,B5]
 by_cases c:1<ci r 3
 ·rw[decide_eq_true c];rfl
 ·match V,e0,e1,e2,e3,h4 with
  | [],_,_,_,_,h4=>exact absurd rfl h4
  | [x],e0,e1,e2,e3,_=>
    have e1:ci r 4=x+0:=e1
    have e2:ci r 5=x:=e2
    have e3:ci r 6=x:=e3
    have e0:ci r 3=1:=e0
    rw[decide_eq_true e0,decide_eq_true (by omega:ci r 5=ci r 4),decide_eq_true (by omega:ci r 6=ci r 4)]
    simp
  |x::y::z,e0,_,_,_,_=>
   rw[List.length_cons,List.length_cons]at e0
   omega
end
end Go.Ev.S9
namespace Go.Ev.S9
open Go Go.Ev
theorem da1{ω:Opq}(a b:SX):dB ω (.op (.cmp .gtr) [a,b])=decide ((den ω b).toI<(den ω a).toI):=rfl
theorem aD1{ω:Opq}(a b:SX):dB ω (zs a b)=decide ((den ω a).toI<(den ω b).toI):=rfl
theorem ci7:d72= .ite (zs (.va 4001) (zL x731)) (.need (zp (.va 4001)) (.need (zb (zL x733) 1000000) (.ite (.op .not [.app 722 [x733,rx 0,rx 1,rx 2]]) (.ret 2 [.cb false,.va 4001]) (.ite (.op .not [zn (cx 0 3) (zn (cx 1 4) (zn (cx 2 5) (cx 3 6)))]) (.ret 2 [.cb false,.va 4001]) (.ret 0 [.va 4000,zi (.va 4001)]))))) (.ret 1 [.va 4000,.va 4001]):=rfl
theorem ci8:d73= .ite (zs (.va 4001) (zL x730)) (.need (zp (.va 4001)) (.need (zb (zL x733) 1000000) (.ite (.app 722 [x733,gx 0,gx 1,gx 2]) (.ret 2 [.cb false,.va 4001]) (.ret 0 [.va 4000,zi (.va 4001)])))) (.ret 1 [.va 4000,.va 4001]):=rfl
theorem b02{l:List Val}{i:Nat}(h:i<l.length):atV l i∈l:=by
 have e:atV l i=l[i]:=by simp[atV,i6,h]
 rw[e];exact A7 h
section
variable{X:Nat→List Val→Val}{ω:Opq}(hf: ∀i a,ω.f i a=FT X i a)
include hf
theorem dm3{R m':List Val}{fl:Val}(D1: ∀vs,den (ω.upd 4000 vs) x731= .vl R)(D3: ∀vs,den (ω.upd 4000 vs) x733= .vl m')(hR:R.length≤1000)(hm:m'.length≤1000000)(hr: ∀r∈R,lkP m' (Q5 r)=some (rA r)):
 R9 (fun vs=>Q1 d72 (ω.upd 4000 vs)) [fl,.vi 0]=some (0,[fl,.vi R.length]):=by
 refine Z6 (st:=fun k=>[fl,.vi k]) (n:=R.length) (fun k hk=> ?_) ?_
 ·show Q1 d72 (ω.upd 4000 [fl,.vi k])=some (0,[fl,.vi (k+1:Nat)])
  have D1:=D1 [fl,.vi k]
  have D3:=D3 [fl,.vi k]
  have v0:(ω.upd 4000 [fl,.vi k]).w 4000=fl:=by rw[Q3];simp
  have v1:(ω.upd 4000 [fl,.vi k]).w 4001= .vi k:=by rw[Q3];simp
  have hf': ∀i a,(ω.upd 4000 [fl,.vi k]).f i a=FT X i a:=fun i a=>by rw[ah9];exact hf i a
  generalize ω.upd 4000 [fl,.vi k]=ω' at*
  have inc:arI .add .i64 (Val.vi (k:Int)).toI 1=((k+1:Nat):Int):=a03 hk (by omega)
  have hx:=hr _ (b02 hk)
  have dr: ∀j:Nat,den ω' (rx j)=Q9 (atV R k) j:=fun j=>by
   show R6 (den ω' x731).toL (ω'.w 4001).toI (j:Int)=_
   rw[D1,v1];rfl
  have r0:den ω' (rx 0)=Q9 (atV R k) 0:=dr 0
  have r1:den ω' (rx 1)=Q9 (atV R k) 1:=dr 1
  have r2:den ω' (rx 2)=Q9 (atV R k) 2:=dr 2
  have r3:den ω' (rx 3)=Q9 (atV R k) 3:=dr 3
  have r4:den ω' (rx 4)=Q9 (atV R k) 4:=dr 4
  have r5:den ω' (rx 5)=Q9 (atV R k) 5:=dr 5
  have r6:den ω' (rx 6)=Q9 (atV R k) 6:=dr 6
  have hp:Q5 (Val.vl [Q9 (atV R k) 0,Q9 (atV R k) 1,Q9 (atV R k) 2])=Q5 (atV R k):=rfl
  obtain⟨r,hrm,_,hA,hh,hc⟩:=ay9 (m:=m') (p:= .vl [Q9 (atV R k) 0,Q9 (atV R k) 1,Q9 (atV R k) 2]) (a:=rA (atV R k)) (by rw[hp];exact hx)
  have hA0:(Q9 r 3).toI=(Q9 (atV R k) 3).toI:=congrArg (fun a=>a.1) hA
  have hA1:(Q9 r 4).toI=(Q9 (atV R k) 4).toI:=congrArg (fun a=>a.2.1) hA
  have hA2:(Q9 r 5).toI=(Q9 (atV R k) 5).toI:=congrArg (fun a=>a.2.2.1) hA
  have hA3:(Q9 r 6).toI=(Q9 (atV R k) 6).toI:=congrArg (fun a=>a.2.2.2) hA
  have dt:den ω' tx= .vl [.vl (cd7 m' (.vl [Q9 (atV R k) 0,Q9 (atV R k) 1,Q9 (atV R k) 2]))]:=by
   show ω'.f 721 [den ω' x733,den ω' (rx 0),den ω' (rx 1),den ω' (rx 2)]=_
   rw[hf',D3,r0,r1,r2];rfl
  have dq: ∀j,R6 (den ω' tx).toL 0 j=(cd7 m' (.vl [Q9 (atV R k) 0,Q9 (atV R k) 1,Q9 (atV R k) 2])).getD j.toNat default:=fun j=>by rw[dt];rfl
  rw[ci7]
  refine T7 ?_ (Q6 ?_ (Q6 ?_ (T1 ?_ (T1 ?_ ?_))))
  ·rw[aD1,U9,ad3,v1,D1];exact decide_eq_true (by show(k:Int)<(R.length:Int);omega)
  ·rw[V3,a08,ad3,v1];exact decide_eq_true (by show(0:Int)≤(k:Int);omega)
  ·rw[V3,U9,a08,D3];exact decide_eq_true (by show(m'.length:Int)≤1000000;omega)
  ·rw[aG1]
   show(!(ω'.f 722 [den ω' x733,den ω' (rx 0),den ω' (rx 1),den ω' (rx 2)]).toB)=false
   rw[hf',D3,r0,r1,r2]
   show(!aU0 m' (.vl [Q9 (atV R k) 0,Q9 (atV R k) 1,Q9 (atV R k) 2]))=false
   rw[hh];rfl
  ·rw[aG1,Z1,Z1,Z1]
   show(!(decide ((R6 (den ω' tx).toL 0 0).toI=(den ω' (rx 3)).toI)&&(decide ((R6 (den ω' tx).toL 0 1).toI=(den ω' (rx 4)).toI)&&(decide ((R6 (den ω' tx).toL 0 2).toI=(den ω' (rx 5)).toI)&&decide ((R6 (den ω' tx).toL 0 3).toI=(den ω' (rx 6)).toI)))))=false
   rw[dq,dq,dq,dq,r3,r4,r5,r6]
   show(!(decide ((aZ5 m' (.vl [Q9 (atV R k) 0,Q9 (atV R k) 1,Q9 (atV R k) 2]) 3).toI=(Q9 (atV R k) 3).toI)&&(decide ((aZ5 m' (.vl [Q9 (atV R k) 0,Q9 (atV R k) 1,Q9 (atV R k) 2]) 4).toI=(Q9 (atV R k) 4).toI)&&(decide ((aZ5 m' (.vl [Q9 (atV R k) 0,Q9 (atV R k) 1,Q9 (atV R k) 2]) 5).toI=(Q9 (atV R k) 5).toI)&&decide ((aZ5 m' (.vl [Q9 (atV R k) 0,Q9 (atV R k) 1,Q9 (atV R k) 2]) 6).toI=(Q9 (atV R k) 6).toI)))))=false
   rw[hc,hc,hc,hc,decide_eq_true hA0,decide_eq_true hA1,decide_eq_true hA2,decide_eq_true hA3];rfl
  ·show some (0,[ω'.w 4000,Val.vi (arI .add .i64 (ω'.w 4001).toI 1)])=_
   rw[v0,v1,inc]
 ·show Q1 d72 (ω.upd 4000 [fl,.vi R.length])=_
  have D1:=D1 [fl,.vi R.length]
  have v0:(ω.upd 4000 [fl,.vi R.length]).w 4000=fl:=by rw[Q3];simp
  have v1:(ω.upd 4000 [fl,.vi R.length]).w 4001= .vi R.length:=by rw[Q3];simp
  generalize ω.upd 4000 [fl,.vi R.length]=ω' at*
  rw[ci7]
  refine T1 ?_ ?_
  ·rw[aD1,U9,ad3,v1,D1];exact decide_eq_false (by show¬(R.length:Int)<(R.length:Int);omega)
  ·show some (1,[ω'.w 4000,ω'.w 4001])=_
   rw[v0,v1]
theorem dm4{G m':List Val}{fl:Val}(D0: ∀vs,den (ω.upd 4000 vs) x730= .vl G)(D3: ∀vs,den (ω.upd 4000 vs) x733= .vl m')(hG:G.length≤1000)(hm:m'.length≤1000000)(hr: ∀r∈G,lkP m' (Q5 r)=none):
 R9 (fun vs=>Q1 d73 (ω.upd 4000 vs)) [fl,.vi 0]=some (0,[fl,.vi G.length]):=by
 refine Z6 (st:=fun k=>[fl,.vi k]) (n:=G.length) (fun k hk=> ?_) ?_
 ·show Q1 d73 (ω.upd 4000 [fl,.vi k])=some (0,[fl,.vi (k+1:Nat)])
  have D0:=D0 [fl,.vi k]
  have D3:=D3 [fl,.vi k]
  have v0:(ω.upd 4000 [fl,.vi k]).w 4000=fl:=by rw[Q3];simp
  have v1:(ω.upd 4000 [fl,.vi k]).w 4001= .vi k:=by rw[Q3];simp
  have hf': ∀i a,(ω.upd 4000 [fl,.vi k]).f i a=FT X i a:=fun i a=>by rw[ah9];exact hf i a
  generalize ω.upd 4000 [fl,.vi k]=ω' at*
  have inc:arI .add .i64 (Val.vi (k:Int)).toI 1=((k+1:Nat):Int):=a03 hk (by omega)
  have hx:=hr _ (b02 hk)
  have dr: ∀j:Nat,den ω' (gx j)=Q9 (atV G k) j:=fun j=>by
   show R6 (den ω' x730).toL (ω'.w 4001).toI (j:Int)=_
   rw[D0,v1];rfl
  have r0:den ω' (gx 0)=Q9 (atV G k) 0:=dr 0
  have r1:den ω' (gx 1)=Q9 (atV G k) 1:=dr 1
  have r2:den ω' (gx 2)=Q9 (atV G k) 2:=dr 2
  have hp:Q5 (Val.vl [Q9 (atV G k) 0,Q9 (atV G k) 1,Q9 (atV G k) 2])=Q5 (atV G k):=rfl
  obtain⟨hh,_⟩:=aT5 (m:=m') (p:= .vl [Q9 (atV G k) 0,Q9 (atV G k) 1,Q9 (atV G k) 2]) (by rw[hp];exact hx)
  rw[ci8]
  refine T7 ?_ (Q6 ?_ (Q6 ?_ (T1 ?_ ?_)))
  ·rw[aD1,U9,ad3,v1,D0];exact decide_eq_true (by show(k:Int)<(G.length:Int);omega)
  ·rw[V3,a08,ad3,v1];exact decide_eq_true (by show(0:Int)≤(k:Int);omega)
  ·rw[V3,U9,a08,D3];exact decide_eq_true (by show(m'.length:Int)≤1000000;omega)
  ·show(ω'.f 722 [den ω' x733,den ω' (gx 0),den ω' (gx 1),den ω' (gx 2)]).toB=false
   rw[hf',D3,r0,r1,r2]
   exact hh
  ·show some (0,[ω'.w 4000,Val.vi (arI .add .i64 (ω'.w 4001).toI 1)])=_
   rw[v0,v1,inc]
 ·show Q1 d73 (ω.upd 4000 [fl,.vi G.length])=_
  have D0:=D0 [fl,.vi G.length]
  have v0:(ω.upd 4000 [fl,.vi G.length]).w 4000=fl:=by rw[Q3];simp
  have v1:(ω.upd 4000 [fl,.vi G.length]).w 4001= .vi G.length:=by rw[Q3];simp
  generalize ω.upd 4000 [fl,.vi G.length]=ω' at*
  rw[ci8]
  refine T1 ?_ ?_
  ·rw[aD1,U9,ad3,v1,D0];exact decide_eq_false (by show¬(G.length:Int)<(G.length:Int);omega)
  ·show some (1,[ω'.w 4000,ω'.w 4001])=_
   rw[v0,v1]
end
end Go.Ev.S9
namespace Go.Ev.S9
open Go Go.Ev
theorem ci9:cE3= .ite (zs (.va 2003) (zl 4)) (.need (cQ7 (.va 2004)) (.need (zp (.va 2003)) (.need (.app 739 [.va 0,.va 2004,ex 1]) (.ite (.op (.cmp .neq) [x732,.ci 0]) dd9 de0)))) (.ret 1 [.va 2000,.va 2001,.va 2002,.va 2003,.va 2004,.va 2005]):=rfl
structure RC (ω:Opq) (k s l g:Int) (ops:List Val) (i:Nat) (m:List Val) (ek:Int) (ks:List UInt8) (t v:Int):Prop where
 w0:ω.w 0= .vi k
 w1:ω.w 1= .vi s
 w2:ω.w 2= .vi l
 w3:ω.w 3= .vi g
 w4:ω.w 4= .vl ops
 wi:ω.w 2003= .vi i
 wm:ω.w 2004= .vl m
 row:atV ops i= .vl [.vi ek,.vs ks,.vi t,.vi v]
def okm(k:Int)(m:List Val):Prop:=(∀r∈m,nrm r)∧(m.map Q5).Nodup∧m.length≤400∧(k=3→m.length≤24)
section
variable{X:Nat→List Val→Val}{ω:Opq}{k s l g:Int}{ops:List Val}{i:Nat}{m:List Val}{ek:Int}{ks:List UInt8}{t v:Int}
theorem RC.up(h:RC ω k s l g ops i m ek ks t v)(vs:List Val):RC (ω.upd 4000 vs) k s l g ops i m ek ks t v:=by
 have W: ∀n:Nat,n<4000→(ω.upd 4000 vs).w n=ω.w n:=fun n hn=>by rw[Q3,if_neg (by omega)]
 exact⟨(W 0 (by omega)).trans h.w0,(W 1 (by omega)).trans h.w1,(W 2 (by omega)).trans h.w2,(W 3 (by omega)).trans h.w3,(W 4 (by omega)).trans h.w4,(W 2003 (by omega)).trans h.wi,(W 2004 (by omega)).trans h.wm,h.row⟩
theorem RC.ex(h:RC ω k s l g ops i m ek ks t v)(j:Nat):den ω (ex j)=Q9 (.vl [.vi ek,.vs ks,.vi t,.vi v]) j:=by
 show R6 (ω.w 4).toL (ω.w 2003).toI (j:Int)=_
 rw[h.w4,h.wi,←h.row];rfl
theorem RC.aX(h:RC ω k s l g ops i m ek ks t v):Q4 ω aX=w9L k s l g m ek ks t v:=by
 show [ω.w 0,ω.w 1,ω.w 2,ω.w 3,ω.w 2004,den ω (S9.ex (0:Nat)),den ω (S9.ex (1:Nat)),den ω (S9.ex (2:Nat)),den ω (S9.ex (3:Nat))]=_
 rw[h.w0,h.w1,h.w2,h.w3,h.wm,h.ex,h.ex,h.ex,h.ex];rfl
variable(hf: ∀i a,ω.f i a=FT X i a)
include hf
theorem RC.x730(h:RC ω k s l g ops i m ek ks t v):den ω x730= .vl (ay5 (w9L k s l g m ek ks t v)):=by
 show ω.f 730 (Q4 ω S9.aX)=_
 rw[h.aX,hf];rfl
theorem RC.x731(h:RC ω k s l g ops i m ek ks t v):den ω x731=as8 X (w9L k s l g m ek ks t v):=by
 show ω.f 731 (Q4 ω S9.aX)=_
 rw[h.aX,hf];rfl
theorem RC.x732(h:RC ω k s l g ops i m ek ks t v):den ω x732= .vi (ao5 (w9L k s l g m ek ks t v)):=by
 show ω.f 732 (Q4 ω S9.aX)=_
 rw[h.aX,hf];rfl
theorem RC.x733(h:RC ω k s l g ops i m ek ks t v):den ω x733=aU1 X (w9L k s l g m ek ks t v):=by
 show ω.f 733 (Q4 ω S9.aX)=_
 rw[h.aX,hf];rfl
theorem cj0(hX:XOk X){x:SX}(hd:den ω x= .vl m)(ho:okm k m):dB ω (cQ7 x)=true:=by
 unfold cQ7
 rw[Z1,Z1,V3,U9,a08]
 show((decide (((den ω x).toL.length:Int)≤400)&&(ω.f 431 [den ω x]).toB)&&(ω.f 491 [den ω x]).toB)=true
 rw[hf,hf,hd]
 have h1:=hX.x431 m (fun r hr=>ci0 (ho.1 r hr))
 have h2:=hX.x491 m ho.2.1
 show((decide ((m.length:Int)≤400)&&(X 431 [.vl m]).toB)&&(X 491 [.vl m]).toB)=true
 have h3:=ho.2.2.1
 rw[h1,h2,decide_eq_true (by omega)];rfl
theorem cF0{e0 e1 e2:SX}(h0:den ω e0= .vi k)(h1:den ω e1= .vl m)(h2:den ω e2= .vs ks)(ho:okm k m):dB ω (.app 739 [e0,e1,e2])=true:=by
 show(ω.f 739 [den ω e0,den ω e1,den ω e2]).toB=true
 rw[hf,h0,h1,h2]
 show((!decide (k=3)||decide (m.length≤24))&&true)=true
 by_cases c:k=3
 ·rw[decide_eq_true c,decide_eq_true (ho.2.2.2 c)];rfl
 ·rw[decide_eq_false c];rfl
theorem cj1(hX:XOk X)(h:RC ω k s l g ops i m ek ks t v)(ho:okm k m)(hi:i<ops.length){r:Option (Nat×List Val)}(hr:Q1 (.ite (.op (.cmp .neq) [S9.x732,.ci 0]) dd9 de0) ω=r):Q1 cE3 ω=r:=by
 rw[ci9]
 refine T7 ?_ (Q6 (cj0 hf hX h.wm ho) (Q6 ?_ (Q6 (cF0 hf h.w0 h.wm (h.ex 1) ho) hr)))
 ·rw[aD1,U9,ad3,cx6,h.w4,h.wi];exact decide_eq_true (by show(i:Int)<(ops.length:Int);omega)
 ·rw[V3,a08,ad3,h.wi];exact decide_eq_true (by show(0:Int)≤(i:Int);omega)
theorem cz0(hX:XOk X)(h:RC ω k s l g ops i m ek ks t v)(ho:okm k m)(hi:i<ops.length)(hn:ops.length≤24)(he:ao5 (w9L k s l g m ek ks t v)≠0):
 Q1 cE3 ω=some (0,[ω.w 2000,ω.w 2001,ω.w 2002,.vi (i+1:Nat),.vl m,ω.w 2005]):=by
 obtain⟨eG,eR,eM⟩:=ci1 (X:=X) he
 obtain⟨L,hL,hLp⟩:=hX.x490 m (fun r hr=>ci0 (ho.1 r hr))
 have inc:arI .add .i64 (Val.vi (i:Int)).toI 1=((i+1:Nat):Int):=a03 hi (by omega)
 have d0:=h.x730 hf
 have d1:=h.x731 hf
 have d3:=h.x733 hf
 rw[eG]at d0
 rw[eR]at d1
 rw[eM]at d3
 refine cj1 hf hX h ho hi (T7 ?_ ?_)
 ·rw[aC9,a08,h.x732 hf,R0,decide_eq_false he];rfl
 unfold dd9
 refine T1 ?_ (T1 ?_ (Q6 (cj0 hf hX d3 ho) (Q6 ?_ (T1 ?_ ?_))))
 ·rw[da1,U9,a08,d0];rfl
 ·rw[da1,U9,a08,d1];rfl
 ·rw[V3,U9,a08]
  show decide (((ω.f 490 [ω.w 2004]).toL.length:Int)≤1000000)=true
  rw[hf,h.wm]
  show decide (((X 490 [.vl m]).toL.length:Int)≤1000000)=true
  rw[hL]
  have:=hLp.length_eq
  have:=ho.2.2.1
  exact decide_eq_true (by show(L.length:Int)≤1000000;omega)
 ·rw[aG1]
  show(!(ω.f 3 [ω.f 490 [ω.w 2004],ω.f 490 [den ω S9.x733]]).toB)=false
  rw[hf,hf,hf,h.wm,d3]
  show(!(X 3 [X 490 [.vl m],X 490 [.vl m]]).toB)=false
  rw[hX.x3];rfl
 ·show some (0,[ω.w 2000,ω.w 2001,ω.w 2002,Val.vi (arI .add .i64 (ω.w 2003).toI 1),den ω S9.x733,ω.w 2005])=_
  rw[d3,h.wi,inc]
theorem cj2(hX:XOk X)(h:RC ω k s l g ops i m ek ks t v)(ho:okm k m)(hi:i<ops.length)(hn:ops.length≤24)(he:ao5 (w9L k s l g m ek ks t v)=0)
 {R m' T:List Val} (hR:as8 X (w9L k s l g m ek ks t v)= .vl R) (hM:aU1 X (w9L k s l g m ek ks t v)= .vl m') (hRl:R.length≤16) (hGl:(ay5 (w9L k s l g m ek ks t v)).length≤400) (hm':m'.length≤1000000)
 (hr: ∀r∈R,lkP m' (Q5 r)=some (rA r)) (hg: ∀p∈ay5 (w9L k s l g m ek ks t v),lkP m' (Q5 p)=none) (h5:ω.w 2005= .vl T) (h1:ω.w 2001= .vi T.length) (hT:T.length≤24):
 Q1 cE3 ω=some (0,[ω.w 2000,.vi (T.length+1:Nat),.vi (arI .add .i64 (ω.w 2002).toI (ofV k s l g (.vi t)).length),.vi (i+1:Nat),.vl m',.vl (T++[.vl [.vi ek,.vs ks,.vi t,.vi v]])]):=by
 have inc:arI .add .i64 (Val.vi (i:Int)).toI 1=((i+1:Nat):Int):=a03 hi (by omega)
 have d0:=h.x730 hf
 have d1:=h.x731 hf
 have d3:=h.x733 hf
 rw[hR]at d1
 rw[hM]at d3
 have hf': ∀vs,∀i a,(ω.upd 4000 vs).f i a=FT X i a:=fun vs i a=>by rw[ah9];exact hf i a
 have D0: ∀vs,den (ω.upd 4000 vs) S9.x730= .vl (ay5 (w9L k s l g m ek ks t v)):=fun vs=>(h.up vs).x730 (hf' vs)
 have D1: ∀vs,den (ω.upd 4000 vs) S9.x731= .vl R:=fun vs=>((h.up vs).x731 (hf' vs)).trans hR
 have D3: ∀vs,den (ω.upd 4000 vs) S9.x733= .vl m':=fun vs=>((h.up vs).x733 (hf' vs)).trans hM
 generalize ay5 (w9L k s l g m ek ks t v)=G at*
 have dN:den ω ntX= .vl (T++[.vl [.vi ek,.vs ks,.vi t,.vi v]]):=by
  show Val.vl ((ω.w 2005).toL++[Val.vl [den ω (S9.ex (0:Nat)),den ω (S9.ex (1:Nat)),den ω (S9.ex (2:Nat)),den ω (S9.ex (3:Nat))]])=_
  rw[h5,h.ex,h.ex,h.ex,h.ex];rfl
 have dm:den ω bw8= .vi (arI .add .i64 (ω.w 2002).toI (ofV k s l g (.vi t)).length):=by
  show Val.vi (arI .add .i64 (ω.w 2002).toI ((ω.f 704 [ω.w 0,ω.w 1,ω.w 2,ω.w 3,den ω (S9.ex (2:Nat))]).toL.length:Int))=_
  rw[hf,h.w0,h.w1,h.w2,h.w3,h.ex];rfl
 have e1:den ω dj9=W4 (0,[ω.w 2000,.vi R.length]):=by
  show ω.f 767 (Q4 ω ([.va 2000,.ci 0]++cQ4))=_
  rw[hf]
  show W4 (0,[ω.w 2000,.vi (den ω S9.x731).toL.length])=_
  rw[d1];rfl
 have y1:den ω cQ6=ω.w 2000:=by
  show R6 (den ω dj9).toL 1 0=_
  rw[e1];rfl
 have e2:den ω dk0=W4 (0,[ω.w 2000,.vi G.length]):=by
  show ω.f 768 (Q4 ω ([cQ6,.ci 0]++cQ5))=_
  rw[hf]
  show W4 (0,[den ω cQ6,.vi (den ω S9.x730).toL.length])=_
  rw[d0,y1];rfl
 have y2:den ω dd8=ω.w 2000:=by
  show R6 (den ω dk0).toL 1 0=_
  rw[e2];rfl
 refine cj1 hf hX h ho hi (T1 ?_ ?_)
 ·rw[aC9,a08,h.x732 hf,R0,he];rfl
 unfold de0
 refine Q6 ?_ (Q8 (r:=(0,[ω.w 2000,.vi R.length])) ?_ e1 (Q8 (r:=(0,[ω.w 2000,.vi G.length])) ?_ e2 ?_))
 ·rw[Z1,aC8,V3,ad3,U9,U9,cx6,a08,dN,h1,h5]
  rw[e9]
  refine⟨decide_eq_true rfl,decide_eq_true ?_⟩
  show(((T++[Val.vl [.vi ek,.vs ks,.vi t,.vi v]]).length:Nat):Int)≤1000000
  rw[j9,List.length_singleton]
  omega
 ·show R9 _ [ω.w 2000,.vi 0]=_
  exact dm3 hf D1 D3 (by omega) hm' hr
 ·show R9 _ [den ω cQ6,.vi 0]=_
  rw[y1]
  exact dm4 hf D0 D3 (by omega) hm' hg
 ·show some (0,[den ω dd8,Val.vi (den ω ntX).toL.length,den ω bw8,Val.vi (arI .add .i64 (ω.w 2003).toI 1),den ω S9.x733,den ω ntX])=_
  rw[y2,dN,dm,d3,h.wi,inc,a75,j9,List.length_singleton]
end
end Go.Ev.S9
namespace Go.Ev.S9
open Go Go.Ev
def evV(x:Ev3):Val:= .vl [.vi 1,.vs x.1,.vi x.2.1,.vi x.2.2]
def by9(evs:List Ev3):Prop:= ∀x∈evs,R8 1 x.1 x.2.1 x.2.2=0
theorem cF1{r:Val}(h:opOk r=true): ∃ek ks t v,r= .vl [.vi ek,.vs ks,.vi t,.vi v]∧inI v:=by
 unfold opOk at h
 split at h
 ·rename_i ek ks t v
  rw[e9,decide_eq_true_eq,decide_eq_true_eq]at h
  exact⟨ek,ks,t,v,rfl,h⟩
 ·cases h
section
variable{X:Nat→List Val→Val}{k s l g:Int}{m:List Val}
theorem aD2(hR:T2 k s l g=true){evs:List Ev3}(hT:TOK (wdO k s l g) evs m)(hev:at0 evs)(hl:evs.length≤24):okm k m:=by
 obtain⟨h1,h2⟩:=ci6 hR hT hev
 exact⟨hT.nrm,hT.nd,by omega,fun hk=>by have:=h2 hk;omega⟩
theorem cj3(hR:T2 k s l g=true):TOK (wdO k s l g) [] []:=
 ⟨Tb.tab_nil _,List.nodup_nil,fun r h=>absurd h (B1),fun g' h=>by
   unfold wdO at h
   by_cases hk:k=3
   ·rw[if_pos hk]at h
    cases h
    have:=(ch7 hR hk).1
    omega
   ·rw[if_neg hk]at h;cases h⟩
theorem bn2{evs:List Ev3}{x:Ev3}(h:at0 evs)(ht:U8 x.2.1=true)(hv:inI x.2.2):at0 (evs++[x]):=fun y hy=>by
 rcases q9.1 hy with h1|h1
 ·exact h y h1
 ·rw[o7]at h1;subst h1;exact⟨ht,hv⟩
theorem cj4{evs:List Ev3}{x:Ev3}(h:by9 evs)(hv:R8 1 x.1 x.2.1 x.2.2=0):by9 (evs++[x]):=fun y hy=>by
 rcases q9.1 hy with h1|h1
 ·exact h y h1
 ·rw[o7]at h1;subst h1;exact hv
def OI(k s l g:Int)(i:Nat)(p:Int×Val×List Val):Prop:= ∃m evs,p.2.1= .vl m∧p.2.2=evs.map evV∧TOK (wdO k s l g) evs m∧at0 evs∧by9 evs∧evs.length≤i∧p.1=(ao7 k s l g evs:Int)
theorem cT6(hR:T2 k s l g=true)(ops:List Val):OI k s l g 0 (ao6 X (.vi k) (.vi s) (.vi l) (.vi g) ops 0):=
 ⟨[],[],rfl,rfl,cj3 hR,fun x h=>absurd h (B1),fun x h=>absurd h (B1),e8 _,rfl⟩
theorem bn3{ops:List Val}{i:Nat}{ek:Int}{ks:List UInt8}{t v:Int}{M:Val}(hM:M= .vl m)(h:atV ops i= .vl [.vi ek,.vs ks,.vi t,.vi v]):evA (.vi k) (.vi s) (.vi l) (.vi g) M (atV ops i)=w9L k s l g m ek ks t v:=by
 rw[h,hM];rfl
theorem cT7(hX:XOk X)(hR:T2 k s l g=true){ops:List Val}{i:Nat}(hi:i<24)(ho:opOk (atV ops i)=true)(h:OI k s l g i (ao6 X (.vi k) (.vi s) (.vi l) (.vi g) ops i)):OI k s l g (i+1) (ao6 X (.vi k) (.vi s) (.vi l) (.vi g) ops (i+1)):=by
 obtain⟨m,evs,h1,h2,h3,h4,h5,h6,h7⟩:=h
 obtain⟨ek,ks,t,v,hr,hv⟩:=cF1 ho
 have hw:=bn3 (k:=k) (s:=s) (l:=l) (g:=g) h1 hr
 have hm:m.length≤400:=(aD2 hR h3 h4 (by omega)).2.2.1
 rw[show ao6 X (.vi k) (.vi s) (.vi l) (.vi g) ops (i+1)=if ao5 (evA (.vi k) (.vi s) (.vi l) (.vi g) (ao6 X (.vi k) (.vi s) (.vi l) (.vi g) ops i).2.1 (atV ops i))≠0 then((ao6 X (.vi k) (.vi s) (.vi l) (.vi g) ops i).1,aU1 X (evA (.vi k) (.vi s) (.vi l) (.vi g) (ao6 X (.vi k) (.vi s) (.vi l) (.vi g) ops i).2.1 (atV ops i)),(ao6 X (.vi k) (.vi s) (.vi l) (.vi g) ops i).2.2)
  else(arI .add .i64 (ao6 X (.vi k) (.vi s) (.vi l) (.vi g) ops i).1 (ofV (Val.vi k).toI (Val.vi s).toI (Val.vi l).toI (Val.vi g).toI (Q9 (atV ops i) 2)).length,aU1 X (evA (.vi k) (.vi s) (.vi l) (.vi g) (ao6 X (.vi k) (.vi s) (.vi l) (.vi g) ops i).2.1 (atV ops i)),(ao6 X (.vi k) (.vi s) (.vi l) (.vi g) ops i).2.2++[aC6 (atV ops i)])from rfl]
 rw[hw]
 by_cases he:ao5 (w9L k s l g m ek ks t v)≠0
 ·rw[if_pos he]
  exact⟨m,evs,(ci1 he).2.2,h2,h3,h4,h5,by omega,h7⟩
 ·rw[if_neg he]
  replace he:=Classical.not_not.1 he
  obtain⟨R,m',a1,a2,a3,a4,a5,a6,a7⟩:=ba9 hX hR h3 hm h4 hv he
  obtain⟨q0,q1⟩:=bL0 he
  subst q1
  have b1:=(by8 k s l g evs).1
  have b2:=ci5 k s l g (.vi t)
  refine⟨m',evs++[(ks,t,v)],a2,?_,a5,bn2 h4 (cy5 q0 rfl).2 hv,cj4 h5 q0,by rw[j9,List.length_singleton];omega,?_⟩
  ·show _++_=_
   rw[h2,hr,o9];rfl
  ·show arI .add .i64 (ao6 X (.vi k) (.vi s) (.vi l) (.vi g) ops i).1 (ofV k s l g (Q9 (atV ops i) 2)).length=_
   have e:ao7 k s l g (evs++[(ks,t,v)])=ao7 k s l g evs+(ofV k s l g (.vi t)).length:=by
    unfold ao7
    rw[o9,aI9];rfl
   have e2:Q9 (atV ops i) 2= .vi t:=by rw[hr];rfl
   rw[h7,e,e2,ak8 (by omega) (by omega)]
   omega
theorem cj5(hX:XOk X)(hR:T2 k s l g=true){ops:List Val}(hn:ops.length≤24)(ho: ∀r∈ops,opOk r=true): ∀i,i≤ops.length→OI k s l g i (ao6 X (.vi k) (.vi s) (.vi l) (.vi g) ops i)
 |0,_=>cT6 hR ops
 |i+1,h=>cT7 hX hR (by omega) (ho _ (b02 (by omega))) (cj5 hX hR hn ho i (by omega))
noncomputable def aV7(X:Nat→List Val→Val)(k s l g:Int)(ops:List Val)(i:Nat):List Val:=[.vb false,.vi (ao6 X (.vi k) (.vi s) (.vi l) (.vi g) ops i).2.2.length,.vi (ao6 X (.vi k) (.vi s) (.vi l) (.vi g) ops i).1,.vi i,(ao6 X (.vi k) (.vi s) (.vi l) (.vi g) ops i).2.1,.vl (ao6 X (.vi k) (.vi s) (.vi l) (.vi g) ops i).2.2]
variable{ω:Opq}(hf: ∀i a,ω.f i a=FT X i a)
include hf
theorem dm5(hX:XOk X)(hR:T2 k s l g=true){ops:List Val}(hn:ops.length≤24)(ho: ∀r∈ops,opOk r=true)(w0:ω.w 0= .vi k)(w1:ω.w 1= .vi s)(w2:ω.w 2= .vi l)(w3:ω.w 3= .vi g)(w4:ω.w 4= .vl ops):
 R9 (fun vs=>Q1 cE3 (ω.upd 2000 vs)) [.vb false,.vi 0,.vi 0,.vi 0,.vl [],.vl []]=some (0,aV7 X k s l g ops ops.length):=by
 have W: ∀vs:List Val,∀n:Nat,n<2000→(ω.upd 2000 vs).w n=ω.w n:=fun vs n hn=>by rw[Q3,if_neg (by omega)]
 have U0: ∀a b c d e f:Val,(ω.upd 2000 [a,b,c,d,e,f]).w 2000=a:=fun a b c d e f=>by rw[Q3];simp
 have U1: ∀a b c d e f:Val,(ω.upd 2000 [a,b,c,d,e,f]).w 2001=b:=fun a b c d e f=>by rw[Q3];simp
 have U2: ∀a b c d e f:Val,(ω.upd 2000 [a,b,c,d,e,f]).w 2002=c:=fun a b c d e f=>by rw[Q3];simp
 have U3: ∀a b c d e f:Val,(ω.upd 2000 [a,b,c,d,e,f]).w 2003=d:=fun a b c d e f=>by rw[Q3];simp
 have U4: ∀a b c d e f:Val,(ω.upd 2000 [a,b,c,d,e,f]).w 2004=e:=fun a b c d e f=>by rw[Q3];simp
 have U5: ∀a b c d e f:Val,(ω.upd 2000 [a,b,c,d,e,f]).w 2005=f:=fun a b c d e f=>by rw[Q3];simp
 refine Z6 (st:=aV7 X k s l g ops) (n:=ops.length) (fun i hi=> ?_) ?_
 ·have hoi:=cj5 hX hR hn ho i (by omega)
  have hor:=ho _ (b02 hi)
  obtain⟨ek,ks,t,v,hr,hv⟩:=cF1 hor
  obtain⟨m,evs,h1,h2,h3,h4,h5,h6,h7⟩:=hoi
  have hw:=bn3 (k:=k) (s:=s) (l:=l) (g:=g) h1 hr
  have hok:=aD2 hR h3 h4 (by omega)
  have hS:ao6 X (.vi k) (.vi s) (.vi l) (.vi g) ops (i+1)=if ao5 (w9L k s l g m ek ks t v)≠0 then((ao6 X (.vi k) (.vi s) (.vi l) (.vi g) ops i).1,aU1 X (w9L k s l g m ek ks t v),(ao6 X (.vi k) (.vi s) (.vi l) (.vi g) ops i).2.2)
   else(arI .add .i64 (ao6 X (.vi k) (.vi s) (.vi l) (.vi g) ops i).1 (ofV k s l g (.vi t)).length,aU1 X (w9L k s l g m ek ks t v),(ao6 X (.vi k) (.vi s) (.vi l) (.vi g) ops i).2.2++[.vl [.vi ek,.vs ks,.vi t,.vi v]]):=by
   have z1:(.vi t:Val)=Q9 (atV ops i) 2:=by rw[hr];rfl
   have z2:Val.vl [.vi ek,.vs ks,.vi t,.vi v]=aC6 (atV ops i):=by rw[hr];rfl
   rw[z2,z1,←hw]
   rfl
  show Q1 cE3 (ω.upd 2000 (aV7 X k s l g ops i))=some (0,aV7 X k s l g ops (i+1))
  unfold aV7
  rw[hS,h1,h2,h7]
  have hrc:RC (ω.upd 2000 [.vb false,.vi (evs.map evV).length,.vi (ao7 k s l g evs:Int),.vi i,.vl m,.vl (evs.map evV)]) k s l g ops i m ek ks t v:=
   ⟨by rw[W _ 0 (by omega),w0],by rw[W _ 1 (by omega),w1],by rw[W _ 2 (by omega),w2],by rw[W _ 3 (by omega),w3],by rw[W _ 4 (by omega),w4],U3 ..,U4 ..,hr⟩
  have hf': ∀j a,(ω.upd 2000 [.vb false,.vi (evs.map evV).length,.vi (ao7 k s l g evs:Int),.vi i,.vl m,.vl (evs.map evV)]).f j a=FT X j a:=fun j a=>by rw[ah9];exact hf j a
  by_cases he:ao5 (w9L k s l g m ek ks t v)≠0
  ·rw[if_pos he]
   refine(cz0 hf' hX hrc hok hi hn he).trans ?_
   rw[U0,U1,U2,U5,(ci1 he).2.2]
  ·rw[if_neg he]
   replace he:=Classical.not_not.1 he
   obtain⟨R,m',a1,a2,a3,a4,a5,a6,a7⟩:=ba9 hX hR h3 hok.2.2.1 h4 hv he
   obtain⟨q0,q1⟩:=bL0 he
   have hok':=ci6 hR a5 (bn2 h4 (cy5 q0 q1).2 hv)
   rw[j9,List.length_singleton]at hok'
   refine(cj2 hf' hX hrc hok hi hn he a1 a2 a3 a4 (by omega) (fun r hr=>(a6 r hr).2) (fun p hp=>(a7 p hp).1) (T:=evs.map evV) (U5 ..) (U1 ..) (by rw[m7];omega)).trans ?_
   rw[U0,U2,a2,j9,List.length_singleton];rfl
 ·show Q1 cE3 (ω.upd 2000 (aV7 X k s l g ops ops.length))=some (0+1,aV7 X k s l g ops ops.length)
  unfold aV7
  rw[ci9]
  refine T1 ?_ ?_
  ·rw[aD1,U9,ad3,cx6,U3,W _ 4 (by omega),w4];exact decide_eq_false (by show¬(ops.length:Int)<(ops.length:Int);omega)
  ·show some (1,[(ω.upd 2000 _).w 2000,(ω.upd 2000 _).w 2001,(ω.upd 2000 _).w 2002,(ω.upd 2000 _).w 2003,(ω.upd 2000 _).w 2004,(ω.upd 2000 _).w 2005])=_
   rw[U0,U1,U2,U3,U4,U5]
end
end Go.Ev.S9
namespace Go.Ev.S9
open Go Go.Ev
theorem cj6:d74= .ite (zs (.va 2002) (zL r7)) (.need (zp (.va 2002)) (.ite (.op .not [.app 735 [qx 3,qx 4,qx 5,qx 6]]) (.ret 2 [.cb false,cW0,.va 2002]) (.ite (.app 736 [qx 3,qx 4,qx 5,qx 6]) (.ret 2 [.cb false,cW0,.va 2002]) (.ret 0 [.va 2000,cW0,zi (.va 2002)])))) (.ret 1 [.va 2000,.va 2001,.va 2002]):=rfl
theorem cj7:d75= .ite (.op (.cmp .geq) [.va 2001,Z8]) (.need (zn (zp (.va 2001)) (zs (.va 2001) Z7)) (.need (zs (.va 2001) (zL W2)) (.need (zn (.op (.cmp .eql) [.va 2000,zl 2002]) (zb (zL cw4) 1000000)) (.ret 0 [zL cw4,zm (.va 2001) (.ci 1),cw4])))) (.ret 1 [.va 2000,.va 2001,.va 2002]):=rfl
theorem bz0:cW1= .ite (zs (.va 2002) (zL X4)) (.need (zp (.va 2002)) (.ite (.op (.cmp .neq) [.va 2001,.ci 0]) (.ret 2 [.va 2001,.va 2001,.va 2002,.va 2003]) (.need (zn (cQ7 (.va 2003)) (.app 739 [.va 0,.va 2003,ux 1])) (.ret 0 [.va 2000,.app 732 bX,zi (.va 2002),.app 733 bX])))) (.ret 1 [.va 2000,.va 2001,.va 2002,.va 2003]):=rfl
section
variable{X:Nat→List Val→Val}{ω:Opq}(hf: ∀i a,ω.f i a=FT X i a)
include hf
theorem dm6{L:List Val}{fl:Val}(hL:L.length≤1000)(D: ∀vs,den (ω.upd 2000 vs) r7= .vl L)(hr: ∀r∈L,as7 (ci r 3) (ci r 4) (ci r 5) (ci r 6)=true∧ak9 (ci r 3) (ci r 4) (ci r 5) (ci r 6)=false):
 R9 (fun vs=>Q1 d74 (ω.upd 2000 vs)) [fl,.vi 0,.vi 0]=some (0,[fl,.vi (b91 L L.length),.vi L.length]):=by
 have U0: ∀a b c:Val,(ω.upd 2000 [a,b,c]).w 2000=a:=fun a b c=>by rw[Q3];simp
 have U1: ∀a b c:Val,(ω.upd 2000 [a,b,c]).w 2001=b:=fun a b c=>by rw[Q3];simp
 have U2: ∀a b c:Val,(ω.upd 2000 [a,b,c]).w 2002=c:=fun a b c=>by rw[Q3];simp
 refine Z6 (st:=fun k=>[fl,.vi (b91 L k),.vi k]) (n:=L.length) (fun k hk=> ?_) ?_
 ·show Q1 d74 (ω.upd 2000 [fl,.vi (b91 L k),.vi k])=some (0,[fl,.vi (arI .add .i64 (b91 L k) (ci (atV L k) 3)),.vi (k+1:Nat)])
  have D:=D [fl,.vi (b91 L k),.vi k]
  have v0:=U0 fl (.vi (b91 L k)) (.vi k)
  have v1:=U1 fl (.vi (b91 L k)) (.vi k)
  have v2:=U2 fl (.vi (b91 L k)) (.vi k)
  have hf': ∀i a,(ω.upd 2000 [fl,.vi (b91 L k),.vi k]).f i a=FT X i a:=fun i a=>by rw[ah9];exact hf i a
  generalize ω.upd 2000 [fl,.vi (b91 L k),.vi k]=ω' at*
  have inc:arI .add .i64 (Val.vi (k:Int)).toI 1=((k+1:Nat):Int):=a03 hk (by omega)
  obtain⟨h1,h2⟩:=hr _ (b02 hk)
  have dr: ∀j:Nat,den ω' (qx j)=Q9 (atV L k) j:=fun j=>by
   show R6 (den ω' r7).toL (ω'.w 2002).toI (j:Int)=_
   rw[D,v2];rfl
  have r3:den ω' (qx 3)=Q9 (atV L k) 3:=dr 3
  have r4:den ω' (qx 4)=Q9 (atV L k) 4:=dr 4
  have r5:den ω' (qx 5)=Q9 (atV L k) 5:=dr 5
  have r6:den ω' (qx 6)=Q9 (atV L k) 6:=dr 6
  rw[cj6]
  refine T7 ?_ (Q6 ?_ (T1 ?_ (T1 ?_ ?_)))
  ·rw[aD1,U9,ad3,v2,D];exact decide_eq_true (by show(k:Int)<(L.length:Int);omega)
  ·rw[V3,a08,ad3,v2];exact decide_eq_true (by show(0:Int)≤(k:Int);omega)
  ·rw[aG1]
   show(!(ω'.f 735 [den ω' (qx 3),den ω' (qx 4),den ω' (qx 5),den ω' (qx 6)]).toB)=false
   rw[hf',r3,r4,r5,r6]
   show(!as7 (ci (atV L k) 3) (ci (atV L k) 4) (ci (atV L k) 5) (ci (atV L k) 6))=false
   rw[h1];rfl
  ·show(ω'.f 736 [den ω' (qx 3),den ω' (qx 4),den ω' (qx 5),den ω' (qx 6)]).toB=false
   rw[hf',r3,r4,r5,r6]
   exact h2
  ·show some (0,[ω'.w 2000,Val.vi (arI .add .i64 (ω'.w 2001).toI (den ω' (qx 3)).toI),Val.vi (arI .add .i64 (ω'.w 2002).toI 1)])=_
   rw[v0,v1,v2,inc,r3];rfl
 ·show Q1 d74 (ω.upd 2000 [fl,.vi (b91 L L.length),.vi L.length])=_
  rw[cj6]
  refine T1 ?_ ?_
  ·rw[aD1,U9,ad3,U2,D];exact decide_eq_false (by show¬(L.length:Int)<(L.length:Int);omega)
  ·show some (1,[(ω.upd 2000 _).w 2000,(ω.upd 2000 _).w 2001,(ω.upd 2000 _).w 2002])=_
   rw[U0,U1,U2]
omit hf in
theorem cj8{L:List Val}(h: ∀r∈L,1≤ci r 3)(hb:b01 L≤1000000): ∀k,k≤L.length→b91 L k=(b01 (L.take k):Int)
 |0,_=>rfl
 |k+1,hk=>by
  have h1:=h _ (b02 (show k<L.length by omega))
  have e:b01 (L.take (k+1))=b01 (L.take k)+(ci (atV L k) 3).toNat:=by
   unfold b01
   rw[az0 (by omega),o9,aI9];rfl
  have hle:b01 (L.take (k+1))≤b01 L:=by
   have e2:b01 L=b01 (L.take (k+1))+b01 (L.drop (k+1)):=by
    unfold b01
    rw[←aI9,←o9,t8]
   omega
  show arI .add .i64 (b91 L k) (ci (atV L k) 3)=_
  rw[cj8 h hb k (by omega),ak8 (by omega) (by omega),e]
  omega
omit hf in
theorem dm7{T:List Val}{kk:Nat}(hT:T.length≤24)(hk:kk≤T.length)(D3: ∀vs,den (ω.upd 2000 vs) Z7= .vi T.length)(D4: ∀vs,den (ω.upd 2000 vs) W2= .vl T)(D9: ∀vs,den (ω.upd 2000 vs) Z8= .vi kk):
 R9 (fun vs=>Q1 d75 (ω.upd 2000 vs)) [.vi 0,.vi ((T.length:Int)-1),.vl []]=some (0,[.vi (ab8 T (T.length-kk)).length,.vi ((T.length:Int)-1-((T.length-kk:Nat):Int)),.vl (ab8 T (T.length-kk))]):=by
 have U0: ∀a b c:Val,(ω.upd 2000 [a,b,c]).w 2000=a:=fun a b c=>by rw[Q3];simp
 have U1: ∀a b c:Val,(ω.upd 2000 [a,b,c]).w 2001=b:=fun a b c=>by rw[Q3];simp
 have U2: ∀a b c:Val,(ω.upd 2000 [a,b,c]).w 2002=c:=fun a b c=>by rw[Q3];simp
 have e0:([.vi 0,.vi ((T.length:Int)-1),.vl []]:List Val)=(fun j:Nat=>[Val.vi (ab8 T j).length,.vi ((T.length:Int)-1-(j:Int)),.vl (ab8 T j)]) 0:=by
  show _=[Val.vi (0:Nat),.vi ((T.length:Int)-1-(0:Nat)),.vl []]
  simp
 rw[e0]
 refine Z6 (st:=fun j:Nat=>[Val.vi (ab8 T j).length,.vi ((T.length:Int)-1-(j:Int)),.vl (ab8 T j)]) (n:=T.length-kk) (fun j hj=> ?_) ?_
 ·show Q1 d75 (ω.upd 2000 [.vi (ab8 T j).length,.vi ((T.length:Int)-1-(j:Int)),.vl (ab8 T j)])=some (0,[.vi (ab8 T (j+1)).length,.vi ((T.length:Int)-1-((j+1:Nat):Int)),.vl (ab8 T (j+1))])
  have ei:((T.length:Int)-1-(j:Int))=((T.length-1-j:Nat):Int):=by omega
  have er:ab8 T (j+1)=ab8 T j++[aC6 (atV T (T.length-1-j))]:=rfl
  have el:(ab8 T j).length=j:=a18 (fun i=>aC6 (atV T (T.length-1-i))) j
  have D3:=D3 [.vi (ab8 T j).length,.vi ((T.length:Int)-1-(j:Int)),.vl (ab8 T j)]
  have D4:=D4 [.vi (ab8 T j).length,.vi ((T.length:Int)-1-(j:Int)),.vl (ab8 T j)]
  have D9:=D9 [.vi (ab8 T j).length,.vi ((T.length:Int)-1-(j:Int)),.vl (ab8 T j)]
  have v0:=U0 (.vi (ab8 T j).length) (.vi ((T.length:Int)-1-(j:Int))) (.vl (ab8 T j))
  have v1:=U1 (.vi (ab8 T j).length) (.vi ((T.length:Int)-1-(j:Int))) (.vl (ab8 T j))
  have v2:=U2 (.vi (ab8 T j).length) (.vi ((T.length:Int)-1-(j:Int))) (.vl (ab8 T j))
  generalize ω.upd 2000 [.vi (ab8 T j).length,.vi ((T.length:Int)-1-(j:Int)),.vl (ab8 T j)]=ω' at*
  rw[er]
  generalize ab8 T j=Q at*
  rw[ei]at v1
  have dc:den ω' cw4= .vl (Q++[aC6 (atV T (T.length-1-j))]):=by
   show Val.vl ((ω'.w 2002).toL++[Val.vl [R6 (den ω' W2).toL (ω'.w 2001).toI 0,R6 (den ω' W2).toL (ω'.w 2001).toI 1,R6 (den ω' W2).toL (ω'.w 2001).toI 2,R6 (den ω' W2).toL (ω'.w 2001).toI 3]])=_
   rw[v1,v2,D4];rfl
  rw[cj7]
  refine T7 ?_ (Q6 ?_ (Q6 ?_ (Q6 ?_ ?_)))
  ·rw[cx5,ad3,v1,D9];exact decide_eq_true (by show(kk:Int)≤((T.length-1-j:Nat):Int);omega)
  ·rw[Z1,V3,aD1,ad3,v1,a08,D3,R0,R0,decide_eq_true (by omega),decide_eq_true (by omega)];rfl
  ·rw[aD1,ad3,v1,U9,D4];exact decide_eq_true (by show((T.length-1-j:Nat):Int)<(T.length:Int);omega)
  ·rw[Z1,aC8,V3,ad3,v0,U9,U9,cx6,v2,a08,dc]
   exact aI6 (A:=Q) (x:=aC6 (atV T (T.length-1-j))) (by omega)
  ·show some (0,[Val.vi (den ω' cw4).toL.length,Val.vi (arI .sub .i64 (ω'.w 2001).toI 1),den ω' cw4])=_
   rw[v1,dc,aF8 (by show _≤((T.length-1-j:Nat):Int)-1;omega) (by show((T.length-1-j:Nat):Int)-1<_;omega)]
   show some (0,[Val.vi (Q++[aC6 (atV T (T.length-1-j))]).length,Val.vi (((T.length-1-j:Nat):Int)-1),Val.vl (Q++[aC6 (atV T (T.length-1-j))])])=_
   rw[show((T.length-1-j:Nat):Int)-1=(T.length:Int)-1-((j+1:Nat):Int) by omega]
 ·show Q1 d75 (ω.upd 2000 [.vi (ab8 T (T.length-kk)).length,.vi ((T.length:Int)-1-((T.length-kk:Nat):Int)),.vl (ab8 T (T.length-kk))])=_
  rw[cj7]
  refine T1 ?_ ?_
  ·rw[cx5,ad3,U1,D9];exact decide_eq_false (by show¬(kk:Int)≤(T.length:Int)-1-((T.length-kk:Nat):Int);omega)
  ·show some (1,[(ω.upd 2000 _).w 2000,(ω.upd 2000 _).w 2001,(ω.upd 2000 _).w 2002])=_
   rw[U0,U1,U2]
end
theorem cj9(T:List Val): ∀j,j≤T.length→ab8 T j=((T.drop (T.length-j)).reverse).map aC6
 |0,_=>by rw[Nat.sub_zero,List.drop_length];rfl
 |j+1,h=>by
  have hi:T.length-(j+1)<T.length:=by omega
  have e:T.drop (T.length-(j+1))=atV T (T.length-1-j)::T.drop (T.length-j):=by
   rw[G6 hi,show T.length-(j+1)+1=T.length-j by omega]
   congr 1
   simp[atV,i6,show T.length-1-j<T.length by omega,show T.length-(j+1)=T.length-1-j by omega]
  rw[show ab8 T (j+1)=ab8 T j++[aC6 (atV T (T.length-1-j))]from rfl,cj9 T j (by omega),e,List.reverse_cons,o9];rfl
theorem da2(evs:List Ev3){kk:Nat}(hk:kk≤evs.length):ab8 (evs.map evV) (evs.length-kk)++(evs.map evV).take kk=((evs.drop kk).reverse++evs.take kk).map evV:=by
 rw[cj9 _ _ (by rw[m7];omega),m7,show evs.length-(evs.length-kk)=kk by omega,←List.map_drop,←List.map_reverse,s7,o9,←List.map_take]
 rfl
theorem bz1(evs:List Ev3)(kk:Nat):((evs.drop kk).reverse++evs.take kk).Perm evs:=by
 have h1:((evs.drop kk).reverse++evs.take kk).Perm (evs.drop kk++evs.take kk):=List.Perm.append_right _ (List.reverse_perm _)
 refine h1.trans (List.perm_append_comm.trans ?_)
 rw[t8]
end Go.Ev.S9
namespace Go.Ev.S9
open Go Go.Ev
section
variable{X:Nat→List Val→Val}{k s l g:Int}
theorem bL2(X:Nat→List Val→Val)(a b c d:Val)(U:List Val):ofK X a b c d U≤U.length∧(∀i,i<ofK X a b c d U→ofE X a b c d U i=0)∧(ofK X a b c d U<U.length→ofE X a b c d U (ofK X a b c d U)≠0):=by
 unfold ofK
 cases h:(List.range U.length).find? fun i=>decide (ofE X a b c d U i≠0)with
 |none=>
  refine⟨e8 _,fun i hi=> ?_,fun h=>absurd h (K6 _)⟩
  have:=P0.1 h i (s9.2 hi)
  simpa using this
 |some j=>
  obtain⟨h1,h2,h3⟩:=an1 h
  refine⟨Nat.le_of_lt h1,fun i hi=> ?_,fun _=> ?_⟩
  ·have:=h3 i hi
   simpa using this
  ·simpa using h2
theorem bL3(hX:XOk X)(hR:T2 k s l g=true){vs:List Ev3}(hn:vs.length≤24)(hev:at0 vs)(hva:by9 vs): ∀i,i≤vs.length→(∀j,j<i→ofE X (.vi k) (.vi s) (.vi l) (.vi g) (vs.map evV) j=0)→
 ∃m,ofM X (.vi k) (.vi s) (.vi l) (.vi g) (vs.map evV) i= .vl m∧TOK (wdO k s l g) (vs.take i) m
 |0,_,_=>⟨[],rfl,cj3 hR⟩
 |i+1,hi,he=>by
  obtain⟨m,h1,h2⟩:=bL3 hX hR hn hev hva i (by omega) (fun j hj=>he j (by omega))
  have hl:(vs.take i).length=i:=by rw[j0];omega
  have hx:vs[i]∈vs:=A7 _
  have ht:at0 (vs.take i):=fun x hx=>hev x (I7 hx)
  have hr:atV (vs.map evV) i= .vl [.vi 1,.vs vs[i].1,.vi vs[i].2.1,.vi vs[i].2.2]:=by
   simp[atV,i6,show i<vs.length by omega,evV]
  have hw:=bn3 (k:=k) (s:=s) (l:=l) (g:=g) h1 hr
  have hei:ao5 (w9L k s l g m 1 vs[i].1 vs[i].2.1 vs[i].2.2)=0:=by
   rw[←hw];exact he i (by omega)
  obtain⟨R,m',a1,a2,a3,a4,a5,a6,a7⟩:=ba9 hX hR h2 (aD2 hR h2 ht (by omega)).2.2.1 ht (hev _ hx).2 hei
  refine⟨m',?_,?_⟩
  ·show aU1 X (evA (.vi k) (.vi s) (.vi l) (.vi g) (ofM X (.vi k) (.vi s) (.vi l) (.vi g) (vs.map evV) i) (atV (vs.map evV) i))=_
   rw[hw];exact a2
  ·rw[←M0 (show i<vs.length by omega)];exact a5
theorem da3{vs:List Ev3}(hva:by9 vs){i:Nat}(hi:i<vs.length){m:List Val}(h1:ofM X (.vi k) (.vi s) (.vi l) (.vi g) (vs.map evV) i= .vl m):ofE X (.vi k) (.vi s) (.vi l) (.vi g) (vs.map evV) i=0∨ofE X (.vi k) (.vi s) (.vi l) (.vi g) (vs.map evV) i=30:=by
 have hr:atV (vs.map evV) i= .vl [.vi 1,.vs vs[i].1,.vi vs[i].2.1,.vi vs[i].2.2]:=by
  simp[atV,i6,hi,evV]
 have hw:=bn3 (k:=k) (s:=s) (l:=l) (g:=g) h1 hr
 unfold ofE
 rw[hw]
 exact d93 (hva _ (A7 _)) rfl
noncomputable def bb0(X:Nat→List Val→Val)(k s l g:Int)(U:List Val)(i:Nat):List Val:=[.vi 0,if i=0 then .vi 0 else .vi (ofE X (.vi k) (.vi s) (.vi l) (.vi g) U (i-1)),.vi i,ofM X (.vi k) (.vi s) (.vi l) (.vi g) U i]
variable{ω:Opq}(hf: ∀i a,ω.f i a=FT X i a)
include hf
theorem dm8(hX:XOk X)(hR:T2 k s l g=true){vs:List Ev3}(hn:vs.length≤24)(hev:at0 vs)(hva:by9 vs)(w0:ω.w 0= .vi k)(w1:ω.w 1= .vi s)(w2:ω.w 2= .vi l)(w3:ω.w 3= .vi g)(D: ∀x,den (ω.upd 2000 x) X4= .vl (vs.map evV)):
 R9 (fun vs=>Q1 cW1 (ω.upd 2000 vs)) [.vi 0,.vi 0,.vi 0,.vl []]=some (ofR X (.vi k) (.vi s) (.vi l) (.vi g) (vs.map evV)):=by
 have W: ∀vs:List Val,∀n:Nat,n<2000→(ω.upd 2000 vs).w n=ω.w n:=fun vs n hn=>by rw[Q3,if_neg (by omega)]
 have U0: ∀a b c d:Val,(ω.upd 2000 [a,b,c,d]).w 2000=a:=fun a b c d=>by rw[Q3];simp
 have U1: ∀a b c d:Val,(ω.upd 2000 [a,b,c,d]).w 2001=b:=fun a b c d=>by rw[Q3];simp
 have U2: ∀a b c d:Val,(ω.upd 2000 [a,b,c,d]).w 2002=c:=fun a b c d=>by rw[Q3];simp
 have U3: ∀a b c d:Val,(ω.upd 2000 [a,b,c,d]).w 2003=d:=fun a b c d=>by rw[Q3];simp
 obtain⟨k1,k2,k3⟩:=bL2 X (.vi k) (.vi s) (.vi l) (.vi g) (vs.map evV)
 have tab:=bL3 hX hR hn hev hva
 have hl:(vs.map evV).length=vs.length:=m7 ..
 have prev: ∀i,i≤ofK X (.vi k) (.vi s) (.vi l) (.vi g) (vs.map evV)→(if i=0 then Val.vi 0 else Val.vi (ofE X (.vi k) (.vi s) (.vi l) (.vi g) (vs.map evV) (i-1)))= .vi 0:=fun i hi=>by
  by_cases c:i=0
  ·rw[if_pos c]
  ·rw[if_neg c,k2 (i-1) (by omega)]
 have step: ∀i,i<vs.length→i≤ofK X (.vi k) (.vi s) (.vi l) (.vi g) (vs.map evV)→Q1 cW1 (ω.upd 2000 (bb0 X k s l g (vs.map evV) i))=some (0,bb0 X k s l g (vs.map evV) (i+1)):=fun i hi hiK=>by
  obtain⟨m,h1,h2⟩:=tab i (by omega) (fun j hj=>k2 j (by omega))
  have hr:atV (vs.map evV) i= .vl [.vi 1,.vs vs[i].1,.vi vs[i].2.1,.vi vs[i].2.2]:=by
   simp[atV,i6,hi,evV]
  have hw:=bn3 (k:=k) (s:=s) (l:=l) (g:=g) h1 hr
  have ht:at0 (vs.take i):=fun x hx=>hev x (I7 hx)
  have hok:=aD2 hR h2 ht (by rw[j0];omega)
  have inc:arI .add .i64 (Val.vi (i:Int)).toI 1=((i+1:Nat):Int):=a03 hi (by omega)
  have hs1:bb0 X k s l g (vs.map evV) (i+1)=[.vi 0,.vi (ao5 (w9L k s l g m 1 vs[i].1 vs[i].2.1 vs[i].2.2)),.vi (i+1:Nat),aU1 X (w9L k s l g m 1 vs[i].1 vs[i].2.1 vs[i].2.2)]:=by rw[←hw];rfl
  rw[hs1]
  unfold bb0
  rw[prev i hiK,h1]
  have D:=D [.vi 0,.vi 0,.vi i,.vl m]
  have v0:=U0 (.vi 0) (.vi 0) (.vi i) (.vl m)
  have v1:=U1 (.vi 0) (.vi 0) (.vi i) (.vl m)
  have v2:=U2 (.vi 0) (.vi 0) (.vi i) (.vl m)
  have v3:=U3 (.vi 0) (.vi 0) (.vi i) (.vl m)
  have W:=W [.vi 0,.vi 0,.vi i,.vl m]
  have hf': ∀j a,(ω.upd 2000 [.vi 0,.vi 0,.vi i,.vl m]).f j a=FT X j a:=fun j a=>by rw[ah9];exact hf j a
  have a0:=(W 0 (by omega)).trans w0
  have a1:=(W 1 (by omega)).trans w1
  have a2:=(W 2 (by omega)).trans w2
  have a3:=(W 3 (by omega)).trans w3
  generalize ω.upd 2000 [.vi 0,.vi 0,.vi i,.vl m]=ω' at*
  have du: ∀j:Nat,den ω' (ux j)=Q9 (.vl [.vi 1,.vs vs[i].1,.vi vs[i].2.1,.vi vs[i].2.2]) j:=fun j=>by
   show R6 (den ω' X4).toL (ω'.w 2002).toI (j:Int)=_
   rw[D,v2,←hr];rfl
  have db:Q4 ω' bX=w9L k s l g m 1 vs[i].1 vs[i].2.1 vs[i].2.2:=by
   show [ω'.w 0,ω'.w 1,ω'.w 2,ω'.w 3,ω'.w 2003,den ω' (ux (0:Nat)),den ω' (ux (1:Nat)),den ω' (ux (2:Nat)),den ω' (ux (3:Nat))]=_
   rw[a0,a1,a2,a3,v3,du,du,du,du];rfl
  rw[bz0]
  refine T7 ?_ (Q6 ?_ (T1 ?_ (Q6 ?_ ?_)))
  ·rw[aD1,U9,ad3,v2,D];exact decide_eq_true (by show(i:Int)<((vs.map evV).length:Int);rw[hl];omega)
  ·rw[V3,a08,ad3,v2];exact decide_eq_true (by show(0:Int)≤(i:Int);omega)
  ·rw[aC9,a08,ad3,v1];rfl
  ·have v3':den ω' (.va 2003)= .vl m:=v3
   have a0':den ω' (.va 0)= .vi k:=a0
   rw[Z1,cj0 hf' hX v3' hok,B5]
   exact cF0 hf' a0' v3' (du 1) hok
  ·show some (0,[ω'.w 2000,ω'.f 732 (Q4 ω' bX),Val.vi (arI .add .i64 (ω'.w 2002).toI 1),ω'.f 733 (Q4 ω' bX)])=_
   rw[hf',hf',db,v0,v2,inc];rfl
 unfold ofR
 rw[hl]at k1 k3⊢
 by_cases c:ofK X (.vi k) (.vi s) (.vi l) (.vi g) (vs.map evV)+1<vs.length
 ·rw[if_pos c]
  refine Z6 (st:=bb0 X k s l g (vs.map evV)) (n:=ofK X (.vi k) (.vi s) (.vi l) (.vi g) (vs.map evV)+1) (fun i hi=>step i (by omega) (by omega)) ?_
  have hne:=k3 (by omega)
  generalize ofK X (.vi k) (.vi s) (.vi l) (.vi g) (vs.map evV)=K at*
  unfold bb0
  rw[if_neg (by omega),show K+1-1=K by omega]
  generalize ofE X (.vi k) (.vi s) (.vi l) (.vi g) (vs.map evV) K=e at*
  generalize ofM X (.vi k) (.vi s) (.vi l) (.vi g) (vs.map evV) (K+1)=M at*
  show Q1 cW1 (ω.upd 2000 [.vi 0,.vi e,.vi (K+1:Nat),M])=_
  rw[bz0]
  refine T7 ?_ (Q6 ?_ (T7 ?_ ?_))
  ·rw[aD1,U9,ad3,U2,D];exact decide_eq_true (by show((K+1:Nat):Int)<((vs.map evV).length:Int);rw[hl];omega)
  ·rw[V3,a08,ad3,U2];exact decide_eq_true (by show(0:Int)≤((K+1:Nat):Int);omega)
  ·rw[aC9,a08,ad3,U1,R0,decide_eq_false hne];rfl
  ·show some (2,[(ω.upd 2000 _).w 2001,(ω.upd 2000 _).w 2001,(ω.upd 2000 _).w 2002,(ω.upd 2000 _).w 2003])=_
   rw[U1,U2,U3]
 ·rw[if_neg c]
  refine Z6 (st:=bb0 X k s l g (vs.map evV)) (n:=vs.length) (fun i hi=>step i hi (by omega)) ?_
  have hlast:bb0 X k s l g (vs.map evV) vs.length=[.vi 0,if ofK X (.vi k) (.vi s) (.vi l) (.vi g) (vs.map evV)<vs.length then .vi (ofE X (.vi k) (.vi s) (.vi l) (.vi g) (vs.map evV) (ofK X (.vi k) (.vi s) (.vi l) (.vi g) (vs.map evV)))else .vi 0,.vi vs.length,ofM X (.vi k) (.vi s) (.vi l) (.vi g) (vs.map evV) vs.length]:=by
   unfold bb0
   by_cases c2:ofK X (.vi k) (.vi s) (.vi l) (.vi g) (vs.map evV)<vs.length
   ·rw[if_pos c2,if_neg (by omega),show vs.length-1=ofK X (.vi k) (.vi s) (.vi l) (.vi g) (vs.map evV) by omega]
   ·rw[if_neg c2,prev _ (by omega)]
  rw[hlast]
  generalize (if ofK X (.vi k) (.vi s) (.vi l) (.vi g) (vs.map evV)<vs.length then Val.vi (ofE X (.vi k) (.vi s) (.vi l) (.vi g) (vs.map evV) (ofK X (.vi k) (.vi s) (.vi l) (.vi g) (vs.map evV)))else .vi 0)=e
  generalize ofM X (.vi k) (.vi s) (.vi l) (.vi g) (vs.map evV) vs.length=M
  show Q1 cW1 (ω.upd 2000 [.vi 0,e,.vi vs.length,M])=_
  rw[bz0]
  refine T1 ?_ ?_
  ·rw[aD1,U9,ad3,U2,D];exact decide_eq_false (by show¬(vs.length:Int)<((vs.map evV).length:Int);rw[hl];omega)
  ·show some (1,[(ω.upd 2000 _).w 2000,(ω.upd 2000 _).w 2001,(ω.upd 2000 _).w 2002,(ω.upd 2000 _).w 2003])=_
   rw[U0,U1,U2,U3]
end
theorem cz1{W:Tb.Wd}{evs evs':List Ev3}{m m':List Val}(h:TOK W evs m)(h':TOK W evs' m')(hp:evs'.Perm evs):m'.Perm m:=by
 have hu:=Tb.Tab.uniq (h'.tab.perm hp) h.tab
 have nd: ∀{q:List Val},(q.map Q5).Nodup→q.Nodup:=fun {q} hq=>by
  rw[C6,M5]at hq
  exact C6.2 (hq.imp fun hne e=>hne (by rw[e]))
 have one: ∀{q q':List Val},(∀r∈q,nrm r)→(∀r∈q',nrm r)→(q.map Q5).Nodup→(∀p,lkP q p=lkP q' p)→ ∀r∈q,r∈q':=fun {q q'} n1 n2 hq he r hr=>by
  have h1:=aT4 hq hr
  rw[he]at h1
  obtain⟨r',hr',e1,e2⟩:=aI8 h1
  obtain⟨a,b,c,d,rfl,_,_⟩:=n1 r hr
  obtain⟨a',b',c',d',rfl,_,_⟩:=n2 r' hr'
  have e1:(⟨a',b',c'⟩:PaneM)=⟨a,b,c⟩:=e1
  cases e1
  have e2:d'=d:=e2
  subst e2
  exact hr'
 have hall: ∀p:PaneM,lkP m' p=lkP m p:=fun p=>hu p.key p.a p.b
 exact(G7 (nd h'.nd) (nd h.nd)).2 fun r=>⟨one h'.nrm h.nrm h'.nd hall r,one h.nrm h'.nrm h.nd (fun p=>(hall p).symm) r⟩
end Go.Ev.S9
namespace Go.Ev.S9
open Go Go.Ev
theorem bn4{v:Val}(h:isVi v=true): ∃n,v= .vi n:=by
 cases v with
 |vi n=>exact⟨n,rfl⟩
 |vs _=>cases h
 |vb _=>cases h
 |vl _=>cases h
theorem cT8{v:Val}(h:opsOk v=true): ∃l,v= .vl l∧ ∀r∈l,opOk r=true:=by
 cases v with
 |vl l=>exact⟨l,rfl,j5.1 h⟩
 |vs _=>cases h
 |vb _=>cases h
 |vi _=>cases h
theorem cT9{i n:Int}(h0:0≤n)(hn:n≤24):0≤b90 i n∧b90 i n≤n:=by
 unfold b90
 by_cases h:n≤0
 ·rw[if_pos h];omega
 ·rw[if_neg h]
  have e: ∀x:Int,arI .rem .i64 x n=x.tmod n:=fun x=>rfl
  rw[e,e]
  have h1:=Int.tmod_lt_of_pos i (show 0<n by omega)
  have h2:=Int.lt_tmod_of_pos i (show 0<n by omega)
  rw[ak8 (by omega) (by omega)]
  have h3:=Int.tmod_nonneg n (show 0≤i.tmod n+n by omega)
  have h4:=Int.tmod_lt_of_pos (i.tmod n+n) (show 0<n by omega)
  omega
section
variable{X:Nat→List Val→Val}{ω:Opq}(hf: ∀i a,ω.f i a=FT X i a)
include hf
theorem t_order(hX:XOk X)(hn:dB ω (.app 738 [.va 0,.va 1,.va 2,.va 3,.va 4,.va 5])=true):Q1 T_order ω=some (0,[.vb true]):=by
 have hn:(ω.f 738 [ω.w 0,ω.w 1,ω.w 2,ω.w 3,ω.w 4,ω.w 5]).toB=true:=hn
 rw[hf]at hn
 have hn:(isVi (ω.w 0)&&(isVi (ω.w 1)&&(isVi (ω.w 2)&&(isVi (ω.w 3)&&(isVi (ω.w 5)&&opsOk (ω.w 4))))))=true:=hn
 obtain⟨g0,hn⟩:=P8 hn
 obtain⟨g1,hn⟩:=P8 hn
 obtain⟨g2,hn⟩:=P8 hn
 obtain⟨g3,hn⟩:=P8 hn
 obtain⟨g5,hn⟩:=P8 hn
 obtain⟨k,w0⟩:=bn4 g0
 obtain⟨s,w1⟩:=bn4 g1
 obtain⟨l,w2⟩:=bn4 g2
 obtain⟨g,w3⟩:=bn4 g3
 obtain⟨b,w5⟩:=bn4 g5
 obtain⟨ops,w4,ho⟩:=cT8 hn
 unfold T_order
 have d734:dB ω (.app 734 [.va 4,.ci 24])=(!(List.range (min ops.length 100)).any (fun i=>cl1 (atV ops i))&&decide ((ops.length:Int)≤24)):=by
  show(ω.f 734 [ω.w 4,.vi 24]).toB=_
  rw[hf,w4];rfl
 cases hfew:(!(List.range (min ops.length 100)).any (fun i=>cl1 (atV ops i))&&decide ((ops.length:Int)≤24))with
 |false=>exact T7 (by rw[aG1,d734,hfew];rfl) rfl
 |true=>
 refine T1 (by rw[aG1,d734,hfew];rfl) ?_
 have hlen:ops.length≤24:=by
  have:=of_decide_eq_true (P8 hfew).2
  omega
 have d700:dB ω (.app 700 [.va 0,.va 1,.va 2,.va 3])=T2 k s l g:=by
  show(ω.f 700 [ω.w 0,ω.w 1,ω.w 2,ω.w 3]).toB=_
  rw[hf,w0,w1,w2,w3];rfl
 cases hR:T2 k s l g with
 |false=>exact T7 (by rw[aG1,d700,hR];rfl) rfl
 |true=>
 refine T1 (by rw[aG1,d700,hR];rfl) ?_
 have W: ∀vs:List Val,∀n:Nat,n<2000→(ω.upd 2000 vs).w n=ω.w n:=fun vs n hn=>by rw[Q3,if_neg (by omega)]
 obtain⟨m,evs,o1,o2,hT,hev,hva,hel,o3⟩:=cj5 hX hR hlen ho ops.length (e8 _)
 have hst:aV7 X k s l g ops ops.length=[.vb false,.vi (evs.map evV).length,.vi (ao7 k s l g evs:Int),.vi ops.length,.vl m,.vl (evs.map evV)]:=by
  unfold aV7
  rw[o1,o2,o3]
 have hlp:=dm5 hf hX hR hlen ho w0 w1 w2 w3 w4
 rw[hst]at hlp
 have hev24:evs.length≤24:=by omega
 have e0: ∀ω':Opq,(∀i a,ω'.f i a=FT X i a)→(∀n,n<2000→ω'.w n=ω.w n)→den ω' a83=W4 (0,[.vb false,.vi (evs.map evV).length,.vi (ao7 k s l g evs:Int),.vi ops.length,.vl m,.vl (evs.map evV)]):=fun ω' hf' W'=>by
  show ω'.f 766 [.vb false,.vi 0,.vi 0,.vi 0,.vl [],.vl [],.vi 0,.vi (ω'.w 4).toL.length,ω'.w 4,ω'.w 5,ω'.w 0,ω'.w 1,ω'.w 2,ω'.w 3,ω'.w 0,ω'.w 1,ω'.w 2,ω'.w 3,.vl []]=_
  rw[hf',W' 0 (by omega),W' 1 (by omega),W' 2 (by omega),W' 3 (by omega),W' 4 (by omega),w0,w1,w2,w3,w4,←hst];rfl
 have hfu: ∀vs,∀i a,(ω.upd 2000 vs).f i a=FT X i a:=fun vs i a=>by rw[ah9];exact hf i a
 have E0:=fun vs=>e0 (ω.upd 2000 vs) (hfu vs) (W vs)
 have e0:=e0 ω hf (fun _ _=>rfl)
 have hokm:=aD2 hR hT hev hev24
 have hcw:=bL1 hR hT hev
 obtain⟨L,hL,hLp⟩:=hX.x490 m (fun r hr=>ci0 (hT.nrm r hr))
 have P1: ∀ω':Opq,den ω' a83=W4 (0,[.vb false,.vi (evs.map evV).length,.vi (ao7 k s l g evs:Int),.vi ops.length,.vl m,.vl (evs.map evV)])→den ω' a24= .vl m∧den ω' Z7= .vi (evs.map evV).length∧den ω' W2= .vl (evs.map evV)∧den ω' aS6= .vi (ao7 k s l g evs:Int)∧den ω' aC4= .vb false:=fun ω' e=>by
  refine⟨?_,?_,?_,?_,?_⟩
  ·show R6 (den ω' a83).toL 1 4=_
   rw[e];rfl
  ·show R6 (den ω' a83).toL 1 1=_
   rw[e];rfl
  ·show R6 (den ω' a83).toL 1 5=_
   rw[e];rfl
  ·show R6 (den ω' a83).toL 1 2=_
   rw[e];rfl
  ·show R6 (den ω' a83).toL 1 0=_
   rw[e];rfl
 obtain⟨d1,d3,d4,d5,d2⟩:=P1 ω e0
 have dL:den ω r7= .vl L:=by
  show ω.f 490 [den ω a24]=_
  rw[hf,d1];exact hL
 have DL: ∀vs,den (ω.upd 2000 vs) r7= .vl L:=fun vs=>by
  show(ω.upd 2000 vs).f 490 [den (ω.upd 2000 vs) a24]=_
  rw[hfu,(P1 _ (E0 vs)).1];exact hL
 have hLl:=hLp.length_eq
 have hLc:b91 L L.length=(ao7 k s l g evs:Int):=by
  have e1:b01 L=b01 m:=by
   have h1:=Tb.twice (fun r x=>inR r x) evs L
   have h2:=Tb.twice (fun r x=>inR r x) evs m
   have h3:b01 L=Tb.sumN (L.map fun p=>(evs.filter fun x=>inR p x).length):=by
    unfold b01
    rw[u5 (fun r hr=>(aD0 hT (hLp.mem_iff.1 hr)).2.1)]
   have h4:b01 m=Tb.sumN (m.map fun p=>(evs.filter fun x=>inR p x).length):=by
    unfold b01
    rw[u5 (fun r hr=>(aD0 hT hr).2.1)]
   rw[h3,h4,h1,h2]
   congr 1
   exact u5 fun x _=>(hLp.filter _).length_eq
  have hb:=(by8 k s l g evs).1
  rw[cj8 (fun r hr=>(aD0 hT (hLp.mem_iff.1 hr)).1) (by rw[e1,hcw];omega) _ (e8 _),B0,e1,hcw]
 have e7:den ω aS7=W4 (0,[.vb false,.vi (b91 L L.length),.vi L.length]):=by
  show ω.f 769 [den ω aC4,.vi 0,.vi 0,ω.w 5,ω.w 0,ω.w 1,ω.w 2,ω.w 3,den ω Z7,den ω W2,den ω aS6,den ω aC5,den ω r7]=_
  rw[hf,d2,dL];rfl
 have hTl:(evs.map evV).length=evs.length:=m7 ..
 obtain⟨k0,k1⟩:=cT9 (i:=b) (n:=(evs.length:Int)) (by omega) (by omega)
 have d9: ∀ω':Opq,(∀i a,ω'.f i a=FT X i a)→ω'.w 5= .vi b→den ω' Z7= .vi (evs.map evV).length→den ω' Z8= .vi ((b90 b evs.length).toNat:Nat):=fun ω' hf' w5' d3'=>by
  show ω'.f 737 [ω'.w 5,den ω' Z7]=_
  rw[hf',w5',d3',hTl]
  show Val.vi (b90 b evs.length)=_
  rw[K9 k0]
 have D9:=fun vs=>d9 (ω.upd 2000 vs) (hfu vs) ((W vs 5 (by omega)).trans w5) (P1 _ (E0 vs)).2.1
 have d9:=d9 ω hf w5 d3
 generalize hkk:(b90 b evs.length).toNat=kk at*
 have hkl:kk≤evs.length:=by omega
 have e11: ∀ω':Opq,(∀i a,ω'.f i a=FT X i a)→den ω' W2= .vl (evs.map evV)→den ω' Z8= .vi (kk:Nat)→den ω' ad0=W4 (0,[.vi (ab8 (evs.map evV) ((evs.map evV).length-kk)).length,.vi (((evs.map evV).length:Int)-1-(((evs.map evV).length-kk:Nat):Int)),.vl (ab8 (evs.map evV) ((evs.map evV).length-kk))]):=fun ω' hf' d4' d9'=>by
  show ω'.f 770 [.vi 0,den ω' aS8,.vl [],ω'.w 0,ω'.w 1,ω'.w 2,ω'.w 3,den ω' Z7,den ω' W2,den ω' aC5,den ω' r7,den ω' Z8]=_
  rw[hf',d4',d9'];rfl
 have d13: ∀ω':Opq,den ω' W2= .vl (evs.map evV)→den ω' Z8= .vi (kk:Nat)→den ω' ad0=W4 (0,[.vi (ab8 (evs.map evV) ((evs.map evV).length-kk)).length,.vi (((evs.map evV).length:Int)-1-(((evs.map evV).length-kk:Nat):Int)),.vl (ab8 (evs.map evV) ((evs.map evV).length-kk))])→den ω' an4= .vl (ab8 (evs.map evV) ((evs.map evV).length-kk))∧den ω' X4= .vl (((evs.drop kk).reverse++evs.take kk).map evV):=fun ω' d4' d9' e'=>by
  have d12:den ω' an4= .vl (ab8 (evs.map evV) ((evs.map evV).length-kk)):=by
   show R6 (den ω' ad0).toL 1 2=_
   rw[e'];rfl
  refine⟨d12,?_⟩
  show Val.vl ((den ω' an4).toL++((den ω' W2).toL.drop (0:Int).toNat).take ((den ω' Z8).toI-0).toNat)=_
  rw[d12,d4',d9',←da2 evs hkl,hTl]
  show Val.vl (ab8 (evs.map evV) (evs.length-kk)++(evs.map evV).take ((kk:Int)-0).toNat)=_
  rw[Int.sub_zero,Int.toNat_natCast]
 have D13:=fun vs=>(d13 (ω.upd 2000 vs) (P1 _ (E0 vs)).2.2.1 (D9 vs) (e11 _ (hfu vs) (P1 _ (E0 vs)).2.2.1 (D9 vs))).2
 have e11':=e11 ω hf d4 d9
 obtain⟨d12,d13⟩:=d13 ω d4 d9 e11'
 have hpm:=bz1 evs kk
 generalize hvs:(evs.drop kk).reverse++evs.take kk=vs at*
 have hvl:=hpm.length_eq
 have hvt:at0 vs:=fun x hx=>hev x (hpm.mem_iff.1 hx)
 have hvv:by9 vs:=fun x hx=>hva x (hpm.mem_iff.1 hx)
 have e14:den ω ah2=W4 (ofR X (.vi k) (.vi s) (.vi l) (.vi g) (vs.map evV)):=by
  show ω.f 771 [.vi 0,.vi 0,.vi 0,.vl [],ω.w 0,ω.w 1,ω.w 2,ω.w 3,.vl [],.vi (den ω X4).toL.length,den ω X4,.vi (den ω X4).toL.length]=_
  rw[hf,w0,w1,w2,w3,d13];rfl
 have l771:=dm8 hf hX hR (by omega) hvt hvv w0 w1 w2 w3 D13
 have hrl:ab8 (evs.map evV) ((evs.map evV).length-kk)=((evs.map evV).drop kk).reverse.map aC6:=by
  rw[cj9 _ _ (by omega),show(evs.map evV).length-((evs.map evV).length-kk)=kk by omega]
 refine Q8 (r:=(0,[.vb false,.vi (evs.map evV).length,.vi (ao7 k s l g evs:Int),.vi ops.length,.vl m,.vl (evs.map evV)])) hlp e0 ?_
 refine Q6 (cj0 hf hX d1 hokm) ?_
 refine Q8 (r:=(0,[.vb false,.vi (b91 L L.length),.vi L.length])) ?_ e7 ?_
 ·show R9 _ [den ω aC4,.vi 0,.vi 0]=_
  rw[d2]
  have:=hokm.2.2.1
  exact dm6 hf (by omega) DL (fun r hr=>da0 hT (hLp.mem_iff.1 hr))
 refine T1 ?_ (Q6 ?_ ?_)
 ·rw[aC9,d5]
  have:(den ω (zo aS7 1))= .vi (b91 L L.length):=by
   show R6 (den ω aS7).toL 1 1=_
   rw[e7];rfl
  rw[this,hLc,R0,decide_eq_true rfl];rfl
 ·rw[V3,a08,d3];exact decide_eq_true (by show(0:Int)≤((evs.map evV).length:Int);omega)
 refine Q8 ?_ e11' ?_
 ·have d8:den ω aS8= .vi (((evs.map evV).length:Int)-1):=by
   show Val.vi (arI .sub .i64 (den ω Z7).toI 1)=_
   rw[d3,aF8 (by rw[R0];omega) (by rw[R0];omega),R0]
  show R9 _ [.vi 0,den ω aS8,.vl []]=_
  rw[d8]
  exact dm7 (by omega) (by omega) (fun vs=>(P1 _ (E0 vs)).2.1) (fun vs=>(P1 _ (E0 vs)).2.2.1) D9
 refine Q6 ?_ (Q6 ?_ ?_)
 ·rw[Z1]
  show(decide ((0:Int)≤(den ω Z8).toI)&&decide ((den ω Z8).toI≤(den ω Z7).toI))=true
  rw[d9,d3,R0,R0,decide_eq_true (by omega),decide_eq_true (by omega)];rfl
 ·rw[Z1,Z1,Z1]
  show((decide ((0:Int)≤(den ω Z8).toI)&&decide ((den ω Z8).toI≤((den ω W2).toL.length:Int)))&&(decide ((den ω (zo ad0 0)).toI=((den ω an4).toL.length:Int))&&dB ω (zb (zL X4) 1000000)))=true
  have:(den ω (zo ad0 0))= .vi (ab8 (evs.map evV) ((evs.map evV).length-kk)).length:=by
   show R6 (den ω ad0).toL 1 0=_
   rw[e11'];rfl
  rw[this,d9,d4,d12,V3,U9,a08,d13,R0,R0,a75,a75,a75,decide_eq_true (by omega),decide_eq_true (by omega),decide_eq_true rfl,decide_eq_true (by rw[m7];omega)];rfl
 refine Q8 ?_ e14 ?_
 ·show R9 _ [.vi 0,.vi 0,.vi 0,.vl []]=_
  exact l771
 obtain⟨K1,K2,K3⟩:=bL2 X (.vi k) (.vi s) (.vi l) (.vi g) (vs.map evV)
 have hvm:(vs.map evV).length=vs.length:=m7 ..
 have herr:ofK X (.vi k) (.vi s) (.vi l) (.vi g) (vs.map evV)<vs.length→ofE X (.vi k) (.vi s) (.vi l) (.vi g) (vs.map evV) (ofK X (.vi k) (.vi s) (.vi l) (.vi g) (vs.map evV))=30:=fun hc=>by
  obtain⟨m1,q1,_⟩:=bL3 hX hR (by omega) hvt hvv _ (Nat.le_of_lt hc) K2
  rcases da3 hvv hc q1 with h|h
  ·exact absurd h (K3 (by omega))
  ·exact h
 unfold ofR at e14⊢
 rw[hvm]at e14 K1 K3⊢
 by_cases c:ofK X (.vi k) (.vi s) (.vi l) (.vi g) (vs.map evV)+1<vs.length
 ·rw[if_pos c]at e14⊢
  rw[herr (by omega)]at e14
  show Q1 (.ite (ze aI0 30) _ _) ω=_
  refine T7 ?_ rfl
  have:den ω aI0= .vi 30:=by
   show R6 (den ω ah2).toL 1 0=_
   rw[e14];rfl
  rw[aC8,a08,this];rfl
 ·rw[if_neg c]at e14⊢
  show Q1 (.ite (.op (.cmp .neq) [aH9,.ci 0]) _ _) ω=_
  have d15:den ω aH9=if ofK X (.vi k) (.vi s) (.vi l) (.vi g) (vs.map evV)<vs.length then .vi (ofE X (.vi k) (.vi s) (.vi l) (.vi g) (vs.map evV) (ofK X (.vi k) (.vi s) (.vi l) (.vi g) (vs.map evV)))else .vi 0:=by
   show R6 (den ω ah2).toL 1 1=_
   rw[e14];rfl
  by_cases c2:ofK X (.vi k) (.vi s) (.vi l) (.vi g) (vs.map evV)<vs.length
  ·rw[if_pos c2,herr c2]at d15
   refine T7 ?_ (T7 ?_ rfl)
   ·rw[aC9,a08,d15];rfl
   ·rw[aC8,a08,d15];rfl
  ·rw[if_neg c2]at d15
   obtain⟨m2,q1,q2⟩:=bL3 hX hR (by omega) hvt hvv vs.length (e8 _) (fun j hj=>K2 j (by omega))
   rw[B0]at q2
   have d16:den ω ad1= .vl m2:=by
    show R6 (den ω ah2).toL 1 3=_
    rw[e14,←q1];rfl
   have hp2:=cz1 hT q2 hpm
   have h490:ω.f 490 [.vl m2]=ω.f 490 [.vl m]:=by
    rw[hf,hf]
    exact hX.x490u m2 m (fun r hr=>ci0 (q2.nrm r hr)) hp2 q2.nd
   have hL2:ω.f 490 [.vl m]= .vl L:=by rw[hf];exact hL
   have d17:den ω ay3= .vb true:=by
    show ω.f 3 [ω.f 490 [den ω ad1],ω.f 490 [den ω a24]]=_
    rw[d16,d1,h490,hf]
    exact hX.x3 _
   refine T1 ?_ (Q6 (cj0 hf hX d16 (aD2 hR q2 hvt (by omega))) (Q6 ?_ (T7 ?_ ?_)))
   ·rw[aC9,a08,d15];rfl
   ·rw[V3,U9,a08]
    show decide (((ω.f 490 [den ω ad1]).toL.length:Int)≤1000000)=true
    rw[d16,h490,hL2]
    have:=hokm.2.2.1
    exact decide_eq_true (by show(L.length:Int)≤1000000;omega)
   ·show(den ω ay3).toB=true
    rw[d17];rfl
   ·show some (0,[den ω ay3])=_
    rw[d17]
end
end Go.Ev.S9
