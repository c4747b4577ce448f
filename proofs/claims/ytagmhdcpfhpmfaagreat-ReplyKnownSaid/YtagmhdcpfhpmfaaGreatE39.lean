import Derived.Test.YtagmhdcpfhpmfaaGreatE38
set_option linter.unusedVariables false
set_option linter.unusedSimpArgs false
namespace Go.Ev
open Go
variable{ω ω':Opq}{β β' βF:Bij}{K:Nat→Prop}{w0 w w':World}{h h':Heap}
section
variable{Q:Nat→SX}{ρ:Nat→Nat}{m:Nat}
structure Laid (Q:Nat→SX) (ρ:Nat→Nat) (m:Nat) (l:List (Option Blk)) (i:Nat) (h h2:Heap):Prop where
 wm:h2.wm=h.wm
 next:h2.next=h.next+(i+l.length-Nat.max i m)
 get: ∀b y,h2.get b=some y→(∃j x,l[j]? =some x∧i+j<m∧ρ (i+j)=b∧aT1 ρ (ak2 Q x)=some y)∨(∃j x,l[j]? =some x∧m≤i+j∧b=h.next+(i+j-Nat.max i m)∧aT1 ρ (ak2 Q x)=some y)∨(h.get b=some y∧ ∀j,j<l.length→i+j<m→ρ (i+j)≠b)
 keep: ∀b,b<h.next→(∀j,j<l.length→i+j<m→ρ (i+j)≠b)→h2.get b=h.get b
theorem c97{x:Option Blk}(e:c91 x=true): ∃y,aT1 ρ (ak2 Q x)=some y:=by
 unfold c91 at e
 split at e
 ·exact⟨_,rfl⟩
 ·cases e
theorem aL4: ∀(l:List (Option Blk)) (i:Nat) (h:Heap),(∀j x,l[j]? =some x→m≤i+j→c91 x=true)→(∀j,j<l.length→i+j<m→ρ (i+j)<h.next)→Laid Q ρ m l i h (Z2 ρ Q m l i h)
 | [],i,h,hr,hb=>by
   refine⟨rfl,?_,fun b y e=> .inr (.inr ⟨e,fun j hj=>by simp at hj⟩),fun _ _ _=>rfl⟩
   show h.next=h.next+(i+0-max i m)
   omega
 |x::r,i,h,hr,hb=>by
  by_cases him:i<m
  ·
   have hstep:Z2 ρ Q m (x::r) i h=Z2 ρ Q m r (i+1) (h.put (ρ i) (aT1 ρ (ak2 Q x))):=by
    simp only[Z2,a32 him,cond_true]
   have hρ:ρ i<h.next:=hb 0 (by simp) him
   have ih:=aL4 r (i+1) (h.put (ρ i) (aT1 ρ (ak2 Q x))) (fun j y hj hm=>hr (j+1) y (by simpa using hj) (by omega)) (fun j hj hm=>by rw[Heap.next_put];have:=hb (j+1) (by simp;omega) (by omega);rw[show i+(j+1)=i+1+j by omega]at this;exact this)
   rw[hstep]
   have hmax:Nat.max (i+1) m=m:=F8 (by omega)
   have hmax':Nat.max i m=m:=F8 (by omega)
   refine⟨ih.wm,?_,fun b y e=> ?_,fun b hb' hn=> ?_⟩
   ·rw[ih.next,Heap.next_put,hmax,hmax',List.length_cons];omega
   ·rcases ih.get b y e with⟨j,z,h1,h2,h3,h4⟩|⟨j,z,h1,h2,h3,h4⟩|⟨h1,h2⟩
    ·exact .inl ⟨j+1,z,by simpa using h1,by omega,by rw[show i+(j+1)=i+1+j by omega];exact h3,h4⟩
    ·refine .inr (.inl ⟨j+1,z,by simpa using h1,by omega,?_,h4⟩)
     rw[h3,Heap.next_put,hmax,hmax'];omega
    ·rw[Heap.get_put]at h1
     by_cases hbi:b=ρ i
     ·rw[if_pos hbi]at h1
      split at h1
      ·exact .inl ⟨0,x,rfl,by omega,hbi.symm,h1⟩
      ·cases h1
     ·rw[if_neg hbi]at h1
      refine .inr (.inr ⟨h1,fun j hj hm=> ?_⟩)
      cases j with
      |zero=>exact fun hh=>hbi hh.symm
      |succ j=>
       rw[show i+(j+1)=i+1+j by omega]
       exact h2 j (by simpa using hj) (by omega)
   ·rw[ih.keep b (by rw[Heap.next_put];exact hb') (fun j hj hm=>by rw[show i+1+j=i+(j+1) by omega];exact hn (j+1) (by simp;omega) (by omega)),Heap.get_put,if_neg]
    exact fun hh=>hn 0 (by simp) him hh.symm
  ·obtain⟨z,hz⟩:=c97 (Q:=Q) (ρ:=ρ) (hr 0 x rfl (by omega))
   have hstep:Z2 ρ Q m (x::r) i h=Z2 ρ Q m r (i+1) (h.new z):=by
    simp only[Z2,a78 him,cond_false,hz]
   have ih:=aL4 r (i+1) (h.new z) (fun j y hj hm=>hr (j+1) y (by simpa using hj) (by omega)) (fun j hj hm=>by omega)
   rw[hstep]
   have hmax:Nat.max (i+1) m=i+1:=Nat.max_eq_left (by omega)
   have hmax':Nat.max i m=i:=Nat.max_eq_left (by omega)
   refine⟨ih.wm,?_,fun b y e=> ?_,fun b hb' hn=> ?_⟩
   ·rw[ih.next,Heap.next_new,hmax,hmax',List.length_cons];omega
   ·rcases ih.get b y e with⟨j,u,h1,h2,h3,h4⟩|⟨j,u,h1,h2,h3,h4⟩|⟨h1,h2⟩
    ·omega
    ·refine .inr (.inl ⟨j+1,u,by simpa using h1,by omega,?_,h4⟩)
     rw[h3,Heap.next_new,hmax,hmax'];omega
    ·rw[Heap.get_new]at h1
     by_cases hbi:b=h.next
     ·rw[if_pos hbi]at h1
      split at h1
      ·simp only[d5]at h1;subst h1
       exact .inr (.inl ⟨0,x,rfl,by omega,by rw[hmax'];omega,hz⟩)
      ·cases h1
     ·rw[if_neg hbi]at h1
      exact .inr (.inr ⟨h1,fun j hj hm=>by omega⟩)
   ·rw[ih.keep b (by rw[Heap.next_new];omega) (fun j hj hm=>by omega),Heap.get_new,if_neg (by omega)]
end
section
variable{m base:Nat}{a:Fr}
theorem c16{P:Nat→SX→Prop}: ∀{ps:List AV} {t n:Nat} {es:List SX},cH4 m base h a ps t n=some es→(∀j e,es[j]? =some e→P (n+j) e)→ ∀k p,ps[k]? =some p→ ∃n' es',d07 m base n' h p (a.slot (t+k))=some es'∧ ∀j e,es'[j]? =some e→P (n'+j) e
 | [],t,n,es,e,hp,k,p,hk=>by simp at hk
 |q::ps,t,n,es,e,hp,k,p,hk=>by
  simp only[cH4]at e
  split at e
  ·rename_i e1 h1
   split at e
   ·rename_i e2 h2
    simp only[d5]at e;subst e
    cases k with
    |zero=>
     simp only[List.getElem?_cons_zero,d5]at hk;subst hk
     refine⟨n,e1,h1,fun j e hj=>hp j e ?_⟩
     have hlt:=(n9.1 hj).1
     rw[k8 hlt];exact hj
    |succ k=>
     simp only[List.getElem?_cons_succ]at hk
     obtain⟨n',es',g1,g2⟩:=c16 h2 (fun j e hj=>by
      have:=hp (e1.length+j) e (by rw[k9 (v4 _ _),A9];exact hj)
      rw[show n+e1.length+j=n+(e1.length+j) by omega];exact this) k p hk
     exact⟨n',es',by rw[show t+(k+1)=t+1+k by omega];exact g1,g2⟩
   ·cases e
  ·cases e
theorem c17{P:Nat→SX→Prop}: ∀{ps:List (Option Blk)} {i n:Nat} {es:List SX},cH5 m base h ps i n=some es→(∀j e,es[j]? =some e→P (n+j) e)→ ∀k p,ps[k]? =some p→ ∃n' es',bn8 1000 base n' p (h.get (bif Nat.blt (i+k) m then i+k else base+(i+k-m)))=some es'∧ ∀j e,es'[j]? =some e→P (n'+j) e
 | [],i,n,es,e,hp,k,p,hk=>by simp at hk
 |q::ps,i,n,es,e,hp,k,p,hk=>by
  simp only[cH5]at e
  split at e
  ·rename_i e1 h1
   split at e
   ·rename_i e2 h2
    simp only[d5]at e;subst e
    cases k with
    |zero=>
     simp only[List.getElem?_cons_zero,d5]at hk;subst hk
     refine⟨n,e1,h1,fun j e hj=>hp j e ?_⟩
     have hlt:=(n9.1 hj).1
     rw[k8 hlt];exact hj
    |succ k=>
     simp only[List.getElem?_cons_succ]at hk
     obtain⟨n',es',g1,g2⟩:=c17 h2 (fun j e hj=>by
      have:=hp (e1.length+j) e (by rw[k9 (v4 _ _),A9];exact hj)
      rw[show n+e1.length+j=n+(e1.length+j) by omega];exact this) k p hk
     exact⟨n',es',by rw[show i+(k+1)=i+1+k by omega];exact g1,g2⟩
   ·cases e
  ·cases e
theorem cI4{x:AV}{v:Value}(hd:dB ω (c92 h x).1=true)(r:VR β ω x v):VR β ω (c92 h x).2 v:=by
 cases x with
 |ous b len s=>
  cases hg:h.get b with
  |none=>simp only[c92,hg];exact r
  |some y=>
   cases y with
   |arr e sig l=>
    simp only[c92,hg]at hd⊢
    cases hc:SX.beq len (.op .llen [l])with
    |true=>exact r
    |false=>
     rw[hc]at hd
     have:dI ω len=dI ω (.op .llen [l]):=of_decide_eq_true hd
     show VR β ω (.ous b (.op .llen [l]) s) v
     simp only[VR]at r⊢
     rw[←this];exact r
   |_=>simp only[c92,hg];exact r
 |_=>exact r
theorem bG8: ∀{xs:List AV} {vs:List Value},dB ω (bl9 h xs).1=true→VRs β ω xs vs→VRs β ω (bl9 h xs).2 vs
 | [],vs,hd,r=>r
 |x::xs,vs,hd,⟨v,vr,e,p,q⟩=>by
  simp only[bl9]at hd⊢
  obtain⟨d1,d2⟩:=bm0 hd
  exact⟨v,vr,e,cI4 d1 p,bG8 d2 q⟩
theorem cp4{pc:PC}(hp:bN2 ω pc): ∀l:List SX,I9 ω (do2 pc l)=I9 ω l
 | []=>rfl
 |a::r=>by simp only[do2,I9,bN3 hp,cp4 hp r]
theorem de6{xs:List AV}{us:List Value}(ra:VRs β ω xs us)(hl:xs.length≤256):FrR β ω ⟨a62 xs 0 TF.empty,xs.length,[],0,[],none⟩ {tmps:=us.toArray,defers:=[]}:=by
 have:=bq9 (fn:=0) (nt:=xs.length) ra (by rw[show Nat.max xs.length xs.length=xs.length from Nat.max_self _];exact hl)
 rw[show Nat.max xs.length xs.length=xs.length from Nat.max_self _,show xs.length-us.toArray.size=0 by rw[C7,ra.length];exact D1 _]at this
 simpa using this
end
theorem b53{src:List BSrc}{mt:Nat}{post:List (Option Blk)}: ∀{l:List (Option Blk)} {i:Nat},b46 src mt post l i=true→src.length≤i+l.length∧ ∀j x,l[j]? =some x→(i+j<src.length→clB src mt post x=true)∧(src.length≤i+j→c91 x=true)
 | [],i,e=>⟨by simp only[b46,J4]at e;simpa using e,fun j x hx=>by simp at hx⟩
 |x::l,i,e=>by
  simp only[b46]at e
  by_cases hi:i<src.length
  ·rw[a32 hi]at e
   simp only[cond_true,d6]at e
   obtain⟨h1,h2⟩:=b53 e.2
   refine⟨by simp only[List.length_cons];omega,fun j y hy=> ?_⟩
   cases j with
   |zero=>
    simp only[List.getElem?_cons_zero,d5]at hy;subst hy
    exact⟨fun _=>e.1,fun hh=>by omega⟩
   |succ j=>
    simp only[List.getElem?_cons_succ]at hy
    have:=h2 j y hy
    rw[show i+(j+1)=i+1+j by omega];exact this
  ·rw[a78 hi]at e
   simp only[cond_false,d6]at e
   obtain⟨h1,h2⟩:=b53 e.2
   refine⟨by simp only[List.length_cons];omega,fun j y hy=> ?_⟩
   cases j with
   |zero=>
    simp only[List.getElem?_cons_zero,d5]at hy;subst hy
    exact⟨fun hh=>by omega,fun _=>e.1⟩
   |succ j=>
    simp only[List.getElem?_cons_succ]at hy
    have:=h2 j y hy
    rw[show i+(j+1)=i+1+j by omega];exact this
theorem am4{post:List (Option Blk)}{mt m base:Nat}: ∀{l:List AV} {t:Nat} {o:OwnP},o∈bG4 post mt m base l t→base≤o.blk
 | [],t,o,ho=>by cases ho
 |p::l,t,o,ho=>by
  cases p<;>simp only[bG4]at ho<;>try exact am4 ho
  rename_i i x s
  cases hm:Nat.ble m i with
  |false=>rw[hm]at ho;exact am4 ho
  |true=>
   rw[hm]at ho
   simp only[cond_true]at ho
   split at ho
   ·rcases A0.1 ho with rfl|ho
    ·exact v4 _ _
    ·exact am4 ho
   ·exact am4 ho
mutual
theorem c18{F:AV→AV}(h1: ∀l,F (.agg l)= .agg (l.map F))(h2: ∀l,F (.tup l)= .tup (l.map F))(h3: ∀x,U6 x=true→U6 (F x)=true): ∀v:AV,a46 (F v)=(a46 v).map F
 | .agg l=>by rw[h1];rfl
 | .tup l=>by rw[h2];exact bG9 h1 h2 h3 l
 | .bool a=>by rw[M0 (h3 _ rfl)];rfl
 | .int a b=>by rw[M0 (h3 _ rfl)];rfl
 | .str a=>by rw[M0 (h3 _ rfl)];rfl
 | .nilp=>by rw[M0 (h3 _ rfl)];rfl
 | .ptr a b=>by rw[M0 (h3 _ rfl)];rfl
 | .glob a=>by rw[M0 (h3 _ rfl)];rfl
 | .nils=>by rw[M0 (h3 _ rfl)];rfl
 | .sl a b c d=>by rw[M0 (h3 _ rfl)];rfl
 | .us a b c d=>by rw[M0 (h3 _ rfl)];rfl
 | .es a b c=>by rw[M0 (h3 _ rfl)];rfl
 | .es0=>by rw[M0 (h3 _ rfl)];rfl
 | .nilm=>by rw[M0 (h3 _ rfl)];rfl
 | .map a=>by rw[M0 (h3 _ rfl)];rfl
 | .nilf=>by rw[M0 (h3 _ rfl)];rfl
 | .func a b c=>by rw[M0 (h3 _ rfl)];rfl
 | .yield a=>by rw[M0 (h3 _ rfl)];rfl
 | .nili=>by rw[M0 (h3 _ rfl)];rfl
 | .iface a b=>by rw[M0 (h3 _ rfl)];rfl
 | .opq a=>by rw[M0 (h3 _ rfl)];rfl
 | .oint a b=>by rw[M0 (h3 _ rfl)];rfl
 | .ostr a=>by rw[M0 (h3 _ rfl)];rfl
 | .obool a=>by rw[M0 (h3 _ rfl)];rfl
 | .osl a b c d=>by rw[M0 (h3 _ rfl)];rfl
 | .optr a b c d=>by rw[M0 (h3 _ rfl)];rfl
 | .ous a b c=>by rw[M0 (h3 _ rfl)];rfl
 | .atl a=>by rw[M0 (h3 _ rfl)];rfl
 | .any=>by rw[M0 (h3 _ rfl)];rfl
theorem bG9{F:AV→AV}(h1: ∀l,F (.agg l)= .agg (l.map F))(h2: ∀l,F (.tup l)= .tup (l.map F))(h3: ∀x,U6 x=true→U6 (F x)=true): ∀l:List AV,aw8 (l.map F)=(aw8 l).map F
 | []=>rfl
 |a::r=>by simp only[o9,aw8,u4,c18 h1 h2 h3 a,bG9 h1 h2 h3 r]
end
theorem sh1{F o v:AV}(h1:U6 o=true)(h2:U6 F=true)(h:X0 o v=true):X0 F v=true:=by
 have hv:U6 v=true:=by
  cases o<;>first
   |(exfalso;simp[U6]at h1;done)
   |(simp only[X0]at h;cases v<;>first|rfl|((cases h;done)))
 cases F<;>first
  |(exfalso;simp[U6]at h2;done)
  |(simp only[X0];cases v<;>first|rfl|((cases hv;done)))
mutual
theorem cQ5{F:AV→AV}(h1: ∀l,F (.agg l)= .agg (l.map F))(h2: ∀l,F (.tup l)= .tup (l.map F))(h3: ∀x,U6 x=true→U6 (F x)=true): ∀(o v:AV),X0 o v=true→X0 (F o) v=true
 | .agg l,v,h=>by
   rw[h1]
   simp only[X0]at h⊢
   split at h
   ·rw[s9];exact h
   ·cases h
 | .tup l,v,h=>by
   rw[h2]
   simp only[X0]at h⊢
   split at h
   ·exact cp5 h1 h2 h3 l _ h
   ·cases h
 | .bool a,v,h=>sh1 rfl (h3 _ rfl) h
 | .int a b,v,h=>sh1 rfl (h3 _ rfl) h
 | .str a,v,h=>sh1 rfl (h3 _ rfl) h
 | .nilp,v,h=>sh1 rfl (h3 _ rfl) h
 | .ptr a b,v,h=>sh1 rfl (h3 _ rfl) h
 | .glob a,v,h=>sh1 rfl (h3 _ rfl) h
 | .nils,v,h=>sh1 rfl (h3 _ rfl) h
 | .sl a b c d,v,h=>sh1 rfl (h3 _ rfl) h
 | .us a b c d,v,h=>sh1 rfl (h3 _ rfl) h
 | .es a b c,v,h=>sh1 rfl (h3 _ rfl) h
 | .es0,v,h=>sh1 rfl (h3 _ rfl) h
 | .nilm,v,h=>sh1 rfl (h3 _ rfl) h
 | .map a,v,h=>sh1 rfl (h3 _ rfl) h
 | .nilf,v,h=>sh1 rfl (h3 _ rfl) h
 | .func a b c,v,h=>sh1 rfl (h3 _ rfl) h
 | .yield a,v,h=>sh1 rfl (h3 _ rfl) h
 | .nili,v,h=>sh1 rfl (h3 _ rfl) h
 | .iface a b,v,h=>sh1 rfl (h3 _ rfl) h
 | .opq a,v,h=>sh1 rfl (h3 _ rfl) h
 | .oint a b,v,h=>sh1 rfl (h3 _ rfl) h
 | .ostr a,v,h=>sh1 rfl (h3 _ rfl) h
 | .obool a,v,h=>sh1 rfl (h3 _ rfl) h
 | .osl a b c d,v,h=>sh1 rfl (h3 _ rfl) h
 | .optr a b c d,v,h=>sh1 rfl (h3 _ rfl) h
 | .ous a b c,v,h=>sh1 rfl (h3 _ rfl) h
 | .atl a,v,h=>sh1 rfl (h3 _ rfl) h
 | .any,v,h=>sh1 rfl (h3 _ rfl) h
theorem cp5{F:AV→AV}(h1: ∀l,F (.agg l)= .agg (l.map F))(h2: ∀l,F (.tup l)= .tup (l.map F))(h3: ∀x,U6 x=true→U6 (F x)=true): ∀(o v:List AV),a35 o v=true→a35 (o.map F) v=true
 | [],v,h=>h
 |a::r,v,h=>by
  simp only[a35,o9]at h⊢
  split at h
  ·rw[d6]at h⊢
   exact⟨cQ5 h1 h2 h3 a _ h.1,cp5 h1 h2 h3 r _ h.2⟩
  ·cases h
end
theorem aL5(Q:Nat→SX): ∀l:List AV,aw9 Q l=l.map (aa2 Q)
 | []=>rfl
 |a::r=>by simp only[aw9,o9,aL5 Q r]
theorem b54(ρ:Nat→Nat): ∀l:List AV,aT0 ρ l=l.map (bg2 ρ)
 | []=>rfl
 |a::r=>by simp only[aT0,o9,b54 ρ r]
theorem cp6{F:AV→AV}: ∀{ps:List AV} {us:List Value},ps.length=us.length→(∀(k:Nat) (p:AV) (u:Value),ps[k]? =some p→us[k]? =some u→VR β ω (F p) u)→VRs β ω (ps.map F) us
 | [],[],_,_=>rfl
 | [],_::_,h,_=>by cases h
 |_::_,[],h,_=>by cases h
 |p::ps,u::us,h,hk=>⟨u,us,rfl,hk 0 p u rfl rfl,cp6 (by simpa using h) (fun k q v h1 h2=>hk (k+1) q v (by simpa using h1) (by simpa using h2))⟩
end Go.Ev
