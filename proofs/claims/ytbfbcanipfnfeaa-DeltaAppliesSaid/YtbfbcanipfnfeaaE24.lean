import Derived.Test.YtbfbcanipfnfeaaE23
set_option linter.unusedVariables false
set_option linter.unusedSimpArgs false
namespace Go.Ev
open Go
variable{E:Env}{β:Bij}{ω:Opq}{K:Nat→Prop}{w0 w:World}{h h':Heap}
variable{ops:Array Oper}{l r:List PO}{hs:Heap}{βs:Bij}
theorem aL5{a:Fr}: ∀{pend:List Pend},aa2 E a h pend=true→ ∀p∈pend,R9 p.o=false→(∃h2,S5 E a.ev p.o h= .val p.v h2)∨ ∃e h2,p.nd=some e∧S5 E a.ev p.o h= .need e p.v h2
 | [],_,p,hp,_=>by cases hp
 |q::r,hr,p,hp,ha=>by
  simp only[aa2]at hr
  obtain⟨h1,h2⟩:=M6 hr
  cases hp with
  |head=>
   rw[ha,A0]at h1
   unfold bv5 at h1
   split at h1
   ·rename_i v' h2 hv
    exact .inl ⟨h2,by rw[hv,AV.beq_eq _ _ h1]⟩
   ·rename_i e v' h2 hv
    obtain⟨g1,g2⟩:=M6 h1
    unfold dd2 at g1
    split at g1
    ·rename_i x hx
     exact .inr ⟨e,h2,by rw[hx,SX.beq_eq _ _ g1],by rw[hv,AV.beq_eq _ _ g2]⟩
    ·cases g1
   ·cases h1
  |tail _ hp=>exact aL5 h2 p hp ha
theorem as0{a:Fr}{pend:List Pend}(hr:aa2 E a h pend=true){y:PO}{v:AV}(hf:a37 y.o=true)(ha:R9 y.o=false)(hp: ∃p∈pend,p.i=y.i∧p.o=y.o∧p.v=v∧cV8 ω p):aT3 E ω a.ev y.o h v:=by
 obtain⟨p,hp,-,h2,h3,h4⟩:=hp
 rcases aL5 hr p hp (by rw[h2];exact ha)with⟨h2',e⟩|⟨x,h2',hx,e⟩
 ·rw[h2,h3]at e
  have:=aj9 hf ha (.inl e)
  rw[this]at e;exact .inl e
 ·rw[h2,h3]at e
  have:=aj9 hf ha (.inr ⟨x,e⟩)
  rw[this]at e;exact .inr ⟨x,e,h4 x hx⟩
section
variable{done:Nat}{rest:List PO}{pend:List Pend}{a:Fr}{bid:Nat→Nat}{listed:Array Bool}{act:Act}
variable{R:Type}{A:Alg R}{T:R→Prop}
theorem DI.doneMore(hp:PlanOk ops.toList l r){x:PO}(d:DI E ω K w0 ops l hs βs done (x::rest) pend a h bid listed β act w):
 x∈l∧done.testBit x.i=false∧(∀j,x.m.testBit j=true→done.testBit j=true)∧eager (done|||2^x.i) rest=true∧
 (∀y∈rest,y∈l)∧(∀y∈l,(done|||2^x.i).testBit y.i=false→y∈rest)∧
 (∀y∈l,(done|||2^x.i).testBit y.i=true→ ∀j,y.m.testBit j=true→(done|||2^x.i).testBit j=true)∧
 (∀y∈l,Lis listed y.i→(done|||2^x.i).testBit y.i=true):=by
 have hx:=d.rl x (.head _)
 have eg:=d.eg
 simp only[eager,d6,m6]at eg
 obtain⟨⟨⟨e1,e2⟩,e3⟩,e4⟩:=eg
 refine⟨hx,e2,b21 e1,e4,fun y hy=>d.rl y (.tail _ hy),fun y hy hb=> ?_,fun y hy hb j hj=> ?_,fun y hy hl=>(ag5 _ _ _).2 (.inl (d.cd y hy hl))⟩
 ·have h1:done.testBit y.i=false:=by
   cases hh:done.testBit y.i with
   |false=>rfl
   |true=>rw[(ag5 _ _ _).2 (.inl hh)]at hb;cases hb
  have:=d.rd y hy h1
  cases this with
  |head=>rw[(ag5 done x.i x.i).2 (.inr rfl)]at hb;cases hb
  |tail _ hm=>exact hm
 ·rw[ag5]at hb⊢
  left
  rcases hb with hb|hb
  ·exact d.dm y hy hb j hj
  ·have:=hp.uniq y hy x hx hb
   subst this
   exact b21 e1 j hj
theorem DI.float(hA:AlgOk A T ω)(hp:PlanOk ops.toList l r){x:PO}(hf:x.fl=true)(d:DI E ω K w0 ops l hs βs done (x::rest) pend a h bid listed β act w){n:Nat}{k:Fr→Heap→R}
 (he:T (ev E (n+1) R A (.dops ops.toList (x::rest) pend a h k))):
 ∃done' rest' pend' a' h' bid',T (ev E n R A (.dops ops.toList rest' pend' a' h' k))∧DI E ω K w0 ops l hs βs done' rest' pend' a' h' bid' listed β act w:=by
 obtain⟨hx,hnd,hm,eg',rl',rd',dm',cd'⟩:=d.doneMore hp
 obtain⟨o,ho,ho2,hfl⟩:=hp.get x hx
 have hlim:=d.fr.lim
 have hfx:a37 x.o=true:=by rw[ho2,←hfl];exact hf
 have hself: ∀t∈Z0 ops.toList x.o,x.o.dst≠some t:=by
  intro t ht hd
  rcases hp.slots x hx t ht x hx hd with h1|⟨h1,_⟩
  ·rw[hm _ h1]at hnd;cases hnd
  ·rw[h1]at hf;cases hf
 have hother: ∀y∈l,done.testBit y.i=true→(∀t∈Z0 ops.toList y.o,x.o.dst≠some t)∧(∀t,y.o.dst=some t→x.o.dst≠some t):=by
  intro y hy hyd
  refine⟨fun t ht hd=> ?_,fun t h1 h2=> ?_⟩
  ·rcases hp.slots y hy t ht x hx hd with h1|⟨h1,_⟩
   ·rw[d.dm y hy hyd _ h1]at hnd;cases hnd
   ·rw[h1]at hf;cases hf
  ·have:=hp.once y hy x hx t h1 h2
   subst this
   rw[hyd]at hnd;cases hnd
 have hCx: ¬Lis listed x.i:=fun hh=>by rw[d.cd x hx hh]at hnd;cases hnd
 have hcase: ∀y∈l,(done|||2^x.i).testBit y.i=true→y=x∨done.testBit y.i=true∧y≠x:=by
  intro y hy hb
  rcases(ag5 _ _ _).1 hb with hb1|hb1
  ·exact .inr ⟨hb1,fun hh=>by subst hh;rw[hb1]at hnd;cases hnd⟩
  ·exact .inl (hp.uniq y hy x hx hb1)
 have hframe: ∀v,FrP β ω (fun t=> ∃y∈l,(done|||2^x.i).testBit y.i=true∧ ¬Lis listed y.i∧y.o.dst=some t∧t<(a.put x.o.dst v).nt) (a.put x.o.dst v) act:=by
  intro v
  refine(d.fr.ahead x.o.dst v).weaken ?_
  rintro t (⟨y,hy,g1,g2,g3,g4⟩|⟨g1,g2⟩)
  ·exact⟨y,hy,(ag5 _ _ _).2 (.inl g1),g2,g3,by rw[Fr.put_nt];exact g4⟩
  ·exact⟨x,hx,(ag5 _ _ _).2 (.inr rfl),hCx,g1,by rw[Fr.put_nt];exact g2⟩
 replace he:T (bH2 E (ev E n) A ops.toList x rest pend a h k (P6 ops.toList a x.o)):=he
 have hownslot: ∀v dd,x.o.dst=some dd→dd<(a.put x.o.dst v).nt→(a.put x.o.dst v).slot dd=v:=by
  intro v dd h1 h2
  rw[Fr.put_nt]at h2
  rw[Fr.put_slot hlim,if_pos ⟨h1,h2⟩]
 cases hw:P6 ops.toList a x.o with
 |none=>
  rw[hw]at he
  replace he:T (bk8 (ev E n) A ops.toList (x::rest) pend a h k (b90 ops.toList a x.o)):=he
  cases hs:b90 ops.toList a x.o with
  |none=>rw[hs]at he;exact absurd he hA.bad
  |some e=>
   rw[hs]at he
   obtain⟨h1,h2⟩:=hA.ite _ _ _ he
   cases hd:dB ω e with
   |true=>exact⟨done,x::rest,pend,_,h,bid,h1 hd,d.cond hd⟩
   |false=>exact⟨done,x::rest,pend,_,h,bid,h2 hd,d.cond hd⟩
 |some b=>
  rw[hw]at he
  cases b with
  |false=>
   refine⟨_,_,pend,a.put x.o.dst .undef,h,bid,he,d.hr,d.st,d.lsz,cd',d.cm,dm',eg',rl',rd',hframe _,fun y hy g1 g2=> ?_,fun y hy z hz g1 g2 g3 g4 q1 q2 q3 q4 hne=> ?_⟩
   ·rcases hcase y hy g1 with rfl|⟨hyd,hne⟩
    ·exact⟨hf,.inl ⟨by rw[U5 hlim hself];exact hw,hownslot _⟩⟩
    ·obtain⟨q1,q2⟩:=d.fl y hy hyd g2
     refine⟨q1,q2.step hlim (hother y hy hyd).1 (hother y hy hyd).2 (fun p hp _=>hp) (fun v _ hv _=>ar9 hlim (hother y hy hyd).1 hv) rfl (.refl _ _)⟩
   ·have nx: ∀y∈l,(done|||2^x.i).testBit y.i=true→P6 ops.toList (a.put x.o.dst .undef) y.o=some true→done.testBit y.i=true∧P6 ops.toList a y.o=some true:=by
     intro y hy g1 q
     rcases hcase y hy g1 with rfl|⟨hyd,_⟩
     ·rw[U5 hlim hself,hw]at q;cases q
     ·exact⟨hyd,by rw[U5 hlim (hother y hy hyd).1]at q;exact q⟩
    obtain⟨y1,y2⟩:=nx y hy g1 q3
    obtain⟨z1,z2⟩:=nx z hz g3 q4
    exact d.inj y hy z hz y1 g2 z1 g4 q1 q2 y2 z2 hne
  |true=>
   simp only[bH2,hf,cond_true]at he
   have plain: ∀(v:AV) (nd:Option SX),R9 x.o=false→aT3 E ω a.ev x.o h v→cV8 ω ⟨x.i,x.o,v,nd⟩→T (ev E n R A (.dops ops.toList rest (⟨x.i,x.o,v,nd⟩::pend) (a.put x.o.dst v) h k))→
    ∃done' rest' pend' a' h' bid',T (ev E n R A (.dops ops.toList rest' pend' a' h' k))∧DI E ω K w0 ops l hs βs done' rest' pend' a' h' bid' listed β act w:=by
    intro v nd ha hst hnd' he2
    refine⟨_,_,_,_,_,bid,he2,d.hr,d.st,d.lsz,cd',d.cm,dm',eg',rl',rd',hframe _,fun y hy g1 g2=> ?_,fun y hy z hz g1 g2 g3 g4 q1 q2 q3 q4 hne=> ?_⟩
    ·rcases hcase y hy g1 with rfl|⟨hyd,hne⟩
     ·exact⟨hf,.inr ⟨by rw[U5 hlim hself];exact hw,v,hownslot _,⟨_,.head _,rfl,rfl,rfl,hnd'⟩,.inl ⟨ha,ar9 hlim hself hst⟩⟩⟩
     ·obtain⟨q1,q2⟩:=d.fl y hy hyd g2
      exact⟨q1,q2.step hlim (hother y hy hyd).1 (hother y hy hyd).2 (fun p hp _=> .tail _ hp) (fun v _ hv _=>ar9 hlim (hother y hy hyd).1 hv) rfl (.refl _ _)⟩
    ·have nx: ∀y∈l,(done|||2^x.i).testBit y.i=true→R9 y.o=true→P6 ops.toList (a.put x.o.dst v) y.o=some true→done.testBit y.i=true∧P6 ops.toList a y.o=some true:=by
      intro y hy g1 q0 q
      rcases hcase y hy g1 with rfl|⟨hyd,_⟩
      ·rw[ha]at q0;cases q0
      ·exact⟨hyd,by rw[U5 hlim (hother y hy hyd).1]at q;exact q⟩
     obtain⟨y1,y2⟩:=nx y hy g1 q1 q3
     obtain⟨z1,z2⟩:=nx z hz g3 q2 q4
     exact d.inj y hy z hz y1 g2 z1 g4 q1 q2 y2 z2 hne
   cases hst:S5 E a.ev x.o h with
   |need e v h1=>
    rw[hst]at he
    simp only[bT8]at he
    cases ha:R9 x.o with
    |true=>rw[ha]at he;exact absurd he hA.bad
    |false=>
     rw[ha]at he
     obtain⟨hd,he2⟩:=hA.needA _ _ he
     have hh:h1=h:=aj9 hfx ha (.inr ⟨e,hst⟩)
     subst hh
     exact plain v (some e) ha (.inr ⟨e,hst,hd⟩) (fun x hx=>by simp only[a8]at hx;subst hx;exact hd) he2
   |val v h1=>
    rw[hst]at he
    simp only[bT8]at he
    obtain⟨hre,he2⟩:(!(R9 x.o)||aa2 E (a.put x.o.dst v) h1 pend)=true∧T (ev E n R A (.dops ops.toList rest (⟨x.i,x.o,v,none⟩::pend) (a.put x.o.dst v) h1 k)):=by
     cases hc:(!(R9 x.o)||aa2 E (a.put x.o.dst v) h1 pend)with
     |false=>rw[hc]at he;exact absurd he hA.bad
     |true=>rw[hc]at he;exact⟨rfl,he⟩
    cases ha:R9 x.o with
    |false=>
     have hh:h1=h:=aj9 hfx ha (.inl hst)
     subst hh
     exact plain v none ha (.inl hst) (fun x hx=>by cases hx) he2
    |true=>
     rw[ha]at hre
     simp only[o8,A0]at hre
     obtain⟨mk,blk,hA,hv,hh,-⟩:=bx6 (β:=β) (ω:=ω) (ρ:=act.eval) ha hst
     subst hh
     have hst1:St h β (h.new blk) β:=⟨by simp,fun _ _=>rfl,fun b hb _=>by left;rw[Heap.get_new,if_neg (by omega)],rfl⟩
     refine⟨_,_,_,_,_,fun i=>if i=x.i then h.next else bid i,he2,d.hr.lay blk,d.st.trans hst1,d.lsz,cd',d.cm,dm',eg',rl',rd',hframe _,fun y hy g1 g2=> ?_,fun y hy z hz g1 g2 g3 g4 q1 q2 q3 q4 hne=> ?_⟩
     ·rcases hcase y hy g1 with rfl|⟨hyd,hne⟩
      ·refine⟨hf,.inr ⟨by rw[U5 hlim hself];exact hw,v,hownslot _,⟨_,.head _,rfl,rfl,rfl,fun x hx=>by cases hx⟩,.inr ⟨ha,mk,blk,⟨fun h2=>by rw[by1 hlim hself];exact hA.step h2,hA.nar⟩,?_,?_,?_,?_,?_⟩⟩⟩
       ·simp only[if_true];exact hv
       ·simp only[if_true];exact d.st.le
       ·simp only[if_true];simp
       ·simp only[if_true];exact d.hr.fresh _ (b9 _)
       ·simp only[if_true];rw[Heap.get_new,if_pos rfl]
        by_cases hh:h.next<65536
        ·left;rw[if_pos hh]
        ·right;rw[if_neg hh]
      ·obtain⟨q1,q2⟩:=d.fl y hy hyd g2
       have hyi:y.i≠x.i:=fun hh=>hne (hp.uniq y hy x hx hh)
       obtain⟨oy,_,hyo,hyf⟩:=hp.get y hy
       refine⟨q1,q2.step hlim (hother y hy hyd).1 (hother y hy hyd).2 (fun p hp _=> .tail _ hp) (fun v' hna _ hpe=>as0 hre (by rw[hyo,←hyf];exact q1) hna hpe) (if_neg hyi) hst1⟩
     ·have nx: ∀y∈l,(done|||2^x.i).testBit y.i=true→P6 ops.toList (a.put x.o.dst v) y.o=some true→y=x∨y≠x∧done.testBit y.i=true∧P6 ops.toList a y.o=some true:=by
       intro y hy g1 q
       rcases hcase y hy g1 with rfl|⟨hyd,hne⟩
       ·exact .inl rfl
       ·exact .inr ⟨hne,hyd,by rw[U5 hlim (hother y hy hyd).1]at q;exact q⟩
      have old: ∀y∈l,y≠x→done.testBit y.i=true→ ¬Lis listed y.i→R9 y.o=true→P6 ops.toList a y.o=some true→bid y.i<h.next:=by
       intro y hy hne hyd hc hya hyw
       rcases(d.fl y hy hyd hc).2 with⟨z1,_⟩|⟨_,v',_,_,z⟩
       ·rw[hyw]at z1;cases z1
       ·rcases z with⟨z1,_⟩|⟨_,mk',blk',_,_,_,z5,_⟩
        ·rw[hya]at z1;cases z1
        ·exact z5
      have nei: ∀y∈l,y≠x→y.i≠x.i:=fun y hy hne hh=>hne (hp.uniq y hy x hx hh)
      rcases nx y hy g1 q3 with rfl|⟨yn,y1,y2⟩
      ·rcases nx z hz g3 q4 with rfl|⟨zn,z1,z2⟩
       ·exact absurd rfl hne
       ·simp only[if_true]
        rw[if_neg (nei z hz zn)]
        exact Nat.ne_of_gt (old z hz zn z1 g4 q2 z2)
      ·rcases nx z hz g3 q4 with rfl|⟨zn,z1,z2⟩
       ·simp only[if_true]
        rw[if_neg (nei y hy yn)]
        exact F6 (old y hy yn y1 g2 q1 y2)
       ·rw[if_neg (nei y hy yn),if_neg (nei z hz zn)]
        exact d.inj y hy z hz y1 g2 z1 g4 q1 q2 y2 z2 hne
   |cho e v c h1=>rw[hst]at he;exact absurd he hA.bad
   |enter f args=>rw[hst]at he;exact absurd he hA.bad
   |choice c=>rw[hst]at he;exact absurd he hA.bad
   |yield l args=>rw[hst]at he;exact absurd he hA.bad
   |defer d=>rw[hst]at he;exact absurd he hA.bad
   |bad=>rw[hst]at he;exact absurd he hA.bad
end
end Go.Ev
