import Derived.Test.YtbfbcanipfnfeaaE29
set_option linter.unusedVariables false
set_option linter.unusedSimpArgs false
namespace Go.Ev
open Go
variable{E:Env}{ω:Opq}{K:Nat→Prop}{w0 w w':World}{h h':Heap}{β β':Bij}
theorem aA0{n:Nat}{v:AV}{o:Out}(e:bS4 n h' v=some o):(Z2 v=true∧o= .plain v)∨
 (∃b len sz t cs,v= .us b 0 len sz∧n≤b∧h'.get b=some (.cells t 0 cs)∧cs.length=len*sz∧cs.all Z2=true∧o= .row t len sz cs):=by
 unfold bS4 at e
 split at e
 ·rename_i b len sz
  cases hb:Nat.ble n b with
  |false=>rw[hb]at e;cases e
  |true=>
   rw[hb]at e
   simp only[cond_true]at e
   split at e
   ·rename_i t cs hg
    cases hc:(Nat.beq cs.length (len*sz)&&cs.all Z2)with
    |false=>rw[hc]at e;cases e
    |true=>
     rw[hc]at e
     simp only[cond_true,a8]at e
     simp only[d6,D0]at hc
     exact .inr ⟨b,len,sz,t,cs,rfl,N1.1 hb,hg,hc.1,hc.2,e.symm⟩
   ·cases e
 ·cases hp:Z2 v with
  |false=>rw[hp]at e;cases e
  |true=>rw[hp]at e;simp only[cond_true,a8]at e;exact .inl ⟨rfl,e.symm⟩
theorem as8{β'':Bij}{n:Nat}: ∀{vs:List AV} {us:List Value} {l:List Out},af3 n h' vs=some l→aG7 l=0→VRs β' ω vs us→ ∀h,(Y0 l h).2=h∧VRs β'' ω (Y0 l h).1 us
 | [],us,l,e,hr,r,h=>by
   simp only[af3,a8]at e;subst e
   exact⟨rfl,r⟩
 |v::vs,us,l,e,hr,⟨u,ur,e2,p,q⟩,h=>by
  simp only[af3]at e
  split at e
  ·rename_i o os h1 h2
   simp only[a8]at e;subst e
   rcases aA0 h1 with⟨hp,rfl⟩|⟨b,len,sz,t,cs,rfl,_,_,_,_,rfl⟩
   ·obtain⟨g1,g2⟩:=as8 (β'':=β'') h2 (by simpa[aG7]using hr) q h
    exact⟨g1,u,ur,e2,b34 hp p,g2⟩
   ·simp[aG7]at hr
  ·cases e
def ck1(K:Nat→Prop)(hd:Heap)(β:Bij)(h':Heap)(β':Bij):Prop:=
 ∀b L y,h'.get b=some y→hd.next≤b→β' b=some L→(∀b2 x M,hd.get b2=some x→β b2=some M→M.blk≠L.blk)∧ ¬K L.blk
theorem ap0{K':Nat→Prop}{w1:World}(rh:HR β ω K w0 h w')(r':HR β' ω K' w1 h' w')(hap:ck1 K h β h' β'): ∀{vs:List AV} {us:List Value} {l:List Out},
 af3 h.next h' vs=some l→aG7 l≤1→VRs β' ω vs us→ ∃β'',VRs β'' ω (Y0 l h).1 us∧HR β'' ω K w0 (Y0 l h).2 w'∧St h β (Y0 l h).2 β''
 | [],us,l,e,hr,ra=>by
   simp only[af3,a8]at e;subst e
   exact⟨β,ra,rh,.refl _ _⟩
 |v::vs,us,l,e,hr,⟨u,ur,e2,p,q⟩=>by
  simp only[af3]at e
  split at e
  ·rename_i o os h1 h2
   simp only[a8]at e;subst e
   rcases aA0 h1 with⟨hp,rfl⟩|⟨b,len,sz,t,cs,rfl,hb,hg,hl,hall,rfl⟩
   ·obtain⟨β'',g1,g2,g3⟩:=ap0 rh r' hap h2 (by simpa[aG7]using hr) q
    exact⟨β'',⟨u,ur,e2,b34 hp p,g1⟩,g2,g3⟩
   ·obtain⟨L,cap,hL,hcap,hu⟩:=p
    obtain⟨ha1,ha2⟩:=hap b L _ hg hb hL
    obtain⟨C,lo,hi,xs,b1,b2,b3,b4,b5,b6,b7,b8⟩:=r'.blk b _ L hg hL
    have hrow:=HR.row rh L ha1 ha2 (r'.lt b L hL) (.cells t 0 cs) ⟨C,lo,hi,xs,b1,b2,b3,b4,aW5 hall b5,b6,b7,b8⟩
    obtain⟨k1,k2⟩:=as8 (β'':=β.add h.next L) h2 (by simp[aG7]at hr;exact hr) q (h.new (.cells t 0 cs))
    have hlay1:(Y0 (Out.row t len sz cs::os) h).1= .us h.next 0 len sz::(Y0 os (h.new (.cells t 0 cs))).1:=rfl
    have hlay2:(Y0 (Out.row t len sz cs::os) h).2=(Y0 os (h.new (.cells t 0 cs))).2:=rfl
    refine⟨β.add h.next L,?_,?_,?_⟩
    ·rw[hlay1]
     refine⟨u,ur,e2,⟨L,cap,?_,hcap,hu⟩,k2⟩
     simp[Bij.add]
    ·rw[hlay2,k1];exact hrow.1
    ·rw[hlay2,k1];exact hrow.2
  ·cases e
theorem aM6{K':Nat→Prop}{w1:World}(rh:HR β ω K w0 h w')(r':HR β' ω K' w1 h' w')(hap:ck1 K h β h' β'){v:AV}{u:Value}{b:Bool}{l:List Out}
 (e:bk2 h.next h' v=some (b,l)) (p:VR β' ω v u): ∃β'',VR β'' ω (b91 b l h).1 u∧HR β'' ω K w0 (b91 b l h).2 w'∧St h β (b91 b l h).2 β'':=by
 have one: ∀{c:Bool} {m:List Out},bv6 c m=some (b,l)→c=b∧m=l∧aG7 l≤1:=by
  intro c m hh
  unfold bv6 at hh
  cases hc:Nat.ble (aG7 m) 1 with
  |false=>rw[hc]at hh;cases hh
  |true=>
   rw[hc]at hh
   simp only[cond_true,a8,d7]at hh
   obtain⟨rfl,rfl⟩:=hh
   exact⟨rfl,rfl,N1.1 hc⟩
 unfold bk2 at e
 split at e
 ·rename_i vs
  cases ho:af3 h.next h' vs with
  |none=>rw[ho]at e;cases e
  |some m=>
   rw[ho]at e
   obtain⟨rfl,rfl,h1⟩:=one e
   obtain⟨xs,rfl,q⟩:=p
   obtain⟨β'',g1,g2,g3⟩:=ap0 rh r' hap ho h1 q
   exact⟨β'',⟨xs,rfl,g1⟩,g2,g3⟩
 ·rename_i hnt
  cases ho:af3 h.next h' [v]with
  |none=>rw[ho]at e;cases e
  |some m=>
   rw[ho]at e
   obtain⟨rfl,rfl,h1⟩:=one e
   obtain⟨β'',g1,g2,g3⟩:=ap0 (vs:=[v]) (us:=[u]) rh r' hap ho h1 ⟨u,[],rfl,p,rfl⟩
   refine⟨β'',?_,g2,g3⟩
   obtain⟨x,xr,e2,p2⟩: ∃a as,(Y0 m h).1=a::as∧VR β'' ω a u:=by
    cases hh:(Y0 m h).1 with
    |nil=>rw[hh]at g1;cases g1
    |cons a as=>
     rw[hh]at g1
     obtain⟨y,yr,e3,p3,_⟩:=g1
     cases e3
     exact⟨a,as,rfl,p3⟩
   show VR β'' ω ((Y0 m h).1.headD .undef) u
   rw[e2];exact p2
def a96(E:Env)(ω:Opq)(f:FuncId)(args:List AV)(h:Heap)(v:AV)(h':Heap):Prop:=
 ∀(K:Nat→Prop) (w0:World) (β:Bij) (w:World) (us:List Value),HR β ω K w0 h w→VRs β ω args us→
  Calls E.P f us.toArray w (fun e w'=> ∃u β',e= .returned u∧VR β' ω v u∧HR β' ω K w0 h' w'∧St h β h' β')
structure HookOk (E:Env) (ω:Opq):Prop where
 val: ∀(f:FuncId) (args:List AV) (h:Heap) (v:AV) (h':Heap),E.hook f args h= .val v h'→a96 E ω f args h v h'
 need: ∀(f:FuncId) (args:List AV) (h:Heap) (e:SX) (v:AV) (h':Heap),E.hook f args h= .need e v h'→dB ω e=true→a96 E ω f args h v h'
@[simp]theorem Heap.get_raise(h:Heap)(b:Nat):h.raise.get b=h.get b:=by cases h;rfl
@[simp]theorem Heap.next_raise(h:Heap):h.raise.next=h.next:=by cases h;rfl
@[simp]theorem Heap.wm_raise(h:Heap):h.raise.wm=h.next:=by cases h;rfl
theorem HR.raise(r:HR β ω K w0 h w):HR β ω (· <w.heap.size) w h.raise w:=by
 refine⟨fun b x L hg hb=>r.blk b x L (by simpa using hg) hb,fun b b' x x' L L' hg hg' hb hb' hne hw=>r.sep b b' x x' L L' (by simpa using hg) (by simpa using hg') hb hb' hne (by
     rw[Heap.wm_raise]at hw
     rcases hw with q|q|q
     ·rw[r.fresh b q]at hb;cases hb
     ·rw[r.fresh b' q]at hb';cases hb'
     ·exact .inr (.inr q)),fun b hb=>r.fresh b (by simpa using hb),
   fun b hb=>by rw[Heap.get_raise];exact r.fget b (by simpa using hb),r.lt,fun i hi=>hi,fun i _=>rfl,?_,b9 _,rfl,rfl,rfl,b9 _⟩
 intro b x L hg hw hb
 rw[Heap.wm_raise]at hw
 rw[r.fresh b hw]at hb;cases hb
theorem bo8{n:Nat}{b:Bool}{l:List Out}{v:AV}(h1:cq9 n (some (b,l)) v h'=true):bk2 n h' v=some (b,l):=by
 simp only[cq9]at h1
 cases hx:bk2 n h' v with
 |none=>rw[hx]at h1;cases h1
 |some p=>
  rw[hx]at h1
  simp only[cS7,d6]at h1
  obtain⟨c,m⟩:=p
  simp only at h1
  rw[aW6 h1.2]
  have:=h1.1
  simp only[beq_iff_eq]at this
  rw[this]
theorem bd7(r:HR β ω K w0 h w)(r':HR β' ω (· <w.heap.size) w h' w')(s':St h.raise β h' β'):HR β ω K w0 h w'∧ck1 K h β h' β':=by
 refine⟨r.later (fun i hi=>r'.keep i hi) r'.size r'.os r'.tape r'.out r'.dr,fun b L y hg hb hL=> ?_⟩
 have hwm:h'.wm=h.next:=s'.wm
 have hge:w.heap.size≤L.blk:=by
  have:=r'.free b _ L hg (by rw[hwm];exact hb) hL
  omega
 refine⟨fun b2 x M _ hM=> ?_,fun hk=> ?_⟩
 ·have:=r.lt b2 M hM;omega
 ·have:=o7 (r.kin _ hk) r.size;omega
theorem c24: ∀{n:Nat} {l:List Value},l.length=n→VRs β ω (rep n [.any]) l
 |0,[],_=> .nil
 |n+1,v::l,h=>⟨v,l,rfl,trivial,c24 (by simpa using h)⟩
theorem bz5: ∀n:Nat,(rep n [AV.any]).all AV.oneA=true
 |0=>rfl
 |n+1=>bz5 n
theorem ax4: ∀n:Nat,(rep n [AV.any]).length=n
 |0=>rfl
 |n+1=>by show(rep n [AV.any]).length+1=n+1;rw[ax4 n]
theorem BR.wide{L:Loc}{o:Option Obj}{e sz:Nat}{cs:List AV}(r:BR β ω L o (.cells e 0 cs))(hs:cs.length+sz≤L.ext):BR β ω L o (.cells e 0 (cs++rep sz [.any])):=by
 obtain⟨C,lo,hi,vs,q1,q2,q3,q4,q5,q6,q7,q8⟩:=r
 have hl:=q5.length
 have hlen:((C.toList.drop (L.off+cs.length)).take sz).length=sz:=by
  rw[e9,l6,Array.length_toList];omega
 refine⟨C,lo,hi,vs++(C.toList.drop (L.off+cs.length)).take sz,q1,q2,by rw[e8,ax4];exact hs,by rw[B2,q4,bz5];rfl,q5.append (c24 hlen),fun i hi2=> ?_,q7,q8⟩
 rw[e8,ax4]at hi2
 rcases d8 i cs.length with hlt|hge
 ·rw[q6 i hlt,j5 (by omega)]
 ·rw[j3 (by omega),n8,if_pos (by omega),o9,Array.getElem?_toList]
  congr 1;omega
theorem HR.capH{b e sz:Nat}{cs:List AV}{L:Loc}(r:HR β ω K w0 h w)(hg:h.get b=some (.cells e 0 cs))(hL:β b=some L)(hs:cs.length+sz≤L.ext):
 HR (β.add h.next L) ω (fun i=>i<w.heap.size∧i≠L.blk) w (capH h b e (cs++rep sz [.any])) w:=by
 have hle:Le β (β.add h.next L):=by
  intro b' M hb
  simp only[Bij.add]
  by_cases e:b'=h.next
  ·subst e;rw[r.fresh _ (b9 _)]at hb;cases hb
  ·rw[if_neg e];exact hb
 have a35: ∀z u,(Ev.capH h b e (cs++rep sz [.any])).get z=some u→z=h.next∧u= .cells e 0 (cs++rep sz [.any])∨z≠h.next∧z≠b∧h.get z=some u:=by
  intro z u hu
  simp only[Ev.capH]at hu
  rw[Heap.get_new]at hu
  simp only[Heap.next_raise,Heap.next_put,Heap.get_raise]at hu
  by_cases hz:z=h.next
  ·rw[if_pos hz]at hu
   split at hu
   ·simp only[a8]at hu;exact .inl ⟨hz,hu.symm⟩
   ·cases hu
  ·rw[if_neg hz,Heap.get_put]at hu
   by_cases hb:z=b
   ·rw[if_pos hb]at hu;split at hu<;>cases hu
   ·rw[if_neg hb]at hu;exact .inr ⟨hz,hb,hu⟩
 have hβ: ∀z M,z≠h.next→(β.add h.next L) z=some M→β z=some M:=by
  intro z M hz hM
  simp only[Bij.add]at hM;rwa[if_neg hz]at hM
 have hβ0: ∀M,(β.add h.next L) h.next=some M→M=L:=by
  intro M hM
  rw[Bij.add_self,a8]at hM;exact hM.symm
 refine⟨?_,?_,?_,?_,?_,fun i hi=>hi.1,fun i _=>rfl,?_,b9 _,rfl,rfl,rfl,b9 _⟩
 ·intro z u M hu hM
  rcases a35 z u hu with⟨rfl,rfl⟩|⟨h1,h2,h3⟩
  ·obtain rfl:=hβ0 _ hM
   exact BR.wide ((r.blk b _ M hg hL).mono hle) hs
  ·exact(r.blk z u M h3 (hβ z M h1 hM)).mono hle
 ·intro z1 z2 u1 u2 M1 M2 g1 g2 m1 m2 hne hw
  rcases a35 z1 u1 g1 with⟨rfl,rfl⟩|⟨h1,h2,h3⟩
  ·obtain rfl:=hβ0 _ m1
   rcases a35 z2 u2 g2 with⟨rfl,rfl⟩|⟨k1,k2,k3⟩
   ·exact absurd rfl hne
   ·exact r.sep b z2 _ _ M1 M2 hg k3 hL (hβ z2 M2 k1 m2) (fun hh=>k2 hh.symm) (.inr (.inr (.inl rfl)))
  ·rcases a35 z2 u2 g2 with⟨rfl,rfl⟩|⟨k1,k2,k3⟩
   ·obtain rfl:=hβ0 _ m2
    exact r.sep z1 b _ _ M1 M2 h3 hg (hβ z1 M1 h1 m1) hL h2 (.inr (.inr (.inr rfl)))
   ·refine r.sep z1 z2 _ _ M1 M2 h3 k3 (hβ z1 M1 h1 m1) (hβ z2 M2 k1 m2) hne ?_
    have hwm:(Ev.capH h b e (cs++rep sz [.any])).wm=h.next:=rfl
    rw[hwm]at hw
    rcases hw with q|q|q
    ·rw[r.fget z1 q]at h3;cases h3
    ·rw[r.fget z2 q]at k3;cases k3
    ·exact .inr (.inr q)
 ·intro z hz
  simp only[Ev.capH,Heap.next_new,Heap.next_raise,Heap.next_put]at hz
  simp only[Bij.add];rw[if_neg (by omega)];exact r.fresh z (by omega)
 ·intro z hz
  simp only[Ev.capH,Heap.next_new,Heap.next_raise,Heap.next_put]at hz
  cases hu:(Ev.capH h b e (cs++rep sz [.any])).get z with
  |none=>rfl
  |some u=>
   rcases a35 z u hu with⟨rfl,rfl⟩|⟨h1,h2,h3⟩
   ·omega
   ·rw[r.fget z (by omega)]at h3;cases h3
 ·intro z M hM
  by_cases hz:z=h.next
  ·subst hz
   obtain rfl:=hβ0 _ hM
   exact r.lt b M hL
  ·exact r.lt z M (hβ z M hz hM)
 ·intro z u M hu hw hM hk
  rcases a35 z u hu with⟨rfl,rfl⟩|⟨h1,h2,h3⟩
  ·obtain rfl:=hβ0 _ hM
   exact hk.2 rfl
  ·have hw:h.next≤z:=hw
   rw[r.fget z hw]at h3;cases h3
theorem cD1{b e sz:Nat}{cs:List AV}{L:Loc}(r:HR β ω K w0 h w)(hg:h.get b=some (.cells e 0 cs))(hL:β b=some L)(hwm:h.wm≤b)
 (r':HR β' ω (fun i=>i<w.heap.size∧i≠L.blk) w h' w') (s':St (capH h b e (cs++rep sz [.any])) (β.add h.next L) h' β'):
 HR β ω K w0 (h.put b none) w'∧ck1 K (h.put b none) β h' β':=by
 have hlive: ∀z u M,(h.put b none).get z=some u→β z=some M→M.blk<w.heap.size∧M.blk≠L.blk:=by
  intro z u M hu hM
  rw[Heap.get_put]at hu
  by_cases hb:z=b
  ·rw[if_pos hb]at hu;split at hu<;>cases hu
  ·rw[if_neg hb]at hu
   exact⟨r.lt z M hM,r.sep z b _ _ M L hu hg hM hL hb (.inr (.inr (.inr rfl)))⟩
 have hkl: ∀i,K i→i≠L.blk:=fun i hi hh=>r.free b _ L hg hwm hL (hh▸hi)
 refine⟨HR.later2 (r.drop b).1 (fun z u M hu hM=>r'.keep _ (hlive z u M hu hM)) (fun i hi=>r'.keep _ ⟨o7 (r.kin i hi) r.size,hkl i hi⟩) r'.size r'.os r'.tape r'.out r'.dr,fun z M u hu hz hM=> ?_⟩
 have hw:h'.wm=h.next:=s'.wm
 have hf:=r'.free z u M hu (by rw[hw];exact hz) hM
 refine⟨fun z2 u2 M2 hu2 hM2 hh=> ?_,fun hk=> ?_⟩
 ·have:=hlive z2 u2 M2 hu2 hM2
  rw[hh]at this
  exact hf this
 ·exact hf ⟨o7 (r.kin _ hk) r.size,hkl _ hk⟩
theorem cD2{args:List AV}{c:Cap2}(e:d45 args h=some c): ∃(len sz e:Nat) (k:IntKind) (i:Int) (rest cs:List AV),args= .us c.b 0 len sz:: .int k i::rest∧h.get c.b=some (.cells e 0 cs)∧h.wm≤c.b∧cs.length=len*sz∧0<sz∧
 c.full= .sl c.b 0 len len:: .int k i::rest∧c.wide= .us h.next 0 len sz:: .int k i::rest∧c.h=capH h c.b e (cs++rep sz [.any]):=by
 unfold d45 at e
 split at e
 ·rename_i b len sz k i rest
  split at e
  ·rename_i el cs hg
   obtain⟨hc,e⟩:=M7 e
   obtain⟨hc,h4⟩:=M6 hc
   obtain⟨hc,h3⟩:=M6 hc
   obtain⟨h1,h2⟩:=M6 hc
   rw[N1]at h1
   rw[N9]at h4
   simp only[a8]at e;subst e
   exact⟨len,sz,el,k,_,rest,cs,rfl,hg,h1,by simpa using h2,h4,rfl,rfl,rfl⟩
  ·cases e
 ·cases e
theorem c25(hk:HookOk E ω){n:Nat}(hb:b29 E ω n):cC4 E ω (n+1):=by
 intro R A T hA f args h k he0 K w0 β w us r ra
 have hc0:T (cU1 E (ev E n) A f args h k (E.hook f args h)):=he0
 clear he0
 have fin: ∀(v:AV) (h':Heap),T (k v h')→a96 E ω f args h v h'→Calls E.P f us.toArray w (fun e w'=> ∃u β' v h',e= .returned u∧T (k v h')∧VR β' ω v u∧HR β' ω K w0 h' w'∧St h β h' β'):=by
  intro v h' ht hp
  refine Calls.mono (hp K w0 β w us r ra) ?_
  rintro e w' ⟨u,β',rfl,h1,h2,h3⟩
  exact⟨u,β',v,h',rfl,ht,h1,h2,h3⟩
 have old:T (bif E.amb f then bT9 (ev E n) A f args h k ((ev E n) (Option (AV×Heap)) bR8 (.body f args h.raise cy7))else
  bif E.caps f then cy8 (ev E n) A f args h k (d45 args h)else(ev E n) R A (.body f args h k))→Calls E.P f us.toArray w (fun e w'=> ∃u β' v h',e= .returned u∧T (k v h')∧VR β' ω v u∧HR β' ω K w0 h' w'∧St h β h' β'):=by
  intro he
  cases ham:E.amb f with
  |false=>
   rw[ham]at he
   simp only[cond_false]at he
   cases hcp:E.caps f with
   |false=>
    rw[hcp]at he
    exact hb R A T hA f args h k he K w0 β w us r ra
   |true=>
    rw[hcp]at he
    simp only[cond_true]at he
    unfold cy8 at he
    split at he
    ·exact hb R A T hA f args h k he K w0 β w us r ra
    ·rename_i c hc
     unfold cr2 at he
     split at he
     ·exact absurd he hA.bad
     ·rename_i v0 h0 hopt
      unfold cr1 at he
      split at he
      ·exact absurd he hA.bad
      ·rename_i b l hout
       cases hrun:(ev E n Bool a38 (.body f c.full h.raise (cq9 h.next (some (b,l))))&&ev E n Bool a38 (.body f c.wide c.h (cq9 h.next (some (b,l)))))with
       |false=>rw[hrun]at he;exact absurd he hA.bad
       |true=>
        rw[hrun]at he
        simp only[cond_true,d44]at he
        simp only[d6]at hrun
        obtain⟨run1,run2⟩:=hrun
        obtain⟨len,sz,el,kk,i,rest,cs,rfl,hg,hwm,hlen,hsz,hf,hw,hch⟩:=cD2 hc
        obtain⟨u0,ur,rfl,p0,p1⟩:=ra
        simp only[VR]at p0
        obtain⟨L,cap,hL,hcap,rfl⟩:=p0
        have hdrop:=r.drop c.b
        have hext:cs.length≤L.ext:=(r.cells hg hL).choose_spec.choose_spec.choose_spec.choose_spec.2.2.1
        have hlc:len≤cap:=by
         rw[hlen,←hcap,i3]at hext
         exact A1 hext hsz
        by_cases hfull:cap=len
        ·subst hfull
         refine Calls.mono (hb Bool a38 (· =true) (ax1 ω) f c.full h.raise _ run1 (· <w.heap.size) w β w _ r.raise (by rw[hf];exact⟨_,ur,rfl,⟨L,hL,rfl⟩,p1⟩)) ?_
         rintro e w' ⟨u,β',v,h',rfl,h1,h2,h3,h4⟩
         obtain⟨g1,g2⟩:=bd7 r h3 h4
         have hnx:(h.put c.b none).next=h.next:=by simp
         obtain⟨β'',q1,q2,q3⟩:=aM6 (h:=h.put c.b none) (g1.drop c.b).1 h3 (fun z M y hy hz hM=>by
          obtain⟨a1,a2⟩:=g2 z M y hy (by rw[←hnx];exact hz) hM
          refine⟨fun z2 x2 M2 hx2 hM2=> ?_,a2⟩
          rw[Heap.get_put]at hx2
          by_cases hb2:z2=c.b
          ·rw[if_pos hb2]at hx2;split at hx2<;>cases hx2
          ·rw[if_neg hb2]at hx2;exact a1 z2 x2 M2 hx2 hM2) (by rw[hnx];exact bo8 h1) h2
         exact⟨u,β'',_,_,rfl,he,q1,q2,hdrop.2.trans q3⟩
        ·have hmul:(len+1)*sz≤cap*sz:=t8 _ (by omega)
         have hs:cs.length+sz≤L.ext:=by rw[hlen,←hcap,i3];rw[l7,A5]at hmul;exact hmul
         have r1:=r.capH (e:=el) hg hL hs
         have hle:Le β (β.add h.next L):=by
          intro b' M hb'
          simp only[Bij.add]
          by_cases e:b'=h.next
          ·subst e;rw[r.fresh _ (b9 _)]at hb';cases hb'
          ·rw[if_neg e];exact hb'
         rw[hch]at run2
         refine Calls.mono (hb Bool a38 (· =true) (ax1 ω) f c.wide _ _ run2 _ w _ w _ r1 (by rw[hw];exact⟨_,ur,rfl,⟨L,cap,by simp[Bij.add],hcap,rfl⟩,VRs.mono hle _ _ p1⟩)) ?_
         rintro e w' ⟨u,β',v,h',rfl,h1,h2,h3,h4⟩
         obtain⟨g1,g2⟩:=cD1 r hg hL hwm h3 h4
         have hnx:(h.put c.b none).next=h.next:=by simp
         obtain⟨β'',q1,q2,q3⟩:=aM6 (h:=h.put c.b none) g1 h3 g2 (by rw[hnx];exact bo8 h1) h2
         exact⟨u,β'',_,_,rfl,he,q1,q2,hdrop.2.trans q3⟩
  |true=>
   rw[ham]at he
   simp only[cond_true]at he
   unfold bT9 at he
   split at he
   ·exact absurd he hA.bad
   ·rename_i v0 h0 hopt
    unfold cr0 at he
    split at he
    ·exact absurd he hA.bad
    ·rename_i b l hout
     cases hrun:ev E n Bool a38 (.body f args h.raise (cq9 h.next (some (b,l))))with
     |false=>rw[hrun]at he;exact absurd he hA.bad
     |true=>
      rw[hrun]at he
      simp only[cond_true,d44]at he
      refine Calls.mono (hb Bool a38 (· =true) (ax1 ω) f args h.raise _ hrun (· <w.heap.size) w β w us r.raise ra) ?_
      rintro e w' ⟨u,β',v,h',rfl,h1,h2,h3,h4⟩
      obtain⟨a1,a2⟩:=bd7 r h3 h4
      obtain⟨β'',g1,g2,g3⟩:=aM6 a1 h3 a2 (bo8 h1) h2
      exact⟨u,β'',_,_,rfl,he,g1,g2,g3⟩
 cases hh:E.hook f args h with
 |val v h'=>rw[hh]at hc0;exact fin v h' hc0 (hk.val _ _ _ _ _ hh)
 |need e v h'=>
  rw[hh]at hc0
  obtain⟨h1,h2⟩:=hA.needA _ _ hc0
  exact fin v h' h2 (hk.need _ _ _ _ _ _ hh h1)
 |_=>rw[hh]at hc0;exact old hc0
theorem c26{Ω:Opq→Prop}(hΩ: ∀ω v0 l,Ω ω→Ω (ω.upd v0 l))(hE: ∀ω,Ω ω→E.Ok ω)(hk: ∀ω,Ω ω→HookOk E ω)(hm:E.P.follows .mixedOrders=true): ∀n,∀ω,Ω ω→(∀m,m≤n→GoS E ω m)∧b29 E ω n∧cj1 E ω n∧cs1 E ω n∧c12 E ω n∧bz2 E ω n
 |0=>by
  intro ω hω
  refine⟨fun m hm=> ?_,?_,?_,?_,?_,?_⟩
  ·obtain rfl:m=0:=by omega
   refine⟨?_,?_⟩
   ·intro R A T hA f args h k he;exact absurd he hA.bad
   ·intro R A T hA c a h k he;exact absurd he hA.bad
  ·intro R A T hA f args h k he;exact absurd he hA.bad
  ·intro R A T hA c a h k he;exact absurd he hA.bad
  ·intro R A T hA ops rest i a h k _ he;exact absurd he hA.bad
  ·intro R A T hA f args h k he;exact absurd he hA.bad
  ·intro R A T hA fn a ds h k he;exact absurd he hA.bad
 |n+1=>by
  intro ω hω
  have ih:=c26 hΩ hE hk hm n
  obtain⟨hc,hb,hl,ho,hdb,hlv⟩:=ih ω hω
  have hcd:ao6 E ω n:=(hc n (b9 _)).2
  refine⟨fun m hmn=> ?_,c23 hcd hlv,c22 hΩ hω (fun ω' h'=>((ih ω' h').1 n (b9 _)).2) (fun ω' h'=>(ih ω' h').2.2.2.1) hcd hl,cj2 (hE ω hω) (hc n (b9 _)) ho,bK4 hcd,bK5 (hE ω hω) hlv hdb⟩
  rcases d8 m (n+1)with hlt|hge
  ·exact hc m (by omega)
  ·obtain rfl:m=n+1:=by omega
   exact⟨c25 (hk ω hω) hb,c21 hΩ hω (hE ω hω) hm hc (fun ω' h'=>((ih ω' h').1 n (b9 _)).2) hl ho⟩
end Go.Ev
