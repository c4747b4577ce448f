import Derived.Test.YtbfbcanipfnfeaaE20
set_option linter.unusedVariables false
set_option linter.unusedSimpArgs false
namespace Go.Ev
open Go
variable{E:Env}{β:Bij}{ω:Opq}{K:Nat→Prop}{w0 w:World}{h h':Heap}
theorem HR.adopt(r:HR β ω K w0 h w)(b:Nat)(obj:Obj)(x:Blk)(ext:Nat)(hb:β b=none)(hlt:b<h.next)(hg:h.get b=some x∨h.get b=none)
 (hx:BR (β.add b ⟨w.heap.size,0,ext⟩) ω ⟨w.heap.size,0,ext⟩ (some obj) x):HR (β.add b ⟨w.heap.size,0,ext⟩) ω K w0 h (w.alloc obj):=by
 have hle:Le β (β.add b ⟨w.heap.size,0,ext⟩):=by
  intro b' M hb'
  simp only[Bij.add]
  by_cases e:b'=b
  ·subst e;rw[hb]at hb';cases hb'
  ·rw[if_neg e];exact hb'
 have hold: ∀i,i<w.heap.size→(w.alloc obj).heap[i]? =w.heap[i]? :=fun i hi=>RowKit.Below.heap_alloc _ _ _ hi
 have aF3:(w.alloc obj).heap[w.heap.size]? =some obj:=by show(w.heap.push obj)[w.heap.size]? =_;simp
 refine⟨?_,?_,?_,r.fget,?_,r.kin,?_,?_,?_,r.os,r.tape,r.out,r.dr⟩
 ·intro b' y L hg' hb'
  simp only[Bij.add]at hb'
  by_cases e:b'=b
  ·subst e
   rw[if_pos rfl]at hb';simp only[a8]at hb';subst hb'
   rw[aF3]
   rcases hg with hg|hg
   ·rw[hg]at hg';simp only[a8]at hg';subst hg';exact hx
   ·rw[hg]at hg';cases hg'
  ·rw[if_neg e]at hb'
   rw[hold _ (r.lt b' L hb')]
   exact(r.blk b' y L hg' hb').mono hle
 ·intro b1 b2 y y' L L' g1 g2 m1 m2 hne hw
  simp only[Bij.add]at m1 m2
  by_cases e1:b1=b
  ·rw[if_pos e1]at m1;simp only[a8]at m1;subst m1
   by_cases e2:b2=b
   ·exact absurd (e1.trans e2.symm) hne
   ·rw[if_neg e2]at m2
    exact Nat.ne_of_gt (r.lt b2 L' m2)
  ·rw[if_neg e1]at m1
   by_cases e2:b2=b
   ·rw[if_pos e2]at m2;simp only[a8]at m2;subst m2
    exact F6 (r.lt b1 L m1)
   ·rw[if_neg e2]at m2
    exact r.sep b1 b2 y y' L L' g1 g2 m1 m2 hne hw
 ·intro b' hb'
  simp only[Bij.add];rw[if_neg (by omega)];exact r.fresh b' hb'
 ·intro b' L hb'
  rw[World.size_alloc]
  simp only[Bij.add]at hb'
  split at hb'
  ·simp only[a8]at hb';subst hb';simp
  ·exact J0 (r.lt b' L hb')
 ·intro i hi
  rw[hold i (o7 (r.kin i hi) r.size)];exact r.keep i hi
 ·intro b' y L hg' hw' hb'
  simp only[Bij.add]at hb'
  split at hb'
  ·simp only[a8]at hb';subst hb'
   intro hk;exact absurd (r.kin _ hk) (Nat.not_lt.2 r.size)
  ·exact r.free b' y L hg' hw' hb'
 ·rw[World.size_alloc];exact F5 r.size
theorem aW1(acc:List Nat)(j:Nat): ∀(es:List Edge),(aG4 acc es).testBit j=true↔ ∃e∈es,a07 e=true∧(e.on=j∨(acc.getD e.on 0).testBit j=true)
 | []=>by simp[aG4]
 |e::r=>by
  have ih:=aW1 acc j r
  simp only[aG4]
  cases hb:a07 e with
  |false=>simp[ih,hb]
  |true=>
   simp only[cond_true,Nat.testBit_or,j8,ih,l5,Nat.testBit_two_pow,decide_eq_true_eq]
   constructor
   ·rintro((hh|hh)|⟨e',h1,h2⟩)
    ·exact⟨e,.inl rfl,hb,.inl hh⟩
    ·exact⟨e,.inl rfl,hb,.inr hh⟩
    ·exact⟨e',.inr h1,h2⟩
   ·rintro⟨e',(rfl|h1),h2,h3⟩
    ·exact .inl h3
    ·exact .inr ⟨e',h1,h2,h3⟩
theorem bx7: ∀(ops:List Oper) (acc ms:List Nat),bR2 ops acc=some ms→ms.length=acc.length+ops.length∧(∀i,i<acc.length→ms[i]? =acc[i]?)∧
 ∀i (o:Oper),ops[i]? =some o→(∀e∈o.after.toList,a07 e=true→e.on<acc.length+i)∧
  ∀j,(ms.getD (acc.length+i) 0).testBit j=true↔ ∃e∈o.after.toList,a07 e=true∧(e.on=j∨(ms.getD e.on 0).testBit j=true)
 | [],acc,ms,h=>by
   simp only[bR2,a8]at h;subst h
   exact⟨by simp,fun _ _=>rfl,fun i o ho=>by simp at ho⟩
 |o::r,acc,ms,h=>by
  simp only[bR2]at h
  obtain⟨hc,h⟩:=M7 h
  obtain⟨h1,h2,h3⟩:=bx7 r _ ms h
  have hall: ∀e∈o.after.toList,a07 e=true→e.on<acc.length:=by
   intro e he hb
   have:=i6.1 hc e he
   simp only[hb,o8,A0]at this
   exact N9.1 this
  simp only[e8,List.length_cons,List.length_nil]at h1 h2 h3
  have hpre: ∀i,i<acc.length→ms[i]? =acc[i]? :=fun i hi=>by rw[h2 i (by omega),j5 hi]
  refine⟨by simp only[List.length_cons];omega,hpre,fun i o' ho=> ?_⟩
  cases i with
  |zero=>
   simp at ho;subst ho
   refine⟨fun e he hb=>hall e he hb,fun j=> ?_⟩
   have hm:ms.getD (acc.length+0) 0=aG4 acc o.after.toList:=by
    rw[d9,Nat.add_zero,h2 acc.length (by omega)]
    simp
   rw[hm,aW1]
   constructor
   ·rintro⟨e,he,hb,hh⟩
    refine⟨e,he,hb,?_⟩
    rw[d9]at hh⊢
    rw[hpre _ (hall e he hb)];exact hh
   ·rintro⟨e,he,hb,hh⟩
    refine⟨e,he,hb,?_⟩
    rw[d9]at hh⊢
    rw[hpre _ (hall e he hb)]at hh;exact hh
  |succ i=>
   simp at ho
   obtain⟨g1,g2⟩:=h3 i o' ho
   refine⟨fun e he hb=>by have:=g1 e he hb;omega,fun j=> ?_⟩
   have:=g2 j
   rw[show acc.length+1+i=acc.length+(i+1) by omega]at this
   exact this
theorem bc6: ∀(ops:List Oper) (ms:List Nat) (k:Nat),ops.length≤ms.length→ ∀i,(aB0 ops ms k)[i]? =(ops[i]?).map fun o=>(⟨k+i,o,ms.getD i 0,a37 o⟩:PO)
 | [],ms,k,_,i=>by cases ms<;>simp[aB0]
 |o::r,[],k,hl,i=>by simp at hl
 |o::r,m::ms,k,hl,i=>by
  simp only[List.length_cons]at hl
  cases i with
  |zero=>simp[aB0]
  |succ i=>
   simp only[aB0,List.getElem?_cons_succ]
   rw[bc6 r ms (k+1) (by omega) i]
   simp[l8,y6 1]
structure PlanOk (ops:List Oper) (l r:List PO):Prop where
 get: ∀x∈l,∃o,ops[x.i]? =some o∧x.o=o∧x.fl=a37 o
 at_: ∀i o,ops[i]? =some o→ ∃x∈l,x.i=i
 uniq: ∀x∈l,∀y∈l,x.i=y.i→x=y
 back: ∀x∈l,∀e∈x.o.after.toList,a07 e=true→e.on<x.i
 mask: ∀x∈l,∀j,x.m.testBit j=true↔ ∃e∈x.o.after.toList,a07 e=true∧(e.on=j∨ ∃y∈l,y.i=e.on∧y.m.testBit j=true)
 slots: ∀x∈l,∀t∈Z0 ops x.o,∀y∈l,y.o.dst=some t→x.m.testBit y.i=true∨y.fl=false∧y.m.testBit x.i=true
 once: ∀x∈l,∀y∈l,∀d,x.o.dst=some d→y.o.dst=some d→x=y
 chain: ∀x∈l,∀y∈l,x.fl=false→y.fl=false→y.i<x.i→x.m.testBit y.i=true
 rl: ∀x∈r,x∈l
 lr: ∀x∈l,x∈r
 eager:eager 0 r=true
theorem cC2{ops:List Oper}{r:List PO}(h:cS0 ops=some r): ∃l,PlanOk ops l r:=by
 unfold cS0 at h
 split at h
 ·cases h
 ·rename_i ms hms
  obtain⟨hc,h⟩:=M7 h
  obtain⟨hc,c4⟩:=M6 hc
  obtain⟨hc,c3⟩:=M6 hc
  obtain⟨c1,c2⟩:=M6 hc
  simp only[a8]at h
  obtain⟨m1,m2,m3⟩:=bx7 ops [] ms hms
  simp only[List.length_nil,i3]at m1 m3
  have zg:=bc6 ops ms 0 (by omega)
  generalize hl:aB0 ops ms 0=l at*
  have mem: ∀x,x∈l↔ ∃i o,ops[i]? =some o∧x=⟨i,o,ms.getD i 0,a37 o⟩:=by
   intro x
   rw[List.mem_iff_getElem?]
   constructor
   ·rintro⟨i,hi⟩
    rw[zg,j4]at hi
    obtain⟨o,ho,rfl⟩:=hi
    exact⟨i,o,ho,by simp⟩
   ·rintro⟨i,o,ho,rfl⟩
    exact⟨i,by rw[zg,ho];simp⟩
  have rl: ∀x∈r,x∈l:=by
   intro x hx
   rw[←h]at hx
   obtain⟨y,_,hy⟩:=List.mem_filterMap.1 hx
   exact B7 hy
  have uniq: ∀x∈l,∀y∈l,x.i=y.i→x=y:=by
   intro x hx y hy e
   obtain⟨i,o,ho,rfl⟩:=(mem x).1 hx
   obtain⟨j,o',ho',rfl⟩:=(mem y).1 hy
   simp only[]at e;subst e
   rw[ho]at ho';simp only[a8]at ho';subst ho';rfl
  refine⟨l,⟨?_,?_,uniq,?_,?_,?_,?_,?_,rl,?_,h▸c3⟩⟩
  ·intro x hx
   obtain⟨i,o,ho,rfl⟩:=(mem x).1 hx
   exact⟨o,ho,rfl,rfl⟩
  ·intro i o ho
   exact⟨_,(mem _).2 ⟨i,o,ho,rfl⟩,rfl⟩
  ·intro x hx
   obtain⟨i,o,ho,rfl⟩:=(mem x).1 hx
   exact(m3 i o ho).1
  ·intro x hx j
   obtain⟨i,o,ho,rfl⟩:=(mem x).1 hx
   have:=(m3 i o ho).2 j
   simp only[]
   rw[this]
   constructor
   ·rintro⟨e,he,hb,hh⟩
    refine⟨e,he,hb,b98 id (fun hh=> ?_) hh⟩
    have hlt:=(m3 i o ho).1 e he hb
    have hio:i<ops.length:=by
     rcases d8 i ops.length with h1|h1
     ·exact h1
     ·rw[j7 h1]at ho;cases ho
    have hel:e.on<ops.length:=by omega
    exact⟨⟨e.on,ops[e.on],ms.getD e.on 0,a37 ops[e.on]⟩,(mem _).2 ⟨e.on,ops[e.on],j0 hel,rfl⟩,rfl,hh⟩
   ·rintro⟨e,he,hb,hh⟩
    refine⟨e,he,hb,b98 id (fun⟨y,hy,h1,h2⟩=> ?_) hh⟩
    obtain⟨k,o',ho',rfl⟩:=(mem y).1 hy
    simp only[]at h1 h2;subst h1;exact h2
  ·intro x hx t ht y hy hd
   have:=i6.1 c1 x hx
   obtain⟨h1,-⟩:=M6 this
   have:=i6.1 (i6.1 h1 t ht) y hy
   have hdi:bG8 y.o t=true:=by simp[bG8,hd]
   simp only[hdi,o8,A0,j8,d6,m6]at this
   exact this
  ·intro x hx y hy d h1 h2
   have:=i6.1 c1 x hx
   obtain⟨-,h3⟩:=M6 this
   rw[h1]at h3
   have:=i6.1 h3 y hy
   have hdi:bG8 y.o d=true:=by simp[bG8,h2]
   simp only[hdi,o8,A0]at this
   exact uniq x hx y hy (M8.1 this)
  ·intro x hx y hy h1 h2 hlt
   have:=i6.1 c2 x hx
   simp only[h1,A0]at this
   have:=i6.1 this y hy
   simp only[h2,a40 hlt,o8,A0]at this
   exact this
  ·intro x hx
   have:=i6.1 c4 x hx
   obtain⟨y,hy,hxy⟩:=u9.1 this
   rw[M8]at hxy
   have hyr:y∈r:=h▸hy
   rw[uniq x hx y (rl y hyr) hxy];exact hyr
theorem PlanOk.dom{ops:List Oper}{l r:List PO}(p:PlanOk ops l r): ∀(n:Nat) (x:PO),x∈l→x.i=n→ ∀j,x.m.testBit j=true→ ∃y∈l,y.i=j:=by
 intro n
 induction n using Nat.strongRecOn with
 |_ n ih=>
  intro x hx hn j hj
  obtain⟨e,he,hb,hh⟩:=(p.mask x hx j).1 hj
  have hlt:=p.back x hx e he hb
  rcases hh with rfl|⟨y,hy,h1,h2⟩
  ·obtain⟨o,ho,-⟩:=p.get x hx
   have:x.i<ops.length:=by
    rcases d8 x.i ops.length with hh|hh
    ·exact hh
    ·rw[j7 hh]at ho;cases ho
   exact p.at_ e.on _ (j0 (show e.on<ops.length by omega))
  ·exact ih y.i (by omega) y hy rfl j h2
mutual
theorem AV.beq_eq: ∀(a b:AV),AV.beq a b=true→a=b
 | .bool a,b,h=>by cases b<;>simp[AV.beq]at h;subst h;rfl
 | .int k a,b,h=>by cases b<;>simp[AV.beq,a09]at h;obtain⟨rfl,rfl⟩:=h;rfl
 | .str a,b,h=>by cases b<;>simp[AV.beq,ac8]at h;subst h;rfl
 | .nilp,b,h=>by cases b<;>simp[AV.beq]at h;rfl
 | .ptr a o,b,h=>by cases b<;>simp[AV.beq]at h;obtain⟨rfl,rfl⟩:=h;rfl
 | .glob a,b,h=>by cases b<;>simp[AV.beq]at h;subst h;rfl
 | .nils,b,h=>by cases b<;>simp[AV.beq]at h;rfl
 | .sl a o l c,b,h=>by cases b<;>simp[AV.beq]at h;obtain⟨⟨⟨rfl,rfl⟩,rfl⟩,rfl⟩:=h;rfl
 | .us a o l c,b,h=>by cases b<;>simp[AV.beq]at h;obtain⟨⟨⟨rfl,rfl⟩,rfl⟩,rfl⟩:=h;rfl
 | .es a o s,b,h=>by cases b<;>simp[AV.beq]at h;obtain⟨⟨rfl,rfl⟩,rfl⟩:=h;rfl
 | .es0,b,h=>by cases b<;>simp[AV.beq]at h;rfl
 | .nilm,b,h=>by cases b<;>simp[AV.beq]at h;rfl
 | .map a,b,h=>by cases b<;>simp[AV.beq]at h;subst h;rfl
 | .nilf,b,h=>by cases b<;>simp[AV.beq]at h;rfl
 | .func f x y,b,h=>by
   cases b<;>simp[AV.beq]at h
   obtain⟨⟨rfl,h1⟩,h2⟩:=h
   rw[AV.beqs_eq x _ h1,AV.beqs_eq y _ h2]
 | .yield a,b,h=>by cases b<;>simp[AV.beq]at h
 | .nili,b,h=>by cases b<;>simp[AV.beq]at h;rfl
 | .iface t v,b,h=>by
   cases b<;>simp[AV.beq]at h
   obtain⟨rfl,h1⟩:=h
   rw[AV.beq_eq v _ h1]
 | .agg x,b,h=>by
   cases b<;>simp[AV.beq]at h
   rw[AV.beqs_eq x _ h]
 | .tup x,b,h=>by
   cases b<;>simp[AV.beq]at h
   rw[AV.beqs_eq x _ h]
 | .opq a,b,h=>by cases b<;>simp[AV.beq]at h;subst h;rfl
 | .oint k a,b,h=>by cases b<;>simp[AV.beq]at h;obtain⟨rfl,h⟩:=h;rw[SX.beq_eq _ _ h]
 | .ostr a,b,h=>by cases b<;>simp[AV.beq]at h;rw[SX.beq_eq _ _ h]
 | .obool a,b,h=>by cases b<;>simp[AV.beq]at h;rw[SX.beq_eq _ _ h]
 | .osl a1 a2 a3 a4,b,h=>by cases b<;>simp[AV.beq]at h;obtain⟨⟨⟨rfl,h2⟩,h3⟩,rfl⟩:=h;rw[SX.beq_eq _ _ h2,SX.beq_eq _ _ h3]
 | .optr a1 a2 a3 a4,b,h=>by cases b<;>simp[AV.beq]at h;obtain⟨⟨⟨rfl,h2⟩,rfl⟩,rfl⟩:=h;rw[SX.beq_eq _ _ h2]
 | .ous a1 a2 a3,b,h=>by cases b<;>simp[AV.beq]at h;obtain⟨⟨rfl,h2⟩,rfl⟩:=h;rw[SX.beq_eq _ _ h2]
 | .atl a,b,h=>by cases b<;>simp[AV.beq]at h;rw[h]
 | .any,b,h=>by cases b<;>simp[AV.beq]at h;rfl
theorem AV.beqs_eq: ∀(a b:List AV),AV.beqs a b=true→a=b
 | [],[],_=>rfl
 | [],_::_,h=>by simp[AV.beqs]at h
 |_::_,[],h=>by simp[AV.beqs]at h
 |x::a,y::b,h=>by
  simp only[AV.beqs,d6]at h
  rw[AV.beq_eq x y h.1,AV.beqs_eq a b h.2]
end
end Go.Ev
