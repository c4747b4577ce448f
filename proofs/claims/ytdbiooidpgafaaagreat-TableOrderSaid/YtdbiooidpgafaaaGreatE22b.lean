import Derived.Test.YtdbiooidpgafaaaGreatE22
set_option linter.unusedVariables false
set_option linter.unusedSimpArgs false
namespace Go.Ev
open Go
variable{E:Env}{ω:Opq}
def bt2(ω:Opq)(pc:PC):Prop:= ∀p∈pc,dB ω p.1=p.2
def VC.Ok(ω:Opq)(v:VC):Prop:=bt2 ω v.pc→dB ω v.cl=true
theorem bh1(a b:Bool):bX1 a b=(a==b):=by cases a<;>cases b<;>rfl
theorem bh2(a b:Int):decide (b≤a)= !decide (a<b):=by
 rw[v7];simp
theorem bD8(e:SX):dB ω e=(dB ω (b14 e).1==(b14 e).2):=by
 unfold b14
 split
 ·rename_i p l
  unfold cA2
  split<;>simp only[dB,den,Q4,X5,Val.toB,aF5,ck6,beq_true,beq_false,I3]
  ·exact bh2 _ _
  ·exact bh2 _ _
 ·simp
theorem bD9{e:SX}{b:Bool}: ∀{pc:PC},bt2 ω pc→cm9 e pc=some b→dB ω e=b
 | [],_,h=>by cases h
 |p::r,hp,h=>by
  simp only[cm9]at h
  cases hc:SX.beq e p.1 with
  |true=>
   rw[hc]at h
   simp only[cond_true,b9]at h
   rw[SX.beq_eq _ _ hc,←h]
   exact hp p (by simp)
  |false=>rw[hc]at h;exact bD9 (fun q hq=>hp q (by simp[hq])) h
theorem cr0{c:SX×Bool}{b:Bool}{pc:PC}(hp:bt2 ω pc)(h:cH1 c pc=some b):(dB ω c.1==c.2)=b:=by
 unfold cH1 at h
 split at h
 ·rename_i b0 h0
  simp only[b9]at h
  rw[bD9 hp h0,←h,bh1]
 ·cases h
theorem d26{a b:Option Bool}{x y r:Bool}(ha: ∀z,a=some z→x=z)(hb: ∀z,b=some z→y=z)(h:df6 a b=some r):(x&&y)=r:=by
 unfold df6 at h
 split at h
 ·rw[ha _ rfl];simpa using h
 ·rw[ha _ rfl,hb _ h];simp
 ·split at h
  ·rw[hb _ rfl];simpa using h
  ·cases h
theorem dh4{a b:Option Bool}{x y r:Bool}(ha: ∀z,a=some z→x=z)(hb: ∀z,b=some z→y=z)(h:orO a b=some r):(x||y)=r:=by
 unfold orO at h
 split at h
 ·rw[ha _ rfl];simpa using h
 ·rw[ha _ rfl,hb _ h];simp
 ·split at h
  ·rw[hb _ rfl];simpa using h
  ·cases h
theorem cr1(a b:SX):dB ω (.op .or [a,b])=(dB ω a||dB ω b):=rfl
theorem b42(a:SX):dB ω (.op .not [a])= !dB ω a:=rfl
theorem bh3(c a b:SX):dB ω (.op .ite [c,a,b])=bif dB ω c then dB ω a else dB ω b:=by
 show Val.toB (bif (den ω c).toB then den ω a else den ω b)=_
 unfold dB
 cases (den ω c).toB<;>rfl
theorem a15{pc:PC}(hp:bt2 ω pc): ∀(n:Nat) (e:SX) (b:Bool),aF3 pc n e=some b→dB ω e=b
 |0,e,b,h=>by cases h
 |n+1,e,b,h=>by
  have ih:=a15 hp n
  have h:bX2 pc (aF3 pc n) e=some b:=h
  unfold bX2 at h
  split at h
  ·rename_i b0 h0
   simp only[b9]at h;subst h
   rw[bD8 e];exact cr0 hp h0
  ·unfold cA4 at h
   split at h
   ·simp only[b9]at h;subst h;rfl
   ·rename_i p l
    unfold cA3 at h
    split at h
    ·rename_i a
     rw[b42]
     unfold dn9 at h
     split at h
     ·rename_i b0 h0
      simp only[b9]at h
      rw[ih _ _ h0,h]
     ·cases h
    ·rw[ae7];exact d26 (ih _) (ih _) h
    ·rw[cr1];exact dh4 (ih _) (ih _) h
    ·rw[bh3]
     unfold do0 at h
     split at h
     ·rename_i h0;rw[ih _ _ h0];exact ih _ _ h
     ·rename_i h0;rw[ih _ _ h0];exact ih _ _ h
     ·cases h
    ·exact c45 h
   ·cases h
theorem ab0{a b:PC}(ha:bt2 ω a)(hb:bt2 ω b):bt2 ω (a++b):=by
 intro p hp
 rcases q9.1 hp with h|h
 ·exact ha p h
 ·exact hb p h
theorem ab1:bt2 ω []:=fun p hp=>by cases hp
theorem aH3: ∀(n:Nat) (e:SX) (b:Bool),dB ω e=b→bt2 ω (bc5 n e b)
 |0,e,b,h=>ab1
 |n+1,e,b,h=>by
  have ih:=aH3 n
  show bt2 ω (bX4 (bc5 n) e b)
  unfold bX4
  intro p hp
  rcases k5.1 hp with rfl|hp
  ·unfold cY6
   have:=bD8 (ω:=ω) e
   rw[h]at this
   rw[bh1]
   show dB ω (b14 e).1=((b14 e).2==b)
   rw[this]
   cases dB ω (b14 e).1<;>cases (b14 e).2<;>rfl
  ·refine(?_:bt2 ω (bX3 (bc5 n) e b)) p hp
   unfold bX3
   split
   ·rename_i q l
    unfold cA5
    split
    ·rename_i a
     refine ih _ _ ?_
     rw[b42]at h;rw[←h,I3]
    ·cases b with
     |true=>rw[ae7,e9]at h;exact ab0 (ih _ _ h.1) (ih _ _ h.2)
     |false=>exact ab1
    ·cases b with
     |true=>exact ab1
     |false=>rw[cr1,Bool.or_eq_false_iff]at h;exact ab0 (ih _ _ h.1) (ih _ _ h.2)
    ·rename_i c x
     cases b with
     |true=>
      rw[bh3]at h
      cases hc:dB ω c with
      |true=>rw[hc]at h;exact ab0 (ih _ _ hc) (ih _ _ h)
      |false=>rw[hc]at h;cases h
     |false=>exact ab1
    ·rename_i c y _
     cases b with
     |true=>exact ab1
     |false=>
      rw[bh3]at h
      cases hc:dB ω c with
      |true=>rw[hc]at h;cases h
      |false=>rw[hc]at h;exact ab0 (ih _ _ hc) (ih _ _ h)
    ·exact ab1
   ·exact ab1
theorem c51{pc:PC}(hp:bt2 ω pc): ∀(n:Nat) (e:SX),dB ω (red pc n e)=dB ω e
 |0,e=>rfl
 |n+1,e=>by
  have:red pc (n+1) e=df7 pc (red pc n) e:=rfl
  rw[this]
  unfold df7
  split
  ·rename_i p l
   have ih:=c51 hp n
   unfold do1
   split
   ·rename_i c a b
    split
    ·rename_i h;rw[ih,bh3,a15 hp 8 c _ h];rfl
    ·rename_i h;rw[ih,bh3,a15 hp 8 c _ h];rfl
    ·rfl
   ·rename_i a b
    split
    ·rename_i h;rw[ih,ae7,a15 hp 8 a _ h];rfl
    ·split
     ·rename_i h;rw[ih,ae7,a15 hp 8 b _ h,A4]
     ·rfl
   ·rename_i a b
    split
    ·rename_i h;rw[ih,cr1,a15 hp 8 a _ h];rfl
    ·split
     ·rename_i h;rw[ih,cr1,a15 hp 8 b _ h,Bool.or_false]
     ·rfl
   ·rename_i a;rw[b42,b42,ih]
   ·rfl
  ·rfl
theorem c52(c a b:SX):den ω (.op .ite [c,a,b])=bif dB ω c then den ω a else den ω b:=rfl
theorem bt3{pc:PC}(hp:bt2 ω pc): ∀(n:Nat) (e:SX),den ω (dc1 pc n e)=den ω e
 |0,e=>rfl
 |n+1,e=>by
  have:dc1 pc (n+1) e=cH2 pc (dc1 pc n) e:=rfl
  rw[this]
  unfold cH2
  split
  ·rename_i p l
   unfold cY7
   split
   ·rename_i c a b
    split
    ·rename_i h;rw[bt3 hp n,c52,a15 hp 8 c _ h];rfl
    ·rename_i h;rw[bt3 hp n,c52,a15 hp 8 c _ h];rfl
    ·rfl
   ·rfl
  ·rfl
def TPT(ω:Opq)(r:Nat×List Val)(t:RPT):Prop:= ∃pc,bt2 ω pc∧Q1 (t pc) ω=some r
theorem aN9{pc:PC}: ∀{ks:List RPT} {n:Nat} {x:VT},(b15 pc ks)[n]? =some x→ ∃k,ks[n]? =some k∧x=k pc
 | [],n,x,h=>by simp[b15]at h
 |k::r,0,x,h=>by simp only[b15,List.getElem?_cons_zero,b9]at h;exact⟨k,rfl,h.symm⟩
 |k::r,n+1,x,h=>by
  simp only[b15,List.getElem?_cons_succ]at h
  obtain⟨k',h1,h2⟩:=aN9 h
  exact⟨k',by simpa using h1,h2⟩
theorem ag7(ω:Opq)(r:Nat×List Val):AlgOk ao0 (TPT ω r) ω:=by
 refine⟨fun h=> ?_,fun l f h=> ?_,fun e x y h=> ?_,fun e x h=> ?_,fun hd body ks h=> ?_,fun hd l body ks h=> ?_⟩
 ·obtain⟨pc,_,h⟩:=h
  simp[ao0,Q1]at h
 ·obtain⟨pc,hp,h⟩:=h
  have h:Q1 (cH4 l f pc) ω=some r:=h
  unfold cH4 at h
  split at h
  ·intro x hx
   simp only[o7]at hx
   subst hx
   exact⟨pc,hp,h⟩
  ·rename_i a b
   simp only[Q1]at h
   split at h
   ·rename_i he
    intro x hx
    simp only[k5,B1,or_false]at hx
    rcases hx with rfl|rfl
    ·exact⟨pc,hp,h⟩
    ·exact⟨pc,hp,he▸h⟩
   ·cases h
  ·simp[Q1]at h
 ·obtain⟨pc,hp,h⟩:=h
  have h:Q1 (cH3 e x y pc (aF3 pc 8 e)) ω=some r:=h
  unfold cH3 at h
  split at h
  ·rename_i hk
   have:=a15 hp 8 e _ hk
   exact⟨fun _=>⟨pc,hp,h⟩,fun hf=>by rw[this]at hf;cases hf⟩
  ·rename_i hk
   have:=a15 hp 8 e _ hk
   exact⟨fun hf=>by(rw[this]at hf;cases hf),fun _=>⟨pc,hp,h⟩⟩
  ·simp only[Q1,c51 hp]at h
   refine⟨fun hd=> ?_,fun hd=> ?_⟩
   ·rw[if_pos hd]at h
    exact⟨_,ab0 (aH3 8 e _ hd) hp,h⟩
   ·rw[if_neg (by rw[hd];simp)]at h
    exact⟨_,ab0 (aH3 8 e _ hd) hp,h⟩
 ·obtain⟨pc,hp,h⟩:=h
  have h:Q1 (bX5 e x pc (aF3 pc 8 e)) ω=some r:=h
  unfold bX5 at h
  split at h
  ·rename_i hk
   exact⟨a15 hp 8 e _ hk,pc,hp,h⟩
  ·simp only[Q1,c51 hp]at h
   split at h
   ·rename_i hd
    exact⟨hd,_,ab0 (aH3 8 e _ hd) hp,h⟩
   ·cases h
 ·obtain⟨pc,hp,h⟩:=h
  have h:Q1 (.loop hd body (b15 pc ks)) ω=some r:=h
  simp only[Q1]at h
  split at h
  ·rename_i q hq
   split at h
   ·rename_i hf
    obtain⟨x,h1,h2⟩:=aA3 h
    obtain⟨k,h3,rfl⟩:=aN9 h1
    exact⟨q,k,hq,hf,h3,pc,hp,h2⟩
   ·cases h
  ·cases h
 ·obtain⟨pc,hp,h⟩:=h
  have h:Q1 (.mloop hd l body (b15 pc ks)) ω=some r:=h
  simp only[Q1]at h
  split at h
  ·rename_i hq
   obtain⟨D,h1,h2⟩:=hq
   obtain⟨x,h3,h4⟩:=aA3 h
   obtain⟨k,h5,rfl⟩:=aN9 h3
   exact⟨D,k,h1,h2,h5,pc,hp,h4⟩
  ·cases h
end Go.Ev
