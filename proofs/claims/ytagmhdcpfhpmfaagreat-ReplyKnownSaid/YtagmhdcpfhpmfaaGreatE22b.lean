import Derived.Test.YtagmhdcpfhpmfaaGreatE22
set_option linter.unusedVariables false
set_option linter.unusedSimpArgs false
namespace Go.Ev
open Go
variable{E:Env}{ω:Opq}
def bN2(ω:Opq)(pc:PC):Prop:= ∀p∈pc,dB ω p.1=p.2
def VC.Ok(ω:Opq)(v:VC):Prop:=bN2 ω v.pc→dB ω v.cl=true
theorem bF3(a b:Bool):ce7 a b=(a==b):=by cases a<;>cases b<;>rfl
theorem bF4(a b:Int):decide (b≤a)= !decide (a<b):=by
 rw[s6];simp
theorem bZ7(e:SX):dB ω e=(dB ω (bn9 e).1==(bn9 e).2):=by
 unfold bn9
 split
 ·rename_i p l
  unfold cO2
  split<;>simp only[dB,den,I9,K1,Val.toB,bo3,d71,beq_true,beq_false,Bool.not_not]
  ·exact bF4 _ _
  ·exact bF4 _ _
 ·simp
theorem bZ8{e:SX}{b:Bool}: ∀{pc:PC},bN2 ω pc→cB5 e pc=some b→dB ω e=b
 | [],_,h=>by cases h
 |p::r,hp,h=>by
  simp only[cB5]at h
  cases hc:SX.beq e p.1 with
  |true=>
   rw[hc]at h
   simp only[cond_true,d5]at h
   rw[SX.beq_eq _ _ hc,←h]
   exact hp p (by simp)
  |false=>rw[hc]at h;exact bZ8 (fun q hq=>hp q (by simp[hq])) h
theorem cF4{c:SX×Bool}{b:Bool}{pc:PC}(hp:bN2 ω pc)(h:cU5 c pc=some b):(dB ω c.1==c.2)=b:=by
 unfold cU5 at h
 split at h
 ·rename_i b0 h0
  simp only[d5]at h
  rw[bZ8 hp h0,←h,bF3]
 ·cases h
theorem dc6{a b:Option Bool}{x y r:Bool}(ha: ∀z,a=some z→x=z)(hb: ∀z,b=some z→y=z)(h:dq5 a b=some r):(x&&y)=r:=by
 unfold dq5 at h
 split at h
 ·rw[ha _ rfl];simpa using h
 ·rw[ha _ rfl,hb _ h];simp
 ·split at h
  ·rw[hb _ rfl];simpa using h
  ·cases h
theorem dr3{a b:Option Bool}{x y r:Bool}(ha: ∀z,a=some z→x=z)(hb: ∀z,b=some z→y=z)(h:orO a b=some r):(x||y)=r:=by
 unfold orO at h
 split at h
 ·rw[ha _ rfl];simpa using h
 ·rw[ha _ rfl,hb _ h];simp
 ·split at h
  ·rw[hb _ rfl];simpa using h
  ·cases h
theorem cF5(a b:SX):dB ω (.op .or [a,b])=(dB ω a||dB ω b):=rfl
theorem bq0(a:SX):dB ω (.op .not [a])= !dB ω a:=rfl
theorem bF5(c a b:SX):dB ω (.op .ite [c,a,b])=bif dB ω c then dB ω a else dB ω b:=by
 show Val.toB (bif (den ω c).toB then den ω a else den ω b)=_
 unfold dB
 cases (den ω c).toB<;>rfl
theorem X6{pc:PC}(hp:bN2 ω pc): ∀(n:Nat) (e:SX) (b:Bool),aS7 pc n e=some b→dB ω e=b
 |0,e,b,h=>by cases h
 |n+1,e,b,h=>by
  have ih:=X6 hp n
  have h:ce8 pc (aS7 pc n) e=some b:=h
  unfold ce8 at h
  split at h
  ·rename_i b0 h0
   simp only[d5]at h;subst h
   rw[bZ7 e];exact cF4 hp h0
  ·unfold cO4 at h
   split at h
   ·simp only[d5]at h;subst h;rfl
   ·rename_i p l
    unfold cO3 at h
    split at h
    ·rename_i a
     rw[bq0]
     unfold dw5 at h
     split at h
     ·rename_i b0 h0
      simp only[d5]at h
      rw[ih _ _ h0,h]
     ·cases h
    ·rw[ak0];exact dc6 (ih _) (ih _) h
    ·rw[cF5];exact dr3 (ih _) (ih _) h
    ·rw[bF5]
     unfold dw6 at h
     split at h
     ·rename_i h0;rw[ih _ _ h0];exact ih _ _ h
     ·rename_i h0;rw[ih _ _ h0];exact ih _ _ h
     ·cases h
    ·exact cl2 h
   ·cases h
theorem a68{a b:PC}(ha:bN2 ω a)(hb:bN2 ω b):bN2 ω (a++b):=by
 intro p hp
 rcases List.mem_append.1 hp with h|h
 ·exact ha p h
 ·exact hb p h
theorem aw7:bN2 ω []:=fun p hp=>by cases hp
theorem aU5: ∀(n:Nat) (e:SX) (b:Bool),dB ω e=b→bN2 ω (bB4 n e b)
 |0,e,b,h=>aw7
 |n+1,e,b,h=>by
  have ih:=aU5 n
  show bN2 ω (cf0 (bB4 n) e b)
  unfold cf0
  intro p hp
  rcases A0.1 hp with rfl|hp
  ·unfold d96
   have:=bZ7 (ω:=ω) e
   rw[h]at this
   rw[bF3]
   show dB ω (bn9 e).1=((bn9 e).2==b)
   rw[this]
   cases dB ω (bn9 e).1<;>cases (bn9 e).2<;>rfl
  ·refine(?_:bN2 ω (ce9 (bB4 n) e b)) p hp
   unfold ce9
   split
   ·rename_i q l
    unfold cO5
    split
    ·rename_i a
     refine ih _ _ ?_
     rw[bq0]at h;rw[←h,Bool.not_not]
    ·cases b with
     |true=>rw[ak0,d6]at h;exact a68 (ih _ _ h.1) (ih _ _ h.2)
     |false=>exact aw7
    ·cases b with
     |true=>exact aw7
     |false=>rw[cF5,Bool.or_eq_false_iff]at h;exact a68 (ih _ _ h.1) (ih _ _ h.2)
    ·rename_i c x
     cases b with
     |true=>
      rw[bF5]at h
      cases hc:dB ω c with
      |true=>rw[hc]at h;exact a68 (ih _ _ hc) (ih _ _ h)
      |false=>rw[hc]at h;cases h
     |false=>exact aw7
    ·rename_i c y _
     cases b with
     |true=>exact aw7
     |false=>
      rw[bF5]at h
      cases hc:dB ω c with
      |true=>rw[hc]at h;cases h
      |false=>rw[hc]at h;exact a68 (ih _ _ hc) (ih _ _ h)
    ·exact aw7
   ·exact aw7
theorem cl8{pc:PC}(hp:bN2 ω pc): ∀(n:Nat) (e:SX),dB ω (red pc n e)=dB ω e
 |0,e=>rfl
 |n+1,e=>by
  have:red pc (n+1) e=dq6 pc (red pc n) e:=rfl
  rw[this]
  unfold dq6
  split
  ·rename_i p l
   have ih:=cl8 hp n
   unfold dw7
   split
   ·rename_i c a b
    split
    ·rename_i h;rw[ih,bF5,X6 hp 8 c _ h];rfl
    ·rename_i h;rw[ih,bF5,X6 hp 8 c _ h];rfl
    ·rfl
   ·rename_i a b
    split
    ·rename_i h;rw[ih,ak0,X6 hp 8 a _ h];rfl
    ·split
     ·rename_i h;rw[ih,ak0,X6 hp 8 b _ h,y8]
     ·rfl
   ·rename_i a b
    split
    ·rename_i h;rw[ih,cF5,X6 hp 8 a _ h];rfl
    ·split
     ·rename_i h;rw[ih,cF5,X6 hp 8 b _ h,Bool.or_false]
     ·rfl
   ·rename_i a;rw[bq0,bq0,ih]
   ·rfl
  ·rfl
theorem cl9(c a b:SX):den ω (.op .ite [c,a,b])=bif dB ω c then den ω a else den ω b:=rfl
theorem bN3{pc:PC}(hp:bN2 ω pc): ∀(n:Nat) (e:SX),den ω (dn1 pc n e)=den ω e
 |0,e=>rfl
 |n+1,e=>by
  have:dn1 pc (n+1) e=cU6 pc (dn1 pc n) e:=rfl
  rw[this]
  unfold cU6
  split
  ·rename_i p l
   unfold d97
   split
   ·rename_i c a b
    split
    ·rename_i h;rw[bN3 hp n,cl9,X6 hp 8 c _ h];rfl
    ·rename_i h;rw[bN3 hp n,cl9,X6 hp 8 c _ h];rfl
    ·rfl
   ·rfl
  ·rfl
def TPT(ω:Opq)(r:Nat×List Val)(t:RPT):Prop:= ∃pc,bN2 ω pc∧G6 (t pc) ω=some r
theorem bF6{pc:PC}: ∀{ks:List RPT} {n:Nat} {x:VT},(bK2 pc ks)[n]? =some x→ ∃k,ks[n]? =some k∧x=k pc
 | [],n,x,h=>by simp[bK2]at h
 |k::r,0,x,h=>by simp only[bK2,List.getElem?_cons_zero,d5]at h;exact⟨k,rfl,h.symm⟩
 |k::r,n+1,x,h=>by
  simp only[bK2,List.getElem?_cons_succ]at h
  obtain⟨k',h1,h2⟩:=bF6 h
  exact⟨k',by simpa using h1,h2⟩
theorem aU6(ω:Opq)(r:Nat×List Val):AlgOk bo0 (TPT ω r) ω:=by
 refine⟨fun h=> ?_,fun l f h=> ?_,fun e x y h=> ?_,fun e x h=> ?_,fun hd body ks h=> ?_⟩
 ·obtain⟨pc,_,h⟩:=h
  simp[bo0,G6]at h
 ·obtain⟨pc,hp,h⟩:=h
  have h:G6 (cU8 l f pc) ω=some r:=h
  unfold cU8 at h
  split at h
  ·intro x hx
   simp only[List.mem_singleton]at hx
   subst hx
   exact⟨pc,hp,h⟩
  ·rename_i a b
   simp only[G6]at h
   split at h
   ·rename_i he
    intro x hx
    simp only[A0,List.not_mem_nil,or_false]at hx
    rcases hx with rfl|rfl
    ·exact⟨pc,hp,h⟩
    ·exact⟨pc,hp,he▸h⟩
   ·cases h
  ·simp[G6]at h
 ·obtain⟨pc,hp,h⟩:=h
  have h:G6 (cU7 e x y pc (aS7 pc 8 e)) ω=some r:=h
  unfold cU7 at h
  split at h
  ·rename_i hk
   have:=X6 hp 8 e _ hk
   exact⟨fun _=>⟨pc,hp,h⟩,fun hf=>by rw[this]at hf;cases hf⟩
  ·rename_i hk
   have:=X6 hp 8 e _ hk
   exact⟨fun hf=>by(rw[this]at hf;cases hf),fun _=>⟨pc,hp,h⟩⟩
  ·simp only[G6,cl8 hp]at h
   refine⟨fun hd=> ?_,fun hd=> ?_⟩
   ·rw[if_pos hd]at h
    exact⟨_,a68 (aU5 8 e _ hd) hp,h⟩
   ·rw[if_neg (by rw[hd];simp)]at h
    exact⟨_,a68 (aU5 8 e _ hd) hp,h⟩
 ·obtain⟨pc,hp,h⟩:=h
  have h:G6 (cf1 e x pc (aS7 pc 8 e)) ω=some r:=h
  unfold cf1 at h
  split at h
  ·rename_i hk
   exact⟨X6 hp 8 e _ hk,pc,hp,h⟩
  ·simp only[G6,cl8 hp]at h
   split at h
   ·rename_i hd
    exact⟨hd,_,a68 (aU5 8 e _ hd) hp,h⟩
   ·cases h
 ·obtain⟨pc,hp,h⟩:=h
  have h:G6 (.loop hd body (bK2 pc ks)) ω=some r:=h
  simp only[G6]at h
  split at h
  ·rename_i q hq
   split at h
   ·rename_i hf
    obtain⟨x,h1,h2⟩:=bk8 h
    obtain⟨k,h3,rfl⟩:=bF6 h1
    exact⟨q,k,hq,hf,h3,pc,hp,h2⟩
   ·cases h
  ·cases h
end Go.Ev
