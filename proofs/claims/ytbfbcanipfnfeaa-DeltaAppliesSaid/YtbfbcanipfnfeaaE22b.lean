import Derived.Test.YtbfbcanipfnfeaaE22
set_option linter.unusedVariables false
set_option linter.unusedSimpArgs false
namespace Go.Ev
open Go
variable{E:Env}{ω:Opq}
def bn6(ω:Opq)(pc:PC):Prop:= ∀p∈pc,dB ω p.1=p.2
def VC.Ok(ω:Opq)(v:VC):Prop:=bn6 ω v.pc→dB ω v.cl=true
theorem bc8(a b:Bool):bR9 a b=(a==b):=by cases a<;>cases b<;>rfl
theorem bc9(a b:Int):decide (b≤a)= !decide (a<b):=by
 rw[m9];simp
theorem by2(e:SX):dB ω e=(dB ω (aZ5 e).1==(aZ5 e).2):=by
 unfold aZ5
 split
 ·rename_i p l
  unfold cq3
  split<;>simp only[dB,den,N2,Q9,Val.toB,b02,bH4,beq_true,beq_false,Bool.not_not]
  ·exact bc9 _ _
  ·exact bc9 _ _
 ·simp
theorem by3{e:SX}{b:Bool}: ∀{pc:PC},bn6 ω pc→cd6 e pc=some b→dB ω e=b
 | [],_,h=>by cases h
 |p::r,hp,h=>by
  simp only[cd6]at h
  cases hc:SX.beq e p.1 with
  |true=>
   rw[hc]at h
   simp only[cond_true,a8]at h
   rw[SX.beq_eq _ _ hc,←h]
   exact hp p (by simp)
  |false=>rw[hc]at h;exact by3 (fun q hq=>hp q (by simp[hq])) h
theorem ci2{c:SX×Bool}{b:Bool}{pc:PC}(hp:bn6 ω pc)(h:cx9 c pc=some b):(dB ω c.1==c.2)=b:=by
 unfold cx9 at h
 split at h
 ·rename_i b0 h0
  simp only[a8]at h
  rw[by3 hp h0,←h,bc8]
 ·cases h
theorem cV9{a b:Option Bool}{x y r:Bool}(ha: ∀z,a=some z→x=z)(hb: ∀z,b=some z→y=z)(h:d80 a b=some r):(x&&y)=r:=by
 unfold d80 at h
 split at h
 ·rw[ha _ rfl];simpa using h
 ·rw[ha _ rfl,hb _ h];simp
 ·split at h
  ·rw[hb _ rfl];simpa using h
  ·cases h
theorem d88{a b:Option Bool}{x y r:Bool}(ha: ∀z,a=some z→x=z)(hb: ∀z,b=some z→y=z)(h:orO a b=some r):(x||y)=r:=by
 unfold orO at h
 split at h
 ·rw[ha _ rfl];simpa using h
 ·rw[ha _ rfl,hb _ h];simp
 ·split at h
  ·rw[hb _ rfl];simpa using h
  ·cases h
theorem ci3(a b:SX):dB ω (.op .or [a,b])=(dB ω a||dB ω b):=rfl
theorem b22(a:SX):dB ω (.op .not [a])= !dB ω a:=rfl
theorem bd0(c a b:SX):dB ω (.op .ite [c,a,b])=bif dB ω c then dB ω a else dB ω b:=by
 show Val.toB (bif (den ω c).toB then den ω a else den ω b)=_
 unfold dB
 cases (den ω c).toB<;>rfl
theorem X6{pc:PC}(hp:bn6 ω pc): ∀(n:Nat) (e:SX) (b:Bool),aB1 pc n e=some b→dB ω e=b
 |0,e,b,h=>by cases h
 |n+1,e,b,h=>by
  have ih:=X6 hp n
  have h:bS0 pc (aB1 pc n) e=some b:=h
  unfold bS0 at h
  split at h
  ·rename_i b0 h0
   simp only[a8]at h;subst h
   rw[by2 e];exact ci2 hp h0
  ·unfold cq5 at h
   split at h
   ·simp only[a8]at h;subst h;rfl
   ·rename_i p l
    unfold cq4 at h
    split at h
    ·rename_i a
     rw[b22]
     unfold dc9 at h
     split at h
     ·rename_i b0 h0
      simp only[a8]at h
      rw[ih _ _ h0,h]
     ·cases h
    ·rw[ae3];exact cV9 (ih _) (ih _) h
    ·rw[ci3];exact d88 (ih _) (ih _) h
    ·rw[bd0]
     unfold dd0 at h
     split at h
     ·rename_i h0;rw[ih _ _ h0];exact ih _ _ h
     ·rename_i h0;rw[ih _ _ h0];exact ih _ _ h
     ·cases h
    ·exact bZ4 h
   ·cases h
theorem a75{a b:PC}(ha:bn6 ω a)(hb:bn6 ω b):bn6 ω (a++b):=by
 intro p hp
 rcases x5.1 hp with h|h
 ·exact ha p h
 ·exact hb p h
theorem a93:bn6 ω []:=fun p hp=>by cases hp
theorem aD3: ∀(n:Nat) (e:SX) (b:Bool),dB ω e=b→bn6 ω (b89 n e b)
 |0,e,b,h=>a93
 |n+1,e,b,h=>by
  have ih:=aD3 n
  show bn6 ω (bS2 (b89 n) e b)
  unfold bS2
  intro p hp
  rcases l5.1 hp with rfl|hp
  ·unfold cS5
   have:=by2 (ω:=ω) e
   rw[h]at this
   rw[bc8]
   show dB ω (aZ5 e).1=((aZ5 e).2==b)
   rw[this]
   cases dB ω (aZ5 e).1<;>cases (aZ5 e).2<;>rfl
  ·refine(?_:bn6 ω (bS1 (b89 n) e b)) p hp
   unfold bS1
   split
   ·rename_i q l
    unfold cq6
    split
    ·rename_i a
     refine ih _ _ ?_
     rw[b22]at h;rw[←h,Bool.not_not]
    ·cases b with
     |true=>rw[ae3,d6]at h;exact a75 (ih _ _ h.1) (ih _ _ h.2)
     |false=>exact a93
    ·cases b with
     |true=>exact a93
     |false=>rw[ci3,Bool.or_eq_false_iff]at h;exact a75 (ih _ _ h.1) (ih _ _ h.2)
    ·rename_i c x
     cases b with
     |true=>
      rw[bd0]at h
      cases hc:dB ω c with
      |true=>rw[hc]at h;exact a75 (ih _ _ hc) (ih _ _ h)
      |false=>rw[hc]at h;cases h
     |false=>exact a93
    ·rename_i c y _
     cases b with
     |true=>exact a93
     |false=>
      rw[bd0]at h
      cases hc:dB ω c with
      |true=>rw[hc]at h;cases h
      |false=>rw[hc]at h;exact a75 (ih _ _ hc) (ih _ _ h)
    ·exact a93
   ·exact a93
theorem c00{pc:PC}(hp:bn6 ω pc): ∀(n:Nat) (e:SX),dB ω (red pc n e)=dB ω e
 |0,e=>rfl
 |n+1,e=>by
  have:red pc (n+1) e=d81 pc (red pc n) e:=rfl
  rw[this]
  unfold d81
  split
  ·rename_i p l
   have ih:=c00 hp n
   unfold dd1
   split
   ·rename_i c a b
    split
    ·rename_i h;rw[ih,bd0,X6 hp 8 c _ h];rfl
    ·rename_i h;rw[ih,bd0,X6 hp 8 c _ h];rfl
    ·rfl
   ·rename_i a b
    split
    ·rename_i h;rw[ih,ae3,X6 hp 8 a _ h];rfl
    ·split
     ·rename_i h;rw[ih,ae3,X6 hp 8 b _ h,p9]
     ·rfl
   ·rename_i a b
    split
    ·rename_i h;rw[ih,ci3,X6 hp 8 a _ h];rfl
    ·split
     ·rename_i h;rw[ih,ci3,X6 hp 8 b _ h,B9]
     ·rfl
   ·rename_i a;rw[b22,b22,ih]
   ·rfl
  ·rfl
theorem c01(c a b:SX):den ω (.op .ite [c,a,b])=bif dB ω c then den ω a else den ω b:=rfl
theorem bn7{pc:PC}(hp:bn6 ω pc): ∀(n:Nat) (e:SX),den ω (d39 pc n e)=den ω e
 |0,e=>rfl
 |n+1,e=>by
  have:d39 pc (n+1) e=cy0 pc (d39 pc n) e:=rfl
  rw[this]
  unfold cy0
  split
  ·rename_i p l
   unfold cS6
   split
   ·rename_i c a b
    split
    ·rename_i h;rw[bn7 hp n,c01,X6 hp 8 c _ h];rfl
    ·rename_i h;rw[bn7 hp n,c01,X6 hp 8 c _ h];rfl
    ·rfl
   ·rfl
  ·rfl
def TPT(ω:Opq)(r:Nat×List Val)(t:RPT):Prop:= ∃pc,bn6 ω pc∧N0 (t pc) ω=some r
theorem aL4{pc:PC}: ∀{ks:List RPT} {n:Nat} {x:VT},(aZ6 pc ks)[n]? =some x→ ∃k,ks[n]? =some k∧x=k pc
 | [],n,x,h=>by simp[aZ6]at h
 |k::r,0,x,h=>by simp only[aZ6,List.getElem?_cons_zero,a8]at h;exact⟨k,rfl,h.symm⟩
 |k::r,n+1,x,h=>by
  simp only[aZ6,List.getElem?_cons_succ]at h
  obtain⟨k',h1,h2⟩:=aL4 h
  exact⟨k',by simpa using h1,h2⟩
theorem ad3(ω:Opq)(r:Nat×List Val):AlgOk an6 (TPT ω r) ω:=by
 refine⟨fun h=> ?_,fun l f h=> ?_,fun e x y h=> ?_,fun e x h=> ?_,fun hd body ks h=> ?_,fun hd l body ks h=> ?_⟩
 ·obtain⟨pc,_,h⟩:=h
  simp[an6,N0]at h
 ·obtain⟨pc,hp,h⟩:=h
  have h:N0 (cy2 l f pc) ω=some r:=h
  unfold cy2 at h
  split at h
  ·intro x hx
   simp only[s8]at hx
   subst hx
   exact⟨pc,hp,h⟩
  ·rename_i a b
   simp only[N0]at h
   split at h
   ·rename_i he
    intro x hx
    simp only[l5,List.not_mem_nil,or_false]at hx
    rcases hx with rfl|rfl
    ·exact⟨pc,hp,h⟩
    ·exact⟨pc,hp,he▸h⟩
   ·cases h
  ·simp[N0]at h
 ·obtain⟨pc,hp,h⟩:=h
  have h:N0 (cy1 e x y pc (aB1 pc 8 e)) ω=some r:=h
  unfold cy1 at h
  split at h
  ·rename_i hk
   have:=X6 hp 8 e _ hk
   exact⟨fun _=>⟨pc,hp,h⟩,fun hf=>by rw[this]at hf;cases hf⟩
  ·rename_i hk
   have:=X6 hp 8 e _ hk
   exact⟨fun hf=>by(rw[this]at hf;cases hf),fun _=>⟨pc,hp,h⟩⟩
  ·simp only[N0,c00 hp]at h
   refine⟨fun hd=> ?_,fun hd=> ?_⟩
   ·rw[if_pos hd]at h
    exact⟨_,a75 (aD3 8 e _ hd) hp,h⟩
   ·rw[if_neg (by rw[hd];simp)]at h
    exact⟨_,a75 (aD3 8 e _ hd) hp,h⟩
 ·obtain⟨pc,hp,h⟩:=h
  have h:N0 (bS3 e x pc (aB1 pc 8 e)) ω=some r:=h
  unfold bS3 at h
  split at h
  ·rename_i hk
   exact⟨X6 hp 8 e _ hk,pc,hp,h⟩
  ·simp only[N0,c00 hp]at h
   split at h
   ·rename_i hd
    exact⟨hd,_,a75 (aD3 8 e _ hd) hp,h⟩
   ·cases h
 ·obtain⟨pc,hp,h⟩:=h
  have h:N0 (.loop hd body (aZ6 pc ks)) ω=some r:=h
  simp only[N0]at h
  split at h
  ·rename_i q hq
   split at h
   ·rename_i hf
    obtain⟨x,h1,h2⟩:=ax0 h
    obtain⟨k,h3,rfl⟩:=aL4 h1
    exact⟨q,k,hq,hf,h3,pc,hp,h2⟩
   ·cases h
  ·cases h
 ·obtain⟨pc,hp,h⟩:=h
  have h:N0 (.mloop hd l body (aZ6 pc ks)) ω=some r:=h
  simp only[N0]at h
  split at h
  ·rename_i hq
   obtain⟨D,h1,h2⟩:=hq
   obtain⟨x,h3,h4⟩:=ax0 h
   obtain⟨k,h5,rfl⟩:=aL4 h3
   exact⟨D,k,h1,h2,h5,pc,hp,h4⟩
  ·cases h
end Go.Ev
