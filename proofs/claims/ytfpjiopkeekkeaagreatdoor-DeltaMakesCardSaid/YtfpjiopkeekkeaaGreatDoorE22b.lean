import Derived.Test.YtfpjiopkeekkeaaGreatDoorE22
set_option autoImplicit false
set_option linter.unusedVariables false
set_option linter.unusedSimpArgs false
namespace Go.Ev
open Go
variable{E:Env}{ω:Opq}
def br8(ω:Opq)(pc:PC):Prop:= ∀p∈pc,dB ω p.1=p.2
def VC.Ok(ω:Opq)(v:VC):Prop:=br8 ω v.pc→dB ω v.cl=true
theorem bg7(a b:Bool):bU6 a b=(a==b):=by cases a<;>cases b<;>rfl
theorem bg8(a b:Int):decide (b≤a)= !decide (a<b):=by
 rw[r9];simp
theorem bB8(e:SX):dB ω e=(dB ω (b35 e).1==(b35 e).2):=by
 unfold b35
 split
 ·rename_i p l
  unfold cv3
  split<;>simp only[dB,den,P2,W0,Val.toB,aG6,bb7,beq_true,beq_false,Bool.not_not]
  ·exact bg8 _ _
  ·exact bg8 _ _
 ·simp
theorem bB9{e:SX}{b:Bool}: ∀{pc:PC},br8 ω pc→ci3 e pc=some b→dB ω e=b
 | [],_,h=>by cases h
 |p::r,hp,h=>by
  simp only[ci3]at h
  cases hc:SX.beq e p.1 with
  |true=>
   rw[hc]at h
   simp only[cond_true,a8]at h
   rw[SX.beq_eq _ _ hc,←h]
   exact hp p (by simp)
  |false=>rw[hc]at h;exact bB9 (fun q hq=>hp q (by simp[hq])) h
theorem cm7{c:SX×Bool}{b:Bool}{pc:PC}(hp:br8 ω pc)(h:cB6 c pc=some b):(dB ω c.1==c.2)=b:=by
 unfold cB6 at h
 split at h
 ·rename_i b0 h0
  simp only[a8]at h
  rw[bB9 hp h0,←h,bg7]
 ·cases h
theorem cY0{a b:Option Bool}{x y r:Bool}(ha: ∀z,a=some z→x=z)(hb: ∀z,b=some z→y=z)(h:db8 a b=some r):(x&&y)=r:=by
 unfold db8 at h
 split at h
 ·rw[ha _ rfl];simpa using h
 ·rw[ha _ rfl,hb _ h];simp
 ·split at h
  ·rw[hb _ rfl];simpa using h
  ·cases h
theorem dc6{a b:Option Bool}{x y r:Bool}(ha: ∀z,a=some z→x=z)(hb: ∀z,b=some z→y=z)(h:orO a b=some r):(x||y)=r:=by
 unfold orO at h
 split at h
 ·rw[ha _ rfl];simpa using h
 ·rw[ha _ rfl,hb _ h];simp
 ·split at h
  ·rw[hb _ rfl];simpa using h
  ·cases h
theorem cm8(a b:SX):dB ω (.op .or [a,b])=(dB ω a||dB ω b):=rfl
theorem b61(a:SX):dB ω (.op .not [a])= !dB ω a:=rfl
theorem bg9(c a b:SX):dB ω (.op .ite [c,a,b])=bif dB ω c then dB ω a else dB ω b:=by
 show Val.toB (bif (den ω c).toB then den ω a else den ω b)=_
 unfold dB
 cases (den ω c).toB<;>rfl
theorem a01{pc:PC}(hp:br8 ω pc): ∀(n:Nat) (e:SX) (b:Bool),aG4 pc n e=some b→dB ω e=b
 |0,e,b,h=>by cases h
 |n+1,e,b,h=>by
  have ih:=a01 hp n
  have h:bU7 pc (aG4 pc n) e=some b:=h
  unfold bU7 at h
  split at h
  ·rename_i b0 h0
   simp only[a8]at h;subst h
   rw[bB8 e];exact cm7 hp h0
  ·unfold cv5 at h
   split at h
   ·simp only[a8]at h;subst h;rfl
   ·rename_i p l
    unfold cv4 at h
    split at h
    ·rename_i a
     rw[b61]
     unfold dh9 at h
     split at h
     ·rename_i b0 h0
      simp only[a8]at h
      rw[ih _ _ h0,h]
     ·cases h
    ·rw[ah7];exact cY0 (ih _) (ih _) h
    ·rw[cm8];exact dc6 (ih _) (ih _) h
    ·rw[bg9]
     unfold di0 at h
     split at h
     ·rename_i h0;rw[ih _ _ h0];exact ih _ _ h
     ·rename_i h0;rw[ih _ _ h0];exact ih _ _ h
     ·cases h
    ·exact c20 h
   ·cases h
theorem aa5{a b:PC}(ha:br8 ω a)(hb:br8 ω b):br8 ω (a++b):=by
 intro p hp
 rcases A0.1 hp with h|h
 ·exact ha p h
 ·exact hb p h
theorem ae8:br8 ω []:=fun p hp=>by cases hp
theorem aI7: ∀(n:Nat) (e:SX) (b:Bool),dB ω e=b→br8 ω (bc9 n e b)
 |0,e,b,h=>ae8
 |n+1,e,b,h=>by
  have ih:=aI7 n
  show br8 ω (bU9 (bc9 n) e b)
  unfold bU9
  intro p hp
  rcases r6.1 hp with rfl|hp
  ·unfold cU6
   have:=bB8 (ω:=ω) e
   rw[h]at this
   rw[bg7]
   show dB ω (b35 e).1=((b35 e).2==b)
   rw[this]
   cases dB ω (b35 e).1<;>cases (b35 e).2<;>rfl
  ·refine(?_:br8 ω (bU8 (bc9 n) e b)) p hp
   unfold bU8
   split
   ·rename_i q l
    unfold cv6
    split
    ·rename_i a
     refine ih _ _ ?_
     rw[b61]at h;rw[←h,Bool.not_not]
    ·cases b with
     |true=>rw[ah7,e8]at h;exact aa5 (ih _ _ h.1) (ih _ _ h.2)
     |false=>exact ae8
    ·cases b with
     |true=>exact ae8
     |false=>rw[cm8,N5]at h;exact aa5 (ih _ _ h.1) (ih _ _ h.2)
    ·rename_i c x
     cases b with
     |true=>
      rw[bg9]at h
      cases hc:dB ω c with
      |true=>rw[hc]at h;exact aa5 (ih _ _ hc) (ih _ _ h)
      |false=>rw[hc]at h;cases h
     |false=>exact ae8
    ·rename_i c y _
     cases b with
     |true=>exact ae8
     |false=>
      rw[bg9]at h
      cases hc:dB ω c with
      |true=>rw[hc]at h;cases h
      |false=>rw[hc]at h;exact aa5 (ih _ _ hc) (ih _ _ h)
    ·exact ae8
   ·exact ae8
theorem c26{pc:PC}(hp:br8 ω pc): ∀(n:Nat) (e:SX),dB ω (red pc n e)=dB ω e
 |0,e=>rfl
 |n+1,e=>by
  have:red pc (n+1) e=db9 pc (red pc n) e:=rfl
  rw[this]
  unfold db9
  split
  ·rename_i p l
   have ih:=c26 hp n
   unfold di1
   split
   ·rename_i c a b
    split
    ·rename_i h;rw[ih,bg9,a01 hp 8 c _ h];rfl
    ·rename_i h;rw[ih,bg9,a01 hp 8 c _ h];rfl
    ·rfl
   ·rename_i a b
    split
    ·rename_i h;rw[ih,ah7,a01 hp 8 a _ h];rfl
    ·split
     ·rename_i h;rw[ih,ah7,a01 hp 8 b _ h,s8]
     ·rfl
   ·rename_i a b
    split
    ·rename_i h;rw[ih,cm8,a01 hp 8 a _ h];rfl
    ·split
     ·rename_i h;rw[ih,cm8,a01 hp 8 b _ h,G5]
     ·rfl
   ·rename_i a;rw[b61,b61,ih]
   ·rfl
  ·rfl
theorem c27(c a b:SX):den ω (.op .ite [c,a,b])=bif dB ω c then den ω a else den ω b:=rfl
theorem br9{pc:PC}(hp:br8 ω pc): ∀(n:Nat) (e:SX),den ω (d78 pc n e)=den ω e
 |0,e=>rfl
 |n+1,e=>by
  have:d78 pc (n+1) e=cB7 pc (d78 pc n) e:=rfl
  rw[this]
  unfold cB7
  split
  ·rename_i p l
   unfold cU7
   split
   ·rename_i c a b
    split
    ·rename_i h;rw[br9 hp n,c27,a01 hp 8 c _ h];rfl
    ·rename_i h;rw[br9 hp n,c27,a01 hp 8 c _ h];rfl
    ·rfl
   ·rfl
  ·rfl
def TPT(ω:Opq)(r:Nat×List Val)(t:RPT):Prop:= ∃pc,br8 ω pc∧O8 (t pc) ω=some r
theorem aQ0{pc:PC}: ∀{ks:List RPT} {n:Nat} {x:VT},(b36 pc ks)[n]? =some x→ ∃k,ks[n]? =some k∧x=k pc
 | [],n,x,h=>by simp[b36]at h
 |k::r,0,x,h=>by simp only[b36,List.getElem?_cons_zero,a8]at h;exact⟨k,rfl,h.symm⟩
 |k::r,n+1,x,h=>by
  simp only[b36,List.getElem?_cons_succ]at h
  obtain⟨k',h1,h2⟩:=aQ0 h
  exact⟨k',by simpa using h1,h2⟩
theorem ao6(ω:Opq)(r:Nat×List Val):AlgOk aB4 (TPT ω r) ω:=by
 refine⟨fun h=> ?_,fun l f h=> ?_,fun e x y h=> ?_,fun e x h=> ?_,fun hd body ks h=> ?_,fun hd l body ks h=> ?_⟩
 ·obtain⟨pc,_,h⟩:=h
  simp[aB4,O8]at h
 ·obtain⟨pc,hp,h⟩:=h
  have h:O8 (cB9 l f pc) ω=some r:=h
  unfold cB9 at h
  split at h
  ·intro x hx
   simp only[x7]at hx
   subst hx
   exact⟨pc,hp,h⟩
  ·rename_i a b
   simp only[O8]at h
   split at h
   ·rename_i he
    intro x hx
    simp only[r6,J6,or_false]at hx
    rcases hx with rfl|rfl
    ·exact⟨pc,hp,h⟩
    ·exact⟨pc,hp,he▸h⟩
   ·cases h
  ·simp[O8]at h
 ·obtain⟨pc,hp,h⟩:=h
  have h:O8 (cB8 e x y pc (aG4 pc 8 e)) ω=some r:=h
  unfold cB8 at h
  split at h
  ·rename_i hk
   have:=a01 hp 8 e _ hk
   exact⟨fun _=>⟨pc,hp,h⟩,fun hf=>by rw[this]at hf;cases hf⟩
  ·rename_i hk
   have:=a01 hp 8 e _ hk
   exact⟨fun hf=>by(rw[this]at hf;cases hf),fun _=>⟨pc,hp,h⟩⟩
  ·simp only[O8,c26 hp]at h
   refine⟨fun hd=> ?_,fun hd=> ?_⟩
   ·rw[if_pos hd]at h
    exact⟨_,aa5 (aI7 8 e _ hd) hp,h⟩
   ·rw[if_neg (by rw[hd];simp)]at h
    exact⟨_,aa5 (aI7 8 e _ hd) hp,h⟩
 ·obtain⟨pc,hp,h⟩:=h
  have h:O8 (bV0 e x pc (aG4 pc 8 e)) ω=some r:=h
  unfold bV0 at h
  split at h
  ·rename_i hk
   exact⟨a01 hp 8 e _ hk,pc,hp,h⟩
  ·simp only[O8,c26 hp]at h
   split at h
   ·rename_i hd
    exact⟨hd,_,aa5 (aI7 8 e _ hd) hp,h⟩
   ·cases h
 ·obtain⟨pc,hp,h⟩:=h
  have h:O8 (.loop hd body (b36 pc ks)) ω=some r:=h
  simp only[O8]at h
  split at h
  ·rename_i q hq
   split at h
   ·rename_i hf
    obtain⟨x,h1,h2⟩:=aC3 h
    obtain⟨k,h3,rfl⟩:=aQ0 h1
    exact⟨q,k,hq,hf,h3,pc,hp,h2⟩
   ·cases h
  ·cases h
 ·obtain⟨pc,hp,h⟩:=h
  have h:O8 (.mloop hd l body (b36 pc ks)) ω=some r:=h
  simp only[O8]at h
  split at h
  ·rename_i hq
   obtain⟨D,h1,h2⟩:=hq
   obtain⟨x,h3,h4⟩:=aC3 h
   obtain⟨k,h5,rfl⟩:=aQ0 h3
   exact⟨D,k,h1,h2,h5,pc,hp,h4⟩
  ·cases h
end Go.Ev
