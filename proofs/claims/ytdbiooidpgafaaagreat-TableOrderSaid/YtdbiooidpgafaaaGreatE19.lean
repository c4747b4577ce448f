import Derived.Test.YtdbiooidpgafaaaGreatE18
set_option linter.unusedVariables false
set_option linter.unusedSimpArgs false
namespace Go.Ev
open Go
variable{E:Env}{β:Bij}{ω:Opq}{K:Nat→Prop}{w0 w:World}{h h':Heap}
theorem ah6{x:Option AV}{v:AV}(e:ov x h= .val v h'):h'=h∧x=some v:=by
 cases x with
 |none=>cases e
 |some a=>simp only[ov,Res.val.injEq]at e;exact⟨e.2.symm,by rw[e.1]⟩
theorem c46{x:Option (AV×Heap)}{v:AV}(e:oh x= .val v h'):x=some (v,h'):=by
 cases x with
 |none=>cases e
 |some a=>simp only[oh,Res.val.injEq]at e;rw[←e.1,←e.2]
theorem b38{b:Builtin}{ts:Array TypeId}{args:List AV}{p:AV×Heap}(hb:b= .len∨b= .cap∨b= .min∨b= .max)(hp:at5 E.P b ts args h=some p):p.2=h:=by
 unfold at5 at hp
 split at hp<;>first
  |(rcases hb with hb|hb|hb|hb<;>cases hb;done)
  |(simp only[l5]at hp;obtain⟨n,_,hp⟩:=hp;subst hp;rfl)
  |(simp only[b9]at hp;subst hp;rfl)
  |(split at hp<;>first|(simp only[l5]at hp;obtain⟨n,_,hp⟩:=hp;subst hp;rfl)|(simp only[b9]at hp;subst hp;rfl)|(cases hp;done))
  |cases hp
theorem b39{b:Builtin}{ts:Array TypeId}{args:List AV}{v:AV}(hb:b= .len∨b= .cap∨b= .min∨b= .max)(e:af9 E b ts h args= .val v h'):h'=h:=by
 unfold af9 at e
 split at e
 ·rename_i p hp
  simp only[Res.val.injEq]at e
  rw[←e.2];exact b38 hb hp
 ·split at e
  ·exact(ah6 e).1
  ·exact(ah6 e).1
  ·exact(ah6 e).1
  ·cases e
theorem bs8{ρ:Operand→Option AV}{o:Oper}{v:AV}(hf:a78 o=true)(ha:V6 o=false)(e:at7 E ρ o h= .val v h'):h'=h:=by
 obtain⟨dst,op,ty,pos,after,guard⟩:=o
 have s1v: ∀{F:AV→Option AV} {a:Option AV},s1 F h a= .val v h'→h'=h:=by
  intro F a e;cases a with
  |none=>cases e
  |some a=>exact(ah6 e).1
 have s2v: ∀{F:AV→AV→Option AV} {a b:Option AV},s2 F h a b= .val v h'→h'=h:=by
  intro F a b e;cases a with
  |none=>cases e
  |some a=>cases b with
   |none=>cases e
   |some b=>exact(ah6 e).1
 cases op<;>first
  |(cases hf;done)
  |(cases ha;done)
  |exact(ah6 e).1
  |exact s1v e
  |exact s2v e
  |skip
 case pick c a b=>
  have e:bo4 ρ a b h (ρ c)= .val v h':=e
  unfold bo4 at e
  split at e
  ·exact(ah6 e).1
  ·cases e
 case nilCheck x=>
  have e:cU6 E.P h (ρ x)= .val v h':=e
  unfold cU6 at e
  split at e
  ·unfold b08 at e
   split at e
   ·split at e
    ·simp only[Res.val.injEq]at e;exact e.2.symm
    ·cases e
   ·cases e
  ·exact(ah6 e).1
  ·cases e
 case build t ps=>
  have e:bA3 E.P t h (aU3 ρ ps.toList)= .val v h':=e
  cases hx:aU3 ρ ps.toList with
  |none=>rw[hx]at e;cases e
  |some l=>rw[hx]at e;exact(ah6 e).1
 case binOp op t x y yt=>
  have e:cU7 E op t x y h (ρ x) (ρ y)= .val v h':=e
  cases hx:ρ x with
  |none=>rw[hx]at e;cases e
  |some a=>
   cases hy:ρ y with
   |none=>rw[hx,hy]at e;cases e
   |some b=>
    rw[hx,hy]at e
    simp only[cU7]at e
    cases hg:aq5 E.P op t x y a b with
    |false=>rw[hg]at e;cases e
    |true=>rw[hg]at e;exact(ah6 e).1
 case convert s d x=>
  have e:bL9 E s d h (ρ x)= .val v h':=e
  cases hx:ρ x with
  |none=>rw[hx]at e;cases e
  |some a=>
   rw[hx]at e
   simp only[bL9]at e
   cases hc:bL5 E.P s d a h with
   |none=>
    rw[hc]at e
    simp only[]at e
    cases hc2:bU4 E.P s d a h with
    |none=>rw[hc2]at e;exact(ah6 e).1
    |some p=>rw[hc2]at e;cases e
   |some p=>
    rw[hc]at e
    simp only[Res.val.injEq]at e
    unfold bL5 at hc
    split at hc
    ·simp only[b9]at hc;subst hc;exact e.2.symm
    ·simp only[b9]at hc;subst hc;exact e.2.symm
    ·simp only[l5]at hc
     obtain⟨l,_,rfl⟩:=hc
     exact e.2.symm
    ·unfold aG3 at hc
     split at hc
     ·obtain⟨_,hc⟩:=P7 hc
      simp only[b9]at hc;subst hc;exact e.2.symm
     ·cases hc
    ·unfold aG4 at hc
     split at hc
     ·obtain⟨_,hc⟩:=P7 hc
      simp only[b9]at hc;subst hc;exact e.2.symm
     ·cases hc
    ·cases hc
 case makeInterface t x=>
  have e:aW2 E.P t h (ρ x)= .val v h':=e
  cases hx:ρ x with
  |none=>rw[hx]at e;cases e
  |some l=>
   rw[hx]at e
   simp only[aW2]at e
   split at e
   ·cases e
   ·simp only[Res.val.injEq]at e;exact e.2.symm
   ·cases e
 case makeFunc fn a b=>
  have e:bM0 fn h (evs ρ a.toList) (evs ρ b.toList)= .val v h':=e
  unfold bM0 at e
  split at e
  ·split at e
   ·split at e
    ·cases e
    ·simp only[Res.val.injEq]at e;exact e.2.symm
   ·cases e
  ·cases e
 case slice t x lo hi mx=>
  have e:aW3 E t h (ρ x) (evo ρ lo) (evo ρ hi) (evo ρ mx)= .val v h':=e
  cases hx:ρ x with
  |none=>rw[hx]at e;cases e
  |some a=>
   cases h1:evo ρ lo with
   |none=>rw[hx,h1]at e;cases e
   |some vl=>
    cases h2:evo ρ hi with
    |none=>rw[hx,h1,h2]at e;cases e
    |some vh=>
     cases h3:evo ρ mx with
     |none=>rw[hx,h1,h2,h3]at e;cases e
     |some vm=>
      rw[hx,h1,h2,h3]at e
      simp only[aW3]at e
      cases hc:(vh.isNone&&vm.isSome)with
      |true=>rw[hc]at e;cases e
      |false=>rw[hc]at e;exact(ah6 e).1
 case call c=>
  have e:bb9 E ρ c h (evs ρ c.args.toList)= .val v h':=e
  obtain⟨callee,args,ats⟩:=c
  cases hx:evs ρ args.toList with
  |none=>rw[hx]at e;cases e
  |some l=>
   rw[hx]at e
   cases callee with
   |builtin b=>
    have hb:b= .len∨b= .cap∨b= .min∨b= .max:=by cases b<;>first|(cases hf;done)|simp
    exact b39 hb e
   |_=>cases hf
def c47(h:Heap):Res→Prop
 | .val _ h'=>h'=h
 | .need _ _ h'=>h'=h
 | .cho _ _ _ _=>True
 | .enter _ _=>False
 | .choice _=>True
 | .yield _ _=>False
 | .defer _=>False
 | .bad=>True
theorem c48{c:Bool}{r s:Res}(hr:c47 h r)(hs:c47 h s):c47 h (bif c then r else s):=by cases c<;>assumption
theorem bs9{ρ:Operand→Option AV}{o:Oper}(hf:a78 o=true):c47 h (aJ9 E ρ o h):=by
 obtain⟨dst,op,ty,pos,after,guard⟩:=o
 cases op<;>first|(cases hf;done)|skip
 case call c=>
  obtain⟨callee,args,ats⟩:=c
  cases callee with
  |builtin b=>
   have hb:b= .len∨b= .cap∨b= .min∨b= .max:=by cases b<;>first|(cases hf;done)|simp
   show c47 h (aG7 E.P b ats h (evs ρ args.toList))
   rcases hb with rfl|rfl|rfl|rfl
   all_goals simp only[aG7,db7,yMM]
   all_goals repeat' split
   all_goals first
    |trivial
    |rfl
    |(rename_i h1;cases h1)
    |skip
  |_=>cases hf
 all_goals simp only[aJ9,cl8,df2,db2,db3,cF8,db4,cX4,yUn,cm3,b10,cm1,cm2,b11,cl9,bV1,bV0,cm0,al7,al8,bA4,b13,bV6,bA6,bW2,bW3,bW4]
 all_goals repeat' split
 all_goals first
  |trivial
  |rfl
  |skip
 all_goals repeat' (first|apply c48|split)
 all_goals first
  |trivial
  |rfl
theorem bt0{ρ:Operand→Option AV}{o:Oper}{v:AV}(hf:a78 o=true)(ha:V6 o=false)(e:aJ9 E ρ o h= .val v h'∨ ∃x,aJ9 E ρ o h= .need x v h'):h'=h:=by
 have:=bs9 (E:=E) (h:=h) (ρ:=ρ) hf
 rcases e with e|⟨x,e⟩<;>rw[e]at this<;>exact this
theorem bD0{c:Bool}{r s:Res}{v:AV}{x:SX}(hr:r≠ .need x v h')(hs:s≠ .need x v h'):(bif c then r else s)≠ .need x v h':=by cases c<;>assumption
theorem b40{y:Option AV}{v:AV}{x:SX}:ov y h≠ .need x v h':=by cases y<;>simp[ov]
theorem cL3{y:Option (AV×Heap)}{v:AV}{x:SX}:oh y≠ .need x v h':=by
 cases y with
 |none=>simp[oh]
 |some p=>simp[oh]
theorem cL4{y:Option Heap}{v:AV}{x:SX}:os y≠ .need x v h':=by cases y<;>simp[os]
theorem bP1{ρ:Operand→Option AV}{o:Oper}{v:AV}{x:SX}(hf:a78 o=true):at7 E ρ o h≠ .need x v h':=by
 obtain⟨dst,op,ty,pos,after,guard⟩:=o
 cases op<;>first|(cases hf;done)|skip
 case call c=>
  obtain⟨callee,args,ats⟩:=c
  cases callee with
  |builtin b=>
   show bb9 E ρ {callee:= .builtin b,args:=args,argTypes:=ats} h (evs ρ args.toList)≠ .need x v h'
   cases evs ρ args.toList with
   |none=>simp[bb9]
   |some l=>
    simp only[bb9,af9]
    repeat' split
    all_goals first
     |exact b40
     |(simp;done)
  |_=>cases hf
 all_goals simp only[at7,bo4,cz3,bA3,a47,cF7,bU8,cU6,b08,cU7,sUn,bL9,aW2,bM0,ck3,a94,aW3,cz4,aW4,s2,s3h,s2h,s1h,s1r,s1]
 all_goals repeat' split
 all_goals first
  |exact b40
  |exact cL3
  |exact cL4
  |(simp;done)
  |skip
 ·exact bD0 b40 (by simp)
 ·exact bD0 (by simp) b40
theorem am5{ρ:Operand→Option AV}{o:Oper}{v:AV}(hf:a78 o=true)(ha:V6 o=false)(e:W3 E ρ o h= .val v h'∨ ∃x,W3 E ρ o h= .need x v h'):h'=h:=by
 unfold W3 at e
 cases hc:at7 E ρ o h with
 |val v1 h1=>
  rw[hc]at e
  rcases e with e|⟨x,e⟩
  ·simp only[cX9,Res.val.injEq]at e
   rw[←e.2];exact bs8 hf ha hc
  ·cases e
 |need x v1 h1=>exact absurd hc (bP1 hf)
 |bad=>rw[hc]at e;exact bt0 (E:=E) (ρ:=ρ) hf ha e
 |_=>rw[hc]at e;rcases e with e|⟨x,e⟩<;>cases e
structure AllocA (E:Env) (ρ:Operand→Option AV) (o:Oper) (mk:Nat→AV) (x:Blk):Prop where
 step: ∀h2,W3 E ρ o h2= .val (mk h2.next) (h2.new x)
 nar:x.isArr=false
theorem AllocA.uniq{ρ:Operand→Option AV}{o:Oper}{mk mk':Nat→AV}{x x':Blk}(a:AllocA E ρ o mk x)(b:AllocA E ρ o mk' x'):x=x'∧ ∀n,mk n=mk' n:=by
 constructor
 ·have:=(a.step Heap.empty).symm.trans (b.step Heap.empty)
  simp only[Res.val.injEq]at this
  have h2:(Heap.empty.new x).get 0=(Heap.empty.new x').get 0:=by rw[this.2]
  rw[Heap.get_new,Heap.get_new,show Heap.empty.next=0 from rfl,if_pos rfl,if_pos rfl,if_pos (by omega),if_pos (by omega)]at h2
  simpa using h2
 ·intro n
  have:=(a.step ⟨Heap.empty.t,n,0⟩).symm.trans (b.step ⟨Heap.empty.t,n,0⟩)
  simp only[Res.val.injEq]at this
  exact this.1
end Go.Ev
