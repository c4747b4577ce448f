import Derived.Test.YtfpjiopkeekkeaaGreatDoorE18
set_option autoImplicit false
set_option linter.unusedVariables false
set_option linter.unusedSimpArgs false
namespace Go.Ev
open Go
variable{E:Env}{β:Bij}{ω:Opq}{K:Nat→Prop}{w0 w:World}{h h':Heap}
theorem ah8{x:Option AV}{v:AV}(e:ov x h= .val v h'):h'=h∧x=some v:=by
 cases x with
 |none=>cases e
 |some a=>simp only[ov,Res.val.injEq]at e;exact⟨e.2.symm,by rw[e.1]⟩
theorem c21{x:Option (AV×Heap)}{v:AV}(e:oh x= .val v h'):x=some (v,h'):=by
 cases x with
 |none=>cases e
 |some a=>simp only[oh,Res.val.injEq]at e;rw[←e.1,←e.2]
theorem b57{b:Builtin}{ts:Array TypeId}{args:List AV}{p:AV×Heap}(hb:b= .len∨b= .cap∨b= .min∨b= .max)(hp:av2 E.P b ts args h=some p):p.2=h:=by
 unfold av2 at hp
 split at hp<;>first
  |(rcases hb with hb|hb|hb|hb<;>cases hb;done)
  |(simp only[l5]at hp;obtain⟨n,_,hp⟩:=hp;subst hp;rfl)
  |(simp only[a8]at hp;subst hp;rfl)
  |(split at hp<;>first|(simp only[l5]at hp;obtain⟨n,_,hp⟩:=hp;subst hp;rfl)|(simp only[a8]at hp;subst hp;rfl)|(cases hp;done))
  |cases hp
theorem b58{b:Builtin}{ts:Array TypeId}{args:List AV}{v:AV}(hb:b= .len∨b= .cap∨b= .min∨b= .max)(e:ag0 E b ts h args= .val v h'):h'=h:=by
 unfold ag0 at e
 split at e
 ·rename_i p hp
  simp only[Res.val.injEq]at e
  rw[←e.2];exact b57 hb hp
 ·split at e
  ·exact(ah8 e).1
  ·exact(ah8 e).1
  ·exact(ah8 e).1
  ·cases e
theorem br4{ρ:Operand→Option AV}{o:Oper}{v:AV}(hf:a73 o=true)(ha:T7 o=false)(e:av4 E ρ o h= .val v h'):h'=h:=by
 obtain⟨dst,op,ty,pos,after,guard⟩:=o
 have s1v: ∀{F:AV→Option AV} {a:Option AV},s1 F h a= .val v h'→h'=h:=by
  intro F a e;cases a with
  |none=>cases e
  |some a=>exact(ah8 e).1
 have s2v: ∀{F:AV→AV→Option AV} {a b:Option AV},s2 F h a b= .val v h'→h'=h:=by
  intro F a b e;cases a with
  |none=>cases e
  |some a=>cases b with
   |none=>cases e
   |some b=>exact(ah8 e).1
 cases op<;>first
  |(cases hf;done)
  |(cases ha;done)
  |exact(ah8 e).1
  |exact s1v e
  |exact s2v e
  |skip
 case pick c a b=>
  have e:bn2 ρ a b h (ρ c)= .val v h':=e
  unfold bn2 at e
  split at e
  ·exact(ah8 e).1
  ·cases e
 case nilCheck x=>
  have e:cP8 E.P h (ρ x)= .val v h':=e
  unfold cP8 at e
  split at e
  ·unfold b27 at e
   split at e
   ·split at e
    ·simp only[Res.val.injEq]at e;exact e.2.symm
    ·cases e
   ·cases e
  ·exact(ah8 e).1
  ·cases e
 case build t ps=>
  have e:by2 E.P t h (aW4 ρ ps.toList)= .val v h':=e
  cases hx:aW4 ρ ps.toList with
  |none=>rw[hx]at e;cases e
  |some l=>rw[hx]at e;exact(ah8 e).1
 case binOp op t x y yt=>
  have e:cP9 E op t x y h (ρ x) (ρ y)= .val v h':=e
  cases hx:ρ x with
  |none=>rw[hx]at e;cases e
  |some a=>
   cases hy:ρ y with
   |none=>rw[hx,hy]at e;cases e
   |some b=>
    rw[hx,hy]at e
    simp only[cP9]at e
    cases hg:ar5 E.P op t x y a b with
    |false=>rw[hg]at e;cases e
    |true=>rw[hg]at e;exact(ah8 e).1
 case convert s d x=>
  have e:bJ2 E s d h (ρ x)= .val v h':=e
  cases hx:ρ x with
  |none=>rw[hx]at e;cases e
  |some a=>
   rw[hx]at e
   simp only[bJ2]at e
   cases hc:bJ0 E.P s d a h with
   |none=>
    rw[hc]at e
    simp only[]at e
    cases hc2:bR7 E.P s d a h with
    |none=>rw[hc2]at e;exact(ah8 e).1
    |some p=>rw[hc2]at e;cases e
   |some p=>
    rw[hc]at e
    simp only[Res.val.injEq]at e
    unfold bJ0 at hc
    split at hc
    ·simp only[a8]at hc;subst hc;exact e.2.symm
    ·simp only[a8]at hc;subst hc;exact e.2.symm
    ·simp only[l5]at hc
     obtain⟨l,_,rfl⟩:=hc
     exact e.2.symm
    ·unfold aH4 at hc
     split at hc
     ·obtain⟨_,hc⟩:=O5 hc
      simp only[a8]at hc;subst hc;exact e.2.symm
     ·cases hc
    ·unfold aH5 at hc
     split at hc
     ·obtain⟨_,hc⟩:=O5 hc
      simp only[a8]at hc;subst hc;exact e.2.symm
     ·cases hc
    ·cases hc
 case makeInterface t x=>
  have e:aY4 E.P t h (ρ x)= .val v h':=e
  cases hx:ρ x with
  |none=>rw[hx]at e;cases e
  |some l=>
   rw[hx]at e
   simp only[aY4]at e
   split at e
   ·cases e
   ·simp only[Res.val.injEq]at e;exact e.2.symm
   ·cases e
 case makeFunc fn a b=>
  have e:bJ3 fn h (evs ρ a.toList) (evs ρ b.toList)= .val v h':=e
  unfold bJ3 at e
  split at e
  ·split at e
   ·split at e
    ·cases e
    ·simp only[Res.val.injEq]at e;exact e.2.symm
   ·cases e
  ·cases e
 case slice t x lo hi mx=>
  have e:aY5 E t h (ρ x) (evo ρ lo) (evo ρ hi) (evo ρ mx)= .val v h':=e
  cases hx:ρ x with
  |none=>rw[hx]at e;cases e
  |some a=>
   cases h1:evo ρ lo with
   |none=>rw[hx,h1]at e;cases e
   |some vl=>
    cases h2:evo ρ hi with
    |none=>rw[hx,h1,h2]at e;cases e
    |some vh=>
     cases h3:evo ρ mx with
     |none=>rw[hx,h1,h2,h3]at e;cases e
     |some vm=>
      rw[hx,h1,h2,h3]at e
      simp only[aY5]at e
      cases hc:(vh.isNone&&vm.isSome)with
      |true=>rw[hc]at e;cases e
      |false=>rw[hc]at e;exact(ah8 e).1
 case call c=>
  have e:bc2 E ρ c h (evs ρ c.args.toList)= .val v h':=e
  obtain⟨callee,args,ats⟩:=c
  cases hx:evs ρ args.toList with
  |none=>rw[hx]at e;cases e
  |some l=>
   rw[hx]at e
   cases callee with
   |builtin b=>
    have hb:b= .len∨b= .cap∨b= .min∨b= .max:=by cases b<;>first|(cases hf;done)|simp
    exact b58 hb e
   |_=>cases hf
def c22(h:Heap):Res→Prop
 | .val _ h'=>h'=h
 | .need _ _ h'=>h'=h
 | .cho _ _ _ _=>True
 | .enter _ _=>False
 | .choice _=>True
 | .yield _ _=>False
 | .defer _=>False
 | .bad=>True
theorem c23{c:Bool}{r s:Res}(hr:c22 h r)(hs:c22 h s):c22 h (bif c then r else s):=by cases c<;>assumption
theorem br5{ρ:Operand→Option AV}{o:Oper}(hf:a73 o=true):c22 h (aL0 E ρ o h):=by
 obtain⟨dst,op,ty,pos,after,guard⟩:=o
 cases op<;>first|(cases hf;done)|skip
 case call c=>
  obtain⟨callee,args,ats⟩:=c
  cases callee with
  |builtin b=>
   have hb:b= .len∨b= .cap∨b= .min∨b= .max:=by cases b<;>first|(cases hf;done)|simp
   show c22 h (aH8 E.P b ats h (evs ρ args.toList))
   rcases hb with rfl|rfl|rfl|rfl
   all_goals simp only[aH8,d74,yMM]
   all_goals repeat' split
   all_goals first
    |trivial
    |rfl
    |(rename_i h1;cases h1)
    |skip
  |_=>cases hf
 all_goals simp only[aL0,ch4,db4,d69,d70,cA2,d71,cT3,yUn,ch7,b29,av5,av6,b30,ch5,bS4,bS3,ch6,an4,an5,by3,b34,bS9,by7,bT7,bT8,bT9]
 all_goals repeat' split
 all_goals first
  |trivial
  |rfl
  |skip
 all_goals repeat' (first|apply c23|split)
 all_goals first
  |trivial
  |rfl
theorem br6{ρ:Operand→Option AV}{o:Oper}{v:AV}(hf:a73 o=true)(ha:T7 o=false)(e:aL0 E ρ o h= .val v h'∨ ∃x,aL0 E ρ o h= .need x v h'):h'=h:=by
 have:=br5 (E:=E) (h:=h) (ρ:=ρ) hf
 rcases e with e|⟨x,e⟩<;>rw[e]at this<;>exact this
theorem bB0{c:Bool}{r s:Res}{v:AV}{x:SX}(hr:r≠ .need x v h')(hs:s≠ .need x v h'):(bif c then r else s)≠ .need x v h':=by cases c<;>assumption
theorem b59{y:Option AV}{v:AV}{x:SX}:ov y h≠ .need x v h':=by cases y<;>simp[ov]
theorem cF7{y:Option (AV×Heap)}{v:AV}{x:SX}:oh y≠ .need x v h':=by
 cases y with
 |none=>simp[oh]
 |some p=>simp[oh]
theorem cF8{y:Option Heap}{v:AV}{x:SX}:os y≠ .need x v h':=by cases y<;>simp[os]
theorem bM3{ρ:Operand→Option AV}{o:Oper}{v:AV}{x:SX}(hf:a73 o=true):av4 E ρ o h≠ .need x v h':=by
 obtain⟨dst,op,ty,pos,after,guard⟩:=o
 cases op<;>first|(cases hf;done)|skip
 case call c=>
  obtain⟨callee,args,ats⟩:=c
  cases callee with
  |builtin b=>
   show bc2 E ρ {callee:= .builtin b,args:=args,argTypes:=ats} h (evs ρ args.toList)≠ .need x v h'
   cases evs ρ args.toList with
   |none=>simp[bc2]
   |some l=>
    simp only[bc2,ag0]
    repeat' split
    all_goals first
     |exact b59
     |(simp;done)
  |_=>cases hf
 all_goals simp only[av4,bn2,cu2,by2,a32,cA1,bS1,cP8,b27,cP9,sUn,bJ2,aY4,bJ3,cf9,a90,aY5,cu3,aY6,s2,s3h,s2h,s1h,s1r,s1]
 all_goals repeat' split
 all_goals first
  |exact b59
  |exact cF7
  |exact cF8
  |(simp;done)
  |skip
 ·exact bB0 b59 (by simp)
 ·exact bB0 (by simp) b59
theorem ao4{ρ:Operand→Option AV}{o:Oper}{v:AV}(hf:a73 o=true)(ha:T7 o=false)(e:U3 E ρ o h= .val v h'∨ ∃x,U3 E ρ o h= .need x v h'):h'=h:=by
 unfold U3 at e
 cases hc:av4 E ρ o h with
 |val v1 h1=>
  rw[hc]at e
  rcases e with e|⟨x,e⟩
  ·simp only[cT9,Res.val.injEq]at e
   rw[←e.2];exact br4 hf ha hc
  ·cases e
 |need x v1 h1=>exact absurd hc (bM3 hf)
 |bad=>rw[hc]at e;exact br6 (E:=E) (ρ:=ρ) hf ha e
 |_=>rw[hc]at e;rcases e with e|⟨x,e⟩<;>cases e
structure AllocA (E:Env) (ρ:Operand→Option AV) (o:Oper) (mk:Nat→AV) (x:Blk):Prop where
 step: ∀h2,U3 E ρ o h2= .val (mk h2.next) (h2.new x)
 nar:x.isArr=false
theorem AllocA.uniq{ρ:Operand→Option AV}{o:Oper}{mk mk':Nat→AV}{x x':Blk}(a:AllocA E ρ o mk x)(b:AllocA E ρ o mk' x'):x=x'∧ ∀n,mk n=mk' n:=by
 constructor
 ·have:=(a.step Heap.empty).symm.trans (b.step Heap.empty)
  simp only[Res.val.injEq]at this
  have h2:(Heap.empty.new x).get 0=(Heap.empty.new x').get 0:=by rw[this.2]
  rw[Heap.get_new,Heap.get_new,show Heap.empty.next=0 from rfl,if_pos rfl,if_pos rfl,if_pos (by omega),if_pos (by omega)]at h2
  simpa using h2
 ·intro n
  have:=(a.step ⟨Heap.empty.t,n,0⟩).symm.trans (b.step ⟨Heap.empty.t,n,0⟩)
  simp only[Res.val.injEq]at this
  exact this.1
end Go.Ev
