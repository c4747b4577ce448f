import Derived.Test.YtbfbcanipfnfeaaE18
set_option linter.unusedVariables false
set_option linter.unusedSimpArgs false
namespace Go.Ev
open Go
variable{E:Env}{β:Bij}{ω:Opq}{K:Nat→Prop}{w0 w:World}{h h':Heap}
theorem ae4{x:Option AV}{v:AV}(e:ov x h= .val v h'):h'=h∧x=some v:=by
 cases x with
 |none=>cases e
 |some a=>simp only[ov,Res.val.injEq]at e;exact⟨e.2.symm,by rw[e.1]⟩
theorem bZ5{x:Option (AV×Heap)}{v:AV}(e:oh x= .val v h'):x=some (v,h'):=by
 cases x with
 |none=>cases e
 |some a=>simp only[oh,Res.val.injEq]at e;rw[←e.1,←e.2]
theorem b18{b:Builtin}{ts:Array TypeId}{args:List AV}{p:AV×Heap}(hb:b= .len∨b= .cap∨b= .min∨b= .max)(hp:aq2 E.P b ts args h=some p):p.2=h:=by
 unfold aq2 at hp
 split at hp<;>first
  |(rcases hb with hb|hb|hb|hb<;>cases hb;done)
  |(simp only[j4]at hp;obtain⟨n,_,hp⟩:=hp;subst hp;rfl)
  |(simp only[a8]at hp;subst hp;rfl)
  |(split at hp<;>first|(simp only[j4]at hp;obtain⟨n,_,hp⟩:=hp;subst hp;rfl)|(simp only[a8]at hp;subst hp;rfl)|(cases hp;done))
  |cases hp
theorem b19{b:Builtin}{ts:Array TypeId}{args:List AV}{v:AV}(hb:b= .len∨b= .cap∨b= .min∨b= .max)(e:ac5 E b ts h args= .val v h'):h'=h:=by
 unfold ac5 at e
 split at e
 ·rename_i p hp
  simp only[Res.val.injEq]at e
  rw[←e.2];exact b18 hb hp
 ·split at e
  ·exact(ae4 e).1
  ·exact(ae4 e).1
  ·exact(ae4 e).1
  ·cases e
theorem bn2{ρ:Operand→Option AV}{o:Oper}{v:AV}(hf:a37 o=true)(ha:R9 o=false)(e:aq4 E ρ o h= .val v h'):h'=h:=by
 obtain⟨dst,op,ty,pos,after,guard⟩:=o
 have s1v: ∀{F:AV→Option AV} {a:Option AV},s1 F h a= .val v h'→h'=h:=by
  intro F a e;cases a with
  |none=>cases e
  |some a=>exact(ae4 e).1
 have s2v: ∀{F:AV→AV→Option AV} {a b:Option AV},s2 F h a b= .val v h'→h'=h:=by
  intro F a b e;cases a with
  |none=>cases e
  |some a=>cases b with
   |none=>cases e
   |some b=>exact(ae4 e).1
 cases op<;>first
  |(cases hf;done)
  |(cases ha;done)
  |exact(ae4 e).1
  |exact s1v e
  |exact s2v e
  |skip
 case pick c a b=>
  have e:bj0 ρ a b h (ρ c)= .val v h':=e
  unfold bj0 at e
  split at e
  ·exact(ae4 e).1
  ·cases e
 case nilCheck x=>
  have e:cN8 E.P h (ρ x)= .val v h':=e
  unfold cN8 at e
  split at e
  ·unfold aY7 at e
   split at e
   ·split at e
    ·simp only[Res.val.injEq]at e;exact e.2.symm
    ·cases e
   ·cases e
  ·exact(ae4 e).1
  ·cases e
 case build t ps=>
  have e:bu6 E.P t h (aS1 ρ ps.toList)= .val v h':=e
  cases hx:aS1 ρ ps.toList with
  |none=>rw[hx]at e;cases e
  |some l=>rw[hx]at e;exact(ae4 e).1
 case binOp op t x y yt=>
  have e:cN9 E op t x y h (ρ x) (ρ y)= .val v h':=e
  cases hx:ρ x with
  |none=>rw[hx]at e;cases e
  |some a=>
   cases hy:ρ y with
   |none=>rw[hx,hy]at e;cases e
   |some b=>
    rw[hx,hy]at e
    simp only[cN9]at e
    cases hg:an2 E.P op t x y a b with
    |false=>rw[hg]at e;cases e
    |true=>rw[hg]at e;exact(ae4 e).1
 case convert s d x=>
  have e:bG4 E s d h (ρ x)= .val v h':=e
  cases hx:ρ x with
  |none=>rw[hx]at e;cases e
  |some a=>
   rw[hx]at e
   simp only[bG4]at e
   cases hc:bG0 E.P s d a h with
   |none=>
    rw[hc]at e
    simp only[]at e
    cases hc2:bO9 E.P s d a h with
    |none=>rw[hc2]at e;exact(ae4 e).1
    |some p=>rw[hc2]at e;cases e
   |some p=>
    rw[hc]at e
    simp only[Res.val.injEq]at e
    unfold bG0 at hc
    split at hc
    ·simp only[a8]at hc;subst hc;exact e.2.symm
    ·simp only[a8]at hc;subst hc;exact e.2.symm
    ·simp only[j4]at hc
     obtain⟨l,_,rfl⟩:=hc
     exact e.2.symm
    ·unfold aC0 at hc
     split at hc
     ·obtain⟨_,hc⟩:=M7 hc
      simp only[a8]at hc;subst hc;exact e.2.symm
     ·cases hc
    ·unfold aC1 at hc
     split at hc
     ·obtain⟨_,hc⟩:=M7 hc
      simp only[a8]at hc;subst hc;exact e.2.symm
     ·cases hc
    ·cases hc
 case makeInterface t x=>
  have e:aT9 E.P t h (ρ x)= .val v h':=e
  cases hx:ρ x with
  |none=>rw[hx]at e;cases e
  |some l=>
   rw[hx]at e
   simp only[aT9]at e
   split at e
   ·cases e
   ·simp only[Res.val.injEq]at e;exact e.2.symm
   ·cases e
 case makeFunc fn a b=>
  have e:bG5 fn h (evs ρ a.toList) (evs ρ b.toList)= .val v h':=e
  unfold bG5 at e
  split at e
  ·split at e
   ·split at e
    ·cases e
    ·simp only[Res.val.injEq]at e;exact e.2.symm
   ·cases e
  ·cases e
 case slice t x lo hi mx=>
  have e:aU0 E t h (ρ x) (evo ρ lo) (evo ρ hi) (evo ρ mx)= .val v h':=e
  cases hx:ρ x with
  |none=>rw[hx]at e;cases e
  |some a=>
   cases h1:evo ρ lo with
   |none=>rw[hx,h1]at e;cases e
   |some vl=>
    cases h2:evo ρ hi with
    |none=>rw[hx,h1,h2]at e;cases e
    |some vh=>
     cases h3:evo ρ mx with
     |none=>rw[hx,h1,h2,h3]at e;cases e
     |some vm=>
      rw[hx,h1,h2,h3]at e
      simp only[aU0]at e
      cases hc:(vh.isNone&&vm.isSome)with
      |true=>rw[hc]at e;cases e
      |false=>rw[hc]at e;exact(ae4 e).1
 case call c=>
  have e:b82 E ρ c h (evs ρ c.args.toList)= .val v h':=e
  obtain⟨callee,args,ats⟩:=c
  cases hx:evs ρ args.toList with
  |none=>rw[hx]at e;cases e
  |some l=>
   rw[hx]at e
   cases callee with
   |builtin b=>
    have hb:b= .len∨b= .cap∨b= .min∨b= .max:=by cases b<;>first|(cases hf;done)|simp
    exact b19 hb e
   |_=>cases hf
def bZ6(h:Heap):Res→Prop
 | .val _ h'=>h'=h
 | .need _ _ h'=>h'=h
 | .cho _ _ _ _=>True
 | .enter _ _=>False
 | .choice _=>True
 | .yield _ _=>False
 | .defer _=>False
 | .bad=>True
theorem bZ7{c:Bool}{r s:Res}(hr:bZ6 h r)(hs:bZ6 h s):bZ6 h (bif c then r else s):=by cases c<;>assumption
theorem bn3{ρ:Operand→Option AV}{o:Oper}(hf:a37 o=true):bZ6 h (aG3 E ρ o h):=by
 obtain⟨dst,op,ty,pos,after,guard⟩:=o
 cases op<;>first|(cases hf;done)|skip
 case call c=>
  obtain⟨callee,args,ats⟩:=c
  cases callee with
  |builtin b=>
   have hb:b= .len∨b= .cap∨b= .min∨b= .max:=by cases b<;>first|(cases hf;done)|simp
   show bZ6 h (aC4 E.P b ats h (evs ρ args.toList))
   rcases hb with rfl|rfl|rfl|rfl
   all_goals simp only[aC4,d35,yMM]
   all_goals repeat' split
   all_goals first
    |trivial
    |rfl
    |(rename_i h1;cases h1)
    |skip
  |_=>cases hf
 all_goals simp only[aG3,cc7,d76,d30,d31,cw5,d32,cR2,yUn,cd0,aY9,aq5,aq6,aZ0,cc8,bP6,bP5,cc9,ai9,aj0,bu7,aZ4,bQ1,bv1,bQ9,bR0,bR1]
 all_goals repeat' split
 all_goals first
  |trivial
  |rfl
  |skip
 all_goals repeat' (first|apply bZ7|split)
 all_goals first
  |trivial
  |rfl
theorem bn4{ρ:Operand→Option AV}{o:Oper}{v:AV}(hf:a37 o=true)(ha:R9 o=false)(e:aG3 E ρ o h= .val v h'∨ ∃x,aG3 E ρ o h= .need x v h'):h'=h:=by
 have:=bn3 (E:=E) (h:=h) (ρ:=ρ) hf
 rcases e with e|⟨x,e⟩<;>rw[e]at this<;>exact this
theorem bx4{c:Bool}{r s:Res}{v:AV}{x:SX}(hr:r≠ .need x v h')(hs:s≠ .need x v h'):(bif c then r else s)≠ .need x v h':=by cases c<;>assumption
theorem b20{y:Option AV}{v:AV}{x:SX}:ov y h≠ .need x v h':=by cases y<;>simp[ov]
theorem cC0{y:Option (AV×Heap)}{v:AV}{x:SX}:oh y≠ .need x v h':=by
 cases y with
 |none=>simp[oh]
 |some p=>simp[oh]
theorem cC1{y:Option Heap}{v:AV}{x:SX}:os y≠ .need x v h':=by cases y<;>simp[os]
theorem bJ6{ρ:Operand→Option AV}{o:Oper}{v:AV}{x:SX}(hf:a37 o=true):aq4 E ρ o h≠ .need x v h':=by
 obtain⟨dst,op,ty,pos,after,guard⟩:=o
 cases op<;>first|(cases hf;done)|skip
 case call c=>
  obtain⟨callee,args,ats⟩:=c
  cases callee with
  |builtin b=>
   show b82 E ρ {callee:= .builtin b,args:=args,argTypes:=ats} h (evs ρ args.toList)≠ .need x v h'
   cases evs ρ args.toList with
   |none=>simp[b82]
   |some l=>
    simp only[b82,ac5]
    repeat' split
    all_goals first
     |exact b20
     |(simp;done)
  |_=>cases hf
 all_goals simp only[aq4,bj0,cp2,bu6,a06,cw4,bP3,cN8,aY7,cN9,sUn,bG4,aT9,bG5,cb5,a60,aU0,cp3,aU1,s2,s3h,s2h,s1h,s1r,s1]
 all_goals repeat' split
 all_goals first
  |exact b20
  |exact cC0
  |exact cC1
  |(simp;done)
  |skip
 ·exact bx4 b20 (by simp)
 ·exact bx4 (by simp) b20
theorem aj9{ρ:Operand→Option AV}{o:Oper}{v:AV}(hf:a37 o=true)(ha:R9 o=false)(e:S5 E ρ o h= .val v h'∨ ∃x,S5 E ρ o h= .need x v h'):h'=h:=by
 unfold S5 at e
 cases hc:aq4 E ρ o h with
 |val v1 h1=>
  rw[hc]at e
  rcases e with e|⟨x,e⟩
  ·simp only[cR8,Res.val.injEq]at e
   rw[←e.2];exact bn2 hf ha hc
  ·cases e
 |need x v1 h1=>exact absurd hc (bJ6 hf)
 |bad=>rw[hc]at e;exact bn4 (E:=E) (ρ:=ρ) hf ha e
 |_=>rw[hc]at e;rcases e with e|⟨x,e⟩<;>cases e
structure AllocA (E:Env) (ρ:Operand→Option AV) (o:Oper) (mk:Nat→AV) (x:Blk):Prop where
 step: ∀h2,S5 E ρ o h2= .val (mk h2.next) (h2.new x)
 nar:x.isArr=false
theorem AllocA.uniq{ρ:Operand→Option AV}{o:Oper}{mk mk':Nat→AV}{x x':Blk}(a:AllocA E ρ o mk x)(b:AllocA E ρ o mk' x'):x=x'∧ ∀n,mk n=mk' n:=by
 constructor
 ·have:=(a.step Heap.empty).symm.trans (b.step Heap.empty)
  simp only[Res.val.injEq]at this
  have h2:(Heap.empty.new x).get 0=(Heap.empty.new x').get 0:=by rw[this.2]
  rw[Heap.get_new,Heap.get_new,show Heap.empty.next=0 from rfl,if_pos rfl,if_pos rfl,if_pos (by omega),if_pos (by omega)]at h2
  simpa using h2
 ·intro n
  have:=(a.step ⟨Heap.empty.t,n,0⟩).symm.trans (b.step ⟨Heap.empty.t,n,0⟩)
  simp only[Res.val.injEq]at this
  exact this.1
end Go.Ev
