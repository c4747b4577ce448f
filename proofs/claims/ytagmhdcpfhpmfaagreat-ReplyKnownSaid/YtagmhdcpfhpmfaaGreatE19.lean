import Derived.Test.YtagmhdcpfhpmfaaGreatE18
set_option linter.unusedVariables false
set_option linter.unusedSimpArgs false
namespace Go.Ev
open Go
variable{E:Env}{β:Bij}{ω:Opq}{K:Nat→Prop}{w0 w:World}{h h':Heap}
theorem ak1{x:Option AV}{v:AV}(e:ov x h= .val v h'):h'=h∧x=some v:=by
 cases x with
 |none=>cases e
 |some a=>simp only[ov,Res.val.injEq]at e;exact⟨e.2.symm,by rw[e.1]⟩
theorem cl3{x:Option (AV×Heap)}{v:AV}(e:oh x= .val v h'):x=some (v,h'):=by
 cases x with
 |none=>cases e
 |some a=>simp only[oh,Res.val.injEq]at e;rw[←e.1,←e.2]
theorem bp6{b:Builtin}{ts:Array TypeId}{args:List AV}{p:AV×Heap}(hb:b= .len∨b= .cap∨b= .min∨b= .max)(hp:aB2 E.P b ts args h=some p):p.2=h:=by
 unfold aB2 at hp
 split at hp<;>first
  |(rcases hb with hb|hb|hb|hb<;>cases hb;done)
  |(simp only[j1]at hp;obtain⟨n,_,hp⟩:=hp;subst hp;rfl)
  |(simp only[d5]at hp;subst hp;rfl)
  |(split at hp<;>first|(simp only[j1]at hp;obtain⟨n,_,hp⟩:=hp;subst hp;rfl)|(simp only[d5]at hp;subst hp;rfl)|(cases hp;done))
  |cases hp
theorem bp7{b:Builtin}{ts:Array TypeId}{args:List AV}{v:AV}(hb:b= .len∨b= .cap∨b= .min∨b= .max)(e:ad3 E b ts h args= .val v h'):h'=h:=by
 unfold ad3 at e
 split at e
 ·rename_i p hp
  simp only[Res.val.injEq]at e
  rw[←e.2];exact bp6 hb hp
 ·split at e
  ·exact(ak1 e).1
  ·exact(ak1 e).1
  ·exact(ak1 e).1
  ·cases e
theorem bM8{ρ:Operand→Option AV}{o:Oper}{v:AV}(hf:a30 o=true)(ha:Q6 o=false)(e:aB4 E ρ o h= .val v h'):h'=h:=by
 obtain⟨dst,op,ty,pos,after,guard⟩:=o
 have s1v: ∀{F:AV→Option AV} {a:Option AV},s1 F h a= .val v h'→h'=h:=by
  intro F a e;cases a with
  |none=>cases e
  |some a=>exact(ak1 e).1
 have s2v: ∀{F:AV→AV→Option AV} {a b:Option AV},s2 F h a b= .val v h'→h'=h:=by
  intro F a b e;cases a with
  |none=>cases e
  |some a=>cases b with
   |none=>cases e
   |some b=>exact(ak1 e).1
 cases op<;>first
  |(cases hf;done)
  |(cases ha;done)
  |exact(ak1 e).1
  |exact s1v e
  |exact s2v e
  |skip
 case pick c a b=>
  have e:bJ3 ρ a b h (ρ c)= .val v h':=e
  unfold bJ3 at e
  split at e
  ·exact(ak1 e).1
  ·cases e
 case nilCheck x=>
  have e:d67 E.P h (ρ x)= .val v h':=e
  unfold d67 at e
  split at e
  ·unfold bn2 at e
   split at e
   ·split at e
    ·simp only[Res.val.injEq]at e;exact e.2.symm
    ·cases e
   ·cases e
  ·exact(ak1 e).1
  ·cases e
 case build t ps=>
  have e:bW3 E.P t h (bg7 ρ ps.toList)= .val v h':=e
  cases hx:bg7 ρ ps.toList with
  |none=>rw[hx]at e;cases e
  |some l=>rw[hx]at e;exact(ak1 e).1
 case binOp op t x y yt=>
  have e:d68 E op t x y h (ρ x) (ρ y)= .val v h':=e
  cases hx:ρ x with
  |none=>rw[hx]at e;cases e
  |some a=>
   cases hy:ρ y with
   |none=>rw[hx,hy]at e;cases e
   |some b=>
    rw[hx,hy]at e
    simp only[d68]at e
    cases hg:ax5 E.P op t x y a b with
    |false=>rw[hg]at e;cases e
    |true=>rw[hg]at e;exact(ak1 e).1
 case convert s d x=>
  have e:c50 E s d h (ρ x)= .val v h':=e
  cases hx:ρ x with
  |none=>rw[hx]at e;cases e
  |some a=>
   rw[hx]at e
   simp only[c50]at e
   cases hc:c46 E.P s d a h with
   |none=>
    rw[hc]at e
    simp only[]at e
    cases hc2:cc3 E.P s d a h with
    |none=>rw[hc2]at e;exact(ak1 e).1
    |some p=>rw[hc2]at e;cases e
   |some p=>
    rw[hc]at e
    simp only[Res.val.injEq]at e
    unfold c46 at hc
    split at hc
    ·simp only[d5]at hc;subst hc;exact e.2.symm
    ·simp only[d5]at hc;subst hc;exact e.2.symm
    ·simp only[j1]at hc
     obtain⟨l,_,rfl⟩:=hc
     exact e.2.symm
    ·unfold aT7 at hc
     split at hc
     ·obtain⟨_,hc⟩:=G8 hc
      simp only[d5]at hc;subst hc;exact e.2.symm
     ·cases hc
    ·unfold aT8 at hc
     split at hc
     ·obtain⟨_,hc⟩:=G8 hc
      simp only[d5]at hc;subst hc;exact e.2.symm
     ·cases hc
    ·cases hc
 case makeInterface t x=>
  have e:bi4 E.P t h (ρ x)= .val v h':=e
  cases hx:ρ x with
  |none=>rw[hx]at e;cases e
  |some l=>
   rw[hx]at e
   simp only[bi4]at e
   split at e
   ·cases e
   ·simp only[Res.val.injEq]at e;exact e.2.symm
   ·cases e
 case makeFunc fn a b=>
  have e:c51 fn h (evs ρ a.toList) (evs ρ b.toList)= .val v h':=e
  unfold c51 at e
  split at e
  ·split at e
   ·split at e
    ·cases e
    ·simp only[Res.val.injEq]at e;exact e.2.symm
   ·cases e
  ·cases e
 case slice t x lo hi mx=>
  have e:bi5 E t h (ρ x) (evo ρ lo) (evo ρ hi) (evo ρ mx)= .val v h':=e
  cases hx:ρ x with
  |none=>rw[hx]at e;cases e
  |some a=>
   cases h1:evo ρ lo with
   |none=>rw[hx,h1]at e;cases e
   |some vl=>
    cases h2:evo ρ hi with
    |none=>rw[hx,h1,h2]at e;cases e
    |some vh=>
     cases h3:evo ρ mx with
     |none=>rw[hx,h1,h2,h3]at e;cases e
     |some vm=>
      rw[hx,h1,h2,h3]at e
      simp only[bi5]at e
      cases hc:(vh.isNone&&vm.isSome)with
      |true=>rw[hc]at e;cases e
      |false=>rw[hc]at e;exact(ak1 e).1
 case call c=>
  have e:bA8 E ρ c h (evs ρ c.args.toList)= .val v h':=e
  obtain⟨callee,args,ats⟩:=c
  cases hx:evs ρ args.toList with
  |none=>rw[hx]at e;cases e
  |some l=>
   rw[hx]at e
   cases callee with
   |builtin b=>
    have hb:b= .len∨b= .cap∨b= .min∨b= .max:=by cases b<;>first|(cases hf;done)|simp
    exact bp7 hb e
   |_=>cases hf
def cl4(h:Heap):Res→Prop
 | .val _ h'=>h'=h
 | .need _ _ h'=>h'=h
 | .cho _ _ _ _=>True
 | .enter _ _=>False
 | .choice _=>True
 | .yield _ _=>False
 | .defer _=>False
 | .bad=>True
theorem cl5{c:Bool}{r s:Res}(hr:cl4 h r)(hs:cl4 h s):cl4 h (bif c then r else s):=by cases c<;>assumption
theorem bM9{ρ:Operand→Option AV}{o:Oper}(hf:a30 o=true):cl4 h (aZ0 E ρ o h):=by
 obtain⟨dst,op,ty,pos,after,guard⟩:=o
 cases op<;>first|(cases hf;done)|skip
 case call c=>
  obtain⟨callee,args,ats⟩:=c
  cases callee with
  |builtin b=>
   have hb:b= .len∨b= .cap∨b= .min∨b= .max:=by cases b<;>first|(cases hf;done)|simp
   show cl4 h (aU1 E.P b ats h (evs ρ args.toList))
   rcases hb with rfl|rfl|rfl|rfl
   all_goals simp only[aU1,dm7,yMM]
   all_goals repeat' split
   all_goals first
    |trivial
    |rfl
    |(rename_i h1;cases h1)
    |skip
  |_=>cases hf
 all_goals simp only[aZ0,cA3,dq2,dm2,dm3,cT2,dm4,d88,yUn,cA8,bn3,aB5,aB6,bn4,cA4,cd0,cc9,cA6,ap2,ap3,bW4,bn7,bW7,cd8,cd9,ce0]
 all_goals repeat' split
 all_goals first
  |trivial
  |rfl
  |skip
 all_goals repeat' (first|apply cl5|split)
 all_goals first
  |trivial
  |rfl
theorem bN0{ρ:Operand→Option AV}{o:Oper}{v:AV}(hf:a30 o=true)(ha:Q6 o=false)(e:aZ0 E ρ o h= .val v h'∨ ∃x,aZ0 E ρ o h= .need x v h'):h'=h:=by
 have:=bM9 (E:=E) (h:=h) (ρ:=ρ) hf
 rcases e with e|⟨x,e⟩<;>rw[e]at this<;>exact this
theorem bY9{c:Bool}{r s:Res}{v:AV}{x:SX}(hr:r≠ .need x v h')(hs:s≠ .need x v h'):(bif c then r else s)≠ .need x v h':=by cases c<;>assumption
theorem bp8{y:Option AV}{v:AV}{x:SX}:ov y h≠ .need x v h':=by cases y<;>simp[ov]
theorem cY3{y:Option (AV×Heap)}{v:AV}{x:SX}:oh y≠ .need x v h':=by
 cases y with
 |none=>simp[oh]
 |some p=>simp[oh]
theorem cY4{y:Option Heap}{v:AV}{x:SX}:os y≠ .need x v h':=by cases y<;>simp[os]
theorem c79{ρ:Operand→Option AV}{o:Oper}{v:AV}{x:SX}(hf:a30 o=true):aB4 E ρ o h≠ .need x v h':=by
 obtain⟨dst,op,ty,pos,after,guard⟩:=o
 cases op<;>first|(cases hf;done)|skip
 case call c=>
  obtain⟨callee,args,ats⟩:=c
  cases callee with
  |builtin b=>
   show bA8 E ρ {callee:= .builtin b,args:=args,argTypes:=ats} h (evs ρ args.toList)≠ .need x v h'
   cases evs ρ args.toList with
   |none=>simp[bA8]
   |some l=>
    simp only[bA8,ad3]
    repeat' split
    all_goals first
     |exact bp8
     |(simp;done)
  |_=>cases hf
 all_goals simp only[aB4,bJ3,cN2,bW3,a04,cT1,cc7,d67,bn2,d68,sUn,c50,bi4,c51,cz1,a51,bi5,cN3,bi6,s2,s3h,s2h,s1h,s1r,s1]
 all_goals repeat' split
 all_goals first
  |exact bp8
  |exact cY3
  |exact cY4
  |(simp;done)
  |skip
 ·exact bY9 bp8 (by simp)
 ·exact bY9 (by simp) bp8
theorem aq1{ρ:Operand→Option AV}{o:Oper}{v:AV}(hf:a30 o=true)(ha:Q6 o=false)(e:R6 E ρ o h= .val v h'∨ ∃x,R6 E ρ o h= .need x v h'):h'=h:=by
 unfold R6 at e
 cases hc:aB4 E ρ o h with
 |val v1 h1=>
  rw[hc]at e
  rcases e with e|⟨x,e⟩
  ·simp only[d91,Res.val.injEq]at e
   rw[←e.2];exact bM8 hf ha hc
  ·cases e
 |need x v1 h1=>exact absurd hc (c79 hf)
 |bad=>rw[hc]at e;exact bN0 (E:=E) (ρ:=ρ) hf ha e
 |_=>rw[hc]at e;rcases e with e|⟨x,e⟩<;>cases e
structure AllocA (E:Env) (ρ:Operand→Option AV) (o:Oper) (mk:Nat→AV) (x:Blk):Prop where
 step: ∀h2,R6 E ρ o h2= .val (mk h2.next) (h2.new x)
 nar:x.isArr=false
theorem AllocA.uniq{ρ:Operand→Option AV}{o:Oper}{mk mk':Nat→AV}{x x':Blk}(a:AllocA E ρ o mk x)(b:AllocA E ρ o mk' x'):x=x'∧ ∀n,mk n=mk' n:=by
 constructor
 ·have:=(a.step Heap.empty).symm.trans (b.step Heap.empty)
  simp only[Res.val.injEq]at this
  have h2:(Heap.empty.new x).get 0=(Heap.empty.new x').get 0:=by rw[this.2]
  rw[Heap.get_new,Heap.get_new,show Heap.empty.next=0 from rfl,if_pos rfl,if_pos rfl,if_pos (by omega),if_pos (by omega)]at h2
  simpa using h2
 ·intro n
  have:=(a.step ⟨Heap.empty.t,n,0⟩).symm.trans (b.step ⟨Heap.empty.t,n,0⟩)
  simp only[Res.val.injEq]at this
  exact this.1
end Go.Ev
