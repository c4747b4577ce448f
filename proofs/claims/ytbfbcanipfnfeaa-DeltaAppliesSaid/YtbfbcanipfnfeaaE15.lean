import Derived.Test.YtbfbcanipfnfeaaE14
import Derived.Lib.MakeNoZero
import Derived.CallsIn
set_option linter.unusedVariables false
set_option linter.unusedSimpArgs false
namespace Go.Ev
open Go
structure Env.Ok (E:Env) (ω:Opq):Prop where
 fix: ∀t,ω.fix t=aq0 E.P t
 name: ∀(f:FuncId) (fn:Func),E.P.funcs[f]? =some fn→(fn.name== "runtime.NumGoroutine")=false
 ext: ∀(f:FuncId) (e:Ext),E.ext f=some e→ ∃fn:Func,E.P.funcs[f]? =some fn∧fn.body=none∧Extern.findNext fn=none∧Extern.find fn=some e.model
 bin: ∀op a b v,E.fact (.bin op) [a,b]=some v→ ∀(β:Bij) t va vb,VR β ω a va→VR β ω b vb→ ∃u,VR β ω v u∧ ∀w,(binOp op t va vb).run E.P w= .ok u w
 un: ∀op a v,E.fact (.un op) [a]=some v→ ∀(β:Bij) va,VR β ω a va→ ∃u,VR β ω v u∧ ∀w,(Op.unary op va).run E.P w= .ok u w
 conv: ∀d a v,E.fact (.conv d) [a]=some v→ ∀(β:Bij) s va,VR β ω a va→ ∃u,VR β ω v u∧ ∀w,(convert s d va).run E.P w= .ok u w
 blt: ∀b k as v,(b= .len∧k= .len∨b= .max∧k= .max∨b= .min∧k= .min)→E.fact k as=some v→ ∀(β:Bij) ts ty cs us,VRs β ω as us→ ∃u,VR β ω v u∧ ∀w,(builtin b ts ty cs us.toArray).run E.P w= .ok (.value u) w
variable{E:Env}{β:Bij}{ω:Opq}{K:Nat→Prop}{w0 w:World}{h h':Heap}
def DR(β:Bij)(ω:Opq):ADef→Deferred→Prop
 | .coll b,d=> ∃L,β b=some L∧d={target:= .collected L.blk,args:= #[]}
 | .fn f cap args,d=> ∃us cs,d={target:= .fn (.func f) cs,args:=us}∧VRs β ω args us.toList∧VRs β ω cap cs.toList
def DsR(β:Bij)(ω:Opq):List ADef→List Deferred→Prop
 | [],ds=>ds=[]
 |a::r,ds=> ∃d dr,ds=d::dr∧DR β ω a d∧DsR β ω r dr
theorem DR.mono{β':Bij}(hl:Le β β'): ∀{a:ADef} {d:Deferred},DR β ω a d→DR β' ω a d
 | .coll b,d,⟨L,h1,h2⟩=>⟨L,hl _ _ h1,h2⟩
 | .fn f cap args,d,⟨us,cs,h1,h2,h3⟩=>⟨us,cs,h1,VRs.mono hl _ _ h2,VRs.mono hl _ _ h3⟩
theorem DsR.mono{β':Bij}(hl:Le β β'): ∀{a:List ADef} {d:List Deferred},DsR β ω a d→DsR β' ω a d
 | [],_,h=>h
 |a::r,d,⟨x,y,h1,h2,h3⟩=>⟨x,y,h1,h2.mono hl,DsR.mono hl h3⟩
def W2(E:Env)(β:Bij)(ω:Opq)(K:Nat→Prop)(w0 w:World)(h:Heap)(m:Sem Next)(v:AV)(h':Heap):Prop:=
 ∃β' u w',(m.run E.P w= .ok (.value u) w'∨u=Go.undef∧m.run E.P w= .ok .skip w')∧VR β' ω v u∧HR β' ω K w0 h' w'∧St h β h' β'
def SOk(E:Env)(β:Bij)(ω:Opq)(K:Nat→Prop)(w0 w:World)(h:Heap)(m:Sem Next):Res→Prop
 | .val v h'=>W2 E β ω K w0 w h m v h'
 | .need e v h'=>dB ω e=true→W2 E β ω K w0 w h m v h'
 | .cho e v l h'=>(dB ω e=true→W2 E β ω K w0 w h m v h')∧(dB ω e=false→ ∃x∈l,W2 E β ω K w0 w h m x h')
 | .enter f args=> ∃us:List Value,m.run E.P w= .ok (.enter f us.toArray) w∧VRs β ω args us
 | .choice l=> ∃x∈l,W2 E β ω K w0 w h m x.1 x.2
 | .yield l args=> ∃(L:Loc) (us:List Value),β l=some L∧VRs β ω args us∧m.run E.P w=(Instr.yield L.blk us.toArray).run E.P w
 | .defer d=> ∃dd,m.run E.P w= .ok (.defer dd) w∧DR β ω d dd
 | .bad=>True
theorem W2.of{m:Sem Value}{v:AV}(k:Ok E.P β ω K w0 w h m v h'):W2 E β ω K w0 w h (do pure (.value (←m))) v h':=by
 obtain⟨β',u,w',h1,h2,h3,h4⟩:=k
 exact⟨β',u,w',.inl (by simp only[Sem.run_bind,h1,Result.andThen_ok,Sem.run_pure]),h2,h3,h4⟩
theorem W2.ofPure{m:Sem Value}{v:AV}(r:HR β ω K w0 h w)(k: ∃u,VR β ω v u∧m.run E.P w= .ok u w):W2 E β ω K w0 w h (do pure (.value (←m))) v h:=by
 obtain⟨u,h1,h2⟩:=k
 exact .of ⟨β,u,w,h2,h1,r,.refl _ _⟩
theorem W2.ofU{m:Sem Unit}(k:OkU E.P β ω K w0 w h m h'):W2 E β ω K w0 w h (do m;pure .skip) .undef h':=by
 obtain⟨w',h1,h2,h3⟩:=k
 exact⟨β,Go.undef,w',.inr ⟨rfl,by simp only[Sem.run_bind,h1,Result.andThen_ok,Sem.run_pure]⟩,⟨#[],rfl,rfl⟩,h2,h3⟩
theorem bb2{m:Sem Value}{x:Option AV}(r:HR β ω K w0 h w)(k: ∀v,x=some v→ ∃u,VR β ω v u∧m.run E.P w= .ok u w):SOk E β ω K w0 w h (do pure (.value (←m))) (ov x h):=by
 cases x with
 |none=>trivial
 |some v=>exact .ofPure r (k v rfl)
theorem bI3{m:Sem Value}{x:Option (AV×Heap)}(k: ∀v h',x=some (v,h')→Ok E.P β ω K w0 w h m v h'):SOk E β ω K w0 w h (do pure (.value (←m))) (oh x):=by
 cases x with
 |none=>trivial
 |some p=>exact .of (k p.1 p.2 rfl)
theorem cV0{m:Sem Unit}{x:Option Heap}(k: ∀h',x=some h'→OkU E.P β ω K w0 w h m h'):SOk E β ω K w0 w h (do m;pure .skip) (os x):=by
 cases x with
 |none=>trivial
 |some p=>exact .ofU (k p rfl)
def OpR(β:Bij)(ω:Opq)(ρA:Operand→Option AV)(ρ:Operand→Value):Prop:= ∀x a,ρA x=some a→VR β ω a (ρ x)
theorem OpR.mono{β':Bij}{ρA:Operand→Option AV}{ρ:Operand→Value}(hl:Le β β')(o:OpR β ω ρA ρ):OpR β' ω ρA ρ:=fun x a e=>VR.mono hl _ _ (o x a e)
theorem aV2{ρA:Operand→Option AV}{ρ:Operand→Value}(o:OpR β ω ρA ρ): ∀{l:List Operand} {vs:List AV},evs ρA l=some vs→VRs β ω vs (l.map ρ)
 | [],vs,e=>by simp only[evs,a8]at e;subst e;exact .nil
 |x::r,vs,e=>by
  simp only[evs]at e
  split at e
  ·rename_i v vs' h1 h2
   simp only[a8]at e;subst e
   exact .cons (o x v h1) (aV2 o h2)
  ·cases e
theorem bm1{ρA:Operand→Option AV}{ρ:Operand→Value}(o:OpR β ω ρA ρ): ∀{l:List (Nat×Operand)} {vs:List (Nat×AV)},aS1 ρA l=some vs→
 vs.map (·.1)=(l.map fun p=>(p.1,ρ p.2)).map (·.1)∧VRs β ω (vs.map (·.2)) ((l.map fun p=>(p.1,ρ p.2)).map (·.2))
 | [],vs,e=>by simp only[aS1,a8]at e;subst e;exact⟨rfl,.nil⟩
 |(i,x)::r,vs,e=>by
  simp only[aS1]at e
  split at e
  ·rename_i v vs' h1 h2
   simp only[a8]at e;subst e
   obtain⟨q1,q2⟩:=bm1 o h2
   exact⟨by simpa using q1,.cons (o x v h1) q2⟩
  ·cases e
theorem az3{ρA:Operand→Option AV}{ρ:Operand→Value}(o:OpR β ω ρA ρ){x:Option Operand}{v:Option AV}(e:evo ρA x=some v):OR β ω v (x.map ρ):=by
 cases x with
 |none=>simp only[evo,a8]at e;subst e;rfl
 |some x=>
  simp only[evo,j4]at e
  obtain⟨a,ha,rfl⟩:=e
  exact⟨_,rfl,o x a ha⟩
def d46(P:Program)(β:Bij)(ω:Opq)(K:Nat→Prop)(w0 w:World)(h:Heap)(m:Sem Value):Res→Prop
 | .val a h'=>Ok P β ω K w0 w h m a h'
 | .need e a h'=>dB ω e=true→Ok P β ω K w0 w h m a h'
 | .bad=>True
 |_=>False
theorem bW3{s:SX}{n:Int}{us:Array Value}(r:HR β ω K w0 h w)(ra:VRs β ω [.ostr s,.int .u8 n] us.toList):d46 E.P β ω K w0 w h (Ext.count.model us) (bG3 (fun s c=> .op .scnt [s,c]) s (a51 n) h):=by
 unfold bG3
 split
 ·rename_i c hc
  cases hb:Nat.blt c 256 with
  |false=>trivial
  |true=>
   have hb:=N9.1 hb
   obtain⟨u,ur,e1,r1,u2,ur2,e2,r2,e3⟩:=ra
   have e3:ur2=[]:=e3
   subst e3 e2
   have hn:=aj5 hc
   subst hn
   have r1:u= .string ⟨(dS ω s).toArray⟩:=r1
   have r2:u2= .int .u8 (c:Int):=r2
   subst r1 r2
   have hu:us= #[.string ⟨(dS ω s).toArray⟩,.int .u8 (c:Int)]:=u4.1 e1
   subst hu
   have hrun:=Lib.run_countString (P:=E.P) ⟨(dS ω s).toArray⟩ (c:Int) w
   refine⟨β,_,w,hrun,?_,r,.refl _ _⟩
   show _=Value.int .i64 ((aG0 (c:Int).toNat (dS ω s):Nat):Int)
   rw[Int.toNat_natCast,aI3 hb]
 ·trivial
theorem bW4{s:SX}{n:Int}{us:Array Value}(r:HR β ω K w0 h w)(ra:VRs β ω [.ostr s,.int .u8 n] us.toList):d46 E.P β ω K w0 w h (Ext.indexByte.model us) (bG3 (fun s c=> .op .sidx [s,c]) s (a51 n) h):=by
 unfold bG3
 split
 ·rename_i c hc
  cases hb:Nat.blt c 256 with
  |false=>trivial
  |true=>
   have hb:=N9.1 hb
   obtain⟨u,ur,e1,r1,u2,ur2,e2,r2,e3⟩:=ra
   have e3:ur2=[]:=e3
   subst e3 e2
   have hn:=aj5 hc
   subst hn
   have r1:u= .string ⟨(dS ω s).toArray⟩:=r1
   have r2:u2= .int .u8 (c:Int):=r2
   subst r1 r2
   have hu:us= #[.string ⟨(dS ω s).toArray⟩,.int .u8 (c:Int)]:=u4.1 e1
   subst hu
   have hrun:=Lib.run_indexByteString (P:=E.P) ⟨(dS ω s).toArray⟩ (c:Int) w
   refine⟨β,_,w,hrun,?_,r,.refl _ _⟩
   show _=Value.int .i64 (b80 (c:Int).toNat (dS ω s))
   rw[Int.toNat_natCast,ba9 hb]
 ·trivial
theorem cf0{x:AV}{v:Value}{k:IntKind}{e:SX}(h:cc6 x=some (k,e))(r:VR β ω x v):v= .int k (dI ω e):=by
 unfold cc6 at h
 split at h
 ·simp only[a8,d7]at h;obtain⟨rfl,rfl⟩:=h;exact r
 ·simp only[a8,d7]at h;obtain⟨rfl,rfl⟩:=h;exact r
 ·cases h
theorem cA1{t:TypeId}{x:AV}{us:Array Value}(r:HR β ω K w0 h w)(ra:VRs β ω [x] us.toList):d46 E.P β ω K w0 w h ((Ext.makeNoZero t).model us) (d74 E.P t (cc6 x) h):=by
 unfold d74
 split
 ·rename_i n e hx ht
  cases hb:Nat.blt h.next 65536 with
  |false=>trivial
  |true=>
   intro hd
   obtain⟨d1,d2⟩:=M6 (a:=dB ω (.op (.cmp .leq) [.ci 0,n])) (b:=dB ω (.op (.cmp .leq) [n,.ci cR0])) hd
   have d1:0≤dI ω n:=of_decide_eq_true d1
   have d2:dI ω n≤281474976710656:=of_decide_eq_true d2
   obtain⟨u,ur,e1,r1,e2⟩:=ra
   have e2:ur=[]:=e2
   subst e2
   have hu:=cf0 hx r1
   subst hu
   have hu:us= #[.int .i64 (dI ω n)]:=u4.1 e1
   subst hu
   obtain⟨m,hm⟩: ∃m:Nat,dI ω n=(m:Int):=⟨(dI ω n).toNat,by omega⟩
   obtain⟨cs,h1,h2,_⟩:=Lib.run_makeNoZero (P:=E.P) (w:=w) #[] t e ht m (by omega)
   obtain⟨p1,p2⟩:=r.drew.drew.new (.cells cs e) (.arr e [.int .u8] (.op .row [])) 0 cs.size
    ⟨cs,e,0,0,rfl,.inl rfl,by simp,by simp[dL,den,N2,Q9,Val.toL],fun i v hv=>by simp[dL,den,N2,Q9,Val.toL,N7]at hv,fun i hi=>by omega⟩
   refine⟨_,_,_,by rw[hm];exact h1,?_,p1,p2⟩
   refine .inl ⟨⟨w.heap.size,0,cs.size⟩,cs.size,Bij.add_self _ _ _,by simp,?_,?_⟩
   ·rw[hm];rfl
   ·rw[hm];simpa using h2
 ·trivial
theorem cA2{e:Ext}{args:List AV}{us:Array Value}(r:HR β ω K w0 h w)(ra:VRs β ω args us.toList):d46 E.P β ω K w0 w h (e.model us) (cR1 E.P e args h):=by
 unfold cR1
 split
 ·exact bW3 r ra
 ·exact bW4 r ra
 ·exact cA1 r ra
 ·trivial
theorem b09(hE:E.Ok ω){f:FuncId}{args:List AV}{us:List Value}(r:HR β ω K w0 h w)(ra:VRs β ω args us):SOk E β ω K w0 w h (callFunc f us.toArray) (b81 E f args h):=by
 unfold b81
 split
 ·trivial
 ·rename_i fn hf
  have hn:=hE.name f fn hf
  split
  ·rename_i c hb
   refine⟨us,?_,ra⟩
   simp only[callFunc,Sem.run_bind,run_program,Result.andThen_ok,hf,hn,hb,i4,if_false,Option.isNone_some,Sem.run_pure]
  ·rename_i hb
   split
   ·rename_i e he
    obtain⟨fn',h1,h2,h3,h4⟩:=hE.ext f e he
    rw[hf]at h1;simp only[a8]at h1;subst h1
    have one: ∀v h',Ok E.P β ω K w0 w h (e.model us.toArray) v h'→W2 E β ω K w0 w h (callFunc f us.toArray) v h':=by
     rintro v h' ⟨β',u,w',g1,g2,g3,g4⟩
     refine⟨β',u,w',.inl ?_,g2,g3,g4⟩
     simp only[callFunc,Sem.run_bind,run_program,Result.andThen_ok,hf,hn,hb,i4,if_false,Option.isNone_none,if_true,run_mark,h3,h4,g1,Sem.run_pure]
    have plain:SOk E β ω K w0 w h (callFunc f us.toArray) (oh (cQ9 E.P e args h)):=by
     cases hx:cQ9 E.P e args h with
     |none=>trivial
     |some p=>exact one _ _ (cA0 (us:=us.toArray) (a:=p.1) (h':=p.2) r hx (by simpa using ra))
    have ys:SOk E β ω K w0 w h (callFunc f us.toArray) (cR1 E.P e args h):=by
     have:=cA2 (E:=E) (e:=e) (us:=us.toArray) r (by simpa using ra)
     cases hy:cR1 E.P e args h<;>rw[hy]at this<;>first
      |trivial
      |exact this.elim
      |exact one _ _ this
      |exact fun hd=>one _ _ (this hd)
    have fin:SOk E β ω K w0 w h (callFunc f us.toArray) (dc8 E.P e args h):=by
     cases e with
     |overlaps t rt=>
      rcases ce9 (t:=t) (rt:=rt) (us:=us.toArray) r (by simpa using ra)with h5|⟨l,h5,x,hx,h6⟩
      ·show SOk E β ω K w0 w h _ (bG2 t E.P args h)
       rw[h5];trivial
      ·show SOk E β ω K w0 w h _ (bG2 t E.P args h)
       rw[h5];exact⟨x,hx,one _ _ h6⟩
     |_=>exact plain
    unfold orY
    split
    ·exact ys
    ·exact fin
   ·trivial
section
variable{P:Program}
theorem aV3{t:TypeId}{name:String}{f:FuncId}(e:aw0 P t name=some f): ∃i m d pr,P.info? t=some i∧i.methods.find? (·.name==name)=some m∧m.path.toList=[]∧m.func=some (f,pr)∧P.underlying t=some d∧((pr=true∧ ∃el,d= .pointer el)∨(pr=false∧ ∀el,d≠ .pointer el)):=by
 unfold aw0 at e
 split at e
 ·rename_i i hi
  split at e
  ·rename_i m hm
   split at e
   ·rename_i hp
    split at e
    ·rename_i g el h1 h2
     simp only[a8]at e;subst e
     exact⟨i,m,_,true,hi,hm,hp,h1,h2,.inl ⟨rfl,el,rfl⟩⟩
    ·cases e
    ·rename_i g d h1 h3 h2
     simp only[a8]at e;subst e
     exact⟨i,m,d,false,hi,hm,hp,h3,h2,.inr ⟨rfl,fun el he=>h1 el he⟩⟩
    ·cases e
   ·cases e
  ·cases e
 ·cases e
theorem az4{t:TypeId}{i:TypeInfo}(e:P.info? t=some i)(w:World):(typeInfo t).run P w= .ok i w:=by
 simp only[typeInfo,Sem.run_bind,run_program,Result.andThen_ok,e,Sem.run_pure]
theorem bI4{t:TypeId}{name:String}{f:FuncId}(e:aw0 P t name=some f)(n:Nat)(v:Value)(w:World):(method (n+1) t v name).run P w= .ok (f,v) w:=by
 obtain⟨i,m,d,pr,h1,h2,h3,h4,h5,h6⟩:=aV3 e
 simp only[method,Sem.run_bind,az4 h1,Result.andThen_ok,h2,h3,follow,Sem.run_pure,h4]
 rcases h6 with⟨rfl,el,rfl⟩|⟨rfl,hd⟩
 ·simp only[receiverAt,Sem.run_bind,run_underlying h5,Result.andThen_ok,Place.get,Sem.run_pure]
 ·simp only[receiverAt,Sem.run_bind,run_underlying h5,Result.andThen_ok]
  cases d with
  |pointer el=>exact absurd rfl (hd el)
  |_=>simp only[Place.get,Sem.run_pure,Result.andThen_ok]
theorem bb3{t:TypeId}{name:String}{f:FuncId}(e:aw0 P t name=some f)(n:Nat)(v:Value)(w:World):(nilAhead (n+1) t v name).run P w= .ok (some false) w:=by
 obtain⟨i,m,d,pr,h1,h2,h3,h4,h5,h6⟩:=aV3 e
 simp only[nilAhead,Sem.run_bind,az4 h1,Result.andThen_ok,h2,h3,followBlind,Sem.run_pure,h4]
 rcases h6 with⟨rfl,el,rfl⟩|⟨rfl,hd⟩
 ·rfl
 ·simp only[Sem.run_bind,run_underlying h5,Result.andThen_ok]
  cases d with
  |pointer el=>exact absurd rfl (hd el)
  |_=>simp only[Sem.run_pure]
end
theorem aI6(hE:E.Ok ω){name:String}{first args cap:List AV}{x y:Array Value}{us:List Value}(r:HR β ω K w0 h w)(rx:VRs β ω first x.toList)(ra:VRs β ω args us):
 SOk E β ω K w0 w h (do let d ←Deferred.ofValue (.func (.method name) x y) us.toArray;invoke d.target d.args) (aC2 E name first args h):=by
 unfold aC2
 split
 ·rename_i t v rest
  split
  ·rename_i g hg
   obtain⟨u,xs,hx,ru,rxs⟩:=rx
   obtain⟨y',rfl,ry'⟩:=ru
   have hxa:x=(Value.iface t y'::xs).toArray:=by apply y8;simpa using hx
   subst hxa
   have:=b09 hE (f:=g) (args:=v::(rest++args)) (us:=y'::(xs++us)) r ⟨y',_,rfl,ry',rxs.append ra⟩
   have hrun: ∀w,(do let d ←Deferred.ofValue (.func (.method name) (Value.iface t y'::xs).toArray y) us.toArray;invoke d.target d.args:Sem Next).run E.P w=(callFunc g (y'::(xs++us)).toArray).run E.P w:=by
    intro w
    have hm:(method (E.P.types.size+Made.depth) t y' name).run E.P w= .ok (g,y') w:=bI4 hg (E.P.types.size+99) y' w
    have ha:((Value.iface t y'::xs).toArray++us.toArray)[0]? =some (.iface t y'):=by simp
    simp only[Deferred.ofValue,Sem.run_bind,Sem.run_pure,Result.andThen_ok,invoke,ha,callMethod,run_program,hm]
    have hargs: #[y']++((Value.iface t y'::xs).toArray++us.toArray).extract 1 ((Value.iface t y'::xs).toArray++us.toArray).size=(y'::(xs++us)).toArray:=by
     apply y8
     simp only[Array.toList_append,Array.toList_extract,List.extract_eq_take_drop,G3,w6,List.length_cons]
     simp only[List.cons_append,List.drop_succ_cons,B8,List.nil_append]
     rw[E2 (by simp)]
    rw[hargs]
   cases hres:b81 E g (v::(rest++args)) h<;>rw[hres]at this
   ·obtain⟨β',u,w',q1,q2⟩:=this
    exact⟨β',u,w',by rw[hrun];exact q1,q2⟩
   ·intro hd
    obtain⟨β',u,w',q1,q2⟩:=this hd
    exact⟨β',u,w',by rw[hrun];exact q1,q2⟩
   ·refine⟨fun hd=> ?_,fun hd=> ?_⟩
    ·obtain⟨β',u,w',q1,q2⟩:=this.1 hd
     exact⟨β',u,w',by rw[hrun];exact q1,q2⟩
    ·obtain⟨x,hx,β',u,w',q1,q2⟩:=this.2 hd
     exact⟨x,hx,β',u,w',by rw[hrun];exact q1,q2⟩
   ·obtain⟨vs,q1,q2⟩:=this
    exact⟨vs,by rw[hrun];exact q1,q2⟩
   ·obtain⟨x,hx,β',u,w',q1,q2⟩:=this
    exact⟨x,hx,β',u,w',by rw[hrun];exact q1,q2⟩
   ·obtain⟨L,vs,q1,q2,q3⟩:=this
    exact⟨L,vs,q1,q2,by rw[hrun];exact q3⟩
   ·obtain⟨d,q1,q2⟩:=this
    exact⟨d,by rw[hrun];exact q1,q2⟩
   ·trivial
  ·trivial
 ·trivial
theorem aV4(hE:E.Ok ω){f:AV}{vf:Value}{args:List AV}{us:List Value}(r:HR β ω K w0 h w)(rf:VR β ω f vf)(ra:VRs β ω args us):
 SOk E β ω K w0 w h (do let d ←Deferred.ofValue vf us.toArray;invoke d.target d.args) (aY6 E f args h):=by
 unfold aY6
 split
 ·rename_i g first cap
  obtain⟨-,x,y,rfl,rx,ry⟩:=rf
  have:=b09 hE (f:=g) r ((rx.append ra).append ry)
  have hrun: ∀w,(do let d ←Deferred.ofValue (.func (.func g) x y) us.toArray;invoke d.target d.args:Sem Next).run E.P w=(callFunc g (x.toList++us++y.toList).toArray).run E.P w:=by
   intro w
   simp only[Deferred.ofValue,Sem.run_bind,Sem.run_pure,Result.andThen_ok,invoke]
   congr 1
   congr 1
   apply y8
   simp
  cases hres:b81 E g (first++args++cap) h<;>rw[hres]at this
  ·obtain⟨β',u,w',q1,q2⟩:=this
   exact⟨β',u,w',by rw[hrun];exact q1,q2⟩
  ·intro hd
   obtain⟨β',u,w',q1,q2⟩:=this hd
   exact⟨β',u,w',by rw[hrun];exact q1,q2⟩
  ·refine⟨fun hd=> ?_,fun hd=> ?_⟩
   ·obtain⟨β',u,w',q1,q2⟩:=this.1 hd
    exact⟨β',u,w',by rw[hrun];exact q1,q2⟩
   ·obtain⟨x,hx,β',u,w',q1,q2⟩:=this.2 hd
    exact⟨x,hx,β',u,w',by rw[hrun];exact q1,q2⟩
  ·obtain⟨vs,q1,q2⟩:=this
   exact⟨vs,by rw[hrun];exact q1,q2⟩
  ·obtain⟨x,hx,β',u,w',q1,q2⟩:=this
   exact⟨x,hx,β',u,w',by rw[hrun];exact q1,q2⟩
  ·obtain⟨L,vs,q1,q2,q3⟩:=this
   exact⟨L,vs,q1,q2,by rw[hrun];exact q3⟩
  ·obtain⟨d,q1,q2⟩:=this
   exact⟨d,by rw[hrun];exact q1,q2⟩
  ·trivial
 ·rename_i name first cap
  obtain⟨-,x,y,rfl,rx,ry⟩:=rf
  exact aI6 hE (cap:=cap) r rx ra
 ·rename_i l
  obtain⟨L,hL,rfl⟩:=rf
  refine⟨L,us,hL,ra,?_⟩
  simp only[Deferred.ofValue,Sem.run_bind,Sem.run_pure,Result.andThen_ok,invoke]
  congr 1
  congr 1
  apply y8
  simp
 ·trivial
def cf1:Value→Bool
 | .pointer none| .nilIface| .nilFunc=>false
 | .func (.method _) _ _=>false
 |_=>true
theorem bm2{x:AV}{v:Value}(r:VR β ω x v){a:AV}(e:aq3 x=some a):a=x∧cf1 v=true:=by
 unfold aq3 at e
 split at e
 ·cases e
 ·cases e
 ·cases e
 ·cases e
 ·cases e
 ·cases e
 ·rename_i h1 h2 h3 h4 h6 h5
  simp only[a8]at e
  refine⟨e.symm,?_⟩
  cases x<;>simp only[VR]at r
  case nilp=>exact absurd rfl h1
  case nilf=>exact absurd rfl h3
  case nili=>exact absurd rfl h2
  case opq n=>exact absurd rfl (h4 n)
  case any=>exact absurd rfl h6
  case func fn a b=>
   obtain⟨-,p,q,rfl,-⟩:=r
   cases fn<;>first|rfl|exact absurd rfl (h5 _ _ _)
  all_goals first
   |(rcases r with⟨L,c,_,rfl,_⟩|⟨rfl,_⟩<;>rfl)
   |(rcases r with⟨L,c,_,_,rfl,_⟩|⟨rfl,_⟩<;>rfl)
   |(rcases r with⟨L,c,_,_,rfl,_⟩|⟨_,_,rfl,_⟩<;>rfl)
   |(subst r;rfl)
   |(obtain⟨L,_,rfl⟩:=r;rfl)
   |(obtain⟨L,c,_,_,rfl⟩:=r;rfl)
   |(obtain⟨L,a,c,_,rfl,_⟩:=r;rfl)
   |(obtain⟨a,rfl⟩:=r;rfl)
   |(obtain⟨a,rfl,_⟩:=r;rfl)
end Go.Ev
