import Derived.Test.YtbfbcanipfnfeaaE11
set_option linter.unusedVariables false
set_option linter.unusedSimpArgs false
namespace Go.Ev
open Go
variable{P:Program}{β:Bij}{ω:Opq}{K:Nat→Prop}{w0 w:World}{h h':Heap}
def OkU(P:Program)(β:Bij)(ω:Opq)(K:Nat→Prop)(w0 w:World)(h:Heap)(m:Sem Unit)(h':Heap):Prop:=
 ∃w',m.run P w= .ok () w'∧HR β ω K w0 h' w'∧St h β h' β
theorem bV4{m:AV}{vm:Value}{es:List Ent}(r:HR β ω K w0 h w)(e:bO4 m h=some es)(rm:VR β ω m vm):
 (vm= .map none∧es=[])∨ ∃b c E,vm= .map (some b)∧w.heap[b]? =some (.map E c)∧ERs β ω es E.toList:=by
 unfold bO4 at e
 split at e
 ·simp only[a8]at e;subst e
  exact .inl ⟨rm,rfl⟩
 ·split at e
  ·rename_i b es' c hg
   simp only[a8]at e;subst e
   simp only[VR]at rm;obtain⟨L,hL,rfl⟩:=rm
   obtain⟨E,h1,h2⟩:=r.map hg hL
   exact .inr ⟨_,_,E,rfl,h1,h2⟩
  ·cases e
 ·cases e
theorem an9{t:TypeId}{z:AV}(e:V5 P t=some z): ∃v,(∀(β:Bij) (ω:Opq),VR β ω z v)∧ ∀w,(zeroValue t).run P w= .ok v w:=by
 obtain⟨v,h1,h2⟩:=Y4 e
 exact⟨v,fun β ω=>a19 h1,h2⟩
theorem bH9{t:TypeId}{m k a:AV}{vm vk:Value}{ok:Bool}(r:HR β ω K w0 h w)(e:aY5 P t m k ok h=some a)(rm:VR β ω m vm)(rk:VR β ω k vk):
 ∃v,VR β ω a v∧(Instr.lookup t vm vk ok).run P w= .ok v w:=by
 unfold aY5 at e
 split at e
 ·rename_i kt et ht
  obtain⟨hk,e⟩:=M7 e
  split at e
  ·cases e
  ·rename_i es hes
   have main: ∀(E:Array MapEntry),ERs β ω es E.toList→ ∃v,VR β ω a v∧((do
    Instr.checkKey E.isEmpty 10000 kt vk
    let (v,o) ←match←Instr.findKey kt vk E.toList with
     |some (_,v)=>pure (v,true)
     |none=>pure (←zeroValue et,false)
    pure (if ok then .tuple #[v,.bool o]else v):Sem Value)).run P w= .ok v w:=by
    intro E hE
    split at e
    ·cases e
    ·rename_i j en hf
     simp only[a8]at e;subst e
     obtain⟨v',hv',hrun⟩:=T1 hk rk hE hf
     obtain⟨k2,v2,e1,e2,e3,e4,e5⟩:=hv'
     subst e1
     refine⟨if ok then .tuple #[v2,.bool true]else v2,?_,?_⟩
     ·cases ok
      ·exact e5
      ·exact⟨_,rfl,.cons e5 (.one rfl)⟩
     ·simp only[Sem.run_bind,T0 hk rk,Result.andThen_ok,hrun,Sem.run_pure]
    ·rename_i hf
     simp only[j4]at e
     obtain⟨z,hz,rfl⟩:=e
     obtain⟨v',hv',hrun⟩:=T1 hk rk hE hf
     simp only[FR]at hv';subst hv'
     obtain⟨zv,z1,z2⟩:=an9 hz
     refine⟨if ok then .tuple #[zv,.bool false]else zv,?_,?_⟩
     ·cases ok
      ·exact z1 _ _
      ·exact⟨_,rfl,.cons (z1 _ _) (.one rfl)⟩
     ·simp only[Sem.run_bind,T0 hk rk,Result.andThen_ok,hrun,Sem.run_pure,z2]
   rcases bV4 r hes rm with⟨rfl,rfl⟩|⟨b,c,E,rfl,hb,hE⟩
   ·obtain⟨v,v1,v2⟩:=main #[] .nil
    refine⟨v,v1,?_⟩
    simp only[Instr.lookup,Sem.run_bind,M9 ht,Result.andThen_ok,Sem.run_pure]
    simp only[Sem.run_bind]at v2
    exact v2
   ·obtain⟨v,v1,v2⟩:=main E hE
    refine⟨v,v1,?_⟩
    simp only[Instr.lookup,Sem.run_bind,M9 ht,Result.andThen_ok,Sem.run_pure,O7 hb]
    simp only[Sem.run_bind]at v2
    exact v2
 ·cases e
theorem ar2{t:TypeId}{m k v:AV}{vm vk vv:Value}(r:HR β ω K w0 h w)(e:a59 P t m k v h=some h')(rm:VR β ω m vm)(rk:VR β ω k vk)(rv:VR β ω v vv):
 OkU P β ω K w0 w h (Instr.mapUpdate t vm vk vv) h':=by
 unfold a59 at e
 split at e
 ·rename_i kt et b ht
  replace e:=M7 e
  obtain⟨hc,e⟩:=e
  obtain⟨hk,hwm⟩:=M6 hc
  rw[N1]at hwm
  split at e
  ·rename_i es c hg
   simp only[VR]at rm;obtain⟨L,hL,rfl⟩:=rm
   obtain⟨E,h1,h2⟩:=r.map hg hL
   split at e
   ·cases e
   ·rename_i i en hf
    replace e:=M7 e
    obtain⟨hq,e⟩:=e
    simp only[a8]at e;subst e
    obtain⟨v',hv',hrun⟩:=T1 hk rk h2 hf
    obtain⟨k2,v2,e1,e2,e3,e4,e5⟩:=hv'
    subst e1
    have he3:E[i]? =some ⟨k2,v2,en.born⟩:=by simpa using e3
    obtain⟨p1,p2⟩:=r.set1 b _ (.map (am0 es i ⟨k,v,en.born⟩) c) L (.map (E.modify i fun x=>{x with key:=vk,val:=vv}) c) hg hL hwm
     ⟨_,rfl,by rw[A7];exact h2.set rk rv _ i e2 e3 rfl⟩
    refine⟨_,?_,p1,p2⟩
    simp only[Instr.mapUpdate,Sem.run_bind,M9 ht,Result.andThen_ok,O7 h1,T0 hk rk,hrun,i3,he3,Option.map_some,Option.getD_some,bw1 hq e4 rk,Q8 _ h1]
   ·rename_i hf
    simp only[a8]at e;subst e
    obtain⟨v',hv',hrun⟩:=T1 hk rk h2 hf
    simp only[FR]at hv';subst hv'
    obtain⟨p1,p2⟩:=r.set1 b _ (.map (es++[⟨k,v,c⟩]) (c+1)) L (.map (E.push ⟨vk,vv,c⟩) (c+1)) hg hL hwm
     ⟨_,rfl,by rw[B6];exact h2.push rk rv c⟩
    refine⟨_,?_,p1,p2⟩
    simp only[Instr.mapUpdate,Sem.run_bind,M9 ht,Result.andThen_ok,O7 h1,T0 hk rk,hrun,Q8 _ h1]
  ·cases e
 ·cases e
theorem ba7{t:TypeId}{m k a:AV}{vm vk:Value}(r:HR β ω K w0 h w)(e:aq1 P t m k h=some (a,h'))(rm:VR β ω m vm)(rk:VR β ω k vk):
 Ok P β ω K w0 w h (Instr.mapEntry t vm vk) a h':=by
 unfold aq1 at e
 split at e
 ·rename_i kt et b ht
  replace e:=M7 e
  obtain⟨hc,e⟩:=e
  obtain⟨hk,hwm⟩:=M6 hc
  rw[N1]at hwm
  split at e
  ·rename_i es c hg
   simp only[VR]at rm;obtain⟨L,hL,rfl⟩:=rm
   obtain⟨E,h1,h2⟩:=r.map hg hL
   split at e
   ·cases e
   ·rename_i i en hf
    replace e:=M7 e
    obtain⟨hq,e⟩:=e
    simp only[a8,d7]at e;obtain⟨rfl,rfl⟩:=e
    obtain⟨v',hv',hrun⟩:=T1 hk rk h2 hf
    obtain⟨k2,v2,e1,e2,e3,e4,e5⟩:=hv'
    subst e1
    have he3:E[i]? =some ⟨k2,v2,en.born⟩:=by simpa using e3
    obtain⟨p1,p2⟩:=r.set1 b _ (.map (am0 es i ⟨k,en.val,en.born⟩) c) L (.map (E.modify i fun x=>{x with key:=vk}) c) hg hL hwm
     ⟨_,rfl,by rw[A7];exact h2.set rk e5 _ i e2 e3 rfl⟩
    refine⟨β,.tuple #[v2,goInt en.born],_,?_,⟨_,rfl,.cons e5 (.one rfl)⟩,p1,p2⟩
    simp only[Instr.mapEntry,Sem.run_bind,M9 ht,Result.andThen_ok,O7 h1,T0 hk rk,hrun,i3,he3,Option.map_some,Option.getD_some,bw1 hq e4 rk,Q8 _ h1,Sem.run_pure]
   ·rename_i hf
    simp only[j4,d7]at e
    obtain⟨z,hz,rfl,rfl⟩:=e
    obtain⟨v',hv',hrun⟩:=T1 hk rk h2 hf
    simp only[FR]at hv';subst hv'
    obtain⟨zv,z1,z2⟩:=an9 hz
    obtain⟨p1,p2⟩:=r.set1 b _ (.map (es++[⟨k,z,c⟩]) (c+1)) L (.map (E.push ⟨vk,zv,c⟩) (c+1)) hg hL hwm
     ⟨_,rfl,by rw[B6];exact h2.push rk (z1 _ _) c⟩
    refine⟨β,.tuple #[zv,goInt c],_,?_,⟨_,rfl,.cons (z1 _ _) (.one rfl)⟩,p1,p2⟩
    simp only[Instr.mapEntry,Sem.run_bind,M9 ht,Result.andThen_ok,O7 h1,T0 hk rk,hrun,Q8 _ h1,z2,Sem.run_pure]
  ·cases e
 ·cases e
theorem aI1{b:Nat}{es:List Ent}{m:List MapEntry}(r:ERs β ω es m): ∀(i0:Nat) {i:Nat} {e:Ent},ai8 b es i0=some (i,e)→
 ∃j k v,i=i0+j∧es[j]? =some e∧m[j]? =some ⟨k,v,e.born⟩∧VR β ω e.key k∧VR β ω e.val v∧e.born=b∧(∀q:MapEntry→Bool,(∀x,q x=true↔x.born=b)→m.findIdx? q=some j∧m.find? q=some ⟨k,v,e.born⟩):=by
 induction r with
 |nil=>intro i0 i e he;simp[ai8]at he
 | @cons e' es kk v' m p q r ih=>
   intro i0 i e he
   simp only[ai8]at he
   cases hb:Nat.beq e'.born b with
   |true=>
    rw[hb]at he;simp only[cond_true,a8,d7]at he
    obtain⟨rfl,rfl⟩:=he
    rw[M8]at hb
    refine⟨0,kk,v',rfl,rfl,rfl,p,q,hb,fun g hg=> ?_⟩
    have:g ⟨kk,v',e'.born⟩=true:=(hg _).2 hb
    exact⟨by simp[List.findIdx?_cons,this],by simp[List.find?_cons,this]⟩
   |false=>
    rw[hb]at he;simp only[cond_false]at he
    obtain⟨j,k,v,e1,e2,e3,e4,e5,e6,e7⟩:=ih (i0+1) he
    refine⟨j+1,k,v,by omega,by simpa using e2,by simpa using e3,e4,e5,e6,fun g hg=> ?_⟩
    obtain⟨h1,h2⟩:=e7 g hg
    have:g ⟨kk,v',e'.born⟩=false:=by
     cases hh:g ⟨kk,v',e'.born⟩with
     |false=>rfl
     |true=>have:=(hg _).1 hh;rw[M8.2 this]at hb;cases hb
    exact⟨by simp[List.findIdx?_cons,this,h1],by simp[List.find?_cons,this,h2]⟩
theorem aS8{t:TypeId}{m s v:AV}{vm vs vv:Value}(r:HR β ω K w0 h w)(e:ac3 m s v h=some h')(rm:VR β ω m vm)(rs:VR β ω s vs)(rv:VR β ω v vv):
 OkU P β ω K w0 w h (Instr.entryStore t vm vs vv) h':=by
 unfold ac3 at e
 split at e
 ·rename_i b kk n
  split at e
  ·rename_i es c n' hg hn
   split at e
   ·rename_i i en hf
    replace e:=M7 e
    obtain⟨hwm,e⟩:=e
    rw[N1]at hwm
    simp only[a8]at e;subst e
    simp only[VR]at rm rs;obtain⟨L,hL,rfl⟩:=rm;subst rs
    obtain⟨E,h1,h2⟩:=r.map hg hL
    obtain⟨j,k,v',e1,e2,e3,e4,e5,e6,e7⟩:=aI1 h2 0 hf
    obtain rfl:i=j:=by omega
    obtain rfl:=X5 hn
    obtain⟨q1,-⟩:=e7 (fun x=>(x.born:Int)==(n':Int)) (fun x=>by rw[beq_iff_eq];exact Int.ofNat_inj)
    obtain⟨p1,p2⟩:=r.set1 b _ (.map (am0 es i ⟨en.key,v,en.born⟩) c) L (.map (E.modify i fun x=>{x with val:=vv}) c) hg hL hwm
     ⟨_,rfl,by rw[A7];exact h2.set e4 rv _ i e2 e3 rfl⟩
    refine⟨_,?_,p1,p2⟩
    have q2:E.findIdx? (fun x=>(x.born:Int)==(n':Int))=some i:=by have:= @List.findIdx?_toArray _ (fun x:MapEntry=>(x.born:Int)==(n':Int)) E.toList;simp only[Array.toArray_toList]at this;rw[this];exact q1
    simp only[Instr.entryStore,Sem.run_bind,O7 h1,Result.andThen_ok,asInt,asIntOf,Sem.run_pure,q2,Q8 _ h1]
   ·cases e
  ·cases e
 ·cases e
theorem bI0{ts:Array TypeId}{t ty:TypeId}{m k:AV}{vm vk:Value}(h0:ts[0]? =some t)(r:HR β ω K w0 h w)(e:bi8 P t m k h=some h')(rm:VR β ω m vm)(rk:VR β ω k vk):
 ∃w',(Builtin.delete_ ts ty #[vm,vk]).run P w= .ok (.tuple #[]) w'∧HR β ω K w0 h' w'∧St h β h' β:=by
 unfold bi8 at e
 split at e
 ·rename_i kt et b ht
  replace e:=M7 e
  obtain⟨hc,e⟩:=e
  obtain⟨hk,hwm⟩:=M6 hc
  rw[N1]at hwm
  split at e
  ·rename_i es c hg
   simp only[VR]at rm;obtain⟨L,hL,rfl⟩:=rm
   obtain⟨E,h1,h2⟩:=r.map hg hL
   split at e
   ·cases e
   ·rename_i i en hf
    simp only[a8]at e;subst e
    obtain⟨v',hv',hrun⟩:=T1 hk rk h2 hf
    obtain⟨k2,v2,e1,e2,e3,e4,e5⟩:=hv'
    subst e1
    have hi:i<E.size:=by
     have:=k6.1 e3;simpa using this.1
    obtain⟨p1,p2⟩:=r.set1 b _ (.map (bu1 es i) c) L (.map (E.eraseIdxIfInBounds i) c) hg hL hwm
     ⟨_,rfl,by rw[Array.eraseIdxIfInBounds,dif_pos hi,J8];exact h2.del i⟩
    refine⟨_,?_,p1,p2⟩
    simp[Builtin.delete_,h0,M9 ht,O7 h1,T0 hk rk,hrun,Q8 _ h1]
   ·rename_i hf
    simp only[a8]at e;subst e
    obtain⟨v',hv',hrun⟩:=T1 hk rk h2 hf
    simp only[FR]at hv';subst hv'
    obtain⟨p1,p2⟩:=r.set1 b _ (.map es c) L (.map E c) hg hL hwm ⟨_,rfl,h2⟩
    refine⟨_,?_,p1,p2⟩
    simp[Builtin.delete_,h0,M9 ht,O7 h1,T0 hk rk,hrun,Q8 _ h1]
  ·cases e
 ·cases e
end Go.Ev
