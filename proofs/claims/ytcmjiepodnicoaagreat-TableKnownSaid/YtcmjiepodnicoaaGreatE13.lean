import Derived.Test.YtcmjiepodnicoaaGreatE4
import Derived.Laws.IdiomStrings
import Derived.Laws.BytesArg
import Derived.Lib.Builder
import Derived.Lib.UnsafeStr
import Derived.Lib.Bytealg
import Derived.Lib.MakeNoZero
import Derived.CallsIn
set_option linter.unusedSimpArgs false
set_option linter.unusedVariables false
namespace Go.Ev
open Go
variable{r since last:Nat}{es:List Ent}{m:List MapEntry}
variable{P:Program}{O:cq}{I:Opq}{K:Nat->Prop}{w0 w:World}{h h':Heap}
theorem cf7{t:TypeId}{x a:AV}{vx:Value}(r:HR O I K w0 h w)(e:NT P t x h=some (a,h'))(rx:VR O I x vx):Ok P O I K w0 w h (Instr.range t vx) a h':=by
 unfold NT at e;split at e
 .trivial
 .trivial
 .rename_i kt et b ht;split at e
  .rename_i es c hg;obtain⟨rfl,rfl⟩:=e;obtain⟨L,hL,rfl⟩:=rx;obtain⟨E,h1,h2⟩:=r.map hg hL;have hle:Le O (O.add h.next ⟨w.heap.size,0,0⟩):=by
    intro b' M hb';simp[cq.add];by_cases e:b'=h.next
    .subst e;rw[r.fresh _ (e9 _)]at hb';cases hb'
    grind
   obtain⟨p1,p2⟩:=r.new (.mapIter (some L.blk) c #[] c) (.mapIter (some b) c [] c) 0 0 ⟨rfl,some L.blk,rfl,L,hle _ _ hL,rfl⟩;refine⟨_,.pointer (some ⟨w.heap.size,0,none⟩),_,?_,⟨_,cq.add_self _ _ _,rfl⟩,p1,p2⟩;simp only[Instr.range,Sem.run_bind,Z3 ht,Result.andThen_ok,Sem.run_pure,run_newObj,lK h1];rfl
  .rename_i d ks vs l hg;obtain⟨rfl,rfl⟩:=e;obtain⟨L,hL,rfl⟩:=rx;obtain⟨E,c,h1,h2,h3⟩:=r.blk b _ L hg hL;have hbn:b≠h.next:=by rintro rfl;rw[r.fresh _ (e9 _)]at hL;cases hL
   have hle:Le O (O.add h.next ⟨w.heap.size,0,c⟩):=by
    intro b' M hb';simp[cq.add];by_cases e:b'=h.next
    .subst e;rw[r.fresh _ (e9 _)]at hb';cases hb'
    grind
   obtain⟨p1,p2⟩:=r.new (.mapIter (some L.blk) c #[] c) (.mit b) 0 c ⟨rfl,L,hle _ _ hL,rfl⟩;have hg2:(h.new (.mit b)).get b=some (.marr d ks vs l):=by simp_all[Heap.get_new,b9]
   have hlim:=Heap.get_lim _ _ _ hg;have p3:=p1.retell (y:= .mrg h.next d ks vs l) (h2:=(h.new (.mit b)).put b (some (.mrg h.next d ks vs l))) hg2 (.inr rfl) (λM hM hbr=>by
    rw[hle _ _ hL,j0]at hM;subst hM;obtain⟨E',c',q1,q2,q3⟩:=hbr;have:(w.alloc (.mapIter (some L.blk) c #[] c)).heap[L.blk]? =some (.map E c):=by grind[RowKit.Below.heap_alloc]
    rw[this]at q1;cases q1;exact⟨E,c,_,this,cq.add_self _ _ _,rfl,q2,q3⟩) rfl rfl (λz=>by rw[Heap.get_put,e8 hlim])
   refine⟨_,.pointer (some ⟨w.heap.size,0,none⟩),_,?_,⟨_,cq.add_self _ _ _,rfl⟩,p3,⟨by simp,p2.ext,λb' hb' hn=> ?_,rfl⟩⟩
   .simp only[Instr.range,Sem.run_bind,Z3 ht,Result.andThen_ok,Sem.run_pure,run_newObj,lK h1];rfl
   .have:b'≠b:=by grind
    rw[Heap.get_put,b9 this];exact p2.unm b' hb' hn
  .cases e
 .cases e
theorem HR.iter{b:Nat}{m:Option Nat}{seen:List Nat}{L:Loc}(r:HR O I K w0 h w)(hg:h.get b=some (.mapIter m since seen last))(hb:O b=some L):
 L.off=0/\ ∃m',w.heap[L.blk]? =some (.mapIter m' since seen.toArray last)/\IR O m m':=r.blk b _ L hg hb
theorem Xj{m:Option Nat}{seen:Array Nat}(hb:w.heap[r]? =some (.mapIter m since seen last)):(getObj r).run P w= .ok (.mapIter m since seen last) w:=by simp[getObj,Sem.run,hb]
theorem bD3{m:Option Nat}{seen:Array Nat}(o:Obj)(hb:w.heap[r]? =some (.mapIter m since seen last)):(setObj r o).run P w= .ok () (vD w r o):=by grind[setObj,Sem.run,vD]
theorem ERs.filter(r:ERs O I es m)(p:Nat->Bool):ERs O I (es.filter λe=>p e.born) (m.filter λe=>p e.born):=by
 induction r with
 |nil=>exact .nil
 | @cons e es k v m a b r ih=>
   simp[A0];cases hp:p e.born with
   |true=>exact .cons a b ih
   |false=>exact ih
theorem ERs.all(r:ERs O I es m)(p:Nat->Bool):m.all (λe=>p e.born)=es.all (λe=>p e.born):=by
 induction r with
 |nil=>rfl
 |cons _ _ _ ih=>simp[ih]
theorem ERs.any(r:ERs O I es m)(p:Nat->Bool):m.any (λe=>p e.born)=es.any (λe=>p e.born):=by
 induction r with
 |nil=>rfl
 |cons _ _ _ ih=>simp[ih]
theorem ERs.get(r:ERs O I es m): ∀(i:Nat) {x:MapEntry},m[i]? =some x-> ∃e,es[i]? =some e/\VR O I e.key x.key/\VR O I e.val x.val/\x.born=e.born:=by
 induction r with
 |nil=>grind
 | @cons e es k v m a b r ih=>
   grind
def e29(P:Program)(O:cq)(I:Opq)(K:Nat->Prop)(w0 w:World)(h:Heap)(m:Sem Value):Res->Prop
 | .val a h'=>Ok P O I K w0 w h m a h'
 | .choice l=> ∃x∈l,Ok P O I K w0 w h m x.1 x.2
 | .enter _ _=>False
 | .need _ _ _=>False
 | .cho _ _ _ _=>False
 | .yield _ _=>False
 | .defer _=>False
 | .bad=>True
theorem cE5{ty:TypeId}{it:AV}{vi:Value}{isS:Bool}(r:HR O I K w0 h w)(ri:VR O I it vi):e29 P O I K w0 w h (Instr.next vi isS ty) (Gf it isS h):=by
 unfold Gf;split
 .trivial
 .rename_i b;obtain⟨L,hL,rfl⟩:=ri;split
  .trivial
  .rename_i m since seen last hg;obtain⟨h0,m',h1,h2⟩:=r.iter hg hL;obtain⟨Lm,hLm,rfl⟩:=h2;split
   .rename_i es c hgm;obtain⟨E,g1,g2⟩:=r.map hgm hLm;cases hc:(Nat.ble h.wm b&& !(!seen.isEmpty&& !es.isEmpty&&es.all (λe=>Nat.ble last e.born))&& !((tf es seen).any (λe=>Nat.ble since e.born)))with
    |false=>trivial
    |true=>
     obtain⟨hc,c3⟩:=Z1 hc;obtain⟨c1,c2⟩:=Z1 hc;rw[cW]at c1;have hleft:=g2.filter (λn=> !(seen.contains n));have hfil:(E.filter λe=> !(seen.toArray.contains e.born)).toList=E.toList.filter λe=> !(seen.contains e.born):=by simp
     have hguard:(!seen.toArray.isEmpty&& !E.isEmpty&&E.all (λx=>decide (x.born>=last)))=false:=by
      have h3:=g2.all (λn=>Nat.ble last n);have h4:E.all (λx=>decide (x.born>=last))=es.all (λe=>Nat.ble last e.born):=by
       rw[<-h3,<-Array.all_toList];congr 1;funext x;cases hh:Nat.ble last x.born with
       |true=>simpa using hh
       |false=>simp;rcases j9 x.born last with h5|h5;exact h5;rw[cW.2 h5]at hh;cases hh
      have h5:E.isEmpty=es.isEmpty:=by
       have:=g2.length;cases es with
       |nil=>simp at this;subst this;rfl
       |cons=>simp;intro hh;subst hh;simp at this
      grind
     have hold: ∀x∈(E.filter λe=> !(seen.toArray.contains e.born)).toList,x.born<since:=by
      have h3:=hleft.any (λn=>Nat.ble since n);grind[List.filter,Nat.ble,tf,List.any_eq_false,Nat.lt_or_ge,absurd,cW]
     generalize hEl:(E.filter λe=> !(seen.toArray.contains e.born))=left at hfil hold;have kL:left.filter (λx=>decide (x.born>=since))= #[]:=by
      grind[Array.filter_eq_empty_iff]
     have holdE:left.filter (λx=>decide (x.born<since))=left:=by
      simp_all
     rw[<-hfil]at hleft;have hrun0: ∀(v:Value) (w':World),(do
      let candidates:=(if left.isEmpty then #[none]else #[])++left.map some
      match candidates[<-choose (.mapNext candidates.size)]? with
      |some (some e)=>
       setObj L.blk (.mapIter (some Lm.blk) since (seen.toArray.push e.born) c)
       pure (.tuple #[.bool true,e.key,e.val])
      |some none=>pure (.tuple #[.bool false])
      |none=>stuck "Next: no such candidate" :Sem Value).run P w= .ok v w'->
      (Instr.next (.pointer (some ⟨L.blk,L.off+0,none⟩)) false ty).run P w= .ok v w':=by
      intro v w' hv;simp only[h0,Nat.add_zero,Instr.next,Sem.run_bind,Xj h1,Result.andThen_ok,lK g1,hguard,s6,if_false,hEl,kL,holdE,Array.append_empty];simp_all;exact hv
     by_cases hne:left= #[]
     .subst hne;have hl0:tf es seen=[]:=by
       have:=hleft.length;grind[List.eq_nil_of_length_eq_zero,tf]
      rw[hl0];refine⟨O,.tuple #[.bool false],w,hrun0 _ _ ?_,⟨_,rfl,.one rfl⟩,r,.refl _ _⟩;simp[Question.forced]
     .have hpos:0<left.size:=Array.size_pos_iff.2 hne;have key: ∀(i:Nat) (w1:World),i<left.size->HR O I K w0 h w1->w1.heap=w.heap-> ∃x∈(tf es seen).map (λe=>((AV.tup [.bool true,e.key,e.val],h.put b (some (.mapIter (some m) since (seen++[e.born]) c))):AV×Heap)),
       ∃v w',(match left[i]? with
        |some e=>(do
         setObj L.blk (.mapIter (some Lm.blk) since (seen.toArray.push e.born) c)
         pure (.tuple #[.bool true,e.key,e.val]):Sem Value).run P w1
        |none=> .ok v w')= .ok v w'/\VR O I x.1 v/\HR O I K w0 x.2 w'/\St h O x.2 O:=by
       intro i w1 hi r1 hw1;have hx:left.toList[i]? =some left[i]:=by simp[hi]
       obtain⟨e,e1,e2,e3,e4⟩:=hleft.get i hx;refine⟨_,j7.2 ⟨e,I1 e1,rfl⟩,?_⟩;obtain⟨p1,p2⟩:=r1.set1 b _ (.mapIter (some m) since (seen++[e.born]) c) L (.mapIter (some Lm.blk) since (seen.toArray.push left[i].born) c) hg hL c1
        ⟨h0,some Lm.blk,by rw[e4];simp,Lm,hLm,rfl⟩
       refine⟨.tuple #[.bool true,left[i].key,left[i].val],_,?_,⟨_,rfl,.cons rfl (.cons e2 (.one e3))⟩,p1,p2⟩;have h1':w1.heap[L.blk]? =some (.mapIter (some Lm.blk) since seen.toArray last):=by rw[hw1];exact h1
       simp[A2 hi,Sem.run_bind,bD3 _ h1',Result.andThen_ok,Sem.run_pure]
      have hE:left.isEmpty=false:=by simpa using hne
      have hcand:((if left.isEmpty then #[none]else #[])++left.map some:Array (Option MapEntry))=left.map some:=by rw[hE];simp
      have hsz:(left.map some).size=left.size:=by simp
      have hne2:tf es seen≠[]:=by
       intro hh;have:=hleft.length;rw[show(es.filter λe=> !(seen.contains e.born))=tf es seen from rfl,hh]at this;simp at this;trivial
      have hres:e29 P O I K w0 w h (Instr.next (.pointer (some ⟨L.blk,L.off+0,none⟩)) false ty) (.choice ((tf es seen).map λe=>(.tup [.bool true,e.key,e.val],h.put b (some (.mapIter (some m) since (seen++[e.born]) c))))):=by
       by_cases hf:(Question.mapNext left.size).forced=true
       .obtain⟨x,hx,v,w',q1,q2,q3,q4⟩:=key 0 w hpos r rfl;refine⟨x,hx,O,v,w',hrun0 v w' ?_,q2,q3,q4⟩;simp only[hcand,hsz,Sem.run_bind,run_choose,hf,if_true,Result.andThen_ok];simp only[A2 hpos]at q1;simp only[Array.getElem?_map,A2 hpos,Option.map_some];exact q1
       .have hlt:(Question.mapNext left.size).cut (w.tape w.drawn (.mapNext left.size))<left.size:=N4 _ hpos;obtain⟨x,hx,v,w',q1,q2,q3,q4⟩:=key _ w.drew hlt r.drew rfl;refine⟨x,hx,O,v,w',hrun0 v w' ?_,q2,q3,q4⟩;simp only[hcand,hsz,Sem.run_bind,run_choose,hf,s6,if_false,Result.andThen_ok];simp only[A2 hlt]at q1;simp only[Array.getElem?_map,A2 hlt,Option.map_some];exact q1
      grind[dp8,absurd]
   .trivial
  .trivial
 .trivial
end Go.Ev
namespace Go.Ev
open Go
variable{a:AV}{vx:Value}{e ty:TypeId}{b:Nat}{ts:Array TypeId}
variable{P:Program}{O:cq}{I:Opq}{K:Nat->Prop}{w0 w:World}{h h':Heap}
end Go.Ev
namespace Go.Ev
open Go
variable{P:Program}{O:cq}{I:Opq}{K:Nat->Prop}{w0 w:World}{h h':Heap}
theorem bq7: ∀{l:List Nat} {s:Nat},Ug l=some s->l.toArray.back? =some s
 | [],s,e=>by cases e
 | [x],s,e=>by trivial
 |x::y::r,s,e=>by
  have ih:=bq7 (l:=y::r) (s:=s) e;grind
theorem cf8{it a:AV}{vi:Value}(r:HR O I K w0 h w)(e:MG it h=some a)(ri:VR O I it vi): ∃v,VR O I a v/\(Instr.entry vi).run P w= .ok v w:=by
 unfold MG at e;split at e
 .rename_i b;simp only[VR]at ri;obtain⟨L,hL,rfl⟩:=ri;split at e
  .rename_i m since seen stepped hg;obtain⟨h0,m',h1,h2⟩:=r.iter hg hL;simp only[IR]at h2;obtain⟨Lm,hLm,rfl⟩:=h2;split at e
   .rename_i s es c hs hgm;replace e:=Z2 e;obtain⟨hc,e⟩:=e;rw[Z4]at hc;subst hc;simp only[o9]at e;obtain⟨⟨i,en⟩,hf,rfl⟩:=e;obtain⟨E,g1,g2⟩:=r.map hgm hLm;obtain⟨j,k,v,e1,e2,e3,e4,e5,e6,e7⟩:=bD2 g2 0 hf;obtain⟨-,q1⟩:=e7 (λx=>x.born==s) (λx=>by simp);have q2:E.find? (λx=>x.born==s)=some ⟨k,v,en.born⟩:=by grind
    have hb:=bq7 hs;refine⟨.tuple #[k,v],⟨_,rfl,.cons e4 (.one e5)⟩,?_⟩;have hcc:(c !=c)=false:=by simp
    simp only[h0,Nat.add_zero,Instr.entry,Sem.run_bind,Xj h1,Result.andThen_ok,hb,lK g1,hcc,s6,if_false,Sem.run_pure,q2]
   .cases e
  .cases e
 .cases e
theorem b80{x a:AV}{xt t:TypeId}{ok:Bool}{vx:Value}(e:ME P x t ok=some a)(rx:VR O I x vx): ∃v,VR O I a v/\ ∀w,(Instr.typeAssert vx xt t ok).run P w= .ok v w:=by
 have fails:XZ P t ok=some a->ok=true/\ ∃z,VR O I a (.tuple #[z,.bool false])/\ ∀w,(zeroValue t).run P w= .ok z w:=by
  intro e;obtain⟨hok,e⟩:=Z2 e;simp at e;obtain⟨z,hz,rfl⟩:=e;obtain⟨zv,z1,z2⟩:=FG hz;exact⟨hok,zv,⟨_,rfl,.cons (z1 _ _) (.one rfl)⟩,z2⟩
 have holds: ∀(y:AV) (v:Value),VR O I y v->UL ok y=some a->VR O I a (if ok then .tuple #[v,.bool true]else v):=by
  intro y v hv e;unfold UL at e;simp at e;subst e;cases ok
  .exact hv
  .exact⟨_,rfl,.cons hv (.one rfl)⟩
 unfold ME at e;cases hd:P.underlying t with
 |none=>grind
 |some d=>
  rw[hd]at e;cases d with
  |interface m=>cases e
  |_=>
   simp at e;split at e
   .trivial
   .rename_i ty y;obtain⟨v,rfl,rv⟩:=rx;cases ht:Nat.beq ty t with
    |true=>
     rw[ht]at e;rw[Z4]at ht;subst ht;exact⟨_,holds y v rv e,λw=>by simp[Instr.typeAssert,Sem.run_bind,Z3 hd,Result.andThen_ok,if_true,Sem.run_pure]⟩
    |false=>
     rw[ht]at e;obtain⟨rfl,z,z1,z2⟩:=fails e;have hne: ¬ty=t:=λhh=>by rw[Z4.2 hh]at ht;cases ht
     exact⟨_,z1,λw=>by simp[Instr.typeAssert,Sem.run_bind,Z3 hd,Result.andThen_ok,b9 hne,if_true,z2,Sem.run_pure]⟩
   .cases e
theorem cE6{s d:TypeId}{x a:AV}{vx:Value}(hfx: ∀t,I.fix t=gv P t)(r:HR O I K w0 h w)(e:Ca P s d x h=some (a,h'))(rx:VR O I x vx):Ok P O I K w0 w h (convert s d vx) a h':=by
 unfold Ca at e;split at e
 .rename_i sd k k' n hs hd;obtain⟨rfl,rfl⟩:=e;subst rx;refine⟨O,.int k (k.wrap n),w,?_,by rw[wu];rfl,r,.refl _ _⟩;simp[convert,Sem.run_bind,Z3 hs,Z3 hd,Result.andThen_ok];rfl
 .trivial
 .trivial
 .trivial
 .trivial
 .cases e
theorem d49{ts:Array TypeId}{ty n:Nat}{x:AV}{vx:Value}(r:HR O I K w0 h w)(e:Rc P ((ts[0]?).bind P.underlying) x h=some n)(rx:VR O I x vx):
 (Builtin.len_ ts ty #[vx]).run P w= .ok (goInt n) w:=by
 unfold Rc at e;split at e
 .rename_i ht;simp[o8]at ht;obtain⟨t,h0,ht⟩:=ht;split at e
  .simp at e;subst e;subst rx;simp[Builtin.len_,h0,Z3 ht];rfl
  .cases e
 .rename_i el ht;simp[o8]at ht;obtain⟨t,h0,ht⟩:=ht;cases hi:Ho x with
  |true=>grind
  |false=>
   rw[hi]at e;rcases cD8 e rx with⟨b,c,rfl⟩|⟨l,rfl⟩
   .simp[Builtin.len_,h0,Z3 ht]
   grind[Ho]
 .trivial
 .cases e
theorem cf9{ts:Array TypeId}{t ty elem b o n cap:Nat}{a:AV}{L:Loc}(h0:ts[0]? =some t)(ht:P.underlying t=some (.slice elem))(r:HR O I K w0 h w)(e:Ky P elem b o n h=some (a,h'))(hL:O b=some L):
 Ok P O I K w0 w h (Builtin.clear_ ts ty #[.slice (some ⟨L.blk,L.off+o,none⟩) n cap]) a h':=by
 unfold Ky at e;split at e
 .obtain⟨rfl,rfl⟩:=e;exact⟨O,.tuple #[],w,by simp[Builtin.clear_,h0,Z3 ht],⟨_,rfl,rfl⟩,r,.refl _ _⟩
 .rename_i hn;split at e
  .rename_i z hz;obtain⟨hp,e⟩:=Z2 e;rw[fc]at hp;simp only[o9,A3]at e;obtain⟨h1,he,rfl,rfl⟩:=e;obtain⟨zv,hzv,hzr⟩:=Ck hz;have rz:ct O I z.cells zv.cells.toList:=VR.cells' (vF hzv) (JW hzv);have hzs:zv.cells.size=z.cells.length:=by have:=rz.length;trivial
   obtain⟨p1,p2,p3⟩:=Fb (P:=P) r he hL (aF8 rz (by omega) n);refine⟨O,.tuple #[],_,?_,⟨_,rfl,rfl⟩,p2,p3⟩;simp[Builtin.clear_,h0,Sem.run_bind,Z3 ht,Result.andThen_ok,N2,List.getElem?_cons_zero,hzr,p1,Sem.run_pure]
  .cases e
theorem cg0{ts:Array TypeId}{ty:Nat}{x a:AV}{vx:Value}(r:HR O I K w0 h w)(e:QG P ((ts[0]?).bind P.underlying) x h=some (a,h'))(rx:VR O I x vx):Ok P O I K w0 w h (Builtin.clear_ ts ty #[vx]) a h':=by
 unfold QG at e;split at e
 .rename_i elem ht;simp[o8]at ht;obtain⟨t,h0,ht⟩:=ht;split at e
  .trivial
  .trivial
  .trivial
  .cases e
 .trivial
 .cases e
theorem ct.inv1{a:AV}{us:Array Value}(r:ct O I [a] us.toList): ∃v,us= #[v]/\VR O I a v:=by
 obtain⟨v,vr,e,p,q⟩:=r;rw[show vr=[]from q]at e;grind
theorem ct.inv2{a b:AV}{us:Array Value}(r:ct O I [a,b] us.toList): ∃v u,us= #[v,u]/\VR O I a v/\VR O I b u:=by
 obtain⟨v,vr,e,p,u,ur,e2,q,t⟩:=r;rw[show ur=[]from t]at e2;grind
theorem d51{x a:AV}{v:Value}(r:HR O I K w0 h w)(e:ST x h=some a)(rx:VR O I x v): ∃p n c,v= .slice p n c/\VR O I a (.int .i64 (c:Nat)):=by
 unfold ST at e;split at e
 .trivial
 .trivial
 .simp at e;subst e;obtain⟨L,_,rfl⟩:=rx;exact⟨_,_,_,rfl,rfl⟩
 .rename_i b o n sz;split at e
  .rename_i el fz cs hg;replace e:=Z2 e;obtain⟨hc,e⟩:=e;obtain⟨h1,h2⟩:=Z1 hc;rw[fc]at h1;simp at e;subst e;obtain⟨L,c,hL,hx,rfl⟩:=rx;obtain⟨C,lo,hi,vs,q1,q2,q3,q4⟩:=r.cells hg hL;refine⟨_,_,_,rfl,(c:Nat),rfl,?_⟩;have:(cs.length-o)/sz<=c:=by
    rw[<-Nat.mul_div_cancel c h1];exact Nat.div_le_div_right (by omega)
   exact Int.ofNat_le.2 this
  .cases e
 .cases e
theorem Ur{b:Builtin}{ts:Array TypeId}{ty:TypeId}{cs:Array Bool}{args:List AV}{us:Array Value}{a:AV}(hfx: ∀t,I.fix t=gv P t)(r:HR O I K w0 h w)(e:Fm P b ts args h=some (a,h'))(ra:ct O I args us.toList):
 ∃ac v w',(builtin b ts ty cs us).run P w= .ok (.value v) w'/\VR ac I a v/\HR ac I K w0 h' w'/\St h O h' ac:=by
 have lift: ∀{m:Sem Value},Ok P O I K w0 w h m a h'-> ∃ac v w',(do pure (.value (<-m)):Sem Next).run P w= .ok (.value v) w'/\VR ac I a v/\HR ac I K w0 h' w'/\St h O h' ac:=by
  intro m ⟨ac,v,w',h1,h2,h3,h4⟩;grind[Sem.run_bind,Result.andThen_ok,Sem.run_pure]
 unfold Fm at e;split at e
 .simp at e;obtain⟨n,hn,rfl,rfl⟩:=e;obtain⟨v,rfl,rv⟩:=ra.inv1;exact lift ⟨O,_,w,d49 r hn rv,rfl,r,.refl _ _⟩
 .obtain⟨v,u,rfl,rv,ru⟩:=ra.inv2;exact lift (c29 hfx r e rv ru)
 .obtain⟨v,u,rfl,rv,ru⟩:=ra.inv2;exact lift (cD9 r e rv ru)
 .obtain⟨v,rfl,rv⟩:=ra.inv1;exact lift (cg0 r e rv)
 .obtain⟨v,u,rfl,rv,ru⟩:=ra.inv2;split at e
  .rename_i t h0;simp only[o9,A3]at e;obtain⟨h1,he,rfl,rfl⟩:=e;obtain⟨w',d1,d2,d3⟩:=c32 (ty:=ty) h0 r he rv ru;exact lift ⟨O,_,w',d1,⟨_,rfl,rfl⟩,d2,d3⟩
  .cases e
 .obtain⟨v,rfl,rv⟩:=ra.inv1;split at e
  .simp at e;obtain⟨a0,he,rfl,rfl⟩:=e;obtain⟨p,n,c,rfl,rc⟩:=d51 r he rv;refine lift ⟨O,.int .i64 (c:Nat),w,?_,rc,r,.refl _ _⟩;cases ht:ts[0]? with
   |none=>grind
   |some t=>
    simp_all[Builtin.cap_,Sem.run_bind,run_underlying,goInt]
  .cases e
 .obtain⟨v,u,rfl,rv,ru⟩:=ra.inv2;subst rv ru;obtain⟨rfl,rfl⟩:=e;rename_i k x k' y;refine lift ⟨O,.int k (if y>x then y else x),w,?_,?_,r,.refl _ _⟩
  .trivial
  grind[vR,VR]
 .obtain⟨v,u,rfl,rv,ru⟩:=ra.inv2;subst rv ru;obtain⟨rfl,rfl⟩:=e;rename_i k x k' y;refine lift ⟨O,.int k (if y<x then y else x),w,?_,?_,r,.refl _ _⟩
  .trivial
  grind[vR,VR]
 .cases e
noncomputable def Ext.model:Ext->Array Value->Sem Value
 | .mapsClone=>Extern.MapsClone.clone
 | .ident=>Extern.AbiNoEscape.same
 | .count=>Extern.BytealgCount.count
 | .indexByte=>Extern.BytealgIndexByte.indexByte
 | .overlaps t r=>Extern.SlicesOverlaps.overlaps #[t,t] #[r]
 | .makeNoZero t=>Extern.BytealgMakeNoZero.makeNoZero #[] #[t]
theorem cg1{x:AV}{v:Value}{b o:Nat}(e:CC x=some (b,o))(rx:VR O I x v): ∃L n c,O b=some L/\v= .slice (some ⟨L.blk,L.off+o,none⟩) n c:=by
 unfold CC at e;split at e
 .simp[VR]at rx;grind
 .simp[VR]at rx;grind
 .cases e
theorem bq8(a b:Addr)(w:World): ∃m,(mayBeOne a b).run P w= .ok m w:=by
 have hs: ∀x:Addr,∃m,(stringish x).run P w= .ok m w:=by
  intro x;unfold stringish;simp only[Sem.run_bind,run_frozen,Result.andThen_ok];cases w.frozen? x with
  |true=>exact⟨_,rfl⟩
  |false=>
   simp only[s6,if_false,Sem.run_bind,run_shape,Result.andThen_ok,Sem.run_pure];cases w.shape? x.block with
   |none=>exact⟨_,rfl⟩
   |some p=>exact⟨_,rfl⟩
 obtain⟨m1,h1⟩:=hs a;obtain⟨m2,h2⟩:=hs b;unfold mayBeOne;simp only[Sem.run_bind,h1,h2,run_shape,Result.andThen_ok,Sem.run_pure];exact⟨_,rfl⟩
theorem aX1(q:Question)(w:World): ∃n w',(choose q).run P w= .ok n w'/\(w'=w\/w'=w.drew):=by
 rw[run_choose];split
 .grind
 .exact⟨_,_,rfl,.inr rfl⟩
theorem cE7{t rt e:TypeId}{size:Nat}(ht:P.underlying t=some (.slice e))(hz:fe P e=some size){a b:Addr}(la ca lb cb:Nat)(hne:a.block≠b.block)
 {tA tB:TypeId} {kA kB:Nat} (hsa:w.shape? a.block=some (tA,kA)) (hsb:w.shape? b.block=some (tB,kB)) (hfa:w.frozen? a=false):
 ∃c w',(Extern.SlicesOverlaps.overlaps #[t,t] #[rt] #[.slice (some a) la ca,.slice (some b) lb cb]).run P w= .ok (.bool c) w'/\(w'=w\/w'=w.drew):=by
 have hnb:(a.block !=b.block)=true:=by grind
 obtain⟨m,hm⟩:=bq8 (P:=P) a b w;obtain⟨n,w1,hn,hw⟩:=aX1 (P:=P) (.extern "sameAddr.stringBytes" 2) w;have hv: ∀x:Addr,∀p,w.shape? x.block=some p->(noView x).run P w= .ok () w:=by
  simp_all[noView,viewAt,Sem.run_bind,run_shape,Result.andThen_ok,Option.isSome_some,if_true,Sem.run_pure,Option.isSome_none,s6,if_false]
 delta Extern.SlicesOverlaps.overlaps Extern.SlicesOverlaps.overlaps.match_4 Extern.SlicesOverlaps.overlaps._sparseCasesOn_4
 rw[dif_pos (show(#[Value.slice (some a) la ca,Value.slice (some b) lb cb]:Array Value).size=2 from rfl)];dsimp only[Array.getLit,List.getElem_toArray,List.getElem_cons_zero,List.getElem_cons_succ];simp only[N2,List.getElem?_cons_zero,Sem.run_bind,Result.andThen_ok,Z3 ht,fB hz,Sem.run_pure];by_cases h0:la=0\/lb=0\/size=0
 .simp_all
 .rw[b9 h0];simp only[hnb,if_true,A9,Sem.run_bind,run_frozen,Result.andThen_ok,hfa,G2,s6,if_false,hv a _ hsa,hv b _ hsb,hm];cases m with
  |true=>
   simp only[if_true,Sem.run_bind,hn,Result.andThen_ok,Sem.run_pure];grind
  |false=>
   simp_all
theorem cE8{t rt:TypeId}{args:List AV}{us:Array Value}(r:HR O I K w0 h w)(ra:ct O I args us.toList):
 Du t P args h= .bad\/ ∃l,Du t P args h= .choice l/\ ∃x∈l,Ok P O I K w0 w h ((Ext.overlaps t rt).model us) x.1 x.2:=by
 unfold Du;split
 .rename_i x y;obtain⟨v,u,rfl,rv,ru⟩:=ra.inv2;split
  .rename_i e ht;split
   .rename_i s hz;cases hap:Ox (CC x) (CC y) h with
    |false=>exact .inl rfl
    |true=>
     refine .inr ⟨_,rfl,?_⟩;unfold Ox at hap;split at hap
     .rename_i p q hp hq;obtain⟨p1,p2⟩:=p;obtain⟨q1,q2⟩:=q;obtain⟨g1,g2⟩:=Z1 hap;split at g2
      .rename_i e1 fz cs e2 fz2 cs2 hg1 hg2;obtain⟨g3,g4⟩:=Z1 g2;rw[cW]at g3;rw[fc]at g4;have hne:p1≠q1:=by
        rintro rfl;simp at g1
       obtain⟨L,n,c,hL,rfl⟩:=cg1 hp rv;obtain⟨M,n2,c2,hM,rfl⟩:=cg1 hq ru;have hsep:=r.sep _ _ _ _ _ _ hg1 hg2 hL hM hne (.inr (.inr (.inl rfl)));obtain⟨C,lo,hi,vs,a1,a2,a3,a4,a5,a6,a7⟩:=r.cells hg1 hL;obtain⟨C2,lo2,hi2,vs2,b1,b2,b3,b4,b5,b6,b7⟩:=r.cells hg2 hM;obtain⟨d,w',hd,hw⟩:=cE7 (w:=w) (rt:=rt) ht hz n c n2 c2 (a:=⟨L.blk,L.off+p2,none⟩) (b:=⟨M.blk,M.off+q2,none⟩) hsep
        (by simp only[World.shape?,a1];rfl) (by simp only[World.shape?,b1];rfl) (BW a1 (a7 p2 g3 (by omega)))
       refine⟨(.bool d,h),by cases d<;>simp,O,.bool d,w',hd,rfl,?_,.refl _ _⟩;rcases hw with rfl|rfl
       .exact r
       .exact r.drew
      .cases g2
     .cases hap
   .exact .inl rfl
  .exact .inl rfl
 grind
theorem d53{x:Ext}{args:List AV}{us:Array Value}{a:AV}(r:HR O I K w0 h w)(e:Ew P x args h=some (a,h'))(ra:ct O I args us.toList):Ok P O I K w0 w h (x.model us) a h':=by
 unfold Ew at e;split at e
 .rename_i t b;obtain⟨v,rfl,rv⟩:=ra.inv1;obtain⟨y,rfl,L,hL,rfl⟩:=rv;split at e
  .trivial
  .rename_i d ks vs l hg;obtain⟨rfl,rfl⟩:=e;obtain⟨E,c,h1,h2,h3⟩:=r.blk _ _ L hg hL;obtain⟨p1,p2⟩:=r.new (.map E c) (.marr d ks vs l) 0 0 ⟨E,c,rfl,h2,h3⟩;refine⟨_,.iface t (.map (some w.heap.size)),_,?_,⟨_,rfl,_,cq.add_self _ _ _,rfl⟩,p1,p2⟩;show(do
    let .map entries clock <-getObj L.blk|Go.stuck "maps.clone: a map expected"
    pure (.iface t (.map (some (<-newObj (.map entries clock))))):Sem Value).run P w=_
   simp only[Sem.run_bind,lK h1,Result.andThen_ok,run_newObj,Sem.run_pure];rfl
  .cases e
 .trivial
 .trivial
 .trivial
 .cases e
end Go.Ev
namespace Go.Ev
open Go
variable{t:TypeId}{m:Sem Value}{us:Array Value}{args:List AV}{f:FuncId}{name:String}{af:Operand->Option AV}
structure Env.Ok (E:Env) (I:Opq):Prop where
 fix: ∀t,I.fix t=gv E.P t
 name: ∀(f:FuncId) (fn:Func),E.P.funcs[f]? =some fn->(fn.name== "runtime.NumGoroutine")=false
 ext: ∀(f:FuncId) (e:Ext),E.ext f=some e-> ∃fn:Func,E.P.funcs[f]? =some fn/\fn.body=none/\Extern.findNext fn=none/\Extern.find fn=some e.model
 bin: ∀op a b v,E.fact (.bin op) [a,b]=some v-> ∀(O:cq) t va vb,VR O I a va->VR O I b vb-> ∃u,VR O I v u/\ ∀w,(binOp op t va vb).run E.P w= .ok u w
 un: ∀op a v,E.fact (.un op) [a]=some v-> ∀(O:cq) va,VR O I a va-> ∃u,VR O I v u/\ ∀w,(Op.unary op va).run E.P w= .ok u w
 conv: ∀d a v,E.fact (.conv d) [a]=some v-> ∀(O:cq) s va,VR O I a va-> ∃u,VR O I v u/\ ∀w,(convert s d va).run E.P w= .ok u w
 blt: ∀b k as v,(b= .len/\k= .len\/b= .max/\k= .max\/b= .min/\k= .min)->E.fact k as=some v-> ∀(O:cq) ts ty cs us,ct O I as us-> ∃u,VR O I v u/\ ∀w,(builtin b ts ty cs us.toArray).run E.P w= .ok (.value u) w
variable{E:Env}{O:cq}{I:Opq}{K:Nat->Prop}{w0 w:World}{h h':Heap}
def DR(O:cq)(I:Opq):ADef->Deferred->Prop
 | .coll b,d=> ∃L,O b=some L/\d={target:= .collected L.blk,args:= #[]}
 | .fn f cap args,d=> ∃us cs,d={target:= .fn (.func f) cs,args:=us}/\ct O I args us.toList/\ct O I cap cs.toList
def lg(O:cq)(I:Opq):List ADef->List Deferred->Prop
 | [],ds=>ds=[]
 |a::r,ds=> ∃d dr,ds=d::dr/\DR O I a d/\lg O I r dr
theorem DR.mono{ac:cq}(hl:Le O ac): ∀{a:ADef} {d:Deferred},DR O I a d->DR ac I a d
 | .coll b,d,⟨L,h1,h2⟩=>⟨L,hl _ _ h1,h2⟩
 | .fn f cap args,d,⟨us,cs,h1,h2,h3⟩=>⟨us,cs,h1,ct.mono hl _ _ h2,ct.mono hl _ _ h3⟩
theorem lg.mono{ac:cq}(hl:Le O ac): ∀{a:List ADef} {d:List Deferred},lg O I a d->lg ac I a d
 | [],_,h=>h
 |a::r,d,⟨x,y,h1,h2,h3⟩=>⟨x,y,h1,h2.mono hl,lg.mono hl h3⟩
def dM(E:Env)(O:cq)(I:Opq)(K:Nat->Prop)(w0 w:World)(h:Heap)(m:Sem Next)(v:AV)(h':Heap):Prop:=
 ∃ac u w',(m.run E.P w= .ok (.value u) w'\/u=Go.undef/\m.run E.P w= .ok .skip w')/\VR ac I v u/\HR ac I K w0 h' w'/\St h O h' ac
def dA(E:Env)(O:cq)(I:Opq)(K:Nat->Prop)(w0 w:World)(h:Heap)(m:Sem Next):Res->Prop
 | .val v h'=>dM E O I K w0 w h m v h'
 | .need e v h'=>dB I e=true->dM E O I K w0 w h m v h'
 | .cho e v l h'=>(dB I e=true->dM E O I K w0 w h m v h')/\(dB I e=false-> ∃x∈l,dM E O I K w0 w h m x h')
 | .enter f args=> ∃us:List Value,m.run E.P w= .ok (.enter f us.toArray) w/\ct O I args us
 | .choice l=> ∃x∈l,dM E O I K w0 w h m x.1 x.2
 | .yield l args=> ∃(L:Loc) (us:List Value),O l=some L/\ct O I args us/\m.run E.P w=(Instr.yield L.blk us.toArray).run E.P w
 | .defer d=> ∃dd,m.run E.P w= .ok (.defer dd) w/\DR O I d dd
 | .bad=>True
theorem dM.of{v:AV}(k:Ok E.P O I K w0 w h m v h'):dM E O I K w0 w h (do pure (.value (<-m))) v h':=by
 obtain⟨ac,u,w',h1,h2,h3,h4⟩:=k;exact⟨ac,u,w',.inl (by simp_all),h2,h3,h4⟩
theorem dM.ofPure{v:AV}(r:HR O I K w0 h w)(k: ∃u,VR O I v u/\m.run E.P w= .ok u w):dM E O I K w0 w h (do pure (.value (<-m))) v h:=by
 obtain⟨u,h1,h2⟩:=k;exact .of ⟨O,u,w,h2,h1,r,.refl _ _⟩
theorem dM.ofU{m:Sem Unit}(k:NN E.P O I K w0 w h m h'):dM E O I K w0 w h (do m;pure .skip) .undef h':=by
 obtain⟨w',h1,h2,h3⟩:=k;exact⟨O,Go.undef,w',.inr ⟨rfl,by simp_all⟩,⟨#[],rfl,rfl⟩,h2,h3⟩
theorem vq{x:Option AV}(r:HR O I K w0 h w)(k: ∀v,x=some v-> ∃u,VR O I v u/\m.run E.P w= .ok u w):dA E O I K w0 w h (do pure (.value (<-m))) (ov x h):=by
 cases x with
 |none=>trivial
 |some v=>exact .ofPure r (k v rfl)
theorem LQ{x:Option (AV×Heap)}(k: ∀v h',x=some (v,h')->Ok E.P O I K w0 w h m v h'):dA E O I K w0 w h (do pure (.value (<-m))) (oh x):=by
 cases x with
 |none=>trivial
 |some p=>exact .of (k p.1 p.2 rfl)
theorem WW{m:Sem Unit}{x:Option Heap}(k: ∀h',x=some h'->NN E.P O I K w0 w h m h'):dA E O I K w0 w h (do m;pure .skip) (os x):=by
 cases x with
 |none=>trivial
 |some p=>exact .ofU (k p rfl)
def eY(O:cq)(I:Opq)(af:Operand->Option AV)(ρ:Operand->Value):Prop:= ∀x a,af x=some a->VR O I a (ρ x)
theorem eY.mono{ac:cq}{ρ:Operand->Value}(hl:Le O ac)(o:eY O I af ρ):eY ac I af ρ:=λx a e=>VR.mono hl _ _ (o x a e)
theorem uC{af:Operand->Option AV}{ρ:Operand->Value}(o:eY O I af ρ): ∀{l:List Operand} {vs:List AV},evs af l=some vs->ct O I vs (l.map ρ)
 | [],vs,e=>by simp[evs,j0]at e;subst e;rfl
 |x::r,vs,e=>by
  simp[evs]at e;split at e
  .rename_i v vs' h1 h2;simp at e;subst e;exact .cons (o x v h1) (uC o h2)
  .cases e
theorem UV{af:Operand->Option AV}{ρ:Operand->Value}(o:eY O I af ρ): ∀{l:List (Nat×Operand)} {vs:List (Nat×AV)},jg af l=some vs->
 vs.map (·.1)=(l.map λp=>(p.1,ρ p.2)).map (·.1)/\ct O I (vs.map (·.2)) ((l.map λp=>(p.1,ρ p.2)).map (·.2))
 | [],vs,e=>by simp[jg,j0]at e;subst e;trivial
 |(i,x)::r,vs,e=>by
  simp[jg]at e;split at e
  .rename_i v vs' h1 h2;simp at e;subst e;obtain⟨q1,q2⟩:=UV o h2;exact⟨by grind,.cons (o x v h1) q2⟩
  .cases e
theorem Ax{ρ:Operand->Value}(o:eY O I af ρ){x:Option Operand}{v:Option AV}(e:fA af x=some v):OR O I v (x.map ρ):=by
 cases x with
 |none=>simp[fA,j0]at e;subst e;rfl
 |some x=>
  simp[fA,o9]at e;obtain⟨a,ha,rfl⟩:=e;exact⟨_,rfl,o x a ha⟩
theorem ZT(hE:E.Ok I){us:List Value}(r:HR O I K w0 h w)(ra:ct O I args us):dA E O I K w0 w h (callFunc f us.toArray) (Cp E f args h):=by
 unfold Cp;split
 .trivial
 .rename_i fn hf;have hn:=hE.name f fn hf;split
  .rename_i c hb;refine⟨us,?_,ra⟩;simp only[callFunc,Sem.run_bind,run_program,Result.andThen_ok,hf,hn,hb,s6,if_false,Option.isNone_some,Sem.run_pure]
  .rename_i hb;split
   .rename_i e he;obtain⟨fn',h1,h2,h3,h4⟩:=hE.ext f e he;rw[hf]at h1;simp at h1;subst h1;have one: ∀v h',Ok E.P O I K w0 w h (e.model us.toArray) v h'->dM E O I K w0 w h (callFunc f us.toArray) v h':=by
     rintro v h' ⟨ac,u,w',g1,g2,g3,g4⟩;refine⟨ac,u,w',.inl ?_,g2,g3,g4⟩;simp only[callFunc,Sem.run_bind,run_program,Result.andThen_ok,hf,hn,hb,s6,if_false,Option.isNone_none,if_true,run_mark,h3,h4,g1,Sem.run_pure]
    have plain:dA E O I K w0 w h (callFunc f us.toArray) (oh (Ew E.P e args h)):=by
     cases hx:Ew E.P e args h with
     |none=>trivial
     |some p=>exact one _ _ (d53 (us:=us.toArray) (a:=p.1) (h':=p.2) r hx (by trivial))
    have ys:dA E O I K w0 w h (callFunc f us.toArray) (e13 E.P e args h):=by
     trivial
    have fin:dA E O I K w0 w h (callFunc f us.toArray) (e12 E.P e args h):=by
     cases e with
     |overlaps t rt=>
      rcases cE8 (t:=t) (rt:=rt) (us:=us.toArray) r (by trivial)with h5|⟨l,h5,x,hx,h6⟩
      .show dA E O I K w0 w h _ (Du t E.P args h);rw[h5];trivial
      .show dA E O I K w0 w h _ (Du t E.P args h);rw[h5];exact⟨x,hx,one _ _ h6⟩
     |_=>exact plain
    unfold YE;grind
   .trivial
section
variable{P:Program}
end
theorem c33(hE:E.Ok I){f:AV}{vf:Value}{us:List Value}(r:HR O I K w0 h w)(rf:VR O I f vf)(ra:ct O I args us):
 dA E O I K w0 w h (do let d <-Deferred.ofValue vf us.toArray;invoke d.target d.args) (Qf E f args h):=by
 unfold Qf;split
 .rename_i g first cap
  obtain⟨-,x,y,rfl,rx,ry⟩:=rf;have:=ZT hE (f:=g) r ((rx.append ra).append ry);have hrun: ∀w,(do let d <-Deferred.ofValue (.func (.func g) x y) us.toArray;invoke d.target d.args:Sem Next).run E.P w=(callFunc g (x.toList++us++y.toList).toArray).run E.P w:=by
   intro w;simp[Deferred.ofValue,Sem.run_bind,Sem.run_pure,Result.andThen_ok,invoke];congr 1;congr 1;grind
  cases hres:Cp E g (first++args++cap) h<;>rw[hres]at this
  .obtain⟨ac,u,w',q1,q2⟩:=this;exact⟨ac,u,w',by grind,q2⟩
  .intro hd;obtain⟨ac,u,w',q1,q2⟩:=this hd;exact⟨ac,u,w',by grind,q2⟩
  .refine⟨λhd=> ?_,λhd=> ?_⟩
   .obtain⟨ac,u,w',q1,q2⟩:=this.1 hd;exact⟨ac,u,w',by grind,q2⟩
   .obtain⟨x,hx,ac,u,w',q1,q2⟩:=this.2 hd;exact⟨x,hx,ac,u,w',by grind,q2⟩
  .obtain⟨vs,q1,q2⟩:=this;exact⟨vs,by grind,q2⟩
  .obtain⟨x,hx,ac,u,w',q1,q2⟩:=this;exact⟨x,hx,ac,u,w',by grind,q2⟩
  .obtain⟨L,vs,q1,q2,q3⟩:=this;exact⟨L,vs,q1,q2,by grind⟩
  .obtain⟨d,q1,q2⟩:=this;exact⟨d,by grind,q2⟩
  .trivial
 .trivial
 .trivial
 .trivial
def cF0:Value->Bool
 | .pointer none| .nilIface| .nilFunc=>false
 | .func (.method _) _ _=>false
 |_=>true
theorem bD5{x:AV}{v:Value}(r:VR O I x v){a:AV}(e:MP x=some a):a=x/\cF0 v=true:=by
 unfold MP at e;split at e
 .cases e
 .cases e
 .cases e
 .cases e
 .cases e
 .cases e
 .rename_i h1 h2 h3 h4 h6 h5;simp at e;refine⟨e.symm,?_⟩;cases x<;>simp only[VR]at r;case nilp=>grind
  case nilf=>grind
  case nili=>grind
  case opq n=>grind
  case any=>grind
  case func fn a b=>
   obtain⟨-,p,q,rfl,-⟩:=r;cases fn<;>first|rfl|grind
  all_goals first
   |(rcases r with⟨L,c,_,rfl,_⟩|⟨rfl,_⟩<;>rfl)
   |(rcases r with⟨L,c,_,_,rfl,_⟩|⟨rfl,_⟩<;>rfl)
   |(rcases r with⟨L,c,_,_,rfl,_⟩|⟨_,_,rfl,_⟩<;>rfl)
   |(subst r;rfl)
   |(obtain⟨L,_,rfl⟩:=r;rfl)
   |(obtain⟨L,c,_,_,rfl⟩:=r;rfl)
   |(obtain⟨L,a,c,_,rfl,_⟩:=r;rfl)
   |(obtain⟨a,rfl⟩:=r;rfl)
   |(obtain⟨a,rfl,_⟩:=r;rfl)
end Go.Ev
