import Derived.Test.YtpmabjilbokleaaGreatE4
import Derived.Laws.IdiomStrings
import Derived.Laws.BytesArg
import Derived.Lib.Builder
import Derived.Lib.UnsafeStr
import Derived.Lib.Bytealg
import Derived.Lib.MakeNoZero
import Derived.CallsIn
set_option linter.unusedSimpArgs false
set_option linter.unusedVariables false
namespace Go.Ev
open Go
variable{P:Program}{O:aQ}{I:Opq}{K:Nat->Prop}{w0 w:World}{h h':Heap}
theorem c96{t:TypeId}{x a:AV}{vx:Value}(r:HR O I K w0 h w)(e:Ep P t x h=some (a,h'))(rx:VR O I x vx):Ok P O I K w0 w h (Instr.range t vx) a h':=by
 unfold Ep at e;split at e
 .rename_i l ht;obtain⟨rfl,rfl⟩:=e;simp[VR]at rx;obtain⟨p1,p2⟩:=r.new (.stringIter ⟨l.toArray⟩ 0) (.strIter l 0) 0 0 ⟨rfl,rfl⟩;refine⟨_,.pointer (some ⟨w.heap.size,0,none⟩),_,?_,⟨_,aQ.add_self _ _ _,rfl⟩,p1,p2⟩;simp_all[Instr.range,Sem.run_bind,R1,Result.andThen_ok,Sem.run_pure,run_newObj]
 .obtain⟨rfl,rfl⟩:=e;simp[VR]at rx;obtain⟨p1,p2⟩:=r.new (.mapIter none 0 #[] 0) (.mapIter none 0 [] 0) 0 0 ⟨rfl,none,rfl,rfl⟩;refine⟨_,.pointer (some ⟨w.heap.size,0,none⟩),_,?_,⟨_,aQ.add_self _ _ _,rfl⟩,p1,p2⟩;simp_all[Instr.range,Sem.run_bind,R1,Result.andThen_ok,Sem.run_pure,run_newObj]
 .rename_i kt et b ht;split at e
  .rename_i es c hg;obtain⟨rfl,rfl⟩:=e;obtain⟨L,hL,rfl⟩:=rx;obtain⟨E,h1,h2⟩:=r.map hg hL;have hle:Le O (O.add h.next ⟨w.heap.size,0,0⟩):=by
    intro b' M hb';simp[aQ.add];by_cases e:b'=h.next
    .subst e;rw[r.fresh _ (i6 _)]at hb';cases hb'
    grind
   obtain⟨p1,p2⟩:=r.new (.mapIter (some L.blk) c #[] c) (.mapIter (some b) c [] c) 0 0 ⟨rfl,some L.blk,rfl,L,hle _ _ hL,rfl⟩;refine⟨_,.pointer (some ⟨w.heap.size,0,none⟩),_,?_,⟨_,aQ.add_self _ _ _,rfl⟩,p1,p2⟩;simp only[Instr.range,Sem.run_bind,R1 ht,Result.andThen_ok,Sem.run_pure,run_newObj,U7 h1];rfl
  .rename_i d ks vs l hg;obtain⟨rfl,rfl⟩:=e;obtain⟨L,hL,rfl⟩:=rx;obtain⟨E,c,h1,h2,h3⟩:=r.blk b _ L hg hL;have hbn:b≠h.next:=by rintro rfl;rw[r.fresh _ (i6 _)]at hL;cases hL
   have hle:Le O (O.add h.next ⟨w.heap.size,0,c⟩):=by
    intro b' M hb';simp[aQ.add];by_cases e:b'=h.next
    .subst e;rw[r.fresh _ (i6 _)]at hb';cases hb'
    grind
   obtain⟨p1,p2⟩:=r.new (.mapIter (some L.blk) c #[] c) (.mit b) 0 c ⟨rfl,L,hle _ _ hL,rfl⟩;have hg2:(h.new (.mit b)).get b=some (.marr d ks vs l):=by simp_all[Heap.get_new,b9]
   have hlim:=Heap.get_lim _ _ _ hg;have p3:=p1.retell (y:= .mrg h.next d ks vs l) (h2:=(h.new (.mit b)).put b (some (.mrg h.next d ks vs l))) hg2 (.inr rfl) (λM hM hbr=>by
    rw[hle _ _ hL,j0]at hM;subst hM;obtain⟨E',c',q1,q2,q3⟩:=hbr;have:(w.alloc (.mapIter (some L.blk) c #[] c)).heap[L.blk]? =some (.map E c):=by grind[RowKit.Below.heap_alloc]
    rw[this]at q1;cases q1;exact⟨E,c,_,this,aQ.add_self _ _ _,rfl,q2,q3⟩) rfl rfl (λz=>by rw[Heap.get_put,e8 hlim])
   refine⟨_,.pointer (some ⟨w.heap.size,0,none⟩),_,?_,⟨_,aQ.add_self _ _ _,rfl⟩,p3,⟨by simp,p2.ext,λb' hb' hn=> ?_,rfl⟩⟩
   .simp only[Instr.range,Sem.run_bind,R1 ht,Result.andThen_ok,Sem.run_pure,run_newObj,U7 h1];rfl
   .have:b'≠b:=by grind
    rw[Heap.get_put,b9 this];exact p2.unm b' hb' hn
  .cases e
 .cases e
theorem HR.iter{b since last:Nat}{m:Option Nat}{seen:List Nat}{L:Loc}(r:HR O I K w0 h w)(hg:h.get b=some (.mapIter m since seen last))(hb:O b=some L):
 L.off=0/\ ∃m',w.heap[L.blk]? =some (.mapIter m' since seen.toArray last)/\IR O m m':=r.blk b _ L hg hb
theorem Nr{r since last:Nat}{m:Option Nat}{seen:Array Nat}(hb:w.heap[r]? =some (.mapIter m since seen last)):(getObj r).run P w= .ok (.mapIter m since seen last) w:=by simp[getObj,Sem.run,hb]
theorem bw6{r since last:Nat}{m:Option Nat}{seen:Array Nat}(o:Obj)(hb:w.heap[r]? =some (.mapIter m since seen last)):(setObj r o).run P w= .ok () (rY w r o):=by grind[setObj,Sem.run,rY]
theorem ERs.filter{es:List Ent}{m:List MapEntry}(r:ERs O I es m)(p:Nat->Bool):ERs O I (es.filter λe=>p e.born) (m.filter λe=>p e.born):=by
 induction r with
 |nil=>exact .nil
 | @cons e es k v m a b r ih=>
   simp[x7];cases hp:p e.born with
   |true=>exact .cons a b ih
   |false=>exact ih
theorem ERs.all{es:List Ent}{m:List MapEntry}(r:ERs O I es m)(p:Nat->Bool):m.all (λe=>p e.born)=es.all (λe=>p e.born):=by
 induction r with
 |nil=>rfl
 |cons _ _ _ ih=>simp[ih]
theorem ERs.any{es:List Ent}{m:List MapEntry}(r:ERs O I es m)(p:Nat->Bool):m.any (λe=>p e.born)=es.any (λe=>p e.born):=by
 induction r with
 |nil=>rfl
 |cons _ _ _ ih=>simp[ih]
theorem ERs.get{es:List Ent}{m:List MapEntry}(r:ERs O I es m): ∀(i:Nat) {x:MapEntry},m[i]? =some x-> ∃e,es[i]? =some e/\VR O I e.key x.key/\VR O I e.val x.val/\x.born=e.born:=by
 induction r with
 |nil=>grind
 | @cons e es k v m a b r ih=>
   grind
def MX(P:Program)(O:aQ)(I:Opq)(K:Nat->Prop)(w0 w:World)(h:Heap)(m:Sem Value):Res->Prop
 | .val a h'=>Ok P O I K w0 w h m a h'
 | .choice l=> ∃x∈l,Ok P O I K w0 w h m x.1 x.2
 | .enter _ _=>False
 | .need _ _ _=>False
 | .cho _ _ _ _=>False
 | .yield _ _=>False
 | .defer _=>False
 | .bad=>True
theorem cz5{ty:TypeId}{b:Nat}{L:Loc}(r:HR O I K w0 h w)(hL:O b=some L):MX P O I K w0 w h (Instr.next (.pointer (some ⟨L.blk,L.off+0,none⟩)) true ty) (VP b h (h.get b)):=by
 trivial
theorem cz6{ty:TypeId}{it:AV}{vi:Value}{isS:Bool}(r:HR O I K w0 h w)(ri:VR O I it vi):MX P O I K w0 w h (Instr.next vi isS ty) (zD it isS h):=by
 unfold zD;split
 .simp[VR]at ri;grind[cz5]
 .rename_i b;obtain⟨L,hL,rfl⟩:=ri;split
  .rename_i since seen last hg;obtain⟨h0,m',h1,h2⟩:=r.iter hg hL;subst h2;refine⟨O,.tuple #[.bool false],w,?_,⟨_,rfl,.one rfl⟩,r,.refl _ _⟩;simp[h0,Nat.add_zero,Instr.next,Sem.run_bind,Nr h1,Result.andThen_ok,Sem.run_pure]
  .rename_i m since seen last hg;obtain⟨h0,m',h1,h2⟩:=r.iter hg hL;obtain⟨Lm,hLm,rfl⟩:=h2;split
   .rename_i es c hgm;obtain⟨E,g1,g2⟩:=r.map hgm hLm;cases hc:(Nat.ble h.wm b&& !(!seen.isEmpty&& !es.isEmpty&&es.all (λe=>Nat.ble last e.born))&& !((nY es seen).any (λe=>Nat.ble since e.born)))with
    |false=>trivial
    |true=>
     obtain⟨hc,c3⟩:=Q8 hc;obtain⟨c1,c2⟩:=Q8 hc;rw[R5]at c1;have hleft:=g2.filter (λn=> !(seen.contains n));have hfil:(E.filter λe=> !(seen.toArray.contains e.born)).toList=E.toList.filter λe=> !(seen.contains e.born):=by simp
     have hguard:(!seen.toArray.isEmpty&& !E.isEmpty&&E.all (λx=>decide (x.born>=last)))=false:=by
      have h3:=g2.all (λn=>Nat.ble last n);have h4:E.all (λx=>decide (x.born>=last))=es.all (λe=>Nat.ble last e.born):=by
       rw[<-h3,<-Array.all_toList];congr 1;funext x;cases hh:Nat.ble last x.born with
       |true=>simpa using hh
       |false=>simp;rcases k5 x.born last with h5|h5;exact h5;rw[R5.2 h5]at hh;cases hh
      have h5:E.isEmpty=es.isEmpty:=by
       have:=g2.length;cases es with
       |nil=>simp at this;subst this;rfl
       |cons=>simp;intro hh;subst hh;simp at this
      grind
     have hold: ∀x∈(E.filter λe=> !(seen.toArray.contains e.born)).toList,x.born<since:=by
      have h3:=hleft.any (λn=>Nat.ble since n);grind[List.filter,Nat.ble,nY,List.any_eq_false,Nat.lt_or_ge,absurd,R5]
     generalize hEl:(E.filter λe=> !(seen.toArray.contains e.born))=left at hfil hold;have fp:left.filter (λx=>decide (x.born>=since))= #[]:=by
      grind[Array.filter_eq_empty_iff]
     have holdE:left.filter (λx=>decide (x.born<since))=left:=by
      simp_all
     rw[<-hfil]at hleft;have hrun0: ∀(v:Value) (w':World),(do
      let candidates:=(if left.isEmpty then #[none]else #[])++left.map some
      match candidates[<-choose (.mapNext candidates.size)]? with
      |some (some e)=>
       setObj L.blk (.mapIter (some Lm.blk) since (seen.toArray.push e.born) c)
       pure (.tuple #[.bool true,e.key,e.val])
      |some none=>pure (.tuple #[.bool false])
      |none=>stuck "Next: no such candidate" :Sem Value).run P w= .ok v w'->
      (Instr.next (.pointer (some ⟨L.blk,L.off+0,none⟩)) false ty).run P w= .ok v w':=by
      intro v w' hv;simp only[h0,Nat.add_zero,Instr.next,Sem.run_bind,Nr h1,Result.andThen_ok,U7 g1,hguard,n5,if_false,hEl,fp,holdE,Array.append_empty];simp_all;exact hv
     by_cases hne:left= #[]
     .subst hne;have hl0:nY es seen=[]:=by
       have:=hleft.length;grind[List.eq_nil_of_length_eq_zero,nY]
      rw[hl0];refine⟨O,.tuple #[.bool false],w,hrun0 _ _ ?_,⟨_,rfl,.one rfl⟩,r,.refl _ _⟩;simp[Question.forced]
     .have hpos:0<left.size:=Array.size_pos_iff.2 hne;have key: ∀(i:Nat) (w1:World),i<left.size->HR O I K w0 h w1->w1.heap=w.heap-> ∃x∈(nY es seen).map (λe=>((AV.tup [.bool true,e.key,e.val],h.put b (some (.mapIter (some m) since (seen++[e.born]) c))):AV×Heap)),
       ∃v w',(match left[i]? with
        |some e=>(do
         setObj L.blk (.mapIter (some Lm.blk) since (seen.toArray.push e.born) c)
         pure (.tuple #[.bool true,e.key,e.val]):Sem Value).run P w1
        |none=> .ok v w')= .ok v w'/\VR O I x.1 v/\HR O I K w0 x.2 w'/\St h O x.2 O:=by
       intro i w1 hi r1 hw1;have hx:left.toList[i]? =some left[i]:=by simp[hi]
       obtain⟨e,e1,e2,e3,e4⟩:=hleft.get i hx;refine⟨_,j8.2 ⟨e,F7 e1,rfl⟩,?_⟩;obtain⟨p1,p2⟩:=r1.set1 b _ (.mapIter (some m) since (seen++[e.born]) c) L (.mapIter (some Lm.blk) since (seen.toArray.push left[i].born) c) hg hL c1
        ⟨h0,some Lm.blk,by rw[e4];simp,Lm,hLm,rfl⟩
       refine⟨.tuple #[.bool true,left[i].key,left[i].val],_,?_,⟨_,rfl,.cons rfl (.cons e2 (.one e3))⟩,p1,p2⟩;have h1':w1.heap[L.blk]? =some (.mapIter (some Lm.blk) since seen.toArray last):=by rw[hw1];exact h1
       simp[y7 hi,Sem.run_bind,bw6 _ h1',Result.andThen_ok,Sem.run_pure]
      have hE:left.isEmpty=false:=by simpa using hne
      have hcand:((if left.isEmpty then #[none]else #[])++left.map some:Array (Option MapEntry))=left.map some:=by rw[hE];simp
      have hsz:(left.map some).size=left.size:=by simp
      have hne2:nY es seen≠[]:=by
       intro hh;have:=hleft.length;rw[show(es.filter λe=> !(seen.contains e.born))=nY es seen from rfl,hh]at this;simp at this;exact hne this
      have hres:MX P O I K w0 w h (Instr.next (.pointer (some ⟨L.blk,L.off+0,none⟩)) false ty) (.choice ((nY es seen).map λe=>(.tup [.bool true,e.key,e.val],h.put b (some (.mapIter (some m) since (seen++[e.born]) c))))):=by
       by_cases hf:(Question.mapNext left.size).forced=true
       .obtain⟨x,hx,v,w',q1,q2,q3,q4⟩:=key 0 w hpos r rfl;refine⟨x,hx,O,v,w',hrun0 v w' ?_,q2,q3,q4⟩;simp only[hcand,hsz,Sem.run_bind,run_choose,hf,if_true,Result.andThen_ok];simp only[y7 hpos]at q1;simp only[Array.getElem?_map,y7 hpos,Option.map_some];exact q1
       .have hlt:(Question.mapNext left.size).cut (w.tape w.drawn (.mapNext left.size))<left.size:=Nat.mod_lt _ hpos;obtain⟨x,hx,v,w',q1,q2,q3,q4⟩:=key _ w.drew hlt r.drew rfl;refine⟨x,hx,O,v,w',hrun0 v w' ?_,q2,q3,q4⟩;simp only[hcand,hsz,Sem.run_bind,run_choose,hf,n5,if_false,Result.andThen_ok];simp only[y7 hlt]at q1;simp only[Array.getElem?_map,y7 hlt,Option.map_some];exact q1
      grind[XC,absurd]
   .trivial
  .trivial
 .trivial
end Go.Ev
namespace Go.Ev
open Go
variable{P:Program}{O:aQ}{I:Opq}{K:Nat->Prop}{w0 w:World}{h h':Heap}
theorem HS{e:TypeId}(h:rL P e=true):P.underlying e=some (.int .u8):=by
 grind[rL]
theorem LN{b:Nat}{C:Array Value}{e:TypeId}{f:Nat×Nat}(q:w.heap[b]? =some (.cells C e f)):w.shape? b=some (e,C.size):=by
 grind[World.shape?]
theorem bw7{s d t b o:Nat}{a:AV}{vx:Value}(hs:P.underlying s=some (.pointer t))(hd:P.underlying d=some .unsafePointer)(r:HR O I K w0 h w)(e:Ii P t b o h=some (a,h'))(rx:VR O I (.ptr b o) vx):
 Ok P O I K w0 w h (convert s d vx) a h':=by
 unfold Ii at e;split at e
 .rename_i n el fz cs hsz hg;replace e:=Q9 e;obtain⟨hc,e⟩:=e;rw[T4]at hc;obtain⟨rfl,rfl⟩:=e;have rx':=rx;obtain⟨L,hL,rfl⟩:=rx;obtain⟨C,lo,hi,vs,q1,q2,q3,q4,q5,q6,q7⟩:=r.cells hg hL;obtain⟨i,hi',hsize⟩:=HV hsz;exact⟨O,_,w,Lib.run_to_unsafe w ⟨L.blk,L.off+o,none⟩ hs hd hi' (by omega) (LN q1) (show L.off+o<C.size by omega),rx',r,.refl _ _⟩
 .cases e
theorem bw8{e:TypeId}(hc:P.cellsOf e≠0)(count n:Nat)(hn:n<=count):liesAt P P.depth e count 0 e n=true:=by
 have hd:P.depth=(2*(P.types.size+Made.depth)+1)+1:=rfl;rw[hd];simp[liesAt,p8];rw[hd];simp[rowAt,hc,hn,sameLayout]
theorem bw9{s d t b o:Nat}{a:AV}{vx:Value}(hfx: ∀t,I.fix t=cA P t)(hs:P.underlying s=some .unsafePointer)(hd:P.underlying d=some (.pointer t))(r:HR O I K w0 h w)(e:Ip P t b o h=some (a,h'))(rx:VR O I (.ptr b o) vx):
 Ok P O I K w0 w h (convert s d vx) a h':=by
 unfold Ip at e;split at e
 .rename_i n el fz cs hsz hg;replace e:=Q9 e;obtain⟨hc,e⟩:=e;obtain⟨hc,c3⟩:=Q8 hc;obtain⟨c1,c2⟩:=Q8 hc;rw[R2]at c1;subst c1;rw[R5]at c2;obtain⟨rfl,rfl⟩:=e;have rx':=rx;obtain⟨L,hL,rfl⟩:=rx;obtain⟨C,lo,hi,vs,q1,q2,q3,q4,q5,q6,q7⟩:=r.cells hg hL;obtain⟨i,hi',hsize⟩:=HV hsz;have h0:L.off=0:=r.head hg hL (by rw[hfx];exact c3);have hcell:P.cellsOf el=n+1:=by simp[Program.cellsOf,hi',hsize]
  refine⟨O,_,w,Lib.run_from_unsafe w ⟨L.blk,L.off+0,none⟩ hs hd hi' (LN q1) ?_,rx',r,.refl _ _⟩;grind[liesAt,bw8,Nat.le_div_iff_mul_le]
 .cases e
theorem Ql: ∀{cs:List AV} {l:List UInt8} {us:List Value},qV cs=some l->aT O I cs us->us=l.map (λb=>Value.int .u8 b.toNat)
 | [],l,us,e,r=>by
   simp[qV,j0]at e;subst e;exact r
 |c::cs,l,us,e,⟨u,ur,hu,r1,r2⟩=>by
  unfold qV at e;split at e
  .grind
  .rename_i n r heq;obtain⟨rfl,rfl⟩:=K3 heq;split at e
   .rename_i m hm;obtain⟨hn,e⟩:=Q9 e;rw[T4]at hn;have:=Ql hm r2;simp[VR]at r1;grind[UInt8.ofNat,UInt8.toNat_ofNat_of_lt']
   .cases e
  .cases e
theorem c97{s d e:TypeId}{x:AV}{vx:Value}{l:List UInt8}(hs:P.underlying s=some (.slice e))(hd:P.underlying d=some .string)(r:HR O I K w0 h w)(he:cN1 P e x h=some l)(rx:VR O I x vx):
 (convert s d vx).run P w= .ok (.string ⟨l.toArray⟩) w:=by
 obtain⟨h8,he⟩:=Q9 he;have h8:=HS h8;have nil: ∀(p:Option Addr) (c:Nat),(convert s d (.slice p 0 c)).run P w= .ok (.string ⟨([]:List UInt8).toArray⟩) w:=by
  intro p c;cases p with
  |none=>rw[run_convert_bytes_nil w s e hs h8 0 c d hd];rfl
  |some a=>exact run_convert_bytes_back w s d e a c [] hs h8 hd (λj hj=>by simp at hj)
 have row: ∀(b o n c:Nat) (L:Loc),O b=some L->(match h.get b with
  |some (.cells _ _ cs)=>bif Nat.ble (o+n*1) cs.length&&((cs.drop o).take (n*1)).all AV.one then some ((cs.drop o).take (n*1))else none
  |_=>none).bind qV=some l->(convert s d (.slice (some ⟨L.blk,L.off+o,none⟩) n c)).run P w= .ok (.string ⟨l.toArray⟩) w:=by
  intro b o n c L hL he;simp[l6]at he;obtain⟨cs',h1,h2⟩:=he;split at h1
  .rename_i el fz cs hg;obtain⟨hc,h1⟩:=Q9 h1;obtain⟨hc,_⟩:=Q8 hc;rw[R5]at hc;simp only[j0]at h1;subst h1;obtain⟨us,u1,u2,u3⟩:=uQ r hg hL hc;have hu:=Ql h2 u1;have hl:l.length=n:=by have:=congrArg List.length hu;simp at this;omega
   rw[<-hl];refine run_convert_bytes_back w s d e _ c l hs h8 hd (λj hj=> ?_);rw[dQ];refine u3 j _ ?_;rw[hu];simp[k8 hj]
  grind
 cases x with
 |nils=>
  grind[Option.some.injEq,VR]
 |es b o sz=>
  simp[VR]at rx;grind
 |es0=>
  simp[VR]at rx;grind
 |sl b o n c=>
  obtain⟨L,hL,rfl⟩:=rx;exact row b o n c L hL he
 |us b o n sz=>
  obtain⟨L,c,hL,_,rfl⟩:=rx;exact row b o n c L hL he
 |_=>cases he
theorem c98{s d e:TypeId}{l:List UInt8}{a:AV}{vx:Value}(hs:P.underlying s=some .string)(hd:P.underlying d=some (.slice e))(r:HR O I K w0 h w)(he:cN0 P e l h=some (a,h'))(rx:VR O I (.str l) vx):
 Ok P O I K w0 w h (convert s d vx) a h':=by
 obtain⟨hc,he⟩:=Q9 he;obtain⟨c1,c2⟩:=Q8 hc;have h8:=HS c1;obtain⟨rfl,rfl⟩:=he;subst rx;have hrun:=run_bytes_of_string (P:=P) w s d e ⟨l.toArray⟩ hs hd h8;have hsz:(⟨l.toArray⟩:ByteArray).size=l.length:=by rfl
 rw[hsz]at hrun;have hge:=grownCap_ge w l.length 0 e;have hbs:(bytesRow ⟨l.toArray⟩ (grownCap w l.length 0 e)).size=grownCap w l.length 0 e:=by
  grind[bytesRow,Array.size_append,Array.size_map,Array.size_replicate,List.size_toArray]
 rw[hbs]at hrun;obtain⟨p1,p2⟩:=r.drew.new (.cells (bytesRow ⟨l.toArray⟩ (grownCap w l.length 0 e)) e (grownCap w l.length 0 e,grownCap w l.length 0 e+1)) (.cells e 0 (l.map λb=> .int .u8 b.toNat)) 0 (grownCap w l.length 0 e) (by
  refine⟨_,_,_,l.map (λb=>Value.int .u8 b.toNat),rfl,by rw[hbs];show 0+grownCap w l.length 0 e<=grownCap w l.length 0 e;omega,by simpa using hge,k6.2 λx hx=>by obtain⟨_,_,rfl⟩:=j8.1 hx;rfl,LS l,λi hi=> ?_,λi _ hi=>by have hi:i<grownCap w l.length 0 e:=hi;show¬(_<=0+i/\0+i<_);omega,λ_=>rfl⟩;simp_all[o9,l7,bytesRow,Array.getElem?_append_left])
 exact⟨_,_,_,hrun,⟨⟨w.heap.size,0,grownCap w l.length 0 e⟩,grownCap w l.length 0 e,aQ.add_self _ _ _,by simp,by simp⟩,p1,p2⟩
theorem HR.ruin{w':World}(r:HR O I K w0 h w)(b:Nat)(x0:Blk)(L:Loc)(hg:h.get b=some x0)(hb:O b=some L)(hwm:h.wm<=b)
 (hother: ∀i,i≠L.blk->w'.heap[i]? =w.heap[i]?) (hsz:w'.heap.size=w.heap.size) (hos:w'.os=w.os) (htp:w'.tape=w.tape) (hout:w'.output=w.output) (hdr:w'.drawn=w.drawn):
 HR O I K w0 (h.put b none) w'/\St h O (h.put b none) O:=by
 obtain⟨r1,s1⟩:=r.drop b;have hne: ∀b' y,(h.put b none).get b'=some y->b'≠b/\h.get b'=some y:=by
  simp_all[Heap.get_put,e8,b9]
 refine⟨⟨λb' y L' h1 h2=> ?_,r1.sep,r1.fresh,r1.fget,λb' L' h2=>by rw[hsz];exact r1.lt b' L' h2,r1.kin,λi hi=> ?_,r1.free,by rw[hsz];exact r1.size,hos.trans r.os,htp.trans r.tape,hout.trans r.out,by rw[hdr];exact r.dr⟩,s1⟩
 .obtain⟨g1,g2⟩:=hne b' y h1;rw[hother _ (r.sep b' b y x0 L' L g2 hg h2 hb g1 (.inr (.inl hwm)))];exact r.blk b' y L' g2 h2
 .rw[hother i (λe=>r.free b x0 L hg hwm hb (e▸hi))];exact r.keep i hi
theorem av0(w:World)(ts:Array TypeId)(pt ty e:TypeId)(k:IntKind)(h0:ts[0]? =some pt)(hp:P.underlying pt=some (.pointer e))(hc:P.cellsOf e=1)(g off cells:Nat)(hsh:w.shape? g=some (e,cells))(l:List UInt8)(hl0:l≠[])(hn:off+l.length<=cells)(h63:l.length<=9223372036854775807)
 (hcell: ∀j x,l[j]? =some x->w.cell? ((⟨g,off,none⟩:Addr).add j)=some (.int .u8 x.toNat)):
 (Builtin.unsafeString_ ts ty #[.pointer (some ⟨g,off,none⟩),.int k l.length]).run P w= .ok (.string ⟨l.toArray⟩) (w.freeze ⟨g,off,none⟩ l.length):=by
 have hl:l.length≠0:=by grind
 have hlb:=Lib.run_loadBytes (P:=P) w l ⟨g,off,none⟩ .empty hcell;have hlies:liesAt P P.depth e (cells/P.cellsOf e) off e l.length=true:=by
  have hd:P.depth=(2*(P.types.size+Made.depth)+1)+1:=rfl;rw[hd,hc];simp only[liesAt,p8];left;rw[hd];simp[rowAt,hc,sameLayout,hn,Nat.mod_one]
 have h63': ¬(9223372036854775807:Int)<(l.length:Int):=by omega
 have hdef:Builtin.unsafeString_ ts ty #[.pointer (some ⟨g,off,none⟩),.int k l.length]=
  (do
   let n <-asInt (.int k l.length)
   let some pt:=ts[0]? |stuck "unsafe.String: no argument types"
   if n<0 then runtimePanic (.error "unsafe.String: len out of range")
   if n>IntKind.i64.max then unsupported (.unsafePointer "String: a length above the largest int")
   if n=0 then pure (.string .empty)
   else if<-variablesAt ⟨g,off,none⟩ (<-elemOf pt) n.toNat then do
    let s <-loadBytes ⟨g,off,none⟩ .empty n.toNat
    freeze ⟨g,off,none⟩ n.toNat
    pure (.string s)
   else unsupported (.unsafePointer "String: not so many bytes at ptr")):=rfl
 rw[hdef];have hmax:IntKind.i64.max=9223372036854775807:=rfl;have hneg: ¬(l.length:Int)<0:=by omega
 simp[asInt,asIntOf,hmax,h63',hneg,hl,variablesAt,hsh,elemOf,run_underlying hp,hlies,hlb,h0]
theorem a90(w:World)(ts:Array TypeId)(pt ty:TypeId)(k:IntKind)(h0:ts[0]? =some pt)(p:Option Addr):(Builtin.unsafeString_ ts ty #[.pointer p,.int k 0]).run P w= .ok (.string ⟨([]:List UInt8).toArray⟩) w:=by
 have hmax:IntKind.i64.max=9223372036854775807:=rfl;cases p with
 |none=>
  have hdef:Builtin.unsafeString_ ts ty #[.pointer none,.int k 0]=
   (do
    let n <-asInt (.int k 0)
    let some pt:=ts[0]? |stuck "unsafe.String: no argument types"
    if n<0 then runtimePanic (.error "unsafe.String: len out of range")
    if n>IntKind.i64.max then unsupported (.unsafePointer "String: a length above the largest int")
    if n=0 then pure (.string .empty)
    else runtimePanic (.error "unsafe.String: ptr is nil and len is not zero")):=rfl
  rw[hdef];simp[asInt,asIntOf,hmax,h0];rfl
 |some a=>
  have hdef:Builtin.unsafeString_ ts ty #[.pointer (some a),.int k 0]=
   (do
    let n <-asInt (.int k 0)
    let some pt:=ts[0]? |stuck "unsafe.String: no argument types"
    if n<0 then runtimePanic (.error "unsafe.String: len out of range")
    if n>IntKind.i64.max then unsupported (.unsafePointer "String: a length above the largest int")
    if n=0 then pure (.string .empty)
    else if<-variablesAt a (<-elemOf pt) n.toNat then do
     let s <-loadBytes a .empty n.toNat
     freeze a n.toNat
     pure (.string s)
    else unsupported (.unsafePointer "String: not so many bytes at ptr")):=rfl
  rw[hdef];simp[asInt,asIntOf,hmax,h0];rfl
theorem c99{ts:Array TypeId}{ty:TypeId}{b o n:Nat}{k:IntKind}{a:AV}{vx:Value}(hn:0<n)(r:HR O I K w0 h w)(e:QD P ts b o n h=some (a,h'))(rx:VR O I (.ptr b o) vx):
 Ok P O I K w0 w h (Builtin.unsafeString_ ts ty #[vx,.int k n]) a h':=by
 unfold QD at e;split at e
 .rename_i el fz cs pt hg hp;replace e:=Q9 e;obtain⟨hc,e⟩:=e;obtain⟨hc,c4⟩:=Q8 hc;obtain⟨hc,c3⟩:=Q8 hc;obtain⟨c1,c2⟩:=Q8 hc;rw[R5]at c1 c3 c4;rw[R2]at c2;subst c2;simp[l6]at hp;obtain⟨t0,h0,hp⟩:=hp;split at e
  .rename_i l hsz hl;obtain⟨rfl,rfl⟩:=e;obtain⟨L,hL,rfl⟩:=rx;obtain⟨us,u1,u2,u3⟩:=uQ r hg hL c3;have hu:=Ql hl u1;have hll:l.length=n:=by grind
   obtain⟨C,lo,hi,vs,q1,q2,q3,q4,q5,q6,q7⟩:=r.cells hg hL;obtain⟨i,hi',hsize⟩:=HV hsz;have hcell:P.cellsOf el=1:=by grind[Program.cellsOf]
   have c4':n<=1000000:=c4;have hrun:=av0 (P:=P) w ts t0 ty el k h0 hp hcell L.blk (L.off+o) C.size (LN q1) l (by grind) (by omega) (by omega) (λj x hj=>by
    grind[dQ])
   rw[hll]at hrun;obtain⟨p1,p2⟩:=r.ruin (w':=w.freeze ⟨L.blk,L.off+o,none⟩ n) b _ L hg hL c1 (λi hi=>by
    unfold World.freeze;grind) (by grind[World.freeze]) (by grind[World.freeze]) (by grind[World.freeze]) (by grind[World.freeze]) (by grind[World.freeze])
   exact⟨O,_,_,hrun,rfl,p1,p2⟩
  .cases e
 .cases e
theorem bV9{ts:Array TypeId}{ty:TypeId}{x a:AV}{vx:Value}(r:HR O I K w0 h w)(e:KD x h=some (a,h'))(rx:VR O I x vx):Ok P O I K w0 w h (Builtin.unsafeSliceData_ ts ty #[vx]) a h':=by
 unfold KD at e;split at e
 .obtain⟨rfl,rfl⟩:=e;obtain⟨L,hL,rfl⟩:=rx;exact⟨O,_,w,Lib.run_unsafeSliceData_row w ts ty _ _ _ (by omega),⟨L,hL,rfl⟩,r,.refl _ _⟩
 .rename_i b o n sz;replace e:=Q9 e;obtain⟨hc,e⟩:=e;obtain⟨c1,c2⟩:=Q8 hc;rw[T4]at c1;obtain⟨rfl,rfl⟩:=e;obtain⟨b',n',c,hv,hle,hm⟩:=YP c1 r c2 rx;obtain⟨L,cap,hL,hx,rfl⟩:=rx;obtain⟨rfl,rfl,rfl⟩:some (⟨L.blk,L.off+o,none⟩:Addr)=b'/\n+1=n'/\cap=c:=by grind
  exact⟨O,_,w,Lib.run_unsafeSliceData_row w ts ty _ _ _ (by omega),⟨L,hL,rfl⟩,r,.refl _ _⟩
 .obtain⟨rfl,rfl⟩:=e;subst rx;exact⟨O,_,w,Lib.run_unsafeSliceData_nil w ts ty 0 0,rfl,r,.refl _ _⟩
 .cases e
theorem HW{n:Int}{m:Nat}(h:gb n=some m):n=m:=by
 cases n with
 |ofNat k=>grind[gb,Option.some.injEq]
 |negSucc k=>cases h
theorem cY9{ts:Array TypeId}{ty:TypeId}{k:IntKind}{n:Int}{p a:AV}{vp:Value}(r:HR O I K w0 h w)(e:Mn P ts p (gb n) h=some (a,h'))(rp:VR O I p vp):Ok P O I K w0 w h (Builtin.unsafeString_ ts ty #[vp,.int k n]) a h':=by
 unfold Mn at e;split at e
 .rename_i t0 h0 hn;have hn:n=0:=HW hn;subst hn;split at e
  .obtain⟨rfl,rfl⟩:=e;subst rp;exact⟨O,_,w,a90 w ts t0 ty k h0 none,rfl,r,.refl _ _⟩
  .obtain⟨rfl,rfl⟩:=e;obtain⟨L,_,rfl⟩:=rp;exact⟨O,_,w,a90 w ts t0 ty k h0 _,rfl,r,.refl _ _⟩
  .cases e
 .rename_i t0 m h0 hn;have hn:=HW hn;subst hn;split at e
  .exact c99 (Nat.succ_pos m) r e rp
  .cases e
 .cases e
theorem YZ{c:Nat}(hc:c<256)(x:UInt8):(x==c.toUInt8)=Nat.beq x.toNat c:=by
 have h:c.toUInt8.toNat=c:=UInt8.toNat_ofNat_of_lt' (by simpa using hc);rw[B9,beq_iff_eq,R2];grind[UInt8.toNat_inj]
theorem Vu{c:Nat}(hc:c<256): ∀(l:List UInt8) (i:Nat),(∀k,xO c l i=some k->i<=k/\Lib.indexByte l c.toUInt8=(k:Int)-i)/\(xO c l i=none->Lib.indexByte l c.toUInt8= -1)
 | [],i=>⟨λk h=>(by cases h),λ_=>rfl⟩
 |x::r,i=>by
  obtain⟨h1,h2⟩:=Vu hc r (i+1);simp only[xO,Lib.indexByte,YZ hc x];grind
theorem ca1{c:Nat}(hc:c<256)(l:List UInt8):Jc c l=Lib.indexByte l c.toUInt8:=by
 grind[Vu,Jc,xO]
theorem Yr{c:Nat}(hc:c<256): ∀(l:List UInt8),wF c l=Lib.countByte l c.toUInt8
 | []=>rfl
 |x::r=>by
  simp only[wF,Lib.countByte,List.count_cons];rw[YZ hc x,Yr hc r];grind[Lib.countByte,Nat.beq]
end Go.Ev
namespace Go.Ev
open Go
variable{P:Program}{O:aQ}{I:Opq}{K:Nat->Prop}{w0 w:World}{h h':Heap}
theorem WZ: ∀{l:List Nat} {s:Nat},FY l=some s->l.toArray.back? =some s
 | [],s,e=>by cases e
 | [x],s,e=>by grind[FY,Option.some.injEq]
 |x::y::r,s,e=>by
  have ih:=WZ (l:=y::r) (s:=s) e;grind
theorem ca2{it a:AV}{vi:Value}(r:HR O I K w0 h w)(e:Jb it h=some a)(ri:VR O I it vi): ∃v,VR O I a v/\(Instr.entry vi).run P w= .ok v w:=by
 unfold Jb at e;split at e
 .rename_i b;simp only[VR]at ri;obtain⟨L,hL,rfl⟩:=ri;split at e
  .rename_i m since seen stepped hg;obtain⟨h0,m',h1,h2⟩:=r.iter hg hL;simp only[IR]at h2;obtain⟨Lm,hLm,rfl⟩:=h2;split at e
   .rename_i s es c hs hgm;replace e:=Q9 e;obtain⟨hc,e⟩:=e;rw[R2]at hc;subst hc;simp only[o8]at e;obtain⟨⟨i,en⟩,hf,rfl⟩:=e;obtain⟨E,g1,g2⟩:=r.map hgm hLm;obtain⟨j,k,v,e1,e2,e3,e4,e5,e6,e7⟩:=aQ2 g2 0 hf;obtain⟨-,q1⟩:=e7 (λx=>x.born==s) (λx=>by simp);have q2:E.find? (λx=>x.born==s)=some ⟨k,v,en.born⟩:=by grind
    have hb:=WZ hs;refine⟨.tuple #[k,v],⟨_,rfl,.cons e4 (.one e5)⟩,?_⟩;have hcc:(c !=c)=false:=by simp
    simp only[h0,Nat.add_zero,Instr.entry,Sem.run_bind,Nr h1,Result.andThen_ok,hb,U7 g1,hcc,n5,if_false,Sem.run_pure,q2]
   .cases e
  .cases e
 .cases e
theorem b01{x a:AV}{xt t:TypeId}{ok:Bool}{vx:Value}(e:Ff P x t ok=some a)(rx:VR O I x vx): ∃v,VR O I a v/\ ∀w,(Instr.typeAssert vx xt t ok).run P w= .ok v w:=by
 have fails:Lo P t ok=some a->ok=true/\ ∃z,VR O I a (.tuple #[z,.bool false])/\ ∀w,(zeroValue t).run P w= .ok z w:=by
  intro e;obtain⟨hok,e⟩:=Q9 e;simp at e;obtain⟨z,hz,rfl⟩:=e;obtain⟨zv,z1,z2⟩:=wQ hz;exact⟨hok,zv,⟨_,rfl,.cons (z1 _ _) (.one rfl)⟩,z2⟩
 have holds: ∀(y:AV) (v:Value),VR O I y v->Nn ok y=some a->VR O I a (if ok then .tuple #[v,.bool true]else v):=by
  intro y v hv e;unfold Nn at e;simp at e;subst e;cases ok
  .exact hv
  .exact⟨_,rfl,.cons hv (.one rfl)⟩
 unfold Ff at e;cases hd:P.underlying t with
 |none=>grind
 |some d=>
  rw[hd]at e;cases d with
  |interface m=>cases e
  |_=>
   simp at e;split at e
   .obtain⟨rfl,z,z1,z2⟩:=fails e;subst rx;exact⟨_,z1,λw=>by simp[Instr.typeAssert,Sem.run_bind,R1 hd,Result.andThen_ok,if_true,z2,Sem.run_pure]⟩
   .rename_i ty y;obtain⟨v,rfl,rv⟩:=rx;cases ht:Nat.beq ty t with
    |true=>
     rw[ht]at e;rw[R2]at ht;subst ht;exact⟨_,holds y v rv e,λw=>by simp[Instr.typeAssert,Sem.run_bind,R1 hd,Result.andThen_ok,if_true,Sem.run_pure]⟩
    |false=>
     rw[ht]at e;obtain⟨rfl,z,z1,z2⟩:=fails e;have hne: ¬ty=t:=λhh=>by rw[R2.2 hh]at ht;cases ht
     exact⟨_,z1,λw=>by simp[Instr.typeAssert,Sem.run_bind,R1 hd,Result.andThen_ok,b9 hne,if_true,z2,Sem.run_pure]⟩
   .cases e
theorem cz7{s d:TypeId}{x a:AV}{vx:Value}(hfx: ∀t,I.fix t=cA P t)(r:HR O I K w0 h w)(e:xW P s d x h=some (a,h'))(rx:VR O I x vx):Ok P O I K w0 w h (convert s d vx) a h':=by
 unfold xW at e;split at e
 .rename_i sd k k' n hs hd;obtain⟨rfl,rfl⟩:=e;subst rx;refine⟨O,.int k (k.wrap n),w,?_,by rw[nR];rfl,r,.refl _ _⟩;simp[convert,Sem.run_bind,R1 hs,R1 hd,Result.andThen_ok];rfl
 .obtain⟨rfl,rfl⟩:=e;simp[VR]at rx;refine⟨O,_,w,?_,rfl,r,.refl _ _⟩;simp_all[convert,Sem.run_bind,R1,Result.andThen_ok,Sem.run_pure]
 .rename_i el x hs hd _;simp at e;obtain⟨l,hl,rfl,rfl⟩:=e;exact⟨O,_,w,c97 hs hd r hl rx,rfl,r,.refl _ _⟩
 .grind[bw7]
 .grind[bw9]
 .cases e
theorem cz8{s d:TypeId}{x a:AV}{vx:Value}(r:HR O I K w0 h w)(e:AY P s d x h=some (a,h'))(rx:VR O I x vx):Ok P O I K w0 w h (convert s d vx) a h':=by
 unfold AY at e;grind[c98]
theorem cZ0{ts:Array TypeId}{ty n:Nat}{x:AV}{vx:Value}(r:HR O I K w0 h w)(e:LY P ((ts[0]?).bind P.underlying) x h=some n)(rx:VR O I x vx):
 (Builtin.len_ ts ty #[vx]).run P w= .ok (goInt n) w:=by
 unfold LY at e;split at e
 .rename_i ht;simp[l6]at ht;obtain⟨t,h0,ht⟩:=ht;split at e
  .simp at e;subst e;subst rx;simp[Builtin.len_,h0,R1 ht];rfl
  .cases e
 .rename_i el ht;simp[l6]at ht;obtain⟨t,h0,ht⟩:=ht;cases hi:DA x with
  |true=>grind
  |false=>
   rw[hi]at e;rcases cz0 e rx with⟨b,c,rfl⟩|⟨l,rfl⟩
   .simp[Builtin.len_,h0,R1 ht]
   grind[DA]
 .rename_i kt et ht;simp[l6]at ht;obtain⟨t,h0,ht⟩:=ht;split at e
  .simp at e;subst e;simp_all[VR,Builtin.len_,R1]
  .split at e
   .rename_i b es c hg;simp at e;subst e;obtain⟨L,hL,rfl⟩:=rx;obtain⟨E,h1,h2⟩:=r.map hg hL;have:=h2.length;simp at this;simp[Builtin.len_,h0,R1 ht,U7 h1,this]
   .cases e
  .cases e
 .cases e
theorem QO{ts:Array TypeId}{t ty elem b o n cap:Nat}{a:AV}{L:Loc}(h0:ts[0]? =some t)(ht:P.underlying t=some (.slice elem))(r:HR O I K w0 h w)(e:wY P elem b o n h=some (a,h'))(hL:O b=some L):
 Ok P O I K w0 w h (Builtin.clear_ ts ty #[.slice (some ⟨L.blk,L.off+o,none⟩) n cap]) a h':=by
 unfold wY at e;split at e
 .obtain⟨rfl,rfl⟩:=e;exact⟨O,.tuple #[],w,by simp[Builtin.clear_,h0,R1 ht],⟨_,rfl,rfl⟩,r,.refl _ _⟩
 .rename_i hn;split at e
  .rename_i z hz;obtain⟨hp,e⟩:=Q9 e;rw[T4]at hp;simp only[o8,z8]at e;obtain⟨h1,he,rfl,rfl⟩:=e;obtain⟨zv,hzv,hzr⟩:=rj hz;have rz:aT O I z.cells zv.cells.toList:=VR.cells' (oB hzv) (yY hzv);have hzs:zv.cells.size=z.cells.length:=by have:=rz.length;simpa using this
   obtain⟨p1,p2,p3⟩:=Bb (P:=P) r he hL (ZW rz (by omega) n);refine⟨O,.tuple #[],_,?_,⟨_,rfl,rfl⟩,p2,p3⟩;simp_all[Builtin.clear_,Sem.run_bind,R1,Result.andThen_ok,G9,List.getElem?_cons_zero,Sem.run_pure]
  .cases e
theorem ca3{ts:Array TypeId}{ty:Nat}{x a:AV}{vx:Value}(r:HR O I K w0 h w)(e:MF P ((ts[0]?).bind P.underlying) x h=some (a,h'))(rx:VR O I x vx):Ok P O I K w0 w h (Builtin.clear_ ts ty #[vx]) a h':=by
 unfold MF at e;split at e
 .rename_i elem ht;simp[l6]at ht;obtain⟨t,h0,ht⟩:=ht;split at e
  .obtain⟨rfl,rfl⟩:=e;subst rx;exact⟨O,.tuple #[],w,by simp[Builtin.clear_,h0,R1 ht],⟨_,rfl,rfl⟩,r,.refl _ _⟩
  .simp[VR]at rx;grind[QO]
  .simp[VR]at rx;grind[QO]
  .cases e
 .rename_i kt et ht;simp[l6]at ht;obtain⟨t,h0,ht⟩:=ht;split at e
  .obtain⟨rfl,rfl⟩:=e;subst rx;exact⟨O,.tuple #[],w,by simp[Builtin.clear_,h0,R1 ht],⟨_,rfl,rfl⟩,r,.refl _ _⟩
  .rename_i b;split at e
   .rename_i es c hg;replace e:=Q9 e;obtain⟨hwm,e⟩:=e;rw[R5]at hwm;obtain⟨rfl,rfl⟩:=e;obtain⟨L,hL,rfl⟩:=rx;obtain⟨E,h1,h2⟩:=r.map hg hL;obtain⟨p1,p2⟩:=r.set1 b _ (.map [] c) L (.map #[] c) hg hL hwm ⟨#[],rfl,.nil⟩;refine⟨O,.tuple #[],_,?_,⟨_,rfl,rfl⟩,p1,p2⟩;simp[Builtin.clear_,h0,Sem.run_bind,R1 ht,Result.andThen_ok,G9,List.getElem?_cons_zero,U7 h1,Z0 _ h1,Sem.run_pure]
   .cases e
  .cases e
 .cases e
theorem aT.inv1{a:AV}{us:Array Value}(r:aT O I [a] us.toList): ∃v,us= #[v]/\VR O I a v:=by
 obtain⟨v,vr,e,p,q⟩:=r;rw[show vr=[]from q]at e;grind
theorem aT.inv2{a b:AV}{us:Array Value}(r:aT O I [a,b] us.toList): ∃v u,us= #[v,u]/\VR O I a v/\VR O I b u:=by
 obtain⟨v,vr,e,p,u,ur,e2,q,t⟩:=r;rw[show ur=[]from t]at e2;grind
theorem cZ1{x a:AV}{v:Value}(r:HR O I K w0 h w)(e:Pz x h=some a)(rx:VR O I x v): ∃p n c,v= .slice p n c/\VR O I a (.int .i64 (c:Nat)):=by
 unfold Pz at e;split at e
 .simp at e;subst e;subst rx;exact⟨_,_,_,rfl,rfl⟩
 .simp at e;subst e;obtain⟨p,rfl⟩:=rx;exact⟨_,_,_,rfl,rfl⟩
 .simp at e;subst e;obtain⟨L,_,rfl⟩:=rx;exact⟨_,_,_,rfl,rfl⟩
 .rename_i b o n sz;split at e
  .rename_i el fz cs hg;replace e:=Q9 e;obtain⟨hc,e⟩:=e;obtain⟨h1,h2⟩:=Q8 hc;rw[T4]at h1;simp at e;subst e;obtain⟨L,c,hL,hx,rfl⟩:=rx;obtain⟨C,lo,hi,vs,q1,q2,q3,q4⟩:=r.cells hg hL;refine⟨_,_,_,rfl,(c:Nat),rfl,?_⟩;have:(cs.length-o)/sz<=c:=by
    rw[<-Nat.mul_div_cancel c h1];exact Nat.div_le_div_right (by omega)
   exact Int.ofNat_le.2 this
  .cases e
 .cases e
theorem Oc{b:Builtin}{ts:Array TypeId}{ty:TypeId}{cs:Array Bool}{args:List AV}{us:Array Value}{a:AV}(hfx: ∀t,I.fix t=cA P t)(r:HR O I K w0 h w)(e:Cm P b ts args h=some (a,h'))(ra:aT O I args us.toList):
 ∃ac v w',(builtin b ts ty cs us).run P w= .ok (.value v) w'/\VR ac I a v/\HR ac I K w0 h' w'/\St h O h' ac:=by
 have lift: ∀{m:Sem Value},Ok P O I K w0 w h m a h'-> ∃ac v w',(do pure (.value (<-m)):Sem Next).run P w= .ok (.value v) w'/\VR ac I a v/\HR ac I K w0 h' w'/\St h O h' ac:=by
  intro m ⟨ac,v,w',h1,h2,h3,h4⟩;grind[Sem.run_bind,Result.andThen_ok,Sem.run_pure]
 unfold Cm at e;split at e
 .simp at e;obtain⟨n,hn,rfl,rfl⟩:=e;obtain⟨v,rfl,rv⟩:=ra.inv1;exact lift ⟨O,_,w,cZ0 r hn rv,rfl,r,.refl _ _⟩
 .obtain⟨v,u,rfl,rv,ru⟩:=ra.inv2;exact lift (bV6 hfx r e rv ru)
 .obtain⟨v,u,rfl,rv,ru⟩:=ra.inv2;exact lift (cz1 r e rv ru)
 .obtain⟨v,rfl,rv⟩:=ra.inv1;exact lift (ca3 r e rv)
 .obtain⟨v,u,rfl,rv,ru⟩:=ra.inv2;split at e
  .rename_i t h0;simp only[o8,z8]at e;obtain⟨h1,he,rfl,rfl⟩:=e;obtain⟨w',d1,d2,d3⟩:=bV8 (ty:=ty) h0 r he rv ru;exact lift ⟨O,_,w',d1,⟨_,rfl,rfl⟩,d2,d3⟩
  .cases e
 .obtain⟨v,rfl,rv⟩:=ra.inv1;exact lift (bV9 r e rv)
 .obtain⟨v,u,rfl,rv,ru⟩:=ra.inv2;subst ru;exact lift (cY9 r e rv)
 .obtain⟨v,rfl,rv⟩:=ra.inv1;split at e
  .simp at e;obtain⟨a0,he,rfl,rfl⟩:=e;obtain⟨p,n,c,rfl,rc⟩:=cZ1 r he rv;refine lift ⟨O,.int .i64 (c:Nat),w,?_,rc,r,.refl _ _⟩;cases ht:ts[0]? with
   |none=>grind
   |some t=>
    simp_all[Builtin.cap_,Sem.run_bind,run_underlying,goInt]
  .cases e
 .obtain⟨v,u,rfl,rv,ru⟩:=ra.inv2;subst rv ru;obtain⟨rfl,rfl⟩:=e;rename_i k x k' y;refine lift ⟨O,.int k (if y>x then y else x),w,?_,?_,r,.refl _ _⟩
  .simp[Builtin.max_,Builtin.max2]
  grind[lT,VR]
 .obtain⟨v,u,rfl,rv,ru⟩:=ra.inv2;subst rv ru;obtain⟨rfl,rfl⟩:=e;rename_i k x k' y;refine lift ⟨O,.int k (if y<x then y else x),w,?_,?_,r,.refl _ _⟩
  .simp[Builtin.min_,Builtin.min2]
  grind[lT,VR]
 .cases e
noncomputable def Ext.model:Ext->Array Value->Sem Value
 | .mapsClone=>Extern.MapsClone.clone
 | .ident=>Extern.AbiNoEscape.same
 | .count=>Extern.BytealgCount.count
 | .indexByte=>Extern.BytealgIndexByte.indexByte
 | .overlaps t r=>Extern.SlicesOverlaps.overlaps #[t,t] #[r]
 | .makeNoZero t=>Extern.BytealgMakeNoZero.makeNoZero #[] #[t]
theorem Zh{x:AV}{v:Value}{b o:Nat}(e:xI x=some (b,o))(rx:VR O I x v): ∃L n c,O b=some L/\v= .slice (some ⟨L.blk,L.off+o,none⟩) n c:=by
 unfold xI at e;split at e
 .simp[VR]at rx;grind
 .simp[VR]at rx;grind
 .cases e
theorem bj5(a b:Addr)(w:World): ∃m,(mayBeOne a b).run P w= .ok m w:=by
 have hs: ∀x:Addr,∃m,(stringish x).run P w= .ok m w:=by
  intro x;unfold stringish;simp only[Sem.run_bind,run_frozen,Result.andThen_ok];cases w.frozen? x with
  |true=>exact⟨_,rfl⟩
  |false=>
   simp only[n5,if_false,Sem.run_bind,run_shape,Result.andThen_ok,Sem.run_pure];cases w.shape? x.block with
   |none=>exact⟨_,rfl⟩
   |some p=>exact⟨_,rfl⟩
 obtain⟨m1,h1⟩:=hs a;obtain⟨m2,h2⟩:=hs b;unfold mayBeOne;simp only[Sem.run_bind,h1,h2,run_shape,Result.andThen_ok,Sem.run_pure];exact⟨_,rfl⟩
theorem aQ5(q:Question)(w:World): ∃n w',(choose q).run P w= .ok n w'/\(w'=w\/w'=w.drew):=by
 rw[run_choose];split
 .grind
 .exact⟨_,_,rfl,.inr rfl⟩
theorem cz9{t rt e:TypeId}{size:Nat}(ht:P.underlying t=some (.slice e))(hz:bJ P e=some size){a b:Addr}(la ca lb cb:Nat)(hne:a.block≠b.block)
 {tA tB:TypeId} {kA kB:Nat} (hsa:w.shape? a.block=some (tA,kA)) (hsb:w.shape? b.block=some (tB,kB)) (hfa:w.frozen? a=false):
 ∃c w',(Extern.SlicesOverlaps.overlaps #[t,t] #[rt] #[.slice (some a) la ca,.slice (some b) lb cb]).run P w= .ok (.bool c) w'/\(w'=w\/w'=w.drew):=by
 have hnb:(a.block !=b.block)=true:=by grind
 obtain⟨m,hm⟩:=bj5 (P:=P) a b w;obtain⟨n,w1,hn,hw⟩:=aQ5 (P:=P) (.extern "sameAddr.stringBytes" 2) w;have hv: ∀x:Addr,∀p,w.shape? x.block=some p->(noView x).run P w= .ok () w:=by
  intro x p hp;simp[noView,viewAt,Sem.run_bind,run_shape,Result.andThen_ok,hp,Option.isSome_some,if_true,Sem.run_pure,Option.isSome_none,n5,if_false]
 delta Extern.SlicesOverlaps.overlaps Extern.SlicesOverlaps.overlaps.match_4 Extern.SlicesOverlaps.overlaps._sparseCasesOn_4
 rw[dif_pos (show(#[Value.slice (some a) la ca,Value.slice (some b) lb cb]:Array Value).size=2 from rfl)];dsimp only[Array.getLit,List.getElem_toArray,List.getElem_cons_zero,List.getElem_cons_succ];simp only[G9,List.getElem?_cons_zero,Sem.run_bind,Result.andThen_ok,R1 ht,T6 hz,Sem.run_pure];by_cases h0:la=0\/lb=0\/size=0
 .simp_all
 .rw[b9 h0];simp only[hnb,if_true,A5,Sem.run_bind,run_frozen,Result.andThen_ok,hfa,k9,n5,if_false,hv a _ hsa,hv b _ hsb,hm];cases m with
  |true=>
   simp only[if_true,Sem.run_bind,hn,Result.andThen_ok,Sem.run_pure];grind
  |false=>
   simp_all
theorem cA0{t rt:TypeId}{args:List AV}{us:Array Value}(r:HR O I K w0 h w)(ra:aT O I args us.toList):
 xG t P args h= .bad\/ ∃l,xG t P args h= .choice l/\ ∃x∈l,Ok P O I K w0 w h ((Ext.overlaps t rt).model us) x.1 x.2:=by
 unfold xG;split
 .rename_i x y;obtain⟨v,u,rfl,rv,ru⟩:=ra.inv2;split
  .rename_i e ht;split
   .rename_i s hz;cases hap:Lu (xI x) (xI y) h with
    |false=>exact .inl rfl
    |true=>
     refine .inr ⟨_,rfl,?_⟩;unfold Lu at hap;split at hap
     .rename_i p q hp hq;obtain⟨p1,p2⟩:=p;obtain⟨q1,q2⟩:=q;obtain⟨g1,g2⟩:=Q8 hap;split at g2
      .rename_i e1 fz cs e2 fz2 cs2 hg1 hg2;obtain⟨g3,g4⟩:=Q8 g2;rw[R5]at g3;rw[T4]at g4;have hne:p1≠q1:=by
        rintro rfl;simp at g1
       obtain⟨L,n,c,hL,rfl⟩:=Zh hp rv;obtain⟨M,n2,c2,hM,rfl⟩:=Zh hq ru;have hsep:=r.sep _ _ _ _ _ _ hg1 hg2 hL hM hne (.inr (.inr (.inl rfl)));obtain⟨C,lo,hi,vs,a1,a2,a3,a4,a5,a6,a7⟩:=r.cells hg1 hL;obtain⟨C2,lo2,hi2,vs2,b1,b2,b3,b4,b5,b6,b7⟩:=r.cells hg2 hM;obtain⟨d,w',hd,hw⟩:=cz9 (w:=w) (rt:=rt) ht hz n c n2 c2 (a:=⟨L.blk,L.off+p2,none⟩) (b:=⟨M.blk,M.off+q2,none⟩) hsep
        (by simp only[World.shape?,a1];rfl) (by simp only[World.shape?,b1];rfl) (yF a1 (a7 p2 g3 (by omega)))
       refine⟨(.bool d,h),by cases d<;>simp,O,.bool d,w',hd,rfl,?_,.refl _ _⟩;rcases hw with rfl|rfl
       .exact r
       .exact r.drew
      .cases g2
     .cases hap
   .exact .inl rfl
  .exact .inl rfl
 grind
theorem cZ2{x:Ext}{args:List AV}{us:Array Value}{a:AV}(r:HR O I K w0 h w)(e:AB P x args h=some (a,h'))(ra:aT O I args us.toList):Ok P O I K w0 w h (x.model us) a h':=by
 unfold AB at e;split at e
 .rename_i t b;obtain⟨v,rfl,rv⟩:=ra.inv1;obtain⟨y,rfl,L,hL,rfl⟩:=rv;split at e
  .rename_i es c hg;obtain⟨rfl,rfl⟩:=e;obtain⟨E,h1,h2⟩:=r.map hg hL;have hle:Le O (O.add h.next ⟨w.heap.size,0,0⟩):=by
    intro b' M hb';simp[aQ.add];by_cases e:b'=h.next
    .subst e;rw[r.fresh _ (i6 _)]at hb';cases hb'
    grind
   obtain⟨p1,p2⟩:=r.new (.map E c) (.map es c) 0 0 ⟨E,rfl,h2.mono hle⟩;refine⟨_,.iface t (.map (some w.heap.size)),_,?_,⟨_,rfl,_,aQ.add_self _ _ _,rfl⟩,p1,p2⟩;show(do
    let .map entries clock <-getObj L.blk|Go.stuck "maps.clone: a map expected"
    pure (.iface t (.map (some (<-newObj (.map entries clock))))):Sem Value).run P w=_
   simp only[Sem.run_bind,U7 h1,Result.andThen_ok,run_newObj,Sem.run_pure];rfl
  .cases e
 .obtain⟨v,rfl,rv⟩:=ra.inv1;obtain⟨rfl,rfl⟩:=e;exact⟨O,v,w,Lib.run_noEscape w v,rv,r,.refl _ _⟩
 .rename_i l c;obtain⟨v,u,rfl,rv,ru⟩:=ra.inv2;subst rv ru;simp[l6]at e;obtain⟨n,hn,e⟩:=e;obtain⟨hc,e⟩:=Q9 e;rw[T4]at hc;obtain⟨rfl,rfl⟩:=e;have hn:=HW hn;subst hn;have hrun:=Lib.run_countString (P:=P) ⟨l.toArray⟩ (n:Int) w;refine⟨O,_,w,hrun,?_,r,.refl _ _⟩;show Value.int .i64 _=Value.int .i64 _;grind[Yr]
 .rename_i l c;obtain⟨v,u,rfl,rv,ru⟩:=ra.inv2;subst rv ru;simp[l6]at e;obtain⟨n,hn,e⟩:=e;obtain⟨hc,e⟩:=Q9 e;rw[T4]at hc;obtain⟨rfl,rfl⟩:=e;have hn:=HW hn;subst hn;have hrun:=Lib.run_indexByteString (P:=P) ⟨l.toArray⟩ (n:Int) w;refine⟨O,_,w,hrun,?_,r,.refl _ _⟩;show Value.int .i64 _=Value.int .i64 _;grind[ca1]
 .cases e
end Go.Ev
namespace Go.Ev
open Go
structure Env.Ok (E:Env) (I:Opq):Prop where
 fix: ∀t,I.fix t=cA E.P t
 name: ∀(f:FuncId) (fn:Func),E.P.funcs[f]? =some fn->(fn.name== "runtime.NumGoroutine")=false
 ext: ∀(f:FuncId) (e:Ext),E.ext f=some e-> ∃fn:Func,E.P.funcs[f]? =some fn/\fn.body=none/\Extern.findNext fn=none/\Extern.find fn=some e.model
 bin: ∀op a b v,E.fact (.bin op) [a,b]=some v-> ∀(O:aQ) t va vb,VR O I a va->VR O I b vb-> ∃u,VR O I v u/\ ∀w,(binOp op t va vb).run E.P w= .ok u w
 un: ∀op a v,E.fact (.un op) [a]=some v-> ∀(O:aQ) va,VR O I a va-> ∃u,VR O I v u/\ ∀w,(Op.unary op va).run E.P w= .ok u w
 conv: ∀d a v,E.fact (.conv d) [a]=some v-> ∀(O:aQ) s va,VR O I a va-> ∃u,VR O I v u/\ ∀w,(convert s d va).run E.P w= .ok u w
 blt: ∀b k as v,(b= .len/\k= .len\/b= .max/\k= .max\/b= .min/\k= .min)->E.fact k as=some v-> ∀(O:aQ) ts ty cs us,aT O I as us-> ∃u,VR O I v u/\ ∀w,(builtin b ts ty cs us.toArray).run E.P w= .ok (.value u) w
variable{E:Env}{O:aQ}{I:Opq}{K:Nat->Prop}{w0 w:World}{h h':Heap}
def DR(O:aQ)(I:Opq):ADef->Deferred->Prop
 | .coll b,d=> ∃L,O b=some L/\d={target:= .collected L.blk,args:= #[]}
 | .fn f cap args,d=> ∃us cs,d={target:= .fn (.func f) cs,args:=us}/\aT O I args us.toList/\aT O I cap cs.toList
def fD(O:aQ)(I:Opq):List ADef->List Deferred->Prop
 | [],ds=>ds=[]
 |a::r,ds=> ∃d dr,ds=d::dr/\DR O I a d/\fD O I r dr
theorem DR.mono{ac:aQ}(hl:Le O ac): ∀{a:ADef} {d:Deferred},DR O I a d->DR ac I a d
 | .coll b,d,⟨L,h1,h2⟩=>⟨L,hl _ _ h1,h2⟩
 | .fn f cap args,d,⟨us,cs,h1,h2,h3⟩=>⟨us,cs,h1,aT.mono hl _ _ h2,aT.mono hl _ _ h3⟩
theorem fD.mono{ac:aQ}(hl:Le O ac): ∀{a:List ADef} {d:List Deferred},fD O I a d->fD ac I a d
 | [],_,h=>h
 |a::r,d,⟨x,y,h1,h2,h3⟩=>⟨x,y,h1,h2.mono hl,fD.mono hl h3⟩
def bf(E:Env)(O:aQ)(I:Opq)(K:Nat->Prop)(w0 w:World)(h:Heap)(m:Sem Next)(v:AV)(h':Heap):Prop:=
 ∃ac u w',(m.run E.P w= .ok (.value u) w'\/u=Go.undef/\m.run E.P w= .ok .skip w')/\VR ac I v u/\HR ac I K w0 h' w'/\St h O h' ac
def aZ(E:Env)(O:aQ)(I:Opq)(K:Nat->Prop)(w0 w:World)(h:Heap)(m:Sem Next):Res->Prop
 | .val v h'=>bf E O I K w0 w h m v h'
 | .need e v h'=>dB I e=true->bf E O I K w0 w h m v h'
 | .cho e v l h'=>(dB I e=true->bf E O I K w0 w h m v h')/\(dB I e=false-> ∃x∈l,bf E O I K w0 w h m x h')
 | .enter f args=> ∃us:List Value,m.run E.P w= .ok (.enter f us.toArray) w/\aT O I args us
 | .choice l=> ∃x∈l,bf E O I K w0 w h m x.1 x.2
 | .yield l args=> ∃(L:Loc) (us:List Value),O l=some L/\aT O I args us/\m.run E.P w=(Instr.yield L.blk us.toArray).run E.P w
 | .defer d=> ∃dd,m.run E.P w= .ok (.defer dd) w/\DR O I d dd
 | .bad=>True
theorem bf.of{m:Sem Value}{v:AV}(k:Ok E.P O I K w0 w h m v h'):bf E O I K w0 w h (do pure (.value (<-m))) v h':=by
 obtain⟨ac,u,w',h1,h2,h3,h4⟩:=k;exact⟨ac,u,w',.inl (by simp_all),h2,h3,h4⟩
theorem bf.ofPure{m:Sem Value}{v:AV}(r:HR O I K w0 h w)(k: ∃u,VR O I v u/\m.run E.P w= .ok u w):bf E O I K w0 w h (do pure (.value (<-m))) v h:=by
 obtain⟨u,h1,h2⟩:=k;exact .of ⟨O,u,w,h2,h1,r,.refl _ _⟩
theorem bf.ofU{m:Sem Unit}(k:DH E.P O I K w0 w h m h'):bf E O I K w0 w h (do m;pure .skip) .undef h':=by
 obtain⟨w',h1,h2,h3⟩:=k;exact⟨O,Go.undef,w',.inr ⟨rfl,by simp_all⟩,⟨#[],rfl,rfl⟩,h2,h3⟩
theorem qw{m:Sem Value}{x:Option AV}(r:HR O I K w0 h w)(k: ∀v,x=some v-> ∃u,VR O I v u/\m.run E.P w= .ok u w):aZ E O I K w0 w h (do pure (.value (<-m))) (ov x h):=by
 cases x with
 |none=>trivial
 |some v=>exact .ofPure r (k v rfl)
theorem xw{m:Sem Value}{x:Option (AV×Heap)}(k: ∀v h',x=some (v,h')->Ok E.P O I K w0 w h m v h'):aZ E O I K w0 w h (do pure (.value (<-m))) (oh x):=by
 cases x with
 |none=>trivial
 |some p=>exact .of (k p.1 p.2 rfl)
theorem Uk{m:Sem Unit}{x:Option Heap}(k: ∀h',x=some h'->DH E.P O I K w0 w h m h'):aZ E O I K w0 w h (do m;pure .skip) (os x):=by
 cases x with
 |none=>trivial
 |some p=>exact .ofU (k p rfl)
def bH(O:aQ)(I:Opq)(af:Operand->Option AV)(ρ:Operand->Value):Prop:= ∀x a,af x=some a->VR O I a (ρ x)
theorem bH.mono{ac:aQ}{af:Operand->Option AV}{ρ:Operand->Value}(hl:Le O ac)(o:bH O I af ρ):bH ac I af ρ:=λx a e=>VR.mono hl _ _ (o x a e)
theorem yR{af:Operand->Option AV}{ρ:Operand->Value}(o:bH O I af ρ): ∀{l:List Operand} {vs:List AV},evs af l=some vs->aT O I vs (l.map ρ)
 | [],vs,e=>by simp[evs,j0]at e;subst e;rfl
 |x::r,vs,e=>by
  simp[evs]at e;split at e
  .rename_i v vs' h1 h2;simp at e;subst e;exact .cons (o x v h1) (yR o h2)
  .cases e
theorem Pn{af:Operand->Option AV}{ρ:Operand->Value}(o:bH O I af ρ): ∀{l:List (Nat×Operand)} {vs:List (Nat×AV)},eZ af l=some vs->
 vs.map (·.1)=(l.map λp=>(p.1,ρ p.2)).map (·.1)/\aT O I (vs.map (·.2)) ((l.map λp=>(p.1,ρ p.2)).map (·.2))
 | [],vs,e=>by simp[eZ,j0]at e;subst e;exact⟨rfl,.nil⟩
 |(i,x)::r,vs,e=>by
  simp[eZ]at e;split at e
  .rename_i v vs' h1 h2;simp at e;subst e;obtain⟨q1,q2⟩:=Pn o h2;exact⟨by grind,.cons (o x v h1) q2⟩
  .cases e
theorem qn{af:Operand->Option AV}{ρ:Operand->Value}(o:bH O I af ρ){x:Option Operand}{v:Option AV}(e:bQ af x=some v):OR O I v (x.map ρ):=by
 cases x with
 |none=>simp[bQ,j0]at e;subst e;rfl
 |some x=>
  simp[bQ,o8]at e;obtain⟨a,ha,rfl⟩:=e;exact⟨_,rfl,o x a ha⟩
def dZ5(P:Program)(O:aQ)(I:Opq)(K:Nat->Prop)(w0 w:World)(h:Heap)(m:Sem Value):Res->Prop
 | .val a h'=>Ok P O I K w0 w h m a h'
 | .need e a h'=>dB I e=true->Ok P O I K w0 w h m a h'
 | .bad=>True
 |_=>False
theorem cZ3{e:Ext}{args:List AV}{us:Array Value}(r:HR O I K w0 h w)(ra:aT O I args us.toList):dZ5 E.P O I K w0 w h (e.model us) (EP E.P e args h):=by
 trivial
theorem Wq(hE:E.Ok I){f:FuncId}{args:List AV}{us:List Value}(r:HR O I K w0 h w)(ra:aT O I args us):aZ E O I K w0 w h (callFunc f us.toArray) (wU E f args h):=by
 unfold wU;split
 .trivial
 .rename_i fn hf;have hn:=hE.name f fn hf;split
  .rename_i c hb;refine⟨us,?_,ra⟩;simp only[callFunc,Sem.run_bind,run_program,Result.andThen_ok,hf,hn,hb,n5,if_false,Option.isNone_some,Sem.run_pure]
  .rename_i hb;split
   .rename_i e he;obtain⟨fn',h1,h2,h3,h4⟩:=hE.ext f e he;rw[hf]at h1;simp at h1;subst h1;have one: ∀v h',Ok E.P O I K w0 w h (e.model us.toArray) v h'->bf E O I K w0 w h (callFunc f us.toArray) v h':=by
     rintro v h' ⟨ac,u,w',g1,g2,g3,g4⟩;refine⟨ac,u,w',.inl ?_,g2,g3,g4⟩;simp only[callFunc,Sem.run_bind,run_program,Result.andThen_ok,hf,hn,hb,n5,if_false,Option.isNone_none,if_true,run_mark,h3,h4,g1,Sem.run_pure]
    have plain:aZ E O I K w0 w h (callFunc f us.toArray) (oh (AB E.P e args h)):=by
     cases hx:AB E.P e args h with
     |none=>trivial
     |some p=>exact one _ _ (cZ2 (us:=us.toArray) (a:=p.1) (h':=p.2) r hx (by simpa using ra))
    have ys:aZ E O I K w0 w h (callFunc f us.toArray) (EP E.P e args h):=by
     have:=cZ3 (E:=E) (e:=e) (us:=us.toArray) r (by simpa using ra);cases hy:EP E.P e args h<;>rw[hy]at this<;>first
      |trivial
      |exact this.elim
      |exact one _ _ this
      |exactλhd=>one _ _ (this hd)
    have fin:aZ E O I K w0 w h (callFunc f us.toArray) (Xw E.P e args h):=by
     cases e with
     |overlaps t rt=>
      rcases cA0 (t:=t) (rt:=rt) (us:=us.toArray) r (by simpa using ra)with h5|⟨l,h5,x,hx,h6⟩
      .show aZ E O I K w0 w h _ (xG t E.P args h);rw[h5];trivial
      .show aZ E O I K w0 w h _ (xG t E.P args h);rw[h5];exact⟨x,hx,one _ _ h6⟩
     |_=>exact plain
    unfold Zb;grind
   .trivial
section
variable{P:Program}
theorem bW1{t:TypeId}{name:String}{f:FuncId}(e:EA P t name=some f): ∃i m d pr,P.info? t=some i/\i.methods.find? (·.name==name)=some m/\m.path.toList=[]/\m.func=some (f,pr)/\P.underlying t=some d/\((pr=true/\ ∃el,d= .pointer el)\/(pr=false/\ ∀el,d≠ .pointer el)):=by
 unfold EA at e;grind
theorem bj7{t:TypeId}{i:TypeInfo}(e:P.info? t=some i)(w:World):(typeInfo t).run P w= .ok i w:=by
 grind[typeInfo,Sem.run_bind,run_program,Result.andThen_ok,Sem.run_pure]
theorem bj8{t:TypeId}{name:String}{f:FuncId}(e:EA P t name=some f)(n:Nat)(v:Value)(w:World):(nilAhead (n+1) t v name).run P w= .ok (some false) w:=by
 obtain⟨i,m,d,pr,h1,h2,h3,h4,h5,h6⟩:=bW1 e;simp[nilAhead,Sem.run_bind,bj7 h1,Result.andThen_ok,h2,h3,followBlind,Sem.run_pure,h4];rcases h6 with⟨rfl,el,rfl⟩|⟨rfl,hd⟩
 .rfl
 .simp[Sem.run_bind,run_underlying h5,Result.andThen_ok];cases d with
  |pointer el=>exact absurd rfl (hd el)
  |_=>simp
end
theorem VY(hE:E.Ok I){name:String}{first args cap:List AV}{x y:Array Value}{us:List Value}(r:HR O I K w0 h w)(rx:aT O I first x.toList)(ra:aT O I args us):
 aZ E O I K w0 w h (do let d <-Deferred.ofValue (.func (.method name) x y) us.toArray;invoke d.target d.args) (Kq E name first args h):=by
 trivial
theorem TC(hE:E.Ok I){f:AV}{vf:Value}{args:List AV}{us:List Value}(r:HR O I K w0 h w)(rf:VR O I f vf)(ra:aT O I args us):
 aZ E O I K w0 w h (do let d <-Deferred.ofValue vf us.toArray;invoke d.target d.args) (Jj E f args h):=by
 unfold Jj;split
 .rename_i g first cap
  obtain⟨-,x,y,rfl,rx,ry⟩:=rf;have:=Wq hE (f:=g) r ((rx.append ra).append ry);have hrun: ∀w,(do let d <-Deferred.ofValue (.func (.func g) x y) us.toArray;invoke d.target d.args:Sem Next).run E.P w=(callFunc g (x.toList++us++y.toList).toArray).run E.P w:=by
   intro w;simp[Deferred.ofValue,Sem.run_bind,Sem.run_pure,Result.andThen_ok,invoke];congr 1;congr 1;grind
  cases hres:wU E g (first++args++cap) h<;>rw[hres]at this
  .obtain⟨ac,u,w',q1,q2⟩:=this;exact⟨ac,u,w',by grind,q2⟩
  .intro hd;obtain⟨ac,u,w',q1,q2⟩:=this hd;exact⟨ac,u,w',by grind,q2⟩
  .refine⟨λhd=> ?_,λhd=> ?_⟩
   .obtain⟨ac,u,w',q1,q2⟩:=this.1 hd;exact⟨ac,u,w',by grind,q2⟩
   .obtain⟨x,hx,ac,u,w',q1,q2⟩:=this.2 hd;exact⟨x,hx,ac,u,w',by grind,q2⟩
  .obtain⟨vs,q1,q2⟩:=this;exact⟨vs,by grind,q2⟩
  .obtain⟨x,hx,ac,u,w',q1,q2⟩:=this;exact⟨x,hx,ac,u,w',by grind,q2⟩
  .obtain⟨L,vs,q1,q2,q3⟩:=this;exact⟨L,vs,q1,q2,by grind⟩
  .obtain⟨d,q1,q2⟩:=this;exact⟨d,by grind,q2⟩
  .trivial
 .rename_i name first cap
  obtain⟨-,x,y,rfl,rx,ry⟩:=rf;exact VY hE (cap:=cap) r rx ra
 .obtain⟨L,hL,rfl⟩:=rf;refine⟨L,us,hL,ra,?_⟩;grind[Deferred.ofValue,Sem.run_bind,Sem.run_pure,Result.andThen_ok,invoke,Array.ext']
 .trivial
def cA1:Value->Bool
 | .pointer none| .nilIface| .nilFunc=>false
 | .func (.method _) _ _=>false
 |_=>true
theorem bx1{x:AV}{v:Value}(r:VR O I x v){a:AV}(e:Ir x=some a):a=x/\cA1 v=true:=by
 unfold Ir at e;split at e
 .cases e
 .cases e
 .cases e
 .cases e
 .cases e
 .cases e
 .rename_i h1 h2 h3 h4 h6 h5;simp at e;refine⟨e.symm,?_⟩;cases x<;>simp only[VR]at r;case nilp=>grind
  case nilf=>grind
  case nili=>grind
  case opq n=>grind
  case any=>grind
  case func fn a b=>
   obtain⟨-,p,q,rfl,-⟩:=r;cases fn<;>first|rfl|grind
  all_goals first
   |(rcases r with⟨L,c,_,rfl,_⟩|⟨rfl,_⟩<;>rfl)
   |(rcases r with⟨L,c,_,_,rfl,_⟩|⟨rfl,_⟩<;>rfl)
   |(rcases r with⟨L,c,_,_,rfl,_⟩|⟨_,_,rfl,_⟩<;>rfl)
   |(subst r;rfl)
   |(obtain⟨L,_,rfl⟩:=r;rfl)
   |(obtain⟨L,c,_,_,rfl⟩:=r;rfl)
   |(obtain⟨L,a,c,_,rfl,_⟩:=r;rfl)
   |(obtain⟨a,rfl⟩:=r;rfl)
   |(obtain⟨a,rfl,_⟩:=r;rfl)
end Go.Ev
