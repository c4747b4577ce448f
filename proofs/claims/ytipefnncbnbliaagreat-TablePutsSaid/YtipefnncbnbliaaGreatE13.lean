import Derived.Test.YtipefnncbnbliaaGreatE4
import Derived.Laws.IdiomStrings
import Derived.Laws.BytesArg
import Derived.Lib.Builder
import Derived.Lib.UnsafeStr
import Derived.Lib.Bytealg
import Derived.Lib.MakeNoZero
import Derived.CallsIn
set_option linter.unusedSimpArgs false
set_option linter.unusedVariables false
namespace Go.Ev
open Go
variable{r since last:Nat}{es:List Ent}{m:List MapEntry}
variable{P:Program}{O:bY}{I:Opq}{K:Nat->Prop}{w0 w:World}{h h':Heap}
theorem ck2{t:TypeId}{x a:AV}{vx:Value}(r:HR O I K w0 h w)(e:Ll P t x h=some (a,h'))(rx:VR O I x vx):Ok P O I K w0 w h (Instr.range t vx) a h':=by
 unfold Ll at e;split at e
 .rename_i l ht;obtain⟨rfl,rfl⟩:=e;simp[VR]at rx;obtain⟨p1,p2⟩:=r.new (.stringIter ⟨l.toArray⟩ 0) (.strIter l 0) 0 0 ⟨rfl,rfl⟩;refine⟨_,.pointer (some ⟨w.heap.size,0,none⟩),_,?_,⟨_,bY.add_self _ _ _,rfl⟩,p1,p2⟩;simp_all[Instr.range,Sem.run_bind,Z0,Result.andThen_ok,Sem.run_pure,run_newObj]
 .obtain⟨rfl,rfl⟩:=e;simp[VR]at rx;obtain⟨p1,p2⟩:=r.new (.mapIter none 0 #[] 0) (.mapIter none 0 [] 0) 0 0 ⟨rfl,none,rfl,rfl⟩;refine⟨_,.pointer (some ⟨w.heap.size,0,none⟩),_,?_,⟨_,bY.add_self _ _ _,rfl⟩,p1,p2⟩;simp_all[Instr.range,Sem.run_bind,Z0,Result.andThen_ok,Sem.run_pure,run_newObj]
 .rename_i kt et b ht;split at e
  .rename_i es c hg;obtain⟨rfl,rfl⟩:=e;obtain⟨L,hL,rfl⟩:=rx;obtain⟨E,h1,h2⟩:=r.map hg hL;have hle:Le O (O.add h.next ⟨w.heap.size,0,0⟩):=by
    intro b' M hb';simp[bY.add];by_cases e:b'=h.next
    .subst e;rw[r.fresh _ (i6 _)]at hb';cases hb'
    grind
   obtain⟨p1,p2⟩:=r.new (.mapIter (some L.blk) c #[] c) (.mapIter (some b) c [] c) 0 0 ⟨rfl,some L.blk,rfl,L,hle _ _ hL,rfl⟩;refine⟨_,.pointer (some ⟨w.heap.size,0,none⟩),_,?_,⟨_,bY.add_self _ _ _,rfl⟩,p1,p2⟩;simp only[Instr.range,Sem.run_bind,Z0 ht,Result.andThen_ok,Sem.run_pure,run_newObj,iw h1];rfl
  .rename_i d ks vs l hg;obtain⟨rfl,rfl⟩:=e;obtain⟨L,hL,rfl⟩:=rx;obtain⟨E,c,h1,h2,h3⟩:=r.blk b _ L hg hL;have hbn:b≠h.next:=by rintro rfl;rw[r.fresh _ (i6 _)]at hL;cases hL
   have hle:Le O (O.add h.next ⟨w.heap.size,0,c⟩):=by
    intro b' M hb';simp[bY.add];by_cases e:b'=h.next
    .subst e;rw[r.fresh _ (i6 _)]at hb';cases hb'
    grind
   obtain⟨p1,p2⟩:=r.new (.mapIter (some L.blk) c #[] c) (.mit b) 0 c ⟨rfl,L,hle _ _ hL,rfl⟩;have hg2:(h.new (.mit b)).get b=some (.marr d ks vs l):=by simp_all[Heap.get_new,b9]
   have hlim:=Heap.get_lim _ _ _ hg;have p3:=p1.retell (y:= .mrg h.next d ks vs l) (h2:=(h.new (.mit b)).put b (some (.mrg h.next d ks vs l))) hg2 (.inr rfl) (λM hM hbr=>by
    rw[hle _ _ hL,j0]at hM;subst hM;obtain⟨E',c',q1,q2,q3⟩:=hbr;have:(w.alloc (.mapIter (some L.blk) c #[] c)).heap[L.blk]? =some (.map E c):=by grind[RowKit.Below.heap_alloc]
    rw[this]at q1;cases q1;exact⟨E,c,_,this,bY.add_self _ _ _,rfl,q2,q3⟩) rfl rfl (λz=>by rw[Heap.get_put,e8 hlim])
   refine⟨_,.pointer (some ⟨w.heap.size,0,none⟩),_,?_,⟨_,bY.add_self _ _ _,rfl⟩,p3,⟨by simp,p2.ext,λb' hb' hn=> ?_,rfl⟩⟩
   .simp only[Instr.range,Sem.run_bind,Z0 ht,Result.andThen_ok,Sem.run_pure,run_newObj,iw h1];rfl
   .have:b'≠b:=by grind
    rw[Heap.get_put,b9 this];exact p2.unm b' hb' hn
  .cases e
 .cases e
theorem HR.iter{b:Nat}{m:Option Nat}{seen:List Nat}{L:Loc}(r:HR O I K w0 h w)(hg:h.get b=some (.mapIter m since seen last))(hb:O b=some L):
 L.off=0/\ ∃m',w.heap[L.blk]? =some (.mapIter m' since seen.toArray last)/\IR O m m':=r.blk b _ L hg hb
theorem Rw{m:Option Nat}{seen:Array Nat}(hb:w.heap[r]? =some (.mapIter m since seen last)):(getObj r).run P w= .ok (.mapIter m since seen last) w:=by simp[getObj,Sem.run,hb]
theorem bF3{m:Option Nat}{seen:Array Nat}(o:Obj)(hb:w.heap[r]? =some (.mapIter m since seen last)):(setObj r o).run P w= .ok () (vV w r o):=by grind[setObj,Sem.run,vV]
theorem ERs.filter(r:ERs O I es m)(p:Nat->Bool):ERs O I (es.filter λe=>p e.born) (m.filter λe=>p e.born):=by
 induction r with
 |nil=>exact .nil
 | @cons e es k v m a b r ih=>
   simp[z8];cases hp:p e.born with
   |true=>exact .cons a b ih
   |false=>exact ih
theorem ERs.all(r:ERs O I es m)(p:Nat->Bool):m.all (λe=>p e.born)=es.all (λe=>p e.born):=by
 induction r with
 |nil=>rfl
 |cons _ _ _ ih=>simp[ih]
theorem ERs.any(r:ERs O I es m)(p:Nat->Bool):m.any (λe=>p e.born)=es.any (λe=>p e.born):=by
 induction r with
 |nil=>rfl
 |cons _ _ _ ih=>simp[ih]
theorem ERs.get(r:ERs O I es m): ∀(i:Nat) {x:MapEntry},m[i]? =some x-> ∃e,es[i]? =some e/\VR O I e.key x.key/\VR O I e.val x.val/\x.born=e.born:=by
 induction r with
 |nil=>grind
 | @cons e es k v m a b r ih=>
   grind
def SS(P:Program)(O:bY)(I:Opq)(K:Nat->Prop)(w0 w:World)(h:Heap)(m:Sem Value):Res->Prop
 | .val a h'=>Ok P O I K w0 w h m a h'
 | .choice l=> ∃x∈l,Ok P O I K w0 w h m x.1 x.2
 | .enter _ _=>False
 | .need _ _ _=>False
 | .cho _ _ _ _=>False
 | .yield _ _=>False
 | .defer _=>False
 | .bad=>True
theorem cJ1{ty:TypeId}{b:Nat}{L:Loc}(r:HR O I K w0 h w)(hL:O b=some L):SS P O I K w0 w h (Instr.next (.pointer (some ⟨L.blk,L.off+0,none⟩)) true ty) (ZG b h (h.get b)):=by
 trivial
theorem cJ2{ty:TypeId}{it:AV}{vi:Value}{isS:Bool}(r:HR O I K w0 h w)(ri:VR O I it vi):SS P O I K w0 w h (Instr.next vi isS ty) (EH it isS h):=by
 unfold EH;split
 .simp[VR]at ri;grind[cJ1]
 .rename_i b;obtain⟨L,hL,rfl⟩:=ri;split
  .rename_i since seen last hg;obtain⟨h0,m',h1,h2⟩:=r.iter hg hL;subst h2;refine⟨O,.tuple #[.bool false],w,?_,⟨_,rfl,.one rfl⟩,r,.refl _ _⟩;simp[h0,Nat.add_zero,Instr.next,Sem.run_bind,Rw h1,Result.andThen_ok,Sem.run_pure]
  .rename_i m since seen last hg;obtain⟨h0,m',h1,h2⟩:=r.iter hg hL;obtain⟨Lm,hLm,rfl⟩:=h2;split
   .rename_i es c hgm;obtain⟨E,g1,g2⟩:=r.map hgm hLm;cases hc:(Nat.ble h.wm b&& !(!seen.isEmpty&& !es.isEmpty&&es.all (λe=>Nat.ble last e.born))&& !((sN es seen).any (λe=>Nat.ble since e.born)))with
    |false=>trivial
    |true=>
     obtain⟨hc,c3⟩:=W5 hc;obtain⟨c1,c2⟩:=W5 hc;rw[Z5]at c1;have hleft:=g2.filter (λn=> !(seen.contains n));have hfil:(E.filter λe=> !(seen.toArray.contains e.born)).toList=E.toList.filter λe=> !(seen.contains e.born):=by simp
     have hguard:(!seen.toArray.isEmpty&& !E.isEmpty&&E.all (λx=>decide (x.born>=last)))=false:=by
      have h3:=g2.all (λn=>Nat.ble last n);have h4:E.all (λx=>decide (x.born>=last))=es.all (λe=>Nat.ble last e.born):=by
       rw[<-h3,<-Array.all_toList];congr 1;funext x;cases hh:Nat.ble last x.born with
       |true=>simpa using hh
       |false=>simp;rcases k5 x.born last with h5|h5;exact h5;rw[Z5.2 h5]at hh;cases hh
      have h5:E.isEmpty=es.isEmpty:=by
       have:=g2.length;cases es with
       |nil=>simp at this;subst this;rfl
       |cons=>simp;intro hh;subst hh;simp at this
      grind
     have hold: ∀x∈(E.filter λe=> !(seen.toArray.contains e.born)).toList,x.born<since:=by
      have h3:=hleft.any (λn=>Nat.ble since n);grind[List.filter,Nat.ble,sN,List.any_eq_false,Nat.lt_or_ge,absurd,Z5]
     generalize hEl:(E.filter λe=> !(seen.toArray.contains e.born))=left at hfil hold;have iY:left.filter (λx=>decide (x.born>=since))= #[]:=by
      grind[Array.filter_eq_empty_iff]
     have holdE:left.filter (λx=>decide (x.born<since))=left:=by
      simp_all
     rw[<-hfil]at hleft;have hrun0: ∀(v:Value) (w':World),(do
      let candidates:=(if left.isEmpty then #[none]else #[])++left.map some
      match candidates[<-choose (.mapNext candidates.size)]? with
      |some (some e)=>
       setObj L.blk (.mapIter (some Lm.blk) since (seen.toArray.push e.born) c)
       pure (.tuple #[.bool true,e.key,e.val])
      |some none=>pure (.tuple #[.bool false])
      |none=>stuck "Next: no such candidate" :Sem Value).run P w= .ok v w'->
      (Instr.next (.pointer (some ⟨L.blk,L.off+0,none⟩)) false ty).run P w= .ok v w':=by
      intro v w' hv;simp only[h0,Nat.add_zero,Instr.next,Sem.run_bind,Rw h1,Result.andThen_ok,iw g1,hguard,n8,if_false,hEl,iY,holdE,Array.append_empty];simp_all;exact hv
     by_cases hne:left= #[]
     .subst hne;have hl0:sN es seen=[]:=by
       have:=hleft.length;grind[List.eq_nil_of_length_eq_zero,sN]
      rw[hl0];refine⟨O,.tuple #[.bool false],w,hrun0 _ _ ?_,⟨_,rfl,.one rfl⟩,r,.refl _ _⟩;simp[Question.forced]
     .have hpos:0<left.size:=Array.size_pos_iff.2 hne;have key: ∀(i:Nat) (w1:World),i<left.size->HR O I K w0 h w1->w1.heap=w.heap-> ∃x∈(sN es seen).map (λe=>((AV.tup [.bool true,e.key,e.val],h.put b (some (.mapIter (some m) since (seen++[e.born]) c))):AV×Heap)),
       ∃v w',(match left[i]? with
        |some e=>(do
         setObj L.blk (.mapIter (some Lm.blk) since (seen.toArray.push e.born) c)
         pure (.tuple #[.bool true,e.key,e.val]):Sem Value).run P w1
        |none=> .ok v w')= .ok v w'/\VR O I x.1 v/\HR O I K w0 x.2 w'/\St h O x.2 O:=by
       intro i w1 hi r1 hw1;have hx:left.toList[i]? =some left[i]:=by simp[hi]
       obtain⟨e,e1,e2,e3,e4⟩:=hleft.get i hx;refine⟨_,j8.2 ⟨e,G7 e1,rfl⟩,?_⟩;obtain⟨p1,p2⟩:=r1.set1 b _ (.mapIter (some m) since (seen++[e.born]) c) L (.mapIter (some Lm.blk) since (seen.toArray.push left[i].born) c) hg hL c1
        ⟨h0,some Lm.blk,by rw[e4];simp,Lm,hLm,rfl⟩
       refine⟨.tuple #[.bool true,left[i].key,left[i].val],_,?_,⟨_,rfl,.cons rfl (.cons e2 (.one e3))⟩,p1,p2⟩;have h1':w1.heap[L.blk]? =some (.mapIter (some Lm.blk) since seen.toArray last):=by rw[hw1];exact h1
       simp[A3 hi,Sem.run_bind,bF3 _ h1',Result.andThen_ok,Sem.run_pure]
      have hE:left.isEmpty=false:=by simpa using hne
      have hcand:((if left.isEmpty then #[none]else #[])++left.map some:Array (Option MapEntry))=left.map some:=by rw[hE];simp
      have hsz:(left.map some).size=left.size:=by simp
      have hne2:sN es seen≠[]:=by
       intro hh;have:=hleft.length;rw[show(es.filter λe=> !(seen.contains e.born))=sN es seen from rfl,hh]at this;simp at this;exact hne this
      have hres:SS P O I K w0 w h (Instr.next (.pointer (some ⟨L.blk,L.off+0,none⟩)) false ty) (.choice ((sN es seen).map λe=>(.tup [.bool true,e.key,e.val],h.put b (some (.mapIter (some m) since (seen++[e.born]) c))))):=by
       by_cases hf:(Question.mapNext left.size).forced=true
       .obtain⟨x,hx,v,w',q1,q2,q3,q4⟩:=key 0 w hpos r rfl;refine⟨x,hx,O,v,w',hrun0 v w' ?_,q2,q3,q4⟩;simp only[hcand,hsz,Sem.run_bind,run_choose,hf,if_true,Result.andThen_ok];simp only[A3 hpos]at q1;simp only[Array.getElem?_map,A3 hpos,Option.map_some];exact q1
       .have hlt:(Question.mapNext left.size).cut (w.tape w.drawn (.mapNext left.size))<left.size:=N6 _ hpos;obtain⟨x,hx,v,w',q1,q2,q3,q4⟩:=key _ w.drew hlt r.drew rfl;refine⟨x,hx,O,v,w',hrun0 v w' ?_,q2,q3,q4⟩;simp only[hcand,hsz,Sem.run_bind,run_choose,hf,n8,if_false,Result.andThen_ok];simp only[A3 hlt]at q1;simp only[Array.getElem?_map,A3 hlt,Option.map_some];exact q1
      grind[YD,absurd]
   .trivial
  .trivial
 .trivial
end Go.Ev
namespace Go.Ev
open Go
variable{a:AV}{vx:Value}{e ty:TypeId}{b:Nat}{ts:Array TypeId}
variable{P:Program}{O:bY}{I:Opq}{K:Nat->Prop}{w0 w:World}{h h':Heap}
theorem Lj(h:vR P e=true):P.underlying e=some (.int .u8):=by
 grind[vR]
theorem WR{C:Array Value}{f:Nat×Nat}(q:w.heap[b]? =some (.cells C e f)):w.shape? b=some (e,C.size):=by
 grind[World.shape?]
theorem bF4{s d t o:Nat}(hs:P.underlying s=some (.pointer t))(hd:P.underlying d=some .unsafePointer)(r:HR O I K w0 h w)(e:JW P t b o h=some (a,h'))(rx:VR O I (.ptr b o) vx):
 Ok P O I K w0 w h (convert s d vx) a h':=by
 unfold JW at e;split at e
 .rename_i n el fz cs hsz hg;replace e:=W6 e;obtain⟨hc,e⟩:=e;rw[dQ]at hc;obtain⟨rfl,rfl⟩:=e;have rx':=rx;obtain⟨L,hL,rfl⟩:=rx;obtain⟨C,lo,hi,vs,q1,q2,q3,q4,q5,q6,q7⟩:=r.cells hg hL;obtain⟨i,hi',hsize⟩:=Sb hsz;exact⟨O,_,w,Lib.run_to_unsafe w ⟨L.blk,L.off+o,none⟩ hs hd hi' (by omega) (WR q1) (show L.off+o<C.size by omega),rx',r,.refl _ _⟩
 .cases e
theorem bF5(hc:P.cellsOf e≠0)(count n:Nat)(hn:n<=count):liesAt P P.depth e count 0 e n=true:=by
 have hd:P.depth=(2*(P.types.size+Made.depth)+1)+1:=rfl;rw[hd];simp[liesAt,s7];rw[hd];simp[rowAt,hc,hn,sameLayout]
theorem bF6{s d t o:Nat}(hfx: ∀t,I.fix t=fC P t)(hs:P.underlying s=some .unsafePointer)(hd:P.underlying d=some (.pointer t))(r:HR O I K w0 h w)(e:MN P t b o h=some (a,h'))(rx:VR O I (.ptr b o) vx):
 Ok P O I K w0 w h (convert s d vx) a h':=by
 unfold MN at e;split at e
 .rename_i n el fz cs hsz hg;replace e:=W6 e;obtain⟨hc,e⟩:=e;obtain⟨hc,c3⟩:=W5 hc;obtain⟨c1,c2⟩:=W5 hc;rw[Z1]at c1;subst c1;rw[Z5]at c2;obtain⟨rfl,rfl⟩:=e;have rx':=rx;obtain⟨L,hL,rfl⟩:=rx;obtain⟨C,lo,hi,vs,q1,q2,q3,q4,q5,q6,q7⟩:=r.cells hg hL;obtain⟨i,hi',hsize⟩:=Sb hsz;have h0:L.off=0:=r.head hg hL (by rw[hfx];exact c3);have hcell:P.cellsOf el=n+1:=by simp[Program.cellsOf,hi',hsize]
  refine⟨O,_,w,Lib.run_from_unsafe w ⟨L.blk,L.off+0,none⟩ hs hd hi' (WR q1) ?_,rx',r,.refl _ _⟩;grind[liesAt,bF5,Nat.le_div_iff_mul_le]
 .cases e
theorem br5: ∀{cs:List AV} {l:List UInt8} {us:List Value},wu cs=some l->cj O I cs us->us=l.map (λb=>Value.int .u8 b.toNat)
 | [],l,us,e,r=>by
   simp[wu,j0]at e;subst e;exact r
 |c::cs,l,us,e,⟨u,ur,hu,r1,r2⟩=>by
  unfold wu at e;split at e
  .grind
  .rename_i n r heq;obtain⟨rfl,rfl⟩:=N7 heq;split at e
   .rename_i m hm;obtain⟨hn,e⟩:=W6 e;rw[dQ]at hn;have:=br5 hm r2;simp[VR]at r1;grind[UInt8.ofNat,UInt8.toNat_ofNat_of_lt']
   .cases e
  .cases e
theorem ck3{s d:TypeId}{x:AV}{l:List UInt8}(hs:P.underlying s=some (.slice e))(hd:P.underlying d=some .string)(r:HR O I K w0 h w)(he:cX2 P e x h=some l)(rx:VR O I x vx):
 (convert s d vx).run P w= .ok (.string ⟨l.toArray⟩) w:=by
 obtain⟨h8,he⟩:=W6 he;have h8:=Lj h8;have nil: ∀(p:Option Addr) (c:Nat),(convert s d (.slice p 0 c)).run P w= .ok (.string ⟨([]:List UInt8).toArray⟩) w:=by
  intro p c;cases p with
  |none=>rw[run_convert_bytes_nil w s e hs h8 0 c d hd];rfl
  |some a=>exact run_convert_bytes_back w s d e a c [] hs h8 hd (λj hj=>by simp at hj)
 have row: ∀(b o n c:Nat) (L:Loc),O b=some L->(match h.get b with
  |some (.cells _ _ cs)=>bif Nat.ble (o+n*1) cs.length&&((cs.drop o).take (n*1)).all AV.one then some ((cs.drop o).take (n*1))else none
  |_=>none).bind wu=some l->(convert s d (.slice (some ⟨L.blk,L.off+o,none⟩) n c)).run P w= .ok (.string ⟨l.toArray⟩) w:=by
  intro b o n c L hL he;simp[m7]at he;obtain⟨cs',h1,h2⟩:=he;split at h1
  .rename_i el fz cs hg;obtain⟨hc,h1⟩:=W6 h1;obtain⟨hc,_⟩:=W5 hc;rw[Z5]at hc;simp only[j0]at h1;subst h1;obtain⟨us,u1,u2,u3⟩:=Cu r hg hL hc;have hu:=br5 h2 u1;have hl:l.length=n:=by have:=congrArg List.length hu;simp at this;omega
   rw[<-hl];refine run_convert_bytes_back w s d e _ c l hs h8 hd (λj hj=> ?_);rw[io];refine u3 j _ ?_;rw[hu];simp[k9 hj]
  grind
 cases x with
 |nils=>
  grind[Option.some.injEq,VR]
 |es b o sz=>
  simp[VR]at rx;grind
 |es0=>
  simp[VR]at rx;grind
 |sl b o n c=>
  obtain⟨L,hL,rfl⟩:=rx;exact row b o n c L hL he
 |us b o n sz=>
  obtain⟨L,c,hL,_,rfl⟩:=rx;exact row b o n c L hL he
 |_=>cases he
theorem ck4{s d:TypeId}{l:List UInt8}(hs:P.underlying s=some .string)(hd:P.underlying d=some (.slice e))(r:HR O I K w0 h w)(he:Wo P e l h=some (a,h'))(rx:VR O I (.str l) vx):
 Ok P O I K w0 w h (convert s d vx) a h':=by
 obtain⟨hc,he⟩:=W6 he;obtain⟨c1,c2⟩:=W5 hc;have h8:=Lj c1;obtain⟨rfl,rfl⟩:=he;subst rx;have hrun:=run_bytes_of_string (P:=P) w s d e ⟨l.toArray⟩ hs hd h8;have hsz:(⟨l.toArray⟩:ByteArray).size=l.length:=by rfl
 rw[hsz]at hrun;have hge:=grownCap_ge w l.length 0 e;have hbs:(bytesRow ⟨l.toArray⟩ (grownCap w l.length 0 e)).size=grownCap w l.length 0 e:=by
  grind[bytesRow,Array.size_append,Array.size_map,Array.size_replicate,List.size_toArray]
 rw[hbs]at hrun;obtain⟨p1,p2⟩:=r.drew.new (.cells (bytesRow ⟨l.toArray⟩ (grownCap w l.length 0 e)) e (grownCap w l.length 0 e,grownCap w l.length 0 e+1)) (.cells e 0 (l.map λb=> .int .u8 b.toNat)) 0 (grownCap w l.length 0 e) (by
  refine⟨_,_,_,l.map (λb=>Value.int .u8 b.toNat),rfl,by rw[hbs];show 0+grownCap w l.length 0 e<=grownCap w l.length 0 e;omega,by simpa using hge,k6.2 λx hx=>by obtain⟨_,_,rfl⟩:=j8.1 hx;rfl,QJ l,λi hi=> ?_,λi _ hi=>by have hi:i<grownCap w l.length 0 e:=hi;show¬(_<=0+i/\0+i<_);omega,λ_=>rfl⟩;simp_all[l5,l9,bytesRow,U3])
 exact⟨_,_,_,hrun,⟨⟨w.heap.size,0,grownCap w l.length 0 e⟩,grownCap w l.length 0 e,bY.add_self _ _ _,by simp,by simp⟩,p1,p2⟩
theorem Wf{n:Int}{m:Nat}(h:kR n=some m):n=m:=by
 cases n with
 |ofNat k=>grind[kR,Option.some.injEq]
 |negSucc k=>cases h
theorem ck5{c:Nat}(hc:c<256)(x:UInt8):(x==c.toUInt8)=Nat.beq x.toNat c:=by
 have h:c.toUInt8.toNat=c:=UInt8.toNat_ofNat_of_lt' (by simpa using hc);rw[D9,beq_iff_eq,Z1];grind[UInt8.toNat_inj]
theorem Xa{c:Nat}(hc:c<256): ∀(l:List UInt8) (i:Nat),(∀k,BI c l i=some k->i<=k/\Lib.indexByte l c.toUInt8=(k:Int)-i)/\(BI c l i=none->Lib.indexByte l c.toUInt8= -1)
 | [],i=>⟨λk h=>(by cases h),λ_=>rfl⟩
 |x::r,i=>by
  obtain⟨h1,h2⟩:=Xa hc r (i+1);simp only[BI,Lib.indexByte,ck5 hc x];grind
theorem ck6{c:Nat}(hc:c<256)(l:List UInt8):JR c l=Lib.indexByte l c.toUInt8:=by
 grind[Xa,JR,BI]
theorem br6{c:Nat}(hc:c<256): ∀(l:List UInt8),AQ c l=Lib.countByte l c.toUInt8
 | []=>rfl
 |x::r=>by
  simp only[AQ,Lib.countByte,List.count_cons];rw[ck5 hc x,br6 hc r];grind[Lib.countByte,Nat.beq]
end Go.Ev
namespace Go.Ev
open Go
variable{P:Program}{O:bY}{I:Opq}{K:Nat->Prop}{w0 w:World}{h h':Heap}
theorem br7: ∀{l:List Nat} {s:Nat},Lb l=some s->l.toArray.back? =some s
 | [],s,e=>by cases e
 | [x],s,e=>by grind[Lb,Option.some.injEq]
 |x::y::r,s,e=>by
  have ih:=br7 (l:=y::r) (s:=s) e;grind
theorem ck7{it a:AV}{vi:Value}(r:HR O I K w0 h w)(e:LA it h=some a)(ri:VR O I it vi): ∃v,VR O I a v/\(Instr.entry vi).run P w= .ok v w:=by
 unfold LA at e;split at e
 .rename_i b;simp only[VR]at ri;obtain⟨L,hL,rfl⟩:=ri;split at e
  .rename_i m since seen stepped hg;obtain⟨h0,m',h1,h2⟩:=r.iter hg hL;simp only[IR]at h2;obtain⟨Lm,hLm,rfl⟩:=h2;split at e
   .rename_i s es c hs hgm;replace e:=W6 e;obtain⟨hc,e⟩:=e;rw[Z1]at hc;subst hc;simp only[o9]at e;obtain⟨⟨i,en⟩,hf,rfl⟩:=e;obtain⟨E,g1,g2⟩:=r.map hgm hLm;obtain⟨j,k,v,e1,e2,e3,e4,e5,e6,e7⟩:=aX8 g2 0 hf;obtain⟨-,q1⟩:=e7 (λx=>x.born==s) (λx=>by simp);have q2:E.find? (λx=>x.born==s)=some ⟨k,v,en.born⟩:=by grind
    have hb:=br7 hs;refine⟨.tuple #[k,v],⟨_,rfl,.cons e4 (.one e5)⟩,?_⟩;have hcc:(c !=c)=false:=by simp
    simp only[h0,Nat.add_zero,Instr.entry,Sem.run_bind,Rw h1,Result.andThen_ok,hb,iw g1,hcc,n8,if_false,Sem.run_pure,q2]
   .cases e
  .cases e
 .cases e
theorem b79{x a:AV}{xt t:TypeId}{ok:Bool}{vx:Value}(e:Nb P x t ok=some a)(rx:VR O I x vx): ∃v,VR O I a v/\ ∀w,(Instr.typeAssert vx xt t ok).run P w= .ok v w:=by
 have fails:Of P t ok=some a->ok=true/\ ∃z,VR O I a (.tuple #[z,.bool false])/\ ∀w,(zeroValue t).run P w= .ok z w:=by
  intro e;obtain⟨hok,e⟩:=W6 e;simp at e;obtain⟨z,hz,rfl⟩:=e;obtain⟨zv,z1,z2⟩:=BJ hz;exact⟨hok,zv,⟨_,rfl,.cons (z1 _ _) (.one rfl)⟩,z2⟩
 have holds: ∀(y:AV) (v:Value),VR O I y v->Rv ok y=some a->VR O I a (if ok then .tuple #[v,.bool true]else v):=by
  intro y v hv e;unfold Rv at e;simp at e;subst e;cases ok
  .exact hv
  .exact⟨_,rfl,.cons hv (.one rfl)⟩
 unfold Nb at e;cases hd:P.underlying t with
 |none=>grind
 |some d=>
  rw[hd]at e;cases d with
  |interface m=>cases e
  |_=>
   simp at e;split at e
   .obtain⟨rfl,z,z1,z2⟩:=fails e;simp_all[VR,Instr.typeAssert,Sem.run_bind,Z0,Result.andThen_ok,if_true,Sem.run_pure]
   .rename_i ty y;obtain⟨v,rfl,rv⟩:=rx;cases ht:Nat.beq ty t with
    |true=>
     rw[ht]at e;rw[Z1]at ht;subst ht;exact⟨_,holds y v rv e,λw=>by simp[Instr.typeAssert,Sem.run_bind,Z0 hd,Result.andThen_ok,if_true,Sem.run_pure]⟩
    |false=>
     rw[ht]at e;obtain⟨rfl,z,z1,z2⟩:=fails e;have hne: ¬ty=t:=λhh=>by rw[Z1.2 hh]at ht;cases ht
     exact⟨_,z1,λw=>by simp[Instr.typeAssert,Sem.run_bind,Z0 hd,Result.andThen_ok,b9 hne,if_true,z2,Sem.run_pure]⟩
   .cases e
theorem cJ3{s d:TypeId}{x a:AV}{vx:Value}(hfx: ∀t,I.fix t=fC P t)(r:HR O I K w0 h w)(e:CM P s d x h=some (a,h'))(rx:VR O I x vx):Ok P O I K w0 w h (convert s d vx) a h':=by
 unfold CM at e;split at e
 .rename_i sd k k' n hs hd;obtain⟨rfl,rfl⟩:=e;subst rx;refine⟨O,.int k (k.wrap n),w,?_,by rw[sj];rfl,r,.refl _ _⟩;simp[convert,Sem.run_bind,Z0 hs,Z0 hd,Result.andThen_ok];rfl
 .obtain⟨rfl,rfl⟩:=e;simp[VR]at rx;refine⟨O,_,w,?_,rfl,r,.refl _ _⟩;simp_all[convert,Sem.run_bind,Z0,Result.andThen_ok,Sem.run_pure]
 .rename_i el x hs hd _;simp at e;obtain⟨l,hl,rfl,rfl⟩:=e;exact⟨O,_,w,ck3 hs hd r hl rx,rfl,r,.refl _ _⟩
 .grind[bF4]
 .grind[bF6]
 .cases e
theorem cJ4{s d:TypeId}{x a:AV}{vx:Value}(r:HR O I K w0 h w)(e:GF P s d x h=some (a,h'))(rx:VR O I x vx):Ok P O I K w0 w h (convert s d vx) a h':=by
 unfold GF at e;grind[ck4]
theorem da3{ts:Array TypeId}{ty n:Nat}{x:AV}{vx:Value}(r:HR O I K w0 h w)(e:SD P ((ts[0]?).bind P.underlying) x h=some n)(rx:VR O I x vx):
 (Builtin.len_ ts ty #[vx]).run P w= .ok (goInt n) w:=by
 unfold SD at e;split at e
 .rename_i ht;simp[m7]at ht;obtain⟨t,h0,ht⟩:=ht;split at e
  .simp at e;subst e;subst rx;simp[Builtin.len_,h0,Z0 ht];rfl
  .cases e
 .rename_i el ht;simp[m7]at ht;obtain⟨t,h0,ht⟩:=ht;cases hi:EX x with
  |true=>grind
  |false=>
   rw[hi]at e;rcases cI6 e rx with⟨b,c,rfl⟩|⟨l,rfl⟩
   .simp[Builtin.len_,h0,Z0 ht]
   grind[EX]
 .rename_i kt et ht;simp[m7]at ht;obtain⟨t,h0,ht⟩:=ht;split at e
  .simp at e;subst e;simp_all[VR,Builtin.len_,Z0]
  .split at e
   .rename_i b es c hg;simp at e;subst e;obtain⟨L,hL,rfl⟩:=rx;obtain⟨E,h1,h2⟩:=r.map hg hL;have:=h2.length;simp at this;simp[Builtin.len_,h0,Z0 ht,iw h1,this]
   .cases e
  .cases e
 .cases e
theorem Tl{ts:Array TypeId}{t ty elem b o n cap:Nat}{a:AV}{L:Loc}(h0:ts[0]? =some t)(ht:P.underlying t=some (.slice elem))(r:HR O I K w0 h w)(e:AE P elem b o n h=some (a,h'))(hL:O b=some L):
 Ok P O I K w0 w h (Builtin.clear_ ts ty #[.slice (some ⟨L.blk,L.off+o,none⟩) n cap]) a h':=by
 unfold AE at e;split at e
 .obtain⟨rfl,rfl⟩:=e;exact⟨O,.tuple #[],w,by simp[Builtin.clear_,h0,Z0 ht],⟨_,rfl,rfl⟩,r,.refl _ _⟩
 .rename_i hn;split at e
  .rename_i z hz;obtain⟨hp,e⟩:=W6 e;rw[dQ]at hp;simp only[o9,A7]at e;obtain⟨h1,he,rfl,rfl⟩:=e;obtain⟨zv,hzv,hzr⟩:=vo hz;have rz:cj O I z.cells zv.cells.toList:=VR.cells' (sB hzv) (Bx hzv);have hzs:zv.cells.size=z.cells.length:=by have:=rz.length;simpa using this
   obtain⟨p1,p2,p3⟩:=EP (P:=P) r he hL (Vz rz (by omega) n);refine⟨O,.tuple #[],_,?_,⟨_,rfl,rfl⟩,p2,p3⟩;simp[Builtin.clear_,h0,Sem.run_bind,Z0 ht,Result.andThen_ok,J4,List.getElem?_cons_zero,hzr,p1,Sem.run_pure]
  .cases e
theorem ck8{ts:Array TypeId}{ty:Nat}{x a:AV}{vx:Value}(r:HR O I K w0 h w)(e:Nq P ((ts[0]?).bind P.underlying) x h=some (a,h'))(rx:VR O I x vx):Ok P O I K w0 w h (Builtin.clear_ ts ty #[vx]) a h':=by
 unfold Nq at e;split at e
 .rename_i elem ht;simp[m7]at ht;obtain⟨t,h0,ht⟩:=ht;split at e
  .obtain⟨rfl,rfl⟩:=e;subst rx;exact⟨O,.tuple #[],w,by simp[Builtin.clear_,h0,Z0 ht],⟨_,rfl,rfl⟩,r,.refl _ _⟩
  .simp[VR]at rx;grind[Tl]
  .simp[VR]at rx;grind[Tl]
  .cases e
 .rename_i kt et ht;simp[m7]at ht;obtain⟨t,h0,ht⟩:=ht;split at e
  .obtain⟨rfl,rfl⟩:=e;subst rx;exact⟨O,.tuple #[],w,by simp[Builtin.clear_,h0,Z0 ht],⟨_,rfl,rfl⟩,r,.refl _ _⟩
  .rename_i b;split at e
   .rename_i es c hg;replace e:=W6 e;obtain⟨hwm,e⟩:=e;rw[Z5]at hwm;obtain⟨rfl,rfl⟩:=e;obtain⟨L,hL,rfl⟩:=rx;obtain⟨E,h1,h2⟩:=r.map hg hL;obtain⟨p1,p2⟩:=r.set1 b _ (.map [] c) L (.map #[] c) hg hL hwm ⟨#[],rfl,.nil⟩;refine⟨O,.tuple #[],_,?_,⟨_,rfl,rfl⟩,p1,p2⟩;simp[Builtin.clear_,h0,Sem.run_bind,Z0 ht,Result.andThen_ok,J4,List.getElem?_cons_zero,iw h1,nS _ h1,Sem.run_pure]
   .cases e
  .cases e
 .cases e
theorem cj.inv1{a:AV}{us:Array Value}(r:cj O I [a] us.toList): ∃v,us= #[v]/\VR O I a v:=by
 obtain⟨v,vr,e,p,q⟩:=r;rw[show vr=[]from q]at e;grind
theorem cj.inv2{a b:AV}{us:Array Value}(r:cj O I [a,b] us.toList): ∃v u,us= #[v,u]/\VR O I a v/\VR O I b u:=by
 obtain⟨v,vr,e,p,u,ur,e2,q,t⟩:=r;rw[show ur=[]from t]at e2;grind
theorem da4{x a:AV}{v:Value}(r:HR O I K w0 h w)(e:QL x h=some a)(rx:VR O I x v): ∃p n c,v= .slice p n c/\VR O I a (.int .i64 (c:Nat)):=by
 unfold QL at e;split at e
 .simp at e;subst e;subst rx;exact⟨_,_,_,rfl,rfl⟩
 .simp at e;subst e;obtain⟨p,rfl⟩:=rx;exact⟨_,_,_,rfl,rfl⟩
 .simp at e;subst e;obtain⟨L,_,rfl⟩:=rx;exact⟨_,_,_,rfl,rfl⟩
 .rename_i b o n sz;split at e
  .rename_i el fz cs hg;replace e:=W6 e;obtain⟨hc,e⟩:=e;obtain⟨h1,h2⟩:=W5 hc;rw[dQ]at h1;simp at e;subst e;obtain⟨L,c,hL,hx,rfl⟩:=rx;obtain⟨C,lo,hi,vs,q1,q2,q3,q4⟩:=r.cells hg hL;refine⟨_,_,_,rfl,(c:Nat),rfl,?_⟩;have:(cs.length-o)/sz<=c:=by
    rw[<-Nat.mul_div_cancel c h1];exact Nat.div_le_div_right (by omega)
   exact Int.ofNat_le.2 this
  .cases e
 .cases e
theorem QH{b:Builtin}{ts:Array TypeId}{ty:TypeId}{cs:Array Bool}{args:List AV}{us:Array Value}{a:AV}(hfx: ∀t,I.fix t=fC P t)(r:HR O I K w0 h w)(e:Dn P b ts args h=some (a,h'))(ra:cj O I args us.toList):
 ∃ac v w',(builtin b ts ty cs us).run P w= .ok (.value v) w'/\VR ac I a v/\HR ac I K w0 h' w'/\St h O h' ac:=by
 have lift: ∀{m:Sem Value},Ok P O I K w0 w h m a h'-> ∃ac v w',(do pure (.value (<-m)):Sem Next).run P w= .ok (.value v) w'/\VR ac I a v/\HR ac I K w0 h' w'/\St h O h' ac:=by
  intro m ⟨ac,v,w',h1,h2,h3,h4⟩;grind[Sem.run_bind,Result.andThen_ok,Sem.run_pure]
 unfold Dn at e;split at e
 .simp at e;obtain⟨n,hn,rfl,rfl⟩:=e;obtain⟨v,rfl,rv⟩:=ra.inv1;exact lift ⟨O,_,w,da3 r hn rv,rfl,r,.refl _ _⟩
 .obtain⟨v,u,rfl,rv,ru⟩:=ra.inv2;exact lift (c58 hfx r e rv ru)
 .obtain⟨v,u,rfl,rv,ru⟩:=ra.inv2;exact lift (cI7 r e rv ru)
 .obtain⟨v,rfl,rv⟩:=ra.inv1;exact lift (ck8 r e rv)
 .obtain⟨v,u,rfl,rv,ru⟩:=ra.inv2;split at e
  .rename_i t h0;simp only[o9,A7]at e;obtain⟨h1,he,rfl,rfl⟩:=e;obtain⟨w',d1,d2,d3⟩:=c60 (ty:=ty) h0 r he rv ru;exact lift ⟨O,_,w',d1,⟨_,rfl,rfl⟩,d2,d3⟩
  .cases e
 .obtain⟨v,rfl,rv⟩:=ra.inv1;split at e
  .simp at e;obtain⟨a0,he,rfl,rfl⟩:=e;obtain⟨p,n,c,rfl,rc⟩:=da4 r he rv;refine lift ⟨O,.int .i64 (c:Nat),w,?_,rc,r,.refl _ _⟩;cases ht:ts[0]? with
   |none=>grind
   |some t=>
    simp_all[Builtin.cap_,Sem.run_bind,run_underlying,goInt]
  .cases e
 .obtain⟨v,u,rfl,rv,ru⟩:=ra.inv2;subst rv ru;obtain⟨rfl,rfl⟩:=e;rename_i k x k' y;refine lift ⟨O,.int k (if y>x then y else x),w,?_,?_,r,.refl _ _⟩
  .simp[Builtin.max_,Builtin.max2]
  grind[qC,VR]
 .obtain⟨v,u,rfl,rv,ru⟩:=ra.inv2;subst rv ru;obtain⟨rfl,rfl⟩:=e;rename_i k x k' y;refine lift ⟨O,.int k (if y<x then y else x),w,?_,?_,r,.refl _ _⟩
  .simp[Builtin.min_,Builtin.min2]
  grind[qC,VR]
 .cases e
noncomputable def Ext.model:Ext->Array Value->Sem Value
 | .mapsClone=>Extern.MapsClone.clone
 | .ident=>Extern.AbiNoEscape.same
 | .count=>Extern.BytealgCount.count
 | .indexByte=>Extern.BytealgIndexByte.indexByte
 | .overlaps t r=>Extern.SlicesOverlaps.overlaps #[t,t] #[r]
 | .makeNoZero t=>Extern.BytealgMakeNoZero.makeNoZero #[] #[t]
theorem ck9{x:AV}{v:Value}{b o:Nat}(e:CI x=some (b,o))(rx:VR O I x v): ∃L n c,O b=some L/\v= .slice (some ⟨L.blk,L.off+o,none⟩) n c:=by
 unfold CI at e;split at e
 .simp[VR]at rx;grind
 .simp[VR]at rx;grind
 .cases e
theorem br8(a b:Addr)(w:World): ∃m,(mayBeOne a b).run P w= .ok m w:=by
 have hs: ∀x:Addr,∃m,(stringish x).run P w= .ok m w:=by
  intro x;unfold stringish;simp only[Sem.run_bind,run_frozen,Result.andThen_ok];cases w.frozen? x with
  |true=>exact⟨_,rfl⟩
  |false=>
   simp only[n8,if_false,Sem.run_bind,run_shape,Result.andThen_ok,Sem.run_pure];cases w.shape? x.block with
   |none=>exact⟨_,rfl⟩
   |some p=>exact⟨_,rfl⟩
 obtain⟨m1,h1⟩:=hs a;obtain⟨m2,h2⟩:=hs b;unfold mayBeOne;simp only[Sem.run_bind,h1,h2,run_shape,Result.andThen_ok,Sem.run_pure];exact⟨_,rfl⟩
theorem aY0(q:Question)(w:World): ∃n w',(choose q).run P w= .ok n w'/\(w'=w\/w'=w.drew):=by
 rw[run_choose];split
 .grind
 .exact⟨_,_,rfl,.inr rfl⟩
theorem cJ5{t rt e:TypeId}{size:Nat}(ht:P.underlying t=some (.slice e))(hz:ej P e=some size){a b:Addr}(la ca lb cb:Nat)(hne:a.block≠b.block)
 {tA tB:TypeId} {kA kB:Nat} (hsa:w.shape? a.block=some (tA,kA)) (hsb:w.shape? b.block=some (tB,kB)) (hfa:w.frozen? a=false):
 ∃c w',(Extern.SlicesOverlaps.overlaps #[t,t] #[rt] #[.slice (some a) la ca,.slice (some b) lb cb]).run P w= .ok (.bool c) w'/\(w'=w\/w'=w.drew):=by
 have hnb:(a.block !=b.block)=true:=by grind
 obtain⟨m,hm⟩:=br8 (P:=P) a b w;obtain⟨n,w1,hn,hw⟩:=aY0 (P:=P) (.extern "sameAddr.stringBytes" 2) w;have hv: ∀x:Addr,∀p,w.shape? x.block=some p->(noView x).run P w= .ok () w:=by
  simp_all[noView,viewAt,Sem.run_bind,run_shape,Result.andThen_ok,Option.isSome_some,if_true,Sem.run_pure,Option.isSome_none,n8,if_false]
 delta Extern.SlicesOverlaps.overlaps Extern.SlicesOverlaps.overlaps.match_4 Extern.SlicesOverlaps.overlaps._sparseCasesOn_4
 rw[dif_pos (show(#[Value.slice (some a) la ca,Value.slice (some b) lb cb]:Array Value).size=2 from rfl)];dsimp only[Array.getLit,List.getElem_toArray,List.getElem_cons_zero,List.getElem_cons_succ];simp only[J4,List.getElem?_cons_zero,Sem.run_bind,Result.andThen_ok,Z0 ht,eC hz,Sem.run_pure];by_cases h0:la=0\/lb=0\/size=0
 .simp_all
 .rw[b9 h0];simp only[hnb,if_true,B4,Sem.run_bind,run_frozen,Result.andThen_ok,hfa,l6,n8,if_false,hv a _ hsa,hv b _ hsb,hm];cases m with
  |true=>
   simp only[if_true,Sem.run_bind,hn,Result.andThen_ok,Sem.run_pure];grind
  |false=>
   simp_all
theorem cJ6{t rt:TypeId}{args:List AV}{us:Array Value}(r:HR O I K w0 h w)(ra:cj O I args us.toList):
 BE t P args h= .bad\/ ∃l,BE t P args h= .choice l/\ ∃x∈l,Ok P O I K w0 w h ((Ext.overlaps t rt).model us) x.1 x.2:=by
 unfold BE;split
 .rename_i x y;obtain⟨v,u,rfl,rv,ru⟩:=ra.inv2;split
  .rename_i e ht;split
   .rename_i s hz;cases hap:UY (CI x) (CI y) h with
    |false=>exact .inl rfl
    |true=>
     refine .inr ⟨_,rfl,?_⟩;unfold UY at hap;split at hap
     .rename_i p q hp hq;obtain⟨p1,p2⟩:=p;obtain⟨q1,q2⟩:=q;obtain⟨g1,g2⟩:=W5 hap;split at g2
      .rename_i e1 fz cs e2 fz2 cs2 hg1 hg2;obtain⟨g3,g4⟩:=W5 g2;rw[Z5]at g3;rw[dQ]at g4;have hne:p1≠q1:=by
        rintro rfl;simp at g1
       obtain⟨L,n,c,hL,rfl⟩:=ck9 hp rv;obtain⟨M,n2,c2,hM,rfl⟩:=ck9 hq ru;have hsep:=r.sep _ _ _ _ _ _ hg1 hg2 hL hM hne (.inr (.inr (.inl rfl)));obtain⟨C,lo,hi,vs,a1,a2,a3,a4,a5,a6,a7⟩:=r.cells hg1 hL;obtain⟨C2,lo2,hi2,vs2,b1,b2,b3,b4,b5,b6,b7⟩:=r.cells hg2 hM;obtain⟨d,w',hd,hw⟩:=cJ5 (w:=w) (rt:=rt) ht hz n c n2 c2 (a:=⟨L.blk,L.off+p2,none⟩) (b:=⟨M.blk,M.off+q2,none⟩) hsep
        (by simp only[World.shape?,a1];rfl) (by simp only[World.shape?,b1];rfl) (AS a1 (a7 p2 g3 (by omega)))
       refine⟨(.bool d,h),by cases d<;>simp,O,.bool d,w',hd,rfl,?_,.refl _ _⟩;rcases hw with rfl|rfl
       .exact r
       .exact r.drew
      .cases g2
     .cases hap
   .exact .inl rfl
  .exact .inl rfl
 grind
theorem da5{x:Ext}{args:List AV}{us:Array Value}{a:AV}(r:HR O I K w0 h w)(e:Db P x args h=some (a,h'))(ra:cj O I args us.toList):Ok P O I K w0 w h (x.model us) a h':=by
 unfold Db at e;split at e
 .rename_i t b;obtain⟨v,rfl,rv⟩:=ra.inv1;obtain⟨y,rfl,L,hL,rfl⟩:=rv;split at e
  .rename_i es c hg;obtain⟨rfl,rfl⟩:=e;obtain⟨E,h1,h2⟩:=r.map hg hL;have hle:Le O (O.add h.next ⟨w.heap.size,0,0⟩):=by
    intro b' M hb';simp[bY.add];by_cases e:b'=h.next
    .subst e;rw[r.fresh _ (i6 _)]at hb';cases hb'
    grind
   obtain⟨p1,p2⟩:=r.new (.map E c) (.map es c) 0 0 ⟨E,rfl,h2.mono hle⟩;refine⟨_,.iface t (.map (some w.heap.size)),_,?_,⟨_,rfl,_,bY.add_self _ _ _,rfl⟩,p1,p2⟩;show(do
    let .map entries clock <-getObj L.blk|Go.stuck "maps.clone: a map expected"
    pure (.iface t (.map (some (<-newObj (.map entries clock))))):Sem Value).run P w=_
   simp only[Sem.run_bind,iw h1,Result.andThen_ok,run_newObj,Sem.run_pure];rfl
  .rename_i d ks vs l hg;obtain⟨rfl,rfl⟩:=e;obtain⟨E,c,h1,h2,h3⟩:=r.blk _ _ L hg hL;obtain⟨p1,p2⟩:=r.new (.map E c) (.marr d ks vs l) 0 0 ⟨E,c,rfl,h2,h3⟩;refine⟨_,.iface t (.map (some w.heap.size)),_,?_,⟨_,rfl,_,bY.add_self _ _ _,rfl⟩,p1,p2⟩;show(do
    let .map entries clock <-getObj L.blk|Go.stuck "maps.clone: a map expected"
    pure (.iface t (.map (some (<-newObj (.map entries clock))))):Sem Value).run P w=_
   simp only[Sem.run_bind,iw h1,Result.andThen_ok,run_newObj,Sem.run_pure];rfl
  .cases e
 .obtain⟨v,rfl,rv⟩:=ra.inv1;obtain⟨rfl,rfl⟩:=e;exact⟨O,v,w,Lib.run_noEscape w v,rv,r,.refl _ _⟩
 .rename_i l c;obtain⟨v,u,rfl,rv,ru⟩:=ra.inv2;subst rv ru;simp[m7]at e;obtain⟨n,hn,e⟩:=e;obtain⟨hc,e⟩:=W6 e;rw[dQ]at hc;obtain⟨rfl,rfl⟩:=e;have hn:=Wf hn;subst hn;have hrun:=Lib.run_countString (P:=P) ⟨l.toArray⟩ (n:Int) w;refine⟨O,_,w,hrun,?_,r,.refl _ _⟩;show Value.int .i64 _=Value.int .i64 _;grind[br6]
 .rename_i l c;obtain⟨v,u,rfl,rv,ru⟩:=ra.inv2;subst rv ru;simp[m7]at e;obtain⟨n,hn,e⟩:=e;obtain⟨hc,e⟩:=W6 e;rw[dQ]at hc;obtain⟨rfl,rfl⟩:=e;have hn:=Wf hn;subst hn;have hrun:=Lib.run_indexByteString (P:=P) ⟨l.toArray⟩ (n:Int) w;refine⟨O,_,w,hrun,?_,r,.refl _ _⟩;show Value.int .i64 _=Value.int .i64 _;grind[ck6]
 .cases e
end Go.Ev
namespace Go.Ev
open Go
variable{t:TypeId}{m:Sem Value}{us:Array Value}{args:List AV}{f:FuncId}{name:String}{af:Operand->Option AV}
structure Env.Ok (E:Env) (I:Opq):Prop where
 fix: ∀t,I.fix t=fC E.P t
 name: ∀(f:FuncId) (fn:Func),E.P.funcs[f]? =some fn->(fn.name== "runtime.NumGoroutine")=false
 ext: ∀(f:FuncId) (e:Ext),E.ext f=some e-> ∃fn:Func,E.P.funcs[f]? =some fn/\fn.body=none/\Extern.findNext fn=none/\Extern.find fn=some e.model
 bin: ∀op a b v,E.fact (.bin op) [a,b]=some v-> ∀(O:bY) t va vb,VR O I a va->VR O I b vb-> ∃u,VR O I v u/\ ∀w,(binOp op t va vb).run E.P w= .ok u w
 un: ∀op a v,E.fact (.un op) [a]=some v-> ∀(O:bY) va,VR O I a va-> ∃u,VR O I v u/\ ∀w,(Op.unary op va).run E.P w= .ok u w
 conv: ∀d a v,E.fact (.conv d) [a]=some v-> ∀(O:bY) s va,VR O I a va-> ∃u,VR O I v u/\ ∀w,(convert s d va).run E.P w= .ok u w
 blt: ∀b k as v,(b= .len/\k= .len\/b= .max/\k= .max\/b= .min/\k= .min)->E.fact k as=some v-> ∀(O:bY) ts ty cs us,cj O I as us-> ∃u,VR O I v u/\ ∀w,(builtin b ts ty cs us.toArray).run E.P w= .ok (.value u) w
variable{E:Env}{O:bY}{I:Opq}{K:Nat->Prop}{w0 w:World}{h h':Heap}
def DR(O:bY)(I:Opq):ADef->Deferred->Prop
 | .coll b,d=> ∃L,O b=some L/\d={target:= .collected L.blk,args:= #[]}
 | .fn f cap args,d=> ∃us cs,d={target:= .fn (.func f) cs,args:=us}/\cj O I args us.toList/\cj O I cap cs.toList
def jw(O:bY)(I:Opq):List ADef->List Deferred->Prop
 | [],ds=>ds=[]
 |a::r,ds=> ∃d dr,ds=d::dr/\DR O I a d/\jw O I r dr
theorem DR.mono{ac:bY}(hl:Le O ac): ∀{a:ADef} {d:Deferred},DR O I a d->DR ac I a d
 | .coll b,d,⟨L,h1,h2⟩=>⟨L,hl _ _ h1,h2⟩
 | .fn f cap args,d,⟨us,cs,h1,h2,h3⟩=>⟨us,cs,h1,cj.mono hl _ _ h2,cj.mono hl _ _ h3⟩
theorem jw.mono{ac:bY}(hl:Le O ac): ∀{a:List ADef} {d:List Deferred},jw O I a d->jw ac I a d
 | [],_,h=>h
 |a::r,d,⟨x,y,h1,h2,h3⟩=>⟨x,y,h1,h2.mono hl,jw.mono hl h3⟩
def cR(E:Env)(O:bY)(I:Opq)(K:Nat->Prop)(w0 w:World)(h:Heap)(m:Sem Next)(v:AV)(h':Heap):Prop:=
 ∃ac u w',(m.run E.P w= .ok (.value u) w'\/u=Go.undef/\m.run E.P w= .ok .skip w')/\VR ac I v u/\HR ac I K w0 h' w'/\St h O h' ac
def cO(E:Env)(O:bY)(I:Opq)(K:Nat->Prop)(w0 w:World)(h:Heap)(m:Sem Next):Res->Prop
 | .val v h'=>cR E O I K w0 w h m v h'
 | .need e v h'=>dB I e=true->cR E O I K w0 w h m v h'
 | .cho e v l h'=>(dB I e=true->cR E O I K w0 w h m v h')/\(dB I e=false-> ∃x∈l,cR E O I K w0 w h m x h')
 | .enter f args=> ∃us:List Value,m.run E.P w= .ok (.enter f us.toArray) w/\cj O I args us
 | .choice l=> ∃x∈l,cR E O I K w0 w h m x.1 x.2
 | .yield l args=> ∃(L:Loc) (us:List Value),O l=some L/\cj O I args us/\m.run E.P w=(Instr.yield L.blk us.toArray).run E.P w
 | .defer d=> ∃dd,m.run E.P w= .ok (.defer dd) w/\DR O I d dd
 | .bad=>True
theorem cR.of{v:AV}(k:Ok E.P O I K w0 w h m v h'):cR E O I K w0 w h (do pure (.value (<-m))) v h':=by
 obtain⟨ac,u,w',h1,h2,h3,h4⟩:=k;exact⟨ac,u,w',.inl (by simp_all),h2,h3,h4⟩
theorem cR.ofPure{v:AV}(r:HR O I K w0 h w)(k: ∃u,VR O I v u/\m.run E.P w= .ok u w):cR E O I K w0 w h (do pure (.value (<-m))) v h:=by
 obtain⟨u,h1,h2⟩:=k;exact .of ⟨O,u,w,h2,h1,r,.refl _ _⟩
theorem cR.ofU{m:Sem Unit}(k:Dt E.P O I K w0 w h m h'):cR E O I K w0 w h (do m;pure .skip) .undef h':=by
 obtain⟨w',h1,h2,h3⟩:=k;exact⟨O,Go.undef,w',.inr ⟨rfl,by simp_all⟩,⟨#[],rfl,rfl⟩,h2,h3⟩
theorem vT{x:Option AV}(r:HR O I K w0 h w)(k: ∀v,x=some v-> ∃u,VR O I v u/\m.run E.P w= .ok u w):cO E O I K w0 w h (do pure (.value (<-m))) (ov x h):=by
 cases x with
 |none=>trivial
 |some v=>exact .ofPure r (k v rfl)
theorem Cn{x:Option (AV×Heap)}(k: ∀v h',x=some (v,h')->Ok E.P O I K w0 w h m v h'):cO E O I K w0 w h (do pure (.value (<-m))) (oh x):=by
 cases x with
 |none=>trivial
 |some p=>exact .of (k p.1 p.2 rfl)
theorem Wk{m:Sem Unit}{x:Option Heap}(k: ∀h',x=some h'->Dt E.P O I K w0 w h m h'):cO E O I K w0 w h (do m;pure .skip) (os x):=by
 cases x with
 |none=>trivial
 |some p=>exact .ofU (k p rfl)
def dW(O:bY)(I:Opq)(af:Operand->Option AV)(ρ:Operand->Value):Prop:= ∀x a,af x=some a->VR O I a (ρ x)
theorem dW.mono{ac:bY}{ρ:Operand->Value}(hl:Le O ac)(o:dW O I af ρ):dW ac I af ρ:=λx a e=>VR.mono hl _ _ (o x a e)
theorem rR{af:Operand->Option AV}{ρ:Operand->Value}(o:dW O I af ρ): ∀{l:List Operand} {vs:List AV},evs af l=some vs->cj O I vs (l.map ρ)
 | [],vs,e=>by simp[evs,j0]at e;subst e;rfl
 |x::r,vs,e=>by
  simp[evs]at e;split at e
  .rename_i v vs' h1 h2;simp at e;subst e;exact .cons (o x v h1) (rR o h2)
  .cases e
theorem NU{af:Operand->Option AV}{ρ:Operand->Value}(o:dW O I af ρ): ∀{l:List (Nat×Operand)} {vs:List (Nat×AV)},iR af l=some vs->
 vs.map (·.1)=(l.map λp=>(p.1,ρ p.2)).map (·.1)/\cj O I (vs.map (·.2)) ((l.map λp=>(p.1,ρ p.2)).map (·.2))
 | [],vs,e=>by simp[iR,j0]at e;subst e;exact⟨rfl,.nil⟩
 |(i,x)::r,vs,e=>by
  simp[iR]at e;split at e
  .rename_i v vs' h1 h2;simp at e;subst e;obtain⟨q1,q2⟩:=NU o h2;exact⟨by grind,.cons (o x v h1) q2⟩
  .cases e
theorem uY{ρ:Operand->Value}(o:dW O I af ρ){x:Option Operand}{v:Option AV}(e:eI af x=some v):OR O I v (x.map ρ):=by
 cases x with
 |none=>simp[eI,j0]at e;subst e;rfl
 |some x=>
  simp[eI,o9]at e;obtain⟨a,ha,rfl⟩:=e;exact⟨_,rfl,o x a ha⟩
def ea5(P:Program)(O:bY)(I:Opq)(K:Nat->Prop)(w0 w:World)(h:Heap)(m:Sem Value):Res->Prop
 | .val a h'=>Ok P O I K w0 w h m a h'
 | .need e a h'=>dB I e=true->Ok P O I K w0 w h m a h'
 | .bad=>True
 |_=>False
theorem da6{e:Ext}(r:HR O I K w0 h w)(ra:cj O I args us.toList):ea5 E.P O I K w0 w h (e.model us) (LN E.P e args h):=by
 trivial
theorem YB(hE:E.Ok I){us:List Value}(r:HR O I K w0 h w)(ra:cj O I args us):cO E O I K w0 w h (callFunc f us.toArray) (BX E f args h):=by
 unfold BX;split
 .trivial
 .rename_i fn hf;have hn:=hE.name f fn hf;split
  .rename_i c hb;refine⟨us,?_,ra⟩;simp only[callFunc,Sem.run_bind,run_program,Result.andThen_ok,hf,hn,hb,n8,if_false,Option.isNone_some,Sem.run_pure]
  .rename_i hb;split
   .rename_i e he;obtain⟨fn',h1,h2,h3,h4⟩:=hE.ext f e he;rw[hf]at h1;simp at h1;subst h1;have one: ∀v h',Ok E.P O I K w0 w h (e.model us.toArray) v h'->cR E O I K w0 w h (callFunc f us.toArray) v h':=by
     rintro v h' ⟨ac,u,w',g1,g2,g3,g4⟩;refine⟨ac,u,w',.inl ?_,g2,g3,g4⟩;simp only[callFunc,Sem.run_bind,run_program,Result.andThen_ok,hf,hn,hb,n8,if_false,Option.isNone_none,if_true,run_mark,h3,h4,g1,Sem.run_pure]
    have plain:cO E O I K w0 w h (callFunc f us.toArray) (oh (Db E.P e args h)):=by
     cases hx:Db E.P e args h with
     |none=>trivial
     |some p=>exact one _ _ (da5 (us:=us.toArray) (a:=p.1) (h':=p.2) r hx (by simpa using ra))
    have ys:cO E O I K w0 w h (callFunc f us.toArray) (LN E.P e args h):=by
     have:=da6 (E:=E) (e:=e) (us:=us.toArray) r (by simpa using ra);cases hy:LN E.P e args h<;>rw[hy]at this<;>first
      |trivial
      |exact this.elim
      |exact one _ _ this
      |exactλhd=>one _ _ (this hd)
    have fin:cO E O I K w0 w h (callFunc f us.toArray) (e33 E.P e args h):=by
     cases e with
     |overlaps t rt=>
      rcases cJ6 (t:=t) (rt:=rt) (us:=us.toArray) r (by simpa using ra)with h5|⟨l,h5,x,hx,h6⟩
      .show cO E O I K w0 w h _ (BE t E.P args h);rw[h5];trivial
      .show cO E O I K w0 w h _ (BE t E.P args h);rw[h5];exact⟨x,hx,one _ _ h6⟩
     |_=>exact plain
    unfold orY;grind
   .trivial
section
variable{P:Program}
theorem c62(e:IX P t name=some f): ∃i m d pr,P.info? t=some i/\i.methods.find? (·.name==name)=some m/\m.path.toList=[]/\m.func=some (f,pr)/\P.underlying t=some d/\((pr=true/\ ∃el,d= .pointer el)\/(pr=false/\ ∀el,d≠ .pointer el)):=by
 unfold IX at e;grind
theorem bs0{i:TypeInfo}(e:P.info? t=some i)(w:World):(typeInfo t).run P w= .ok i w:=by
 grind[typeInfo,Sem.run_bind,run_program,Result.andThen_ok,Sem.run_pure]
theorem bs1(e:IX P t name=some f)(n:Nat)(v:Value)(w:World):(nilAhead (n+1) t v name).run P w= .ok (some false) w:=by
 obtain⟨i,m,d,pr,h1,h2,h3,h4,h5,h6⟩:=c62 e;simp[nilAhead,Sem.run_bind,bs0 h1,Result.andThen_ok,h2,h3,followBlind,Sem.run_pure,h4];rcases h6 with⟨rfl,el,rfl⟩|⟨rfl,hd⟩
 .rfl
 .simp[Sem.run_bind,run_underlying h5,Result.andThen_ok];cases d with
  |pointer el=>exact absurd rfl (hd el)
  |_=>simp
end
theorem WD(hE:E.Ok I){first cap:List AV}{x y:Array Value}{us:List Value}(r:HR O I K w0 h w)(rx:cj O I first x.toList)(ra:cj O I args us):
 cO E O I K w0 w h (do let d <-Deferred.ofValue (.func (.method name) x y) us.toArray;invoke d.target d.args) (Uz E name first args h):=by
 trivial
theorem WJ(hE:E.Ok I){f:AV}{vf:Value}{us:List Value}(r:HR O I K w0 h w)(rf:VR O I f vf)(ra:cj O I args us):
 cO E O I K w0 w h (do let d <-Deferred.ofValue vf us.toArray;invoke d.target d.args) (Mh E f args h):=by
 unfold Mh;split
 .rename_i g first cap
  obtain⟨-,x,y,rfl,rx,ry⟩:=rf;have:=YB hE (f:=g) r ((rx.append ra).append ry);have hrun: ∀w,(do let d <-Deferred.ofValue (.func (.func g) x y) us.toArray;invoke d.target d.args:Sem Next).run E.P w=(callFunc g (x.toList++us++y.toList).toArray).run E.P w:=by
   intro w;simp[Deferred.ofValue,Sem.run_bind,Sem.run_pure,Result.andThen_ok,invoke];congr 1;congr 1;grind
  cases hres:BX E g (first++args++cap) h<;>rw[hres]at this
  .obtain⟨ac,u,w',q1,q2⟩:=this;exact⟨ac,u,w',by grind,q2⟩
  .intro hd;obtain⟨ac,u,w',q1,q2⟩:=this hd;exact⟨ac,u,w',by grind,q2⟩
  .refine⟨λhd=> ?_,λhd=> ?_⟩
   .obtain⟨ac,u,w',q1,q2⟩:=this.1 hd;exact⟨ac,u,w',by grind,q2⟩
   .obtain⟨x,hx,ac,u,w',q1,q2⟩:=this.2 hd;exact⟨x,hx,ac,u,w',by grind,q2⟩
  .obtain⟨vs,q1,q2⟩:=this;exact⟨vs,by grind,q2⟩
  .obtain⟨x,hx,ac,u,w',q1,q2⟩:=this;exact⟨x,hx,ac,u,w',by grind,q2⟩
  .obtain⟨L,vs,q1,q2,q3⟩:=this;exact⟨L,vs,q1,q2,by grind⟩
  .obtain⟨d,q1,q2⟩:=this;exact⟨d,by grind,q2⟩
  .trivial
 .rename_i name first cap
  obtain⟨-,x,y,rfl,rx,ry⟩:=rf;exact WD hE (cap:=cap) r rx ra
 .obtain⟨L,hL,rfl⟩:=rf;refine⟨L,us,hL,ra,?_⟩;grind[Deferred.ofValue,Sem.run_bind,Sem.run_pure,Result.andThen_ok,invoke,Array.ext']
 .trivial
def cJ7:Value->Bool
 | .pointer none| .nilIface| .nilFunc=>false
 | .func (.method _) _ _=>false
 |_=>true
theorem bF8{x:AV}{v:Value}(r:VR O I x v){a:AV}(e:HJ x=some a):a=x/\cJ7 v=true:=by
 unfold HJ at e;split at e
 .cases e
 .cases e
 .cases e
 .cases e
 .cases e
 .cases e
 .rename_i h1 h2 h3 h4 h6 h5;simp at e;refine⟨e.symm,?_⟩;cases x<;>simp only[VR]at r;case nilp=>grind
  case nilf=>grind
  case nili=>grind
  case opq n=>grind
  case any=>grind
  case func fn a b=>
   obtain⟨-,p,q,rfl,-⟩:=r;cases fn<;>first|rfl|grind
  all_goals first
   |(rcases r with⟨L,c,_,rfl,_⟩|⟨rfl,_⟩<;>rfl)
   |(rcases r with⟨L,c,_,_,rfl,_⟩|⟨rfl,_⟩<;>rfl)
   |(rcases r with⟨L,c,_,_,rfl,_⟩|⟨_,_,rfl,_⟩<;>rfl)
   |(subst r;rfl)
   |(obtain⟨L,_,rfl⟩:=r;rfl)
   |(obtain⟨L,c,_,_,rfl⟩:=r;rfl)
   |(obtain⟨L,a,c,_,rfl,_⟩:=r;rfl)
   |(obtain⟨a,rfl⟩:=r;rfl)
   |(obtain⟨a,rfl,_⟩:=r;rfl)
end Go.Ev
