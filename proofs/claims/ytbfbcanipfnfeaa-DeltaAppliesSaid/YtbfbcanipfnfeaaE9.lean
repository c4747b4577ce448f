import Derived.Test.YtbfbcanipfnfeaaE8
import Derived.Lib.AppendZerosOnto
set_option linter.unusedVariables false
set_option linter.unusedSimpArgs false
namespace Go.Ev
open Go
variable{P:Program}{β:Bij}{ω:Opq}{K:Nat→Prop}{w0 w:World}{h h':Heap}
theorem bV1{need old bytes:Nat}(h:old<need)(hn:need≤room)(hb:bytes≤1000):((need:Nat):Int)≤9223372036854775807∧Builtin.nextslicecap need old*bytes≤281474976710656:=by
 have h1:need*bytes≤1000000*1000:=D9 hn hb
 refine⟨?_,growslice_fits h (by omega)⟩
 have:need≤1000000:=hn
 omega
theorem bH7(n:Nat)(z:List AV):(rep n z).length=n*z.length:=by
 induction n with
 |zero=>simp[rep]
 |succ n ih=>simp[rep,ih,l7,y6]
theorem b07{n:Nat}{z:List AV}(ho:z.all AV.one=true):(rep n z).all AV.one=true:=by
 induction n with
 |zero=>rfl
 |succ n ih=>simp only[rep,B2,d6];exact⟨ho,ih⟩
theorem aw4{z:List AV}{zs:Array Value}(r:VRs β ω z zs.toList)(hp:0<zs.size): ∀n,VRs β ω (rep n z) ((Array.range (n*zs.size)).map (fun i=>zs[i % zs.size]!)).toList
 |0=>by simp[rep];exact .nil
 |n+1=>by
  have ih:=aw4 r hp n
  have:((Array.range ((n+1)*zs.size)).map (fun i=>zs[i % zs.size]!)).toList=zs.toList++((Array.range (n*zs.size)).map (fun i=>zs[i % zs.size]!)).toList:=by
   simp only[J7,Array.toList_range]
   rw[l7,A5,y6,List.range_add,r8,B3]
   congr 1
   ·apply G0 (by simp)
    intro i h1 h2
    simp only[m5,E1]at h1
    simp[Nat.mod_eq_of_lt h1,h1]
   ·apply B4
    intro i _
    simp
  rw[this]
  exact r.append ih
theorem ar1{z:List AV}{zs:Array Value}(r:VRs β ω z zs.toList)(hp:0<zs.size)(n:Nat):VRs β ω (rep n z) (Builtin.zeroCells zs n).toList:=aw4 r hp n
def SrcZ(P:Program)(i:TypeInfo)(z:Value)(tx:TypeId)(x:Value)(n:Nat)(news:List Value)(w:World):Prop:=
 Src P i.size tx x n news w∨ ∃kq kn,P.underlying tx=some (.int kn)∧x= .int kq n∧n≤room∧i.bytes≤1000∧news=(Builtin.zeroCells z.cells n).toList∧news.length=n*i.size∧ ∀u∈news,u.oneCell'=true
theorem SrcZ.nothing{t tx ty elem:TypeId}{i:TypeInfo}{z:Value}{x:Value}(ht:P.underlying t=some (.slice elem))(hi:P.info? elem=some i)(hs:SrcZ P i z tx x 0 [] w)(base:Option Addr)(sLen sCap:Nat)(hle:sLen≤sCap):
 (Builtin.append_ #[t,tx] ty #[.slice base sLen sCap,x]).run P w= .ok (.slice base sLen sCap) w:=by
 rcases hs with hs|⟨kq,kn,h1,rfl,h3,h4,h5,h6,h7⟩
 ·exact run_append_nothing w t tx ty elem i ht hi base sLen sCap hle x hs
 ·have hw:IntKind.i64.wrap (0:Int)=0:=by decide
  cases base<;>simp[Builtin.append_,run_underlying ht,run_underlying h1,sizeOf,typeInfo,hi,asInt,asIntOf,hw,hle,storeCells]
theorem SrcZ.room{t tx ty elem:TypeId}{i:TypeInfo}{z:Value}{x:Value}{n:Nat}{news:List Value}(ht:P.underlying t=some (.slice elem))(hi:P.info? elem=some i)(hz:i.zero=some z)(hs:SrcZ P i z tx x n news w)(b off sLen sCap:Nat)
 (hroom:sLen+n≤sCap) (hc: ∀j,j<news.length→(w.cell? ⟨b,off+sLen*i.size+j,none⟩).isSome=true) (hf: ∀j,j<news.length→w.frozen? ⟨b,off+sLen*i.size+j,none⟩=false):
 (Builtin.append_ #[t,tx] ty #[.slice (some ⟨b,off,none⟩) sLen sCap,x]).run P w= .ok (.slice (some ⟨b,off,none⟩) (sLen+n) sCap) (w.setCells b (off+sLen*i.size) news):=by
 rcases hs with hs|⟨kq,kn,h1,rfl,h3,h4,h5,h6,h7⟩
 ·exact run_append_room_src w t tx ty elem i ht hi b off sLen sCap x n news hs hroom hc hf
 ·have hst:=run_storeCells_cells (P:=P) b (off+sLen*i.size) news 0 w (by simpa using hc) (by simpa using hf) h7
  simp only[Nat.add_zero]at hst
  have h3':n≤1000000:=h3
  have hmul:n*i.bytes≤1000000*1000:=D9 h3' h4
  have hw:IntKind.i64.wrap (n:Int)=n:=by rw[IntKind.wrap_i64];omega
  have h48i: ¬(281474976710656<(n:Int)*(i.bytes:Int)):=by rw[←Int.natCast_mul];omega
  have hneg: ¬((n:Int)<0):=by omega
  by_cases h0:n*i.size=0
  ·have hn:news=[]:=v8 (by rw[h6,h0])
   rw[hn]at hst⊢
   simp[Builtin.append_,run_underlying ht,run_underlying h1,sizeOf,typeInfo,zeroValue,hi,hz,asInt,asIntOf,hw,hneg,h48i,hroom,h0,Addr.add_lit,hst]
  ·have hn:(Builtin.zeroCells z.cells n).toList=news:=h5.symm
   simp[Builtin.append_,run_underlying ht,run_underlying h1,sizeOf,typeInfo,zeroValue,hi,hz,asInt,asIntOf,hw,hneg,h48i,hroom,h0,Addr.add_lit,hn,hst]
theorem SrcZ.grow{t tx ty elem:TypeId}{i:TypeInfo}{z:Value}{x:Value}{n:Nat}{news:List Value}(ht:P.underlying t=some (.slice elem))(hi:P.info? elem=some i)(hz:i.zero=some z)(hs:SrcZ P i z tx x n news w)(h0:0<n)(h1:0<i.size)(base:Option Addr)(sLen sCap:Nat)(olds:List Value)
 (hold:(Builtin.firstCells i.size sLen (.slice base sLen sCap)).run P w.drew= .ok olds.toArray w.drew) (hg:sCap<sLen+n) (h63:((sLen+n:Nat):Int)≤9223372036854775807) (hfit:Builtin.nextslicecap (sLen+n) sCap*i.bytes≤281474976710656):
 (Builtin.append_ #[t,tx] ty #[.slice base sLen sCap,x]).run P w=
  .ok (.slice (some ⟨w.heap.size,0,none⟩) (sLen+n) (grownCap w (sLen+n) sCap elem))
   (w.drew.alloc (.cells ((olds++news).toArray++Builtin.zeroCells z.cells (grownCap w (sLen+n) sCap elem-(sLen+n))) elem)):=by
 rcases hs with hs|⟨kq,kn,g1,rfl,g3,g4,g5,g6,g7⟩
 ·exact run_append_grow_src w t tx ty elem i z ht hi hz base sLen sCap olds hold x n news hs hg h63 hfit
 ·have g3':n≤1000000:=g3
  have hmul:n*i.bytes≤1000000*1000:=D9 g3' g4
  rw[Lib.run_append_grow_zeros w t tx ty elem i z kq kn ht g1 hi hz base sLen sCap olds hold n h0 h1 hg h63 (by omega) hfit,g5]
  congr 3
  apply y8
  simp
theorem cz6{yt elem:TypeId}{i:TypeInfo}{zv:Value}{z:List AV}{n:Nat}{y:AV}{new:List AV}{v:Value}(r:HR β ω K w0 h w)(e:d67 P yt i.size z y h=some (n,new))(ry:VR β ω y v)(hz:VRs β ω z zv.cells.toList)(hzs:zv.cells.size=i.size)(hb:i.bytes≤1000):
 ∃news,VRs β ω new news∧new.all AV.one=true∧new.length=n*i.size∧SrcZ P i zv yt v n news w:=by
 have main:((∃e',P.underlying yt=some (.slice e'))∨P.underlying yt=some .string)→d28 i.size y h=some (n,new)→
  ∃news,VRs β ω new news∧new.all AV.one=true∧new.length=n*i.size∧SrcZ P i zv yt v n news w:=by
  intro hk e
  unfold d28 at e
  split at e
  ·rename_i m hm
   simp only[j6]at e
   obtain⟨l,hl,e⟩:=e
   obtain⟨hc,e⟩:=M7 e
   rw[M8]at hc
   simp only[a8,d7]at e
   obtain⟨rfl,rfl⟩:=e
   obtain⟨us,u1,u2,u3⟩:=af7 (P:=P) r hl ry
   exact⟨us,u1,u2,hc,.inl ⟨hk,fun w'=>b06 hm ry w',u3 w rfl,u3 w.drew rfl,by rw[u1.length];exact hc,bl4 u2 u1⟩⟩
  ·cases e
 unfold d67 at e
 split at e
 ·rename_i e' he;exact main (.inl ⟨e',he⟩) e
 ·rename_i he;exact main (.inr he) e
 ·rename_i kn he
  unfold dc7 at e
  split at e
  ·rename_i k m
   split at e
   ·rename_i q hq
    obtain⟨hc,e⟩:=M7 e
    obtain⟨hc,c3⟩:=M6 hc
    obtain⟨c1,c2⟩:=M6 hc
    rw[N1]at c1
    rw[N9]at c3
    simp only[a8,d7]at e
    obtain⟨rfl,rfl⟩:=e
    have hm:m=(q:Int):=by
     cases m with
     |ofNat m=>simp only[a51,a8]at hq;rw[hq];rfl
     |negSucc m=>cases hq
    simp only[VR]at ry
    have hzl:z.length=i.size:=by have:=hz.length;simp at this;omega
    have rr:=ar1 hz (by omega) q
    have hl:(rep q z).length=q*i.size:=by rw[bH7,hzl]
    exact⟨_,rr,b07 c2,hl,.inr ⟨k,kn,he,by rw[ry,hm],c1,hb,rfl,by rw[rr.length];exact hl,bl4 (b07 c2) rr⟩⟩
   ·cases e
  ·cases e
 ·cases e
theorem an8{t tx ty elem:TypeId}{i:TypeInfo}{z:Value}{sLen sCap n:Nat}{base:Option Addr}{x:Value}{old new:List AV}{olds news:List Value}(r:HR β ω K w0 h w)
 (ht:P.underlying t=some (.slice elem)) (hi:P.info? elem=some i) (hz:i.zero=some z) (hzs:z.cells.size=i.size)
 (hold:(Builtin.firstCells i.size sLen (.slice base sLen sCap)).run P w.drew= .ok olds.toArray w.drew) (hs:SrcZ P i z tx x n news w) (h0n:0<n) (h0s:0<i.size) (hg:sCap<sLen+n) (hn:sLen+n≤room) (hb:i.bytes≤1000)
 (ro:VRs β ω old olds) (oo:old.all AV.oneA=true) (lo:old.length=sLen*i.size) (rn:VRs β ω new news) (on:new.all AV.one=true) (ln:new.length=n*i.size) (fz:Nat):
 Ok P β ω K w0 w h (Builtin.append_ #[t,tx] ty #[.slice base sLen sCap,x]) (.us h.next 0 (sLen+n) i.size) (h.new (.cells elem fz (old++new))):=by
 obtain⟨g1,g2⟩:=bV1 (bytes:=i.bytes) hg hn hb
 have hrun:=hs.grow (ty:=ty) ht hi hz h0n h0s base sLen sCap olds hold hg g1 g2
 have hge:=grownCap_ge w (sLen+n) sCap elem
 have h1:=ro.length
 have h2:=rn.length
 obtain⟨p1,p2⟩:=bH6 r elem (old++new) (olds++news) (Builtin.zeroCells z.cells (grownCap w (sLen+n) sCap elem-(sLen+n))) (by rw[B2,aG9 on,oo];rfl) (ro.append rn)
   (grownCap w (sLen+n) sCap elem*i.size) (by
    rw[size_zeroCells,hzs,e8,h1,h2,lo,ln,Nat.sub_mul,←l7]
    have:(sLen+n)*i.size≤grownCap w (sLen+n) sCap elem*i.size:=t8 _ hge
    omega) fz
 exact⟨_,_,_,hrun,⟨⟨w.heap.size,0,grownCap w (sLen+n) sCap elem*i.size⟩,grownCap w (sLen+n) sCap elem,Bij.add_self _ _ _,by simp,by simp⟩,p1,p2⟩
theorem bV2{t tx ty elem:TypeId}{i:TypeInfo}{z:Value}{b o sLen sCap n:Nat}{L:Loc}{x:Value}{new:List AV}{news:List Value}(r:HR β ω K w0 h w)
 (ht:P.underlying t=some (.slice elem)) (hi:P.info? elem=some i) (hz:i.zero=some z) (hs:SrcZ P i z tx x n news w) (hroom:sLen+n≤sCap) (hL:β b=some L) (rn:VRs β ω new news)
 (e:putCells h b (o+sLen*i.size) new=some h'):
 (Builtin.append_ #[t,tx] ty #[.slice (some ⟨L.blk,L.off+o,none⟩) sLen sCap,x]).run P w= .ok (.slice (some ⟨L.blk,L.off+o,none⟩) (sLen+n) sCap) (w.setCells L.blk (L.off+o+sLen*i.size) news)∧
  HR β ω K w0 h' (w.setCells L.blk (L.off+o+sLen*i.size) news)∧St h β h' β:=by
 obtain⟨p1,p2,p3⟩:=Y1 (P:=P) r e hL rn
 rw[show L.off+(o+sLen*i.size)=L.off+o+sLen*i.size by omega]at p1 p2
 refine⟨?_,p2,p3⟩
 refine hs.room ht hi hz L.blk (L.off+o) sLen sCap hroom ?_ ?_
 all_goals
  unfold putCells at e
  split at e
  ·rw[show news=[]from rn];intro j hj;simp at hj
  ·split at e
   ·rename_i el fz cs hg
    obtain⟨hc,e⟩:=M7 e
    obtain⟨hc,c4⟩:=M6 hc
    obtain⟨hc,c3⟩:=M6 hc
    obtain⟨c1,c2⟩:=M6 hc
    rw[N1]at c1 c2 c3
    obtain⟨C,lo,hi',xs,q1,q2,q3,q4,q5,q6,q7⟩:=r.cells hg hL
    have hl:=rn.length
    intro j hj
    first
     |(rw[a41 q1]
       have:L.off+o+sLen*i.size+j<C.size:=by omega
       rw[p7 this];rfl)
     |exact a28 q1 (by have:=q7 (o+sLen*i.size+j) (by omega) (by omega);rw[show L.off+o+sLen*i.size+j=L.off+(o+sLen*i.size+j) by omega];exact this)
   ·cases e
theorem cU9{t tx ty elem:TypeId}{i:TypeInfo}{z:Value}{b o sLen sCap n fz:Nat}{L:Loc}{x:Value}{cs new:List AV}{news:List Value}(r:HR β ω K w0 h w)
 (ht:P.underlying t=some (.slice elem)) (hi:P.info? elem=some i) (hz:i.zero=some z) (hzs:z.cells.size=i.size) (h0:0<i.size) (hs:SrcZ P i z tx x n news w) (h0n:0<n) (hn:sLen+n≤room) (hb:i.bytes≤1000)
 (hL:β b=some L) (hg:h.get b=some (.cells elem fz cs)) (hwm:h.wm≤b) (hext:o+sCap*i.size=L.ext) (hfz:fz≤o+sLen*i.size) (hlen:o+sLen*i.size≤cs.length)
 (rn:VRs β ω new news) (on:new.all AV.one=true) (ln:new.length=n*i.size) (hnf:ω.fix elem=false) (fz':Nat) (hfz':fz-o≤fz'):
 Ok P β ω K w0 w h (Builtin.append_ #[t,tx] ty #[.slice (some ⟨L.blk,L.off+o,none⟩) sLen sCap,x]) (.us h.next 0 (sLen+n) i.size) ((h.put b none).new (.cells elem fz' ((cs.drop o).take (sLen*i.size)++new))):=by
 have hnl:=rn.length
 obtain⟨C,lo,hi',xs,q1,q2,q3,q4,q5,q6,q7⟩:=r.cells hg hL
 have hxl:=q5.length
 have ho1:((cs.drop o).take (sLen*i.size)).all AV.oneA=true:=i6.2 fun x hx=>i6.1 q4 x (List.mem_of_mem_drop (J6 hx))
 have hol:((cs.drop o).take (sLen*i.size)).length=sLen*i.size:=by simp;omega
 by_cases hroom:sLen+n≤sCap
 ·have hmul:(sLen+n)*i.size≤sCap*i.size:=t8 _ hroom
  rw[l7]at hmul
  have hrun:=hs.room (ty:=ty) ht hi hz L.blk (L.off+o) sLen sCap hroom
   (fun j hj=>by
    rw[a41 q1]
    have:L.off+o+sLen*i.size+j<C.size:=by omega
    rw[p7 this];rfl)
   (fun j hj=>a28 q1 (by have:=q7 (o+sLen*i.size+j) (by omega) (by omega);rw[show L.off+o+sLen*i.size+j=L.off+(o+sLen*i.size+j) by omega];exact this))
  obtain⟨C',s1,s2,s3⟩:=a54 L.blk elem (lo,hi') news (L.off+o+sLen*i.size) w C q1
  obtain⟨t1,t2,t3,t4⟩:=a56 L.blk news (L.off+o+sLen*i.size) w
  have hle:Le β (β.add h.next ⟨L.blk,L.off+o,L.ext-o⟩):=by
   intro b' M hb'
   simp only[Bij.add]
   by_cases e:b'=h.next
   ·subst e;rw[r.fresh _ (b9 _)]at hb';cases hb'
   ·rw[if_neg e];exact hb'
  obtain⟨p1,p2⟩:=HR.rename (w':=w.setCells L.blk (L.off+o+sLen*i.size) news) r b _ (.cells elem fz' ((cs.drop o).take (sLen*i.size)++new)) L ⟨L.blk,L.off+o,L.ext-o⟩ hg hL hwm rfl
   (fun k hk=>a20 L.blk news _ w k hk) t1 t2 t3 t4 (a21 _ _ _ _) (by
    rw[s1]
    refine⟨C',lo,hi',(xs.drop o).take (sLen*i.size)++news,rfl,by simp only[];omega,by simp only[e8,hol,ln];omega,by rw[B2,ho1,aG9 on];rfl,?_,fun k hk=> ?_,fun k hk1 hk2=> ?_,fun hh=>by rw[hnf]at hh;cases hh⟩
    ·exact VRs.mono hle _ _ (((q5.drop o).take _).append rn)
    ·simp only[e8,hol,ln]at hk
     show C'[L.off+o+k]? =_
     rw[s3 _ (by omega)]
     have hx2:((xs.drop o).take (sLen*i.size)).length=sLen*i.size:=by simp;omega
     by_cases g:k<sLen*i.size
     ·rw[if_neg (by omega),j5 (by omega),n8,if_pos g,o9,l8,q6 (o+k) (by omega)]
     ·rw[if_pos (by omega),j3 (by omega),hx2]
      congr 1;omega
    ·simp only[]at hk2
     have:=q7 (o+k) (by omega) (by omega)
     simp only[]
     rw[l8];exact this)
  exact⟨_,_,_,hrun,⟨⟨L.blk,L.off+o,L.ext-o⟩,sCap,Bij.add_self _ _ _,by simp only[];omega,by simp⟩,p1,p2⟩
 ·obtain⟨olds,u1,u2,u3⟩:=W8 r hg hL hlen
  obtain⟨r1,st1⟩:=r.kill b L hL
  have hold:(Builtin.firstCells i.size sLen (.slice (some ⟨L.blk,L.off+o,none⟩) sLen sCap)).run P w.drew= .ok olds.toArray w.drew:=
   run_firstCells_some w.drew i.size sLen _ sLen sCap olds u2 (fun j v hj=>by rw[U7];exact u3 j v hj)
  obtain⟨β',v,w',e1,e2,e3,e4⟩:=an8 (ty:=ty) (h:=h.put b none) r1 ht hi hz hzs hold hs h0n h0 (by omega) hn hb u1 ho1 hol rn on ln fz'
  exact⟨β',v,w',e1,e2,e3,st1.trans e4⟩
theorem d86{t tx ty elem:TypeId}{i:TypeInfo}{z:Value}{b o sCap n fz:Nat}{L:Loc}{ad:Addr}{x:Value}{cs new:List AV}{news:List Value}(r:HR β ω K w0 h w)
 (ht:P.underlying t=some (.slice elem)) (hi:P.info? elem=some i) (hz:i.zero=some z) (hzs:z.cells.size=i.size) (h0:0<i.size) (hs:SrcZ P i z tx x n news w) (hn:0+n≤room) (hb:i.bytes≤1000)
 (hL:β b=some L) (hg:h.get b=some (.cells elem fz cs)) (hwm:h.wm≤b) (hor:sCap=0∨ad=⟨L.blk,L.off+o,none⟩∧o+sCap*i.size=L.ext) (hfz:fz≤o)
 (rn:VRs β ω new news) (on:new.all AV.one=true) (ln:new.length=n*i.size) (hnf:ω.fix elem=false) (hn0:0<n):
 Ok P β ω K w0 w h (Builtin.append_ #[t,tx] ty #[.slice (some ad) 0 sCap,x]) (.us h.next 0 n i.size) ((h.put b none).new (.cells elem 0 new)):=by
 have hnl:=rn.length
 obtain⟨C,lo,hi',xs,q1,q2,q3,q4,q5,q6,q7⟩:=r.cells hg hL
 by_cases hroom:0+n≤sCap
 ·rcases hor with hor|⟨rfl,hext⟩
  ·omega
  have hmul:(0+n)*i.size≤sCap*i.size:=t8 _ hroom
  rw[i3]at hmul
  have hrun:=hs.room (ty:=ty) ht hi hz L.blk (L.off+o) 0 sCap hroom
   (fun j hj=>by
    rw[a41 q1]
    have:L.off+o+0*i.size+j<C.size:=by omega
    rw[p7 this];rfl)
   (fun j hj=>a28 q1 (by have:=q7 (o+j) (by omega) (by omega);rw[show L.off+o+0*i.size+j=L.off+(o+j) by omega];exact this))
  rw[show L.off+o+0*i.size=L.off+o by omega]at hrun
  obtain⟨C',s1,s2,s3⟩:=a54 L.blk elem (lo,hi') news (L.off+o) w C q1
  obtain⟨t1,t2,t3,t4⟩:=a56 L.blk news (L.off+o) w
  have hle:Le β (β.add h.next ⟨L.blk,L.off+o,L.ext-o⟩):=by
   intro b' M hb'
   simp only[Bij.add]
   by_cases e:b'=h.next
   ·subst e;rw[r.fresh _ (b9 _)]at hb';cases hb'
   ·rw[if_neg e];exact hb'
  obtain⟨p1,p2⟩:=HR.rename (w':=w.setCells L.blk (L.off+o) news) r b _ (.cells elem 0 new) L ⟨L.blk,L.off+o,L.ext-o⟩ hg hL hwm rfl
   (fun k hk=>a20 L.blk news _ w k hk) t1 t2 t3 t4 (a21 _ _ _ _) (by
    rw[s1]
    refine⟨C',lo,hi',news,rfl,by simp only[];omega,by simp only[ln];omega,aG9 on,VRs.mono hle _ _ rn,fun k hk=> ?_,fun k hk1 hk2=> ?_,fun hh=>by rw[hnf]at hh;cases hh⟩
    ·show C'[L.off+o+k]? =_
     rw[s3 _ (by omega),if_pos (by omega)]
     congr 1;omega
    ·simp only[]at hk2
     have:=q7 (o+k) (by omega) (by omega)
     simp only[]
     rw[l8];exact this)
  exact⟨_,_,_,hrun,⟨⟨L.blk,L.off+o,L.ext-o⟩,sCap,Bij.add_self _ _ _,by simp only[];omega,by simp⟩,p1,p2⟩
 ·obtain⟨r1,st1⟩:=r.kill b L hL
  obtain⟨β',v,w',e1,e2,e3,e4⟩:=an8 (ty:=ty) (h:=h.put b none) (old:=[]) (olds:=[]) (sLen:=0) r1 ht hi hz hzs (run_firstCells_some w.drew _ _ ad _ sCap [] (by simp) (by simp)) hs hn0 h0 (by omega) hn hb .nil rfl (by simp) rn on ln 0
  simp only[i3,List.nil_append]at e2 e3 e4
  exact⟨β',v,w',e1,e2,e3,st1.trans e4⟩
theorem dd5{α:Type}{a:Array α}{x y:α}(h0:a[0]? =some x)(h1:a[1]? =some y)(hs:a.size=2):a= #[x,y]:=by
 apply Array.ext (by simpa using hs)
 intro i hi hj
 have:i=0∨i=1:=by omega
 rcases this with rfl|rfl
 ·rw[p7 hi]at h0;simpa using h0
 ·rw[p7 hi]at h1;simpa using h1
theorem bv9{s:Nat}{x:AV}{v:Value}(h0:0<s)(r:HR β ω K w0 h w)(e:bi6 s x h=true)(rx:VR β ω x v): ∃b n c,v= .slice b n c∧n≤c∧ ∀m,ay9 x=some m→m=n:=by
 cases x with
 |nils=>simp only[VR]at rx;exact⟨_,_,_,rx,b9 _,fun m hm=>by simpa[ay9]using hm.symm⟩
 |es b o sz=>simp only[VR]at rx;obtain⟨L,a,c,_,rfl,_⟩:=rx;exact⟨_,_,_,rfl,k8 _,fun m hm=>by simpa[ay9]using hm.symm⟩
 |es0=>simp only[VR]at rx;obtain⟨a,rfl⟩:=rx;exact⟨_,_,_,rfl,b9 _,fun m hm=>by simpa[ay9]using hm.symm⟩
 |sl b o l c=>
  simp only[bi6]at e;rw[N1]at e
  simp only[VR]at rx;obtain⟨L,_,rfl⟩:=rx
  exact⟨_,_,_,rfl,e,fun m hm=>by simpa[ay9]using hm.symm⟩
 |us b o l sz=>
  simp only[bi6]at e
  obtain⟨e1,e2⟩:=M6 e
  rw[M8]at e1;subst e1
  simp only[VR]at rx;obtain⟨L,c,hL,hx,rfl⟩:=rx
  split at e2
  ·rename_i el fz cs hg
   rw[N1]at e2
   obtain⟨C,lo,hi,xs,q1,q2,q3,q4,q5,q6,q7⟩:=r.cells hg hL
   refine⟨_,_,_,rfl,?_,fun m hm=>by simpa[ay9]using hm.symm⟩
   have:l*s≤c*s:=by omega
   exact A1 this h0
  ·cases e2
 |_=>simp[bi6]at e
theorem cd9{x:AV}{n:Nat}{v:Value}(e:ay9 x=some n)(rx:VR β ω x v):(∃b c,v= .slice b n c)∨(∃l,x= .str l):=by
 cases x<;>simp only[ay9,a8,reduceCtorEq]at e<;>subst e<;>simp only[VR]at rx
 ·exact .inr ⟨_,rfl⟩
 ·exact .inl ⟨_,_,rx⟩
 ·obtain⟨L,_,rfl⟩:=rx;exact .inl ⟨_,_,rfl⟩
 ·obtain⟨L,c,_,_,rfl⟩:=rx;exact .inl ⟨_,_,rfl⟩
 ·obtain⟨L,a,c,_,rfl,_⟩:=rx;exact .inl ⟨_,_,rfl⟩
 ·obtain⟨a,rfl⟩:=rx;exact .inl ⟨_,_,rfl⟩
theorem bH8{ts:Array TypeId}{ty:TypeId}{x y a:AV}{vx vy:Value}(hfx: ∀t,ω.fix t=aq0 P t)(r:HR β ω K w0 h w)(e:bi7 P ts x y h=some (a,h'))(rx:VR β ω x vx)(ry:VR β ω y vy):
 Ok P β ω K w0 w h (Builtin.append_ ts ty #[vx,vy]) a h':=by
 unfold bi7 at e
 split at e
 ·rename_i elem yt h1 h2
  split at e
  ·rename_i lx i z hlx hi hz
   split at e
   ·cases e
   ·rename_i n new aF3
    replace e:=M7 e
    obtain⟨hc,e⟩:=e
    obtain⟨hc,c7⟩:=M6 hc
    have hnf:ω.fix elem=false:=by rw[hfx];simpa using c7
    obtain⟨hc,c6⟩:=M6 hc
    obtain⟨hc,c5⟩:=M6 hc
    obtain⟨hc,c4⟩:=M6 hc
    obtain⟨c1,c2⟩:=M6 hc
    rw[N9]at c1
    rw[M8]at c2 c6
    rw[N1]at c4 c5
    simp only[j6]at h1
    obtain⟨t,h0,ht⟩:=h1
    obtain rfl:=dd5 h0 h2 c6
    obtain⟨i',zv,hi',hzi,hzs,hzv⟩:=ba6 hz
    rw[hi]at hi';simp only[a8]at hi';subst hi'
    have hzs':zv.cells.size=i.size:=hzs.trans c2
    obtain⟨news,rn,on,ln,hs⟩:=cz6 (P:=P) (elem:=elem) r aF3 ry (hzv β ω) hzs' c5
    cases hn:Nat.beq n 0 with
    |true=>
     rw[hn]at e
     replace e:(bif bi6 i.size x h then some (x,h)else none)=some (a,h'):=e
     obtain⟨hf,e⟩:=M7 e
     simp only[a8,d7]at e
     obtain⟨rfl,rfl⟩:=e
     rw[M8]at hn;subst hn
     obtain⟨b,m,c,rfl,hm,-⟩:=bv9 c1 r hf rx
     have:news=[]:=by have:=rn.length;rw[ln]at this;simpa using this
     subst this
     exact⟨β,_,_,hs.nothing ht hi b m c hm,rx,r,.refl _ _⟩
    |false=>
     rw[hn]at e
     replace e:aY3 elem i.size x n new h=some (a,h'):=e
     have hn0:0<n:=by rcases G1 n with h|h; ·subst h;cases hn
                      ·exact h
     unfold aY3 at e
     split at e
     ·simp only[a8,d7]at e
      obtain⟨rfl,rfl⟩:=e
      simp only[VR]at rx;subst rx
      simp only[ay9,a8]at hlx;subst hlx
      have:=an8 (ty:=ty) (old:=[]) (olds:=[]) (sLen:=0) (sCap:=0) (base:=none) r ht hi hzi hzs' (run_firstCells_none w.drew _ _ _ _) hs hn0 c1 (by omega) c4 c5 .nil rfl (by simp) rn on ln 0
      simpa using this
     ·simp only[a8,d7]at e
      obtain⟨rfl,rfl⟩:=e
      simp only[VR]at rx;obtain⟨ad,rfl⟩:=rx
      simp only[ay9,a8]at hlx;subst hlx
      have:=an8 (ty:=ty) (old:=[]) (olds:=[]) (sLen:=0) (sCap:=0) (base:=some ad) r ht hi hzi hzs' (run_firstCells_some w.drew _ _ _ _ _ [] (by simp) (by simp)) hs hn0 c1 (by omega) c4 c5 .nil rfl (by simp) rn on ln 0
      simpa using this
     ·rename_i b o len cap
      simp only[ay9,a8]at hlx;subst hlx
      have rx':=rx
      simp only[VR]at rx;obtain⟨L,hL,rfl⟩:=rx
      cases hr:Nat.ble (len+n) cap with
      |true=>
       rw[hr]at e;simp only[cond_true,j4,d7]at e
       obtain⟨h1,he,rfl,rfl⟩:=e
       rw[N1]at hr
       obtain⟨p1,p2,p3⟩:=bV2 (ty:=ty) r ht hi hzi hs hr hL rn he
       exact⟨β,_,_,p1,⟨L,hL,rfl⟩,p2,p3⟩
      |false=>
       rw[hr]at e;simp only[cond_false,j6]at e
       obtain⟨old,he,e⟩:=e
       obtain⟨hlen,e⟩:=M7 e
       rw[M8]at hlen
       simp only[a8,d7]at e
       obtain⟨rfl,rfl⟩:=e
       obtain⟨olds,o1,o2,o3⟩:=af7 (P:=P) r he rx'
       have hg:cap<len+n:=by
        rcases d8 cap (len+n)with hh|hh
        ·exact hh
        ·rw[N1.2 hh]at hr;cases hr
       exact an8 (ty:=ty) r ht hi hzi hzs' (o3 w.drew rfl) hs hn0 c1 hg c4 c5 o1 (aG9 o2) hlen rn on ln 0
     ·rename_i b o len sz
      simp only[ay9,a8]at hlx;subst hlx
      simp only[VR]at rx;obtain⟨L,cap,hL,hx,rfl⟩:=rx
      cases hsz:Nat.beq i.size sz with
      |false=>rw[hsz]at e;simp at e
      |true=>
       rw[hsz]at e;simp only[o8,cond_false]at e
       rw[M8]at hsz;subst hsz
       split at e
       ·rename_i el fz cs hg
        cases hr:Nat.ble (o+(len+n)*i.size) cs.length with
        |true=>
         rw[hr]at e;simp only[cond_true,j4,d7]at e
         obtain⟨h1,he,rfl,rfl⟩:=e
         rw[N1]at hr
         obtain⟨C,lo,hi',xs,q1,q2,q3,q4,q5,q6,q7⟩:=r.cells hg hL
         have hroom:len+n≤cap:=A1 (by omega:(len+n)*i.size≤cap*i.size) c1
         obtain⟨p1,p2,p3⟩:=bV2 (ty:=ty) r ht hi hzi hs hroom hL rn he
         exact⟨β,_,_,p1,⟨L,cap,hL,hx,rfl⟩,p2,p3⟩
        |false=>
         rw[hr]at e;simp only[cond_false]at e
         replace e:=M7 e
         obtain⟨hc,e⟩:=e
         obtain⟨hc,d4⟩:=M6 hc
         obtain⟨hc,d3⟩:=M6 hc
         obtain⟨d1,d2⟩:=M6 hc
         rw[N1]at d1 d2 d3
         rw[M8]at d4;subst d4
         simp only[a8,d7]at e
         obtain⟨rfl,rfl⟩:=e
         exact cU9 (ty:=ty) r ht hi hzi hzs' c1 hs hn0 c4 c5 hL hg d1 hx d2 d3 rn on ln hnf _ (b9 _)
       ·cases e
     ·rename_i b o sz
      simp only[ay9,a8]at hlx;subst hlx
      simp only[VR]at rx;obtain⟨L,ad,cap,hL,rfl,hor⟩:=rx
      cases hsz:Nat.beq i.size sz with
      |false=>rw[hsz]at e;simp at e
      |true=>
       rw[hsz]at e;simp only[o8,cond_false]at e
       rw[M8]at hsz;subst hsz
       split at e
       ·rename_i el fz cs hg
        replace e:=M7 e
        obtain⟨hc,e⟩:=e
        obtain⟨hc,d4⟩:=M6 hc
        obtain⟨d1,d2⟩:=M6 hc
        rw[N1]at d1 d2
        rw[M8]at d4;subst d4
        simp only[a8,d7]at e
        obtain⟨rfl,rfl⟩:=e
        exact d86 (ty:=ty) r ht hi hzi hzs' c1 hs c4 c5 hL hg d1 hor d2 rn on ln hnf hn0
       ·cases e
     ·cases e
  ·cases e
 ·cases e
end Go.Ev
