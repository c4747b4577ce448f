import Derived.Test.YtbfbcanipfnfeaaE16m
set_option linter.unusedVariables false
set_option linter.unusedSimpArgs false
namespace Go.Ev
open Go
variable{E:Env}{β:Bij}{ω:Opq}{K:Nat→Prop}{w0 w:World}{h h':Heap}{ρA:Operand→Option AV}{ρ:Operand→Value}
theorem cg4{ks:List CT}{l:SX}{es zs:List SX}(h:dB ω (al6 ks l es)=true):dL ω (cR6 ks l es zs)=dL ω l:=by
 show(den ω (.op .ite _)).toL=_
 rw[X2,h];rfl
theorem cg5{ks:List CT}{l:SX}{es zs:List SX}(h:dB ω (al6 ks l es)=false):dL ω (cR6 ks l es zs)=dL ω l++[.vl (N2 ω (es++zs))]:=by
 show(den ω (.op .ite _)).toL=_
 rw[X2,h];rfl
theorem U4.len{E:List MapEntry}{c:Nat}(h:U4 true E c):E.length=c:=by
 have:=congrArg List.length (h.2.2 rfl)
 simpa using this
theorem U4.at{E:List MapEntry}{c i:Nat}{e:MapEntry}(h:U4 true E c)(he:E[i]? =some e):e.born=i:=by
 have h1:(E.map (·.born))[i]? =some e.born:=by rw[r5,he];rfl
 rw[h.2.2 rfl]at h1
 have h2:=k6.1 h1
 obtain⟨h3,h4⟩:=h2
 simpa using h4.symm
theorem cg6{α:Type}{l:List α}{i:Nat}{e:α}(h:l[i]? =some e):l.set i e=l:=by
 refine E5 fun j=> ?_
 rw[G7]
 by_cases hj:i=j
 ·subst hj
  have:=(k6.1 h).1
  rw[if_pos rfl,if_pos this,h]
 ·rw[if_neg hj]
theorem bJ3(r:HR β ω K w0 h w)(o:OpR β ω ρA ρ)(t:TypeId)(m k:Operand):SOk E β ω K w0 w h (do pure (.value (←Instr.mapEntry t (ρ m) (ρ k)))) (bj5 E.P t h (ρA m) (ρA k)):=by
 unfold bj5
 split
 ·rename_i kt et ht
  split
  ·rename_i b hm
   split
   ·rename_i cs hk
    split
    ·rename_i zk z hzk hz
     split
     ·rename_i ks vs hks hvs
      have rm:=o m _ hm
      have rk:=o k _ hk
      simp only[VR]at rm
      obtain⟨L,hL,em⟩:=rm
      have rk0:=rk
      obtain⟨kx,ek,rkx⟩:=rk
      unfold bQ3
      split
      ·rename_i es zs hes hzs
       cases hc:(aw1 E.P kt ks&&Nat.ble 2 ks.length&&a36 vs z&&Nat.ble h.wm b)with
       |false=>trivial
       |true=>
        obtain⟨hc,hwm⟩:=M6 hc
        obtain⟨hc,hsh⟩:=M6 hc
        obtain⟨hkt,h2⟩:=M6 hc
        rw[N1]at h2 hwm
        simp only[cond_true]
        obtain⟨zv,z1,z2⟩:=an9 hz
        have hkx:=R7 hes rkx
        have hvx:=R7 hzs ((z1 β ω).cells (aD2 hsh))
        have l1:=R3 hes
        have l2:=R3 hzs
        have hent:=bm6 (ω:=ω) l1 l2 hkx hvx
        have hkey:ooa kx.toList=ρ k:=by
         rw[ek,aJ7 (by rw[hkx,T4,Z3];exact h2)]
        have hval:ooa zv.cells.toList=zv:=aK4 hsh (z1 β ω) rfl (by rw[hvx,T4,Z3])
        rw[hkey,hval]at hent
        have hkc:kx.toList=al7 (.vl (N2 ω es)) ks 0:=by rw[hkx,T4]
        have rk':VR β ω (.agg (az5 (.vl (N2 ω es)) ks 0)) (ρ k):=⟨kx,ek,by rw[hkc];exact ao3 _ _ _⟩
        have hko:=aC9 hkt (.vl (N2 ω es))
        split
        ·rename_i ks' vs' l hg
         cases hq:(T8 ks' ks&&T8 vs' vs)with
         |false=>trivial
         |true=>
          obtain⟨e1,e2⟩:=M6 hq
          obtain rfl:=a11 e1
          obtain rfl:=a11 e2
          simp only[cond_true]
          obtain⟨En,c,q1,q2,q3⟩:=r.marr hg hL
          obtain⟨ents,hE,hmap⟩:=aJ8 h2 q2
          have hlen:En.toList.length=(dL ω l).length:=by
           have:=congrArg List.length q2
           simpa using this
          rcases ag1 hkt (.vl (N2 ω es)) 0 hmap with⟨a,hf⟩|⟨e,row,a1,a2,a3,hf,a5,a6⟩
          ·have hhas:dB ω (al6 ks' l es)=false:=by rw[a23,a];simp
           obtain⟨v',hv',hrun⟩:=T1 hko rk' hE hf
           simp only[FR]at hv';subst hv'
           have hvr:VR β ω (aZ3 (a88 ks' l es vs' ks'.length zs)) zv:=by
            have:=aJ6 (aK1 (β:=β) hhas vs' ks'.length 0 zs (.vl (N2 ω zs)) (R3 hzs) (fun t ht=>by rw[i3];exact aD1 ω zs t ht))
            rw[T4]at hvx
            rw[←hvx]at this
            rw[ao4 hsh (z1 β ω) (by rw[hvx,Z3])]at this
            exact this
           obtain⟨p1,p2⟩:=r.set1 b _ (.marr true ks' vs' (cR6 ks' l es zs)) L (.map (En.push ⟨ρ k,zv,c⟩) (c+1)) hg hL hwm
            ⟨_,_,rfl,by rw[B6,r8,q2,cg5 hhas,r8];simp only[j9,E4,hent],by rw[B6];exact q3.push _ _⟩
           refine W2.of ⟨β,.tuple #[zv,goInt c],_,?_,⟨_,rfl,.cons hvr (.one ?_)⟩,p1,p2⟩
           ·simp only[em,Instr.mapEntry,Sem.run_bind,M9 ht,Result.andThen_ok,O7 q1,T0 hko rk',hrun,Q8 _ q1,z2,Sem.run_pure]
           ·show goInt (c:Int)= .int .i64 (dI ω (aS4 ks' l es))
            rw[ad2,a,←hlen,q3.len];rfl
          ·have hhas:dB ω (al6 ks' l es)=true:=by rw[a23];exact decide_eq_true a1
           obtain⟨v',hv',hrun⟩:=T1 hko rk' hE hf
           obtain⟨k2,v2,e1,e2,e3,e4,e5⟩:=hv'
           subst e1
           rw[i3]at e2 e3
           rw[a6]at e5
           have hv2:=bX8 row vs' ks'.length e5
           have hvr:VR β ω (aZ3 (a88 ks' l es vs' ks'.length zs)) v2:=by
            rw[hv2];exact aJ6 (aK0 hhas a2 vs' ks'.length zs (R3 hzs))
           have he3:En[(dL ω l).findIdx (fun r=>keq ks' r (.vl (N2 ω es)))]? =some ⟨k2,v2,e.born⟩:=by simpa using e3
           have hk2:k2=ρ k:=by
            rw[a5]at e4
            obtain⟨ys,ey,ry⟩:=e4
            have:=aD0 row ks' 0 ry
            rw[b15 ks' 0 a3,←hkc]at this
            rw[ey,ek,u4.1 this]
           have hsb:Instr.sameBits 10000 (ρ k) (ρ k)=true:=by
            rw[ek]
            show(kx.size==kx.size&&(kx.toList.zip kx.toList).all fun(x,y)=>Instr.sameBits 9999 x y)=true
            rw[hkc,ag3];simp
           have hst: ∀w,(Instr.keyThatStays k2 (ρ k)).run E.P w= .ok (ρ k) w:=fun w=>by simp[Instr.keyThatStays,hk2,hsb]
           have hmod:(En.modify ((dL ω l).findIdx (fun r=>keq ks' r (.vl (N2 ω es)))) fun x'=>{x' with key:=ρ k}).toList=En.toList:=by
             rw[A7,aw7 e3]
             refine(congrArg (fun z=>List.set En.toList _ z) ?_).trans (cg6 e3)
             rw[hk2]
           obtain⟨p1,p2⟩:=r.set1 b _ (.marr true ks' vs' (cR6 ks' l es zs)) L (.map (En.modify ((dL ω l).findIdx (fun r=>keq ks' r (.vl (N2 ω es)))) fun x'=>{x' with key:=ρ k}) c) hg hL hwm
            ⟨_,_,rfl,by rw[hmod,cg4 hhas];exact q2,by rw[hmod];exact q3⟩
           have hb:=q3.at e3
           refine W2.of ⟨β,.tuple #[v2,goInt (e.born:Int)],_,?_,⟨_,rfl,.cons hvr (.one ?_)⟩,p1,p2⟩
           ·simp only[em,Instr.mapEntry,Sem.run_bind,M9 ht,Result.andThen_ok,O7 q1,T0 hko rk',hrun,i3,he3,Option.map_some,Option.getD_some,hst,Q8 _ q1,Sem.run_pure]
           ·show goInt (e.born:Int)= .int .i64 (dI ω (aS4 ks' l es))
            rw[ad2,show e.born=_ from hb];rfl
        ·rename_i hg
         obtain⟨En,q1,q2⟩:=r.map hg hL
         have hE:En= #[]:=by
          have:En.toList=[]:=by generalize En.toList=z at q2;cases q2;rfl
          exact u4.1 this
         subst hE
         have hf:al4 E.P kt (.agg (az5 (.vl (N2 ω es)) ks 0)) [] 0=some none:=rfl
         obtain⟨v',hv',hrun⟩:=T1 (β:=β) (ω:=ω) hko rk' (es:=[]) (m:=[]) .nil hf
         simp only[FR]at hv';subst hv'
         obtain⟨p1,p2⟩:=r.set1 b _ (.marr true ks vs (.op .row [.op .row (es++zs)])) L (.map (#[].push ⟨ρ k,zv,0⟩) (0+1)) hg hL hwm
          ⟨_,_,rfl,by
           show [(ρ k,zv)]=[bk9 ks vs (.vl (N2 ω (es++zs)))]
           rw[hent],U4.push (E:=[]) (U4.nil 0) _ _⟩
         refine W2.of ⟨β,.tuple #[zv,goInt (0:Nat)],_,?_,⟨_,rfl,.cons (z1 β ω) (.one rfl)⟩,p1,p2⟩
         simp only[em,Instr.mapEntry,Sem.run_bind,M9 ht,Result.andThen_ok,O7 q1,T0 hko rk',hrun,Q8 _ q1,z2,Sem.run_pure]
        ·trivial
      ·trivial
     ·trivial
    ·trivial
   ·trivial
  ·trivial
 ·trivial
theorem cg7{a:AV}{e:SX}{v:Value}(h:cx0 a=some e)(r:VR β ω a v):v= .int .i64 (dI ω e):=by
 unfold cx0 at h
 split at h
 ·cases h;exact r
 ·cases h;exact r
 ·cases h
theorem bY0{E:List MapEntry}{c i:Nat}(h:U4 true E c)(hi:i<E.length):E.findIdx? (fun x=>(x.born:Int)==(i:Int))=some i:=by
 rw[List.findIdx?_eq_some_iff_getElem]
 have hb: ∀(j:Nat) (hj:j<E.length),E[j].born=j:=fun j hj=>h.at (j0 hj)
 refine⟨hi,by rw[hb i hi];simp,fun j hj=> ?_⟩
 rw[hb j (by omega)]
 simp
 omega
theorem bw9{l e:SX}{row:Val}(hr:(dL ω l).getD (dI ω e).toNat (.vl [])=row): ∀(n j t:Nat),t<n→(N2 ω (a52 l e j n)).getD t default=row.toL.getD (j+t) default
 |0,_,_,h=>by omega
 |n+1,j,0,_=>by
  show Q5 (dL ω l) (dI ω e) (j:Int)=_
  unfold Q5
  rw[hr];rfl
 |n+1,j,t+1,h=>by
  have:=bw9 hr n (j+1) t (by omega)
  rw[show j+1+t=j+(t+1) by omega]at this
  exact this
theorem bx0{l e:SX}: ∀(n j:Nat),(a52 l e j n).length=n
 |0,_=>rfl
 |n+1,j=>by simp[a52,bx0 n]
theorem bY1(r:HR β ω K w0 h w)(o:OpR β ω ρA ρ)(t:TypeId)(m s x:Operand):SOk E β ω K w0 w h (do Instr.entryStore t (ρ m) (ρ s) (ρ x);pure .skip) (bQ5 h (ρA m) (ρA s) (ρA x)):=by
 unfold bQ5
 split
 ·rename_i b sv xv hm hs hx
  have rm:=o m _ hm
  have rs:=o s _ hs
  have rx:=o x _ hx
  simp only[VR]at rm
  obtain⟨L,hL,em⟩:=rm
  unfold bQ4
  split
  ·rename_i ks vs l e hg he
   have hsv:=cg7 he rs
   split
   ·rename_i xs hxs
    cases hc:(a36 vs xv&&Nat.ble h.wm b)with
    |false=>trivial
    |true=>
     obtain⟨hsh,hwm⟩:=M6 hc
     rw[N1]at hwm
     intro hd
     obtain⟨i0,i1⟩:=ad1 hd
     have i1:dI ω e<((dL ω l).length:Int):=i1
     obtain⟨En,c,q1,q2,q3⟩:=r.marr hg hL
     have hlen:En.toList.length=(dL ω l).length:=by
      have:=congrArg List.length q2
      simpa using this
     generalize hi:(dI ω e).toNat=i at*
     have hie:dI ω e=(i:Int):=by omega
     have hlt:i<En.toList.length:=by omega
     obtain⟨ent,hent0⟩: ∃ent,En.toList[i]? =some ent:=⟨_,j0 hlt⟩
     have hrow: ∃row,(dL ω l)[i]? =some row:=⟨_,j0 (by omega)⟩
     obtain⟨row,hrow⟩:=hrow
     have hkv:(ent.key,ent.val)=bk9 ks vs row:=by
      have h1:(En.toList.map fun e=>(e.key,e.val))[i]? =some (ent.key,ent.val):=by rw[r5,hent0];rfl
      rw[q2,r5,hrow]at h1
      exact(K2 h1).symm
     have hvx:=R7 hxs (rx.cells (aD2 hsh))
     have l2:=R3 hxs
     have hval:ooa (ρ x).cells.toList=ρ x:=aK4 hsh rx rfl (by rw[hvx,T4,Z3])
     have aF3:bk9 ks vs (.vl (N2 ω (a52 l e 0 ks.length++xs)))=(ent.key,ρ x):=by
      rw[bm6 (ω:=ω) (bx0 _ _) l2 rfl hvx,hval]
      rw[b14]at hkv
      refine congrArg (fun z=>(z,ρ x)) ?_
      rw[show ent.key=ooa (al7 row ks 0)from congrArg Prod.fst hkv,T4]
      refine congrArg ooa (aj8 ks 0 0 fun t ht=> ?_)
      rw[i3]
      have:=bw9 (ω:=ω) (l:=l) (e:=e) (row:=row) (by rw[hi,d9,hrow];rfl) ks.length 0 t ht
      rw[i3]at this
      exact this
     refine W2.ofU ?_
     obtain⟨p1,p2⟩:=r.set1 b _ (.marr true ks vs (.op .lset [l,e,.op .row (a52 l e 0 ks.length++xs)])) L (.map (En.modify i fun x'=>{x' with val:=ρ x}) c) hg hL hwm
      ⟨_,_,rfl,by
       rw[A7,aw7 hent0,G8,q2]
       show _=(((dL ω l).set (dI ω e).toNat (.vl (N2 ω (a52 l e 0 ks.length++xs)))).map (bk9 ks vs))
       rw[G8,aF3,hi],by rw[A7];exact q3.modify _ _ (fun _=>rfl)⟩
     refine⟨_,?_,p1,p2⟩
     have hfind:En.findIdx? (fun x=>(x.born:Int)==(i:Int))=some i:=by
      have:= @List.findIdx?_toArray _ (fun x:MapEntry=>(x.born:Int)==(i:Int)) En.toList
      simp only[Array.toArray_toList]at this
      rw[this];exact bY0 q3 hlt
     rw[hsv,hie]
     simp only[em,Instr.entryStore,Sem.run_bind,O7 q1,Result.andThen_ok,asInt,asIntOf,Sem.run_pure,hfind,Q8 _ q1]
   ·trivial
  ·trivial
 ·trivial
theorem U4.erase{d:Bool}{E:List MapEntry}{c:Nat}(h:U4 d E c)(i:Nat):U4 false (E.eraseIdx i) c:=by
 have hs:=List.eraseIdx_sublist E i
 exact⟨h.1.sublist (hs.map _),fun e he=>h.2.1 e (hs.subset he),fun hh=>by cases hh⟩
theorem aK5{α γ:Type}(f:α→γ): ∀(l:List α) (i:Nat),(l.eraseIdx i).map f=(l.map f).eraseIdx i
 | [],_=>rfl
 |_::_,0=>rfl
 |a::l,i+1=>by simp[List.eraseIdx,aK5 f l i]
theorem cB5{ts:Array TypeId}{ty:TypeId}{m k:AV}{vm vk:Value}(r:HR β ω K w0 h w)(rm:VR β ω m vm)(rk:VR β ω k vk):b13 E.P β ω K w0 w h (Builtin.delete_ ts ty #[vm,vk]) (d78 E.P ((ts[0]?).bind E.P.underlying) h m k):=by
 unfold d78
 split
 ·rename_i kt et ht
  simp only[j6]at ht
  obtain⟨t,h0,ht⟩:=ht
  split
  ·rename_i b
   split
   ·rename_i cs
    simp only[VR]at rm
    obtain⟨L,hL,rfl⟩:=rm
    obtain⟨kx,rfl,rkx⟩:=rk
    unfold cR7
    split
    ·rename_i d ks vs l hg
     split
     ·rename_i es hes
      cases hc:(aw1 E.P kt ks&&Nat.ble 2 ks.length&&Nat.ble h.wm b)with
      |false=>trivial
      |true=>
       obtain⟨hc,hwm⟩:=M6 hc
       obtain⟨hkt,h2⟩:=M6 hc
       rw[N1]at h2 hwm
       intro _
       obtain⟨En,c,q1,q2,q3⟩:=r.marr hg hL
       obtain⟨ents,hE,hmap⟩:=aJ8 h2 q2
       have hkx:=R7 hes rkx
       have hkc:kx.toList=al7 (.vl (N2 ω es)) ks 0:=by rw[hkx,T4]
       have rk':VR β ω (.agg (az5 (.vl (N2 ω es)) ks 0)) (.agg kx):=⟨kx,rfl,by rw[hkc];exact ao3 _ _ _⟩
       have hko:=aC9 hkt (.vl (N2 ω es))
       have hlen:En.toList.length=(dL ω l).length:=by
        have:=congrArg List.length q2
        simpa using this
       have hden:dL ω (.op (.mdel ks) [l,.op .row es])=(dL ω l).eraseIdx ((dL ω l).findIdx fun r=>keq ks r (.vl (N2 ω es))):=rfl
       rcases ag1 hkt (.vl (N2 ω es)) 0 hmap with⟨a,hf⟩|⟨e,row,a1,a2,a3,hf,a5,a6⟩
       ·obtain⟨v',hv',hrun⟩:=T1 hko rk' hE hf
        simp only[FR]at hv';subst hv'
        obtain⟨p1,p2⟩:=r.set1 b _ (.marr false ks vs (.op (.mdel ks) [l,.op .row es])) L (.map En c) hg hL hwm
         ⟨_,_,rfl,by rw[hden,a,List.eraseIdx_of_length_le (b9 _)];exact q2,q3.weak rfl⟩
        refine⟨β,_,_,?_,⟨_,rfl,rfl⟩,p1,p2⟩
        simp[Builtin.delete_,h0,M9 ht,O7 q1,T0 hko rk',hrun,Q8 _ q1]
       ·obtain⟨v',hv',hrun⟩:=T1 hko rk' hE hf
        obtain⟨k2,v2,e1,e2,e3,e4,e5⟩:=hv'
        subst e1
        rw[i3]at e2 e3
        have hi:(dL ω l).findIdx (fun r=>keq ks r (.vl (N2 ω es)))<En.size:=by
          have:=k6.1 e3;simpa using this.1
        obtain⟨p1,p2⟩:=r.set1 b _ (.marr false ks vs (.op (.mdel ks) [l,.op .row es])) L (.map (En.eraseIdxIfInBounds ((dL ω l).findIdx fun r=>keq ks r (.vl (N2 ω es)))) c) hg hL hwm
         ⟨_,_,rfl,by rw[Array.eraseIdxIfInBounds,dif_pos hi,J8,aK5,q2,hden,aK5],by rw[Array.eraseIdxIfInBounds,dif_pos hi,J8];exact q3.erase _⟩
        refine⟨β,_,_,?_,⟨_,rfl,rfl⟩,p1,p2⟩
        simp[Builtin.delete_,h0,M9 ht,O7 q1,T0 hko rk',hrun,Q8 _ q1]
     ·trivial
    ·trivial
   ·trivial
  ·trivial
 ·trivial
end Go.Ev
