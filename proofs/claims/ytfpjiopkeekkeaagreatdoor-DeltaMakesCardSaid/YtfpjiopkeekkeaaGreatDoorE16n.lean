import Derived.Test.YtfpjiopkeekkeaaGreatDoorE16m
set_option autoImplicit false
set_option linter.unusedVariables false
set_option linter.unusedSimpArgs false
namespace Go.Ev
open Go
variable{E:Env}{β:Bij}{ω:Opq}{K:Nat→Prop}{w0 w:World}{h h':Heap}{ρA:Operand→Option AV}{ρ:Operand→Value}
theorem ck9{ks:List CT}{l:SX}{es zs:List SX}(h:dB ω (aq0 ks l es)=true):dL ω (cT7 ks l es zs)=dL ω l:=by
 show(den ω (.op .ite _)).toL=_
 rw[Z1,h];rfl
theorem cl0{ks:List CT}{l:SX}{es zs:List SX}(h:dB ω (aq0 ks l es)=false):dL ω (cT7 ks l es zs)=dL ω l++[.vl (P2 ω (es++zs))]:=by
 show(den ω (.op .ite _)).toL=_
 rw[Z1,h];rfl
theorem V4.len{E:List MapEntry}{c:Nat}(h:V4 true E c):E.length=c:=by
 have:=congrArg List.length (h.2.2 rfl)
 simpa using this
theorem V4.at{E:List MapEntry}{c i:Nat}{e:MapEntry}(h:V4 true E c)(he:E[i]? =some e):e.born=i:=by
 have h1:(E.map (·.born))[i]? =some e.born:=by rw[v7,he];rfl
 rw[h.2.2 rfl]at h1
 have h2:=m7.1 h1
 obtain⟨h3,h4⟩:=h2
 simpa using h4.symm
theorem cl1{α:Type}{l:List α}{i:Nat}{e:α}(h:l[i]? =some e):l.set i e=l:=by
 refine G1 fun j=> ?_
 rw[J4]
 by_cases hj:i=j
 ·subst hj
  have:=(m7.1 h).1
  rw[if_pos rfl,if_pos this,h]
 ·rw[if_neg hj]
theorem bM0(r:HR β ω K w0 h w)(o:OpR β ω ρA ρ)(t:TypeId)(m k:Operand):SOk E β ω K w0 w h (do pure (.value (←Instr.mapEntry t (ρ m) (ρ k)))) (bn7 E.P t h (ρA m) (ρA k)):=by
 unfold bn7
 split
 ·rename_i kt et ht
  split
  ·rename_i b hm
   split
   ·rename_i cs hk
    split
    ·rename_i zk z hzk hz
     split
     ·rename_i ks vs hks hvs
      have rm:=o m _ hm
      have rk:=o k _ hk
      simp only[VR]at rm
      obtain⟨L,hL,em⟩:=rm
      have rk0:=rk
      obtain⟨kx,ek,rkx⟩:=rk
      unfold bT1
      split
      ·rename_i es zs hes hzs
       cases hc:(aB3 E.P kt ks&&Nat.ble 2 ks.length&&a72 vs z&&Nat.ble h.wm b)with
       |false=>trivial
       |true=>
        obtain⟨hc,hwm⟩:=O4 hc
        obtain⟨hc,hsh⟩:=O4 hc
        obtain⟨hkt,h2⟩:=O4 hc
        rw[P0]at h2 hwm
        simp only[cond_true]
        obtain⟨zv,z1,z2⟩:=as3 hz
        have hkx:=T5 hes rkx
        have hvx:=T5 hzs ((z1 β ω).cells (aI6 hsh))
        have l1:=T0 hes
        have l2:=T0 hzs
        have hent:=bq8 (ω:=ω) l1 l2 hkx hvx
        have hkey:ooa kx.toList=ρ k:=by
         rw[ek,aO3 (by rw[hkx,V5,a15];exact h2)]
        have hval:ooa zv.cells.toList=zv:=aP0 hsh (z1 β ω) rfl (by rw[hvx,V5,a15])
        rw[hkey,hval]at hent
        have hkc:kx.toList=aq1 (.vl (P2 ω es)) ks 0:=by rw[hkx,V5]
        have rk':VR β ω (.agg (aF2 (.vl (P2 ω es)) ks 0)) (ρ k):=⟨kx,ek,by rw[hkc];exact as7 _ _ _⟩
        have hko:=aI3 hkt (.vl (P2 ω es))
        split
        ·rename_i ks' vs' l hg
         cases hq:(U9 ks' ks&&U9 vs' vs)with
         |false=>trivial
         |true=>
          obtain⟨e1,e2⟩:=O4 hq
          obtain rfl:=a36 e1
          obtain rfl:=a36 e2
          simp only[cond_true]
          obtain⟨En,c,q1,q2,q3⟩:=r.marr hg hL
          obtain⟨ents,hE,hmap⟩:=aO4 h2 q2
          have hlen:En.toList.length=(dL ω l).length:=by
           have:=congrArg List.length q2
           simpa using this
          rcases aj6 hkt (.vl (P2 ω es)) 0 hmap with⟨a,hf⟩|⟨e,row,a1,a2,a3,hf,a5,a6⟩
          ·have hhas:dB ω (aq0 ks' l es)=false:=by rw[a51,a];simp
           obtain⟨v',hv',hrun⟩:=U6 hko rk' hE hf
           simp only[FR]at hv';subst hv'
           have hvr:VR β ω (b33 (ac4 ks' l es vs' ks'.length zs)) zv:=by
            have:=aO2 (aO7 (β:=β) hhas vs' ks'.length 0 zs (.vl (P2 ω zs)) (T0 hzs) (fun t ht=>by rw[j8];exact aI5 ω zs t ht))
            rw[V5]at hvx
            rw[←hvx]at this
            rw[as8 hsh (z1 β ω) (by rw[hvx,a15])]at this
            exact this
           obtain⟨p1,p2⟩:=r.set1 b _ (.marr true ks' vs' (cT7 ks' l es zs)) L (.map (En.push ⟨ρ k,zv,c⟩) (c+1)) hg hL hwm
            ⟨_,_,rfl,by rw[D1,x5,q2,cl0 hhas,x5];simp only[m5,G0,hent],by rw[D1];exact q3.push _ _⟩
           refine X7.of ⟨β,.tuple #[zv,goInt c],_,?_,⟨_,rfl,.cons hvr (.one ?_)⟩,p1,p2⟩
           ·simp only[em,Instr.mapEntry,Sem.run_bind,O7 ht,Result.andThen_ok,R2 q1,U5 hko rk',hrun,S9 _ q1,z2,Sem.run_pure]
           ·show goInt (c:Int)= .int .i64 (dI ω (aW7 ks' l es))
            rw[ag7,a,←hlen,q3.len];rfl
          ·have hhas:dB ω (aq0 ks' l es)=true:=by rw[a51];exact decide_eq_true a1
           obtain⟨v',hv',hrun⟩:=U6 hko rk' hE hf
           obtain⟨k2,v2,e1,e2,e3,e4,e5⟩:=hv'
           subst e1
           rw[j8]at e2 e3
           rw[a6]at e5
           have hv2:=c04 row vs' ks'.length e5
           have hvr:VR β ω (b33 (ac4 ks' l es vs' ks'.length zs)) v2:=by
            rw[hv2];exact aO2 (aO6 hhas a2 vs' ks'.length zs (T0 hzs))
           have he3:En[(dL ω l).findIdx (fun r=>keq ks' r (.vl (P2 ω es)))]? =some ⟨k2,v2,e.born⟩:=by simpa using e3
           have hk2:k2=ρ k:=by
            rw[a5]at e4
            obtain⟨ys,ey,ry⟩:=e4
            have:=aI4 row ks' 0 ry
            rw[b54 ks' 0 a3,←hkc]at this
            rw[ey,ek,A3.1 this]
           have hsb:Instr.sameBits 10000 (ρ k) (ρ k)=true:=by
            rw[ek]
            show(kx.size==kx.size&&(kx.toList.zip kx.toList).all fun(x,y)=>Instr.sameBits 9999 x y)=true
            rw[hkc,aj8];simp
           have hst: ∀w,(Instr.keyThatStays k2 (ρ k)).run E.P w= .ok (ρ k) w:=fun w=>by simp[Instr.keyThatStays,hk2,hsb]
           have hmod:(En.modify ((dL ω l).findIdx (fun r=>keq ks' r (.vl (P2 ω es)))) fun x'=>{x' with key:=ρ k}).toList=En.toList:=by
             rw[C2,aC0 e3]
             refine(congrArg (fun z=>List.set En.toList _ z) ?_).trans (cl1 e3)
             rw[hk2]
           obtain⟨p1,p2⟩:=r.set1 b _ (.marr true ks' vs' (cT7 ks' l es zs)) L (.map (En.modify ((dL ω l).findIdx (fun r=>keq ks' r (.vl (P2 ω es)))) fun x'=>{x' with key:=ρ k}) c) hg hL hwm
            ⟨_,_,rfl,by rw[hmod,ck9 hhas];exact q2,by rw[hmod];exact q3⟩
           have hb:=q3.at e3
           refine X7.of ⟨β,.tuple #[v2,goInt (e.born:Int)],_,?_,⟨_,rfl,.cons hvr (.one ?_)⟩,p1,p2⟩
           ·simp only[em,Instr.mapEntry,Sem.run_bind,O7 ht,Result.andThen_ok,R2 q1,U5 hko rk',hrun,j8,he3,Option.map_some,Option.getD_some,hst,S9 _ q1,Sem.run_pure]
           ·show goInt (e.born:Int)= .int .i64 (dI ω (aW7 ks' l es))
            rw[ag7,show e.born=_ from hb];rfl
        ·rename_i hg
         obtain⟨En,q1,q2⟩:=r.map hg hL
         have hE:En= #[]:=by
          have:En.toList=[]:=by generalize En.toList=z at q2;cases q2;rfl
          exact A3.1 this
         subst hE
         have hf:ap8 E.P kt (.agg (aF2 (.vl (P2 ω es)) ks 0)) [] 0=some none:=rfl
         obtain⟨v',hv',hrun⟩:=U6 (β:=β) (ω:=ω) hko rk' (es:=[]) (m:=[]) .nil hf
         simp only[FR]at hv';subst hv'
         obtain⟨p1,p2⟩:=r.set1 b _ (.marr true ks vs (.op .row [.op .row (es++zs)])) L (.map (#[].push ⟨ρ k,zv,0⟩) (0+1)) hg hL hwm
          ⟨_,_,rfl,by
           show [(ρ k,zv)]=[bp2 ks vs (.vl (P2 ω (es++zs)))]
           rw[hent],V4.push (E:=[]) (V4.nil 0) _ _⟩
         refine X7.of ⟨β,.tuple #[zv,goInt (0:Nat)],_,?_,⟨_,rfl,.cons (z1 β ω) (.one rfl)⟩,p1,p2⟩
         simp only[em,Instr.mapEntry,Sem.run_bind,O7 ht,Result.andThen_ok,R2 q1,U5 hko rk',hrun,S9 _ q1,z2,Sem.run_pure]
        ·trivial
      ·trivial
     ·trivial
    ·trivial
   ·trivial
  ·trivial
 ·trivial
theorem cl2{a:AV}{e:SX}{v:Value}(h:cA7 a=some e)(r:VR β ω a v):v= .int .i64 (dI ω e):=by
 unfold cA7 at h
 split at h
 ·cases h;exact r
 ·cases h;exact r
 ·cases h
theorem c06{E:List MapEntry}{c i:Nat}(h:V4 true E c)(hi:i<E.length):E.findIdx? (fun x=>(x.born:Int)==(i:Int))=some i:=by
 rw[List.findIdx?_eq_some_iff_getElem]
 have hb: ∀(j:Nat) (hj:j<E.length),E[j].born=j:=fun j hj=>h.at (j7 hj)
 refine⟨hi,by rw[hb i hi];simp,fun j hj=> ?_⟩
 rw[hb j (by omega)]
 simp
 omega
theorem bA5{l e:SX}{row:Val}(hr:(dL ω l).getD (dI ω e).toNat (.vl [])=row): ∀(n j t:Nat),t<n→(P2 ω (a82 l e j n)).getD t default=row.toL.getD (j+t) default
 |0,_,_,h=>by omega
 |n+1,j,0,_=>by
  show S4 (dL ω l) (dI ω e) (j:Int)=_
  unfold S4
  rw[hr];rfl
 |n+1,j,t+1,h=>by
  have:=bA5 hr n (j+1) t (by omega)
  rw[show j+1+t=j+(t+1) by omega]at this
  exact this
theorem bA6{l e:SX}: ∀(n j:Nat),(a82 l e j n).length=n
 |0,_=>rfl
 |n+1,j=>by simp[a82,bA6 n]
theorem c07(r:HR β ω K w0 h w)(o:OpR β ω ρA ρ)(t:TypeId)(m s x:Operand):SOk E β ω K w0 w h (do Instr.entryStore t (ρ m) (ρ s) (ρ x);pure .skip) (bT3 h (ρA m) (ρA s) (ρA x)):=by
 unfold bT3
 split
 ·rename_i b sv xv hm hs hx
  have rm:=o m _ hm
  have rs:=o s _ hs
  have rx:=o x _ hx
  simp only[VR]at rm
  obtain⟨L,hL,em⟩:=rm
  unfold bT2
  split
  ·rename_i ks vs l e hg he
   have hsv:=cl2 he rs
   split
   ·rename_i xs hxs
    cases hc:(a72 vs xv&&Nat.ble h.wm b)with
    |false=>trivial
    |true=>
     obtain⟨hsh,hwm⟩:=O4 hc
     rw[P0]at hwm
     intro hd
     obtain⟨i0,i1⟩:=ag6 hd
     have i1:dI ω e<((dL ω l).length:Int):=i1
     obtain⟨En,c,q1,q2,q3⟩:=r.marr hg hL
     have hlen:En.toList.length=(dL ω l).length:=by
      have:=congrArg List.length q2
      simpa using this
     generalize hi:(dI ω e).toNat=i at*
     have hie:dI ω e=(i:Int):=by omega
     have hlt:i<En.toList.length:=by omega
     obtain⟨ent,hent0⟩: ∃ent,En.toList[i]? =some ent:=⟨_,j7 hlt⟩
     have hrow: ∃row,(dL ω l)[i]? =some row:=⟨_,j7 (by omega)⟩
     obtain⟨row,hrow⟩:=hrow
     have hkv:(ent.key,ent.val)=bp2 ks vs row:=by
      have h1:(En.toList.map fun e=>(e.key,e.val))[i]? =some (ent.key,ent.val):=by rw[v7,hent0];rfl
      rw[q2,v7,hrow]at h1
      exact(G2 h1).symm
     have hvx:=T5 hxs (rx.cells (aI6 hsh))
     have l2:=T0 hxs
     have hval:ooa (ρ x).cells.toList=ρ x:=aP0 hsh rx rfl (by rw[hvx,V5,a15])
     have aE4:bp2 ks vs (.vl (P2 ω (a82 l e 0 ks.length++xs)))=(ent.key,ρ x):=by
      rw[bq8 (ω:=ω) (bA6 _ _) l2 rfl hvx,hval]
      rw[b53]at hkv
      refine congrArg (fun z=>(z,ρ x)) ?_
      rw[show ent.key=ooa (aq1 row ks 0)from congrArg Prod.fst hkv,V5]
      refine congrArg ooa (ao3 ks 0 0 fun t ht=> ?_)
      rw[j8]
      have:=bA5 (ω:=ω) (l:=l) (e:=e) (row:=row) (by rw[hi,i3,hrow];rfl) ks.length 0 t ht
      rw[j8]at this
      exact this
     refine X7.ofU ?_
     obtain⟨p1,p2⟩:=r.set1 b _ (.marr true ks vs (.op .lset [l,e,.op .row (a82 l e 0 ks.length++xs)])) L (.map (En.modify i fun x'=>{x' with val:=ρ x}) c) hg hL hwm
      ⟨_,_,rfl,by
       rw[C2,aC0 hent0,J5,q2]
       show _=(((dL ω l).set (dI ω e).toNat (.vl (P2 ω (a82 l e 0 ks.length++xs)))).map (bp2 ks vs))
       rw[J5,aE4,hi],by rw[C2];exact q3.modify _ _ (fun _=>rfl)⟩
     refine⟨_,?_,p1,p2⟩
     have hfind:En.findIdx? (fun x=>(x.born:Int)==(i:Int))=some i:=by
      have:= @List.findIdx?_toArray _ (fun x:MapEntry=>(x.born:Int)==(i:Int)) En.toList
      simp only[Array.toArray_toList]at this
      rw[this];exact c06 q3 hlt
     rw[hsv,hie]
     simp only[em,Instr.entryStore,Sem.run_bind,R2 q1,Result.andThen_ok,asInt,asIntOf,Sem.run_pure,hfind,S9 _ q1]
   ·trivial
  ·trivial
 ·trivial
theorem V4.erase{d:Bool}{E:List MapEntry}{c:Nat}(h:V4 d E c)(i:Nat):V4 false (E.eraseIdx i) c:=by
 have hs:=List.eraseIdx_sublist E i
 exact⟨h.1.sublist (hs.map _),fun e he=>h.2.1 e (hs.subset he),fun hh=>by cases hh⟩
theorem aP1{α γ:Type}(f:α→γ): ∀(l:List α) (i:Nat),(l.eraseIdx i).map f=(l.map f).eraseIdx i
 | [],_=>rfl
 |_::_,0=>rfl
 |a::l,i+1=>by simp[List.eraseIdx,aP1 f l i]
theorem cF2{ts:Array TypeId}{ty:TypeId}{m k:AV}{vm vk:Value}(r:HR β ω K w0 h w)(rm:VR β ω m vm)(rk:VR β ω k vk):b52 E.P β ω K w0 w h (Builtin.delete_ ts ty #[vm,vk]) (db6 E.P ((ts[0]?).bind E.P.underlying) h m k):=by
 unfold db6
 split
 ·rename_i kt et ht
  simp only[k8]at ht
  obtain⟨t,h0,ht⟩:=ht
  split
  ·rename_i b
   split
   ·rename_i cs
    simp only[VR]at rm
    obtain⟨L,hL,rfl⟩:=rm
    obtain⟨kx,rfl,rkx⟩:=rk
    unfold cT8
    split
    ·rename_i d ks vs l hg
     split
     ·rename_i es hes
      cases hc:(aB3 E.P kt ks&&Nat.ble 2 ks.length&&Nat.ble h.wm b)with
      |false=>trivial
      |true=>
       obtain⟨hc,hwm⟩:=O4 hc
       obtain⟨hkt,h2⟩:=O4 hc
       rw[P0]at h2 hwm
       intro _
       obtain⟨En,c,q1,q2,q3⟩:=r.marr hg hL
       obtain⟨ents,hE,hmap⟩:=aO4 h2 q2
       have hkx:=T5 hes rkx
       have hkc:kx.toList=aq1 (.vl (P2 ω es)) ks 0:=by rw[hkx,V5]
       have rk':VR β ω (.agg (aF2 (.vl (P2 ω es)) ks 0)) (.agg kx):=⟨kx,rfl,by rw[hkc];exact as7 _ _ _⟩
       have hko:=aI3 hkt (.vl (P2 ω es))
       have hlen:En.toList.length=(dL ω l).length:=by
        have:=congrArg List.length q2
        simpa using this
       have hden:dL ω (.op (.mdel ks) [l,.op .row es])=(dL ω l).eraseIdx ((dL ω l).findIdx fun r=>keq ks r (.vl (P2 ω es))):=rfl
       rcases aj6 hkt (.vl (P2 ω es)) 0 hmap with⟨a,hf⟩|⟨e,row,a1,a2,a3,hf,a5,a6⟩
       ·obtain⟨v',hv',hrun⟩:=U6 hko rk' hE hf
        simp only[FR]at hv';subst hv'
        obtain⟨p1,p2⟩:=r.set1 b _ (.marr false ks vs (.op (.mdel ks) [l,.op .row es])) L (.map En c) hg hL hwm
         ⟨_,_,rfl,by rw[hden,a,List.eraseIdx_of_length_le (b9 _)];exact q2,q3.weak rfl⟩
        refine⟨β,_,_,?_,⟨_,rfl,rfl⟩,p1,p2⟩
        simp[Builtin.delete_,h0,O7 ht,R2 q1,U5 hko rk',hrun,S9 _ q1]
       ·obtain⟨v',hv',hrun⟩:=U6 hko rk' hE hf
        obtain⟨k2,v2,e1,e2,e3,e4,e5⟩:=hv'
        subst e1
        rw[j8]at e2 e3
        have hi:(dL ω l).findIdx (fun r=>keq ks r (.vl (P2 ω es)))<En.size:=by
          have:=m7.1 e3;simpa using this.1
        obtain⟨p1,p2⟩:=r.set1 b _ (.marr false ks vs (.op (.mdel ks) [l,.op .row es])) L (.map (En.eraseIdxIfInBounds ((dL ω l).findIdx fun r=>keq ks r (.vl (P2 ω es)))) c) hg hL hwm
         ⟨_,_,rfl,by rw[Array.eraseIdxIfInBounds,dif_pos hi,M8,aP1,q2,hden,aP1],by rw[Array.eraseIdxIfInBounds,dif_pos hi,M8];exact q3.erase _⟩
        refine⟨β,_,_,?_,⟨_,rfl,rfl⟩,p1,p2⟩
        simp[Builtin.delete_,h0,O7 ht,R2 q1,U5 hko rk',hrun,S9 _ q1]
     ·trivial
    ·trivial
   ·trivial
  ·trivial
 ·trivial
end Go.Ev
