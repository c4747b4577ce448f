import Derived.Test.YtdbiooidpgafaaaGreatE16m
set_option linter.unusedVariables false
set_option linter.unusedSimpArgs false
namespace Go.Ev
open Go
variable{E:Env}{β:Bij}{ω:Opq}{K:Nat→Prop}{w0 w:World}{h h':Heap}{ρA:Operand→Option AV}{ρ:Operand→Value}
theorem Y4.len{E:List MapEntry}{c:Nat}(h:Y4 true E c):E.length=c:=by
 have:=congrArg List.length (h.2.2 rfl)
 simpa using this
theorem Y4.at{E:List MapEntry}{c i:Nat}{e:MapEntry}(h:Y4 true E c)(he:E[i]? =some e):e.born=i:=by
 have h1:(E.map (·.born))[i]? =some e.born:=by rw[A1,he];rfl
 rw[h.2.2 rfl]at h1
 have h2:=m9.1 h1
 obtain⟨h3,h4⟩:=h2
 simpa using h4.symm
theorem bO8(r:HR β ω K w0 h w)(o:OpR β ω ρA ρ)(t:TypeId)(m k:Operand):SOk E β ω K w0 w h (do pure (.value (←Instr.mapEntry t (ρ m) (ρ k)))) (bp1 E.P t h (ρA m) (ρA k)):=by
 unfold bp1;trivial
theorem c33(r:HR β ω K w0 h w)(o:OpR β ω ρA ρ)(t:TypeId)(m s x:Operand):SOk E β ω K w0 w h (do Instr.entryStore t (ρ m) (ρ s) (ρ x);pure .skip) (bV8 h (ρA m) (ρA s) (ρA x)):=by
 unfold bV8;trivial
theorem Y4.erase{d:Bool}{E:List MapEntry}{c:Nat}(h:Y4 d E c)(i:Nat):Y4 false (E.eraseIdx i) c:=by
 have hs:=List.eraseIdx_sublist E i
 exact⟨h.1.sublist (hs.map _),fun e he=>h.2.1 e (hs.subset he),fun hh=>by cases hh⟩
theorem aM9{α γ:Type}(f:α→γ): ∀(l:List α) (i:Nat),(l.eraseIdx i).map f=(l.map f).eraseIdx i
 | [],_=>rfl
 |_::_,0=>rfl
 |a::l,i+1=>by simp[List.eraseIdx,aM9 f l i]
theorem cK8{ts:Array TypeId}{ty:TypeId}{m k:AV}{vm vk:Value}(r:HR β ω K w0 h w)(rm:VR β ω m vm)(rk:VR β ω k vk):bf5 E.P β ω K w0 w h (Builtin.delete_ ts ty #[vm,vk]) (df4 E.P ((ts[0]?).bind E.P.underlying) h m k):=by
 unfold df4
 split
 ·rename_i kt et ht
  simp only[l7]at ht
  obtain⟨t,h0,ht⟩:=ht
  split
  ·rename_i b
   split
   ·rename_i cs
    simp only[VR]at rm
    obtain⟨L,hL,rfl⟩:=rm
    obtain⟨kx,rfl,rkx⟩:=rk
    unfold cX8
    split
    ·rename_i d ks vs l hg
     split
     ·rename_i es hes
      cases hc:(aJ8 E.P kt ks&&Nat.ble 2 ks.length&&Nat.ble h.wm b)with
      |false=>trivial
      |true=>
       obtain⟨hc,hwm⟩:=P8 hc
       obtain⟨hkt,h2⟩:=P8 hc
       rw[Q2]at h2 hwm
       intro _
       obtain⟨En,c,q1,q2,q3⟩:=r.marr hg hL
       obtain⟨ents,hE,hmap⟩:=b33 h2 q2
       have hkx:=Z2 hes rkx
       have hkc:kx.toList=ar6 (.vl (Q4 ω es)) ks 0:=by rw[hkx,a36]
       have rk':VR β ω (.agg (aH2 (.vl (Q4 ω es)) ks 0)) (.agg kx):=⟨kx,rfl,by rw[hkc];exact az9 _ _ _⟩
       have hko:=b32 hkt (.vl (Q4 ω es))
       have hlen:En.toList.length=(dL ω l).length:=by
        have:=congrArg List.length q2
        simpa using this
       have hden:dL ω (.op (.mdel ks) [l,.op .row es])=(dL ω l).eraseIdx ((dL ω l).findIdx fun r=>keq ks r (.vl (Q4 ω es))):=rfl
       rcases av1 hkt (.vl (Q4 ω es)) 0 hmap with⟨a,hf⟩|⟨e,row,a1,a2,a3,hf,a5,a6⟩
       ·obtain⟨v',hv',hrun⟩:=Y7 hko rk' hE hf
        simp only[FR]at hv';subst hv'
        obtain⟨p1,p2⟩:=r.set1 b _ (.marr false ks vs (.op (.mdel ks) [l,.op .row es])) L (.map En c) hg hL hwm
         ⟨_,_,rfl,by rw[hden,a,List.eraseIdx_of_length_le (e8 _)];exact q2,q3.weak rfl⟩
        refine⟨β,_,_,?_,⟨_,rfl,rfl⟩,p1,p2⟩
        simp[Builtin.delete_,h0,Q0 ht,S6 q1,Y6 hko rk',hrun,W5 _ q1]
       ·obtain⟨v',hv',hrun⟩:=Y7 hko rk' hE hf
        obtain⟨k2,v2,e1,e2,e3,e4,e5⟩:=hv'
        subst e1
        rw[j7]at e2 e3
        have hi:(dL ω l).findIdx (fun r=>keq ks r (.vl (Q4 ω es)))<En.size:=by
          have:=m9.1 e3;simpa using this.1
        obtain⟨p1,p2⟩:=r.set1 b _ (.marr false ks vs (.op (.mdel ks) [l,.op .row es])) L (.map (En.eraseIdxIfInBounds ((dL ω l).findIdx fun r=>keq ks r (.vl (Q4 ω es)))) c) hg hL hwm
         ⟨_,_,rfl,by rw[Array.eraseIdxIfInBounds,dif_pos hi,N2,aM9,q2,hden,aM9],by rw[Array.eraseIdxIfInBounds,dif_pos hi,N2];exact q3.erase _⟩
        refine⟨β,_,_,?_,⟨_,rfl,rfl⟩,p1,p2⟩
        simp[Builtin.delete_,h0,Q0 ht,S6 q1,Y6 hko rk',hrun,W5 _ q1]
     ·trivial
    ·trivial
   ·trivial
  ·trivial
 ·trivial
end Go.Ev
