import Derived.Test.YtagmhdcpfhpmfaaGreatEQ8
set_option linter.unusedSimpArgs false
set_option linter.unusedVariables false
namespace Go.Ev
open Go
theorem S4{l:List Val}(h:okL l=true):l.length≤1000000:=by
 simp only[okL,d6,decide_eq_true_eq]at h;exact h.1
theorem cv9{l:List Val}(h:okL l=true):ak8 l=true:=by
 simp only[okL,d6]at h;exact h.2
theorem bH5{l:List Val}(h:okL l=true){i:Nat}(hi:i<l.length):0≤bI l i∧bI l i<256:=by
 have h2:=cv9 h
 simp only[ak8,j0,d6,decide_eq_true_eq]at h2
 have:=h2 l[i] (List.getElem_mem hi)
 have e:bI l i=(l[i].toL.getD 0 default).toI:=by
  simp only[bI,atV,O9,n6,j2 hi,Option.getD_some]
 rw[e];exact this
theorem ao4{l:List Val}(h:okL l=true){i:Nat}: ∀{n:Nat},i+n≤l.length→0≤ak7 l i n∧ak7 l i n<256^n
 |0,_=>by simp[ak7]
 |n+1,hi=>by
  have h1:=ao4 h (i:=i) (n:=n) (by omega)
  have h2:=bH5 h (show i+n<l.length by omega)
  simp only[ak7,Int.pow_succ]
  omega
theorem ao5{l:List Val}(h:okL l=true)(s:Rd)(n:Nat):0≤tkN l s n∧tkN l s n<256^n:=by
 unfold tkN
 cases hc:U8 l s n with
 |false=>
  have:(0:Int)<256^n:=Int.pow_pos (by omega)
  simp only[cond_false];omega
 |true=>
  simp only[U8,d6,decide_eq_true_eq]at hc
  exact ao4 h hc.2
theorem N1{l:List Val}{s:Rd}(h:s.pos≤l.length)(n:Nat):(tkS l s n).pos≤l.length:=by
 unfold tkS
 cases hc:U8 l s n with
 |false=>exact h
 |true=>
  simp only[U8,d6,decide_eq_true_eq]at hc
  exact hc.2
theorem cw0{l:List Val}{s:Rd}(h:s.pos≤l.length):(txS l s).pos≤l.length:=by
 unfold txS
 cases hc:bg4 l s with
 |false=>exact h
 |true=>
  simp only[bg4,d6,decide_eq_true_eq]at hc
  exact hc.2
theorem bm4{l:List Val}{s:Rd}(h:s.pos≤l.length):(pnS l s).pos≤l.length:=N1 (N1 (cw0 h) _) _
theorem cw1{l:List Val}{s:Rd}(h:s.pos≤l.length):(rwS l s).pos≤l.length:=N1 (N1 (N1 (N1 (bm4 h) _) _) _) _
theorem d23(l:List Val)(v:Val):(bh8 l v).pos≤l.length:=F9 _ _
theorem d24(l:List Val)(v:Val):(aT2 l v).pos≤l.length:=F9 _ _
theorem K2{l:List Val}{s:Rd}(h:s.pos≤l.length):bh8 l (bg3 l s)=s:=by
 rcases s with⟨p,b⟩
 show Rd.mk (min (p:Int).toNat l.length) (!((bif b then(20:Int)else 0)==0))=_
 rw[Int.toNat_natCast,A7 h]
 cases b<;>rfl
theorem I8{l:List Val}{s:Rd}(h:s.pos≤l.length):aT2 l (be9 s)=s:=by
 rcases s with⟨p,b⟩
 show Rd.mk (min (p:Int).toNat l.length) b=_
 rw[Int.toNat_natCast,A7 h]
theorem J9{l:List Val}{s:Rd}(h:s.pos≤l.length):aQ1 l (bg3 l s)=okL l:=by
 unfold aQ1;rw[K2 h];simp
theorem J6{l:List Val}{s:Rd}(h:s.pos≤l.length):aI4 l (be9 s) 0 l.length=okL l:=by
 unfold aI4;rw[I8 h];simp
theorem av2{l:List Val}{v:Val}(h:aQ1 l v=true):okL l=true∧ ∃s:Rd,s.pos≤l.length∧v=bg3 l s:=by
 simp only[aQ1,d6,decide_eq_true_eq]at h
 exact⟨h.1,bh8 l v,d23 l v,h.2⟩
theorem aj6{l:List Val}{v:Val}{off len:Int}(h:aI4 l v off len=true):okL l=true∧off=0∧len=l.length∧ ∃s:Rd,s.pos≤l.length∧v=be9 s:=by
 simp only[aI4,d6,decide_eq_true_eq]at h
 exact⟨h.1.1.1,h.1.2,h.2,aT2 l v,d24 l v,h.1.1.2⟩
theorem a74(l:List Val)(s:Rd):P3 (bg3 l s).toL 0 0= .vi s.pos:=rfl
theorem a75(l:List Val)(s:Rd):P3 (bg3 l s).toL 0 1= .vi ((l.length:Int)-s.pos):=rfl
theorem a76(l:List Val)(s:Rd):P3 (bg3 l s).toL 0 2= .vi (bif s.bad then 20 else 0):=rfl
theorem a01(s:Rd):P3 (be9 s).toL 0 0= .vi s.pos:=rfl
theorem a02(s:Rd):P3 (be9 s).toL 0 1= .vb s.bad:=rfl
theorem F40(l v n:Val):F 40 [l,v,n]= .vi (tkN l.toL (bh8 l.toL v) n.toI.toNat):=rfl
theorem F44(l v n:Val):F 44 [l,v,n]=bg3 l.toL (tkS l.toL (bh8 l.toL v) n.toI.toNat):=rfl
theorem F45(l v n:Val):F 45 [l,v,n]=be9 (tkS l.toL (aT2 l.toL v) n.toI.toNat):=rfl
theorem F46(l v:Val):F 46 [l,v]= .vb (aQ1 l.toL v):=rfl
theorem F47(l v a b:Val):F 47 [l,v,a,b]= .vb (aI4 l.toL v a.toI b.toI):=rfl
theorem F48(l v n:Val):F 48 [l,v,n]= .vi (tkN l.toL (aT2 l.toL v) n.toI.toNat):=rfl
theorem F70(l v:Val):F 70 [l,v]= .vs (txV l.toL (bh8 l.toL v)):=rfl
theorem F71(l v:Val):F 71 [l,v]=bg3 l.toL (txS l.toL (bh8 l.toL v)):=rfl
theorem F72(l v:Val):F 72 [l,v]= .vs (txV l.toL (aT2 l.toL v)):=rfl
theorem F73(l v:Val):F 73 [l,v]=be9 (txS l.toL (aT2 l.toL v)):=rfl
theorem F74(l v:Val):F 74 [l,v]= .vl [.vl (pnV l.toL (bh8 l.toL v))]:=rfl
theorem F75(l v:Val):F 75 [l,v]=bg3 l.toL (pnS l.toL (bh8 l.toL v)):=rfl
theorem F76(l v:Val):F 76 [l,v]= .vl [.vl (pnV l.toL (aT2 l.toL v))]:=rfl
theorem F77(l v:Val):F 77 [l,v]=be9 (pnS l.toL (aT2 l.toL v)):=rfl
theorem F78(l v:Val):F 78 [l,v]= .vl [.vl (rwV l.toL (aT2 l.toL v))]:=rfl
theorem F79(l v:Val):F 79 [l,v]=be9 (rwS l.toL (aT2 l.toL v)):=rfl
theorem d25{x:Int}(h0:0≤x)(h1:x<256^7):arI .shl .u64 x 8=x*256:=by
 show IntKind.u64.wrap (x*2^(min (8:Int).toNat 64))=_
 have:(2:Int)^(min (8:Int).toNat 64)=256:=by decide
 rw[this,aI7]
 omega
theorem cR3{x b:Int}(h0:0≤x)(h1:x<256^7)(b0:0≤b)(b1:b<256):arI .or .u64 (x*256) b=x*256+b:=by
 obtain⟨n,rfl⟩:=E1 h0
 obtain⟨m,rfl⟩:=E1 b0
 show IntKind.u64.wrap ((BitVec.ofInt 64 ((n:Int)*256)|||BitVec.ofInt 64 (m:Int)).toNat)=_
 have e1:((n:Int)*256)=((n*256:Nat):Int):=by omega
 have hn:n*256<2^64:=by
  have:((n*256:Nat):Int)<2^64:=by omega
  omega
 have hm:m<256:=by omega
 rw[e1,BitVec.ofInt_natCast,BitVec.ofInt_natCast,BitVec.toNat_or,BitVec.toNat_ofNat,BitVec.toNat_ofNat,C6 hn,C6 (by omega)]
 have e2:n*256|||m=n*256+m:=by
  have:=Nat.shiftLeft_add_eq_or_of_lt (b:=m) (i:=8) (by simpa using hm) n
  rw[Nat.shiftLeft_eq]at this
  exact this.symm
 rw[e2,aI7]
 omega
theorem dx9{b:Int}(b0:0≤b)(b1:b<256):arI .or .u64 0 b=b:=by
 have:=cR3 (x:=0) (by omega) (by decide) b0 b1
 simpa using this
theorem bm5{b:Int}(b0:0≤b)(b1:b<256):IntKind.u64.wrap b=b:=by rw[aI7];omega
theorem dt6(l:List Val)(p:Nat):ak7 l p 1=bI l p:=by simp[ak7]
theorem a77(l:List Val)(x:Int)(i:Nat)(h:x=i):(P3 l x 0).toI=bI l i:=by subst h;rfl
theorem Z4{l:List Val}(hl:okL l=true){p n:Nat}(hi:p+n+1≤l.length)(h3:(256:Int)^n≤256^7):arI .or .u64 (arI .shl .u64 (ak7 l p n) 8) (IntKind.u64.wrap (bI l (p+n)))=ak7 l p (n+1):=by
 have h1:=ao4 hl (i:=p) (n:=n) (by omega)
 have h2:=bH5 hl (show p+n<l.length by omega)
 have h4:ak7 l p n<256^7:=Int.lt_of_lt_of_le h1.2 h3
 rw[d25 h1.1 h4,bm5 h2.1 h2.2,cR3 h1.1 h4 h2.1 h2.2]
 rfl
theorem aI8{l:List Val}(hl:okL l=true){p:Nat}(hi:p+1≤l.length):arI .or .u64 0 (IntKind.u64.wrap (bI l p))=ak7 l p 1:=by
 have h2:=bH5 hl (show p<l.length by omega)
 rw[bm5 h2.1 h2.2,dx9 h2.1 h2.2,dt6]
theorem Z5{l:List Val}(hl:okL l=true){p n:Nat}(hi:p+n+1≤l.length)(h3:(256:Int)^n≤256^7):arI .add .u64 (arI .mul .u64 (ak7 l p n) 256) (IntKind.u64.wrap (bI l (p+n)))=ak7 l p (n+1):=by
 have h1:=ao4 hl (i:=p) (n:=n) (by omega)
 have h2:=bH5 hl (show p+n<l.length by omega)
 have h4:ak7 l p n<72057594037927936:=Int.lt_of_lt_of_le h1.2 (Int.le_trans h3 (by decide))
 rw[bm5 h2.1 h2.2]
 show IntKind.u64.wrap (IntKind.u64.wrap (ak7 l p n*256)+bI l (p+n))=ak7 l p n*256+bI l (p+n)
 rw[aI7,aI7]
 omega
theorem aI9{l:List Val}(hl:okL l=true){p:Nat}(hi:p+1≤l.length):arI .add .u64 0 (IntKind.u64.wrap (bI l p))=ak7 l p 1:=by
 have h2:=bH5 hl (show p<l.length by omega)
 rw[bm5 h2.1 h2.2,dt6]
 show IntKind.u64.wrap (0+bI l p)=_
 rw[aI7];omega
theorem ifp{α:Type}{c:Prop} [Decidable c]{a b:α}{r:α}(h:c)(e:a=r):(if c then a else b)=r:=by rw[if_pos h,e]
theorem ifn{α:Type}{c:Prop} [Decidable c]{a b:α}{r:α}(h: ¬c)(e:b=r):(if c then a else b)=r:=by rw[if_neg h,e]
theorem dy0(x:Int):IntKind.u32.wrap x=x % 4294967296:=by simp[IntKind.wrap,IntKind.bits,IntKind.signed]
theorem T2{x y:Int}(h:0≤x+y)(h2:x+y≤10000000):arI .add .i64 x y=x+y:=by
 show IntKind.i64.wrap (x+y)=_
 exact wrap_i64 h h2
theorem aQ2{x y:Int}(h:0≤x-y)(h2:x-y≤10000000):arI .sub .i64 x y=x-y:=by
 show IntKind.i64.wrap (x-y)=_
 exact wrap_i64 h h2
theorem dA1{ω:Opq}(hf: ∀i a,ω.f i a=F i a)(hg:aQ1 (ω.w 0).toL (ω.w 1)=true):G6 do4 ω=some (0,[F 40 [ω.w 0,ω.w 1,.vi 1],P3 (F 44 [ω.w 0,ω.w 1,.vi 1]).toL 0 0,P3 (F 44 [ω.w 0,ω.w 1,.vi 1]).toL 0 1,P3 (F 44 [ω.w 0,ω.w 1,.vi 1]).toL 0 2]):=by
 obtain⟨hl,⟨p,b⟩,hs,e⟩:=av2 hg
 have hs:p≤(ω.w 0).toL.length:=hs
 have d0:bh8 (ω.w 0).toL (bg3 (ω.w 0).toL ⟨p,b⟩)=⟨p,b⟩:=K2 hs
 have e2:(1:Int).toNat=1:=rfl
 have e0:p+0=p:=rfl
 simp only[F40,F44,a74,a75,a76,e,d0,e2,do4,G6,I9,den,dB,K1,G9,H8,I2,O2,I7,I3,I5,J3,d6,decide_eq_true_eq,i7,decide_eq_false_iff_not]
 cases b with
 |true=>
  have hc:U8 (ω.w 0).toL ⟨p,true⟩ 1=false:=rfl
  simp only[tkN,tkS,hc,cond_true,cond_false]
  exact ifp (by decide) rfl
 |false=>
  refine ifn (by decide) ?_
  refine ifp (by omega) ?_
  by_cases h:p+1≤(ω.w 0).toL.length
  ·refine ifn (by omega) ?_
   repeat refine ifp (by omega) ?_
   have g0:=a77 (ω.w 0).toL ((p:Int)+0+0) (p+0) (by omega)
   have hc:U8 (ω.w 0).toL ⟨p,false⟩ 1=true:=by simp[U8,h]
   have hk:=ao4 hl (i:=p) (n:=1) h
   have w:IntKind.u8.wrap (ak7 (ω.w 0).toL p 1)=ak7 (ω.w 0).toL p 1:=by
    have e3:(256:Int)^1=256:=by decide
    rw[wu8];omega
   simp only[e0,g0,aI8 hl (show p+1≤_ by omega),tkN,tkS,hc,cond_true,cond_false,w]
   refine congrArg (fun x=>some (0,x)) ?_
   simp only[s7,Val.vi.injEq,and_true,true_and]
   omega
  ·refine ifp (by omega) ?_
   have hc:U8 (ω.w 0).toL ⟨p,false⟩ 1=false:=by simp[U8];omega
   simp only[tkN,tkS,hc,cond_true,cond_false]
theorem dt7{ω:Opq}(hf: ∀i a,ω.f i a=F i a)(hg:aQ1 (ω.w 0).toL (ω.w 1)=true):G6 cI6 ω=some (0,[F 40 [ω.w 0,ω.w 1,.vi 2],P3 (F 44 [ω.w 0,ω.w 1,.vi 2]).toL 0 0,P3 (F 44 [ω.w 0,ω.w 1,.vi 2]).toL 0 1,P3 (F 44 [ω.w 0,ω.w 1,.vi 2]).toL 0 2]):=by
 obtain⟨hl,⟨p,b⟩,hs,e⟩:=av2 hg
 have hs:p≤(ω.w 0).toL.length:=hs
 have d0:bh8 (ω.w 0).toL (bg3 (ω.w 0).toL ⟨p,b⟩)=⟨p,b⟩:=K2 hs
 have e2:(2:Int).toNat=2:=rfl
 have e0:p+0=p:=rfl
 simp only[F40,F44,a74,a75,a76,e,d0,e2,cI6,G6,I9,den,dB,K1,G9,H8,I2,O2,I7,I3,I5,J3,d6,decide_eq_true_eq,i7,decide_eq_false_iff_not]
 cases b with
 |true=>
  have hc:U8 (ω.w 0).toL ⟨p,true⟩ 2=false:=rfl
  simp only[tkN,tkS,hc,cond_true,cond_false]
  exact ifp (by decide) rfl
 |false=>
  refine ifn (by decide) ?_
  refine ifp (by omega) ?_
  by_cases h:p+2≤(ω.w 0).toL.length
  ·refine ifn (by omega) ?_
   repeat refine ifp (by omega) ?_
   have g0:=a77 (ω.w 0).toL ((p:Int)+0+0) (p+0) (by omega)
   have g1:=a77 (ω.w 0).toL ((p:Int)+0+1) (p+1) (by omega)
   have hc:U8 (ω.w 0).toL ⟨p,false⟩ 2=true:=by simp[U8,h]
   have hk:=ao4 hl (i:=p) (n:=2) h
   have w:IntKind.u16.wrap (ak7 (ω.w 0).toL p 2)=ak7 (ω.w 0).toL p 2:=by
    have e3:(256:Int)^2=65536:=by decide
    rw[dt3];omega
   simp only[e0,g0,g1,aI8 hl (show p+1≤_ by omega),Z4 hl (show p+1+1≤_ by omega) (by decide),tkN,tkS,hc,cond_true,cond_false,w]
   refine congrArg (fun x=>some (0,x)) ?_
   simp only[s7,Val.vi.injEq,and_true,true_and]
   omega
  ·refine ifp (by omega) ?_
   have hc:U8 (ω.w 0).toL ⟨p,false⟩ 2=false:=by simp[U8];omega
   simp only[tkN,tkS,hc,cond_true,cond_false]
theorem dt8{ω:Opq}(hf: ∀i a,ω.f i a=F i a)(hg:aQ1 (ω.w 0).toL (ω.w 1)=true):G6 cI7 ω=some (0,[F 40 [ω.w 0,ω.w 1,.vi 4],P3 (F 44 [ω.w 0,ω.w 1,.vi 4]).toL 0 0,P3 (F 44 [ω.w 0,ω.w 1,.vi 4]).toL 0 1,P3 (F 44 [ω.w 0,ω.w 1,.vi 4]).toL 0 2]):=by
 obtain⟨hl,⟨p,b⟩,hs,e⟩:=av2 hg
 have hs:p≤(ω.w 0).toL.length:=hs
 have d0:bh8 (ω.w 0).toL (bg3 (ω.w 0).toL ⟨p,b⟩)=⟨p,b⟩:=K2 hs
 have e2:(4:Int).toNat=4:=rfl
 have e0:p+0=p:=rfl
 simp only[F40,F44,a74,a75,a76,e,d0,e2,cI7,G6,I9,den,dB,K1,G9,H8,I2,O2,I7,I3,I5,J3,d6,decide_eq_true_eq,i7,decide_eq_false_iff_not]
 cases b with
 |true=>
  have hc:U8 (ω.w 0).toL ⟨p,true⟩ 4=false:=rfl
  simp only[tkN,tkS,hc,cond_true,cond_false]
  exact ifp (by decide) rfl
 |false=>
  refine ifn (by decide) ?_
  refine ifp (by omega) ?_
  by_cases h:p+4≤(ω.w 0).toL.length
  ·refine ifn (by omega) ?_
   repeat refine ifp (by omega) ?_
   have g0:=a77 (ω.w 0).toL ((p:Int)+0+0) (p+0) (by omega)
   have g1:=a77 (ω.w 0).toL ((p:Int)+0+1) (p+1) (by omega)
   have g2:=a77 (ω.w 0).toL ((p:Int)+0+2) (p+2) (by omega)
   have g3:=a77 (ω.w 0).toL ((p:Int)+0+3) (p+3) (by omega)
   have hc:U8 (ω.w 0).toL ⟨p,false⟩ 4=true:=by simp[U8,h]
   have hk:=ao4 hl (i:=p) (n:=4) h
   have w:IntKind.u32.wrap (ak7 (ω.w 0).toL p 4)=ak7 (ω.w 0).toL p 4:=by
    have e3:(256:Int)^4=4294967296:=by decide
    rw[dy0];omega
   simp only[e0,g0,g1,g2,g3,aI8 hl (show p+1≤_ by omega),Z4 hl (show p+1+1≤_ by omega) (by decide),Z4 hl (show p+2+1≤_ by omega) (by decide),Z4 hl (show p+3+1≤_ by omega) (by decide),tkN,tkS,hc,cond_true,cond_false,w]
   refine congrArg (fun x=>some (0,x)) ?_
   simp only[s7,Val.vi.injEq,and_true,true_and]
   omega
  ·refine ifp (by omega) ?_
   have hc:U8 (ω.w 0).toL ⟨p,false⟩ 4=false:=by simp[U8];omega
   simp only[tkN,tkS,hc,cond_true,cond_false]
theorem dt9{ω:Opq}(hf: ∀i a,ω.f i a=F i a)(hg:aQ1 (ω.w 0).toL (ω.w 1)=true):G6 cI8 ω=some (0,[F 40 [ω.w 0,ω.w 1,.vi 8],P3 (F 44 [ω.w 0,ω.w 1,.vi 8]).toL 0 0,P3 (F 44 [ω.w 0,ω.w 1,.vi 8]).toL 0 1,P3 (F 44 [ω.w 0,ω.w 1,.vi 8]).toL 0 2]):=by
 obtain⟨hl,⟨p,b⟩,hs,e⟩:=av2 hg
 have hs:p≤(ω.w 0).toL.length:=hs
 have d0:bh8 (ω.w 0).toL (bg3 (ω.w 0).toL ⟨p,b⟩)=⟨p,b⟩:=K2 hs
 have e2:(8:Int).toNat=8:=rfl
 have e0:p+0=p:=rfl
 simp only[F40,F44,a74,a75,a76,e,d0,e2,cI8,G6,I9,den,dB,K1,G9,H8,I2,O2,I7,I3,I5,J3,d6,decide_eq_true_eq,i7,decide_eq_false_iff_not]
 cases b with
 |true=>
  have hc:U8 (ω.w 0).toL ⟨p,true⟩ 8=false:=rfl
  simp only[tkN,tkS,hc,cond_true,cond_false]
  exact ifp (by decide) rfl
 |false=>
  refine ifn (by decide) ?_
  refine ifp (by omega) ?_
  by_cases h:p+8≤(ω.w 0).toL.length
  ·refine ifn (by omega) ?_
   repeat refine ifp (by omega) ?_
   have g0:=a77 (ω.w 0).toL ((p:Int)+0+0) (p+0) (by omega)
   have g1:=a77 (ω.w 0).toL ((p:Int)+0+1) (p+1) (by omega)
   have g2:=a77 (ω.w 0).toL ((p:Int)+0+2) (p+2) (by omega)
   have g3:=a77 (ω.w 0).toL ((p:Int)+0+3) (p+3) (by omega)
   have g4:=a77 (ω.w 0).toL ((p:Int)+0+4) (p+4) (by omega)
   have g5:=a77 (ω.w 0).toL ((p:Int)+0+5) (p+5) (by omega)
   have g6:=a77 (ω.w 0).toL ((p:Int)+0+6) (p+6) (by omega)
   have g7:=a77 (ω.w 0).toL ((p:Int)+0+7) (p+7) (by omega)
   have hc:U8 (ω.w 0).toL ⟨p,false⟩ 8=true:=by simp[U8,h]
   have hk:=ao4 hl (i:=p) (n:=8) h
   simp only[e0,g0,g1,g2,g3,g4,g5,g6,g7,aI8 hl (show p+1≤_ by omega),Z4 hl (show p+1+1≤_ by omega) (by decide),Z4 hl (show p+2+1≤_ by omega) (by decide),Z4 hl (show p+3+1≤_ by omega) (by decide),Z4 hl (show p+4+1≤_ by omega) (by decide),Z4 hl (show p+5+1≤_ by omega) (by decide),Z4 hl (show p+6+1≤_ by omega) (by decide),Z4 hl (show p+7+1≤_ by omega) (by decide),tkN,tkS,hc,cond_true,cond_false]
   refine congrArg (fun x=>some (0,x)) ?_
   simp only[s7,Val.vi.injEq,and_true,true_and]
   omega
  ·refine ifp (by omega) ?_
   have hc:U8 (ω.w 0).toL ⟨p,false⟩ 8=false:=by simp[U8];omega
   simp only[tkN,tkS,hc,cond_true,cond_false]
theorem d26{ω:Opq}(hf: ∀i a,ω.f i a=F i a)(hg:aI4 (ω.w 0).toL (ω.w 1) (ω.w 2).toI (ω.w 3).toI=true):G6 bs5 ω=some (0,[F 48 [ω.w 0,ω.w 1,.vi 1],ω.w 2,ω.w 3,P3 (F 45 [ω.w 0,ω.w 1,.vi 1]).toL 0 0,P3 (F 45 [ω.w 0,ω.w 1,.vi 1]).toL 0 1]):=by
 obtain⟨hl,o0,o1,⟨p,b⟩,hs,e⟩:=aj6 hg
 have hs:p≤(ω.w 0).toL.length:=hs
 have hll:=S4 hl
 have d0:aT2 (ω.w 0).toL (be9 ⟨p,b⟩)=⟨p,b⟩:=I8 hs
 have e2:(1:Int).toNat=1:=rfl
 have e0:p+0=p:=rfl
 have sb:arI .sub .i64 ((ω.w 0).toL.length:Int) (p:Int)=((ω.w 0).toL.length:Int)-p:=aQ2 (by omega) (by omega)
 simp only[F45,F48,a01,a02,e,d0,e2,o0,o1,sb,bs5,G6,I9,den,dB,K1,G9,H8,I2,O2,I7,I3,I5,J3,d6,decide_eq_true_eq,i7,decide_eq_false_iff_not]
 cases b with
 |true=>
  have hc:U8 (ω.w 0).toL ⟨p,true⟩ 1=false:=rfl
  simp only[tkN,tkS,hc,cond_true,cond_false,if_true]
 |false=>
  refine ifn (by decide) ?_
  refine ifp (by omega) ?_
  by_cases h:p+1≤(ω.w 0).toL.length
  ·refine ifn (by omega) ?_
   have a0:arI .add .i64 (p:Int) 0=(p:Int)+0:=T2 (by omega) (by omega)
   have a1:arI .add .i64 (p:Int) 1=(p:Int)+1:=T2 (by omega) (by omega)
   simp only[a0,a1]
   repeat refine ifp (by omega) ?_
   have g0:=a77 (ω.w 0).toL (0+((p:Int)+0)) (p+0) (by omega)
   have hc:U8 (ω.w 0).toL ⟨p,false⟩ 1=true:=by simp[U8,h]
   simp only[e0,g0,aI9 hl (show p+1≤_ by omega),tkN,tkS,hc,cond_true,cond_false]
   refine congrArg (fun x=>some (0,x)) ?_
   simp only[s7,Val.vi.injEq,and_true,true_and]
   omega
  ·refine ifp (by omega) ?_
   have hc:U8 (ω.w 0).toL ⟨p,false⟩ 1=false:=by simp[U8];omega
   simp only[tkN,tkS,hc,cond_true,cond_false]
theorem d27{ω:Opq}(hf: ∀i a,ω.f i a=F i a)(hg:aI4 (ω.w 0).toL (ω.w 1) (ω.w 2).toI (ω.w 3).toI=true):G6 bs6 ω=some (0,[F 48 [ω.w 0,ω.w 1,.vi 2],ω.w 2,ω.w 3,P3 (F 45 [ω.w 0,ω.w 1,.vi 2]).toL 0 0,P3 (F 45 [ω.w 0,ω.w 1,.vi 2]).toL 0 1]):=by
 obtain⟨hl,o0,o1,⟨p,b⟩,hs,e⟩:=aj6 hg
 have hs:p≤(ω.w 0).toL.length:=hs
 have hll:=S4 hl
 have d0:aT2 (ω.w 0).toL (be9 ⟨p,b⟩)=⟨p,b⟩:=I8 hs
 have e2:(2:Int).toNat=2:=rfl
 have e0:p+0=p:=rfl
 have sb:arI .sub .i64 ((ω.w 0).toL.length:Int) (p:Int)=((ω.w 0).toL.length:Int)-p:=aQ2 (by omega) (by omega)
 simp only[F45,F48,a01,a02,e,d0,e2,o0,o1,sb,bs6,G6,I9,den,dB,K1,G9,H8,I2,O2,I7,I3,I5,J3,d6,decide_eq_true_eq,i7,decide_eq_false_iff_not]
 cases b with
 |true=>
  have hc:U8 (ω.w 0).toL ⟨p,true⟩ 2=false:=rfl
  simp only[tkN,tkS,hc,cond_true,cond_false,if_true]
 |false=>
  refine ifn (by decide) ?_
  refine ifp (by omega) ?_
  by_cases h:p+2≤(ω.w 0).toL.length
  ·refine ifn (by omega) ?_
   have a0:arI .add .i64 (p:Int) 0=(p:Int)+0:=T2 (by omega) (by omega)
   have a1:arI .add .i64 (p:Int) 1=(p:Int)+1:=T2 (by omega) (by omega)
   have a2:arI .add .i64 (p:Int) 2=(p:Int)+2:=T2 (by omega) (by omega)
   simp only[a0,a1,a2]
   repeat refine ifp (by omega) ?_
   have g0:=a77 (ω.w 0).toL (0+((p:Int)+0)) (p+0) (by omega)
   have g1:=a77 (ω.w 0).toL (0+((p:Int)+1)) (p+1) (by omega)
   have hc:U8 (ω.w 0).toL ⟨p,false⟩ 2=true:=by simp[U8,h]
   simp only[e0,g0,g1,aI9 hl (show p+1≤_ by omega),Z5 hl (show p+1+1≤_ by omega) (by decide),tkN,tkS,hc,cond_true,cond_false]
   refine congrArg (fun x=>some (0,x)) ?_
   simp only[s7,Val.vi.injEq,and_true,true_and]
   omega
  ·refine ifp (by omega) ?_
   have hc:U8 (ω.w 0).toL ⟨p,false⟩ 2=false:=by simp[U8];omega
   simp only[tkN,tkS,hc,cond_true,cond_false]
theorem d28{ω:Opq}(hf: ∀i a,ω.f i a=F i a)(hg:aI4 (ω.w 0).toL (ω.w 1) (ω.w 2).toI (ω.w 3).toI=true):G6 bs7 ω=some (0,[F 48 [ω.w 0,ω.w 1,.vi 4],ω.w 2,ω.w 3,P3 (F 45 [ω.w 0,ω.w 1,.vi 4]).toL 0 0,P3 (F 45 [ω.w 0,ω.w 1,.vi 4]).toL 0 1]):=by
 obtain⟨hl,o0,o1,⟨p,b⟩,hs,e⟩:=aj6 hg
 have hs:p≤(ω.w 0).toL.length:=hs
 have hll:=S4 hl
 have d0:aT2 (ω.w 0).toL (be9 ⟨p,b⟩)=⟨p,b⟩:=I8 hs
 have e2:(4:Int).toNat=4:=rfl
 have e0:p+0=p:=rfl
 have sb:arI .sub .i64 ((ω.w 0).toL.length:Int) (p:Int)=((ω.w 0).toL.length:Int)-p:=aQ2 (by omega) (by omega)
 simp only[F45,F48,a01,a02,e,d0,e2,o0,o1,sb,bs7,G6,I9,den,dB,K1,G9,H8,I2,O2,I7,I3,I5,J3,d6,decide_eq_true_eq,i7,decide_eq_false_iff_not]
 cases b with
 |true=>
  have hc:U8 (ω.w 0).toL ⟨p,true⟩ 4=false:=rfl
  simp only[tkN,tkS,hc,cond_true,cond_false,if_true]
 |false=>
  refine ifn (by decide) ?_
  refine ifp (by omega) ?_
  by_cases h:p+4≤(ω.w 0).toL.length
  ·refine ifn (by omega) ?_
   have a0:arI .add .i64 (p:Int) 0=(p:Int)+0:=T2 (by omega) (by omega)
   have a1:arI .add .i64 (p:Int) 1=(p:Int)+1:=T2 (by omega) (by omega)
   have a2:arI .add .i64 (p:Int) 2=(p:Int)+2:=T2 (by omega) (by omega)
   have a3:arI .add .i64 (p:Int) 3=(p:Int)+3:=T2 (by omega) (by omega)
   have a4:arI .add .i64 (p:Int) 4=(p:Int)+4:=T2 (by omega) (by omega)
   simp only[a0,a1,a2,a3,a4]
   repeat refine ifp (by omega) ?_
   have g0:=a77 (ω.w 0).toL (0+((p:Int)+0)) (p+0) (by omega)
   have g1:=a77 (ω.w 0).toL (0+((p:Int)+1)) (p+1) (by omega)
   have g2:=a77 (ω.w 0).toL (0+((p:Int)+2)) (p+2) (by omega)
   have g3:=a77 (ω.w 0).toL (0+((p:Int)+3)) (p+3) (by omega)
   have hc:U8 (ω.w 0).toL ⟨p,false⟩ 4=true:=by simp[U8,h]
   simp only[e0,g0,g1,g2,g3,aI9 hl (show p+1≤_ by omega),Z5 hl (show p+1+1≤_ by omega) (by decide),Z5 hl (show p+2+1≤_ by omega) (by decide),Z5 hl (show p+3+1≤_ by omega) (by decide),tkN,tkS,hc,cond_true,cond_false]
   refine congrArg (fun x=>some (0,x)) ?_
   simp only[s7,Val.vi.injEq,and_true,true_and]
   omega
  ·refine ifp (by omega) ?_
   have hc:U8 (ω.w 0).toL ⟨p,false⟩ 4=false:=by simp[U8];omega
   simp only[tkN,tkS,hc,cond_true,cond_false]
theorem d29{ω:Opq}(hf: ∀i a,ω.f i a=F i a)(hg:aI4 (ω.w 0).toL (ω.w 1) (ω.w 2).toI (ω.w 3).toI=true):G6 bs8 ω=some (0,[F 48 [ω.w 0,ω.w 1,.vi 8],ω.w 2,ω.w 3,P3 (F 45 [ω.w 0,ω.w 1,.vi 8]).toL 0 0,P3 (F 45 [ω.w 0,ω.w 1,.vi 8]).toL 0 1]):=by
 obtain⟨hl,o0,o1,⟨p,b⟩,hs,e⟩:=aj6 hg
 have hs:p≤(ω.w 0).toL.length:=hs
 have hll:=S4 hl
 have d0:aT2 (ω.w 0).toL (be9 ⟨p,b⟩)=⟨p,b⟩:=I8 hs
 have e2:(8:Int).toNat=8:=rfl
 have e0:p+0=p:=rfl
 have sb:arI .sub .i64 ((ω.w 0).toL.length:Int) (p:Int)=((ω.w 0).toL.length:Int)-p:=aQ2 (by omega) (by omega)
 simp only[F45,F48,a01,a02,e,d0,e2,o0,o1,sb,bs8,G6,I9,den,dB,K1,G9,H8,I2,O2,I7,I3,I5,J3,d6,decide_eq_true_eq,i7,decide_eq_false_iff_not]
 cases b with
 |true=>
  have hc:U8 (ω.w 0).toL ⟨p,true⟩ 8=false:=rfl
  simp only[tkN,tkS,hc,cond_true,cond_false,if_true]
 |false=>
  refine ifn (by decide) ?_
  refine ifp (by omega) ?_
  by_cases h:p+8≤(ω.w 0).toL.length
  ·refine ifn (by omega) ?_
   have a0:arI .add .i64 (p:Int) 0=(p:Int)+0:=T2 (by omega) (by omega)
   have a1:arI .add .i64 (p:Int) 1=(p:Int)+1:=T2 (by omega) (by omega)
   have a2:arI .add .i64 (p:Int) 2=(p:Int)+2:=T2 (by omega) (by omega)
   have a3:arI .add .i64 (p:Int) 3=(p:Int)+3:=T2 (by omega) (by omega)
   have a4:arI .add .i64 (p:Int) 4=(p:Int)+4:=T2 (by omega) (by omega)
   have a5:arI .add .i64 (p:Int) 5=(p:Int)+5:=T2 (by omega) (by omega)
   have a6:arI .add .i64 (p:Int) 6=(p:Int)+6:=T2 (by omega) (by omega)
   have a7:arI .add .i64 (p:Int) 7=(p:Int)+7:=T2 (by omega) (by omega)
   have a8:arI .add .i64 (p:Int) 8=(p:Int)+8:=T2 (by omega) (by omega)
   simp only[a0,a1,a2,a3,a4,a5,a6,a7,a8]
   repeat refine ifp (by omega) ?_
   have g0:=a77 (ω.w 0).toL (0+((p:Int)+0)) (p+0) (by omega)
   have g1:=a77 (ω.w 0).toL (0+((p:Int)+1)) (p+1) (by omega)
   have g2:=a77 (ω.w 0).toL (0+((p:Int)+2)) (p+2) (by omega)
   have g3:=a77 (ω.w 0).toL (0+((p:Int)+3)) (p+3) (by omega)
   have g4:=a77 (ω.w 0).toL (0+((p:Int)+4)) (p+4) (by omega)
   have g5:=a77 (ω.w 0).toL (0+((p:Int)+5)) (p+5) (by omega)
   have g6:=a77 (ω.w 0).toL (0+((p:Int)+6)) (p+6) (by omega)
   have g7:=a77 (ω.w 0).toL (0+((p:Int)+7)) (p+7) (by omega)
   have hc:U8 (ω.w 0).toL ⟨p,false⟩ 8=true:=by simp[U8,h]
   simp only[e0,g0,g1,g2,g3,g4,g5,g6,g7,aI9 hl (show p+1≤_ by omega),Z5 hl (show p+1+1≤_ by omega) (by decide),Z5 hl (show p+2+1≤_ by omega) (by decide),Z5 hl (show p+3+1≤_ by omega) (by decide),Z5 hl (show p+4+1≤_ by omega) (by decide),Z5 hl (show p+5+1≤_ by omega) (by decide),Z5 hl (show p+6+1≤_ by omega) (by decide),Z5 hl (show p+7+1≤_ by omega) (by decide),tkN,tkS,hc,cond_true,cond_false]
   refine congrArg (fun x=>some (0,x)) ?_
   simp only[s7,Val.vi.injEq,and_true,true_and]
   omega
  ·refine ifp (by omega) ?_
   have hc:U8 (ω.w 0).toL ⟨p,false⟩ 8=false:=by simp[U8];omega
   simp only[tkN,tkS,hc,cond_true,cond_false]
theorem Y9(l:List Val):Val.vl [.vl [.vi 0,.vi l.length,.vi 0]]=bg3 l ⟨0,false⟩:=by simp[bg3]
theorem P8:Val.vl [.vl [.vi 0,.vb false]]=be9 ⟨0,false⟩:=by simp[be9]
theorem Q8{l:List Val}(h:1≤l.length):a72 l=bI l 0:=by
 unfold a72;rw[decide_eq_false (by omega)];rfl
theorem d30{ω:Opq}{k:Int}(hl:okL (ω.w 0).toL=true)(h1:1≤(ω.w 0).toL.length)(hk:a72 (ω.w 0).toL=k):
 G6 bs1 ω=some (0,[.vi k,P3 (F 44 [ω.w 0,.vl [.vl [.vi 0,.vi (ω.w 0).toL.length,.vi 0]],.vi 1]).toL 0 0,P3 (F 44 [ω.w 0,.vl [.vl [.vi 0,.vi (ω.w 0).toL.length,.vi 0]],.vi 1]).toL 0 1,P3 (F 44 [ω.w 0,.vl [.vl [.vi 0,.vi (ω.w 0).toL.length,.vi 0]],.vi 1]).toL 0 2]):=by
 have hc:U8 (ω.w 0).toL ⟨0,false⟩ 1=true:=by simp[U8,h1]
 have d0:bh8 (ω.w 0).toL (bg3 (ω.w 0).toL ⟨0,false⟩)=⟨0,false⟩:=K2 (m7 _)
 rw[Q8 h1]at hk
 have hb:=bH5 hl (show 0<(ω.w 0).toL.length by omega)
 have g0:=a77 (ω.w 0).toL 0 0 rfl
 have e2:(1:Int).toNat=1:=rfl
 simp only[Y9,F44,a74,a75,a76,d0,e2,bs1,G6,I9,den,dB,K1,G9,H8,I2,O2,I7,I3,d6,decide_eq_true_eq,g0,tkS,hc,cond_true,cond_false]
 refine ifn (by omega) ?_
 repeat refine ifp (by omega) ?_
 rw[bm5 hb.1 hb.2,dx9 hb.1 hb.2,wu8]
 refine congrArg (fun x=>some (0,x)) ?_
 simp only[s7,Val.vi.injEq,and_true,true_and]
 omega
theorem d31{ω:Opq}{k:Int}(hl:okL (ω.w 0).toL=true)(o0:(ω.w 1).toI=0)(o1:(ω.w 2).toI=(ω.w 0).toL.length)(hk:a72 (ω.w 0).toL=k):
 G6 bs2 ω=some (0,[.vi k,ω.w 1,ω.w 2,P3 (F 45 [ω.w 0,.vl [.vl [.vi 0,.vb false]],.vi 1]).toL 0 0,P3 (F 45 [ω.w 0,.vl [.vl [.vi 0,.vb false]],.vi 1]).toL 0 1]):=by
 have d0:aT2 (ω.w 0).toL (be9 ⟨0,false⟩)=⟨0,false⟩:=I8 (m7 _)
 have hll:=S4 hl
 have g0:=a77 (ω.w 0).toL (0+0) 0 rfl
 have e2:(1:Int).toNat=1:=rfl
 have sb:arI .sub .i64 ((ω.w 0).toL.length:Int) 0=((ω.w 0).toL.length:Int):=(aQ2 (by omega) (by omega)).trans (by omega)
 simp only[P8,F45,a01,a02,d0,e2,bs2,G6,I9,den,dB,K1,G9,H8,I2,O2,I7,I3,d6,decide_eq_true_eq,g0,o0,o1,sb,tkS]
 refine ifp (by omega) ?_
 by_cases h1:1≤(ω.w 0).toL.length
 ·have hc:U8 (ω.w 0).toL ⟨0,false⟩ 1=true:=by simp[U8,h1]
  rw[Q8 h1]at hk
  have hb:=bH5 hl (show 0<(ω.w 0).toL.length by omega)
  refine ifn (by omega) ?_
  repeat refine ifp (by omega) ?_
  rw[bm5 hb.1 hb.2,hc,show arI .add .u64 0 (bI (ω.w 0).toL 0)=bI (ω.w 0).toL 0 by show IntKind.u64.wrap (0+_)=_;rw[aI7];omega]
  refine congrArg (fun x=>some (0,x)) ?_
  simp only[s7,Val.vi.injEq,and_true,true_and,cond_true]
  omega
 ·have h0:(ω.w 0).toL.length=0:=by omega
  have hc:U8 (ω.w 0).toL ⟨0,false⟩ 1=false:=by simp[U8,h0]
  refine ifp (by omega) ?_
  rw[hc]
  have:k=0:=by rw[←hk];unfold a72;rw[decide_eq_true h0];rfl
  subst this
  rfl
theorem aJ0{l:List Val}(h:okL l=true)(i m:Nat):ak8 ((l.drop i).take m)=true:=by
 have h2:=cv9 h
 simp only[ak8,j0]at h2⊢
 exact fun x hx=>h2 x (C4 (C3 hx))
theorem a21(v:Val):K1 .bok [v]= .vb (ak8 v.toL):=rfl
theorem bH6(v:Val):K1 .bstr [v]= .vs (v.toL.map fun r=>UInt8.ofNat (r.toL.getD 0 default).toI.toNat):=rfl
theorem bH7(l a b:Val):K1 .lsub [l,a,b]= .vl ((l.toL.drop a.toI.toNat).take (b.toI-a.toI).toNat):=rfl
theorem d32{ω:Opq}(hf: ∀i a,ω.f i a=F i a)(hg:aQ1 (ω.w 0).toL (ω.w 1)=true):G6 bt0 ω=some (0,[F 70 [ω.w 0,ω.w 1],P3 (F 71 [ω.w 0,ω.w 1]).toL 0 0,P3 (F 71 [ω.w 0,ω.w 1]).toL 0 1,P3 (F 71 [ω.w 0,ω.w 1]).toL 0 2]):=by
 obtain⟨hl,s,hs,e⟩:=av2 hg
 have hll:=S4 hl
 have d0:=K2 hs
 have e2:(2:Int).toNat=2:=rfl
 have hg':aQ1 (ω.w 0).toL (bg3 (ω.w 0).toL s)=true:=by rw[←e];exact hg
 have hn:=ao5 hl s 2
 have e3:(256:Int)^2=65536:=by decide
 have hw:IntKind.i64.wrap (tkN (ω.w 0).toL s 2)=tkN (ω.w 0).toL s 2:=wrap_i64 (by omega) (by omega)
 have hN:(txN (ω.w 0).toL s:Int)=tkN (ω.w 0).toL s 2:=by unfold txN;omega
 simp only[bt0,G6,I9,den,dB,hf,F40,F44,F46,F70,F71,e,d0,hg',e2]
 simp only[K1,a21,bH6,bH7,a74,a75,a76,G9,H8,I2,O2,I7,I3,d6,decide_eq_true_eq,i7,decide_eq_false_iff_not,e2,hw,if_true]
 cases hc:U8 (ω.w 0).toL s 2 with
 |false=>
  have ho:bg4 (ω.w 0).toL s=false:=by simp[bg4,hc]
  have h1:tkS (ω.w 0).toL s 2=⟨s.pos,true⟩:=by unfold tkS;rw[hc];rfl
  simp only[h1,txV,txS,ho,cond_true,cond_false]
  exact ifp (by decide) rfl
 |true=>
  have h1:tkS (ω.w 0).toL s 2=⟨s.pos+2,false⟩:=by unfold tkS;rw[hc];rfl
  have h2:s.bad=false∧s.pos+2≤(ω.w 0).toL.length:=by
   simp only[U8,d6,i7,decide_eq_true_eq]at hc;exact hc
  simp only[h1,cond_false]
  refine ifn (by decide) ?_
  refine ifp (by omega) ?_
  by_cases h3:s.pos+2+txN (ω.w 0).toL s≤(ω.w 0).toL.length
  ·have ho:bg4 (ω.w 0).toL s=true:=by simp[bg4,hc,h3]
   refine ifn (by omega) ?_
   refine ifp (by omega) ?_
   have t1:(((s.pos+2:Nat):Int)+0).toNat=s.pos+2:=by omega
   have t2:(((s.pos+2:Nat):Int)+0+tkN (ω.w 0).toL s 2-(((s.pos+2:Nat):Int)+0)).toNat=txN (ω.w 0).toL s:=by unfold txN;congr 1;omega
   rw[t1,t2]
   refine ifp ⟨⟨by omega,by omega⟩,by omega,aJ0 hl _ _⟩ ?_
   simp only[txV,txS,ho,cond_true,cond_false]
   refine congrArg (fun x=>some (0,x)) ?_
   simp only[s7,Val.vi.injEq,and_true,true_and]
   omega
  ·have ho:bg4 (ω.w 0).toL s=false:=by simp[bg4,hc,h3]
   refine ifp (by omega) ?_
   simp only[txV,txS,ho,cond_true,cond_false]
theorem d33{ω:Opq}(hf: ∀i a,ω.f i a=F i a)(hg:aI4 (ω.w 0).toL (ω.w 1) (ω.w 2).toI (ω.w 3).toI=true):G6 bt1 ω=some (0,[F 72 [ω.w 0,ω.w 1],ω.w 2,ω.w 3,P3 (F 73 [ω.w 0,ω.w 1]).toL 0 0,P3 (F 73 [ω.w 0,ω.w 1]).toL 0 1]):=by
 obtain⟨hl,o0,o1,s,hs,e⟩:=aj6 hg
 have hll:=S4 hl
 have d0:=I8 hs
 have e2:(2:Int).toNat=2:=rfl
 have hg':aI4 (ω.w 0).toL (be9 s) 0 (ω.w 0).toL.length=true:=by rw[←e,←o1,←o0];rw[o0,o1];rw[o0,o1]at hg;exact hg
 have hn:=ao5 hl s 2
 have e3:(256:Int)^2=65536:=by decide
 have hw:IntKind.i64.wrap (tkN (ω.w 0).toL s 2)=tkN (ω.w 0).toL s 2:=wrap_i64 (by omega) (by omega)
 have hN:(txN (ω.w 0).toL s:Int)=tkN (ω.w 0).toL s 2:=by unfold txN;omega
 simp only[bt1,G6,I9,den,dB,hf,F45,F47,F48,F72,F73,e,d0,e2,o0,o1,hg']
 simp only[K1,a21,bH6,bH7,a01,a02,G9,H8,I2,O2,I7,I3,d6,decide_eq_true_eq,i7,decide_eq_false_iff_not,e2,hw,if_true,o0,o1]
 cases hc:U8 (ω.w 0).toL s 2 with
 |false=>
  have ho:bg4 (ω.w 0).toL s=false:=by simp[bg4,hc]
  have h1:tkS (ω.w 0).toL s 2=⟨s.pos,true⟩:=by unfold tkS;rw[hc];rfl
  simp only[h1,txV,txS,ho,cond_true,cond_false,if_true]
 |true=>
  have h1:tkS (ω.w 0).toL s 2=⟨s.pos+2,false⟩:=by unfold tkS;rw[hc];rfl
  have h2:s.bad=false∧s.pos+2≤(ω.w 0).toL.length:=by
   simp only[U8,d6,i7,decide_eq_true_eq]at hc;exact hc
  have s1:arI .sub .i64 ((ω.w 0).toL.length:Int) ((s.pos+2:Nat):Int)=((ω.w 0).toL.length:Int)-((s.pos+2:Nat):Int):=aQ2 (by omega) (by omega)
  have s2:arI .add .i64 ((s.pos+2:Nat):Int) (tkN (ω.w 0).toL s 2)=((s.pos+2:Nat):Int)+tkN (ω.w 0).toL s 2:=T2 (by omega) (by omega)
  simp only[h1,cond_false,s1,s2]
  refine ifn (by decide) ?_
  refine ifp (by omega) ?_
  by_cases h3:s.pos+2+txN (ω.w 0).toL s≤(ω.w 0).toL.length
  ·have ho:bg4 (ω.w 0).toL s=true:=by simp[bg4,hc,h3]
   refine ifn (by omega) ?_
   refine ifp (by omega) ?_
   have t1:(0+((s.pos+2:Nat):Int)).toNat=s.pos+2:=by omega
   have t2:(0+((s.pos+2:Nat):Int)+(((s.pos+2:Nat):Int)+tkN (ω.w 0).toL s 2-((s.pos+2:Nat):Int))-(0+((s.pos+2:Nat):Int))).toNat=txN (ω.w 0).toL s:=by unfold txN;congr 1;omega
   rw[t1,t2]
   refine ifp ⟨⟨by omega,by omega⟩,by omega,aJ0 hl _ _⟩ ?_
   simp only[txV,txS,ho,cond_true,cond_false]
   refine congrArg (fun x=>some (0,x)) ?_
   simp only[s7,Val.vi.injEq,and_true,true_and]
   omega
  ·have ho:bg4 (ω.w 0).toL s=false:=by simp[bg4,hc,h3]
   refine ifp (by omega) ?_
   simp only[txV,txS,ho,cond_true,cond_false]
theorem d34{ω:Opq}(hf: ∀i a,ω.f i a=F i a)(hg:aQ1 (ω.w 0).toL (ω.w 1)=true):G6 bt2 ω=some (0,[P3 (F 74 [ω.w 0,ω.w 1]).toL 0 0,P3 (F 74 [ω.w 0,ω.w 1]).toL 0 1,P3 (F 74 [ω.w 0,ω.w 1]).toL 0 2,P3 (F 75 [ω.w 0,ω.w 1]).toL 0 0,P3 (F 75 [ω.w 0,ω.w 1]).toL 0 1,P3 (F 75 [ω.w 0,ω.w 1]).toL 0 2]):=by
 obtain⟨hl,s,hs,e⟩:=av2 hg
 have e8:(8:Int).toNat=8:=rfl
 have h1:=cw0 hs
 have h2:=N1 h1 8
 simp only[bt2,G6,I9,den,dB,hf,F40,F44,F46,F70,F71,F74,F75,e,K2 hs,K2 h1,K2 h2,J9 hs,J9 h1,J9 h2,e8,hl,H8,G9,I2,if_true]
 rfl
theorem d35{ω:Opq}(hf: ∀i a,ω.f i a=F i a)(hg:aI4 (ω.w 0).toL (ω.w 1) (ω.w 2).toI (ω.w 3).toI=true):G6 bt3 ω=some (0,[P3 (F 76 [ω.w 0,ω.w 1]).toL 0 0,P3 (F 76 [ω.w 0,ω.w 1]).toL 0 1,P3 (F 76 [ω.w 0,ω.w 1]).toL 0 2,ω.w 2,ω.w 3,P3 (F 77 [ω.w 0,ω.w 1]).toL 0 0,P3 (F 77 [ω.w 0,ω.w 1]).toL 0 1]):=by
 obtain⟨hl,o0,o1,s,hs,e⟩:=aj6 hg
 have e8:(8:Int).toNat=8:=rfl
 have h1:=cw0 hs
 have h2:=N1 h1 8
 simp only[bt3,G6,I9,den,dB,hf,F45,F47,F48,F72,F73,F76,F77,e,o0,o1,I8 hs,I8 h1,I8 h2,J6 hs,J6 h1,J6 h2,e8,hl,H8,G9,I2,if_true]
 rfl
theorem dh8{ω:Opq}(hf: ∀i a,ω.f i a=F i a)(hg:aI4 (ω.w 0).toL (ω.w 1) (ω.w 2).toI (ω.w 3).toI=true):G6 c28 ω=some (0,[P3 (F 78 [ω.w 0,ω.w 1]).toL 0 0,P3 (F 78 [ω.w 0,ω.w 1]).toL 0 1,P3 (F 78 [ω.w 0,ω.w 1]).toL 0 2,P3 (F 78 [ω.w 0,ω.w 1]).toL 0 3,P3 (F 78 [ω.w 0,ω.w 1]).toL 0 4,P3 (F 78 [ω.w 0,ω.w 1]).toL 0 5,P3 (F 78 [ω.w 0,ω.w 1]).toL 0 6,ω.w 2,ω.w 3,P3 (F 79 [ω.w 0,ω.w 1]).toL 0 0,P3 (F 79 [ω.w 0,ω.w 1]).toL 0 1]):=by
 obtain⟨hl,o0,o1,s,hs,e⟩:=aj6 hg
 have e8:(8:Int).toNat=8:=rfl
 have h1:=bm4 hs
 have h2:=N1 h1 8
 have h3:=N1 h2 8
 have h4:=N1 h3 8
 simp only[c28,G6,I9,den,dB,hf,F45,F47,F48,F76,F77,F78,F79,e,o0,o1,I8 hs,I8 h1,I8 h2,I8 h3,I8 h4,J6 hs,J6 h1,J6 h2,J6 h3,J6 h4,e8,hl,H8,G9,I2,if_true]
 rfl
theorem aQ3(x v:Val): ∀n,(ac6 x v n).toL.length=v.toL.length
 |0=>rfl
 |n+1=>by rw[ac6,I2,A2,aQ3 x v n]
theorem bU3{ω:Opq}(hf: ∀i a,ω.f i a=F i a)(h:(ω.w 0).toI=(ω.w 1).toL.length)(hn:(ω.w 1).toL.length≤1000000):G6 ae3 ω=some (0,[]):=by
 unfold ae3
 simp only[G6,J8,I9,den,dB,K1,List.cons_append,List.nil_append]
 rw[ao3 (fun i=>[.vi i,ac6 do5 (ω.w 1) i]) (n:=(ω.w 1).toL.length) (j:=0) (p:=[.vi (ω.w 1).toL.length,ac6 do5 (ω.w 1) (ω.w 1).toL.length]) (by simp[ac6])]
 ·simp[hf,F,H9,I1,h,J8,G6,I9]
 ·intro i hi
  simp[hi,K5,h,K3 (show i≤10000000 by omega),ac6,aQ3,do5]
 ·simp[K5,h]
theorem bH8{ω:Opq}(hf: ∀i a,ω.f i a=F i a)(h:(ω.w 0).toI=(ω.w 1).toL.length)(hn:(ω.w 1).toL.length≤1000000):G6 a91 ω=some (0,[]):=by
 unfold a91
 simp only[G6,J8,I9,den,dB,K1,List.cons_append,List.nil_append]
 rw[ao3 (fun i=>[.vi i,ac6 do6 (ω.w 1) i]) (n:=(ω.w 1).toL.length) (j:=0) (p:=[.vi (ω.w 1).toL.length,ac6 do6 (ω.w 1) (ω.w 1).toL.length]) (by simp[ac6])]
 ·simp[hf,F,H9,I1,h,J8,G6,I9]
 ·intro i hi
  simp[hi,K5,h,K3 (show i≤10000000 by omega),ac6,aQ3,do6]
 ·simp[K5,h]
def stP(l:List Val)(n:Nat)(s:Rd)(acc:List Val):List Val:=[.vi n,.vi s.pos,.vi ((l.length:Int)-s.pos),.vi (bif s.bad then 20 else 0),.vi acc.length,.vl acc]
def stQ(i:Nat)(s:Rd)(acc:List Val):List Val:=[.vi i,.vi acc.length,.vi s.pos,.vb s.bad,.vl acc]
def bI6(l:List Val)(r:Nat×Rd×List Val):List Val:=stP l r.1 r.2.1 r.2.2
theorem bz7{step:List Val→Option (Nat×List Val)}{l:List Val}{f:Rd→Rd}{g:Rd→List Val}(hle: ∀s:Rd,s.pos≤l.length→(f s).pos≤l.length)
 (h1: ∀(n:Nat) (s:Rd) (acc:List Val),n<255→s.pos≤l.length→acc.length≤1000→s.bad=false→step (stP l (n+1) s acc)=some (0,stP l n (f s) (acc++[.vl (g s)])))
 (h2: ∀(s:Rd) (acc:List Val),step (stP l 0 s acc)=some (1,stP l 0 s acc))
 (h3: ∀(n:Nat) (s:Rd) (acc:List Val),s.bad=true→step (stP l (n+1) s acc)=some (1,stP l (n+1) s acc)):
 ∀(n:Nat) (s:Rd) (acc:List Val),n≤255→s.pos≤l.length→acc.length+n≤1000→Y6 step (stP l n s acc)=some (0,bI6 l (lpR f g n s acc))
 |0,s,acc,_,_,_=>by
  rw[U0];exact .out (h2 s acc)
 |n+1,s,acc,hn,hs,ha=>by
  cases hb:s.bad with
  |true=>
   have e:lpR f g (n+1) s acc=(n+1,s,acc):=by simp only[lpR,hb,cond_true]
   rw[e,U0];exact .out (h3 n s acc hb)
  |false=>
   have e:lpR f g (n+1) s acc=lpR f g n (f s) (acc++[.vl (g s)]):=by simp only[lpR,hb,cond_false]
   have:=bz7 hle h1 h2 h3 n (f s) (acc++[.vl (g s)]) (by omega) (hle s hs) (by simp only[d7,List.length_cons,List.length_nil];omega)
   rw[U0]at this
   rw[e,U0]
   exact .more (h1 n s acc (by omega) hs (by omega) hb) this
theorem bz8{step:List Val→Option (Nat×List Val)}{l:List Val}{f:Rd→Rd}{g:Rd→List Val}{m:Nat}(hm:m≤255)(hle: ∀s:Rd,s.pos≤l.length→(f s).pos≤l.length)
 (h1: ∀(i:Nat) (s:Rd) (acc:List Val),i<m→s.pos≤l.length→acc.length≤1000→s.bad=false→step (stQ i s acc)=some (0,stQ (i+1) (f s) (acc++[.vl (g s)])))
 (h2: ∀(s:Rd) (acc:List Val),step (stQ m s acc)=some (1,stQ m s acc))
 (h3: ∀(i:Nat) (s:Rd) (acc:List Val),i<m→s.bad=true→step (stQ i s acc)=some (1,stQ i s acc)):
 ∀(n:Nat) (s:Rd) (acc:List Val),n≤m→s.pos≤l.length→acc.length+n≤1000→Y6 step (stQ (m-n) s acc)=some (0,stQ (m-(lpR f g n s acc).1) (lpR f g n s acc).2.1 (lpR f g n s acc).2.2)
 |0,s,acc,_,_,_=>by
  rw[U0];exact .out (h2 s acc)
 |n+1,s,acc,hn,hs,ha=>by
  cases hb:s.bad with
  |true=>
   have e:lpR f g (n+1) s acc=(n+1,s,acc):=by simp only[lpR,hb,cond_true]
   rw[e,U0];exact .out (h3 _ s acc (by omega) hb)
  |false=>
   have e:lpR f g (n+1) s acc=lpR f g n (f s) (acc++[.vl (g s)]):=by simp only[lpR,hb,cond_false]
   have:=bz8 hm hle h1 h2 h3 n (f s) (acc++[.vl (g s)]) (by omega) (hle s hs) (by simp only[d7,List.length_cons,List.length_nil];omega)
   rw[U0]at this
   rw[e,U0]
   have h:=h1 (m-(n+1)) s acc (by omega) hs (by omega) hb
   rw[show m-(n+1)+1=m-n by omega]at h
   exact .more h this
theorem cR4{n:Nat}(h:n<255):arI .sub .u8 ((n+1:Nat):Int) 1=(n:Int):=by
 show IntKind.u8.wrap (((n+1:Nat):Int)-1)=_
 rw[wu8];omega
theorem cw2{n:Nat}(h:n<255):arI .add .u64 (n:Int) 1=((n+1:Nat):Int):=by
 show IntKind.u64.wrap ((n:Int)+1)=_
 rw[aI7];omega
theorem bf2(l:List Val)(s:Rd):Val.vl [.vl [.vi s.pos,.vi ((l.length:Int)-s.pos),.vi (bif s.bad then 20 else 0)]]=bg3 l s:=rfl
theorem ac9(s:Rd):Val.vl [.vl [.vi s.pos,.vb s.bad]]=be9 s:=rfl
theorem cK7(l:List Val)(s:Rd):Val.vl [P3 [.vl (pnV l s)] 0 0,P3 [.vl (pnV l s)] 0 1,P3 [.vl (pnV l s)] 0 2,.vi (IntKind.i64.wrap (tkN l (pnS l s) 8)),.vi (IntKind.i64.wrap (tkN l (tkS l (pnS l s) 8) 8)),.vi (IntKind.i64.wrap (tkN l (tkS l (tkS l (pnS l s) 8) 8) 8)),.vi (IntKind.i64.wrap (tkN l (tkS l (tkS l (tkS l (pnS l s) 8) 8) 8) 8))]= .vl (rwV l s):=rfl
theorem cw3(l:List Val)(s:Rd):Val.vl [P3 [.vl (rwV l s)] 0 0,P3 [.vl (rwV l s)] 0 1,P3 [.vl (rwV l s)] 0 2,P3 [.vl (rwV l s)] 0 3,P3 [.vl (rwV l s)] 0 4,P3 [.vl (rwV l s)] 0 5,P3 [.vl (rwV l s)] 0 6]= .vl (rwV l s):=rfl
theorem bH9(l:List Val)(s:Rd):Val.vl [P3 [.vl (pnV l s)] 0 0,P3 [.vl (pnV l s)] 0 1,P3 [.vl (pnV l s)] 0 2]= .vl (pnV l s):=rfl
theorem cK8(l:List Val)(s:Rd):tkS l (tkS l (tkS l (tkS l (pnS l s) 8) 8) 8) 8=rwS l s:=rfl
section
variable{ω:Opq}(hf: ∀i a,ω.f i a=F i a)(hl:okL (ω.w 0).toL=true)
theorem up0(ω:Opq)(l:List Val):(ω.upd 2000 l).w 0=ω.w 0:=rfl
theorem up1(ω:Opq)(a:Val)(l:List Val):(ω.upd 2000 (a::l)).w 2000=a:=rfl
theorem up2(ω:Opq)(a b:Val)(l:List Val):(ω.upd 2000 (a::b::l)).w 2001=b:=rfl
theorem up3(ω:Opq)(a b c:Val)(l:List Val):(ω.upd 2000 (a::b::c::l)).w 2002=c:=rfl
theorem up4(ω:Opq)(a b c d:Val)(l:List Val):(ω.upd 2000 (a::b::c::d::l)).w 2003=d:=rfl
theorem up5(ω:Opq)(a b c d e:Val)(l:List Val):(ω.upd 2000 (a::b::c::d::e::l)).w 2004=e:=rfl
theorem up6(ω:Opq)(a b c d e f:Val)(l:List Val):(ω.upd 2000 (a::b::c::d::e::f::l)).w 2005=f:=rfl
include hf hl in
theorem d36(n:Nat)(s:Rd)(acc:List Val)(hn:n<255)(hs:s.pos≤(ω.w 0).toL.length)(ha:acc.length≤1000)(hb:s.bad=false):
 G6 cz5 (ω.upd 2000 (stP (ω.w 0).toL (n+1) s acc))=some (0,stP (ω.w 0).toL n (rwS (ω.w 0).toL s) (acc++[.vl (rwV (ω.w 0).toL s)])):=by
 have a8:(8:Int).toNat=8:=rfl
 have h1:=bm4 hs
 have h2:=N1 h1 8
 have h3:=N1 h2 8
 have h4:=N1 h3 8
 have e:=bf2 (ω.w 0).toL s
 rw[hb]at e
 simp only[cond_false]at e
 obtain⟨B,hB⟩: ∃B:Int,(1000000:Int)=B:=⟨_,rfl⟩
 simp only[cz5,hB,G6,I9,den,dB,ac7,hf,stP,hb,up0,up1,up2,up3,up4,up5,up6,K1,G9,H8,I2,J3,I5,I3,cond_false,e,a8,F40,F44,F46,F74,F75,K2 hs,K2 h1,K2 h2,K2 h3,K2 h4,J9 hs,J9 h1,J9 h2,J9 h3,J9 h4,hl,if_true,cK7,cK8,a74,a75,a76,cR4 hn,d7,List.length_cons,List.length_nil,d6,decide_eq_true_eq]
 refine ifp (by omega) ?_
 refine ifp ⟨trivial,by omega⟩ ?_
 rfl
include hf hl in
theorem d37(n:Nat)(s:Rd)(acc:List Val)(hn:n<255)(hs:s.pos≤(ω.w 0).toL.length)(ha:acc.length≤1000)(hb:s.bad=false):
 G6 cJ0 (ω.upd 2000 (stP (ω.w 0).toL (n+1) s acc))=some (0,stP (ω.w 0).toL n (pnS (ω.w 0).toL s) (acc++[.vl (pnV (ω.w 0).toL s)])):=by
 have e:=bf2 (ω.w 0).toL s
 rw[hb]at e
 simp only[cond_false]at e
 obtain⟨B,hB⟩: ∃B:Int,(1000000:Int)=B:=⟨_,rfl⟩
 simp only[cJ0,hB,G6,I9,den,dB,ac7,hf,stP,hb,up0,up1,up2,up3,up4,up5,up6,K1,G9,H8,I2,J3,I5,I3,cond_false,e,F46,F74,F75,K2 hs,J9 hs,hl,if_true,bH9,a74,a75,a76,cR4 hn,d7,List.length_cons,List.length_nil,d6,decide_eq_true_eq]
 refine ifp (by omega) ?_
 refine ifp ⟨trivial,by omega⟩ ?_
 rfl
theorem dh9(s:Rd)(acc:List Val):G6 cz5 (ω.upd 2000 (stP (ω.w 0).toL 0 s acc))=some (1,stP (ω.w 0).toL 0 s acc):=by
 simp only[cz5,G6,I9,den,dB,stP,up1,up2,up3,up4,up5,up6,K1,G9,H8,J3,decide_eq_true_eq]
 exact ifn (by omega) rfl
theorem di0(s:Rd)(acc:List Val):G6 cJ0 (ω.upd 2000 (stP (ω.w 0).toL 0 s acc))=some (1,stP (ω.w 0).toL 0 s acc):=by
 simp only[cJ0,G6,I9,den,dB,stP,up1,up2,up3,up4,up5,up6,K1,G9,H8,J3,decide_eq_true_eq]
 exact ifn (by omega) rfl
theorem di1(n:Nat)(s:Rd)(acc:List Val)(hb:s.bad=true):G6 cz5 (ω.upd 2000 (stP (ω.w 0).toL (n+1) s acc))=some (1,stP (ω.w 0).toL (n+1) s acc):=by
 simp only[cz5,G6,I9,den,dB,stP,hb,up1,up2,up3,up4,up5,up6,K1,G9,H8,J3,I5,cond_true,decide_eq_true_eq]
 exact ifp (by omega) (ifn (by decide) rfl)
theorem di2(n:Nat)(s:Rd)(acc:List Val)(hb:s.bad=true):G6 cJ0 (ω.upd 2000 (stP (ω.w 0).toL (n+1) s acc))=some (1,stP (ω.w 0).toL (n+1) s acc):=by
 simp only[cJ0,G6,I9,den,dB,stP,hb,up1,up2,up3,up4,up5,up6,K1,G9,H8,J3,I5,cond_true,decide_eq_true_eq]
 exact ifp (by omega) (ifn (by decide) rfl)
include hf hl in
theorem d38(n:Nat)(s:Rd)(acc:List Val)(h1:n≤255)(h2:s.pos≤(ω.w 0).toL.length)(h3:acc.length+n≤1000):
 Y6 (fun vs=>G6 cz5 (ω.upd 2000 vs)) (stP (ω.w 0).toL n s acc)=some (0,bI6 (ω.w 0).toL (lpR (rwS (ω.w 0).toL) (rwV (ω.w 0).toL) n s acc)):=
 bz7 (fun _=>cw1) (fun n s acc a b c d=>d36 hf hl n s acc a b c d) (fun s acc=>dh9 s acc) (fun n s acc hb=>di1 n s acc hb) n s acc h1 h2 h3
include hf hl in
theorem d39(n:Nat)(s:Rd)(acc:List Val)(h1:n≤255)(h2:s.pos≤(ω.w 0).toL.length)(h3:acc.length+n≤1000):
 Y6 (fun vs=>G6 cJ0 (ω.upd 2000 vs)) (stP (ω.w 0).toL n s acc)=some (0,bI6 (ω.w 0).toL (lpR (pnS (ω.w 0).toL) (pnV (ω.w 0).toL) n s acc)):=
 bz7 (fun _=>bm4) (fun n s acc a b c d=>d37 hf hl n s acc a b c d) (fun s acc=>di0 s acc) (fun n s acc hb=>di2 n s acc hb) n s acc h1 h2 h3
end
theorem cR5(b:Bool):(!((bif b then(20:Int)else 0)==0))=b:=by cases b<;>rfl
theorem dA2(n p q e:Int)(m:Int)(acc:List Val)(v:Val)(l:List Val)(k:Nat)(s:Rd)(h1:n=(k:Int))(h2:p=s.pos)(h3:e=bif s.bad then 20 else 0):F 119 [.vi n,.vi p,.vi q,.vi e,.vi m,.vl acc,v]=X2 (0,bI6 v.toL (lpR (rwS v.toL) (rwV v.toL) k s acc)):=by
 subst h1;subst h2;subst h3
 show lpP _ _ _ _=_
 simp only[lpP,H9,I1,G9,I2,Int.toNat_natCast,cR5]
 rfl
theorem dA3(n p q e:Int)(m:Int)(acc:List Val)(v:Val)(l:List Val)(k:Nat)(s:Rd)(h1:n=(k:Int))(h2:p=s.pos)(h3:e=bif s.bad then 20 else 0):F 120 [.vi n,.vi p,.vi q,.vi e,.vi m,.vl acc,v]=X2 (0,bI6 v.toL (lpR (pnS v.toL) (pnV v.toL) k s acc)):=by
 subst h1;subst h2;subst h3
 show lpP _ _ _ _=_
 simp only[lpP,H9,I1,G9,I2,Int.toNat_natCast,cR5]
 rfl
theorem cw4{l:List Val}{f:Rd→Rd}{g:Rd→List Val}(hle: ∀s:Rd,s.pos≤l.length→(f s).pos≤l.length): ∀(n:Nat) (s:Rd) (acc:List Val),s.pos≤l.length→(lpR f g n s acc).2.1.pos≤l.length
 |0,s,acc,h=>h
 |n+1,s,acc,h=>by
  unfold lpR
  cases s.bad
  ·exact cw4 hle n _ _ (hle s h)
  ·exact h
theorem bU4{f:Rd→Rd}{g:Rd→List Val}: ∀(n:Nat) (s:Rd) (acc:List Val),(lpR f g n s acc).2.2.length≤acc.length+n
 |0,s,acc=>d8 _
 |n+1,s,acc=>by
  unfold lpR
  cases s.bad
  ·have:=bU4 (f:=f) (g:=g) n (f s) (acc++[.vl (g s)])
   simp only[d7,List.length_cons,List.length_nil]at this
   show(lpR f g n (f s) (acc++[.vl (g s)])).2.2.length≤_
   omega
  ·show acc.length≤_
   omega
theorem d40{f:Rd→Rd}{g:Rd→List Val}: ∀(n:Nat) (s:Rd) (acc:List Val),(lpR f g n s acc).1≤n
 |0,s,acc=>d8 _
 |n+1,s,acc=>by
  unfold lpR
  cases s.bad
  ·have:=d40 (f:=f) (g:=g) n (f s) (acc++[.vl (g s)])
   show(lpR f g n (f s) (acc++[.vl (g s)])).1≤_
   omega
  ·exact d8 _
theorem dA4(z m0 p:Int)(b:Bool)(acc:List Val)(n:Int)(v:Val)(k:Nat)(s:Rd)(h1:n=(k:Int))(h2:p=s.pos)(h3:b=s.bad):F 121 [.vi z,.vi m0,.vi p,.vb b,.vl acc,.vi n,v]=X2 (0,stQ (k-(lpR (rwS v.toL) (rwV v.toL) k s acc).1) (lpR (rwS v.toL) (rwV v.toL) k s acc).2.1 (lpR (rwS v.toL) (rwV v.toL) k s acc).2.2):=by
 subst h1;subst h2;subst h3
 show lpQ _ _ _=_
 have:=d40 (f:=rwS v.toL) (g:=rwV v.toL) k s acc
 simp only[lpQ,H9,I1,G9,I2,H8,Int.toNat_natCast,stQ]
 rw[show((k-(lpR (rwS v.toL) (rwV v.toL) k s acc).1:Nat):Int)=(k:Int)-((lpR (rwS v.toL) (rwV v.toL) k s acc).1:Int) by omega]
theorem dA5(z m0 p:Int)(b:Bool)(acc:List Val)(n:Int)(v:Val)(k:Nat)(s:Rd)(h1:n=(k:Int))(h2:p=s.pos)(h3:b=s.bad):F 122 [.vi z,.vi m0,.vi p,.vb b,.vl acc,.vi n,v]=X2 (0,stQ (k-(lpR (pnS v.toL) (pnV v.toL) k s acc).1) (lpR (pnS v.toL) (pnV v.toL) k s acc).2.1 (lpR (pnS v.toL) (pnV v.toL) k s acc).2.2):=by
 subst h1;subst h2;subst h3
 show lpQ _ _ _=_
 have:=d40 (f:=pnS v.toL) (g:=pnV v.toL) k s acc
 simp only[lpQ,H9,I1,G9,I2,H8,Int.toNat_natCast,stQ]
 rw[show((k-(lpR (pnS v.toL) (pnV v.toL) k s acc).1:Nat):Int)=(k:Int)-((lpR (pnS v.toL) (pnV v.toL) k s acc).1:Int) by omega]
theorem aa5(l:List Val):tkS l ⟨0,false⟩ 1=s1R l:=rfl
theorem aa6(l:List Val):tkS l (s1R l) 4=s2R l:=rfl
theorem bh9(l:List Val):tkS l (s2R l) 8=s3R l:=rfl
theorem bi0(l:List Val):tkS l (s3R l) 1=s4R l:=rfl
theorem bU5(l:List Val):tkS l (s4R l) 1=s5R l:=rfl
theorem di3(l:List Val):tkS l (P6 l).2.1 1=s6R l:=rfl
theorem a79(l:List Val):(Rd.mk 0 false).pos≤l.length:=m7 _
theorem a80(l:List Val):(s1R l).pos≤l.length:=N1 (a79 l) 1
theorem a13(l:List Val):(s2R l).pos≤l.length:=N1 (a80 l) 4
theorem bf3(l:List Val):(s3R l).pos≤l.length:=N1 (a13 l) 8
theorem bf4(l:List Val):(s4R l).pos≤l.length:=N1 (bf3 l) 1
theorem bU6(l:List Val):(s5R l).pos≤l.length:=N1 (bf4 l) 1
theorem aj7(l:List Val):(P6 l).2.1.pos≤l.length:=cw4 (fun _=>cw1) _ _ _ (bU6 l)
theorem cw5(l:List Val):(s6R l).pos≤l.length:=N1 (aj7 l) 1
theorem bU7(l:List Val):(X4 l).2.1.pos≤l.length:=cw4 (fun _=>bm4) _ _ _ (cw5 l)
def a27(l:List Val):Nat:=(tkN l (s4R l) 1).toNat
def a36(l:List Val):Nat:=(tkN l (P6 l).2.1 1).toNat
theorem a14{l:List Val}(h:okL l=true):tkN l (s4R l) 1=(a27 l:Int):=by
 have:=ao5 h (s4R l) 1
 unfold a27;omega
theorem aa7{l:List Val}(h:okL l=true):tkN l (P6 l).2.1 1=(a36 l:Int):=by
 have:=ao5 h (P6 l).2.1 1
 unfold a36;omega
theorem av3{l:List Val}(h:okL l=true):a27 l≤255:=by
 have:=ao5 h (s4R l) 1
 have e:(256:Int)^1=256:=by decide
 unfold a27;omega
theorem av4{l:List Val}(h:okL l=true):a36 l≤255:=by
 have:=ao5 h (P6 l).2.1 1
 have e:(256:Int)^1=256:=by decide
 unfold a36;omega
theorem aJ1(l:List Val):lpR (rwS l) (rwV l) (a27 l) (s5R l) []=P6 l:=rfl
theorem aJ2(l:List Val):lpR (pnS l) (pnV l) (a36 l) (s6R l) []=X4 l:=rfl
theorem aJ3{l:List Val}(h:okL l=true):(P6 l).2.2.length≤255:=by
 have:=bU4 (f:=rwS l) (g:=rwV l) (a27 l) (s5R l) []
 have:=av3 h
 rw[aJ1]at*
 simp only[List.length_nil]at*;omega
theorem bz9{l:List Val}(h:okL l=true):(X4 l).2.2.length≤255:=by
 have:=bU4 (f:=pnS l) (g:=pnV l) (a36 l) (s6R l) []
 have:=av4 h
 rw[aJ2]at*
 simp only[List.length_nil]at*;omega
theorem du0{l:List Val}(h:okL l=true)(v:Val)(hv:v.toL=l)(m q:Int):F 119 [.vi (tkN l (s4R l) 1),.vi (s5R l).pos,.vi q,.vi (bif (s5R l).bad then 20 else 0),.vi m,.vl [],v]=X2 (0,bI6 l (P6 l)):=by
 rw[dA2 _ _ _ _ _ _ _ l (a27 l) (s5R l) (a14 h) rfl rfl,hv,aJ1]
theorem du1{l:List Val}(h:okL l=true)(v:Val)(hv:v.toL=l)(m q:Int):F 120 [.vi (tkN l (P6 l).2.1 1),.vi (s6R l).pos,.vi q,.vi (bif (s6R l).bad then 20 else 0),.vi m,.vl [],v]=X2 (0,bI6 l (X4 l)):=by
 rw[dA3 _ _ _ _ _ _ _ l (a36 l) (s6R l) (aa7 h) rfl rfl,hv,aJ2]
theorem cK9{l:List Val}(h:okL l=true)(v:Val)(hv:v.toL=l)(z m:Int):F 121 [.vi z,.vi m,.vi (s5R l).pos,.vb (s5R l).bad,.vl [],.vi (tkN l (s4R l) 1),v]=X2 (0,stQ (a27 l-(P6 l).1) (P6 l).2.1 (P6 l).2.2):=by
 rw[dA4 _ _ _ _ _ _ _ (a27 l) (s5R l) (a14 h) rfl rfl,hv,aJ1]
theorem du2{l:List Val}(h:okL l=true)(v:Val)(hv:v.toL=l)(z m:Int):F 122 [.vi z,.vi m,.vi (s6R l).pos,.vb (s6R l).bad,.vl [],.vi (tkN l (P6 l).2.1 1),v]=X2 (0,stQ (a36 l-(X4 l).1) (X4 l).2.1 (X4 l).2.2):=by
 rw[dA5 _ _ _ _ _ _ _ (a36 l) (s6R l) (aa7 h) rfl rfl,hv,aJ2]
theorem cR6(l:List Val)(r:Nat×Rd×List Val):P3 (X2 (0,bI6 l r)).toL 1 1= .vi r.2.1.pos:=rfl
theorem cR7(l:List Val)(r:Nat×Rd×List Val):P3 (X2 (0,bI6 l r)).toL 1 2= .vi ((l.length:Int)-r.2.1.pos):=rfl
theorem cR8(l:List Val)(r:Nat×Rd×List Val):P3 (X2 (0,bI6 l r)).toL 1 3= .vi (bif r.2.1.bad then 20 else 0):=rfl
theorem cR9(l:List Val)(r:Nat×Rd×List Val):P3 (X2 (0,bI6 l r)).toL 1 4= .vi r.2.2.length:=rfl
theorem cS0(l:List Val)(r:Nat×Rd×List Val):P3 (X2 (0,bI6 l r)).toL 1 5= .vl r.2.2:=rfl
theorem cS1(i:Nat)(s:Rd)(a:List Val):P3 (X2 (0,stQ i s a)).toL 1 1= .vi a.length:=rfl
theorem bI0(i:Nat)(s:Rd)(a:List Val):P3 (X2 (0,stQ i s a)).toL 1 2= .vi s.pos:=rfl
theorem bI1(i:Nat)(s:Rd)(a:List Val):P3 (X2 (0,stQ i s a)).toL 1 3= .vb s.bad:=rfl
theorem cS2(i:Nat)(s:Rd)(a:List Val):P3 (X2 (0,stQ i s a)).toL 1 4= .vl a:=rfl
section
variable{ω:Opq}(hf: ∀i a,ω.f i a=F i a)(hl:okL (ω.w 0).toL=true)
include hf hl in
theorem d41(i:Nat)(s:Rd)(acc:List Val)(hi:i<a27 (ω.w 0).toL)(hs:s.pos≤(ω.w 0).toL.length)(ha:acc.length≤1000)(hb:s.bad=false):
 G6 ca0 (ω.upd 2000 (stQ i s acc))=some (0,stQ (i+1) (rwS (ω.w 0).toL s) (acc++[.vl (rwV (ω.w 0).toL s)])):=by
 have hn:=av3 hl
 have a1:(1:Int).toNat=1:=rfl
 have a4:(4:Int).toNat=4:=rfl
 have a8:(8:Int).toNat=8:=rfl
 have l0:=a79 (ω.w 0).toL
 have l1:=a80 (ω.w 0).toL
 have l2:=a13 (ω.w 0).toL
 have l3:=bf3 (ω.w 0).toL
 have l4:=bf4 (ω.w 0).toL
 have e:=ac9 s
 rw[hb]at e
 obtain⟨B,hB⟩: ∃B:Int,(1000000:Int)=B:=⟨_,rfl⟩
 simp only[ca0,hB,G6,I9,den,dB,ac7,hf,stQ,hb,up0,up1,up2,up3,up4,up5,K1,G9,H8,I2,I7,I5,I3,e,a1,a4,a8,P8,F45,F47,F48,F78,F79,I8 l0,I8 l1,I8 l2,I8 l3,I8 l4,aa5,aa6,bh9,bi0,I8 hs,J6 hs,hl,if_true,cw3,a01,a02,a14 hl,cw2 (show i<255 by omega),d7,List.length_cons,List.length_nil,d6,decide_eq_true_eq,i9]
 refine ifp (by omega) ?_
 refine ifp ⟨trivial,by omega⟩ ?_
 rfl
include hf hl in
theorem di4(s:Rd)(acc:List Val):G6 ca0 (ω.upd 2000 (stQ (a27 (ω.w 0).toL) s acc))=some (1,stQ (a27 (ω.w 0).toL) s acc):=by
 have a1:(1:Int).toNat=1:=rfl
 have a4:(4:Int).toNat=4:=rfl
 have a8:(8:Int).toNat=8:=rfl
 have l0:=a79 (ω.w 0).toL
 have l1:=a80 (ω.w 0).toL
 have l2:=a13 (ω.w 0).toL
 have l3:=bf3 (ω.w 0).toL
 have l4:=bf4 (ω.w 0).toL
 simp only[ca0,G6,I9,den,dB,ac7,hf,stQ,up0,up1,up2,up3,up4,up5,K1,G9,H8,I7,a1,a4,a8,P8,F45,F48,I8 l0,I8 l1,I8 l2,I8 l3,I8 l4,aa5,aa6,bh9,bi0,a14 hl,decide_eq_true_eq]
 exact ifn (by omega) rfl
include hf hl in
theorem di5(i:Nat)(s:Rd)(acc:List Val)(hi:i<a27 (ω.w 0).toL)(hb:s.bad=true):G6 ca0 (ω.upd 2000 (stQ i s acc))=some (1,stQ i s acc):=by
 have a1:(1:Int).toNat=1:=rfl
 have a4:(4:Int).toNat=4:=rfl
 have a8:(8:Int).toNat=8:=rfl
 have l0:=a79 (ω.w 0).toL
 have l1:=a80 (ω.w 0).toL
 have l2:=a13 (ω.w 0).toL
 have l3:=bf3 (ω.w 0).toL
 have l4:=bf4 (ω.w 0).toL
 simp only[ca0,G6,I9,den,dB,ac7,hf,stQ,hb,up0,up1,up2,up3,up4,up5,K1,G9,H8,I7,a1,a4,a8,P8,F45,F48,I8 l0,I8 l1,I8 l2,I8 l3,I8 l4,aa5,aa6,bh9,bi0,a14 hl,decide_eq_true_eq,j7]
 exact ifp (by omega) (ifn (by decide) rfl)
include hf hl in
theorem d42:Y6 (fun vs=>G6 ca0 (ω.upd 2000 vs)) (stQ 0 (s5R (ω.w 0).toL) [])=some (0,stQ (a27 (ω.w 0).toL-(P6 (ω.w 0).toL).1) (P6 (ω.w 0).toL).2.1 (P6 (ω.w 0).toL).2.2):=by
 have h:=bz8 (step:=fun vs=>G6 ca0 (ω.upd 2000 vs)) (m:=a27 (ω.w 0).toL) (av3 hl) (fun _=>cw1) (fun n s acc a b c d=>d41 hf hl n s acc a b c d) (fun s acc=>di4 hf hl s acc) (fun n s acc a b=>di5 hf hl n s acc a b) (a27 (ω.w 0).toL) (s5R (ω.w 0).toL) [] (d8 _) (bU6 _) (by have:=av3 hl;simp only[List.length_nil];omega)
 rw[D1,aJ1]at h
 exact h
include hf hl in
theorem d43(i:Nat)(s:Rd)(acc:List Val)(hi:i<a36 (ω.w 0).toL)(hs:s.pos≤(ω.w 0).toL.length)(ha:acc.length≤1000)(hb:s.bad=false):
 G6 bI5 (ω.upd 2000 (stQ i s acc))=some (0,stQ (i+1) (pnS (ω.w 0).toL s) (acc++[.vl (pnV (ω.w 0).toL s)])):=by
 show G6 bI5 (ω.upd 2000 [.vi i,.vi acc.length,.vi s.pos,.vb s.bad,.vl acc])=_
 have hn:=av4 hl
 have a1:(1:Int).toNat=1:=rfl
 have a4:(4:Int).toNat=4:=rfl
 have a8:(8:Int).toNat=8:=rfl
 have l0:=a79 (ω.w 0).toL
 have l1:=a80 (ω.w 0).toL
 have l2:=a13 (ω.w 0).toL
 have l3:=bf3 (ω.w 0).toL
 have l4:=bf4 (ω.w 0).toL
 have l5:=aj7 (ω.w 0).toL
 have e:=ac9 s
 rw[hb]at e
 obtain⟨B,hB⟩: ∃B:Int,(1000000:Int)=B:=⟨_,rfl⟩
 simp only[bI5,hB,G6,I9,den,dB,ac7,hf,hb,up0,up1,up2,up3,up4,up5,K1,G9,H8,I2,I7,I5,I3,e,a1,a4,a8,P8,F45,F47,F48,F76,F77,I8 l0,I8 l1,I8 l2,I8 l3,I8 l4,aa5,aa6,bh9,bi0,bU5,cK9 hl (ω.w 0) rfl,bI0,bI1,ac9,I8 l5,I8 hs,J6 hs,hl,if_true,bH9,a01,a02,aa7 hl,cw2 (show i<255 by omega),d7,List.length_cons,List.length_nil,d6,decide_eq_true_eq,i9]
 refine ifp (by omega) ?_
 refine ifp ⟨trivial,by omega⟩ ?_
 simp only[stQ,d7,List.length_cons,List.length_nil]
include hf hl in
theorem di6(s:Rd)(acc:List Val):G6 bI5 (ω.upd 2000 (stQ (a36 (ω.w 0).toL) s acc))=some (1,stQ (a36 (ω.w 0).toL) s acc):=by
 show G6 bI5 (ω.upd 2000 [.vi (a36 (ω.w 0).toL),.vi acc.length,.vi s.pos,.vb s.bad,.vl acc])=_
 have a1:(1:Int).toNat=1:=rfl
 have a4:(4:Int).toNat=4:=rfl
 have a8:(8:Int).toNat=8:=rfl
 have l0:=a79 (ω.w 0).toL
 have l1:=a80 (ω.w 0).toL
 have l2:=a13 (ω.w 0).toL
 have l3:=bf3 (ω.w 0).toL
 have l4:=bf4 (ω.w 0).toL
 have l5:=aj7 (ω.w 0).toL
 simp only[bI5,G6,I9,den,dB,ac7,hf,up0,up1,up2,up3,up4,up5,K1,G9,H8,I7,a1,a4,a8,P8,F45,F48,I8 l0,I8 l1,I8 l2,I8 l3,I8 l4,aa5,aa6,bh9,bi0,bU5,a01,a02,List.length_nil,cK9 hl (ω.w 0) rfl,bI0,bI1,ac9,I8 l5,aa7 hl,decide_eq_true_eq]
 exact ifn (by omega) rfl
include hf hl in
theorem di7(i:Nat)(s:Rd)(acc:List Val)(hi:i<a36 (ω.w 0).toL)(hb:s.bad=true):G6 bI5 (ω.upd 2000 (stQ i s acc))=some (1,stQ i s acc):=by
 show G6 bI5 (ω.upd 2000 [.vi i,.vi acc.length,.vi s.pos,.vb s.bad,.vl acc])=_
 have a1:(1:Int).toNat=1:=rfl
 have a4:(4:Int).toNat=4:=rfl
 have a8:(8:Int).toNat=8:=rfl
 have l0:=a79 (ω.w 0).toL
 have l1:=a80 (ω.w 0).toL
 have l2:=a13 (ω.w 0).toL
 have l3:=bf3 (ω.w 0).toL
 have l4:=bf4 (ω.w 0).toL
 have l5:=aj7 (ω.w 0).toL
 simp only[bI5,G6,I9,den,dB,ac7,hf,hb,up0,up1,up2,up3,up4,up5,K1,G9,H8,I7,a1,a4,a8,P8,F45,F48,I8 l0,I8 l1,I8 l2,I8 l3,I8 l4,aa5,aa6,bh9,bi0,bU5,a01,a02,List.length_nil,cK9 hl (ω.w 0) rfl,bI0,bI1,ac9,I8 l5,aa7 hl,decide_eq_true_eq,j7]
 exact ifp (by omega) (ifn (by decide) (by simp only[stQ,hb]))
include hf hl in
theorem d44:Y6 (fun vs=>G6 bI5 (ω.upd 2000 vs)) (stQ 0 (s6R (ω.w 0).toL) [])=some (0,stQ (a36 (ω.w 0).toL-(X4 (ω.w 0).toL).1) (X4 (ω.w 0).toL).2.1 (X4 (ω.w 0).toL).2.2):=by
 have h:=bz8 (step:=fun vs=>G6 bI5 (ω.upd 2000 vs)) (m:=a36 (ω.w 0).toL) (av4 hl) (fun _=>bm4) (fun n s acc a b c d=>d43 hf hl n s acc a b c d) (fun s acc=>di6 hf hl s acc) (fun n s acc a b=>di7 hf hl n s acc a b) (a36 (ω.w 0).toL) (s6R (ω.w 0).toL) [] (d8 _) (cw5 _) (by have:=av4 hl;simp only[List.length_nil];omega)
 rw[D1,aJ2]at h
 exact h
end
theorem F39(l:Val):F 39 [l]= .vb (okL l.toL):=rfl
theorem F49(l k:Val):F 49 [l,k]= .vb (eqB (a72 l.toL) k.toI):=rfl
theorem F4r(a0 a1 a2 a3 a4 a5 a6 a7 a8 a9 a10 a11:Val):F 4 [a0,a1,a2,a3,a4,a5,a6,a7,a8,a9,a10,a11]= .vb (K0 (K4 [a0,a1,a2,a3,a4,a5,a6,a7,a8,a9,a10,a11])):=rfl
theorem T7{l:List Val}(h:l.length=0):J5 l=aI5 20:=if_pos h
theorem M5{l:List Val}(h: ¬l.length=0)(h2:bI l 0<1∨7<bI l 0):J5 l=aI5 80:=(if_neg h).trans (if_pos h2)
theorem O0{l:List Val}(h: ¬l.length=0)(h2: ¬(bI l 0<1∨7<bI l 0)):J5 l=T9 l (bI l 0):=(if_neg h).trans (if_neg h2)
theorem aA6(b:Bool): ¬(bif b then(20:Int)else 0)=0↔b=true:=by cases b<;>simp
theorem bf5{b:Bool}(h:b=true):(bif b then(20:Int)else 0)=20:=by rw[h];rfl
theorem bA0(a:List Val):(a.drop (Int.toNat 0)).take ((a.length:Int)-0).toNat=a:=by
 rw[show((a.length:Int)-0).toNat=a.length by omega];exact D8
section
variable{l:List Val}{s:Rd}{a0 a1 a2 a3 a4 a5 a6 a7 a8 a9 a10 a11:Val}{c1 c2 c3 c4 c5 c6:Prop} [Decidable c1] [Decidable c2] [Decidable c3] [Decidable c4] [Decidable c5] [Decidable c6]{e:Int}{odd:Bool}
theorem di8(h1:c1↔s.bad=true)(he:s.bad=true→e=20)(h2:c2)(h3:c3↔s.pos=l.length)(hs:s.pos≤l.length)(h4:c4↔K0 (K4 [a0,a1,a2,a3,a4,a5,a6,a7,a8,a9,a10,a11])=false):
 (if c1 then some ((0:Nat),[.vi 0,.vi 0,.vi 0,.vb false,.vi 0,.vi 0,.vi 0,.vi 0,.vi 0,.vi 0,.vi e,.vl [],.vl []])else if c2 then(if c3 then(if c4 then some (0,[.vi 0,.vi 0,.vi 0,.vb false,.vi 0,.vi 0,.vi 0,.vi 0,.vi 0,.vi 0,.vi 81,.vl [],.vl []])else some (0,[a0,a1,a2,a3,a4,a5,a6,a7,a8,a9,.vi 0,a10,a11]))else some (0,[.vi 0,.vi 0,.vi 0,.vb false,.vi 0,.vi 0,.vi 0,.vi 0,.vi 0,.vi 0,.vi 21,.vl [],.vl []]))else none)=some (0,a19 l s false [a0,a1,a2,a3,a4,a5,a6,a7,a8,a9,a10,a11]):=by
 unfold a19
 cases hb:s.bad with
 |true=>rw[he hb];exact ifp (h1.2 hb) rfl
 |false=>
  refine ifn (fun h=>by have:=h1.1 h;rw[hb]at this;cases this) (ifp h2 ?_)
  by_cases hp:s.pos=l.length
  ·refine ifp (h3.2 hp) ?_
   rw[decide_eq_false (by omega: ¬s.pos<l.length)]
   cases hr:K0 (K4 [a0,a1,a2,a3,a4,a5,a6,a7,a8,a9,a10,a11])with
   |false=>exact ifp (h4.2 hr) rfl
   |true=>exact ifn (fun h=>by rw[h4.1 h]at hr;cases hr) rfl
  ·refine ifn (fun h=>hp (h3.1 h)) ?_
   rw[decide_eq_true (by omega:s.pos<l.length)];rfl
theorem di9(h1:c1↔s.bad=true)(he:s.bad=true→e=20)(h2:c2)(h3:c3↔s.pos=l.length)(hs:s.pos≤l.length)(h5:c5↔odd=true)(h6:c6)(h4:c4↔K0 (K4 [a0,a1,a2,a3,a4,a5,a6,a7,a8,a9,a10,a11])=false):
 (if c1 then some ((0:Nat),[.vi 0,.vi 0,.vi 0,.vb false,.vi 0,.vi 0,.vi 0,.vi 0,.vi 0,.vi 0,.vi e,.vl [],.vl []])else if c2 then(if c3 then(if c5 then some (0,[.vi 0,.vi 0,.vi 0,.vb false,.vi 0,.vi 0,.vi 0,.vi 0,.vi 0,.vi 0,.vi 81,.vl [],.vl []])else if c6 then(if c4 then some (0,[.vi 0,.vi 0,.vi 0,.vb false,.vi 0,.vi 0,.vi 0,.vi 0,.vi 0,.vi 0,.vi 81,.vl [],.vl []])else some (0,[a0,a1,a2,a3,a4,a5,a6,a7,a8,a9,.vi 0,a10,a11]))else none)else some (0,[.vi 0,.vi 0,.vi 0,.vb false,.vi 0,.vi 0,.vi 0,.vi 0,.vi 0,.vi 0,.vi 21,.vl [],.vl []]))else none)=some (0,a19 l s odd [a0,a1,a2,a3,a4,a5,a6,a7,a8,a9,a10,a11]):=by
 unfold a19
 cases hb:s.bad with
 |true=>rw[he hb];exact ifp (h1.2 hb) rfl
 |false=>
  refine ifn (fun h=>by have:=h1.1 h;rw[hb]at this;cases this) (ifp h2 ?_)
  by_cases hp:s.pos=l.length
  ·refine ifp (h3.2 hp) ?_
   rw[decide_eq_false (by omega: ¬s.pos<l.length)]
   cases ho:odd with
   |true=>exact ifp (h5.2 ho) rfl
   |false=>
    refine ifn (fun h=>by have:=h5.1 h;rw[ho]at this;cases this) (ifp h6 ?_)
    cases hr:K0 (K4 [a0,a1,a2,a3,a4,a5,a6,a7,a8,a9,a10,a11])with
    |false=>exact ifp (h4.2 hr) rfl
    |true=>exact ifn (fun h=>by rw[h4.1 h]at hr;cases hr) rfl
  ·refine ifn (fun h=>hp (h3.1 h)) ?_
   rw[decide_eq_true (by omega:s.pos<l.length)];rfl
theorem d74(h1:c1↔s.bad=true)(h2:c2↔s.pos<l.length)(h4:c4↔K0 (K4 [a0,a1,a2,a3,a4,a5,a6,a7,a8,a9,a10,a11])=false):
 (if c1 then some ((0:Nat),[.vi 0,.vi 0,.vi 0,.vb false,.vi 0,.vi 0,.vi 0,.vi 0,.vi 0,.vi 0,.vi 20,.vl [],.vl []])else if c2 then some (0,[.vi 0,.vi 0,.vi 0,.vb false,.vi 0,.vi 0,.vi 0,.vi 0,.vi 0,.vi 0,.vi 21,.vl [],.vl []])else if c4 then some (0,[.vi 0,.vi 0,.vi 0,.vb false,.vi 0,.vi 0,.vi 0,.vi 0,.vi 0,.vi 0,.vi 81,.vl [],.vl []])else some (0,[a0,a1,a2,a3,a4,a5,a6,a7,a8,a9,.vi 0,a10,a11]))=some (0,a19 l s false [a0,a1,a2,a3,a4,a5,a6,a7,a8,a9,a10,a11]):=by
 unfold a19
 cases hb:s.bad with
 |true=>exact ifp (h1.2 hb) rfl
 |false=>
  refine ifn (fun h=>by have:=h1.1 h;rw[hb]at this;cases this) ?_
  by_cases hp:s.pos<l.length
  ·rw[decide_eq_true hp];exact ifp (h2.2 hp) rfl
  ·rw[decide_eq_false hp]
   refine ifn (fun h=>hp (h2.1 h)) ?_
   cases hr:K0 (K4 [a0,a1,a2,a3,a4,a5,a6,a7,a8,a9,a10,a11])with
   |false=>exact ifp (h4.2 hr) rfl
   |true=>exact ifn (fun h=>by rw[h4.1 h]at hr;cases hr) rfl
theorem dj0(h1:c1↔s.bad=true)(h2:c2↔s.pos<l.length)(h6:c6)(h4:c4↔K0 (K4 [a0,a1,a2,a3,a4,a5,a6,a7,a8,a9,a10,a11])=false):
 (if c1 then some ((0:Nat),[.vi 0,.vi 0,.vi 0,.vb false,.vi 0,.vi 0,.vi 0,.vi 0,.vi 0,.vi 0,.vi 20,.vl [],.vl []])else if c2 then some (0,[.vi 0,.vi 0,.vi 0,.vb false,.vi 0,.vi 0,.vi 0,.vi 0,.vi 0,.vi 0,.vi 21,.vl [],.vl []])else if c6 then(if c4 then some (0,[.vi 0,.vi 0,.vi 0,.vb false,.vi 0,.vi 0,.vi 0,.vi 0,.vi 0,.vi 0,.vi 81,.vl [],.vl []])else some (0,[a0,a1,a2,a3,a4,a5,a6,a7,a8,a9,.vi 0,a10,a11]))else none)=some (0,a19 l s false [a0,a1,a2,a3,a4,a5,a6,a7,a8,a9,a10,a11]):=by
 rw[←d74 (l:=l) (s:=s) h1 h2 h4,if_pos h6]
theorem dj1(h1:c1↔s.bad=true)(h2:c2↔s.pos<l.length):
 (if c1 then some ((0:Nat),[.vi 0,.vi 0,.vi 0,.vb false,.vi 0,.vi 0,.vi 0,.vi 0,.vi 0,.vi 0,.vi 20,.vl [],.vl []])else if c2 then some (0,[.vi 0,.vi 0,.vi 0,.vb false,.vi 0,.vi 0,.vi 0,.vi 0,.vi 0,.vi 0,.vi 21,.vl [],.vl []])else some (0,[.vi 0,.vi 0,.vi 0,.vb false,.vi 0,.vi 0,.vi 0,.vi 0,.vi 0,.vi 0,.vi 81,.vl [],.vl []]))=some (0,a19 l s true [a0,a1,a2,a3,a4,a5,a6,a7,a8,a9,a10,a11]):=by
 unfold a19
 cases hb:s.bad with
 |true=>exact ifp (h1.2 hb) rfl
 |false=>
  refine ifn (fun h=>by have:=h1.1 h;rw[hb]at this;cases this) ?_
  by_cases hp:s.pos<l.length
  ·rw[decide_eq_true hp];exact ifp (h2.2 hp) rfl
  ·rw[decide_eq_false hp]
   exact ifn (fun h=>hp (h2.1 h)) rfl
end
section
variable{ω:Opq}(hf: ∀i a,ω.f i a=F i a)(hl:okL (ω.w 0).toL=true)
include hf hl in
theorem c37:Y6 (fun vs=>G6 cz5 (ω.upd 2000 vs)) [.vi (a27 (ω.w 0).toL),.vi (s5R (ω.w 0).toL).pos,.vi (((ω.w 0).toL.length:Int)-(s5R (ω.w 0).toL).pos),.vi (bif (s5R (ω.w 0).toL).bad then 20 else 0),.vi ((0:Nat):Int),.vl []]=some (0,bI6 (ω.w 0).toL (P6 (ω.w 0).toL)):=by
 have:=d38 hf hl (a27 (ω.w 0).toL) (s5R (ω.w 0).toL) [] (av3 hl) (bU6 _) (by have:=av3 hl;simp only[List.length_nil];omega)
 exact this
include hf hl in
theorem cL0:Y6 (fun vs=>G6 cJ0 (ω.upd 2000 vs)) [.vi (a36 (ω.w 0).toL),.vi (s6R (ω.w 0).toL).pos,.vi (((ω.w 0).toL.length:Int)-(s6R (ω.w 0).toL).pos),.vi (bif (s6R (ω.w 0).toL).bad then 20 else 0),.vi ((0:Nat):Int),.vl []]=some (0,bI6 (ω.w 0).toL (X4 (ω.w 0).toL)):=by
 have:=d39 hf hl (a36 (ω.w 0).toL) (s6R (ω.w 0).toL) [] (av4 hl) (cw5 _) (by have:=av4 hl;simp only[List.length_nil];omega)
 exact this
include hf hl in
theorem c38:Y6 (fun vs=>G6 ca0 (ω.upd 2000 vs)) [.vi 0,.vi ((0:Nat):Int),.vi (s5R (ω.w 0).toL).pos,.vb (s5R (ω.w 0).toL).bad,.vl []]=some (0,stQ (a27 (ω.w 0).toL-(P6 (ω.w 0).toL).1) (P6 (ω.w 0).toL).2.1 (P6 (ω.w 0).toL).2.2):=d42 hf hl
include hf hl in
theorem cL1:Y6 (fun vs=>G6 bI5 (ω.upd 2000 vs)) [.vi 0,.vi ((0:Nat):Int),.vi (s6R (ω.w 0).toL).pos,.vb (s6R (ω.w 0).toL).bad,.vl []]=some (0,stQ (a36 (ω.w 0).toL-(X4 (ω.w 0).toL).1) (X4 (ω.w 0).toL).2.1 (X4 (ω.w 0).toL).2.2):=d44 hf hl
end
theorem dj2{l:List Val}(h:okL l=true)(v:Val)(hv:v.toL=l)(m q:Int):F 119 [.vi (a27 l),.vi (s5R l).pos,.vi q,.vi (bif (s5R l).bad then 20 else 0),.vi m,.vl [],v]=X2 (0,bI6 l (P6 l)):=by
 rw[←a14 h];exact du0 h v hv m q
theorem du3{l:List Val}(h:okL l=true)(v:Val)(hv:v.toL=l)(m q:Int):F 120 [.vi (a36 l),.vi (s6R l).pos,.vi q,.vi (bif (s6R l).bad then 20 else 0),.vi m,.vl [],v]=X2 (0,bI6 l (X4 l)):=by
 rw[←aa7 h];exact du1 h v hv m q
theorem dj3{l:List Val}(h:okL l=true)(v:Val)(hv:v.toL=l)(z m:Int):F 121 [.vi z,.vi m,.vi (s5R l).pos,.vb (s5R l).bad,.vl [],.vi (a27 l),v]=X2 (0,stQ (a27 l-(P6 l).1) (P6 l).2.1 (P6 l).2.2):=by
 rw[←a14 h];exact cK9 h v hv z m
theorem du4{l:List Val}(h:okL l=true)(v:Val)(hv:v.toL=l)(z m:Int):F 122 [.vi z,.vi m,.vi (s6R l).pos,.vb (s6R l).bad,.vl [],.vi (a36 l),v]=X2 (0,stQ (a36 l-(X4 l).1) (X4 l).2.1 (X4 l).2.2):=by
 rw[←aa7 h];exact du2 h v hv z m
theorem ao6{l:List Val}(h:okL l=true):IntKind.u32.wrap (tkN l (s1R l) 4)=tkN l (s1R l) 4:=by
 have:=ao5 h (s1R l) 4
 have e:(256:Int)^4=4294967296:=by decide
 rw[dy0];omega
theorem ao7{l:List Val}(h:okL l=true)(s:Rd):IntKind.u16.wrap (tkN l s 2)=tkN l s 2:=by
 have:=ao5 h s 2
 have e:(256:Int)^2=65536:=by decide
 rw[dt3];omega
theorem cL2{ω:Opq}(hf: ∀i a,ω.f i a=F i a)(hl:okL (ω.w 0).toL=true)(hk:(ω.w 0).toL.length=0∨bI (ω.w 0).toL 0<1∨7<bI (ω.w 0).toL 0∨bI (ω.w 0).toL 0=1):G6 bt9 ω=some (0,J5 (ω.w 0).toL):=by
 have hll:=S4 hl
 have g0:=a77 (ω.w 0).toL 0 0 rfl
 have n1:(1:Int).toNat=1:=rfl
 have n2:(2:Int).toNat=2:=rfl
 have n4:(4:Int).toNat=4:=rfl
 have n8:(8:Int).toNat=8:=rfl
 have z:((0:Nat):Int)≤1000:=by omega
 have l0:=a79 (ω.w 0).toL
 have l1:=a80 (ω.w 0).toL
 have l2:=a13 (ω.w 0).toL
 have l3:=bf3 (ω.w 0).toL
 have l4:=bf4 (ω.w 0).toL
 have l5:=bU6 (ω.w 0).toL
 have l6:=aj7 (ω.w 0).toL
 have r1:=aJ3 hl
 obtain⟨B,hB⟩: ∃B:Int,(1000000:Int)=B:=⟨_,rfl⟩
 have hll':((ω.w 0).toL.length:Int)≤B:=by omega
 simp only[bt9,Bk,hB,bt4,aV2,aV3,aV4,aV5,bt5,aV6,bt6,bt7,bt8,am6,b57,b58,b59,am7,am8,b60,b61,b62,b63,G6,J8,List.cons_append,List.nil_append,I9,den,dB,hf,K1,G9,H8,I2,I5,O2,I7,J3,I3,d6,decide_eq_true_eq,i7,decide_eq_false_iff_not,g0,n1,n2,n4,n8,Y9,F39,F40,F44,F46,F49,F4r,aa5,aa6,bh9,bi0,bU5,a14 hl,c37 hf hl,dj2 hl (ω.w 0) rfl,cR6,cR7,cR8,cR9,cS0,bA0,K2 l0,K2 l1,K2 l2,K2 l3,K2 l4,K2 l5,K2 l6,J9 l0,J9 l1,J9 l2,J9 l3,J9 l4,J9 l5,J9 l6,a74,a75,a76,hl,hll',if_true,true_and,List.length_nil,z,and_self,and_true]
 by_cases h0:(ω.w 0).toL.length=0
 ·rw[T7 h0];exact ifp (by omega) rfl
 refine ifn (by omega) ?_
 refine ifp (by omega) ?_
 by_cases h1:bI (ω.w 0).toL 0<1
 ·rw[M5 h0 (.inl h1)];exact ifp h1 rfl
 refine ifn h1 ?_
 by_cases h2:7<bI (ω.w 0).toL 0
 ·rw[M5 h0 (.inr h2)];exact ifp h2 rfl
 refine ifn h2 ?_
 have hb:bI (ω.w 0).toL 0=1:=by omega
 have hkm:a72 (ω.w 0).toL=1:=by rw[Q8 (by omega),hb]
 rw[O0 h0 (by omega),hb]
 refine ifp ⟨by omega,by rw[hkm];exact Q0 _⟩ ?_
 exact di9 (aA6 _) bf5 (by omega) (by omega) l6 (by rw[decide_eq_true_eq]) (by omega) Iff.rfl
theorem cL3{ω:Opq}(hf: ∀i a,ω.f i a=F i a)(hl:okL (ω.w 0).toL=true)(hk:(ω.w 0).toL.length=0∨bI (ω.w 0).toL 0<1∨7<bI (ω.w 0).toL 0∨bI (ω.w 0).toL 0=2):G6 bu6 ω=some (0,J5 (ω.w 0).toL):=by
 have hll:=S4 hl
 have g0:=a77 (ω.w 0).toL 0 0 rfl
 have n1:(1:Int).toNat=1:=rfl
 have n2:(2:Int).toNat=2:=rfl
 have n4:(4:Int).toNat=4:=rfl
 have n8:(8:Int).toNat=8:=rfl
 have z:((0:Nat):Int)≤1000:=by omega
 have l0:=a79 (ω.w 0).toL
 have l1:=a80 (ω.w 0).toL
 have l2:=a13 (ω.w 0).toL
 have l3:=N1 l2 8
 have l4:=N1 l3 8
 have l5:=N1 l4 8
 obtain⟨B,hB⟩: ∃B:Int,(1000000:Int)=B:=⟨_,rfl⟩
 have hll':((ω.w 0).toL.length:Int)≤B:=by omega
 simp only[bu6,Bk,hB,bu0,aV7,aV8,aV9,aW0,bu1,bu2,bu3,bu4,bu5,b64,b65,b66,G6,J8,List.cons_append,List.nil_append,I9,den,dB,hf,K1,G9,H8,I2,I5,O2,I7,J3,I3,d6,decide_eq_true_eq,i7,decide_eq_false_iff_not,g0,n1,n2,n4,n8,Y9,F39,F40,F44,F46,F49,F4r,aa5,aa6,K2 l0,K2 l1,K2 l2,K2 l3,K2 l4,K2 l5,J9 l0,J9 l1,J9 l2,J9 l3,J9 l4,J9 l5,a74,a75,a76,hl,hll',if_true,true_and,List.length_nil,z,and_self,and_true]
 by_cases h0:(ω.w 0).toL.length=0
 ·rw[T7 h0];exact ifp (by omega) rfl
 refine ifn (by omega) ?_
 refine ifp (by omega) ?_
 by_cases h1:bI (ω.w 0).toL 0<1
 ·rw[M5 h0 (.inl h1)];exact ifp h1 rfl
 refine ifn h1 ?_
 by_cases h2:7<bI (ω.w 0).toL 0
 ·rw[M5 h0 (.inr h2)];exact ifp h2 rfl
 refine ifn h2 ?_
 have hb:bI (ω.w 0).toL 0=2:=by omega
 have hkm:a72 (ω.w 0).toL=2:=by rw[Q8 (by omega),hb]
 rw[O0 h0 (by omega),hb]
 refine ifp ⟨by omega,by rw[hkm];exact Q0 _⟩ ?_
 exact di8 (aA6 _) bf5 (by omega) (by omega) l5 Iff.rfl
theorem cL4{ω:Opq}(hf: ∀i a,ω.f i a=F i a)(hl:okL (ω.w 0).toL=true)(hk:(ω.w 0).toL.length=0∨bI (ω.w 0).toL 0<1∨7<bI (ω.w 0).toL 0∨bI (ω.w 0).toL 0=3):G6 bv3 ω=some (0,J5 (ω.w 0).toL):=by
 have hll:=S4 hl
 have g0:=a77 (ω.w 0).toL 0 0 rfl
 have n1:(1:Int).toNat=1:=rfl
 have n2:(2:Int).toNat=2:=rfl
 have n4:(4:Int).toNat=4:=rfl
 have n8:(8:Int).toNat=8:=rfl
 have z:((0:Nat):Int)≤1000:=by omega
 have l0:=a79 (ω.w 0).toL
 have l1:=a80 (ω.w 0).toL
 have l2:=a13 (ω.w 0).toL
 have l3:=N1 l2 8
 have l4:=N1 l3 8
 have l5:=N1 l4 8
 obtain⟨B,hB⟩: ∃B:Int,(1000000:Int)=B:=⟨_,rfl⟩
 have hll':((ω.w 0).toL.length:Int)≤B:=by omega
 simp only[bv3,Bk,hB,bu7,aW1,aW2,aW3,aW4,bu8,bu9,bv0,bv1,bv2,b67,b68,b69,G6,J8,List.cons_append,List.nil_append,I9,den,dB,hf,K1,G9,H8,I2,I5,O2,I7,J3,I3,d6,decide_eq_true_eq,i7,decide_eq_false_iff_not,g0,n1,n2,n4,n8,Y9,F39,F40,F44,F46,F49,F4r,aa5,aa6,K2 l0,K2 l1,K2 l2,K2 l3,K2 l4,K2 l5,J9 l0,J9 l1,J9 l2,J9 l3,J9 l4,J9 l5,a74,a75,a76,hl,hll',if_true,true_and,List.length_nil,z,and_self,and_true]
 by_cases h0:(ω.w 0).toL.length=0
 ·rw[T7 h0];exact ifp (by omega) rfl
 refine ifn (by omega) ?_
 refine ifp (by omega) ?_
 by_cases h1:bI (ω.w 0).toL 0<1
 ·rw[M5 h0 (.inl h1)];exact ifp h1 rfl
 refine ifn h1 ?_
 by_cases h2:7<bI (ω.w 0).toL 0
 ·rw[M5 h0 (.inr h2)];exact ifp h2 rfl
 refine ifn h2 ?_
 have hb:bI (ω.w 0).toL 0=3:=by omega
 have hkm:a72 (ω.w 0).toL=3:=by rw[Q8 (by omega),hb]
 rw[O0 h0 (by omega),hb]
 refine ifp ⟨by omega,by rw[hkm];exact Q0 _⟩ ?_
 exact di8 (aA6 _) bf5 (by omega) (by omega) l5 Iff.rfl
theorem cL5{ω:Opq}(hf: ∀i a,ω.f i a=F i a)(hl:okL (ω.w 0).toL=true)(hk:(ω.w 0).toL.length=0∨bI (ω.w 0).toL 0<1∨7<bI (ω.w 0).toL 0∨bI (ω.w 0).toL 0=4):G6 bv9 ω=some (0,J5 (ω.w 0).toL):=by
 have hll:=S4 hl
 have g0:=a77 (ω.w 0).toL 0 0 rfl
 have n1:(1:Int).toNat=1:=rfl
 have n2:(2:Int).toNat=2:=rfl
 have n4:(4:Int).toNat=4:=rfl
 have n8:(8:Int).toNat=8:=rfl
 have z:((0:Nat):Int)≤1000:=by omega
 have l0:=a79 (ω.w 0).toL
 have l1:=a80 (ω.w 0).toL
 have l2:=a13 (ω.w 0).toL
 have l3:=bf3 (ω.w 0).toL
 have l4:=bf4 (ω.w 0).toL
 have l5:=bU6 (ω.w 0).toL
 have l6:=aj7 (ω.w 0).toL
 have r1:=aJ3 hl
 have l7:=cw5 (ω.w 0).toL
 have l8:=bU7 (ω.w 0).toL
 have r2:=bz9 hl
 obtain⟨B,hB⟩: ∃B:Int,(1000000:Int)=B:=⟨_,rfl⟩
 have hll':((ω.w 0).toL.length:Int)≤B:=by omega
 simp only[bv9,Bk,hB,bv4,aW5,aW6,aW7,aW8,bv5,aW9,bv6,bv7,bv8,ab4,aE5,b70,aE6,b71,b72,b73,am9,b74,b75,b76,an0,an1,an2,an3,b77,b78,b79,b80,b81,G6,J8,List.cons_append,List.nil_append,I9,den,dB,hf,K1,G9,H8,I2,I5,O2,I7,J3,I3,d6,decide_eq_true_eq,i7,decide_eq_false_iff_not,g0,n1,n2,n4,n8,Y9,F39,F40,F44,F46,F49,F4r,aa5,aa6,bh9,bi0,bU5,a14 hl,c37 hf hl,dj2 hl (ω.w 0) rfl,cR6,cR7,cR8,cR9,cS0,bA0,di3,aa7 hl,cL0 hf hl,du3 hl (ω.w 0) rfl,bf2,K2 l0,K2 l1,K2 l2,K2 l3,K2 l4,K2 l5,K2 l6,K2 l7,K2 l8,J9 l0,J9 l1,J9 l2,J9 l3,J9 l4,J9 l5,J9 l6,J9 l7,J9 l8,a74,a75,a76,hl,hll',if_true,true_and,List.length_nil,z,and_self,and_true]
 by_cases h0:(ω.w 0).toL.length=0
 ·rw[T7 h0];exact ifp (by omega) rfl
 refine ifn (by omega) ?_
 refine ifp (by omega) ?_
 by_cases h1:bI (ω.w 0).toL 0<1
 ·rw[M5 h0 (.inl h1)];exact ifp h1 rfl
 refine ifn h1 ?_
 by_cases h2:7<bI (ω.w 0).toL 0
 ·rw[M5 h0 (.inr h2)];exact ifp h2 rfl
 refine ifn h2 ?_
 have hb:bI (ω.w 0).toL 0=4:=by omega
 have hkm:a72 (ω.w 0).toL=4:=by rw[Q8 (by omega),hb]
 rw[O0 h0 (by omega),hb]
 refine ifp ⟨by omega,by rw[hkm];exact Q0 _⟩ ?_
 exact di9 (aA6 _) bf5 (by omega) (by omega) l8 (by rw[decide_eq_true_eq]) (by omega) Iff.rfl
theorem cL6{ω:Opq}(hf: ∀i a,ω.f i a=F i a)(hl:okL (ω.w 0).toL=true)(hk:(ω.w 0).toL.length=0∨bI (ω.w 0).toL 0<1∨7<bI (ω.w 0).toL 0∨bI (ω.w 0).toL 0=5):G6 bw5 ω=some (0,J5 (ω.w 0).toL):=by
 have hll:=S4 hl
 have g0:=a77 (ω.w 0).toL 0 0 rfl
 have n1:(1:Int).toNat=1:=rfl
 have n2:(2:Int).toNat=2:=rfl
 have n4:(4:Int).toNat=4:=rfl
 have n8:(8:Int).toNat=8:=rfl
 have z:((0:Nat):Int)≤1000:=by omega
 have l0:=a79 (ω.w 0).toL
 have l1:=a80 (ω.w 0).toL
 have l2:=a13 (ω.w 0).toL
 have l3:=N1 l2 8
 have l4:=N1 l3 8
 have l5:=N1 l4 8
 have l6:=N1 l5 8
 obtain⟨B,hB⟩: ∃B:Int,(1000000:Int)=B:=⟨_,rfl⟩
 have hll':((ω.w 0).toL.length:Int)≤B:=by omega
 simp only[bw5,Bk,hB,bw0,aX0,aX1,aX2,aX3,aX4,bw1,bw2,bw3,bw4,b82,b83,b84,b85,b86,G6,J8,List.cons_append,List.nil_append,I9,den,dB,hf,K1,G9,H8,I2,I5,O2,I7,J3,I3,d6,decide_eq_true_eq,i7,decide_eq_false_iff_not,g0,n1,n2,n4,n8,Y9,F39,F40,F44,F46,F49,F4r,aa5,aa6,K2 l0,K2 l1,K2 l2,K2 l3,K2 l4,K2 l5,K2 l6,J9 l0,J9 l1,J9 l2,J9 l3,J9 l4,J9 l5,J9 l6,a74,a75,a76,hl,hll',if_true,true_and,List.length_nil,z,and_self,and_true]
 by_cases h0:(ω.w 0).toL.length=0
 ·rw[T7 h0];exact ifp (by omega) rfl
 refine ifn (by omega) ?_
 refine ifp (by omega) ?_
 by_cases h1:bI (ω.w 0).toL 0<1
 ·rw[M5 h0 (.inl h1)];exact ifp h1 rfl
 refine ifn h1 ?_
 by_cases h2:7<bI (ω.w 0).toL 0
 ·rw[M5 h0 (.inr h2)];exact ifp h2 rfl
 refine ifn h2 ?_
 have hb:bI (ω.w 0).toL 0=5:=by omega
 have hkm:a72 (ω.w 0).toL=5:=by rw[Q8 (by omega),hb]
 rw[O0 h0 (by omega),hb]
 refine ifp ⟨by omega,by rw[hkm];exact Q0 _⟩ ?_
 exact di8 (aA6 _) bf5 (by omega) (by omega) l6 Iff.rfl
theorem cL7{ω:Opq}(hf: ∀i a,ω.f i a=F i a)(hl:okL (ω.w 0).toL=true)(hk:(ω.w 0).toL.length=0∨bI (ω.w 0).toL 0<1∨7<bI (ω.w 0).toL 0∨bI (ω.w 0).toL 0=6):G6 bx2 ω=some (0,J5 (ω.w 0).toL):=by
 have hll:=S4 hl
 have g0:=a77 (ω.w 0).toL 0 0 rfl
 have n1:(1:Int).toNat=1:=rfl
 have n2:(2:Int).toNat=2:=rfl
 have n4:(4:Int).toNat=4:=rfl
 have n8:(8:Int).toNat=8:=rfl
 have z:((0:Nat):Int)≤1000:=by omega
 have l0:=a79 (ω.w 0).toL
 have l1:=a80 (ω.w 0).toL
 have l2:=a13 (ω.w 0).toL
 obtain⟨B,hB⟩: ∃B:Int,(1000000:Int)=B:=⟨_,rfl⟩
 have hll':((ω.w 0).toL.length:Int)≤B:=by omega
 simp only[bx2,Bk,hB,bw6,aX5,bw7,bw8,bw9,bx0,bx1,G6,J8,List.cons_append,List.nil_append,I9,den,dB,hf,K1,G9,H8,I2,I5,O2,I7,J3,I3,d6,decide_eq_true_eq,i7,decide_eq_false_iff_not,g0,n1,n2,n4,n8,Y9,F39,F40,F44,F46,F49,F4r,aa5,aa6,K2 l0,K2 l1,K2 l2,J9 l0,J9 l1,J9 l2,a74,a75,a76,hl,hll',if_true,true_and,List.length_nil,z,and_self,and_true]
 by_cases h0:(ω.w 0).toL.length=0
 ·rw[T7 h0];exact ifp (by omega) rfl
 refine ifn (by omega) ?_
 refine ifp (by omega) ?_
 by_cases h1:bI (ω.w 0).toL 0<1
 ·rw[M5 h0 (.inl h1)];exact ifp h1 rfl
 refine ifn h1 ?_
 by_cases h2:7<bI (ω.w 0).toL 0
 ·rw[M5 h0 (.inr h2)];exact ifp h2 rfl
 refine ifn h2 ?_
 have hb:bI (ω.w 0).toL 0=6:=by omega
 have hkm:a72 (ω.w 0).toL=6:=by rw[Q8 (by omega),hb]
 rw[O0 h0 (by omega),hb]
 refine ifp ⟨by omega,by rw[hkm];exact Q0 _⟩ ?_
 exact di8 (aA6 _) bf5 (by omega) (by omega) l2 Iff.rfl
theorem cL8{ω:Opq}(hf: ∀i a,ω.f i a=F i a)(hl:okL (ω.w 0).toL=true)(hk:(ω.w 0).toL.length=0∨bI (ω.w 0).toL 0<1∨7<bI (ω.w 0).toL 0∨bI (ω.w 0).toL 0=7):G6 by0 ω=some (0,J5 (ω.w 0).toL):=by
 have hll:=S4 hl
 have g0:=a77 (ω.w 0).toL 0 0 rfl
 have n1:(1:Int).toNat=1:=rfl
 have n2:(2:Int).toNat=2:=rfl
 have n4:(4:Int).toNat=4:=rfl
 have n8:(8:Int).toNat=8:=rfl
 have z:((0:Nat):Int)≤1000:=by omega
 have l0:=a79 (ω.w 0).toL
 have l1:=a80 (ω.w 0).toL
 have l2:=a13 (ω.w 0).toL
 have l3:=N1 l2 2
 have l4:=N1 l3 8
 obtain⟨B,hB⟩: ∃B:Int,(1000000:Int)=B:=⟨_,rfl⟩
 have hll':((ω.w 0).toL.length:Int)≤B:=by omega
 simp only[by0,Bk,hB,bx3,aX6,aX7,aX8,bx4,bx5,bx6,bx7,bx8,bx9,b87,G6,J8,List.cons_append,List.nil_append,I9,den,dB,hf,K1,G9,H8,I2,I5,O2,I7,J3,I3,d6,decide_eq_true_eq,i7,decide_eq_false_iff_not,g0,n1,n2,n4,n8,Y9,F39,F40,F44,F46,F49,F4r,aa5,aa6,K2 l0,K2 l1,K2 l2,K2 l3,K2 l4,J9 l0,J9 l1,J9 l2,J9 l3,J9 l4,a74,a75,a76,hl,hll',if_true,true_and,List.length_nil,z,and_self,and_true]
 by_cases h0:(ω.w 0).toL.length=0
 ·rw[T7 h0];exact ifp (by omega) rfl
 refine ifn (by omega) ?_
 refine ifp (by omega) ?_
 by_cases h1:bI (ω.w 0).toL 0<1
 ·rw[M5 h0 (.inl h1)];exact ifp h1 rfl
 refine ifn h1 ?_
 by_cases h2:7<bI (ω.w 0).toL 0
 ·rw[M5 h0 (.inr h2)];exact ifp h2 rfl
 refine ifn h2 ?_
 have hb:bI (ω.w 0).toL 0=7:=by omega
 have hkm:a72 (ω.w 0).toL=7:=by rw[Q8 (by omega),hb]
 rw[O0 h0 (by omega),hb]
 refine ifp ⟨by omega,by rw[hkm];exact Q0 _⟩ ?_
 exact di8 (aA6 _) bf5 (by omega) (by omega) l4 Iff.rfl
theorem cw6{ω:Opq}(hf: ∀i a,ω.f i a=F i a)(hl:okL (ω.w 0).toL=true)(h0:(ω.w 0).toL.length=0):G6 b96 ω=some (0,J5 (ω.w 0).toL):=by
 have hll:=S4 hl
 have g0:=a77 (ω.w 0).toL 0 0 rfl
 have n1:(1:Int).toNat=1:=rfl
 have n2:(2:Int).toNat=2:=rfl
 have n4:(4:Int).toNat=4:=rfl
 have n8:(8:Int).toNat=8:=rfl
 have z:((0:Nat):Int)≤1000:=by omega
 have l0:=a79 (ω.w 0).toL
 have l1:=a80 (ω.w 0).toL
 have l2:=a13 (ω.w 0).toL
 simp only[b96,Bk,b88,b89,aE7,b90,b91,b92,b93,b94,b95,aE8,aL7,G6,J8,List.cons_append,List.nil_append,I9,den,dB,hf,K1,G9,H8,I2,I5,O2,I7,J3,I3,d6,decide_eq_true_eq,i7,decide_eq_false_iff_not,g0,n1,n2,n4,n8,P8,F39,F45,F47,F48,F49,F4r,aa5,aa6,I8 l0,I8 l1,I8 l2,J6 l0,J6 l1,J6 l2,a01,a02,hl,ao6 hl,ao7 hl,if_true,true_and,List.length_nil,z,and_self,and_true]
 refine ifn (by omega) ?_
 have hkm:a72 (ω.w 0).toL=0:=by unfold a72;rw[decide_eq_true h0];rfl
 have b1:s1R (ω.w 0).toL=⟨0,true⟩:=by
  unfold s1R tkS
  rw[show U8 (ω.w 0).toL ⟨0,false⟩ 1=false by simp[U8,h0]];rfl
 have b2:(s2R (ω.w 0).toL).bad=true:=by unfold s2R;rw[b1];rfl
 rw[T7 h0]
 refine ifp (by rw[hkm];exact Q0 _) ?_
 exact ifp b2 rfl
theorem cw7{ω:Opq}(hf: ∀i a,ω.f i a=F i a)(hl:okL (ω.w 0).toL=true)(h0: ¬(ω.w 0).toL.length=0)(hk:bI (ω.w 0).toL 0<1∨7<bI (ω.w 0).toL 0∨bI (ω.w 0).toL 0=1):G6 ba3 ω=some (0,J5 (ω.w 0).toL):=by
 have hll:=S4 hl
 have g0:=a77 (ω.w 0).toL 0 0 rfl
 have n1:(1:Int).toNat=1:=rfl
 have n2:(2:Int).toNat=2:=rfl
 have n4:(4:Int).toNat=4:=rfl
 have n8:(8:Int).toNat=8:=rfl
 have z:((0:Nat):Int)≤1000:=by omega
 have l0:=a79 (ω.w 0).toL
 have l1:=a80 (ω.w 0).toL
 have l2:=a13 (ω.w 0).toL
 have l3:=bf3 (ω.w 0).toL
 have l4:=bf4 (ω.w 0).toL
 have l5:=bU6 (ω.w 0).toL
 have l6:=aj7 (ω.w 0).toL
 have r1:=aJ3 hl
 simp only[ba3,Bk,b97,b98,aE9,b99,aF0,ba0,aF1,ba1,aF2,ba2,aL8,ar9,as0,as3,aL9,aM0,ab5,ab6,ab7,ab8,a54,aM1,aM2,as4,as5,as6,aM3,aM4,G6,J8,List.cons_append,List.nil_append,I9,den,dB,hf,K1,G9,H8,I2,I5,O2,I7,J3,I3,d6,decide_eq_true_eq,i7,decide_eq_false_iff_not,g0,n1,n2,n4,n8,P8,F39,F45,F47,F48,F49,F4r,aa5,aa6,bh9,bi0,bU5,a14 hl,c38 hf hl,dj3 hl (ω.w 0) rfl,cS1,bI0,bI1,cS2,bA0,I8 l0,I8 l1,I8 l2,I8 l3,I8 l4,I8 l5,I8 l6,J6 l0,J6 l1,J6 l2,J6 l3,J6 l4,J6 l5,J6 l6,a01,a02,hl,ao6 hl,ao7 hl,if_true,true_and,List.length_nil,z,and_self,and_true]
 refine ifp (by omega) ?_
 refine ifp (by omega) ?_
 by_cases h1:bI (ω.w 0).toL 0<1
 ·rw[M5 h0 (.inl h1)];exact ifp h1 rfl
 refine ifn h1 ?_
 by_cases h2:7<bI (ω.w 0).toL 0
 ·rw[M5 h0 (.inr h2)];exact ifp h2 rfl
 refine ifn h2 ?_
 have hb:bI (ω.w 0).toL 0=1:=by omega
 have hkm:a72 (ω.w 0).toL=1:=by rw[Q8 (by omega),hb]
 rw[O0 h0 (by omega),hb]
 refine ifp (by rw[hkm];exact Q0 _) ?_
 by_cases ho:1<tkN (ω.w 0).toL (s3R (ω.w 0).toL) 1
 ·refine ifp ho ?_
  have e:decide (1<tkN (ω.w 0).toL (s3R (ω.w 0).toL) 1)=true:=decide_eq_true ho
  show _=some (0,a19 (ω.w 0).toL (P6 (ω.w 0).toL).2.1 (decide (1<tkN (ω.w 0).toL (s3R (ω.w 0).toL) 1)) _)
  rw[e]
  exact dj1 Iff.rfl (by omega)
 ·refine ifn ho ?_
  have e:decide (1<tkN (ω.w 0).toL (s3R (ω.w 0).toL) 1)=false:=decide_eq_false ho
  show _=some (0,a19 (ω.w 0).toL (P6 (ω.w 0).toL).2.1 (decide (1<tkN (ω.w 0).toL (s3R (ω.w 0).toL) 1)) _)
  rw[e]
  exact dj0 Iff.rfl (by omega) (by omega) Iff.rfl
theorem cw8{ω:Opq}(hf: ∀i a,ω.f i a=F i a)(hl:okL (ω.w 0).toL=true)(h0: ¬(ω.w 0).toL.length=0)(hk:bI (ω.w 0).toL 0<1∨7<bI (ω.w 0).toL 0∨bI (ω.w 0).toL 0=2):G6 bb0 ω=some (0,J5 (ω.w 0).toL):=by
 have hll:=S4 hl
 have g0:=a77 (ω.w 0).toL 0 0 rfl
 have n1:(1:Int).toNat=1:=rfl
 have n2:(2:Int).toNat=2:=rfl
 have n4:(4:Int).toNat=4:=rfl
 have n8:(8:Int).toNat=8:=rfl
 have z:((0:Nat):Int)≤1000:=by omega
 have l0:=a79 (ω.w 0).toL
 have l1:=a80 (ω.w 0).toL
 have l2:=a13 (ω.w 0).toL
 have l3:=N1 l2 8
 have l4:=N1 l3 8
 have l5:=N1 l4 8
 simp only[bb0,Bk,ba4,ba5,aF3,ba6,aF4,ba7,aF5,ba8,aF6,ba9,aM5,aM6,aM7,aM8,aM9,as7,as8,as9,at0,aN0,G6,J8,List.cons_append,List.nil_append,I9,den,dB,hf,K1,G9,H8,I2,I5,O2,I7,J3,I3,d6,decide_eq_true_eq,i7,decide_eq_false_iff_not,g0,n1,n2,n4,n8,P8,F39,F45,F47,F48,F49,F4r,aa5,aa6,I8 l0,I8 l1,I8 l2,I8 l3,I8 l4,I8 l5,J6 l0,J6 l1,J6 l2,J6 l3,J6 l4,J6 l5,a01,a02,hl,ao6 hl,ao7 hl,if_true,true_and,List.length_nil,z,and_self,and_true]
 refine ifp (by omega) ?_
 refine ifp (by omega) ?_
 by_cases h1:bI (ω.w 0).toL 0<1
 ·rw[M5 h0 (.inl h1)];exact ifp h1 rfl
 refine ifn h1 ?_
 by_cases h2:7<bI (ω.w 0).toL 0
 ·rw[M5 h0 (.inr h2)];exact ifp h2 rfl
 refine ifn h2 ?_
 have hb:bI (ω.w 0).toL 0=2:=by omega
 have hkm:a72 (ω.w 0).toL=2:=by rw[Q8 (by omega),hb]
 rw[O0 h0 (by omega),hb]
 refine ifp (by rw[hkm];exact Q0 _) ?_
 exact d74 Iff.rfl (by omega) Iff.rfl
theorem cw9{ω:Opq}(hf: ∀i a,ω.f i a=F i a)(hl:okL (ω.w 0).toL=true)(h0: ¬(ω.w 0).toL.length=0)(hk:bI (ω.w 0).toL 0<1∨7<bI (ω.w 0).toL 0∨bI (ω.w 0).toL 0=3):G6 bb7 ω=some (0,J5 (ω.w 0).toL):=by
 have hll:=S4 hl
 have g0:=a77 (ω.w 0).toL 0 0 rfl
 have n1:(1:Int).toNat=1:=rfl
 have n2:(2:Int).toNat=2:=rfl
 have n4:(4:Int).toNat=4:=rfl
 have n8:(8:Int).toNat=8:=rfl
 have z:((0:Nat):Int)≤1000:=by omega
 have l0:=a79 (ω.w 0).toL
 have l1:=a80 (ω.w 0).toL
 have l2:=a13 (ω.w 0).toL
 have l3:=N1 l2 8
 have l4:=N1 l3 8
 have l5:=N1 l4 8
 simp only[bb7,Bk,bb1,bb2,aF7,bb3,aF8,bb4,aF9,bb5,aG0,bb6,aN1,aN2,aN3,aN4,aN5,at1,at2,at3,at4,aN6,G6,J8,List.cons_append,List.nil_append,I9,den,dB,hf,K1,G9,H8,I2,I5,O2,I7,J3,I3,d6,decide_eq_true_eq,i7,decide_eq_false_iff_not,g0,n1,n2,n4,n8,P8,F39,F45,F47,F48,F49,F4r,aa5,aa6,I8 l0,I8 l1,I8 l2,I8 l3,I8 l4,I8 l5,J6 l0,J6 l1,J6 l2,J6 l3,J6 l4,J6 l5,a01,a02,hl,ao6 hl,ao7 hl,if_true,true_and,List.length_nil,z,and_self,and_true]
 refine ifp (by omega) ?_
 refine ifp (by omega) ?_
 by_cases h1:bI (ω.w 0).toL 0<1
 ·rw[M5 h0 (.inl h1)];exact ifp h1 rfl
 refine ifn h1 ?_
 by_cases h2:7<bI (ω.w 0).toL 0
 ·rw[M5 h0 (.inr h2)];exact ifp h2 rfl
 refine ifn h2 ?_
 have hb:bI (ω.w 0).toL 0=3:=by omega
 have hkm:a72 (ω.w 0).toL=3:=by rw[Q8 (by omega),hb]
 rw[O0 h0 (by omega),hb]
 refine ifp (by rw[hkm];exact Q0 _) ?_
 exact d74 Iff.rfl (by omega) Iff.rfl
theorem cx0{ω:Opq}(hf: ∀i a,ω.f i a=F i a)(hl:okL (ω.w 0).toL=true)(h0: ¬(ω.w 0).toL.length=0)(hk:bI (ω.w 0).toL 0<1∨7<bI (ω.w 0).toL 0∨bI (ω.w 0).toL 0=4):G6 bc4 ω=some (0,J5 (ω.w 0).toL):=by
 have hll:=S4 hl
 have g0:=a77 (ω.w 0).toL 0 0 rfl
 have n1:(1:Int).toNat=1:=rfl
 have n2:(2:Int).toNat=2:=rfl
 have n4:(4:Int).toNat=4:=rfl
 have n8:(8:Int).toNat=8:=rfl
 have z:((0:Nat):Int)≤1000:=by omega
 have l0:=a79 (ω.w 0).toL
 have l1:=a80 (ω.w 0).toL
 have l2:=a13 (ω.w 0).toL
 have l3:=bf3 (ω.w 0).toL
 have l4:=bf4 (ω.w 0).toL
 have l5:=bU6 (ω.w 0).toL
 have l6:=aj7 (ω.w 0).toL
 have r1:=aJ3 hl
 have l7:=cw5 (ω.w 0).toL
 have l8:=bU7 (ω.w 0).toL
 have r2:=bz9 hl
 simp only[bc4,Bk,bb8,bb9,aG1,bc0,aG2,bc1,aG3,bc2,aG4,bc3,aN7,at5,at6,at7,aN8,aN9,ab9,at8,ac0,aO0,a55,a56,a57,ac1,ac2,ac3,ac4,a58,ac5,a59,aO1,aO2,aO3,at9,au0,au1,aO4,aO5,G6,J8,List.cons_append,List.nil_append,I9,den,dB,hf,K1,G9,H8,I2,I5,O2,I7,J3,I3,d6,decide_eq_true_eq,i7,decide_eq_false_iff_not,g0,n1,n2,n4,n8,P8,F39,F45,F47,F48,F49,F4r,aa5,aa6,bh9,bi0,bU5,a14 hl,c38 hf hl,dj3 hl (ω.w 0) rfl,cS1,bI0,bI1,cS2,bA0,di3,aa7 hl,cL1 hf hl,du4 hl (ω.w 0) rfl,ac9,I8 l0,I8 l1,I8 l2,I8 l3,I8 l4,I8 l5,I8 l6,I8 l7,I8 l8,J6 l0,J6 l1,J6 l2,J6 l3,J6 l4,J6 l5,J6 l6,J6 l7,J6 l8,a01,a02,hl,ao6 hl,ao7 hl,if_true,true_and,List.length_nil,z,and_self,and_true]
 refine ifp (by omega) ?_
 refine ifp (by omega) ?_
 by_cases h1:bI (ω.w 0).toL 0<1
 ·rw[M5 h0 (.inl h1)];exact ifp h1 rfl
 refine ifn h1 ?_
 by_cases h2:7<bI (ω.w 0).toL 0
 ·rw[M5 h0 (.inr h2)];exact ifp h2 rfl
 refine ifn h2 ?_
 have hb:bI (ω.w 0).toL 0=4:=by omega
 have hkm:a72 (ω.w 0).toL=4:=by rw[Q8 (by omega),hb]
 rw[O0 h0 (by omega),hb]
 refine ifp (by rw[hkm];exact Q0 _) ?_
 by_cases ho:1<tkN (ω.w 0).toL (s3R (ω.w 0).toL) 1
 ·refine ifp ho ?_
  have e:decide (1<tkN (ω.w 0).toL (s3R (ω.w 0).toL) 1)=true:=decide_eq_true ho
  show _=some (0,a19 (ω.w 0).toL (X4 (ω.w 0).toL).2.1 (decide (1<tkN (ω.w 0).toL (s3R (ω.w 0).toL) 1)) _)
  rw[e]
  exact dj1 Iff.rfl (by omega)
 ·refine ifn ho ?_
  have e:decide (1<tkN (ω.w 0).toL (s3R (ω.w 0).toL) 1)=false:=decide_eq_false ho
  show _=some (0,a19 (ω.w 0).toL (X4 (ω.w 0).toL).2.1 (decide (1<tkN (ω.w 0).toL (s3R (ω.w 0).toL) 1)) _)
  rw[e]
  exact dj0 Iff.rfl (by omega) (by omega) Iff.rfl
theorem cx1{ω:Opq}(hf: ∀i a,ω.f i a=F i a)(hl:okL (ω.w 0).toL=true)(h0: ¬(ω.w 0).toL.length=0)(hk:bI (ω.w 0).toL 0<1∨7<bI (ω.w 0).toL 0∨bI (ω.w 0).toL 0=5):G6 bd1 ω=some (0,J5 (ω.w 0).toL):=by
 have hll:=S4 hl
 have g0:=a77 (ω.w 0).toL 0 0 rfl
 have n1:(1:Int).toNat=1:=rfl
 have n2:(2:Int).toNat=2:=rfl
 have n4:(4:Int).toNat=4:=rfl
 have n8:(8:Int).toNat=8:=rfl
 have z:((0:Nat):Int)≤1000:=by omega
 have l0:=a79 (ω.w 0).toL
 have l1:=a80 (ω.w 0).toL
 have l2:=a13 (ω.w 0).toL
 have l3:=N1 l2 8
 have l4:=N1 l3 8
 have l5:=N1 l4 8
 have l6:=N1 l5 8
 simp only[bd1,Bk,bc5,bc6,aG5,bc7,aG6,bc8,aG7,bc9,aG8,bd0,au2,aO6,aO7,aO8,aO9,aP0,aP1,au3,au4,au5,au6,au7,aP2,G6,J8,List.cons_append,List.nil_append,I9,den,dB,hf,K1,G9,H8,I2,I5,O2,I7,J3,I3,d6,decide_eq_true_eq,i7,decide_eq_false_iff_not,g0,n1,n2,n4,n8,P8,F39,F45,F47,F48,F49,F4r,aa5,aa6,I8 l0,I8 l1,I8 l2,I8 l3,I8 l4,I8 l5,I8 l6,J6 l0,J6 l1,J6 l2,J6 l3,J6 l4,J6 l5,J6 l6,a01,a02,hl,ao6 hl,ao7 hl,if_true,true_and,List.length_nil,z,and_self,and_true]
 refine ifp (by omega) ?_
 refine ifp (by omega) ?_
 by_cases h1:bI (ω.w 0).toL 0<1
 ·rw[M5 h0 (.inl h1)];exact ifp h1 rfl
 refine ifn h1 ?_
 by_cases h2:7<bI (ω.w 0).toL 0
 ·rw[M5 h0 (.inr h2)];exact ifp h2 rfl
 refine ifn h2 ?_
 have hb:bI (ω.w 0).toL 0=5:=by omega
 have hkm:a72 (ω.w 0).toL=5:=by rw[Q8 (by omega),hb]
 rw[O0 h0 (by omega),hb]
 refine ifp (by rw[hkm];exact Q0 _) ?_
 exact d74 Iff.rfl (by omega) Iff.rfl
theorem cx2{ω:Opq}(hf: ∀i a,ω.f i a=F i a)(hl:okL (ω.w 0).toL=true)(h0: ¬(ω.w 0).toL.length=0)(hk:bI (ω.w 0).toL 0<1∨7<bI (ω.w 0).toL 0∨bI (ω.w 0).toL 0=6):G6 be0 ω=some (0,J5 (ω.w 0).toL):=by
 have hll:=S4 hl
 have g0:=a77 (ω.w 0).toL 0 0 rfl
 have n1:(1:Int).toNat=1:=rfl
 have n2:(2:Int).toNat=2:=rfl
 have n4:(4:Int).toNat=4:=rfl
 have n8:(8:Int).toNat=8:=rfl
 have z:((0:Nat):Int)≤1000:=by omega
 have l0:=a79 (ω.w 0).toL
 have l1:=a80 (ω.w 0).toL
 have l2:=a13 (ω.w 0).toL
 simp only[be0,Bk,bd2,bd3,aG9,bd4,bd5,bd6,bd7,bd8,bd9,aH0,aP3,G6,J8,List.cons_append,List.nil_append,I9,den,dB,hf,K1,G9,H8,I2,I5,O2,I7,J3,I3,d6,decide_eq_true_eq,i7,decide_eq_false_iff_not,g0,n1,n2,n4,n8,P8,F39,F45,F47,F48,F49,F4r,aa5,aa6,I8 l0,I8 l1,I8 l2,J6 l0,J6 l1,J6 l2,a01,a02,hl,ao6 hl,ao7 hl,if_true,true_and,List.length_nil,z,and_self,and_true]
 refine ifp (by omega) ?_
 refine ifp (by omega) ?_
 by_cases h1:bI (ω.w 0).toL 0<1
 ·rw[M5 h0 (.inl h1)];exact ifp h1 rfl
 refine ifn h1 ?_
 by_cases h2:7<bI (ω.w 0).toL 0
 ·rw[M5 h0 (.inr h2)];exact ifp h2 rfl
 refine ifn h2 ?_
 have hb:bI (ω.w 0).toL 0=6:=by omega
 have hkm:a72 (ω.w 0).toL=6:=by rw[Q8 (by omega),hb]
 rw[O0 h0 (by omega),hb]
 refine ifp (by rw[hkm];exact Q0 _) ?_
 exact d74 Iff.rfl (by omega) Iff.rfl
theorem cx3{ω:Opq}(hf: ∀i a,ω.f i a=F i a)(hl:okL (ω.w 0).toL=true)(h0: ¬(ω.w 0).toL.length=0)(hk:bI (ω.w 0).toL 0<1∨7<bI (ω.w 0).toL 0∨bI (ω.w 0).toL 0=7):G6 be8 ω=some (0,J5 (ω.w 0).toL):=by
 have hll:=S4 hl
 have g0:=a77 (ω.w 0).toL 0 0 rfl
 have n1:(1:Int).toNat=1:=rfl
 have n2:(2:Int).toNat=2:=rfl
 have n4:(4:Int).toNat=4:=rfl
 have n8:(8:Int).toNat=8:=rfl
 have z:((0:Nat):Int)≤1000:=by omega
 have l0:=a79 (ω.w 0).toL
 have l1:=a80 (ω.w 0).toL
 have l2:=a13 (ω.w 0).toL
 have l3:=N1 l2 2
 have l4:=N1 l3 8
 simp only[be8,Bk,be1,be2,aH1,be3,aH2,be4,aH3,be5,be6,be7,aP4,aP5,aP6,au8,au9,av0,aP7,G6,J8,List.cons_append,List.nil_append,I9,den,dB,hf,K1,G9,H8,I2,I5,O2,I7,J3,I3,d6,decide_eq_true_eq,i7,decide_eq_false_iff_not,g0,n1,n2,n4,n8,P8,F39,F45,F47,F48,F49,F4r,aa5,aa6,I8 l0,I8 l1,I8 l2,I8 l3,I8 l4,J6 l0,J6 l1,J6 l2,J6 l3,J6 l4,a01,a02,hl,ao6 hl,ao7 hl,if_true,true_and,List.length_nil,z,and_self,and_true]
 refine ifp (by omega) ?_
 refine ifp (by omega) ?_
 by_cases h1:bI (ω.w 0).toL 0<1
 ·rw[M5 h0 (.inl h1)];exact ifp h1 rfl
 refine ifn h1 ?_
 by_cases h2:7<bI (ω.w 0).toL 0
 ·rw[M5 h0 (.inr h2)];exact ifp h2 rfl
 refine ifn h2 ?_
 have hb:bI (ω.w 0).toL 0=7:=by omega
 have hkm:a72 (ω.w 0).toL=7:=by rw[Q8 (by omega),hb]
 rw[O0 h0 (by omega),hb]
 refine ifp (by rw[hkm];exact Q0 _) ?_
 exact d74 Iff.rfl (by omega) Iff.rfl
theorem aQ4(v:Val):S6 (F 30 [v])=S6 v:=by
 show((v.toL.map aw1).map aY1)=_
 rw[v6];rfl
theorem aA7(v:Val):O6 (F 31 [v])=O6 v:=by
 show((v.toL.map aw2).map a71)=_
 rw[v6];rfl
theorem aJ4(v:Val):(F 30 [v]).toL.length=v.toL.length:=by simp[F,H9]
theorem aJ5(v:Val):(F 31 [v]).toL.length=v.toL.length:=by simp[F,H9]
theorem cx4(l:List Val)(s:Rd)(odd:Bool)(a:List Val):(arg (a19 l s odd a) 11).toL.length≤(arg a 10).toL.length:=by
 unfold a19
 cases s.bad
 ·cases decide (s.pos<l.length)
  ·cases (odd|| !K0 (K4 a))
   ·exact d8 _
   ·exact m7 _
  ·exact m7 _
 ·exact m7 _
theorem cx5(l:List Val)(s:Rd)(odd:Bool)(a:List Val):(arg (a19 l s odd a) 12).toL.length≤(arg a 11).toL.length:=by
 unfold a19
 cases s.bad
 ·cases decide (s.pos<l.length)
  ·cases (odd|| !K0 (K4 a))
   ·exact d8 _
   ·exact m7 _
  ·exact m7 _
 ·exact m7 _
theorem aQ5{l:List Val}(h:okL l=true):(arg (J5 l) 11).toL.length≤255:=by
 have r:=aJ3 h
 have z:([]:List Val).length≤255:=by decide
 unfold J5 T9
 repeat' split
 all_goals first|exact z|exact t7 (cx4 _ _ _ _) r|exact t7 (cx4 _ _ _ _) z
theorem aQ6{l:List Val}(h:okL l=true):(arg (J5 l) 12).toL.length≤255:=by
 have r:=bz9 h
 have z:([]:List Val).length≤255:=by decide
 unfold J5 T9
 repeat' split
 all_goals first|exact z|exact t7 (cx5 _ _ _ _) r|exact t7 (cx5 _ _ _ _) z
theorem du5: ∀(a:List Val),a.length=13→a=[arg a 0,arg a 1,arg a 2,arg a 3,arg a 4,arg a 5,arg a 6,arg a 7,arg a 8,arg a 9,arg a 10,arg a 11,arg a 12]
 | [x0,x1,x2,x3,x4,x5,x6,x7,x8,x9,x10,x11,x12],_=>rfl
theorem cL9(l:List Val)(s:Rd)(odd:Bool)(a:List Val):(a19 l s odd a).length=13:=by
 unfold a19
 cases s.bad
 ·cases decide (s.pos<l.length)
  ·cases (odd|| !K0 (K4 a))
   ·rfl
   ·rfl
  ·rfl
 ·rfl
theorem cx6(l:List Val):(J5 l).length=13:=by
 unfold J5 T9
 repeat' split
 all_goals first|rfl|exact cL9 _ _ _ _
theorem bI2(l:List Val):J5 l=[arg (J5 l) 0,arg (J5 l) 1,arg (J5 l) 2,arg (J5 l) 3,arg (J5 l) 4,arg (J5 l) 5,arg (J5 l) 6,arg (J5 l) 7,arg (J5 l) 8,arg (J5 l) 9,arg (J5 l) 10,arg (J5 l) 11,arg (J5 l) 12]:=du5 _ (cx6 l)
theorem bI3{ω:Opq}(hf: ∀i a,ω.f i a=F i a)(hb:ak8 (ω.w 0).toL=true):G6 a92 ω=some (0,[.vb true]):=by
 obtain⟨B,hB⟩: ∃B:Int,(1000000:Int)=B:=⟨_,rfl⟩
 have hM:F 7 [F 50 [ω.w 0],F 51 [ω.w 0],F 52 [ω.w 0],F 53 [ω.w 0],F 54 [ω.w 0],F 55 [ω.w 0],F 56 [ω.w 0],F 57 [ω.w 0],F 58 [ω.w 0],F 59 [ω.w 0],F 30 [F 61 [ω.w 0]],F 31 [F 62 [ω.w 0]],F 50 [ω.w 0],F 51 [ω.w 0],F 52 [ω.w 0],F 53 [ω.w 0],F 54 [ω.w 0],F 55 [ω.w 0],F 56 [ω.w 0],F 57 [ω.w 0],F 58 [ω.w 0],F 59 [ω.w 0],F 61 [ω.w 0],F 62 [ω.w 0]]= .vb true:=by
  generalize F 50 [ω.w 0]=x0;generalize F 51 [ω.w 0]=x1;generalize F 52 [ω.w 0]=x2;generalize F 53 [ω.w 0]=x3;generalize F 54 [ω.w 0]=x4;generalize F 55 [ω.w 0]=x5;generalize F 56 [ω.w 0]=x6;generalize F 57 [ω.w 0]=x7;generalize F 58 [ω.w 0]=x8;generalize F 59 [ω.w 0]=x9;generalize F 61 [ω.w 0]=y;generalize F 62 [ω.w 0]=u
  show Val.vb (eqB (K4 [x0,x1,x2,x3,x4,x5,x6,x7,x8,x9,F 30 [y],F 31 [u]]) (K4 [x0,x1,x2,x3,x4,x5,x6,x7,x8,x9,y,u]))=_
  simp only[K4,H9,I1,aQ4,aA7,Q0]
 have h12:F 12 [ω.w 0,ω.w 0]= .vb true:=by
  show Val.vb (eqB (a40 (ω.w 0)) (a40 (ω.w 0)))=_
  rw[Q0]
 simp only[a92,hB,G6,I9,den,dB,K1,a21,hf,hM,h12,hb,aJ4,aJ5,G9,H8,J3,I3,I5,d6,decide_eq_true_eq,j7,e9,if_true,if_false,true_and]
 by_cases h:3000<((ω.w 0).toL.length:Int)
 ·exact ifp h rfl
 refine ifn h ?_
 have hl:okL (ω.w 0).toL=true:=by
  unfold okL;rw[hb,decide_eq_true (by omega)];rfl
 have r1:(F 61 [ω.w 0]).toL.length≤255:=aQ5 hl
 have r2:(F 62 [ω.w 0]).toL.length≤255:=aQ6 hl
 refine ifp (by omega) ?_
 refine ifp hb ?_
 refine ifp (by omega) ?_
 refine ifp (by omega) ?_
 refine ifp (by omega) ?_
 exact ifp (by omega) rfl
end Go.Ev
