import Derived.Test.YtliadehnohhngaaGreatEU0
import Derived.Test.YtliadehnohhngaaGreatEG3
set_option linter.all false
namespace Go.Ev.S9
open Go Go.Ev
def VK(z:Val)(L:U0): ∀i,(eJ z L i).length=L.length
 |0=>rfl
 |i+1=>by rw[eJ,C1,VK z L i]
def cN0(z:Val)(L:U0)(j:Nat): ∀i,i<=j->cg (eJ z L i) j=cg L j
 |0,_=>rfl
 |i+1,h=>by rw[<-cN0 z L j i (by omega)];show cg ((eJ z L i).set i z) j=cg (eJ z L i) j;unfold cg;rw[k5,k5,W1 (by omega)]
def PQ(v0:Nat)(n row:SX):VT:= .J (zs (.V v0) n) (.N (zp (.V v0)) (.N (zs (.V v0) (zL (.V (v0+1)))) (.W 0 [zi (.V v0),.O .lset [.V (v0+1),.V v0,row]]))) (.W 1 [.V v0,.V (v0+1)])
section
variable{I:Opq}
def c97{z:Val}{L:U0}(hL:L.length<=1000000){v0:Nat}{n row:SX}(D: ∀vs,(bZ (I.U v0 vs) n).I=(L.length:Int))(hr: ∀aa,bZ aa row=z):
 cQ (λvs=>W5 (PQ v0 n row) (I.U v0 vs)) [.D 0,.A L]=some (0,[.D L.length,.A (eJ z L L.length)]):=by
 have run: ∀k,k<=L.length->W5 (PQ v0 n row) (I.U v0 [.D k,.A (eJ z L k)])=if k<L.length then some (0,[.D (k+1:Nat),.A ((eJ z L k).set k z)])else some (1,[.D k,.A (eJ z L k)]):=λk hk=>by
  have D:=D [.D k,.A (eJ z L k)];have v0e:(I.U v0 [.D k,.A (eJ z L k)]).w v0= .D k:=by rw[Y8];simp
  have v1e:(I.U v0 [.D k,.A (eJ z L k)]).w (v0+1)= .A (eJ z L k):=by rw[Y8];simp
  generalize I.U v0 [.D k,.A (eJ z L k)]=aa at*
  by_cases c:k<L.length;rw[c9 c];refine cD ?_ (W6 ?_ (W6 ?_ ?_));rw[cW,cM,v0e,D];exact i6 (by show(k:Int)<(L.length:Int);omega);rw[cJ,cG,cM,v0e];exact i6 (by show(0:Int)<=(k:Int);omega);rw[cW,cM,cK,cM,v0e,v1e];exact i6 (by show(k:Int)<((eJ z L k).length:Int);rw[VK];omega);show some (0,[Val.D (cr .add .i64 (aa.w v0).I 1),Val.A ((aa.w (v0+1)).L.set (aa.w v0).I.toNat (bZ aa row))])=_;rw[v0e,v1e,a01,ft c (by omega),hr];rfl;rw[b9 c];refine Y9 ?_ ?_;rw[cW,cM,v0e,D];exact j7 (by show¬(k:Int)<(L.length:Int);omega);show some (1,[aa.w v0,aa.w (v0+1)])=_;rw[v0e,v1e]
 refine fD (st:=λk=>[.D k,.A (eJ z L k)]) (n:=L.length) (λk hk=> ?_) ?_;rw[run k (by omega),c9 hk];rfl;grind
theorem ef7{tk:List eL}(hn:tk.length<=100)(w9:I.w 9= .A (tk.map cH))(w17:I.w 17= .A (tk.map cH)):
 cQ (λvs=>W5 QF (I.U 5000 vs)) [.B false,.D 0,.A (tk.map cH)]=some (0,[.B false,.D (tk.map cH).length,.A (eJ kO (tk.map cH) (tk.map cH).length)]):=by
 have run: ∀k,k<=(tk.map cH).length->W5 QF (I.U 5000 [.B false,.D k,.A (eJ kO (tk.map cH) k)])=if k<(tk.map cH).length then some (0,[.B false,.D (k+1:Nat),.A ((eJ kO (tk.map cH) k).set k kO)])else some (1,[.B false,.D k,.A (eJ kO (tk.map cH) k)]):=λk hk=>by
  have a9:(I.U 5000 [.B false,.D k,.A (eJ kO (tk.map cH) k)]).w 9= .A (tk.map cH):=(cR _ _ _ (by omega)).trans w9;have a17:(I.U 5000 [.B false,.D k,.A (eJ kO (tk.map cH) k)]).w 17= .A (tk.map cH):=(cR _ _ _ (by omega)).trans w17;have v0e:(I.U 5000 [.B false,.D k,.A (eJ kO (tk.map cH) k)]).w 5000= .B false:=by rw[Y8];simp
  have v1e:(I.U 5000 [.B false,.D k,.A (eJ kO (tk.map cH) k)]).w 5001= .D k:=by rw[Y8];simp
  have v2e:(I.U 5000 [.B false,.D k,.A (eJ kO (tk.map cH) k)]).w 5002= .A (eJ kO (tk.map cH) k):=by rw[Y8];simp
  generalize I.U 5000 [.B false,.D k,.A (eJ kO (tk.map cH) k)]=aa at*
  have hl:(tk.map cH).length=tk.length:=k6 ..;by_cases c:k<(tk.map cH).length
  rw[c9 c];have ga: ∀j:Nat,bZ aa (.O .G [.V 5002,.V 5001,.C (j:Int)])=Y5 (cg (tk.map cH) k) j:=λj=>by show Y5 (cg (aa.w 5002).L (aa.w 5001).I.toNat) j=_;rw[v2e,v1e];show Y5 (cg (eJ kO (tk.map cH) k) k) j=_;rw[cN0 _ _ _ _ (j5 _)]
  have gb: ∀j:Nat,bZ aa (.O .G [.V 17,.V 5001,.C (j:Int)])=Y5 (cg (tk.map cH) k) j:=λj=>by show Y5 (cg (aa.w 17).L (aa.w 5001).I.toNat) j=_;rw[a17,v1e];rfl
  refine cD ?_ (W6 ?_ (W6 ?_ (W6 ?_ (Y9 ?_ ?_))));rw[cW,cM,cK,cM,v1e,a9];exact i6 (by show(k:Int)<((tk.map cH).length:Int);omega);rw[cJ,cG,cM,v1e];exact i6 (by show(0:Int)<=(k:Int);omega);rw[cW,cM,cK,cM,v1e,v2e];exact i6 (by show(k:Int)<((eJ kO (tk.map cH) k).length:Int);rw[VK];omega);rw[cW,cM,cK,cM,v1e,a17];exact i6 (by show(k:Int)<((tk.map cH).length:Int);omega);rw[je,dG,dG,dG,dY,dY,dY,show dB aa (.O (.scmp .eql) [zg 5002 5001 1,zg 17 5001 1])=lC .eql (bZ aa (zg 5002 5001 1)).S (bZ aa (zg 17 5001 1)).S from rfl];rw[show bZ aa (zg 5002 5001 0)=_ from ga 0,show bZ aa (zg 17 5001 0)=_ from gb 0,show bZ aa (zg 5002 5001 1)=_ from ga 1,show bZ aa (zg 17 5001 1)=_ from gb 1,show bZ aa (zg 5002 5001 2)=_ from ga 2,show bZ aa (zg 17 5001 2)=_ from gb 2,show bZ aa (zg 5002 5001 3)=_ from ga 3,show bZ aa (zg 17 5001 3)=_ from gb 3];simp[lC];show some (0,[aa.w 5000,Val.D (cr .add .i64 (aa.w 5001).I 1),Val.A ((aa.w 5002).L.set (aa.w 5001).I.toNat kO)])=_;rw[v0e,v1e,v2e,a01,ft c (by omega)];rfl;rw[b9 c];refine Y9 ?_ ?_;rw[cW,cM,cK,cM,v1e,a9];exact j7 (by show¬(k:Int)<((tk.map cH).length:Int);omega);show some (1,[aa.w 5000,aa.w 5001,aa.w 5002])=_;rw[v0e,v1e,v2e]
 refine fD (st:=λk=>[.B false,.D k,.A (eJ kO (tk.map cH) k)]) (n:=(tk.map cH).length) (λk hk=> ?_) ?_;rw[run k (by omega),c9 hk];rfl;grind
def tu_few(f960: ∀a,I.f 960 a=el8 a):W5 UT_few I=some (0,[JZ [I.w 0,I.w 1]]):=by
 have hV:JZ [I.w 0,I.w 1]= .B (if(rH (I.w 0).L).1=1 then false else decide (((I.w 0).L.length:Int)<=(I.w 1).I)):=rfl;rw[hV];generalize hl:(I.w 0).L=l;have e0:I.f 960 [.B false,.D 0,.D 0,.D (I.w 0).L.length,I.w 0,I.w 1]=cC (rH l):=by rw[f960,<-hl];rfl
 refine Y3 (r:=rH l) ?_ e0 ?_
 have key: ∀i:Nat,i<=l.length-> ∀aa,aa=I.U 2000 [.B false,.D i]->aa.w 2000= .B false/\aa.w 2001= .D i/\(aa.w 0).L=l:=λi hi aa h=>by grind[Y8,cR]
 have g: ∀aa:Opq,∀i:Nat,aa.w 2001= .D i->(aa.w 0).L=l-> ∀j:Nat,bZ aa (.O .G [.V 0,.V 2001,.C (j:Int)])=Y5 (cg l i) j:=λaa i h1 h2 j=>by show Y5 (cg (aa.w 0).L (aa.w 2001).I.toNat) j=_;simp_all
 refine wH (λi hi hb=> ?_) (λi hi hb=> ?_) ?_
 show W5 Lr (I.U 2000 [.B false,.D i])=_;obtain⟨a,b,c⟩:=key i (by omega) _ rfl;have g:=g _ i b c;generalize I.U 2000 [.B false,.D i]=aa at*
 unfold My at hb;rw[O6,O6]at hb;obtain⟨⟨b1,b2⟩,b3⟩:=hb;refine cD ?_ (cD ?_ (W6 ?_ (Y9 ?_ (Y9 ?_ (Y9 ?_ ?_)))));rw[cW,cM,cK,cM,b,c];exact i6 (by show(i:Int)<(l.length:Int);omega);rw[cW,cM,b,cG];exact i6 (by show(i:Int)<100;omega);simp_all[cJ,cG,cM,i6];show decide ((50:Int)<((bZ aa (zg 0 2001 2)).S.length:Int))=false;grind;rw[cW,cG,show bZ aa (zg 0 2001 5)=_ from g 5];exact b2;rw[tD,cG,show bZ aa (zg 0 2001 5)=_ from g 5];exact b3;show some (0,[aa.w 2000,Val.D (cr .add .i64 (aa.w 2001).I 1)])=_;rw[a,b,a01,ft (n:=100) (by omega) (by omega)];rfl
 show W5 Lr (I.U 2000 [.B false,.D i])=_;obtain⟨a,b,c⟩:=key i (by omega) _ rfl;have g:=g _ i b c;generalize I.U 2000 [.B false,.D i]=aa at*
 have hend:some (2,[bZ aa (.cb false),aa.w 2001])=some (2,[Val.B false,Val.D i]):=by rw[b];rfl
 refine cD ?_ (cD ?_ (W6 ?_ ?_));rw[cW,cM,cK,cM,b,c];exact i6 (by show(i:Int)<(l.length:Int);omega);rw[cW,cM,b,cG];exact i6 (by show(i:Int)<100;omega);simp_all[cJ,cG,cM,i6]
 have e1:dB aa (zt (.O .slen [zg 0 2001 2]) 50)=decide ((50:Int)<((Y5 (cg l i) 2).S.length:Int)):=by show decide ((50:Int)<((bZ aa (zg 0 2001 2)).S.length:Int))=_;grind
 by_cases c1:50<(Y5 (cg l i) 2).S.length;exact cD (by grind) hend
 refine Y9 (by grind) ?_;unfold My at hb;rw[j7 c1,B6]at hb;have e5:bZ aa (zg 0 2001 5)=Y5 (cg l i) 5:=g 5;cases c2:decide (ci (cg l i) 5< -1000000)with
 |true=>exact cD (by rw[cW,cG,e5];exact c2) hend
 |false=>
  rw[c2,B6]at hb;exact Y9 (by rw[cW,cG,e5];exact c2) (cD (by rw[tD,cG,e5];exact hb) hend)
 .show W5 Lr (I.U 2000 [.B false,.D (min l.length 100:Nat)])=_;obtain⟨a,b,c⟩:=key (min l.length 100) (by omega) _ rfl;generalize I.U 2000 [.B false,.D (min l.length 100:Nat)]=aa at*
  have hend:some (1,[aa.w 2000,aa.w 2001])=some (1,[Val.B false,Val.D (min l.length 100:Nat)]):=by rw[a,b]
  by_cases q:l.length<=100;refine Y9 ?_ hend;simp_all[cW,cM,cK,j7,min];refine cD ?_ (Y9 ?_ hend);rw[cW,cM,cK,cM,b,c];exact i6 (by show((min l.length 100:Nat):Int)<(l.length:Int);omega);simp_all[cW,cM,cG,j7,min]
 rcases hr:(List.range (min l.length 100)).find? (My l)with _|i
 have hfa:rH l=(0,[.B false,.D (min l.length 100:Nat)]):=by unfold rH gg;rw[hr]
 rw[hfa];show some (0,[Val.B (decide (((I.w 0).L.length:Int)<=(I.w 1).I))])=_;grind
 have hfa:rH l=(1,[.B false,.D i]):=by grind[rH,gg]
 rw[hfa];show some (0,[ck (I.f 960 [.B false,.D 0,.D 0,.D (I.w 0).L.length,I.w 0,I.w 1]).L 1 0])=_;rw[e0,hfa];rfl
end
def It{I:Opq}{x:VT}{l:abg}{r:Option (Nat×U0)}(h:W5 x I=r):iP (x::l) 0 I=r:=by grind[iP]
def jQ{I:Opq}{a b:SX}(h:(bZ I a).I=(bZ I b).I):dB I (cX a b)=false:=by grind[jU,decide_eq_true]
def Lq{I:Opq}{a b:SX}(h:(bZ I a).I≠(bZ I b).I):dB I (cX a b)=true:=by grind[jU,decide_eq_false]
def BO{I:Opq}{a:SX}(h:dB I a=true):dB I (dR a)=false:=by grind[je]
def en5(v:Val):F 201 [v,v]= .B true:=congrArg Val.B (Zw _)
section
variable{I:Opq}(hf: ∀i a,I.f i a=F i a)
include hf
def cN1{k s w g lt cp mk:Int}{m:U0}{T:Val}{tk:List eL}{cu:HQ}(E:EN F0 k s w g lt cp mk m T tk cu){x:SX}(hx:bZ I x=sm F0 (fP k s w g lt cp mk m T tk cu)):
 dB I (zn (zb (zL x) 1000) (.Q 433 [x]))=true/\dB I (zb (zL x) 1000000)=true:=by
 obtain⟨L,h1,h2,h3⟩:=E.tList;obtain⟨L',h4,h5,h6⟩:=EU E.hH mk;have e:bZ I x=F 208 [.A L,.A L']:=by rw[hx,Ty,h1,h4];rfl
 have hl:(F 208 [.A L,.A L']).L.length<=L.length+L'.length:=d65 _ _;constructor;rw[dG,cJ,cK,e,cG];refine and2 (i6 (by omega)) ?_;show(I.f 433 [bZ I x]).Z=true;rw[hf,e];exact dB3 (oS.x431 _ h3) (oS.x431 _ h6);grind[cJ,cK,cG,decide_eq_true]
def dW2{k s w g:Int}{evs:List dw}{m':U0}(H:TBL k s w g evs m'){e:SX}{x:Int}(he:bZ I e=eI F0 [.A m',.D x]):
 dB I (zn (zb (zL e) 400) (.Q 431 [e]))=true/\dB I (zb (zL e) 1000000)=true:=by
 obtain⟨L,h1,h2,h3⟩:=EU H x;constructor;refine and2 (Vt hf H he) ?_;show(I.f 431 [bZ I e]).Z=true;rw[hf,he,h1];exact oS.x431 _ h3;rw[cJ,cK,he,h1,cG];exact i6 (by show(L.length:Int)<=1000000;omega)
def ev5{k s w g lt cp mk:Int}{m:U0}{T:Val}{tk:List eL}{cu:HQ}(E:EN F0 k s w g lt cp mk m T tk cu)
 (w0:I.w 0= .D mk) (w1:I.w 1= .D lt) (w2:I.w 2= .D cp) (w3:I.w 3= .D k) (w4:I.w 4= .D s) (w5:I.w 5= .D w) (w6:I.w 6= .D g) (w7:I.w 7= .A m) (w8:I.w 8=T) (w9:I.w 9= .A (tk.map cH)) (w10:I.w 10= .A (cu.map eA))
 (w11:I.w 11= .D k) (w12:I.w 12= .D s) (w13:I.w 13= .D w) (w14:I.w 14= .D g) (w15:I.w 15= .D lt) (w16:I.w 16= .D cp) (w17:I.w 17= .A (tk.map cH)) (w18:I.w 18= .A (cu.map eA))
 (v0:I.w 1500= .B false) {i:Nat} (hi:i<2) (v1:I.w 1501= .D i):W5 Zi I=some (0,[.B false,.D (i+1:Nat)]):=by
 have hln:=E.hln;have z2:bZ I Z2=sm F0 (fP k s w g lt cp mk m T tk cu):=by show I.f 951 [I.w 0,I.w 1,I.w 2,I.w 3,I.w 4,I.w 5,I.w 6,I.w 7,I.w 8,I.w 9,I.w 10]=_;rw[hf,w0,w1,w2,w3,w4,w5,w6,w7,w8,w9,w10];rfl
 have h26:bZ I (.Q 726 [.V 7,.V 0])=eI F0 [.A m,.D mk]:=by show I.f 726 [I.w 7,I.w 0]=_;rw[hf,w7,w0];rfl
 obtain⟨L,q1,q2,q3⟩:=EU E.hH mk;obtain⟨a1,a2,a3,a4,_⟩:=TZ hf E.hH (e:= .V 17) w17 (by omega) (x:= .Q 830 [.V 17]) rfl (a:= .V 11) (b:= .V 12) (c:= .V 13) (d:= .V 14) w11 w12 w13 w14;obtain⟨p1,p2⟩:=cN1 hf E z2;obtain⟨f1,f2⟩:=dW2 hf E.hH h26;have h56:bZ I (.Q 956 [.V 11,.V 12,.V 13,.V 14,.V 15,.V 16,.V 17,.V 18,.V 17])=sm F0 (fP k s w g lt cp mk m T tk cu):=by show I.f 956 [I.w 11,I.w 12,I.w 13,I.w 14,I.w 15,I.w 16,I.w 17,I.w 18,I.w 17]=_;rw[hf,w11,w12,w13,w14,w15,w16,w17,w18];exact E.same
 have hend:W5 (.W 0 [Z3,zi (.V 1501)]) I=some (0,[.B false,.D (i+1:Nat)]):=by
  have z3:bZ I Z3= .B false:=by show ck (I.f 962 (Y6 I [.V 1500,.C 0,.V 9,.V 0,.V 1,.V 2,.C 0,zl 8,.C 0,zl 9,.C 0,zl 10,.V 3,.V 4,.V 5,.V 6,.V 8,.V 9,.V 10,.V 11,.V 12,.V 13,.V 14,.V 15,.V 16,.C 0,zl 17,.C 0,zl 18,.V 17,.V 18,.V 1501,zL (.Q 726 [.V 7,.V 0]),.Q 726 [.V 7,.V 0],sY,Z2,zl 9,.V 9])).L 1 0=_;rw[hf];exact v0
  show some (0,[bZ I Z3,Val.D (cr .add .i64 (I.w 1501).I 1)])=_;rw[z3,v1,a01,ft (n:=2) hi (by omega)]
 refine cD (by rw[cW,cM,v1,cG];exact i6 (by show(i:Int)<2;omega)) (W6 (EY hf fe_x (by rw[cM,w7]) E.hH.ok) (W6 ?_ (W6 ?_ (W6 f1 (W6 a1 (W6 a2 (W6 a3 (W6 f2 (Y9 (BO ?_) (W6 p1 (W6 ?_ (W6 p2 (Y9 (BO ?_) (Y9 (jQ ?_) ?_))))))))))))));show(I.f 953 [I.w 0,I.w 1,I.w 2,I.w 3,I.w 4,I.w 5,I.w 6,I.w 7,I.w 8,I.w 9,I.w 10]).Z=true;rw[hf,w0,w1,w2,w3,w4,w5,w6,w7,w8,w9,w10];exact bP_iff.2 ⟨k,s,w,g,lt,cp,mk,m,T,tk,cu,rfl,E⟩;rw[dG];refine and2 ?_ ?_;grind[Fb,cJ,cK,cM,cG,decide_eq_true,cH];show(I.f 948 [I.w 9]).Z=true;rw[hf,w9];rfl;show(I.f 3 [bZ I (.Q 726 [.V 7,.V 0]),bZ I (.Q 832 [Z1,.Q 831 [.V 17]])]).Z=true;rw[h26,show bZ I (.Q 832 [Z1,.Q 831 [.V 17]])=_ from a4,<-E.hk,hf];exact congrArg Val.Z (oS.x3 _);show(I.f 957 [I.w 11,I.w 12,I.w 13,I.w 14,I.w 15,I.w 16,I.w 17,I.w 18,I.w 17]).Z=true;rw[hf,w11,w12,w13,w14,w15,w16,w17,w18];exact bP_iff.2 ⟨k,s,w,g,lt,cp,mk,m,T,tk,cu,tk,m,rfl,E,E.hH,by omega⟩;show(I.f 201 [bZ I Z2,bZ I (.Q 956 [.V 11,.V 12,.V 13,.V 14,.V 15,.V 16,.V 17,.V 18,.V 17])]).Z=true;simp_all[en5];grind[cK,cM];refine Y3 (r:=(0,[.B false,.D (tk.map cH).length,.A (eJ kO (tk.map cH) (tk.map cH).length)])) ?_ ?_ (It ?_);show cQ (λvs=>W5 QF (I.U 5000 vs)) [I.w 1500,.D 0,I.w 9]=_;grind[ef7];rw[hf];show cC (0,[I.w 1500,.D (I.w 9).L.length,.A (eJ kO (I.w 9).L (I.w 9).L.length)])=_;simp_all;refine Y3 (r:=(0,[.D L.length,.A (eJ Vl L L.length)])) ?_ ?_ (It ?_);show cQ (λvs=>W5 (PQ 2000 (zL (.Q 726 [.V 7,.V 0])) _) (I.U 2000 vs)) [.D 0,bZ I (.Q 726 [.V 7,.V 0])]=_;rw[h26,q1];refine c97 (by omega) (λvs=> ?_) (λ_=>rfl);show((I.f 726 [(I.U 2000 vs).w 7,(I.U 2000 vs).w 0]).L.length:Int)=_;rw[cR _ _ _ (by omega),cR _ _ _ (by omega)];have:I.f 726 [I.w 7,I.w 0]= .A L:=h26.trans q1;simp_all;rw[hf];show cC (0,[.D (bZ I (.Q 726 [.V 7,.V 0])).L.length,.A (eJ Vl (bZ I (.Q 726 [.V 7,.V 0])).L (bZ I (.Q 726 [.V 7,.V 0])).L.length)])=_;simp_all
 obtain⟨P,hP⟩: ∃P,sm F0 (fP k s w g lt cp mk m T tk cu)= .A P:=⟨_,rfl⟩;have z2':bZ I Z2= .A P:=z2.trans hP;have hPl:P.length<=1000000:=by have h:=p2;rw[cJ,cK,z2',cG]at h;have h:(P.length:Int)<=1000000:=j6 h;omega
 refine Y3 (r:=(0,[.D P.length,.A (eJ YR P P.length)])) ?_ ?_ (It hend);show cQ (λvs=>W5 (PQ 5000 sY _) (I.U 5000 vs)) [.D 0,bZ I Z2]=_;rw[z2'];refine c97 hPl (λvs=> ?_) (λ_=>rfl);show((I.f 951 [(I.U 5000 vs).w 0,(I.U 5000 vs).w 1,(I.U 5000 vs).w 2,(I.U 5000 vs).w 3,(I.U 5000 vs).w 4,(I.U 5000 vs).w 5,(I.U 5000 vs).w 6,(I.U 5000 vs).w 7,(I.U 5000 vs).w 8,(I.U 5000 vs).w 9,(I.U 5000 vs).w 10]).L.length:Int)=_;rw[cR _ _ _ (by omega),cR _ _ _ (by omega),cR _ _ _ (by omega),cR _ _ _ (by omega),cR _ _ _ (by omega),cR _ _ _ (by omega),cR _ _ _ (by omega),cR _ _ _ (by omega),cR _ _ _ (by omega),cR _ _ _ (by omega),cR _ _ _ (by omega)];have:I.f 951 [I.w 0,I.w 1,I.w 2,I.w 3,I.w 4,I.w 5,I.w 6,I.w 7,I.w 8,I.w 9,I.w 10]= .A P:=z2';simp_all;rw[hf];show cC (0,[.D (bZ I Z2).L.length,.A (eJ YR (bZ I Z2).L (bZ I Z2).L.length)])=_;rw[z2'];rfl
def tu_is(hn:(F 958 [I.w 0,I.w 1,I.w 2,I.w 3,I.w 4,I.w 5,I.w 6,I.w 7,I.w 8,I.w 9,I.w 10,I.w 11,I.w 12,I.w 13,I.w 14,I.w 15,I.w 16,I.w 17,I.w 18,I.w 19]).Z=true):
 W5 UT_is I=some (0,[.B true]):=by
 obtain⟨k,s,w,g,lt,cp,mk,m,T,tk,cu,e,he,E,h0⟩:=bP_iff.1 hn;obtain⟨w0,w1,w2,w3,w4,w5,w6,w7,w8,w9,w10,hr⟩:=WC he;obtain⟨w11,w12,w13,w14,w15,w16,w17,w18,hr⟩:=Se hr;have w19:I.w 19= .D e:=by grind
 have hln:=E.hln;have hcl:=E.hcl;have hl:(tk.map cH).length=tk.length:=k6 ..;have hc:(cu.map eA).length=cu.length:=k6 ..;have n37: ∀x:SX,bZ I x= .A (cu.map eA)->dB I (.Q 937 [x,.V 19])=true:=λx hx=>by show(I.f 937 [bZ I x,I.w 19]).Z=true;rw[hf,hx,w19];exact and2 (i6 (by show(cu.map eA).length<=1000;omega)) (i6 h0)
 refine W6 (n37 _ w10) (W6 (n37 _ w18) (Y9 (jQ ?_) (W6 ?_ (Y9 (jQ ?_) (Y9 (jQ ?_) (Y9 (BO ?_) ?_))))));show IntKind.u64.wrap ((I.w 10).L.length:Int)=IntKind.u64.wrap ((I.w 18).L.length:Int);grind;unfold Z0;rw[cJ,cK,cM,w17,cG];exact i6 (by show((tk.map cH).length:Int)<=100;omega);show(I.w 0).I=(I.f 831 [I.w 17]).I;rw[hf,w0,w17];exact E.hk.trans (congrArg Val.I (Fj tk)).symm;show(I.f 938 [I.w 10,I.w 19]).I=(I.f 938 [I.w 18,I.w 19]).I;grind;show((I.f 939 [I.w 10,I.w 19]).Z==(I.f 939 [I.w 18,I.w 19]).Z)=true;grind;refine Y3 (r:=(0,[.B false,.D 2])) ?_ ?_ (It rfl);refine fD (st:=λi=>[.B false,.D i]) (n:=2) (λi hi=> ?_) ?_
 have u: ∀j,j<1500->(I.U 1500 [.B false,.D i]).w j=I.w j:=λj hj=>cR _ _ _ hj
 exact ev5 (I:=I.U 1500 [.B false,.D i]) (λi a=>hf i a) E ((u 0 (by omega)).trans w0) ((u 1 (by omega)).trans w1) ((u 2 (by omega)).trans w2) ((u 3 (by omega)).trans w3) ((u 4 (by omega)).trans w4) ((u 5 (by omega)).trans w5) ((u 6 (by omega)).trans w6) ((u 7 (by omega)).trans w7) ((u 8 (by omega)).trans w8) ((u 9 (by omega)).trans w9) ((u 10 (by omega)).trans w10)
  ((u 11 (by omega)).trans w11) ((u 12 (by omega)).trans w12) ((u 13 (by omega)).trans w13) ((u 14 (by omega)).trans w14) ((u 15 (by omega)).trans w15) ((u 16 (by omega)).trans w16) ((u 17 (by omega)).trans w17) ((u 18 (by omega)).trans w18) (by rw[Y8];simp) hi (by rw[Y8];simp)
 rfl;rw[hf];rfl
end
section
variable{I:Opq}
def XA{a b:Nat}{c d:Int}(h:gu a b c d≠0):gu a b c d=160/\b<a/\cr .sub .i64 c a<d:=by
 unfold gu at*
 omega
theorem cN2{n1 cp st:SX}{a:Nat}{c d:Int}(h1:(bZ I n1).I=a)(h3:(bZ I cp).I=c)(h4:(bZ I st).I=d):dB I (dF st (zm cp n1))=decide (cr .sub .i64 c a<d):=by rw[tD,h4];show decide (cr .sub .i64 (bZ I cp).I (bZ I n1).I<d)=_;grind
def df1{n1 n2 cp st:SX}{a b:Nat}{c d:Int}{A B C:VT}{r:Option (Nat×U0)}(h1:(bZ I n1).I=a)(h2:(bZ I n2).I=b)(h3:(bZ I cp).I=c)(h4:(bZ I st).I=d)(hp:gu a b c d≠0)(hA:W5 A I=r):
 W5 (.J (dF n1 n2) (.J (dF st (zm cp n1)) A B) C) I=r:=by
 obtain⟨_,q1,q2⟩:=XA hp;exact cD (by grind[tD,decide_eq_true]) (cD (by grind[cN2,decide_eq_true]) hA)
def ZW{n1 n2 cp st:SX}{a b:Nat}{c d:Int}{A B:VT}{r:Option (Nat×U0)}(h1:(bZ I n1).I=a)(h2:(bZ I n2).I=b)(h3:(bZ I cp).I=c)(h4:(bZ I st).I=d)(hp:gu a b c d=0)(hB:W5 B I=r):
 W5 (.J (dF n1 n2) (.J (dF st (zm cp n1)) A B) B) I=r:=by
 by_cases c1:b<a
 refine cD (by exact i6 (by omega)) (Y9 ?_ hB);rw[cN2 h1 h3 h4];refine j7 λc2=> ?_
 unfold gu at hp;omega;simp_all[Y9,tD,j7]
end
structure RD (I:Opq) (k s w g lt cp:Int) (i:Nat) (x:ES) (l:List ActM) (e:Int):Prop where
 hf: ∀i a,I.f i a=F i a
 w0:I.w 0= .D k
 w1:I.w 1= .D s
 w2:I.w 2= .D w
 w3:I.w 3= .D g
 w4:I.w 4= .D lt
 w5:I.w 5= .D cp
 w6:I.w 6= .A (l.map actV)
 w7:I.w 7= .D e
 v: ∀j,j<14->I.w (1500+j)=(x.st i).getD j (.B false)
 ok:ESok k s w g lt cp i x
 hi:i<20
 hl:l.length<=20
 h0:0<=e
 hv: ∀y∈l,inI y.2.1.2.2.2
def ip(a b:Nat):SX:= .O .lsub [.V a,.C 0,.V b]
def Cm:Jn:=[.V 1502,.Q 942 [.V 4],.V 5,.V 0,.V 1,.V 2,.V 3,.V 1508,ip 1509 1503,ip 1510 1504,ip 1511 1505]
def wd:Jn:=[.V 0,.V 1,.V 2,.V 3,.V 4,.V 5,ip 1512 1506,ip 1513 1507]
def gX(j:Int):SX:= .O .G [.V 6,.V 1501,.C j]
def Ch:Jn:=[gX 1,gX 2,gX 3,gX 4,gX 5]
def Gd{I:Opq}{a b:Nat}{l:U0}(ha:I.w a= .A l)(hb:I.w b= .D l.length):bZ I (ip a b)= .A l:=by show Val.A (((I.w a).L.drop (0:Int).toNat).take ((I.w b).I-0).toNat)=_;simp_all
def FJ{I:Opq}{a b:Nat}{l:U0}(ha:I.w a= .A l)(hb:I.w b= .D l.length):dB I (zn (zp (.V b)) (eE (.V b) (zL (.V a))))=true:=by simp_all[dG,cJ,cG,cM,cK,and2,i6]
section
variable{I:Opq}{k s w g lt cp:Int}{i:Nat}{x:ES}{l:List ActM}{e:Int}(c:RD I k s w g lt cp i x l e)
include c
def RD.TL:x.T= .A x.T.L:=by obtain⟨L,h,_⟩:=c.ok.E.tList;rw[h];rfl
def RD.dT:bZ I (ip 1509 1503)=x.T:=by have:=Gd (I:=I) (a:=1509) (b:=1503) (l:=x.T.L) ((c.v 9 (by omega)).trans c.TL) (c.v 3 (by omega));rw[this];exact c.TL.symm
def RD.lt4:bZ I (.Q 942 [.V 4])= .D lt:=by show I.f 942 [I.w 4]=_;rw[c.hf,c.w4];show(if oP lt then Val.D lt else .D 0)=_;have:=c.ok.E.hlt;grind[oP,decide_eq_true]
def RD.dK:bZ I (ip 1510 1504)= .A (x.tk.map cH):=Gd (c.v 10 (by omega)) ((c.v 4 (by omega)).trans (by rw[k6];rfl))
def RD.dC:bZ I (ip 1511 1505)= .A (x.cu.map eA):=Gd (c.v 11 (by omega)) ((c.v 5 (by omega)).trans (by rw[k6];rfl))
def RD.rK:bZ I (ip 1512 1506)= .A (x.tk.map cH):=Gd (c.v 12 (by omega)) ((c.v 6 (by omega)).trans (by rw[k6];rfl))
def RD.rC:bZ I (ip 1513 1507)= .A (x.cu.map eA):=Gd (c.v 13 (by omega)) ((c.v 7 (by omega)).trans (by rw[k6];rfl))
def RD.z4:dB I Z4=true:=by exact and2 (FJ ((c.v 9 (by omega)).trans c.TL) (c.v 3 (by omega))) (and2 (FJ (c.v 10 (by omega)) ((c.v 4 (by omega)).trans (by rw[k6];rfl))) (FJ (c.v 11 (by omega)) ((c.v 5 (by omega)).trans (by rw[k6];rfl))))
def RD.z9:dB I Z9=true:=FJ (c.v 12 (by omega)) ((c.v 6 (by omega)).trans (by rw[k6];rfl))
def RD.z10:dB I OJ=true:=FJ (c.v 13 (by omega)) ((c.v 7 (by omega)).trans (by rw[k6];rfl))
def RD.en(r:Jn):Y6 I (Cm++r)=fP k s w g lt cp x.mark x.m x.T x.tk x.cu++Y6 I r:=by show I.w 1502::bZ I (.Q 942 [.V 4])::I.w 5::I.w 0::I.w 1::I.w 2::I.w 3::I.w 1508::bZ I (ip 1509 1503)::bZ I (ip 1510 1504)::bZ I (ip 1511 1505)::Y6 I r=_;rw[c.lt4,c.dT,c.dK,c.dC,c.w0,c.w1,c.w2,c.w3,c.w5,show I.w 1502=_ from c.v 2 (by omega),show I.w 1508=_ from c.v 8 (by omega)];rfl
def RD.rf(r:Jn):Y6 I (wd++r)=fS k s w g lt cp x.tk x.cu++Y6 I r:=by show I.w 0::I.w 1::I.w 2::I.w 3::I.w 4::I.w 5::bZ I (ip 1512 1506)::bZ I (ip 1513 1507)::Y6 I r=_;rw[c.rK,c.rC,c.w0,c.w1,c.w2,c.w3,c.w4,c.w5];rfl
def RD.col(hi:i<l.length)(j:Nat):bZ I (gX j)=Y5 (actV l[i]) j:=by show Y5 (cg (I.w 6).L (I.w 1501).I.toNat) j=_;rw[c.w6,show I.w 1501=_ from c.v 1 (by omega)];show Y5 (cg (l.map actV) i) j=_;rw[pt (by rw[k6];exact hi),J1]
def RD.op(hi:i<l.length):Y6 I Ch=eZ l[i].2.1 l[i].2.2:=by show [bZ I (gX 1),bZ I (gX 2),bZ I (gX 3),bZ I (gX 4),bZ I (gX 5)]=_;rw[show bZ I (gX 1)=_ from c.col hi 1,show bZ I (gX 2)=_ from c.col hi 2,show bZ I (gX 3)=_ from c.col hi 3,show bZ I (gX 4)=_ from c.col hi 4,show bZ I (gX 5)=_ from c.col hi 5];rfl
def RD.z6:dB I Z6=true:=EY c.hf fe_x (show bZ I (.V 1508)=_ from c.v 8 (by omega)) c.ok.E.hH.ok
def RD.z5:dB I Z5=true:=by show(I.f 953 (Y6 I (Cm++[]))).Z=true;rw[c.en,c.hf];exact bP_iff.2 ⟨k,s,w,g,lt,cp,x.mark,x.m,x.T,x.tk,x.cu,o9 _,c.ok.E⟩
def RD.z11:bZ I rU=sm F0 (fP k s w g lt cp x.mark x.m x.T x.tk x.cu):=by show I.f 951 (Y6 I (Cm++[]))=_;rw[c.en,c.hf];rfl
def RD.z14:dB I VF=true:=by show(I.f 958 (Y6 I (Cm++(wd++[.V 7])))).Z=true;rw[c.en,c.rf,c.hf];refine bP_iff.2 ⟨k,s,w,g,lt,cp,x.mark,x.m,x.T,x.tk,x.cu,e,?_,c.ok.E,c.h0⟩;rw[A8];show _++(_++[I.w 7])=_;rw[c.w7]
def RD.inc:cr .add .i64 (I.w 1501).I 1=((i+1:Nat):Int):=by rw[show I.w 1501=_ from c.v 1 (by omega)];exact ft (n:=20) c.hi (by omega)
def RD.next:W5 (.W 0 [.V 1500,zi (.V 1501),.V 1502,.V 1503,.V 1504,.V 1505,.V 1506,.V 1507,.V 1508,.V 1509,.V 1510,.V 1511,.V 1512,.V 1513]) I=some (0,x.st (i+1)):=by show some (0,[I.w 1500,Val.D (cr .add .i64 (I.w 1501).I 1),I.w 1502,I.w 1503,I.w 1504,I.w 1505,I.w 1506,I.w 1507,I.w 1508,I.w 1509,I.w 1510,I.w 1511,I.w 1512,I.w 1513])=_;rw[c.inc,show I.w 1500=_ from c.v 0 (by omega),show I.w 1502=_ from c.v 2 (by omega),show I.w 1503=_ from c.v 3 (by omega),show I.w 1504=_ from c.v 4 (by omega),show I.w 1505=_ from c.v 5 (by omega),show I.w 1506=_ from c.v 6 (by omega),show I.w 1507=_ from c.v 7 (by omega),show I.w 1508=_ from c.v 8 (by omega),show I.w 1509=_ from c.v 9 (by omega),show I.w 1510=_ from c.v 10 (by omega),show I.w 1511=_ from c.v 11 (by omega),show I.w 1512=_ from c.v 12 (by omega),show I.w 1513=_ from c.v 13 (by omega)];rfl
end
def PE{I:Opq}{a b:SX}(h:(bZ I a).I=(bZ I b).I):dB I (cF a b)=true:=by grind[dY,decide_eq_true]
theorem Dl{I:Opq}{a:SX}{l:U0}(h:bZ I a= .A l)(hl:l.length<=1000000):dB I (zb (zL a) 1000000)=true:=by rw[cJ,cK,h,cG];exact i6 (by show(l.length:Int)<=1000000;omega)
section
variable{I:Opq}{k s w g lt cp:Int}{i:Nat}{x:ES}{l:List ActM}{e:Int}(c:RD I k s w g lt cp i x l e)
include c
def RD.lnK:(x.tk.map cH).length<=20:=by rw[k6];exact c.ok.E.hln
def RD.lnC:(x.cu.map eA).length<=20:=by rw[k6];exact c.ok.E.hcl
def RD.z7:bZ I Z7= .A ((x.cu++[x.tk.length]).map eA):=by show Val.A ((I.w 1511).L++[.A [I.w 1504]])=_;rw[show I.w 1511=_ from c.v 11 (by omega),show I.w 1504=_ from c.v 4 (by omega),r9];rfl
def RD.z8:bZ I Z8= .A ((x.cu++[x.tk.length]).map eA):=by show Val.A ((I.w 1513).L++[.A [I.w 1506]])=_;rw[show I.w 1513=_ from c.v 13 (by omega),show I.w 1506=_ from c.v 6 (by omega),r9];rfl
def RD.is'{y:ES}{a b p q t u v:SX}(E:EN F0 k s w g lt cp y.mark y.m y.T y.tk y.cu)(d0:bZ I a= .D y.mark)(d1:bZ I b= .A y.m)(d2:bZ I p=y.T)(d3:bZ I q= .A (y.tk.map cH))(d4:bZ I t= .A (y.cu.map eA))(d5:bZ I u= .A (y.tk.map cH))(d6:bZ I v= .A (y.cu.map eA)):
 dB I (.Q 958 [a,.Q 942 [.V 4],.V 5,.V 0,.V 1,.V 2,.V 3,b,p,q,t,.V 0,.V 1,.V 2,.V 3,.V 4,.V 5,u,v,.V 7])=true:=by
 show(I.f 958 [bZ I a,bZ I (.Q 942 [.V 4]),I.w 5,I.w 0,I.w 1,I.w 2,I.w 3,bZ I b,bZ I p,bZ I q,bZ I t,I.w 0,I.w 1,I.w 2,I.w 3,I.w 4,I.w 5,bZ I u,bZ I v,I.w 7]).Z=true;rw[c.lt4,d0,d1,d2,d3,d4,d5,d6,c.w0,c.w1,c.w2,c.w3,c.w4,c.w5,c.w7,c.hf];exact bP_iff.2 ⟨k,s,w,g,lt,cp,y.mark,y.m,y.T,y.tk,y.cu,e,rfl,E,c.h0⟩
def ef8(hi:i<l.length)(hb:l[i].1=true):W5 UD I=some (0,(x.step F0 k s w g lt cp l[i]).st (i+1)):=by
 have hi20:=c.hi;have hn:=c.ok.n;have hc:=c.ok.c;have E:=c.ok.E;have hC:=c.lnC;have hstep:x.step F0 k s w g lt cp l[i]={x with T:=eI F0 [.A x.m,.D x.mark],cu:=x.cu++[x.tk.length]}:=by simp_all[ES.step,c9]
 have h26:bZ I (.Q 726 [.V 1508,.V 1502])=eI F0 [.A x.m,.D x.mark]:=by show I.f 726 [I.w 1508,I.w 1502]=_;rw[c.hf,show I.w 1508=_ from c.v 8 (by omega),show I.w 1502=_ from c.v 2 (by omega)];rfl
 have h56:bZ I (.Q 956 (wd++[ip 1512 1506]))=sm F0 (fP k s w g lt cp x.mark x.m x.T x.tk x.cu):=by show I.f 956 (Y6 I (wd++[ip 1512 1506]))=_;rw[c.rf,c.hf];show nF F0 (_++[bZ I (ip 1512 1506)])=_;rw[c.rK];exact E.same
 obtain⟨p1,p2⟩:=cN1 c.hf E c.z11;have hp:=E.pub (by omega);have hc7:((x.cu++[x.tk.length]).map eA).length<=1000000:=by grind
 rw[hstep];refine cD ?_ (W6 ?_ (cD ?_ (W6 ?_ (W6 c.z6 (W6 ?_ (W6 ?_ (W6 ?_ (W6 ?_ (W6 ?_ (Y9 (jQ ?_) (W6 p1 (W6 p2 (Y9 (BO ?_) (W6 ?_ ?_))))))))))))));rw[cW,cM,cK,cM,c.w6,show I.w 1501=_ from c.v 1 (by omega)];exact i6 (by show(i:Int)<((l.map actV).length:Int);grind);rw[cJ,cG,cM,show I.w 1501=_ from c.v 1 (by omega)];rfl;show(bZ I (gX 0)).Z=true;rw[show bZ I (gX 0)=_ from c.col hi 0];exact hb;exact and2 c.z4 c.z5;refine and2 (PE ?_) (Dl c.z7 hc7);rw[cK,cM,cM,show I.w 1505=_ from c.v 5 (by omega),show I.w 1511=_ from c.v 11 (by omega)];show(x.cu.length:Int)=((x.cu.map eA).length:Int);grind;refine and2 (PE ?_) (Dl (show bZ I (.V 1513)=_ from c.v 13 (by omega)) (by omega));rw[cK,cM,cM,show I.w 1507=_ from c.v 7 (by omega),show I.w 1513=_ from c.v 13 (by omega)];show(x.cu.length:Int)=((x.cu.map eA).length:Int);grind;rw[cJ,cG,cM,show I.w 1506=_ from c.v 6 (by omega)];rfl;exact Dl c.z8 hc7;refine and2 (and2 c.z9 (and2 c.z10 c.z9)) ?_;show(I.f 957 (Y6 I (wd++[ip 1512 1506]))).Z=true;rw[c.rf,c.hf];refine bP_iff.2 ⟨k,s,w,g,lt,cp,x.mark,x.m,x.T,x.tk,x.cu,x.tk,x.m,?_,E,E.hH,by omega⟩;show _++[bZ I (ip 1512 1506)]=_;rw[c.rK];show IntKind.u64.wrap ((bZ I Z7).L.length:Int)=IntKind.u64.wrap ((bZ I Z8).L.length:Int);rw[c.z7,c.z8];show(I.f 201 [bZ I rU,bZ I (.Q 956 (wd++[ip 1512 1506]))]).Z=true;rw[c.z11,h56,c.hf,en5];rfl;exact c.is' (y:={x with T:=eI F0 [.A x.m,.D x.mark],cu:=x.cu++[x.tk.length]}) hp (c.v 2 (by omega)) (c.v 8 (by omega)) h26 c.dK c.z7 c.rK c.z8;show some (0,[I.w 1500,Val.D (cr .add .i64 (I.w 1501).I 1),I.w 1502,Val.D (bZ I (.Q 726 [.V 1508,.V 1502])).L.length,I.w 1504,Val.D (bZ I Z7).L.length,I.w 1506,Val.D (bZ I Z8).L.length,I.w 1508,bZ I (.Q 726 [.V 1508,.V 1502]),I.w 1510,bZ I Z7,I.w 1512,bZ I Z8])=_;rw[c.inc,h26,c.z7,c.z8,show I.w 1500=_ from c.v 0 (by omega),show I.w 1502=_ from c.v 2 (by omega),show I.w 1504=_ from c.v 4 (by omega),show I.w 1506=_ from c.v 6 (by omega),show I.w 1508=_ from c.v 8 (by omega),show I.w 1510=_ from c.v 10 (by omega),show I.w 1512=_ from c.v 12 (by omega)];have hlen:((x.cu++[x.tk.length]).map eA).length=(x.cu++[x.tk.length]).length:=k6 ..;show some (0,[Val.B false,Val.D (i+1:Nat),Val.D x.mark,_,Val.D x.tk.length,Val.D (((x.cu++[x.tk.length]).map eA).length:Nat),Val.D x.tk.length,Val.D (((x.cu++[x.tk.length]).map eA).length:Nat),_,_,_,_,_,_])=_;rw[hlen];rfl
end
section
variable{I:Opq}{k s w g lt cp:Int}{i:Nat}{x:ES}{l:List ActM}{e:Int}(c:RD I k s w g lt cp i x l e)
include c
def RD.r0:I.w 1500= .B false:=c.v 0 (by omega)
def RD.r2:I.w 1502= .D x.mark:=c.v 2 (by omega)
def RD.r8:I.w 1508= .A x.m:=c.v 8 (by omega)
def RD.z26(hi:i<l.length):bZ I dM= .A [cH l[i].2.1]:=by show Val.A [.A [bZ I (gX 1),bZ I (gX 2),bZ I (gX 3),bZ I (gX 4)]]=_;rw[show bZ I (gX 1)=_ from c.col hi 1,show bZ I (gX 2)=_ from c.col hi 2,show bZ I (gX 3)=_ from c.col hi 3,show bZ I (gX 4)=_ from c.col hi 4];rfl
def RD.catK(hi:i<l.length):bZ I (zc (.V 1510) dM)= .A ((x.tk++[l[i].2.1]).map cH):=by show Val.A ((I.w 1510).L++(bZ I dM).L)=_;rw[c.z26 hi,show I.w 1510=_ from c.v 10 (by omega),r9];rfl
def RD.catR(hi:i<l.length):bZ I (zc (.V 1512) dM)= .A ((x.tk++[l[i].2.1]).map cH):=by show Val.A ((I.w 1512).L++(bZ I dM).L)=_;rw[c.z26 hi,show I.w 1512=_ from c.v 12 (by omega),r9];rfl
def RD.catN(hi:i<l.length):((x.tk++[l[i].2.1]).map cH).length<=1000000:=by have:=c.ok.n;have:=c.hi;grind
def RD.z27(hi:i<l.length):dB I vZ=true:=by refine and2 (PE ?_) (Dl (c.catK hi) (c.catN hi));rw[cK,cM,cM,show I.w 1504=_ from c.v 4 (by omega),show I.w 1510=_ from c.v 10 (by omega)];show(x.tk.length:Int)=((x.tk.map cH).length:Int);grind
def RD.nextO{o:eL}(catK:bZ I (zc (.V 1510) dM)= .A ((x.tk++[o]).map cH))(catR:bZ I (zc (.V 1512) dM)= .A ((x.tk++[o]).map cH)){a b:SX}{mk':Int}{m':U0}(d0:bZ I a= .D mk')(d1:bZ I b= .A m'):
 W5 (.W 0 [.V 1500,zi (.V 1501),a,.V 1503,zL (zc (.V 1510) dM),.V 1505,zL (zc (.V 1512) dM),.V 1507,b,.V 1509,zc (.V 1510) dM,.V 1511,zc (.V 1512) dM,.V 1513]) I=some (0,ES.st {x with mark:=mk',m:=m',tk:=x.tk++[o]} (i+1)):=by
 show some (0,[I.w 1500,Val.D (cr .add .i64 (I.w 1501).I 1),bZ I a,I.w 1503,Val.D (bZ I (zc (.V 1510) dM)).L.length,I.w 1505,Val.D (bZ I (zc (.V 1512) dM)).L.length,I.w 1507,bZ I b,I.w 1509,bZ I (zc (.V 1510) dM),I.w 1511,bZ I (zc (.V 1512) dM),I.w 1513])=_;rw[c.inc,catK,catR,d0,d1,c.r0,show I.w 1503=_ from c.v 3 (by omega),show I.w 1505=_ from c.v 5 (by omega),show I.w 1507=_ from c.v 7 (by omega),show I.w 1509=_ from c.v 9 (by omega),show I.w 1511=_ from c.v 11 (by omega),show I.w 1513=_ from c.v 13 (by omega)];have hlen:((x.tk++[o]).map cH).length=(x.tk++[o]).length:=k6 ..;show some (0,[Val.B false,Val.D (i+1:Nat),Val.D mk',_,Val.D (((x.tk++[o]).map cH).length:Nat),_,Val.D (((x.tk++[o]).map cH).length:Nat),_,_,_,_,_,_,_])=_;rw[hlen];rfl
def ev6(hi:i<l.length)(hb:l[i].1=false):W5 UD I=some (0,(x.step F0 k s w g lt cp l[i]).st (i+1)):=by
 have hi20:=c.hi;have hn:=c.ok.n;have E:=c.ok.E;have hK:=c.lnK;have hf:=c.hf;have hv:=c.hv _ (C6 hi);have hop:=c.op hi;have catK:=c.catK hi;have catR:=c.catR hi;have z27:=c.z27 hi;have g1:bZ I (gX 1)= .D l[i].2.1.1:=c.col hi 1;have g2:bZ I (gX 2)= .vs l[i].2.1.2.1:=c.col hi 2;have g3:bZ I (gX 3)= .D l[i].2.1.2.2.1:=c.col hi 3;have g4:bZ I (gX 4)= .D l[i].2.1.2.2.2:=c.col hi 4;have g5:bZ I (gX 5)= .D l[i].2.2:=c.col hi 5;have g0:dB I (zg 6 1501 0)=false:=by show(bZ I (gX 0)).Z=false;rw[show bZ I (gX 0)=_ from c.col hi 0];exact hb
 have hst:x.step F0 k s w g lt cp l[i]=if lX F0 (fP k s w g lt cp x.mark x.m x.T x.tk x.cu++eZ l[i].2.1 l[i].2.2)≠0 then x
  else if l[i].2.1.1=1 then {x with m:=(fx F0 (cL k s w g x.m l[i].2.1.1 l[i].2.1.2.1 l[i].2.1.2.2.1 l[i].2.1.2.2.2)).L,tk:=x.tk++[l[i].2.1]}
  else {x with mark:=l[i].2.1.2.2.1,tk:=x.tk++[l[i].2.1]}:=by
  unfold ES.step;rw[b9 (by grind)];rfl
 generalize l[i]=y at*
 obtain⟨yb,o,st⟩:=y;have hP:lX F0 (fP k s w g lt cp x.mark x.m x.T x.tk x.cu++eZ o st)=if Y4 o.1 o.2.1 o.2.2.1 o.2.2.2≠0 then Y4 o.1 o.2.1 o.2.2.1 o.2.2.2
  else if o.1=1 then(if(iQ [.D x.mark,.D lt,.D o.2.2.1]).Z then 180 else if dD (cL k s w g x.m o.1 o.2.1 o.2.2.1 o.2.2.2)≠0 then dD (cL k s w g x.m o.1 o.2.1 o.2.2.1 o.2.2.2)
   else gu (F0 208 [x.T,eI F0 [fx F0 (cL k s w g x.m o.1 o.2.1 o.2.2.1 o.2.2.2),.D x.mark]]).L.length (F0 208 [x.T,eI F0 [.A x.m,.D x.mark]]).L.length cp st)
  else if fR x.mark lt o.2.2.1≠0 then fR x.mark lt o.2.2.1
  else gu (F0 208 [x.T,eI F0 [.A x.m,om [.D x.mark,.D lt,.D o.2.2.1]]]).L.length (F0 208 [x.T,eI F0 [.A x.m,.D x.mark]]).L.length cp st:=rfl
 have hacc:=E.acc (o:=o) (st:=st);have hev:=E.ev (o:=o) (st:=st) hv (by omega);have hmk:=E.mrk (o:=o) (st:=st) hv (by omega);have z12:bZ I oZ= .D (lX F0 (fP k s w g lt cp x.mark x.m x.T x.tk x.cu++eZ o st)):=by show I.f 954 (Y6 I (wd++Ch))=_;rw[c.rf,hf,hop,E.try_same hv (by omega)];rfl
 have z13:bZ I UP= .D (lX F0 (fP k s w g lt cp x.mark x.m x.T x.tk x.cu++eZ o st)):=by show I.f 954 (Y6 I (Cm++Ch))=_;rw[c.en,hf,hop];rfl
 have n5:dB I (zn Z4 (.Q 955 (Cm++Ch)))=true:=by refine and2 c.z4 ?_;show(I.f 955 (Y6 I (Cm++Ch))).Z=true;rw[c.en,hf,hop];exact bP_iff.2 ⟨k,s,w,g,lt,cp,x.mark,x.m,x.T,x.tk,x.cu,o,st,.inl rfl,E,hv,by omega⟩
 have n6:dB I (zn (zn Z9 OJ) (.Q 955 (wd++Ch)))=true:=by refine and2 (and2 c.z9 c.z10) ?_;show(I.f 955 (Y6 I (wd++Ch))).Z=true;rw[c.rf,hf,hop];exact bP_iff.2 ⟨k,s,w,g,lt,cp,x.mark,x.m,x.T,x.tk,x.cu,o,st,.inr rfl,E,hv,by omega⟩
 have z15:bZ I Nm= .D (Y4 o.1 o.2.1 o.2.2.1 o.2.2.2):=by show I.f 701 [bZ I (gX 1),bZ I (gX 2),bZ I (gX 3),bZ I (gX 4)]=_;rw[hf,g1,g2,g3,g4];rfl
 have z16:dB I VP=decide (o.1=1):=by show decide ((bZ I (gX 1)).I=1)=_;rw[g1];rfl
 have z17:dB I XZ=(iQ [.D x.mark,.D lt,.D o.2.2.1]).Z:=by show(I.f 945 [I.w 1502,bZ I (.Q 942 [.V 4]),bZ I (gX 3)]).Z=_;rw[hf,c.r2,c.lt4,g3];rfl
 have z18:dB I Xy=true:=by refine and2 c.z6 ?_;show(I.f 739 [I.w 0,I.w 1508,bZ I (gX 2)]).Z=true;rw[hf,c.w0,c.r8,g2];show((!decide (k=3)||decide (x.m.length<=24))&&true)=true;by_cases h3:k=3;rw[i6 (E.hH.ok.2.2.2 h3)];simp;grind
 have z19:bZ I Nz= .D (dD (cL k s w g x.m o.1 o.2.1 o.2.2.1 o.2.2.2)):=by show I.f 732 [I.w 0,I.w 1,I.w 2,I.w 3,I.w 1508,bZ I (gX 1),bZ I (gX 2),bZ I (gX 3),bZ I (gX 4)]=_;rw[hf,c.w0,c.w1,c.w2,c.w3,c.r8,g1,g2,g3,g4];rfl
 have z20:bZ I na=fx F0 (cL k s w g x.m o.1 o.2.1 o.2.2.1 o.2.2.2):=by show I.f 733 [I.w 0,I.w 1,I.w 2,I.w 3,I.w 1508,bZ I (gX 1),bZ I (gX 2),bZ I (gX 3),bZ I (gX 4)]=_;rw[hf,c.w0,c.w1,c.w2,c.w3,c.r8,g1,g2,g3,g4];rfl
 have z29:bZ I QH= .D (fR x.mark lt o.2.2.1):=by show I.f 947 [I.w 1502,bZ I (.Q 942 [.V 4]),bZ I (gX 3)]=_;rw[hf,c.r2,c.lt4,g3];rfl
 have z30:bZ I pW=om [.D x.mark,.D lt,.D o.2.2.1]:=by show I.f 946 [I.w 1502,bZ I (.Q 942 [.V 4]),bZ I (gX 3)]=_;rw[hf,c.r2,c.lt4,g3];rfl
 have l11:(bZ I (zL rU)).I=((F0 208 [x.T,eI F0 [.A x.m,.D x.mark]]).L.length:Int):=by rw[cK,c.z11];rfl
 have l24:(bZ I Ov).I=((F0 208 [x.T,eI F0 [fx F0 (cL k s w g x.m o.1 o.2.1 o.2.2.1 o.2.2.2),.D x.mark]]).L.length:Int):=by show((I.f 208 [bZ I (ip 1509 1503),I.f 726 [bZ I na,I.w 1502]]).L.length:Int)=_;rw[hf,hf,z20,c.dT,c.r2];rfl
 have l32:(bZ I QT).I=((F0 208 [x.T,eI F0 [.A x.m,om [.D x.mark,.D lt,.D o.2.2.1]]]).L.length:Int):=by show((I.f 208 [bZ I (ip 1509 1503),I.f 726 [I.w 1508,bZ I pW]]).L.length:Int)=_;rw[hf,hf,z30,c.dT,c.r8];rfl
 have z14:=c.z14;have hnext:=c.next
 have e5:(bZ I (.V 5)).I=cp:=by rw[cM,c.w5];rfl
 have e55:(bZ I (gX 5)).I=st:=by rw[g5];rfl
 have lss:dB I (zs (.V 1501) (zl 6))=true:=by rw[cW,cM,cK,cM,c.w6,show I.w 1501=_ from c.v 1 (by omega)];exact i6 (by show(i:Int)<((l.map actV).length:Int);grind)
 have leq:dB I (zp (.V 1501))=true:=by rw[cJ,cG,cM,show I.w 1501=_ from c.v 1 (by omega)];rfl
 have n21:o.1=1->dD (cL k s w g x.m o.1 o.2.1 o.2.2.1 o.2.2.2)=0->dB I SC=true/\dB I TJ=true:=λh1 h2=>by obtain⟨m',a1,a2⟩:=E.put hv h1 h2 (by omega);have z20':=z20.trans a1;exact⟨EY hf fe_x z20' a2.ok,Ia hf E a2 c.dT z20' c.r2⟩
 have n31:fR x.mark lt o.2.2.1=0->dB I Vx=true:=λh=>by
  have e46:om [.D x.mark,.D lt,.D o.2.2.1]= .D o.2.2.1:=by show(if fR x.mark lt o.2.2.1=0 then Val.D o.2.2.1 else Val.D x.mark)=_;grind
  exact Ia hf E E.hH c.dT c.r8 (z30.trans e46)
 rw[hst];generalize lX F0 (fP k s w g lt cp x.mark x.m x.T x.tk x.cu++eZ o st)=p at*
 refine cD lss (W6 leq (Y9 g0 (W6 n5 (W6 n6 ?_))));by_cases hp:p=0
 obtain⟨q0,qe,qm⟩:=hacc hp;have np: ¬(p≠0):=λh=>h hp
 rw[b9 np];refine Y9 (jQ (by rw[z12,hp];rfl)) (W6 ?_ (W6 ?_ (Y9 (jQ (by rw[z13,hp];rfl)) (W6 z14 (Y9 (jQ (by rw[z15,q0];rfl)) ?_)))));refine and2 (PE ?_) (Dl (show bZ I (.V 1512)=_ from c.v 12 (by omega)) (by omega));rw[cK,cM,cM,show I.w 1506=_ from c.v 6 (by omega),show I.w 1512=_ from c.v 12 (by omega)];show(x.tk.length:Int)=((x.tk.map cH).length:Int);grind;grind[Dl];by_cases q1:o.1=1
 obtain⟨ql,qt⟩:=qe q1;obtain⟨n1,n2⟩:=n21 q1 qt;obtain⟨m',a1,a2⟩:=hev q1 hp;rw[c9 q1]at hP⊢;have m0: ¬(Y4 o.1 o.2.1 o.2.2.1 o.2.2.2≠0):=λh=>h q0
 have m1: ¬((iQ [.D x.mark,.D lt,.D o.2.2.1]).Z=true):=by grind
 have m2: ¬(dD (cL k s w g x.m o.1 o.2.1 o.2.2.1 o.2.2.2)≠0):=λh=>h qt
 rw[b9 m0,b9 m1,b9 m2]at hP;refine cD (z16.trans (i6 q1)) (Y9 (z17.trans ql) (W6 z18 (Y9 (jQ (by rw[z19,qt];rfl)) (W6 n1 (W6 n2 (W6 c.z5 (ZW l24 l11 e5 e55 (hP.symm.trans hp) ?_)))))));rw[a1]at z20⊢;exact W6 z27 (W6 (c.is' (y:={x with m:=m',tk:=x.tk++[o]}) a2 c.r2 z20 c.dT catK c.dC catR c.rC) (c.nextO catK catR c.r2 z20))
 obtain⟨a2,a3⟩:=hmk q1 hp;rw[b9 q1]at hP⊢;have m0: ¬(Y4 o.1 o.2.1 o.2.2.1 o.2.2.2≠0):=λh=>h q0
 have m1: ¬(fR x.mark lt o.2.2.1≠0):=λh=>h (qm q1)
 rw[b9 m0,b9 m1]at hP;refine Y9 (z16.trans (j7 q1)) (Y9 (jQ (by rw[z29,qm q1];rfl)) (W6 c.z6 (W6 (n31 (qm q1)) (W6 c.z5 (ZW l32 l11 e5 e55 (hP.symm.trans hp) ?_)))));have z30':=z30.trans a3;exact W6 z27 (W6 (c.is' (y:={x with mark:=o.2.2.1,tk:=x.tk++[o]}) a2 z30' c.r8 c.dT catK c.dC catR c.rC) (c.nextO catK catR z30' c.r8));have hp':p≠0:=hp;rw[c9 hp'];refine cD (Lq (by rw[z12];exact hp)) (Y9 (jQ (by grind)) (W6 z14 ?_));by_cases q0:Y4 o.1 o.2.1 o.2.2.1 o.2.2.2=0
 have m0: ¬(Y4 o.1 o.2.1 o.2.2.1 o.2.2.2≠0):=λh=>h q0
 rw[b9 m0]at hP;refine Y9 (jQ (by rw[z15,q0];rfl)) ?_;by_cases q1:o.1=1;rw[c9 q1]at hP;refine cD (z16.trans (i6 q1)) ?_;by_cases ql:(iQ [.D x.mark,.D lt,.D o.2.2.1]).Z=true;rw[c9 ql]at hP;exact cD (z17.trans ql) (Y9 (jQ (by rw[z12,hP];rfl)) hnext);rw[b9 ql]at hP;refine Y9 (z17.trans (by grind)) (W6 z18 ?_);by_cases qt:dD (cL k s w g x.m o.1 o.2.1 o.2.2.1 o.2.2.2)=0
 have m2: ¬(dD (cL k s w g x.m o.1 o.2.1 o.2.2.1 o.2.2.2)≠0):=λh=>h qt
 rw[b9 m2]at hP;obtain⟨n1,n2⟩:=n21 q1 qt;have hc0:=hP▸hp';refine Y9 (jQ (by rw[z19,qt];rfl)) (W6 n1 (W6 n2 (W6 c.z5 (df1 l24 l11 e5 e55 hc0 (Y9 (jQ ?_) hnext)))));rw[z12,hP,(XA hc0).1];rfl;exact cD (Lq (by rw[z19];exact qt)) (Y9 (jQ (by grind)) hnext);rw[b9 q1]at hP;refine Y9 (z16.trans (j7 q1)) ?_;by_cases qt:fR x.mark lt o.2.2.1=0
 have m2: ¬(fR x.mark lt o.2.2.1≠0):=λh=>h qt
 rw[b9 m2]at hP;have hc0:=hP▸hp';refine Y9 (jQ (by rw[z29,qt];rfl)) (W6 c.z6 (W6 (n31 qt) (W6 c.z5 (df1 l32 l11 e5 e55 hc0 (Y9 (jQ ?_) hnext)))));rw[z12,hP,(XA hc0).1];rfl;exact cD (Lq (by rw[z29];exact qt)) (Y9 (jQ (by grind)) hnext);exact cD (Lq (by rw[z15];exact q0)) (Y9 (jQ (by grind)) hnext)
end
def dW6(l:List ActM):(l.map actV).map Ix=l:=by
 have:Ix∘actV=id:=funext λy=>rfl
 simp_all
section
variable{I:Opq}
def Ko{a b:SX}{l:U0}(ha:bZ I a= .A l)(hb:bZ I b= .D l.length):bZ I (.O .lsub [a,.C 0,b])= .A l:=by show Val.A (((bZ I a).L.drop (0:Int).toNat).take ((bZ I b).I-0).toNat)=_;simp_all
def IM{a b:SX}{l:U0}(ha:bZ I a= .A l)(hb:bZ I b= .D l.length):dB I (zn (zp b) (eE b (zL a)))=true:=by simp_all[dG,cJ,cG,cK,and2,i6]
variable(hf: ∀i a,I.f i a=F i a)
include hf
def tu_takes(hn:(F 959 [I.w 0,I.w 1,I.w 2,I.w 3,I.w 4,I.w 5,I.w 6,I.w 7]).Z=true):W5 UT_takes I=some (0,[.B true]):=by
 obtain⟨k,s,w,g,lt,cp,l,e,he,h0,hv⟩:=bP_iff.1 hn;have hw:I.w 0= .D k/\I.w 1= .D s/\I.w 2= .D w/\I.w 3= .D g/\I.w 4= .D lt/\I.w 5= .D cp/\I.w 6= .A (l.map actV)/\I.w 7= .D e:=by simpa using he
 obtain⟨w0,w1,w2,w3,w4,w5,w6,w7⟩:=hw;have hll:(l.map actV).length=l.length:=k6 ..;have h50:dB I (.Q 950 [.V 6,.C 20])=(JZ [.A (l.map actV),.D 20]).Z:=by show(I.f 950 [I.w 6,.D 20]).Z=_;rw[hf,w6];rfl
 cases hfew:(JZ [.A (l.map actV),.D 20]).Z with
 |false=>exact cD (by rw[je,h50,hfew];rfl) rfl
 |true=>
  refine Y9 (BO (h50.trans hfew)) ?_;have hl:l.length<=20:=by have h:(if(rH (l.map actV)).1=1 then false else decide (((l.map actV).length:Int)<=20))=true:=hfew;by_cases q:(rH (l.map actV)).1=1;rw[c9 q]at h;cases h;rw[b9 q]at h;have h:=j6 h;omega
  have h44:dB I (.Q 944 [.V 0,.V 1,.V 2,.V 3,.V 4,.V 5])=yZ k s w g lt cp:=by show(I.f 944 [I.w 0,I.w 1,I.w 2,I.w 3,I.w 4,I.w 5]).Z=_;rw[hf,w0,w1,w2,w3,w4,w5];rfl
  cases hcf:yZ k s w g lt cp with
  |false=>
   have d0:dB I NY=true:=by unfold NY;rw[je,h44,hcf];rfl
   refine cD d0 ?_;show some (0,[Val.B (!(I.f 944 [I.w 0,I.w 1,I.w 2,I.w 3,I.w 4,I.w 5]).Z)])=_;have d1:(I.f 944 [I.w 0,I.w 1,I.w 2,I.w 3,I.w 4,I.w 5]).Z=false:=h44.trans hcf;rw[d1];rfl
  |true=>
   refine Y9 (BO (h44.trans hcf)) ?_;obtain⟨hcf,c4⟩:=W7 hcf;obtain⟨hcf,c3⟩:=W7 hcf;obtain⟨hcf,c2⟩:=W7 hcf;obtain⟨hR,c1⟩:=W7 hcf;have hlt:0<=lt/\lt<=1048576:=⟨j6 c1,j6 c2⟩;have hcp:1<=cp/\cp<=4096:=⟨j6 c3,j6 c4⟩;have h41:bZ I (.Q 941 [.V 4])= .D (-2199023255552):=by show I.f 941 [I.w 4]=_;rw[hf,w4];show Val.D (if oP lt then-2199023255552 else 0)=_;unfold oP;rw[c1,c2];rfl
   have h42:bZ I (.Q 942 [.V 4])= .D lt:=by show I.f 942 [I.w 4]=_;rw[hf,w4];show(if oP lt then Val.D lt else .D 0)=_;unfold oP;rw[c1,c2];rfl
   have hrun: ∀i,i<=l.length->ESok k s w g lt cp i (ES.run F0 k s w g lt cp (l.take i)):=λi hi=>by have:=dW1 hR hlt hcp (l.take i) (by rw[l5];omega) (λy hy=>hv y (J3 hy));rwa[l5,C0 hi]at this
   have rd: ∀i,i<l.length->RD (I.U 1500 ((ES.run F0 k s w g lt cp (l.take i)).st i)) k s w g lt cp i (ES.run F0 k s w g lt cp (l.take i)) l e:=λi hi=>
    ⟨hf,(cR _ _ _ (by omega)).trans w0,(cR _ _ _ (by omega)).trans w1,(cR _ _ _ (by omega)).trans w2,(cR _ _ _ (by omega)).trans w3,(cR _ _ _ (by omega)).trans w4,(cR _ _ _ (by omega)).trans w5,(cR _ _ _ (by omega)).trans w6,(cR _ _ _ (by omega)).trans w7,
     λj hj=>by rw[Y8,c9 (by omega),show 1500+j-1500=j by omega],hrun i (by omega),by omega,hl,h0,hv⟩
   have h65:bZ I jO=cC (0,(ES.run F0 k s w g lt cp l).st l.length):=by show I.f 965 (Y6 I _)=_;rw[hf];show cC (0,(ES.run F0 (I.w 0).I (I.w 1).I (I.w 2).I (I.w 3).I (I.w 4).I (I.w 5).I ((I.w 6).L.map Ix)).st (I.w 6).L.length)=_;rw[w0,w1,w2,w3,w4,w5,w6];show cC (0,(ES.run F0 k s w g lt cp ((l.map actV).map Ix)).st (l.map actV).length)=_;rw[dW6,hll]
   refine Y9 (BO ?_) (Y3 (r:=(0,(ES.run F0 k s w g lt cp l).st l.length)) ?_ h65 (It (W6 ?_ rfl)));show(I.f 700 [I.w 0,I.w 1,I.w 2,I.w 3]).Z=true;rw[hf,w0,w1,w2,w3];exact hR
   have hs0:Y6 I [.cb false,.C 0,.Q 941 [.V 4],zL co,zL co,zL co,zL co,zL co,co,co,co,co,co,co]=(ES.run F0 k s w g lt cp (l.take 0)).st 0:=by show [Val.B false,.D 0,bZ I (.Q 941 [.V 4]),.D 0,.D 0,.D 0,.D 0,.D 0,.A [],.A [],.A [],.A [],.A [],.A []]=_;rw[h41];rfl
   rw[hs0];refine fD (st:=λi=>(ES.run F0 k s w g lt cp (l.take i)).st i) (n:=l.length) (λi hi=> ?_) ?_
   have hs:ES.run F0 k s w g lt cp (l.take (i+1))=(ES.run F0 k s w g lt cp (l.take i)).step F0 k s w g lt cp l[i]:=by unfold ES.run;rw[T7 hi,I6];rfl
   rw[hs];cases hb:l[i].1 with
   |true=>exact ef8 (rd i hi) hi hb
   |false=>exact ev6 (rd i hi) hi hb
   .rw[A6];have v: ∀j,j<14->(I.U 1500 ((ES.run F0 k s w g lt cp l).st l.length)).w (1500+j)=((ES.run F0 k s w g lt cp l).st l.length).getD j (.B false):=λj hj=>by rw[Y8,c9 (by omega),show 1500+j-1500=j by omega]
    have u6:(I.U 1500 ((ES.run F0 k s w g lt cp l).st l.length)).w 6= .A (l.map actV):=(cR _ _ _ (by omega)).trans w6;generalize I.U 1500 ((ES.run F0 k s w g lt cp l).st l.length)=aa at*
    have v1:aa.w 1501= .D l.length:=v 1 (by omega);refine Y9 ?_ ?_;rw[cW,cM,cK,cM,u6,v1];exact j7 (by show¬(l.length:Int)<((l.map actV).length:Int);omega);show some (1,[aa.w 1500,aa.w 1501,aa.w 1502,aa.w 1503,aa.w 1504,aa.w 1505,aa.w 1506,aa.w 1507,aa.w 1508,aa.w 1509,aa.w 1510,aa.w 1511,aa.w 1512,aa.w 1513])=_;rw[show aa.w 1500=_ from v 0 (by omega),v1,show aa.w 1502=_ from v 2 (by omega),show aa.w 1503=_ from v 3 (by omega),show aa.w 1504=_ from v 4 (by omega),show aa.w 1505=_ from v 5 (by omega),show aa.w 1506=_ from v 6 (by omega),show aa.w 1507=_ from v 7 (by omega),show aa.w 1508=_ from v 8 (by omega),show aa.w 1509=_ from v 9 (by omega),show aa.w 1510=_ from v 10 (by omega),show aa.w 1511=_ from v 11 (by omega),show aa.w 1512=_ from v 12 (by omega),show aa.w 1513=_ from v 13 (by omega)];rfl
   have E:=(hrun l.length (j5 _)).E;rw[A6]at E;generalize ES.run F0 k s w g lt cp l=x at*
   have col: ∀j:Int,bZ I (.O .G [jO,.C 1,.C j])=ck (cC (0,x.st l.length)).L 1 j:=λj=>by show ck (bZ I jO).L 1 j=_;rw[h65]
   have t2:bZ I (zo jO 2)= .D x.mark:=col 2;have t3:bZ I HP= .D x.T.L.length:=col 3;have t4:bZ I IQ= .D x.tk.length:=col 4;have t5:bZ I FB= .D x.cu.length:=col 5;have t6:bZ I HU= .D x.tk.length:=col 6;have t7:bZ I Ke= .D x.cu.length:=col 7;have t8:bZ I (zo jO 8)= .A x.m:=col 8;have t9:bZ I Of=x.T:=col 9;have t10:bZ I Lg= .A (x.tk.map cH):=col 10;have t11:bZ I Lz= .A (x.cu.map eA):=col 11;have t12:bZ I Pd= .A (x.tk.map cH):=col 12;have t13:bZ I NT= .A (x.cu.map eA):=col 13;have hk:(x.tk.map cH).length=x.tk.length:=k6 ..;have hc:(x.cu.map eA).length=x.cu.length:=k6 ..;obtain⟨L,hT,_⟩:=E.tList;rw[hT]at t3 t9;rw[<-hk]at t4 t6;rw[<-hc]at t5 t7;refine and2 (and2 (IM t9 t3) (and2 (IM t10 t4) (and2 (IM t11 t5) (and2 (IM t12 t6) (IM t13 t7))))) ?_;show(I.f 958 [bZ I (zo jO 2),bZ I (.Q 942 [.V 4]),I.w 5,I.w 0,I.w 1,I.w 2,I.w 3,bZ I (zo jO 8),bZ I (.O .lsub [Of,.C 0,HP]),bZ I (.O .lsub [Lg,.C 0,IQ]),bZ I (.O .lsub [Lz,.C 0,FB]),I.w 0,I.w 1,I.w 2,I.w 3,I.w 4,I.w 5,bZ I (.O .lsub [Pd,.C 0,HU]),bZ I (.O .lsub [NT,.C 0,Ke]),I.w 7]).Z=true;rw[t2,t8,h42,Ko t9 t3,Ko t10 t4,Ko t11 t5,Ko t12 t6,Ko t13 t7,w0,w1,w2,w3,w4,w5,w7,hf];exact bP_iff.2 ⟨k,s,w,g,lt,cp,x.mark,x.m,.A L,x.tk,x.cu,e,rfl,hT▸E,h0⟩
