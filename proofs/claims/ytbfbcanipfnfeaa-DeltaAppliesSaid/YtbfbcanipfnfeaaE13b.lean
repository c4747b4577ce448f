import Derived.Test.YtbfbcanipfnfeaaE13
import Derived.Laws.IdiomStrings
import Derived.Laws.BytesArg
import Derived.Lib.Builder
import Derived.Lib.UnsafeStr
import Derived.Lib.Bytealg
set_option linter.unusedVariables false
set_option linter.unusedSimpArgs false
namespace Go.Ev
open Go
variable{P:Program}{β:Bij}{ω:Opq}{K:Nat→Prop}{w0 w:World}{h h':Heap}
theorem bw2{e:TypeId}(h:u8T P e=true):P.underlying e=some (.int .u8):=by
 unfold u8T at h
 split at h
 ·assumption
 ·cases h
theorem aC7{b:Nat}{C:Array Value}{e:TypeId}{f:Nat×Nat}(q:w.heap[b]? =some (.cells C e f)):w.shape? b=some (e,C.size):=by
 unfold World.shape?;rw[q]
theorem bl7{s d t b o:Nat}{a:AV}{vx:Value}(hs:P.underlying s=some (.pointer t))(hd:P.underlying d=some .unsafePointer)(r:HR β ω K w0 h w)(e:aC0 P t b o h=some (a,h'))(rx:VR β ω (.ptr b o) vx):
 Ok P β ω K w0 w h (convert s d vx) a h':=by
 unfold aC0 at e
 split at e
 ·rename_i n el fz cs hsz hg
  replace e:=M7 e
  obtain⟨hc,e⟩:=e
  rw[N9]at hc
  simp only[a8,d7]at e
  obtain⟨rfl,rfl⟩:=e
  have rx':=rx
  obtain⟨L,hL,rfl⟩:=rx
  obtain⟨C,lo,hi,vs,q1,q2,q3,q4,q5,q6,q7⟩:=r.cells hg hL
  obtain⟨i,hi',hsize⟩:=af5 hsz
  exact⟨β,_,w,Lib.run_to_unsafe w ⟨L.blk,L.off+o,none⟩ hs hd hi' (by omega) (aC7 q1) (show L.off+o<C.size by omega),rx',r,.refl _ _⟩
 ·cases e
theorem bl8{e:TypeId}(hc:P.cellsOf e≠0)(count n:Nat)(hn:n≤count):liesAt P P.depth e count 0 e n=true:=by
 have hd:P.depth=(2*(P.types.size+Made.depth)+1)+1:=rfl
 rw[hd]
 simp only[liesAt,j8]
 left
 rw[hd]
 simp[rowAt,hc,hn,sameLayout]
theorem bl9{s d t b o:Nat}{a:AV}{vx:Value}(hfx: ∀t,ω.fix t=aq0 P t)(hs:P.underlying s=some .unsafePointer)(hd:P.underlying d=some (.pointer t))(r:HR β ω K w0 h w)(e:aC1 P t b o h=some (a,h'))(rx:VR β ω (.ptr b o) vx):
 Ok P β ω K w0 w h (convert s d vx) a h':=by
 unfold aC1 at e
 split at e
 ·rename_i n el fz cs hsz hg
  replace e:=M7 e
  obtain⟨hc,e⟩:=e
  obtain⟨hc,c3⟩:=M6 hc
  obtain⟨c1,c2⟩:=M6 hc
  rw[M8]at c1;subst c1
  rw[N1]at c2
  simp only[a8,d7]at e
  obtain⟨rfl,rfl⟩:=e
  have rx':=rx
  obtain⟨L,hL,rfl⟩:=rx
  obtain⟨C,lo,hi,vs,q1,q2,q3,q4,q5,q6,q7⟩:=r.cells hg hL
  obtain⟨i,hi',hsize⟩:=af5 hsz
  have h0:L.off=0:=r.head hg hL (by rw[hfx];exact c3)
  have hcell:P.cellsOf el=n+1:=by simp[Program.cellsOf,hi',hsize]
  refine⟨β,_,w,Lib.run_from_unsafe w ⟨L.blk,L.off+0,none⟩ hs hd hi' (aC7 q1) ?_,rx',r,.refl _ _⟩
  show liesAt P P.depth el (C.size/P.cellsOf el) (L.off+0) el 1=true
  rw[h0]
  refine bl8 (by omega) _ _ ?_
  rw[hcell]
  exact(Nat.le_div_iff_mul_le (by omega)).2 (by omega)
 ·cases e
theorem aI2: ∀{cs:List AV} {l:List UInt8} {us:List Value},az0 cs=some l→VRs β ω cs us→us=l.map (fun b=>Value.int .u8 b.toNat)
 | [],l,us,e,r=>by
   simp only[az0,a8]at e;subst e
   exact r
 |c::cs,l,us,e,⟨u,ur,hu,r1,r2⟩=>by
  unfold az0 at e
  split at e
  ·rename_i heq;cases heq
  ·rename_i n r heq
   obtain⟨rfl,rfl⟩:=G2 heq
   split at e
   ·rename_i m hm
    obtain⟨hn,e⟩:=M7 e
    rw[N9]at hn
    simp only[a8]at e;subst e
    have:=aI2 hm r2
    simp only[VR]at r1
    rw[hu,r1,this]
    simp only[j9,A3,and_true]
    show Value.int .u8 (n:Int)=Value.int .u8 ((UInt8.ofNat n).toNat:Int)
    rw[UInt8.toNat_ofNat_of_lt' (by simpa using hn)]
   ·cases e
  ·cases e
theorem bV6{s d e:TypeId}{x:AV}{vx:Value}{l:List UInt8}(hs:P.underlying s=some (.slice e))(hd:P.underlying d=some .string)(r:HR β ω K w0 h w)(he:bO8 P e x h=some l)(rx:VR β ω x vx):
 (convert s d vx).run P w= .ok (.string ⟨l.toArray⟩) w:=by
 unfold bO8 at he
 obtain⟨h8,he⟩:=M7 he
 have h8:=bw2 h8
 have nil: ∀(p:Option Addr) (c:Nat),(convert s d (.slice p 0 c)).run P w= .ok (.string ⟨([]:List UInt8).toArray⟩) w:=by
  intro p c
  cases p with
  |none=>rw[run_convert_bytes_nil w s e hs h8 0 c d hd];rfl
  |some a=>exact run_convert_bytes_back w s d e a c [] hs h8 hd (fun j hj=>by simp at hj)
 have row: ∀(b o n c:Nat) (L:Loc),β b=some L→(match h.get b with
  |some (.cells _ _ cs)=>bif Nat.ble (o+n*1) cs.length&&((cs.drop o).take (n*1)).all AV.one then some ((cs.drop o).take (n*1))else none
  |_=>none).bind az0=some l→(convert s d (.slice (some ⟨L.blk,L.off+o,none⟩) n c)).run P w= .ok (.string ⟨l.toArray⟩) w:=by
  intro b o n c L hL he
  simp only[j6]at he
  obtain⟨cs',h1,h2⟩:=he
  split at h1
  ·rename_i el fz cs hg
   obtain⟨hc,h1⟩:=M7 h1
   obtain⟨hc,_⟩:=M6 hc
   rw[N1]at hc
   simp only[a8]at h1;subst h1
   obtain⟨us,u1,u2,u3⟩:=W8 r hg hL hc
   have hu:=aI2 h2 u1
   have hl:l.length=n:=by have:=congrArg List.length hu;simp at this;omega
   rw[←hl]
   refine run_convert_bytes_back w s d e _ c l hs h8 hd (fun j hj=> ?_)
   rw[U7]
   refine u3 j _ ?_
   rw[hu];simp[j0 hj]
  ·cases h1
 cases x with
 |nils=>
  simp only[a8]at he;subst he
  simp only[VR]at rx;subst rx
  exact nil _ _
 |es b o sz=>
  simp only[a8]at he;subst he
  simp only[VR]at rx;obtain⟨L,a,c,_,rfl,_⟩:=rx
  exact nil _ _
 |es0=>
  simp only[a8]at he;subst he
  simp only[VR]at rx;obtain⟨a,rfl⟩:=rx
  exact nil _ _
 |sl b o n c=>
  simp only[VR]at rx;obtain⟨L,hL,rfl⟩:=rx
  exact row b o n c L hL he
 |us b o n sz=>
  simp only[VR]at rx;obtain⟨L,c,hL,_,rfl⟩:=rx
  exact row b o n c L hL he
 |_=>cases he
theorem bV7{s d e:TypeId}{l:List UInt8}{a:AV}{vx:Value}(hs:P.underlying s=some .string)(hd:P.underlying d=some (.slice e))(r:HR β ω K w0 h w)(he:bO7 P e l h=some (a,h'))(rx:VR β ω (.str l) vx):
 Ok P β ω K w0 w h (convert s d vx) a h':=by
 unfold bO7 at he
 obtain⟨hc,he⟩:=M7 he
 obtain⟨c1,c2⟩:=M6 hc
 have h8:=bw2 c1
 simp only[a8,d7]at he
 obtain⟨rfl,rfl⟩:=he
 simp only[VR]at rx;subst rx
 have hrun:=run_bytes_of_string (P:=P) w s d e ⟨l.toArray⟩ hs hd h8
 have hsz:(⟨l.toArray⟩:ByteArray).size=l.length:=by simp[ByteArray.size]
 rw[hsz]at hrun
 have hge:=grownCap_ge w l.length 0 e
 have hbs:(bytesRow ⟨l.toArray⟩ (grownCap w l.length 0 e)).size=grownCap w l.length 0 e:=by
  simp only[bytesRow,G3,Array.size_map,J9,hsz,w6]
  omega
 rw[hbs]at hrun
 obtain⟨p1,p2⟩:=r.drew.new (.cells (bytesRow ⟨l.toArray⟩ (grownCap w l.length 0 e)) e (grownCap w l.length 0 e,grownCap w l.length 0 e+1)) (.cells e 0 (l.map fun b=> .int .u8 b.toNat)) 0 (grownCap w l.length 0 e) (by
  refine⟨_,_,_,l.map (fun b=>Value.int .u8 b.toNat),rfl,by rw[hbs];show 0+grownCap w l.length 0 e≤grownCap w l.length 0 e;omega,by simpa using hge,i6.2 fun x hx=>by obtain⟨_,_,rfl⟩:=k9.1 hx;rfl,aH9 l,fun i hi=> ?_,fun i _ hi=>by have hi:i<grownCap w l.length 0 e:=hi;show¬(_≤0+i∧0+i<_);omega,fun _=>rfl⟩
  simp only[m5]at hi
  simp only[i3,bytesRow]
  rw[D8 (by simpa using hi)]
  simp)
 exact⟨_,_,_,hrun,⟨⟨w.heap.size,0,grownCap w l.length 0 e⟩,grownCap w l.length 0 e,Bij.add_self _ _ _,by simp,by simp⟩,p1,p2⟩
theorem HR.ruin{w':World}(r:HR β ω K w0 h w)(b:Nat)(x0:Blk)(L:Loc)(hg:h.get b=some x0)(hb:β b=some L)(hwm:h.wm≤b)
 (hother: ∀i,i≠L.blk→w'.heap[i]? =w.heap[i]?) (hsz:w'.heap.size=w.heap.size) (hos:w'.os=w.os) (htp:w'.tape=w.tape) (hout:w'.output=w.output) (hdr:w'.drawn=w.drawn):
 HR β ω K w0 (h.put b none) w'∧St h β (h.put b none) β:=by
 obtain⟨r1,s1⟩:=r.drop b
 have hne: ∀b' y,(h.put b none).get b'=some y→b'≠b∧h.get b'=some y:=by
  intro b' y hg'
  rw[Heap.get_put]at hg'
  by_cases e:b'=b
  ·rw[if_pos e]at hg';split at hg'<;>cases hg'
  ·rw[if_neg e]at hg';exact⟨e,hg'⟩
 refine⟨⟨fun b' y L' h1 h2=> ?_,r1.sep,r1.fresh,r1.fget,fun b' L' h2=>by rw[hsz];exact r1.lt b' L' h2,r1.kin,fun i hi=> ?_,r1.free,by rw[hsz];exact r1.size,hos.trans r.os,htp.trans r.tape,hout.trans r.out,by rw[hdr];exact r.dr⟩,s1⟩
 ·obtain⟨g1,g2⟩:=hne b' y h1
  rw[hother _ (r.sep b' b y x0 L' L g2 hg h2 hb g1 (.inr (.inl hwm)))]
  exact r.blk b' y L' g2 h2
 ·rw[hother i (fun e=>r.free b x0 L hg hwm hb (e▸hi))];exact r.keep i hi
theorem a71(w:World)(ts:Array TypeId)(pt ty e:TypeId)(k:IntKind)(h0:ts[0]? =some pt)(hp:P.underlying pt=some (.pointer e))(hc:P.cellsOf e=1)(g off cells:Nat)(hsh:w.shape? g=some (e,cells))(l:List UInt8)(hl0:l≠[])(hn:off+l.length≤cells)(h63:l.length≤9223372036854775807)
 (hcell: ∀j x,l[j]? =some x→w.cell? ((⟨g,off,none⟩:Addr).add j)=some (.int .u8 x.toNat)):
 (Builtin.unsafeString_ ts ty #[.pointer (some ⟨g,off,none⟩),.int k l.length]).run P w= .ok (.string ⟨l.toArray⟩) (w.freeze ⟨g,off,none⟩ l.length):=by
 have hl:l.length≠0:=by simpa using hl0
 have hlb:=Lib.run_loadBytes (P:=P) w l ⟨g,off,none⟩ .empty hcell
 have hlies:liesAt P P.depth e (cells/P.cellsOf e) off e l.length=true:=by
  have hd:P.depth=(2*(P.types.size+Made.depth)+1)+1:=rfl
  rw[hd,hc]
  simp only[liesAt,j8]
  left
  rw[hd]
  simp[rowAt,hc,sameLayout,hn,Nat.mod_one]
 have h63': ¬(9223372036854775807:Int)<(l.length:Int):=by omega
 have hdef:Builtin.unsafeString_ ts ty #[.pointer (some ⟨g,off,none⟩),.int k l.length]=
  (do
   let n ←asInt (.int k l.length)
   let some pt:=ts[0]? |stuck "unsafe.String: no argument types"
   if n<0 then runtimePanic (.error "unsafe.String: len out of range")
   if n>IntKind.i64.max then unsupported (.unsafePointer "String: a length above the largest int")
   if n=0 then pure (.string .empty)
   else if←variablesAt ⟨g,off,none⟩ (←elemOf pt) n.toNat then do
    let s ←loadBytes ⟨g,off,none⟩ .empty n.toNat
    freeze ⟨g,off,none⟩ n.toNat
    pure (.string s)
   else unsupported (.unsafePointer "String: not so many bytes at ptr")):=rfl
 rw[hdef]
 have hmax:IntKind.i64.max=9223372036854775807:=rfl
 have hneg: ¬(l.length:Int)<0:=by omega
 simp[asInt,asIntOf,hmax,h63',hneg,hl,variablesAt,hsh,elemOf,run_underlying hp,hlies,hlb,h0]
theorem a29(w:World)(ts:Array TypeId)(pt ty:TypeId)(k:IntKind)(h0:ts[0]? =some pt)(p:Option Addr):(Builtin.unsafeString_ ts ty #[.pointer p,.int k 0]).run P w= .ok (.string ⟨([]:List UInt8).toArray⟩) w:=by
 have hmax:IntKind.i64.max=9223372036854775807:=rfl
 cases p with
 |none=>
  have hdef:Builtin.unsafeString_ ts ty #[.pointer none,.int k 0]=
   (do
    let n ←asInt (.int k 0)
    let some pt:=ts[0]? |stuck "unsafe.String: no argument types"
    if n<0 then runtimePanic (.error "unsafe.String: len out of range")
    if n>IntKind.i64.max then unsupported (.unsafePointer "String: a length above the largest int")
    if n=0 then pure (.string .empty)
    else runtimePanic (.error "unsafe.String: ptr is nil and len is not zero")):=rfl
  rw[hdef]
  simp[asInt,asIntOf,hmax,h0]
  rfl
 |some a=>
  have hdef:Builtin.unsafeString_ ts ty #[.pointer (some a),.int k 0]=
   (do
    let n ←asInt (.int k 0)
    let some pt:=ts[0]? |stuck "unsafe.String: no argument types"
    if n<0 then runtimePanic (.error "unsafe.String: len out of range")
    if n>IntKind.i64.max then unsupported (.unsafePointer "String: a length above the largest int")
    if n=0 then pure (.string .empty)
    else if←variablesAt a (←elemOf pt) n.toNat then do
     let s ←loadBytes a .empty n.toNat
     freeze a n.toNat
     pure (.string s)
    else unsupported (.unsafePointer "String: not so many bytes at ptr")):=rfl
  rw[hdef]
  simp[asInt,asIntOf,hmax,h0]
  rfl
theorem bV8{ts:Array TypeId}{ty:TypeId}{b o n:Nat}{k:IntKind}{a:AV}{vx:Value}(hn:0<n)(r:HR β ω K w0 h w)(e:bP2 P ts b o n h=some (a,h'))(rx:VR β ω (.ptr b o) vx):
 Ok P β ω K w0 w h (Builtin.unsafeString_ ts ty #[vx,.int k n]) a h':=by
 unfold bP2 at e
 split at e
 ·rename_i el fz cs pt hg hp
  replace e:=M7 e
  obtain⟨hc,e⟩:=e
  obtain⟨hc,c4⟩:=M6 hc
  obtain⟨hc,c3⟩:=M6 hc
  obtain⟨c1,c2⟩:=M6 hc
  rw[N1]at c1 c3 c4
  rw[M8]at c2;subst c2
  simp only[j6]at hp
  obtain⟨t0,h0,hp⟩:=hp
  split at e
  ·rename_i l hsz hl
   simp only[a8,d7]at e
   obtain⟨rfl,rfl⟩:=e
   obtain⟨L,hL,rfl⟩:=rx
   obtain⟨us,u1,u2,u3⟩:=W8 r hg hL c3
   have hu:=aI2 hl u1
   have hll:l.length=n:=by have:=congrArg List.length hu;simp at this;omega
   obtain⟨C,lo,hi,vs,q1,q2,q3,q4,q5,q6,q7⟩:=r.cells hg hL
   obtain⟨i,hi',hsize⟩:=af5 hsz
   have hcell:P.cellsOf el=1:=by simp[Program.cellsOf,hi',hsize]
   have c4':n≤1000000:=c4
   have hrun:=a71 (P:=P) w ts t0 ty el k h0 hp hcell L.blk (L.off+o) C.size (aC7 q1) l (by intro hh;rw[hh]at hll;simp at hll;omega) (by omega) (by omega) (fun j x hj=>by
     rw[U7]
     refine u3 j _ ?_
     rw[hu];simp[hj])
   rw[hll]at hrun
   obtain⟨p1,p2⟩:=r.ruin (w':=w.freeze ⟨L.blk,L.off+o,none⟩ n) b _ L hg hL c1 (fun i hi=>by
    unfold World.freeze
    split
    ·rfl
    ·simp only[D7]
     rw[if_neg (fun hh=>hi hh.symm)]) (by unfold World.freeze;split<;>simp) (by unfold World.freeze;split<;>rfl) (by unfold World.freeze;split<;>rfl) (by unfold World.freeze;split<;>rfl) (by unfold World.freeze;split<;>rfl)
   exact⟨β,_,_,hrun,rfl,p1,p2⟩
  ·cases e
 ·cases e
theorem bI2{ts:Array TypeId}{ty:TypeId}{x a:AV}{vx:Value}(r:HR β ω K w0 h w)(e:bi9 x h=some (a,h'))(rx:VR β ω x vx):Ok P β ω K w0 w h (Builtin.unsafeSliceData_ ts ty #[vx]) a h':=by
 unfold bi9 at e
 split at e
 ·simp only[a8,d7]at e
  obtain⟨rfl,rfl⟩:=e
  simp only[VR]at rx
  obtain⟨L,hL,rfl⟩:=rx
  exact⟨β,_,w,Lib.run_unsafeSliceData_row w ts ty _ _ _ (by omega),⟨L,hL,rfl⟩,r,.refl _ _⟩
 ·rename_i b o n sz
  replace e:=M7 e
  obtain⟨hc,e⟩:=e
  obtain⟨c1,c2⟩:=M6 hc
  rw[N9]at c1
  simp only[a8,d7]at e
  obtain⟨rfl,rfl⟩:=e
  obtain⟨b',n',c,hv,hle,hm⟩:=bv9 c1 r c2 rx
  have hn:n+1=n':=hm _ rfl
  simp only[VR]at rx
  obtain⟨L,cap,hL,hx,rfl⟩:=rx
  obtain⟨rfl,rfl,rfl⟩:some (⟨L.blk,L.off+o,none⟩:Addr)=b'∧n+1=n'∧cap=c:=by simpa using hv
  exact⟨β,_,w,Lib.run_unsafeSliceData_row w ts ty _ _ _ (by omega),⟨L,hL,rfl⟩,r,.refl _ _⟩
 ·simp only[a8,d7]at e
  obtain⟨rfl,rfl⟩:=e
  simp only[VR]at rx;subst rx
  exact⟨β,_,w,Lib.run_unsafeSliceData_nil w ts ty 0 0,rfl,r,.refl _ _⟩
 ·cases e
theorem aj5{n:Int}{m:Nat}(h:a51 n=some m):n=m:=by
 cases n with
 |ofNat k=>simp only[a51,a8]at h;rw[h];rfl
 |negSucc k=>cases h
theorem cz7{ts:Array TypeId}{ty:TypeId}{k:IntKind}{n:Int}{p a:AV}{vp:Value}(r:HR β ω K w0 h w)(e:d72 P ts p (a51 n) h=some (a,h'))(rp:VR β ω p vp):Ok P β ω K w0 w h (Builtin.unsafeString_ ts ty #[vp,.int k n]) a h':=by
 unfold d72 at e
 split at e
 ·rename_i t0 h0 hn
  have hn:n=0:=aj5 hn
  subst hn
  split at e
  ·simp only[a8,d7]at e
   obtain⟨rfl,rfl⟩:=e
   simp only[VR]at rp;subst rp
   exact⟨β,_,w,a29 w ts t0 ty k h0 none,rfl,r,.refl _ _⟩
  ·simp only[a8,d7]at e
   obtain⟨rfl,rfl⟩:=e
   simp only[VR]at rp;obtain⟨L,_,rfl⟩:=rp
   exact⟨β,_,w,a29 w ts t0 ty k h0 _,rfl,r,.refl _ _⟩
  ·cases e
 ·rename_i t0 m h0 hn
  have hn:=aj5 hn
  subst hn
  split at e
  ·exact bV8 (Nat.succ_pos m) r e rp
  ·cases e
 ·cases e
theorem bV9{c:Nat}(hc:c<256)(x:UInt8):(x==c.toUInt8)=Nat.beq x.toNat c:=by
 have h:c.toUInt8.toNat=c:=UInt8.toNat_ofNat_of_lt' (by simpa using hc)
 rw[m9,beq_iff_eq,M8]
 constructor
 ·rintro rfl;exact h
 ·intro hh;apply UInt8.toNat_inj.1;rw[hh,h]
theorem bw3{c:Nat}(hc:c<256): ∀(l:List UInt8) (i:Nat),(∀k,bG1 c l i=some k→i≤k∧Lib.indexByte l c.toUInt8=(k:Int)-i)∧(bG1 c l i=none→Lib.indexByte l c.toUInt8= -1)
 | [],i=>⟨fun k h=>(by cases h),fun _=>rfl⟩
 |x::r,i=>by
  obtain⟨h1,h2⟩:=bw3 hc r (i+1)
  simp only[bG1,Lib.indexByte,bV9 hc x]
  cases Nat.beq x.toNat c with
  |true=>
   refine⟨fun k h=> ?_,fun h=>by cases h⟩
   simp only[cond_true,a8]at h;subst h
   simp
  |false=>
   simp only[cond_false,i4,if_false]
   refine⟨fun k h=> ?_,fun h=> ?_⟩
   ·obtain⟨g1,g2⟩:=h1 k h
    refine⟨by omega,?_⟩
    have: ¬(Lib.indexByte r c.toUInt8== -1)=true:=by rw[beq_iff_eq];omega
    rw[if_neg this,g2];omega
   ·have:=h2 h
    rw[if_pos (by rw[beq_iff_eq];exact this)]
theorem ba9{c:Nat}(hc:c<256)(l:List UInt8):b80 c l=Lib.indexByte l c.toUInt8:=by
 obtain⟨h1,h2⟩:=bw3 hc l 0
 unfold b80
 cases h:bG1 c l 0 with
 |none=>exact(h2 h).symm
 |some k=>rw[(h1 k h).2];simp
theorem aI3{c:Nat}(hc:c<256): ∀(l:List UInt8),aG0 c l=Lib.countByte l c.toUInt8
 | []=>rfl
 |x::r=>by
  simp only[aG0,Lib.countByte,List.count_cons]
  rw[bV9 hc x,aI3 hc r]
  unfold Lib.countByte
  cases Nat.beq x.toNat c<;>simp
end Go.Ev
