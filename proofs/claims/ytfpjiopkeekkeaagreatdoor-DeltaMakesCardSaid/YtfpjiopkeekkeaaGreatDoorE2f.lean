import Derived.Test.YtfpjiopkeekkeaaGreatDoorE2
set_option autoImplicit false
set_option linter.unusedVariables false
namespace Go.Ev
open Go
noncomputable section
structure LGen where
 id:Nat
 v0:Nat
 dead:List Nat
 own:List (Nat×Option Nat×Nat×List CT)
 abs:List Nat
 mem:List Nat
 fvs:List Nat
 exits:List (Ex×List (Nat×AV))
 maps:List (Nat×List CT×List CT):=[]
 gone:List Ex:=[]
 mapr:Bool:=false
mutual
def cH0:AV→List SX
 | .oint _ e=>[e]
 | .ostr e=>[e]
 | .obool e=>[e]
 | .osl _ x y _=>[x,y]
 | .ous _ x _=>[x]
 | .agg l=>c54 l
 | .iface _ x=>cH0 x
 |_=>[]
def c54:List AV→List SX
 | []=>[]
 |a::r=>cH0 a++c54 r
end
def cY7(x:Option Blk):List SX:=match x with
 |some (.cells _ _ cs)=>c54 cs
 |some (.arr _ _ l)=>[l]
 |some (.marr _ _ _ l)=>[l]
 |some (.bag _ _ l)=>[l]
 |some (.mrg _ _ _ _ l)=>[l]
 |_=>[]
mutual
def dc7(n:Nat):AV→AV×Nat
 | .int k _=>(.oint k (.va n),n+1)
 | .oint k _=>(.oint k (.va n),n+1)
 | .str _=>(.ostr (.va n),n+1)
 | .ostr _=>(.ostr (.va n),n+1)
 | .bool _=>(.obool (.va n),n+1)
 | .obool _=>(.obool (.va n),n+1)
 | .osl b _ _ s=>(.osl b (.va n) (.va (n+1)) s,n+2)
 | .ous b _ s=>(.ous b (.va n) s,n+1)
 | .agg l=>match cH1 n l with
   |(l',m)=>(.agg l',m)
 |x=>(x,n)
def cH1(n:Nat):List AV→List AV×Nat
 | []=>([],n)
 |a::r=>match dc7 n a with
  |(a',m)=>match cH1 m r with
   |(r',m')=>(a'::r',m')
end
def dc8(n:Nat)(x:Option Blk):Option Blk×Nat:=match x with
 |some (.cells e fz cs)=>match cH1 n cs with
  |(cs',m)=>(some (.cells e fz cs'),m)
 |some (.arr e sig _)=>(some (.arr e sig (.va n)),n+1)
 |some (.marr d ks vs _)=>(some (.marr d ks vs (.va n)),n+1)
 |x=>(x,n)
def dc9(t:Nat):List Nat→Bool
 | []=>false
 |a::r=>bif Nat.beq a t then true else dc9 t r
def cY8(t:Nat):List (Nat×AV)→Option AV
 | []=>none
 |a::r=>bif Nat.beq a.1 t then some a.2 else cY8 t r
def cH2(look:Nat→Option AV):Nat→Nat→Nat→List (Nat×AV)×Nat
 |0,_,n=>([],n)
 |m+1,t,n=>match look t with
  |some v=>match dc7 n v with
   |(v',n')=>match cH2 look m (t+1) n' with
    |(r,n'')=>((t,v')::r,n'')
  |none=>cH2 look m (t+1) n
def dd0(b:Nat):List (Nat×List Nat)→Option (List Nat)
 | []=>none
 |x::r=>bif Nat.beq x.1 b then(match x.2,dd0 b r with
  | [],_=>some []
  |l,some []=>some []
  |l,some l'=>some (l++l')
  |l,none=>some l)else dd0 b r
def cH3(l:List Nat):Nat→Nat→List AV→List AV×Nat
 |_,n,[]=>([],n)
 |i,n,a::r=>bif dc9 i l then(match dc7 n a with
     |(a',m)=>match cH3 l (i+1) m r with
      |(r',m')=>(a'::r',m'))
  else(match cH3 l (i+1) n r with
   |(r',m')=>(a::r',m'))
def dd1(l:List Nat)(n:Nat)(x:Option Blk):Option Blk×Nat:=match l,x with
 |_::_,some (.cells e fz cs)=>(match cH3 l 0 n cs with
  |(cs',m)=>(some (.cells e fz cs'),m))
 |_,x=>dc8 n x
def cH4(bs:List (Nat×List Nat))(h:Heap):Nat→Nat→Nat→List (Nat×Option Blk)×Nat
 |0,_,n=>([],n)
 |m+1,b,n=>match dd0 b bs with
  |some l=>(match dd1 l n (h.get b)with
   |(x,n')=>match cH4 bs h m (b+1) n' with
    |(r,n'')=>((b,x)::r,n''))
  |none=>cH4 bs h m (b+1) n
def cY9(look:Nat→Option AV)(bs:List (Nat×List Nat))(nt:Nat)(h:Heap)(v0:Nat):StP:=match cH2 look nt 0 v0 with
 |(sl,n)=>match cH4 bs h h.next 0 n with
  |(bl,_)=>⟨sl,bl,h.next⟩
def cH5(a:Fr)(n:Nat):List (Nat×Option Nat×Nat×List CT)→List OwnP
 | []=>[]
 |(t,none,e,sig)::r=>⟨t,n,e,sig,none⟩::cH5 a (n+1) r
 |(t,some i,e,sig)::r=>(match a.slot t with
  | .ptr b o=>⟨t,n,e,sig,some (b,o+i)⟩
  |_=>⟨t,n,e,sig,none⟩)::cH5 a (n+1) r
mutual
def bh7:AV→List Nat
 | .ptr b _=>[b]
 | .osl b _ _ _=>[b]
 | .ous b _ _=>[b]
 | .map b=>[b]
 | .agg l=>bh8 l
 | .func _ _ l=>bh8 l
 |_=>[]
def bh8:List AV→List Nat
 | []=>[]
 |a::r=>bh7 a++bh8 r
end
def cZ0(a:Fr)(l:List Nat)(t:Nat):Option AV:=bif dc9 t l then some (a.slot t)else none
def dd2(a:Fr)(l:List Nat)(x:List (Nat×AV))(t:Nat):Option AV:=match cY8 t x with
 |some v=>some v
 |none=>cZ0 a l t
def dd3(h:Heap)(x:Option Blk):List SX:=match x with
 |some (.cells _ _ cs)=>(bh8 cs).flatMap fun b=>cY7 (h.get b)
 |_=>[]
def bh9(h:Heap)(b:Nat):List Nat:=match h.get b with
 |some (.cells _ _ cs)=>bh8 cs
 |_=>[]
def di7(h:Heap)(b:Nat):List SX:=match h.get b with
 |some (.arr _ _ l)=>[l]
 |_=>[]
def fvS(a:Fr)(h:Heap)(t:Nat):List SX:=
 bif Nat.ble 2000 t then((bh7 (a.slot (t-2000))).flatMap (bh9 h)).flatMap fun b=>(bh9 h b).flatMap (di7 h)
 else bif Nat.ble 1000 t then(bh7 (a.slot (t-1000))).flatMap fun b=>(bh9 h b).flatMap (di7 h)
 else cH0 (a.slot t)++((bh7 (a.slot t)).flatMap fun b=>cY7 (h.get b)++dd3 h (h.get b))
def fvG(a:Fr)(h:Heap):List Nat→List SX
 | []=>[]
 |t::r=>fvS a h t++fvG a h r
def dd4(l:List Nat):List (Nat×List Nat):=l.map fun b=>(b,[])
def dm0(a:Fr)(h:Heap)(t:Nat):List (Nat×List Nat):=bif Nat.ble 10000 t then(bh7 (a.slot (t % 100))).map fun b=>(b,[(t-10000)/100])
 else bif Nat.ble 1000 t then dd4 ((bh7 (a.slot (t-1000))).flatMap (bh9 h))else dd4 (bh7 (a.slot t))
def exB:Ex→Ex→Bool
 | .norm,.norm=>true
 | .exit i,.exit j=>Nat.beq i j
 | .ret,.ret=>true
 |_,_=>false
def dm1(owns:List OwnP)(b:Nat):Bool:=owns.any fun o=>Nat.beq o.blk b
def cZ1(g:Bool)(owns:List OwnP)(s:StP):StP:=bif g then⟨s.slots,s.blks.map fun x=>bif dm1 owns x.1 then(x.1,none)else x,s.next⟩else s
def dd5(g:LGen)(owns:List OwnP)(p:Fr×Heap)(bs:List (Nat×List Nat)):LSpec:=
 ⟨g.id,owns,g.v0,fvG p.1 p.2 g.fvs,g.dead,cY9 (cZ0 p.1 g.abs) bs p.1.nt p.2 g.v0,g.exits.map fun x=>(x.1,cZ1 (g.gone.any (exB x.1)) owns (cY9 (dd2 p.1 g.abs x.2) bs p.1.nt p.2 g.v0)),g.mapr⟩
def c55(ks vs:List CT)(h:Heap)(b:Nat):Heap:=match h.get b with
 |some (.map [] c)=>h.put b (some (.marr (Nat.beq c 0) ks vs (.op .row [])))
 |_=>h
def cZ2(h:Heap):AV→Heap
 | .map b=>(match h.get b with
   |some (.marr _ ks vs l)=>h.put b (some (.marr false ks vs l))
   |_=>h)
 |_=>h
def aR3(a:Fr):List (Nat×List CT×List CT)→Heap→Heap
 | [],h=>h
 |(t,ks,vs)::r,h=>bif Nat.ble 20000 t then aR3 a r (cZ2 h (a.slot (t-20000)))else bif Nat.ble 1000 t then aR3 a r (((bh7 (a.slot (t-1000))).flatMap (bh9 h)).foldl (c55 ks vs) h)else(match a.slot t with
  | .map b=>aR3 a r (c55 ks vs h b)
  |_=>aR3 a r h)
def ai4(g:LGen)(a:Fr)(h:Heap):LSpec:=
 match cH5 a h.next g.own with
 |owns=>match aW1 ⟨g.id,owns,g.v0,[],g.dead,⟨[],[],0⟩,[],false⟩ (T3 owns a h).2 (h.upto (Nat.add h.next owns.length))with
  |p=>dd5 g owns (p.1,aR3 p.1 g.maps p.2) (dd4 (owns.map (·.blk))++(g.mem.map (dm0 p.1 p.2)).flatten)
mutual
def a86:AV→List AV
 | .agg cs=>cs
 | .tup vs=>ar0 vs
 |v=>[v]
def ar0:List AV→List AV
 | []=>[]
 |a::r=>a86 a++ar0 r
end
inductive BSrc where
 |whole (b:Nat)
 |view (v:AV)
 deriving Inhabited
structure FC where
 args:List AV
 blks:List Blk
 mt:Nat
 need:SX
 out:AV
 post:List (Option Blk)
 outs:List SX
mutual
def a60(es:List SX):SX→SX
 | .va n=>es.getD n (.va n)
 | .op p l=> .op p (aR4 es l)
 | .app f l=> .app f (aR4 es l)
 |x=>x
def aR4(es:List SX):List SX→List SX
 | []=>[]
 |a::r=>a60 es a::aR4 es r
end
def co8(sz:Nat)(sig:List CT)(n:Nat)(cs:List AV):Option (SX×SX):=match ar6 sig sz n cs with
 |some rs=>some (.cb true,.op .row rs)
 |none=>none
def c56(sz elem:Nat)(sig:List CT)(x:AV)(h:Heap):Option (SX×SX):=match x with
 | .nils=>some (.cb true,.op .row [])
 | .ous b len s=>match h.get b with
   |some (.arr e sg l)=>bif Nat.beq s sz&&Nat.beq e elem&&U9 sg sig then(bif SX.beq len (.op .llen [l])then some (.cb true,l)else some (.op .and [.op (.cmp .leq) [.ci 0,len],.op (.cmp .leq) [len,.op .llen [l]]],.op .lsub [l,.ci 0,len]))else none
   |_=>none
 | .osl b off len s=>match h.get b with
   |some (.arr e sg l)=>bif Nat.beq s sz&&Nat.beq e elem&&U9 sg sig then(bif SX.beq off (.ci 0)&&SX.beq len (.op .llen [l])then some (.cb true,l)else some (.op .and [.op (.cmp .leq) [.ci 0,off],.op .and [.op (.cmp .leq) [.ci 0,len],.op (.cmp .leq) [.op .iadd [off,len],.op .llen [l]]]],.op .lsub [l,off,.op .iadd [off,len]]))else none
   |_=>none
 | .sl b o n c=>match h.get b with
   |some (.cells e fz cs)=>bif Nat.beq e elem&&Nat.ble n c&&Nat.ble fz o&&Nat.ble (o+n*sz) cs.length&&Nat.blt 0 n then co8 sz sig n ((cs.drop o).take (n*sz))else none
   |_=>none
 | .us b o n s=>match h.get b with
   |some (.cells e fz cs)=>bif Nat.blt 0 sz&&Nat.beq s sz&&Nat.beq e elem&&Nat.ble fz o&&Nat.ble (o+n*sz) cs.length then co8 sz sig n ((cs.drop o).take (n*sz))else none
   |_=>none
 |_=>none
def d87(elem:Nat)(x:Option Blk):Nat:=match x with
 |some (.arr e _ _)=>e
 |some (.cells e _ _)=>e
 |_=>elem
def dd6(x:AV)(h:Heap)(elem:Nat):Nat:=match x with
 | .ous b _ _=>d87 elem (h.get b)
 | .osl b _ _ _=>d87 elem (h.get b)
 | .sl b _ _ _=>d87 elem (h.get b)
 | .us b _ _ _=>d87 elem (h.get b)
 |_=>elem
def cx4(x:AV)(h:Heap)(elem:Nat):Nat:=bif Nat.beq elem au8 then dd6 x h elem else elem
def bN3(sz elem:Nat)(sig:List CT)(x:AV)(h:Heap):Option (SX×SX):=c56 sz (cx4 x h elem) sig x h
structure Bnd where
 src:List (Nat×BSrc)
 sx:List (Nat×SX)
def dd7{α:Type}(i:Nat):List (Nat×α)→Bool
 | []=>false
 |a::r=>bif Nat.beq a.1 i then true else dd7 i r
def Bnd.addS(B:Bnd)(i:Nat)(s:BSrc):Bnd:=bif dd7 i B.src then B else⟨(i,s)::B.src,B.sx⟩
def d88{α:Type}(i:Nat):List (Nat×α)→Option α
 | []=>none
 |a::r=>bif Nat.beq a.1 i then some a.2 else d88 i r
def Bnd.addG(B:Bnd)(j:Nat)(x:SX):Bnd:=match d88 j B.sx with
 |none=>(match x with
  | .op .lget [.app f l,.ci (.ofNat 0),_]=>⟨B.src,(j,.app f l)::B.sx⟩
  | .op .lget [.va n,.ci (.ofNat 0),_]=>⟨B.src,(j,.va n)::B.sx⟩
  |x=>⟨B.src,(j,.op .row [.op .row [x]])::B.sx⟩)
 |some (.op .row [.op .row l])=>⟨B.src,(j,.op .row [.op .row (l++[x])])::B.sx⟩
 |some _=>B
def Bnd.addX(B:Bnd)(p x:SX):Bnd:=match p with
 | .va j=>bif dd7 j B.sx then B else⟨B.src,(j,x)::B.sx⟩
 | .op .lget [.va j,_,_]=>B.addG j x
 |_=>B
def Bnd.addO(B:Bnd)(p:SX)(x:Option SX):Bnd:=match x with
 |some x=>B.addX p x
 |none=>B
def aR5(p q:SX):Bool:=match p,q with
 | .ci 0,.op .llen _=>true
 |_,_=>false
mutual
def cZ3(B:Bnd):AV→AV→Bnd
 | .oint _ p,x=>B.addO p ((aW5 x).map (·.2))
 | .ostr p,x=>B.addO p (bm3 x)
 | .obool p,x=>B.addO p (bn3 x)
 | .agg ps,.agg xs=>aR6 B ps xs
 | .iface _ p,.iface _ x=>cZ3 B p x
 | .func _ a b,.func _ c d=>aR6 (aR6 B a c) b d
 | .ptr i _,.ptr b _=>B.addS i (.whole b)
 | .map i,.map b=>B.addS i (.whole b)
 | .sl i _ _ _,.sl b _ _ _=>B.addS i (.whole b)
 | .osl i p q _,x=>bif aR5 p q then B.addS i (.view x)else(match x with
   | .osl b p' q' _=>((B.addS i (.whole b)).addX p p').addX q q'
   |_=>B)
 | .ous i q _,.ous b q' _=>(B.addS i (.whole b)).addX q q'
 |_,_=>B
def aR6(B:Bnd):List AV→List AV→Bnd
 | [],_=>B
 |_::_,[]=>B
 |p::ps,x::xs=>aR6 (cZ3 B p x) ps xs
end
def dd8(h:Heap)(B:Bnd)(p:Blk)(s:Option BSrc):Bnd:=match s with
 |some (.whole b)=>(match p,h.get b with
  | .cells _ _ ps,some (.cells _ _ xs)=>aR6 B ps xs
  | .arr _ _ q,some (.arr _ _ l)=>B.addX q l
  | .bag _ _ q,some (.bag _ _ l)=>B.addX q l
  | .marr _ _ _ q,some (.marr _ _ _ l)=>B.addX q l
  | .marr _ _ _ q,some (.map [] _)=>B.addX q (.op .row [])
  |_,_=>B)
 |some (.view v)=>(match p with
  | .arr e sig q=>(match bN3 sig.length e sig v h with
    |some (_,l)=>B.addX q l
    |none=>B)
  |_=>B)
 |none=>B
def bD2(h:Heap)(B:Bnd):List Blk→Nat→Bnd
 | [],_=>B
 |p::r,i=>bD2 h (dd8 h B p (d88 i B.src)) r (i+1)
def bN4{α:Type}(l:List (Nat×α)):Nat→Nat→Option (List α)
 |0,_=>some []
 |n+1,i=>match d88 i l,bN4 l n (i+1)with
  |some x,some r=>some (x::r)
  |_,_=>none
def aF8:AV→Bool
 | .bool _| .int _ _| .str _| .nilp| .glob _| .nils| .nilm| .nilf| .nili=>true
 |_=>false
def at5(s:Option BSrc)(b:Nat):Bool:=match s with
 |some (.whole c)=>Nat.beq c b
 |_=>false
def b73(s:Option BSrc)(x:AV):Bool:=match s with
 |some (.view v)=>AV.beq v x
 |_=>false
def dd9(e:SX):SX:=match e with
 | .op .lget [.op .row [.op .row l],.ci (.ofNat 0),.ci (.ofNat k)]=>(match l[k]? with
   |some x=>x
   |none=>e)
 |e=>e
def cZ4(es:List SX)(p x:SX):Bool:=SX.beq (dd9 (a60 es p)) x
def ckX(es:List SX)(p:SX)(x:Option SX):Bool:=match x with
 |some x=>cZ4 es p x
 |none=>false
def ckI(es:List SX)(k:IntKind)(p:SX)(x:Option (IntKind×SX)):Bool:=match x with
 |some (k',x)=>decide (k=k')&&cZ4 es p x
 |none=>false
def c57(blks:List Blk)(i s:Nat)(q:SX):Bool:=match blks[i]? with
 |some (.arr _ sig l)=>Nat.beq sig.length s&&SX.beq q (.op .llen [l])
 |_=>false
def cH6(src:List BSrc)(es:List SX)(i:Nat)(p q:SX)(s:Nat)(x:AV):Bool:=match x with
 | .osl b p' q' s'=>Nat.beq s s'&&at5 src[i]? b&&cZ4 es p p'&&cZ4 es q q'
 |_=>false
def cH7(src:List BSrc)(es:List SX)(i:Nat)(q:SX)(s:Nat)(x:AV):Bool:=match x with
 | .ous b q' s'=>Nat.beq s s'&&at5 src[i]? b&&SX.beq (a60 es q) q'
 |_=>false
def cH8(src:List BSrc)(i o:Nat)(x:AV):Bool:=match x with
 | .ptr b o'=>Nat.beq o o'&&at5 src[i]? b
 |_=>false
def cH9(src:List BSrc)(i:Nat)(x:AV):Bool:=match x with
 | .map b=>at5 src[i]? b
 |_=>false
def de0(src:List BSrc)(i o n c:Nat)(x:AV):Bool:=match x with
 | .sl b o' n' c'=>Nat.beq o o'&&Nat.beq n n'&&Nat.beq c c'&&at5 src[i]? b
 |_=>false
mutual
def ckA(src:List BSrc)(es:List SX)(blks:List Blk):AV→AV→Bool
 | .oint k p,x=>ckI es k p (aW5 x)
 | .ostr p,x=>ckX es p (bm3 x)
 | .obool p,x=>ckX es p (bn3 x)
 | .agg ps,x=>(match x with
   | .agg xs=>cg2 src es blks ps xs
   |_=>false)
 | .iface t p,x=>(match x with
   | .iface u y=>Nat.beq t u&&ckA src es blks p y
   |_=>false)
 | .func f a b,x=>(match x with
   | .func g c d=>decide (f=g)&&cg2 src es blks a c&&cg2 src es blks b d
   |_=>false)
 | .ptr i o,x=>cH8 src i o x
 | .map i,x=>cH9 src i x
 | .sl i o n c,x=>de0 src i o n c x
 | .osl i p q s,x=>bif aR5 p q then c57 blks i s q&&b73 src[i]? x else cH6 src es i p q s x
 | .ous i q s,x=>cH7 src es i q s x
 |p,x=>aF8 p&&AV.beq p x
def cg2(src:List BSrc)(es:List SX)(blks:List Blk):List AV→List AV→Bool
 | [],xs=>(match xs with
   | []=>true
   |_=>false)
 |p::ps,xs=>(match xs with
  |x::xs=>ckA src es blks p x&&cg2 src es blks ps xs
  |_=>false)
end
def ckB(src:List BSrc)(es:List SX)(blks:List Blk)(h:Heap)(p:Blk)(s:BSrc):Option SX:=match s with
 | .whole b=>(match p,h.get b with
   | .cells e fz ps,some (.cells e' fz' xs)=>bif Nat.beq e e'&&Nat.beq fz fz'&&ps.all AV.oneA&&cg2 src es blks ps xs then some (.cb true)else none
   | .arr e sig q,some (.arr e' sig' l)=>bif Nat.beq e e'&&U9 sig sig'&&SX.beq (a60 es q) l then some (.cb true)else none
   | .bag e sig q,some (.bag e' sig' l)=>bif Nat.beq e e'&&U9 sig sig'&&SX.beq (a60 es q) l then some (.cb true)else none
   | .marr d ks vs q,some (.marr d' ks' vs' l)=>bif (!d||d')&&U9 ks ks'&&U9 vs vs'&&SX.beq (a60 es q) l then some (.cb true)else none
   | .marr d _ _ q,some (.map [] c)=>bif (!d||Nat.beq c 0)&&SX.beq (a60 es q) (.op .row [])then some (.cb true)else none
   |_,_=>none)
 | .view v=>(match p with
   | .arr e sig q=>(match bN3 sig.length e sig v h with
     |some (nd,l)=>bif SX.beq (a60 es q) l then some nd else none
     |none=>none)
   |_=>none)
def cZ5(src:List BSrc)(es:List SX)(blks:List Blk)(h:Heap):List Blk→List BSrc→Option SX
 | [],[]=>some (.cb true)
 |p::ps,s::ss=>match ckB src es blks h p s,cZ5 src es blks h ps ss with
  |some a,some b=>some (aK8 a b)
  |_,_=>none
 |_,_=>none
def a61:BSrc→Option Nat
 | .whole b=>some b
 | .view (.ous b _ _)=>some b
 | .view (.osl b _ _ _)=>some b
 | .view (.sl b _ _ _)=>some b
 | .view (.us b _ _ _)=>some b
 | .view _=>none
def neB(a b:Option Nat):Bool:=match a,b with
 |some x,some y=> !(Nat.beq x y)
 |_,_=>true
def d89(p:Option Blk):Bool:=match p with
 |some (.arr _ _ _)=>true
 |_=>false
def dm2(p:Option Blk):Bool:=match p with
 |some (.arr _ _ _)=>true
 |some (.bag _ _ _)=>true
 |some (.vec _)=>true
 |_=>false
def de1(h:Heap)(b:Option Nat):Bool:=match b with
 |some b=>dm2 (h.get b)
 |none=>false
def geB(n:Nat)(b:Option Nat):Bool:=match b with
 |some b=>Nat.ble n b
 |none=>true
def cZ6(blks:List Blk)(mt:Nat)(h:Heap)(i j:Nat)(a b:Option Nat):Bool:=
 (Nat.blt i mt&&Nat.blt j mt&&d89 blks[i]? &&d89 blks[j]?)||(neB a b&&(geB h.wm a||geB h.wm b|| !(de1 h a)|| !(de1 h b)))
def d90(blks:List Blk)(mt:Nat)(h:Heap)(i:Nat)(s:BSrc):List BSrc→Nat→Bool
 | [],_=>true
 |t::r,j=>cZ6 blks mt h i j (a61 s) (a61 t)&&d90 blks mt h i s r (j+1)
def seps(blks:List Blk)(mt:Nat)(h:Heap):List BSrc→Nat→Bool
 | [],_=>true
 |s::r,i=>d90 blks mt h i s r (i+1)&&seps blks mt h r (i+1)
def b11(b:Nat):List AV→Bool
 | []=>false
 |x::r=>(match x with
  | .ptr c _=>Nat.beq c b
  | .map c=>Nat.beq c b
  |_=>false)||b11 b r
def cI0(h:Heap)(b c:Nat):Bool:=match h.get c with
 |some (.cells _ _ cs)=>b11 b cs
 |_=>false
def co9(args:List AV)(h:Heap)(b:Nat):List BSrc→Bool
 | []=>false
 |s::r=>(match s with
  | .whole c=>b11 c args&&cI0 h b c
  | .view _=>false)||co9 args h b r
def c58(x:Option (Option Blk)):Bool:=match x with
 |some none=>true
 |_=>false
def c59(mt:Nat)(args:List AV)(h:Heap)(all:List BSrc)(post:List (Option Blk)):List BSrc→Nat→Bool
 | [],_=>true
 |s::r,i=>(Nat.blt i mt||(match s with
  | .whole b=>Nat.ble h.wm b&&Nat.blt b h.next&&(c58 post[i-mt]? ||b11 b args||co9 args h b all||d89 (h.get b))
  | .view _=>false))&&c59 mt args h all post r (i+1)
def bN5(e:SX):Bool:=(bn8 1000 e).isSome||T2 0 e
def isW(src:List BSrc)(i:Nat):Bool:=match src[i]? with
 |some (.whole _)=>true
 |_=>false
def clA(src:List BSrc)(mt:Nat)(post:List (Option Blk))(p:AV):Bool:=match p with
 | .oint _ e=>bN5 e
 | .ostr e=>bN5 e
 | .obool e=>bN5 e
 | .osl i x y _=>isW src i&&bN5 x&&bN5 y
 | .ous i x s=>bif Nat.ble src.length i then(match x,post[i-mt]? with
     | .op .llen [q],some (some (.arr _ sig q'))=>SX.beq q q'&&Nat.beq sig.length s
     |_,_=>false)else isW src i&&(bn8 1000 x).isSome
 | .ptr i _=>isW src i
 |p=>aF8 p
def b12(n:Nat)(p:AV):Bool:=match p with
 | .ous i _ _=>Nat.blt i n
 |_=>true
def clB(src:List BSrc)(mt:Nat)(post:List (Option Blk))(x:Option Blk):Bool:=match x with
 |none=>true
 |some (.cells _ _ ps)=>ps.all fun p=>clA src mt post p&&b12 src.length p&&p.oneA
 |some (.arr _ _ q)=>bN5 q
 |some (.marr _ _ _ q)=>bN5 q
 |_=>false
def bN6(x:Option Blk):Bool:=match x with
 |some (.arr _ _ q)=>bN5 q
 |_=>false
def aR7(src:List BSrc)(mt:Nat)(post:List (Option Blk)):List (Option Blk)→Nat→Bool
 | [],i=>Nat.ble src.length i
 |x::r,i=>bif Nat.blt i src.length then clB src mt post x&&aR7 src mt post r (i+1)else bN6 x&&aR7 src mt post r (i+1)
structure Binding where
 src:List BSrc
 es:List SX
 nd:SX
def cg3(c:FC)(nv:Nat):Bool:=bQ2 nv c.blks.length c.args&&c.blks.all (fun x=>okB nv c.blks.length (some x))&&T2 nv c.need&&a95 nv c.outs&&Nat.ble c.mt c.blks.length&&Nat.blt c.blks.length 60000&&c.blks.all (fun x=>match x with
  | .cells _ _ _=>true
  | .arr _ _ _=>true
  | .bag _ _ _=>true
  | .marr _ _ _ _=>true
  |_=>false)
def cI1(c:FC)(args:List AV)(h:Heap):Bnd:=
 bD2 h (aR6 ⟨(bD2 h ⟨(bD2 h (aR6 ⟨[],[]⟩ c.args args) c.blks 0).src,[]⟩ c.blks 0).src,[]⟩ c.args args) c.blks 0
def bt1(c:FC)(nv:Nat)(args:List AV)(h:Heap):Option Binding:=
 match cI1 c args h with
 |B=>match bN4 B.src c.blks.length 0,bN4 B.sx nv 0 with
  |some src,some es=>bif cg2 src es c.blks c.args args&&seps c.blks c.mt h src 0&&c59 c.mt args h src c.post src 0&&aR7 src c.mt c.post c.post c.mt&&(a86 c.out).all (clA src c.mt c.post)then(match cZ5 src es c.blks h c.blks src with
   |some nd=>some ⟨src,es,nd⟩
   |none=>none)else none
  |_,_=>none
def b74(es outs:List SX)(k:Nat):SX:=a60 es (outs.getD k (.cb false))
def at6(src:List BSrc)(n:Nat)(i:Nat):Nat:=match src[i]? with
 |some (.whole b)=>b
 |some (.view _)=>n
 |none=>n+(i-src.length)
mutual
def aW2(ρ:Nat→Nat):AV→AV
 | .ptr b o=> .ptr (ρ b) o
 | .sl b o n c=> .sl (ρ b) o n c
 | .us b o n s=> .us (ρ b) o n s
 | .es b o s=> .es (ρ b) o s
 | .map b=> .map (ρ b)
 | .func fn a c=> .func fn (aG8 ρ a) (aG8 ρ c)
 | .yield b=> .yield (ρ b)
 | .iface t v=> .iface t (aW2 ρ v)
 | .agg l=> .agg (aG8 ρ l)
 | .tup l=> .tup (aG8 ρ l)
 | .osl b x y s=> .osl (ρ b) x y s
 | .optr b x j s=> .optr (ρ b) x j s
 | .ous b x s=> .ous (ρ b) x s
 |x=>x
def aG8(ρ:Nat→Nat):List AV→List AV
 | []=>[]
 |a::r=>aW2 ρ a::aG8 ρ r
end
def aC8(ρ:Nat→Nat):Option Blk→Option Blk
 |some (.cells e fz cs)=>some (.cells e fz (aG8 ρ cs))
 |some (.arr e sig l)=>some (.arr e sig l)
 |some (.marr d ks vs l)=>some (.marr d ks vs l)
 |_=>none
mutual
def ad9(q:Nat→SX):AV→AV
 | .oint k e=>bQ1 k (U8 1000 q e)
 | .ostr e=> .ostr (U8 1000 q e)
 | .obool e=> .obool (U8 1000 q e)
 | .agg l=> .agg (ar1 q l)
 | .tup l=> .tup (ar1 q l)
 | .osl b x y s=> .osl b (U8 1000 q x) (U8 1000 q y) s
 | .ous b x s=> .ous b (cp0 q x) s
 |x=>x
def ar1(q:Nat→SX):List AV→List AV
 | []=>[]
 |a::r=>ad9 q a::ar1 q r
def cp0(q:Nat→SX):SX→SX
 | .op .llen [x]=> .op .llen [U8 1000 q x]
 |x=>U8 1000 q x
end
def ae9(q:Nat→SX):Option Blk→Option Blk
 |some (.cells e fz cs)=>some (.cells e fz (ar1 q cs))
 |some (.arr e sig l)=>some (.arr e sig (U8 1000 q l))
 |some (.marr d ks vs l)=>some (.marr d ks vs (U8 1000 q l))
 |x=>x
def a16(ρ:Nat→Nat)(q:Nat→SX)(m:Nat):List (Option Blk)→Nat→Heap→Heap
 | [],_,h=>h
 |x::r,i,h=>a16 ρ q m r (i+1) (bif Nat.blt i m then h.put (ρ i) (aC8 ρ (ae9 q x))else(match aC8 ρ (ae9 q x)with
  |some y=>h.new y
  |none=>h))
def cp1(e:SX)(v:AV)(h:Heap):Res:=match e with
 | .cb true=> .val v h
 |e=> .need e v h
def bt2(c:FC)(b:Binding)(h:Heap):Res:=
 cp1 (aK8 b.nd (a60 b.es c.need)) (aW2 (at6 b.src h.next) (ad9 (b74 b.es c.outs) c.out)) (a16 (at6 b.src h.next) (b74 b.es c.outs) c.blks.length c.post c.mt h)
def c60(x:AV)(h:Heap):Option (SX×AV×Heap):=match x with
 | .ous b len s=>(match h.get b with
   |some (.arr e sig l)=>bif Nat.ble h.wm b&& !(SX.beq len (.op .llen [l]))&&Nat.beq s sig.length then
    some (.op .and [.op (.cmp .leq) [.ci 0,len],.op (.cmp .leq) [len,.op .llen [l]]],.ous b (.op .llen [.op .lsub [l,.ci 0,len]]) s,h.put b (some (.arr e sig (.op .lsub [l,.ci 0,len]))))else none
   |_=>none)
 |_=>none
def ax8:List AV→Heap→SX×List AV×Heap
 | [],h=>(.cb true,[],h)
 |x::r,h=>match c60 x h with
  |some (e,x',h')=>(match ax8 r h' with
   |(e',r',h2)=>(aK8 e e',x'::r',h2))
  |none=>(match ax8 r h with
   |(e',r',h2)=>(e',x::r',h2))
def b13(nd:SX)(r:Res):Res:=match r with
 | .val v h=>cp1 nd v h
 | .need e v h=> .need (aK8 nd e) v h
 |_=> .bad
def aR8(c:FC)(nv:Nat)(args:List AV)(h:Heap):Res:=match bt1 c nv args h with
 |some b=>bt2 c b h
 |none=> .bad
def a62(c:FC)(nv:Nat)(args:List AV)(h:Heap):Res:=match bt1 c nv args h with
 |some b=>bt2 c b h
 |none=>(match ax8 args h with
  |(nd,args',h')=>b13 nd (aR8 c nv args' h'))
mutual
def Z0:AV→AV→Bool
 | .tup a,x=>(match x with
   | .tup b=>a78 a b
   |_=>false)
 | .agg a,x=>(match x with
   | .agg b=>Nat.beq a.length b.length
   |_=>false)
 |_,x=>(match x with
  | .tup _=>false
  | .agg _=>false
  |_=>true)
def a78:List AV→List AV→Bool
 | [],x=>(match x with
   | []=>true
   |_=>false)
 |a::r,x=>(match x with
  |b::q=>Z0 a b&&a78 r q
  | []=>false)
end
def de2(post:List (Option Blk))(k:Nat):Option (Nat×List CT):=match post[k]? with
 |some (some (.arr e sig _))=>some (e,sig)
 |_=>none
def bi0(post:List (Option Blk))(mt m base:Nat):List AV→Nat→List OwnP
 | [],_=>[]
 | .ous i _ _::r,t=>bif Nat.ble m i then(match de2 post (i-mt)with
   |some (e,sig)=>⟨t,base+(i-m),e,sig,none⟩::bi0 post mt m base r (t+1)
   |none=>bi0 post mt m base r (t+1))else bi0 post mt m base r (t+1)
 |_::r,t=>bi0 post mt m base r (t+1)
def cZ7(h:Heap)(b s:Nat)(x:AV):Bool:=match x,h.get b with
 | .ous c (.op .llen [l]) s',some (.arr _ _ l')=>Nat.beq b c&&Nat.beq s s'&&SX.beq l l'
 |_,_=>false
def cI2(m base n:Nat)(h:Heap)(p x:AV):Option (List SX):=match p with
 | .ous i q s=>bif Nat.ble m i then(bif cZ7 h (base+(i-m)) s x then some []else none)else S1 1000 base n (.ous i q s) x
 |p=>S1 1000 base n p x
def cp2(m base:Nat)(h:Heap)(a:Fr):List AV→Nat→Nat→Option (List SX)
 | [],_,_=>some []
 |p::ps,t,n=>match cI2 m base n h p (a.slot t)with
  |some e=>match cp2 m base h a ps (t+1) (n+e.length)with
   |some es=>some (e++es)
   |none=>none
  |none=>none
def cp3(m base:Nat)(h:Heap):List (Option Blk)→Nat→Nat→Option (List SX)
 | [],_,_=>some []
 |p::ps,i,n=>match aW8 1000 base n p (h.get (bif Nat.blt i m then i else base+(i-m)))with
  |some e=>match cp3 m base h ps (i+1) (n+e.length)with
   |some es=>some (e++es)
   |none=>none
  |none=>none
def d91(pc:PC):List SX→List SX
 | []=>[]
 |e::r=>d78 pc 16 e::d91 pc r
def di8(c:FC)(m base:Nat)(p:Fr×Heap)(pc:PC):VT:=match cp2 m base p.2 p.1 (a86 c.out) 0 0 with
 |some es=>match cp3 m base p.2 c.post c.mt es.length with
  |some fs=> .ret 0 (d91 pc (es++fs))
  |none=> .bad
 |none=> .bad
def di9(c:FC)(m base:Nat)(owns:List OwnP)(xs:List AV)(h:Heap)(pc:PC):VT:=
 match bo4 owns ⟨a97 xs 0 TF.empty,xs.length,[],0,[],none⟩ (h.upto (Nat.add base owns.length))with
 |some p=>di8 c m base p pc
 |none=> .bad
def bN7(h:Heap)(x:AV):SX×AV:=match x with
 | .ous r len s=>match h.get r with
   |some (.arr _ _ l)=>bif SX.beq len (.op .llen [l])then(.cb true,x)else(.op (.cmp .eql) [len,.op .llen [l]],.ous r (.op .llen [l]) s)
   |_=>(.cb true,x)
 |x=>(.cb true,x)
def b14(h:Heap):List AV→SX×List AV
 | []=>(.cb true,[])
 |a::r=>match bN7 h a,b14 h r with
  |(e,x),(e',xs)=>(aK8 e e',x::xs)
def dj0(c:FC)(h:Heap)(p:SX×List AV):RPT:=aB4.need p.1 (di9 c c.blks.length h.next (bi0 c.post c.mt c.blks.length h.next (a86 c.out) 0) p.2 h)
def kFC(c:FC)(v:AV)(h:Heap):RPT:=
 bif Z0 c.out v&&Nat.ble (a86 v).length 256 then dj0 c h (b14 h (a86 v))else fun _=> .bad
def ae0:List Blk→Heap→Heap
 | [],h=>h
 |x::r,h=>ae0 r (h.new x)
def cZ8(wm:Nat)(t:TH)(next _:Nat):Heap:=⟨t,next,wm⟩
def Heap.setwm(h:Heap)(wm:Nat):Heap:=Heap.rec (cZ8 wm) h
def FC.heap(c:FC):Heap:=(ae0 c.blks Heap.empty).setwm c.mt
def FC.run(E:Env)(fuel:Nat)(f:FuncId)(c:FC)(args:List AV):VT:=ev E fuel RPT aB4 (.body f args c.heap (kFC c)) []
end
end Go.Ev
