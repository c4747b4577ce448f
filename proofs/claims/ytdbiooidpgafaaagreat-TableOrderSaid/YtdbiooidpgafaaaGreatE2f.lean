import Derived.Test.YtdbiooidpgafaaaGreatE2
set_option linter.unusedVariables false
namespace Go.Ev
open Go
noncomputable section
structure LGen where
 id:Nat
 v0:Nat
 dead:List Nat
 own:List (Nat×Option Nat×Nat×List CT)
 abs:List Nat
 mem:List Nat
 fvs:List Nat
 exits:List (Ex×List (Nat×AV))
 maps:List (Nat×List CT×List CT):=[]
 gone:List Ex:=[]
 mapr:Bool:=false
mutual
def cM5:AV→List SX
 | .oint _ e=>[e]
 | .ostr e=>[e]
 | .obool e=>[e]
 | .osl _ x y _=>[x,y]
 | .ous _ x _=>[x]
 | .agg l=>c79 l
 | .iface _ x=>cM5 x
 |_=>[]
def c79:List AV→List SX
 | []=>[]
 |a::r=>cM5 a++c79 r
end
def d33(x:Option Blk):List SX:=match x with
 |some (.cells _ _ cs)=>c79 cs
 |some (.arr _ _ l)=>[l]
 |some (.marr _ _ _ l)=>[l]
 |some (.bag _ _ l)=>[l]
 |some (.mrg _ _ _ _ l)=>[l]
 |_=>[]
mutual
def dh5(n:Nat):AV→AV×Nat
 | .int k _=>(.oint k (.va n),n+1)
 | .oint k _=>(.oint k (.va n),n+1)
 | .str _=>(.ostr (.va n),n+1)
 | .ostr _=>(.ostr (.va n),n+1)
 | .bool _=>(.obool (.va n),n+1)
 | .obool _=>(.obool (.va n),n+1)
 | .osl b _ _ s=>(.osl b (.va n) (.va (n+1)) s,n+2)
 | .ous b _ s=>(.ous b (.va n) s,n+1)
 | .agg l=>match cM6 n l with
   |(l',m)=>(.agg l',m)
 |x=>(x,n)
def cM6(n:Nat):List AV→List AV×Nat
 | []=>([],n)
 |a::r=>match dh5 n a with
  |(a',m)=>match cM6 m r with
   |(r',m')=>(a'::r',m')
end
def dh6(n:Nat)(x:Option Blk):Option Blk×Nat:=match x with
 |some (.cells e fz cs)=>match cM6 n cs with
  |(cs',m)=>(some (.cells e fz cs'),m)
 |some (.arr e sig _)=>(some (.arr e sig (.va n)),n+1)
 |some (.marr d ks vs _)=>(some (.marr d ks vs (.va n)),n+1)
 |x=>(x,n)
def dh7(t:Nat):List Nat→Bool
 | []=>false
 |a::r=>bif Nat.beq a t then true else dh7 t r
def d34(t:Nat):List (Nat×AV)→Option AV
 | []=>none
 |a::r=>bif Nat.beq a.1 t then some a.2 else d34 t r
def cM7(look:Nat→Option AV):Nat→Nat→Nat→List (Nat×AV)×Nat
 |0,_,n=>([],n)
 |m+1,t,n=>match look t with
  |some v=>match dh5 n v with
   |(v',n')=>match cM7 look m (t+1) n' with
    |(r,n'')=>((t,v')::r,n'')
  |none=>cM7 look m (t+1) n
def dh8(b:Nat):List (Nat×List Nat)→Option (List Nat)
 | []=>none
 |x::r=>bif Nat.beq x.1 b then(match x.2,dh8 b r with
  | [],_=>some []
  |l,some []=>some []
  |l,some l'=>some (l++l')
  |l,none=>some l)else dh8 b r
def cM8(l:List Nat):Nat→Nat→List AV→List AV×Nat
 |_,n,[]=>([],n)
 |i,n,a::r=>bif dh7 i l then(match dh5 n a with
     |(a',m)=>match cM8 l (i+1) m r with
      |(r',m')=>(a'::r',m'))
  else(match cM8 l (i+1) n r with
   |(r',m')=>(a::r',m'))
def dh9(l:List Nat)(n:Nat)(x:Option Blk):Option Blk×Nat:=match l,x with
 |_::_,some (.cells e fz cs)=>(match cM8 l 0 n cs with
  |(cs',m)=>(some (.cells e fz cs'),m))
 |_,x=>dh6 n x
def cM9(bs:List (Nat×List Nat))(h:Heap):Nat→Nat→Nat→List (Nat×Option Blk)×Nat
 |0,_,n=>([],n)
 |m+1,b,n=>match dh8 b bs with
  |some l=>(match dh9 l n (h.get b)with
   |(x,n')=>match cM9 bs h m (b+1) n' with
    |(r,n'')=>((b,x)::r,n''))
  |none=>cM9 bs h m (b+1) n
def d35(look:Nat→Option AV)(bs:List (Nat×List Nat))(nt:Nat)(h:Heap)(v0:Nat):StP:=match cM7 look nt 0 v0 with
 |(sl,n)=>match cM9 bs h h.next 0 n with
  |(bl,_)=>⟨sl,bl,h.next⟩
def cN0(a:Fr)(n:Nat):List (Nat×Option Nat×Nat×List CT)→List OwnP
 | []=>[]
 |(t,none,e,sig)::r=>⟨t,n,e,sig,none⟩::cN0 a (n+1) r
 |(t,some i,e,sig)::r=>(match a.slot t with
  | .ptr b o=>⟨t,n,e,sig,some (b,o+i)⟩
  |_=>⟨t,n,e,sig,none⟩)::cN0 a (n+1) r
mutual
def b55:AV→List Nat
 | .ptr b _=>[b]
 | .osl b _ _ _=>[b]
 | .ous b _ _=>[b]
 | .map b=>[b]
 | .agg l=>bi1 l
 | .func _ _ l=>bi1 l
 |_=>[]
def bi1:List AV→List Nat
 | []=>[]
 |a::r=>b55 a++bi1 r
end
def d36(a:Fr)(l:List Nat)(t:Nat):Option AV:=bif dh7 t l then some (a.slot t)else none
def di0(a:Fr)(l:List Nat)(x:List (Nat×AV))(t:Nat):Option AV:=match d34 t x with
 |some v=>some v
 |none=>d36 a l t
def di1(h:Heap)(x:Option Blk):List SX:=match x with
 |some (.cells _ _ cs)=>(bi1 cs).flatMap fun b=>d33 (h.get b)
 |_=>[]
def aY5(h:Heap)(b:Nat):List Nat:=match h.get b with
 |some (.cells _ _ cs)=>bi1 cs
 |_=>[]
def do7(h:Heap)(b:Nat):List SX:=match h.get b with
 |some (.arr _ _ l)=>[l]
 |_=>[]
def fvS(a:Fr)(h:Heap)(t:Nat):List SX:=
 bif Nat.ble 2000 t then((b55 (a.slot (t-2000))).flatMap (aY5 h)).flatMap fun b=>(aY5 h b).flatMap (do7 h)
 else bif Nat.ble 1000 t then(b55 (a.slot (t-1000))).flatMap fun b=>(aY5 h b).flatMap (do7 h)
 else cM5 (a.slot t)++((b55 (a.slot t)).flatMap fun b=>d33 (h.get b)++di1 h (h.get b))
def fvG(a:Fr)(h:Heap):List Nat→List SX
 | []=>[]
 |t::r=>fvS a h t++fvG a h r
def di2(l:List Nat):List (Nat×List Nat):=l.map fun b=>(b,[])
def dr3(a:Fr)(h:Heap)(t:Nat):List (Nat×List Nat):=bif Nat.ble 10000 t then(b55 (a.slot (t % 100))).map fun b=>(b,[(t-10000)/100])
 else bif Nat.ble 1000 t then di2 ((b55 (a.slot (t-1000))).flatMap (aY5 h))else di2 (b55 (a.slot t))
def exB:Ex→Ex→Bool
 | .norm,.norm=>true
 | .exit i,.exit j=>Nat.beq i j
 | .ret,.ret=>true
 |_,_=>false
def dr4(owns:List OwnP)(b:Nat):Bool:=owns.any fun o=>Nat.beq o.blk b
def d37(g:Bool)(owns:List OwnP)(s:StP):StP:=bif g then⟨s.slots,s.blks.map fun x=>bif dr4 owns x.1 then(x.1,none)else x,s.next⟩else s
def di3(g:LGen)(owns:List OwnP)(p:Fr×Heap)(bs:List (Nat×List Nat)):LSpec:=
 ⟨g.id,owns,g.v0,fvG p.1 p.2 g.fvs,g.dead,d35 (d36 p.1 g.abs) bs p.1.nt p.2 g.v0,g.exits.map fun x=>(x.1,d37 (g.gone.any (exB x.1)) owns (d35 (di0 p.1 g.abs x.2) bs p.1.nt p.2 g.v0)),g.mapr⟩
def bu6(ks vs:List CT)(h:Heap)(b:Nat):Heap:=match h.get b with
 |some (.map [] c)=>h.put b (some (.marr (Nat.beq c 0) ks vs (.op .row [])))
 |_=>h
def cC2(h:Heap):AV→Heap
 | .map b=>(match h.get b with
   |some (.marr _ ks vs l)=>h.put b (some (.marr false ks vs l))
   |_=>h)
 |_=>h
def aA8(a:Fr):List (Nat×List CT×List CT)→Heap→Heap
 | [],h=>h
 |(t,ks,vs)::r,h=>bif Nat.ble 30000 t then aA8 a r (((b55 (a.slot (t-30000))).flatMap (aY5 h)).foldl (fun h b=>cC2 (bu6 ks vs h b) (.map b)) h)else bif Nat.ble 20000 t then aA8 a r (cC2 h (a.slot (t-20000)))else bif Nat.ble 1000 t then aA8 a r (((b55 (a.slot (t-1000))).flatMap (aY5 h)).foldl (bu6 ks vs) h)else(match a.slot t with
  | .map b=>aA8 a r (bu6 ks vs h b)
  |_=>aA8 a r h)
def ao1(g:LGen)(a:Fr)(h:Heap):LSpec:=
 match cN0 a h.next g.own with
 |owns=>match aT7 ⟨g.id,owns,g.v0,[],g.dead,⟨[],[],0⟩,[],false⟩ (V5 owns a h).2 (h.upto (Nat.add h.next owns.length))with
  |p=>di3 g owns (p.1,aA8 p.1 g.maps p.2) (di2 (owns.map (·.blk))++(g.mem.map (dr3 p.1 p.2)).flatten)
mutual
def a91:AV→List AV
 | .agg cs=>cs
 | .tup vs=>ap2 vs
 |v=>[v]
def ap2:List AV→List AV
 | []=>[]
 |a::r=>a91 a++ap2 r
end
inductive BSrc where
 |whole (b:Nat)
 |view (v:AV)
 deriving Inhabited
structure FC where
 args:List AV
 blks:List Blk
 mt:Nat
 need:SX
 out:AV
 post:List (Option Blk)
 outs:List SX
mutual
def a71(es:List SX):SX→SX
 | .va n=>es.getD n (.va n)
 | .op p l=> .op p (aP3 es l)
 | .app f l=> .app f (aP3 es l)
 |x=>x
def aP3(es:List SX):List SX→List SX
 | []=>[]
 |a::r=>a71 es a::aP3 es r
end
def ct2(sz:Nat)(sig:List CT)(n:Nat)(cs:List AV):Option (SX×SX):=match aq7 sig sz n cs with
 |some rs=>some (.cb true,.op .row rs)
 |none=>none
def c80(sz elem:Nat)(sig:List CT)(x:AV)(h:Heap):Option (SX×SX):=match x with
 | .nils=>some (.cb true,.op .row [])
 | .ous b len s=>match h.get b with
   |some (.arr e sg l)=>bif Nat.beq s sz&&Nat.beq e elem&&Y3 sg sig then(bif SX.beq len (.op .llen [l])then some (.cb true,l)else some (.op .and [.op (.cmp .leq) [.ci 0,len],.op (.cmp .leq) [len,.op .llen [l]]],.op .lsub [l,.ci 0,len]))else none
   |_=>none
 | .osl b off len s=>match h.get b with
   |some (.arr e sg l)=>bif Nat.beq s sz&&Nat.beq e elem&&Y3 sg sig then(bif SX.beq off (.ci 0)&&SX.beq len (.op .llen [l])then some (.cb true,l)else some (.op .and [.op (.cmp .leq) [.ci 0,off],.op .and [.op (.cmp .leq) [.ci 0,len],.op (.cmp .leq) [.op .iadd [off,len],.op .llen [l]]]],.op .lsub [l,off,.op .iadd [off,len]]))else none
   |_=>none
 | .sl b o n c=>match h.get b with
   |some (.cells e fz cs)=>bif Nat.beq e elem&&Nat.ble n c&&Nat.ble fz o&&Nat.ble (o+n*sz) cs.length&&Nat.blt 0 n then ct2 sz sig n ((cs.drop o).take (n*sz))else none
   |_=>none
 | .us b o n s=>match h.get b with
   |some (.cells e fz cs)=>bif Nat.blt 0 sz&&Nat.beq s sz&&Nat.beq e elem&&Nat.ble fz o&&Nat.ble (o+n*sz) cs.length then ct2 sz sig n ((cs.drop o).take (n*sz))else none
   |_=>none
 |_=>none
def dc9(elem:Nat)(x:Option Blk):Nat:=match x with
 |some (.arr e _ _)=>e
 |some (.cells e _ _)=>e
 |_=>elem
def di4(x:AV)(h:Heap)(elem:Nat):Nat:=match x with
 | .ous b _ _=>dc9 elem (h.get b)
 | .osl b _ _ _=>dc9 elem (h.get b)
 | .sl b _ _ _=>dc9 elem (h.get b)
 | .us b _ _ _=>dc9 elem (h.get b)
 |_=>elem
def cC3(x:AV)(h:Heap)(elem:Nat):Nat:=bif Nat.beq elem aV8 then di4 x h elem else elem
def bQ1(sz elem:Nat)(sig:List CT)(x:AV)(h:Heap):Option (SX×SX):=c80 sz (cC3 x h elem) sig x h
structure Bnd where
 src:List (Nat×BSrc)
 sx:List (Nat×SX)
def di5{α:Type}(i:Nat):List (Nat×α)→Bool
 | []=>false
 |a::r=>bif Nat.beq a.1 i then true else di5 i r
def Bnd.addS(B:Bnd)(i:Nat)(s:BSrc):Bnd:=bif di5 i B.src then B else⟨(i,s)::B.src,B.sx⟩
def dd0{α:Type}(i:Nat):List (Nat×α)→Option α
 | []=>none
 |a::r=>bif Nat.beq a.1 i then some a.2 else dd0 i r
def Bnd.addG(B:Bnd)(j:Nat)(x:SX):Bnd:=match dd0 j B.sx with
 |none=>(match x with
  | .op .lget [.app f l,.ci (.ofNat 0),_]=>⟨B.src,(j,.app f l)::B.sx⟩
  | .op .lget [.va n,.ci (.ofNat 0),_]=>⟨B.src,(j,.va n)::B.sx⟩
  |x=>⟨B.src,(j,.op .row [.op .row [x]])::B.sx⟩)
 |some (.op .row [.op .row l])=>⟨B.src,(j,.op .row [.op .row (l++[x])])::B.sx⟩
 |some _=>B
def Bnd.addX(B:Bnd)(p x:SX):Bnd:=match p with
 | .va j=>bif di5 j B.sx then B else⟨B.src,(j,x)::B.sx⟩
 | .op .lget [.va j,_,_]=>B.addG j x
 |_=>B
def Bnd.addO(B:Bnd)(p:SX)(x:Option SX):Bnd:=match x with
 |some x=>B.addX p x
 |none=>B
def aP4(p q:SX):Bool:=match p,q with
 | .ci 0,.op .llen _=>true
 |_,_=>false
mutual
def d38(B:Bnd):AV→AV→Bnd
 | .oint _ p,x=>B.addO p ((b09 x).map (·.2))
 | .ostr p,x=>B.addO p (bo5 x)
 | .obool p,x=>B.addO p (bo6 x)
 | .agg ps,.agg xs=>aP5 B ps xs
 | .iface _ p,.iface _ x=>d38 B p x
 | .func _ a b,.func _ c d=>aP5 (aP5 B a c) b d
 | .ptr i _,.ptr b _=>B.addS i (.whole b)
 | .map i,.map b=>B.addS i (.whole b)
 | .sl i _ _ _,.sl b _ _ _=>B.addS i (.whole b)
 | .osl i p q _,x=>bif aP4 p q then B.addS i (.view x)else(match x with
   | .osl b p' q' _=>((B.addS i (.whole b)).addX p p').addX q q'
   |_=>B)
 | .ous i q _,.ous b q' _=>(B.addS i (.whole b)).addX q q'
 |_,_=>B
def aP5(B:Bnd):List AV→List AV→Bnd
 | [],_=>B
 |_::_,[]=>B
 |p::ps,x::xs=>aP5 (d38 B p x) ps xs
end
def di6(h:Heap)(B:Bnd)(p:Blk)(s:Option BSrc):Bnd:=match s with
 |some (.whole b)=>(match p,h.get b with
  | .cells _ _ ps,some (.cells _ _ xs)=>aP5 B ps xs
  | .arr _ _ q,some (.arr _ _ l)=>B.addX q l
  | .bag _ _ q,some (.bag _ _ l)=>B.addX q l
  | .marr _ _ _ q,some (.marr _ _ _ l)=>B.addX q l
  | .marr _ _ _ q,some (.map [] _)=>B.addX q (.op .row [])
  |_,_=>B)
 |some (.view v)=>(match p with
  | .arr e sig q=>(match bQ1 sig.length e sig v h with
    |some (_,l)=>B.addX q l
    |none=>B)
  |_=>B)
 |none=>B
def bF2(h:Heap)(B:Bnd):List Blk→Nat→Bnd
 | [],_=>B
 |p::r,i=>bF2 h (di6 h B p (dd0 i B.src)) r (i+1)
def bQ2{α:Type}(l:List (Nat×α)):Nat→Nat→Option (List α)
 |0,_=>some []
 |n+1,i=>match dd0 i l,bQ2 l n (i+1)with
  |some x,some r=>some (x::r)
  |_,_=>none
def aE3:AV→Bool
 | .bool _| .int _ _| .str _| .nilp| .glob _| .nils| .nilm| .nilf| .nili=>true
 |_=>false
def as4(s:Option BSrc)(b:Nat):Bool:=match s with
 |some (.whole c)=>Nat.beq c b
 |_=>false
def b56(s:Option BSrc)(x:AV):Bool:=match s with
 |some (.view v)=>AV.beq v x
 |_=>false
def di7(e:SX):SX:=match e with
 | .op .lget [.op .row [.op .row l],.ci (.ofNat 0),.ci (.ofNat k)]=>(match l[k]? with
   |some x=>x
   |none=>e)
 |e=>e
def d39(es:List SX)(p x:SX):Bool:=SX.beq (di7 (a71 es p)) x
def ckX(es:List SX)(p:SX)(x:Option SX):Bool:=match x with
 |some x=>d39 es p x
 |none=>false
def ckI(es:List SX)(k:IntKind)(p:SX)(x:Option (IntKind×SX)):Bool:=match x with
 |some (k',x)=>decide (k=k')&&d39 es p x
 |none=>false
def c81(blks:List Blk)(i s:Nat)(q:SX):Bool:=match blks[i]? with
 |some (.arr _ sig l)=>Nat.beq sig.length s&&SX.beq q (.op .llen [l])
 |_=>false
def cN1(src:List BSrc)(es:List SX)(i:Nat)(p q:SX)(s:Nat)(x:AV):Bool:=match x with
 | .osl b p' q' s'=>Nat.beq s s'&&as4 src[i]? b&&d39 es p p'&&d39 es q q'
 |_=>false
def cN2(src:List BSrc)(es:List SX)(i:Nat)(q:SX)(s:Nat)(x:AV):Bool:=match x with
 | .ous b q' s'=>Nat.beq s s'&&as4 src[i]? b&&SX.beq (a71 es q) q'
 |_=>false
def cN3(src:List BSrc)(i o:Nat)(x:AV):Bool:=match x with
 | .ptr b o'=>Nat.beq o o'&&as4 src[i]? b
 |_=>false
def cN4(src:List BSrc)(i:Nat)(x:AV):Bool:=match x with
 | .map b=>as4 src[i]? b
 |_=>false
def di8(src:List BSrc)(i o n c:Nat)(x:AV):Bool:=match x with
 | .sl b o' n' c'=>Nat.beq o o'&&Nat.beq n n'&&Nat.beq c c'&&as4 src[i]? b
 |_=>false
mutual
def ckA(src:List BSrc)(es:List SX)(blks:List Blk):AV→AV→Bool
 | .oint k p,x=>ckI es k p (b09 x)
 | .ostr p,x=>ckX es p (bo5 x)
 | .obool p,x=>ckX es p (bo6 x)
 | .agg ps,x=>(match x with
   | .agg xs=>ck7 src es blks ps xs
   |_=>false)
 | .iface t p,x=>(match x with
   | .iface u y=>Nat.beq t u&&ckA src es blks p y
   |_=>false)
 | .func f a b,x=>(match x with
   | .func g c d=>decide (f=g)&&ck7 src es blks a c&&ck7 src es blks b d
   |_=>false)
 | .ptr i o,x=>cN3 src i o x
 | .map i,x=>cN4 src i x
 | .sl i o n c,x=>di8 src i o n c x
 | .osl i p q s,x=>bif aP4 p q then c81 blks i s q&&b56 src[i]? x else cN1 src es i p q s x
 | .ous i q s,x=>cN2 src es i q s x
 |p,x=>aE3 p&&AV.beq p x
def ck7(src:List BSrc)(es:List SX)(blks:List Blk):List AV→List AV→Bool
 | [],xs=>(match xs with
   | []=>true
   |_=>false)
 |p::ps,xs=>(match xs with
  |x::xs=>ckA src es blks p x&&ck7 src es blks ps xs
  |_=>false)
end
def ckB(src:List BSrc)(es:List SX)(blks:List Blk)(h:Heap)(p:Blk)(s:BSrc):Option SX:=match s with
 | .whole b=>(match p,h.get b with
   | .cells e fz ps,some (.cells e' fz' xs)=>bif Nat.beq e e'&&Nat.beq fz fz'&&ps.all AV.oneA&&ck7 src es blks ps xs then some (.cb true)else none
   | .arr e sig q,some (.arr e' sig' l)=>bif Nat.beq e e'&&Y3 sig sig'&&SX.beq (a71 es q) l then some (.cb true)else none
   | .bag e sig q,some (.bag e' sig' l)=>bif Nat.beq e e'&&Y3 sig sig'&&SX.beq (a71 es q) l then some (.cb true)else none
   | .marr d ks vs q,some (.marr d' ks' vs' l)=>bif (!d||d')&&Y3 ks ks'&&Y3 vs vs'&&SX.beq (a71 es q) l then some (.cb true)else none
   | .marr d _ _ q,some (.map [] c)=>bif (!d||Nat.beq c 0)&&SX.beq (a71 es q) (.op .row [])then some (.cb true)else none
   |_,_=>none)
 | .view v=>(match p with
   | .arr e sig q=>(match bQ1 sig.length e sig v h with
     |some (nd,l)=>bif SX.beq (a71 es q) l then some nd else none
     |none=>none)
   |_=>none)
def d40(src:List BSrc)(es:List SX)(blks:List Blk)(h:Heap):List Blk→List BSrc→Option SX
 | [],[]=>some (.cb true)
 |p::ps,s::ss=>match ckB src es blks h p s,d40 src es blks h ps ss with
  |some a,some b=>some (aJ6 a b)
  |_,_=>none
 |_,_=>none
def a72:BSrc→Option Nat
 | .whole b=>some b
 | .view (.ous b _ _)=>some b
 | .view (.osl b _ _ _)=>some b
 | .view (.sl b _ _ _)=>some b
 | .view (.us b _ _ _)=>some b
 | .view _=>none
def neB(a b:Option Nat):Bool:=match a,b with
 |some x,some y=> !(Nat.beq x y)
 |_,_=>true
def do8(p:Option Blk):Bool:=match p with
 |some (.arr _ _ _)=>true
 |_=>false
def d41(p:Option Blk):Bool:=match p with
 |some (.arr _ _ _)=>true
 |some (.bag _ _ _)=>true
 |_=>false
def dr5(p:Option Blk):Bool:=match p with
 |some (.arr _ _ _)=>true
 |some (.bag _ _ _)=>true
 |some (.vec _)=>true
 |_=>false
def di9(h:Heap)(b:Option Nat):Bool:=match b with
 |some b=>dr5 (h.get b)
 |none=>false
def geB(n:Nat)(b:Option Nat):Bool:=match b with
 |some b=>Nat.ble n b
 |none=>true
def d42(blks:List Blk)(mt:Nat)(h:Heap)(i j:Nat)(a b:Option Nat):Bool:=
 (Nat.blt i mt&&Nat.blt j mt&&do8 blks[i]? &&do8 blks[j]?)||(neB a b&&(geB h.wm a||geB h.wm b|| !(di9 h a)|| !(di9 h b)))
def dd1(blks:List Blk)(mt:Nat)(h:Heap)(i:Nat)(s:BSrc):List BSrc→Nat→Bool
 | [],_=>true
 |t::r,j=>d42 blks mt h i j (a72 s) (a72 t)&&dd1 blks mt h i s r (j+1)
def seps(blks:List Blk)(mt:Nat)(h:Heap):List BSrc→Nat→Bool
 | [],_=>true
 |s::r,i=>dd1 blks mt h i s r (i+1)&&seps blks mt h r (i+1)
def aY6(b:Nat):List AV→Bool
 | []=>false
 |x::r=>(match x with
  | .ptr c _=>Nat.beq c b
  | .map c=>Nat.beq c b
  |_=>false)||aY6 b r
def cN5(h:Heap)(b c:Nat):Bool:=match h.get c with
 |some (.cells _ _ cs)=>aY6 b cs
 |_=>false
def ct3(args:List AV)(h:Heap)(b:Nat):List BSrc→Bool
 | []=>false
 |s::r=>(match s with
  | .whole c=>aY6 c args&&cN5 h b c
  | .view _=>false)||ct3 args h b r
def c82(x:Option (Option Blk)):Bool:=match x with
 |some none=>true
 |_=>false
def c83(mt:Nat)(args:List AV)(h:Heap)(all:List BSrc)(post:List (Option Blk)):List BSrc→Nat→Bool
 | [],_=>true
 |s::r,i=>(Nat.blt i mt||(match s with
  | .whole b=>Nat.ble h.wm b&&Nat.blt b h.next&&(c82 post[i-mt]? ||aY6 b args||ct3 args h b all||d41 (h.get b))
  | .view _=>false))&&c83 mt args h all post r (i+1)
def bQ3(e:SX):Bool:=(bp2 1000 e).isSome||V4 0 e
def isW(src:List BSrc)(i:Nat):Bool:=match src[i]? with
 |some (.whole _)=>true
 |_=>false
def clA(src:List BSrc)(mt:Nat)(post:List (Option Blk))(p:AV):Bool:=match p with
 | .oint _ e=>bQ3 e
 | .ostr e=>bQ3 e
 | .obool e=>bQ3 e
 | .osl i x y _=>isW src i&&bQ3 x&&bQ3 y
 | .ous i x s=>bif Nat.ble src.length i then(match x,post[i-mt]? with
     | .op .llen [q],some (some (.arr _ sig q'))=>SX.beq q q'&&Nat.beq sig.length s
     |_,_=>false)else isW src i&&(bp2 1000 x).isSome
 | .ptr i _=>isW src i
 |p=>aE3 p
def aY7(n:Nat)(p:AV):Bool:=match p with
 | .ous i _ _=>Nat.blt i n
 |_=>true
def clB(src:List BSrc)(mt:Nat)(post:List (Option Blk))(x:Option Blk):Bool:=match x with
 |none=>true
 |some (.cells _ _ ps)=>ps.all fun p=>clA src mt post p&&aY7 src.length p&&p.oneA
 |some (.arr _ _ q)=>bQ3 q
 |some (.marr _ _ _ q)=>bQ3 q
 |_=>false
def bQ4(x:Option Blk):Bool:=match x with
 |some (.arr _ _ q)=>bQ3 q
 |_=>false
def aP6(src:List BSrc)(mt:Nat)(post:List (Option Blk)):List (Option Blk)→Nat→Bool
 | [],i=>Nat.ble src.length i
 |x::r,i=>bif Nat.blt i src.length then clB src mt post x&&aP6 src mt post r (i+1)else bQ4 x&&aP6 src mt post r (i+1)
structure Binding where
 src:List BSrc
 es:List SX
 nd:SX
def ck8(c:FC)(nv:Nat):Bool:=bS7 nv c.blks.length c.args&&c.blks.all (fun x=>okB nv c.blks.length (some x))&&V4 nv c.need&&aa0 nv c.outs&&Nat.ble c.mt c.blks.length&&Nat.blt c.blks.length 60000&&c.blks.all (fun x=>match x with
  | .cells _ _ _=>true
  | .arr _ _ _=>true
  | .bag _ _ _=>true
  | .marr _ _ _ _=>true
  |_=>false)
def cN6(c:FC)(args:List AV)(h:Heap):Bnd:=
 bF2 h (aP5 ⟨(bF2 h ⟨(bF2 h (aP5 ⟨[],[]⟩ c.args args) c.blks 0).src,[]⟩ c.blks 0).src,[]⟩ c.args args) c.blks 0
def bu7(c:FC)(nv:Nat)(args:List AV)(h:Heap):Option Binding:=
 match cN6 c args h with
 |B=>match bQ2 B.src c.blks.length 0,bQ2 B.sx nv 0 with
  |some src,some es=>bif ck7 src es c.blks c.args args&&seps c.blks c.mt h src 0&&c83 c.mt args h src c.post src 0&&aP6 src c.mt c.post c.post c.mt&&(a91 c.out).all (clA src c.mt c.post)then(match d40 src es c.blks h c.blks src with
   |some nd=>some ⟨src,es,nd⟩
   |none=>none)else none
  |_,_=>none
def b57(es outs:List SX)(k:Nat):SX:=a71 es (outs.getD k (.cb false))
def as5(src:List BSrc)(n:Nat)(i:Nat):Nat:=match src[i]? with
 |some (.whole b)=>b
 |some (.view _)=>n
 |none=>n+(i-src.length)
mutual
def aT9(ρ:Nat→Nat):AV→AV
 | .ptr b o=> .ptr (ρ b) o
 | .sl b o n c=> .sl (ρ b) o n c
 | .us b o n s=> .us (ρ b) o n s
 | .es b o s=> .es (ρ b) o s
 | .map b=> .map (ρ b)
 | .func fn a c=> .func fn (aF7 ρ a) (aF7 ρ c)
 | .yield b=> .yield (ρ b)
 | .iface t v=> .iface t (aT9 ρ v)
 | .agg l=> .agg (aF7 ρ l)
 | .tup l=> .tup (aF7 ρ l)
 | .osl b x y s=> .osl (ρ b) x y s
 | .optr b x j s=> .optr (ρ b) x j s
 | .ous b x s=> .ous (ρ b) x s
 |x=>x
def aF7(ρ:Nat→Nat):List AV→List AV
 | []=>[]
 |a::r=>aT9 ρ a::aF7 ρ r
end
def aA9(ρ:Nat→Nat):Option Blk→Option Blk
 |some (.cells e fz cs)=>some (.cells e fz (aF7 ρ cs))
 |some (.arr e sig l)=>some (.arr e sig l)
 |some (.marr d ks vs l)=>some (.marr d ks vs l)
 |_=>none
mutual
def ae0(q:Nat→SX):AV→AV
 | .oint k e=>bS6 k (W8 1000 q e)
 | .ostr e=> .ostr (W8 1000 q e)
 | .obool e=> .obool (W8 1000 q e)
 | .agg l=> .agg (ap3 q l)
 | .tup l=> .tup (ap3 q l)
 | .osl b x y s=> .osl b (W8 1000 q x) (W8 1000 q y) s
 | .ous b x s=> .ous b (ct4 q x) s
 |x=>x
def ap3(q:Nat→SX):List AV→List AV
 | []=>[]
 |a::r=>ae0 q a::ap3 q r
def ct4(q:Nat→SX):SX→SX
 | .op .llen [x]=> .op .llen [W8 1000 q x]
 |x=>W8 1000 q x
end
def af0(q:Nat→SX):Option Blk→Option Blk
 |some (.cells e fz cs)=>some (.cells e fz (ap3 q cs))
 |some (.arr e sig l)=>some (.arr e sig (W8 1000 q l))
 |some (.marr d ks vs l)=>some (.marr d ks vs (W8 1000 q l))
 |x=>x
def a37(ρ:Nat→Nat)(q:Nat→SX)(m:Nat):List (Option Blk)→Nat→Heap→Heap
 | [],_,h=>h
 |x::r,i,h=>a37 ρ q m r (i+1) (bif Nat.blt i m then h.put (ρ i) (aA9 ρ (af0 q x))else(match aA9 ρ (af0 q x)with
  |some y=>h.new y
  |none=>h))
def ct5(e:SX)(v:AV)(h:Heap):Res:=match e with
 | .cb true=> .val v h
 |e=> .need e v h
def bu8(c:FC)(b:Binding)(h:Heap):Res:=
 ct5 (aJ6 b.nd (a71 b.es c.need)) (aT9 (as5 b.src h.next) (ae0 (b57 b.es c.outs) c.out)) (a37 (as5 b.src h.next) (b57 b.es c.outs) c.blks.length c.post c.mt h)
def c84(x:AV)(h:Heap):Option (SX×AV×Heap):=match x with
 | .ous b len s=>(match h.get b with
   |some (.arr e sig l)=>bif Nat.ble h.wm b&& !(SX.beq len (.op .llen [l]))&&Nat.beq s sig.length then
    some (.op .and [.op (.cmp .leq) [.ci 0,len],.op (.cmp .leq) [len,.op .llen [l]]],.ous b (.op .llen [.op .lsub [l,.ci 0,len]]) s,h.put b (some (.arr e sig (.op .lsub [l,.ci 0,len]))))else none
   |_=>none)
 |_=>none
def aw5:List AV→Heap→SX×List AV×Heap
 | [],h=>(.cb true,[],h)
 |x::r,h=>match c84 x h with
  |some (e,x',h')=>(match aw5 r h' with
   |(e',r',h2)=>(aJ6 e e',x'::r',h2))
  |none=>(match aw5 r h with
   |(e',r',h2)=>(e',x::r',h2))
def aY8(nd:SX)(r:Res):Res:=match r with
 | .val v h=>ct5 nd v h
 | .need e v h=> .need (aJ6 nd e) v h
 |_=> .bad
def aP7(c:FC)(nv:Nat)(args:List AV)(h:Heap):Res:=match bu7 c nv args h with
 |some b=>bu8 c b h
 |none=> .bad
def a42(c:FC)(nv:Nat)(args:List AV)(h:Heap):Res:=match bu7 c nv args h with
 |some b=>bu8 c b h
 |none=>(match aw5 args h with
  |(nd,args',h')=>aY8 nd (aP7 c nv args' h'))
mutual
def a06:AV→AV→Bool
 | .tup a,x=>(match x with
   | .tup b=>a80 a b
   |_=>false)
 | .agg a,x=>(match x with
   | .agg b=>Nat.beq a.length b.length
   |_=>false)
 |_,x=>(match x with
  | .tup _=>false
  | .agg _=>false
  |_=>true)
def a80:List AV→List AV→Bool
 | [],x=>(match x with
   | []=>true
   |_=>false)
 |a::r,x=>(match x with
  |b::q=>a06 a b&&a80 r q
  | []=>false)
end
def dj0(post:List (Option Blk))(k:Nat):Option (Nat×List CT):=match post[k]? with
 |some (some (.arr e sig _))=>some (e,sig)
 |_=>none
def bi2(post:List (Option Blk))(mt m base:Nat):List AV→Nat→List OwnP
 | [],_=>[]
 | .ous i _ _::r,t=>bif Nat.ble m i then(match dj0 post (i-mt)with
   |some (e,sig)=>⟨t,base+(i-m),e,sig,none⟩::bi2 post mt m base r (t+1)
   |none=>bi2 post mt m base r (t+1))else bi2 post mt m base r (t+1)
 |_::r,t=>bi2 post mt m base r (t+1)
def d43(h:Heap)(b s:Nat)(x:AV):Bool:=match x,h.get b with
 | .ous c (.op .llen [l]) s',some (.arr _ _ l')=>Nat.beq b c&&Nat.beq s s'&&SX.beq l l'
 |_,_=>false
def cN7(m base n:Nat)(h:Heap)(p x:AV):Option (List SX):=match p with
 | .ous i q s=>bif Nat.ble m i then(bif d43 h (base+(i-m)) s x then some []else none)else T6 1000 base n (.ous i q s) x
 |p=>T6 1000 base n p x
def ct6(m base:Nat)(h:Heap)(a:Fr):List AV→Nat→Nat→Option (List SX)
 | [],_,_=>some []
 |p::ps,t,n=>match cN7 m base n h p (a.slot t)with
  |some e=>match ct6 m base h a ps (t+1) (n+e.length)with
   |some es=>some (e++es)
   |none=>none
  |none=>none
def ct7(m base:Nat)(h:Heap):List (Option Blk)→Nat→Nat→Option (List SX)
 | [],_,_=>some []
 |p::ps,i,n=>match aU4 1000 base n p (h.get (bif Nat.blt i m then i else base+(i-m)))with
  |some e=>match ct7 m base h ps (i+1) (n+e.length)with
   |some es=>some (e++es)
   |none=>none
  |none=>none
def dd2(pc:PC):List SX→List SX
 | []=>[]
 |e::r=>dc1 pc 16 e::dd2 pc r
def do9(c:FC)(m base:Nat)(p:Fr×Heap)(pc:PC):VT:=match ct6 m base p.2 p.1 (a91 c.out) 0 0 with
 |some es=>match ct7 m base p.2 c.post c.mt es.length with
  |some fs=> .ret 0 (dd2 pc (es++fs))
  |none=> .bad
 |none=> .bad
def dp0(c:FC)(m base:Nat)(owns:List OwnP)(xs:List AV)(h:Heap)(pc:PC):VT:=
 match bp8 owns ⟨aa2 xs 0 TF.empty,xs.length,[],0,[],none⟩ (h.upto (Nat.add base owns.length))with
 |some p=>do9 c m base p pc
 |none=> .bad
def bQ5(h:Heap)(x:AV):SX×AV:=match x with
 | .ous r len s=>match h.get r with
   |some (.arr _ _ l)=>bif SX.beq len (.op .llen [l])then(.cb true,x)else(.op (.cmp .eql) [len,.op .llen [l]],.ous r (.op .llen [l]) s)
   |_=>(.cb true,x)
 |x=>(.cb true,x)
def aY9(h:Heap):List AV→SX×List AV
 | []=>(.cb true,[])
 |a::r=>match bQ5 h a,aY9 h r with
  |(e,x),(e',xs)=>(aJ6 e e',x::xs)
def dp1(c:FC)(h:Heap)(p:SX×List AV):RPT:=ao0.need p.1 (dp0 c c.blks.length h.next (bi2 c.post c.mt c.blks.length h.next (a91 c.out) 0) p.2 h)
def kFC(c:FC)(v:AV)(h:Heap):RPT:=
 bif a06 c.out v&&Nat.ble (a91 v).length 256 then dp1 c h (aY9 h (a91 v))else fun _=> .bad
def W0:List Blk→Heap→Heap
 | [],h=>h
 |x::r,h=>W0 r (h.new x)
def d44(wm:Nat)(t:TH)(next _:Nat):Heap:=⟨t,next,wm⟩
def Heap.setwm(h:Heap)(wm:Nat):Heap:=Heap.rec (d44 wm) h
def FC.heap(c:FC):Heap:=(W0 c.blks Heap.empty).setwm c.mt
def FC.run(E:Env)(fuel:Nat)(f:FuncId)(c:FC)(args:List AV):VT:=ev E fuel RPT ao0 (.body f args c.heap (kFC c)) []
end
end Go.Ev
