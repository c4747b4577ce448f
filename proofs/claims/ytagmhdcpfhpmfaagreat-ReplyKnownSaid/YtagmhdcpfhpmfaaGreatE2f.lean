import Derived.Test.YtagmhdcpfhpmfaaGreatE2
set_option linter.unusedVariables false
namespace Go.Ev
open Go
noncomputable section
structure LGen where
 id:Nat
 v0:Nat
 dead:List Nat
 own:List (Nat×Option Nat×Nat×List CT)
 abs:List Nat
 mem:List Nat
 fvs:List Nat
 exits:List (Ex×List (Nat×AV))
 maps:List (Nat×List CT×List CT):=[]
 gone:List Ex:=[]
mutual
def cZ6:AV→List SX
 | .oint _ e=>[e]
 | .ostr e=>[e]
 | .obool e=>[e]
 | .osl _ x y _=>[x,y]
 | .ous _ x _=>[x]
 | .agg l=>co1 l
 | .iface _ x=>cZ6 x
 |_=>[]
def co1:List AV→List SX
 | []=>[]
 |a::r=>cZ6 a++co1 r
end
def dd1(x:Option Blk):List SX:=match x with
 |some (.cells _ _ cs)=>co1 cs
 |some (.arr _ _ l)=>[l]
 |some (.marr _ _ l)=>[l]
 |_=>[]
mutual
def dr4(n:Nat):AV→AV×Nat
 | .int k _=>(.oint k (.va n),n+1)
 | .oint k _=>(.oint k (.va n),n+1)
 | .str _=>(.ostr (.va n),n+1)
 | .ostr _=>(.ostr (.va n),n+1)
 | .bool _=>(.obool (.va n),n+1)
 | .obool _=>(.obool (.va n),n+1)
 | .osl b _ _ s=>(.osl b (.va n) (.va (n+1)) s,n+2)
 | .ous b _ s=>(.ous b (.va n) s,n+1)
 | .agg l=>match cZ7 n l with
   |(l',m)=>(.agg l',m)
 |x=>(x,n)
def cZ7(n:Nat):List AV→List AV×Nat
 | []=>([],n)
 |a::r=>match dr4 n a with
  |(a',m)=>match cZ7 m r with
   |(r',m')=>(a'::r',m')
end
def dr5(n:Nat)(x:Option Blk):Option Blk×Nat:=match x with
 |some (.cells e fz cs)=>match cZ7 n cs with
  |(cs',m)=>(some (.cells e fz cs'),m)
 |some (.arr e sig _)=>(some (.arr e sig (.va n)),n+1)
 |some (.marr ks vs _)=>(some (.marr ks vs (.va n)),n+1)
 |x=>(x,n)
def dr6(t:Nat):List Nat→Bool
 | []=>false
 |a::r=>bif Nat.beq a t then true else dr6 t r
def dd2(t:Nat):List (Nat×AV)→Option AV
 | []=>none
 |a::r=>bif Nat.beq a.1 t then some a.2 else dd2 t r
def cZ8(look:Nat→Option AV):Nat→Nat→Nat→List (Nat×AV)×Nat
 |0,_,n=>([],n)
 |m+1,t,n=>match look t with
  |some v=>match dr4 n v with
   |(v',n')=>match cZ8 look m (t+1) n' with
    |(r,n'')=>((t,v')::r,n'')
  |none=>cZ8 look m (t+1) n
def dr7(b:Nat):List (Nat×List Nat)→Option (List Nat)
 | []=>none
 |x::r=>bif Nat.beq x.1 b then(match x.2,dr7 b r with
  | [],_=>some []
  |l,some []=>some []
  |l,some l'=>some (l++l')
  |l,none=>some l)else dr7 b r
def cZ9(l:List Nat):Nat→Nat→List AV→List AV×Nat
 |_,n,[]=>([],n)
 |i,n,a::r=>bif dr6 i l then(match dr4 n a with
     |(a',m)=>match cZ9 l (i+1) m r with
      |(r',m')=>(a'::r',m'))
  else(match cZ9 l (i+1) n r with
   |(r',m')=>(a::r',m'))
def dr8(l:List Nat)(n:Nat)(x:Option Blk):Option Blk×Nat:=match l,x with
 |_::_,some (.cells e fz cs)=>(match cZ9 l 0 n cs with
  |(cs',m)=>(some (.cells e fz cs'),m))
 |_,x=>dr5 n x
def d00(bs:List (Nat×List Nat))(h:Heap):Nat→Nat→Nat→List (Nat×Option Blk)×Nat
 |0,_,n=>([],n)
 |m+1,b,n=>match dr7 b bs with
  |some l=>(match dr8 l n (h.get b)with
   |(x,n')=>match d00 bs h m (b+1) n' with
    |(r,n'')=>((b,x)::r,n''))
  |none=>d00 bs h m (b+1) n
def dd3(look:Nat→Option AV)(bs:List (Nat×List Nat))(nt:Nat)(h:Heap)(v0:Nat):StP:=match cZ8 look nt 0 v0 with
 |(sl,n)=>match d00 bs h h.next 0 n with
  |(bl,_)=>⟨sl,bl,h.next⟩
def d01(a:Fr)(n:Nat):List (Nat×Option Nat×Nat×List CT)→List OwnP
 | []=>[]
 |(t,none,e,sig)::r=>⟨t,n,e,sig,none⟩::d01 a (n+1) r
 |(t,some i,e,sig)::r=>(match a.slot t with
  | .ptr b o=>⟨t,n,e,sig,some (b,o+i)⟩
  |_=>⟨t,n,e,sig,none⟩)::d01 a (n+1) r
mutual
def bO2:AV→List Nat
 | .ptr b _=>[b]
 | .osl b _ _ _=>[b]
 | .ous b _ _=>[b]
 | .map b=>[b]
 | .agg l=>bG3 l
 | .func _ _ l=>bG3 l
 |_=>[]
def bG3:List AV→List Nat
 | []=>[]
 |a::r=>bO2 a++bG3 r
end
def dd4(a:Fr)(l:List Nat)(t:Nat):Option AV:=bif dr6 t l then some (a.slot t)else none
def dr9(a:Fr)(l:List Nat)(x:List (Nat×AV))(t:Nat):Option AV:=match dd2 t x with
 |some v=>some v
 |none=>dd4 a l t
def ds0(h:Heap)(x:Option Blk):List SX:=match x with
 |some (.cells _ _ cs)=>(bG3 cs).flatMap fun b=>dd1 (h.get b)
 |_=>[]
def c10(h:Heap)(b:Nat):List Nat:=match h.get b with
 |some (.cells _ _ cs)=>bG3 cs
 |_=>[]
def dx3(h:Heap)(b:Nat):List SX:=match h.get b with
 |some (.arr _ _ l)=>[l]
 |_=>[]
def fvS(a:Fr)(h:Heap)(t:Nat):List SX:=
 bif Nat.ble 2000 t then((bO2 (a.slot (t-2000))).flatMap (c10 h)).flatMap fun b=>(c10 h b).flatMap (dx3 h)
 else bif Nat.ble 1000 t then(bO2 (a.slot (t-1000))).flatMap fun b=>(c10 h b).flatMap (dx3 h)
 else cZ6 (a.slot t)++((bO2 (a.slot t)).flatMap fun b=>dd1 (h.get b)++ds0 h (h.get b))
def fvG(a:Fr)(h:Heap):List Nat→List SX
 | []=>[]
 |t::r=>fvS a h t++fvG a h r
def ds1(l:List Nat):List (Nat×List Nat):=l.map fun b=>(b,[])
def dz8(a:Fr)(h:Heap)(t:Nat):List (Nat×List Nat):=bif Nat.ble 10000 t then(bO2 (a.slot (t % 100))).map fun b=>(b,[(t-10000)/100])
 else bif Nat.ble 1000 t then ds1 ((bO2 (a.slot (t-1000))).flatMap (c10 h))else ds1 (bO2 (a.slot t))
def exB:Ex→Ex→Bool
 | .norm,.norm=>true
 | .exit i,.exit j=>Nat.beq i j
 | .ret,.ret=>true
 |_,_=>false
def dz9(owns:List OwnP)(b:Nat):Bool:=owns.any fun o=>Nat.beq o.blk b
def dd5(g:Bool)(owns:List OwnP)(s:StP):StP:=bif g then⟨s.slots,s.blks.map fun x=>bif dz9 owns x.1 then(x.1,none)else x,s.next⟩else s
def ds2(g:LGen)(owns:List OwnP)(p:Fr×Heap)(bs:List (Nat×List Nat)):LSpec:=
 ⟨g.id,owns,g.v0,fvG p.1 p.2 g.fvs,g.dead,dd3 (dd4 p.1 g.abs) bs p.1.nt p.2 g.v0,g.exits.map fun x=>(x.1,dd5 (g.gone.any (exB x.1)) owns (dd3 (dr9 p.1 g.abs x.2) bs p.1.nt p.2 g.v0))⟩
def br1(a:Fr):List (Nat×List CT×List CT)→Heap→Heap
 | [],h=>h
 |(t,ks,vs)::r,h=>(match a.slot t with
  | .map b=>(match h.get b with
    |some (.map [] _)=>br1 a r (h.put b (some (.marr ks vs (.op .row []))))
    |_=>br1 a r h)
  |_=>br1 a r h)
def aR8(g:LGen)(a:Fr)(h:Heap):LSpec:=
 match d01 a h.next g.own with
 |owns=>match bh0 ⟨g.id,owns,g.v0,[],g.dead,⟨[],[],0⟩,[]⟩ (S0 owns a h).2 (h.upto (Nat.add h.next owns.length))with
  |p=>ds2 g owns (p.1,br1 p.1 g.maps p.2) (ds1 (owns.map (·.blk))++(g.mem.map (dz8 p.1 p.2)).flatten)
mutual
def a46:AV→List AV
 | .agg cs=>cs
 | .tup vs=>aw8 vs
 |v=>[v]
def aw8:List AV→List AV
 | []=>[]
 |a::r=>a46 a++aw8 r
end
inductive BSrc where
 |whole (b:Nat)
 |view (v:AV)
 deriving Inhabited
structure FC where
 args:List AV
 blks:List Blk
 mt:Nat
 need:SX
 out:AV
 post:List (Option Blk)
 outs:List SX
mutual
def a88(es:List SX):SX→SX
 | .va n=>es.getD n (.va n)
 | .op p l=> .op p (b43 es l)
 | .app f l=> .app f (b43 es l)
 |x=>x
def b43(es:List SX):List SX→List SX
 | []=>[]
 |a::r=>a88 es a::b43 es r
end
def cH0(sz:Nat)(sig:List CT)(n:Nat)(cs:List AV):Option (SX×SX):=match ax6 sig sz n cs with
 |some rs=>some (.cb true,.op .row rs)
 |none=>none
def co2(sz elem:Nat)(sig:List CT)(x:AV)(h:Heap):Option (SX×SX):=match x with
 | .nils=>some (.cb true,.op .row [])
 | .ous b len s=>match h.get b with
   |some (.arr e sg l)=>bif Nat.beq s sz&&Nat.beq e elem&&Z9 sg sig then(bif SX.beq len (.op .llen [l])then some (.cb true,l)else some (.op .and [.op (.cmp .leq) [.ci 0,len],.op (.cmp .leq) [len,.op .llen [l]]],.op .lsub [l,.ci 0,len]))else none
   |_=>none
 | .osl b off len s=>match h.get b with
   |some (.arr e sg l)=>bif Nat.beq s sz&&Nat.beq e elem&&Z9 sg sig then(bif SX.beq off (.ci 0)&&SX.beq len (.op .llen [l])then some (.cb true,l)else some (.op .and [.op (.cmp .leq) [.ci 0,off],.op .and [.op (.cmp .leq) [.ci 0,len],.op (.cmp .leq) [.op .iadd [off,len],.op .llen [l]]]],.op .lsub [l,off,.op .iadd [off,len]]))else none
   |_=>none
 | .sl b o n c=>match h.get b with
   |some (.cells e fz cs)=>bif Nat.beq e elem&&Nat.ble n c&&Nat.ble fz o&&Nat.ble (o+n*sz) cs.length&&Nat.blt 0 n then cH0 sz sig n ((cs.drop o).take (n*sz))else none
   |_=>none
 | .us b o n s=>match h.get b with
   |some (.cells e fz cs)=>bif Nat.blt 0 sz&&Nat.beq s sz&&Nat.beq e elem&&Nat.ble fz o&&Nat.ble (o+n*sz) cs.length then cH0 sz sig n ((cs.drop o).take (n*sz))else none
   |_=>none
 |_=>none
def dn9(elem:Nat)(x:Option Blk):Nat:=match x with
 |some (.arr e _ _)=>e
 |some (.cells e _ _)=>e
 |_=>elem
def ds3(x:AV)(h:Heap)(elem:Nat):Nat:=match x with
 | .ous b _ _=>dn9 elem (h.get b)
 | .osl b _ _ _=>dn9 elem (h.get b)
 | .sl b _ _ _=>dn9 elem (h.get b)
 | .us b _ _ _=>dn9 elem (h.get b)
 |_=>elem
def cQ3(x:AV)(h:Heap)(elem:Nat):Nat:=bif Nat.beq elem aB0 then ds3 x h elem else elem
def c89(sz elem:Nat)(sig:List CT)(x:AV)(h:Heap):Option (SX×SX):=co2 sz (cQ3 x h elem) sig x h
structure Bnd where
 src:List (Nat×BSrc)
 sx:List (Nat×SX)
def ds4{α:Type}(i:Nat):List (Nat×α)→Bool
 | []=>false
 |a::r=>bif Nat.beq a.1 i then true else ds4 i r
def Bnd.addS(B:Bnd)(i:Nat)(s:BSrc):Bnd:=bif ds4 i B.src then B else⟨(i,s)::B.src,B.sx⟩
def do0{α:Type}(i:Nat):List (Nat×α)→Option α
 | []=>none
 |a::r=>bif Nat.beq a.1 i then some a.2 else do0 i r
def Bnd.addG(B:Bnd)(j:Nat)(x:SX):Bnd:=match do0 j B.sx with
 |none=>(match x with
  | .op .lget [.app f l,.ci (.ofNat 0),_]=>⟨B.src,(j,.app f l)::B.sx⟩
  | .op .lget [.va n,.ci (.ofNat 0),_]=>⟨B.src,(j,.va n)::B.sx⟩
  |x=>⟨B.src,(j,.op .row [.op .row [x]])::B.sx⟩)
 |some (.op .row [.op .row l])=>⟨B.src,(j,.op .row [.op .row (l++[x])])::B.sx⟩
 |some _=>B
def Bnd.addX(B:Bnd)(p x:SX):Bnd:=match p with
 | .va j=>bif ds4 j B.sx then B else⟨B.src,(j,x)::B.sx⟩
 | .op .lget [.va j,_,_]=>B.addG j x
 |_=>B
def Bnd.addO(B:Bnd)(p:SX)(x:Option SX):Bnd:=match x with
 |some x=>B.addX p x
 |none=>B
def b44(p q:SX):Bool:=match p,q with
 | .ci 0,.op .llen _=>true
 |_,_=>false
mutual
def dd6(B:Bnd):AV→AV→Bnd
 | .oint _ p,x=>B.addO p ((bg8 x).map (·.2))
 | .ostr p,x=>B.addO p (bI4 x)
 | .obool p,x=>B.addO p (bJ4 x)
 | .agg ps,.agg xs=>b45 B ps xs
 | .iface _ p,.iface _ x=>dd6 B p x
 | .func _ a b,.func _ c d=>b45 (b45 B a c) b d
 | .ptr i _,.ptr b _=>B.addS i (.whole b)
 | .sl i _ _ _,.sl b _ _ _=>B.addS i (.whole b)
 | .osl i p q _,x=>bif b44 p q then B.addS i (.view x)else(match x with
   | .osl b p' q' _=>((B.addS i (.whole b)).addX p p').addX q q'
   |_=>B)
 | .ous i q _,.ous b q' _=>(B.addS i (.whole b)).addX q q'
 |_,_=>B
def b45(B:Bnd):List AV→List AV→Bnd
 | [],_=>B
 |_::_,[]=>B
 |p::ps,x::xs=>b45 (dd6 B p x) ps xs
end
def ds5(h:Heap)(B:Bnd)(p:Blk)(s:Option BSrc):Bnd:=match s with
 |some (.whole b)=>(match p,h.get b with
  | .cells _ _ ps,some (.cells _ _ xs)=>b45 B ps xs
  | .arr _ _ q,some (.arr _ _ l)=>B.addX q l
  |_,_=>B)
 |some (.view v)=>(match p with
  | .arr e sig q=>(match c89 sig.length e sig v h with
    |some (_,l)=>B.addX q l
    |none=>B)
  |_=>B)
 |none=>B
def c11(h:Heap)(B:Bnd):List Blk→Nat→Bnd
 | [],_=>B
 |p::r,i=>c11 h (ds5 h B p (do0 i B.src)) r (i+1)
def c90{α:Type}(l:List (Nat×α)):Nat→Nat→Option (List α)
 |0,_=>some []
 |n+1,i=>match do0 i l,c90 l n (i+1)with
  |some x,some r=>some (x::r)
  |_,_=>none
def aR9:AV→Bool
 | .bool _| .int _ _| .str _| .nilp| .glob _| .nils| .nilm| .nilf| .nili=>true
 |_=>false
def aL1(s:Option BSrc)(b:Nat):Bool:=match s with
 |some (.whole c)=>Nat.beq c b
 |_=>false
def br2(s:Option BSrc)(x:AV):Bool:=match s with
 |some (.view v)=>AV.beq v x
 |_=>false
def ds6(e:SX):SX:=match e with
 | .op .lget [.op .row [.op .row l],.ci (.ofNat 0),.ci (.ofNat k)]=>(match l[k]? with
   |some x=>x
   |none=>e)
 |e=>e
def dd7(es:List SX)(p x:SX):Bool:=SX.beq (ds6 (a88 es p)) x
def ckX(es:List SX)(p:SX)(x:Option SX):Bool:=match x with
 |some x=>dd7 es p x
 |none=>false
def ckI(es:List SX)(k:IntKind)(p:SX)(x:Option (IntKind×SX)):Bool:=match x with
 |some (k',x)=>decide (k=k')&&dd7 es p x
 |none=>false
def co3(blks:List Blk)(i s:Nat)(q:SX):Bool:=match blks[i]? with
 |some (.arr _ sig l)=>Nat.beq sig.length s&&SX.beq q (.op .llen [l])
 |_=>false
def d02(src:List BSrc)(es:List SX)(i:Nat)(p q:SX)(s:Nat)(x:AV):Bool:=match x with
 | .osl b p' q' s'=>Nat.beq s s'&&aL1 src[i]? b&&dd7 es p p'&&dd7 es q q'
 |_=>false
def d03(src:List BSrc)(es:List SX)(i:Nat)(q:SX)(s:Nat)(x:AV):Bool:=match x with
 | .ous b q' s'=>Nat.beq s s'&&aL1 src[i]? b&&SX.beq (a88 es q) q'
 |_=>false
def d04(src:List BSrc)(i o:Nat)(x:AV):Bool:=match x with
 | .ptr b o'=>Nat.beq o o'&&aL1 src[i]? b
 |_=>false
def ds7(src:List BSrc)(i o n c:Nat)(x:AV):Bool:=match x with
 | .sl b o' n' c'=>Nat.beq o o'&&Nat.beq n n'&&Nat.beq c c'&&aL1 src[i]? b
 |_=>false
mutual
def ckA(src:List BSrc)(es:List SX)(blks:List Blk):AV→AV→Bool
 | .oint k p,x=>ckI es k p (bg8 x)
 | .ostr p,x=>ckX es p (bI4 x)
 | .obool p,x=>ckX es p (bJ4 x)
 | .agg ps,x=>(match x with
   | .agg xs=>cz3 src es blks ps xs
   |_=>false)
 | .iface t p,x=>(match x with
   | .iface u y=>Nat.beq t u&&ckA src es blks p y
   |_=>false)
 | .func f a b,x=>(match x with
   | .func g c d=>decide (f=g)&&cz3 src es blks a c&&cz3 src es blks b d
   |_=>false)
 | .ptr i o,x=>d04 src i o x
 | .sl i o n c,x=>ds7 src i o n c x
 | .osl i p q s,x=>bif b44 p q then co3 blks i s q&&br2 src[i]? x else d02 src es i p q s x
 | .ous i q s,x=>d03 src es i q s x
 |p,x=>aR9 p&&AV.beq p x
def cz3(src:List BSrc)(es:List SX)(blks:List Blk):List AV→List AV→Bool
 | [],xs=>(match xs with
   | []=>true
   |_=>false)
 |p::ps,xs=>(match xs with
  |x::xs=>ckA src es blks p x&&cz3 src es blks ps xs
  |_=>false)
end
def ckB(src:List BSrc)(es:List SX)(blks:List Blk)(h:Heap)(p:Blk)(s:BSrc):Option SX:=match s with
 | .whole b=>(match p,h.get b with
   | .cells e fz ps,some (.cells e' fz' xs)=>bif Nat.beq e e'&&Nat.beq fz fz'&&ps.all AV.oneA&&cz3 src es blks ps xs then some (.cb true)else none
   | .arr e sig q,some (.arr e' sig' l)=>bif Nat.beq e e'&&Z9 sig sig'&&SX.beq (a88 es q) l then some (.cb true)else none
   |_,_=>none)
 | .view v=>(match p with
   | .arr e sig q=>(match c89 sig.length e sig v h with
     |some (nd,l)=>bif SX.beq (a88 es q) l then some nd else none
     |none=>none)
   |_=>none)
def dd8(src:List BSrc)(es:List SX)(blks:List Blk)(h:Heap):List Blk→List BSrc→Option SX
 | [],[]=>some (.cb true)
 |p::ps,s::ss=>match ckB src es blks h p s,dd8 src es blks h ps ss with
  |some a,some b=>some (bi7 a b)
  |_,_=>none
 |_,_=>none
def a23:BSrc→Option Nat
 | .whole b=>some b
 | .view (.ous b _ _)=>some b
 | .view (.osl b _ _ _)=>some b
 | .view (.sl b _ _ _)=>some b
 | .view (.us b _ _ _)=>some b
 | .view _=>none
def neB(a b:Option Nat):Bool:=match a,b with
 |some x,some y=> !(Nat.beq x y)
 |_,_=>true
def dd9(p:Option Blk):Bool:=match p with
 |some (.arr _ _ _)=>true
 |_=>false
def ds8(h:Heap)(b:Option Nat):Bool:=match b with
 |some b=>dd9 (h.get b)
 |none=>false
def geB(n:Nat)(b:Option Nat):Bool:=match b with
 |some b=>Nat.ble n b
 |none=>true
def de0(blks:List Blk)(mt:Nat)(h:Heap)(i j:Nat)(a b:Option Nat):Bool:=
 (Nat.blt i mt&&Nat.blt j mt&&dd9 blks[i]? &&dd9 blks[j]?)||(neB a b&&(geB h.wm a||geB h.wm b|| !(ds8 h a)|| !(ds8 h b)))
def do1(blks:List Blk)(mt:Nat)(h:Heap)(i:Nat)(s:BSrc):List BSrc→Nat→Bool
 | [],_=>true
 |t::r,j=>de0 blks mt h i j (a23 s) (a23 t)&&do1 blks mt h i s r (j+1)
def seps(blks:List Blk)(mt:Nat)(h:Heap):List BSrc→Nat→Bool
 | [],_=>true
 |s::r,i=>do1 blks mt h i s r (i+1)&&seps blks mt h r (i+1)
def bl6(b:Nat):List AV→Bool
 | []=>false
 |x::r=>(match x with
  | .ptr c _=>Nat.beq c b
  |_=>false)||bl6 b r
def d05(h:Heap)(b c:Nat):Bool:=match h.get c with
 |some (.cells _ _ cs)=>bl6 b cs
 |_=>false
def cH1(args:List AV)(h:Heap)(b:Nat):List BSrc→Bool
 | []=>false
 |s::r=>(match s with
  | .whole c=>bl6 c args&&d05 h b c
  | .view _=>false)||cH1 args h b r
def co4(x:Option (Option Blk)):Bool:=match x with
 |some none=>true
 |_=>false
def co5(mt:Nat)(args:List AV)(h:Heap)(all:List BSrc)(post:List (Option Blk)):List BSrc→Nat→Bool
 | [],_=>true
 |s::r,i=>(Nat.blt i mt||(match s with
  | .whole b=>Nat.ble h.wm b&&Nat.blt b h.next&&(co4 post[i-mt]? ||bl6 b args||cH1 args h b all||dd9 (h.get b))
  | .view _=>false))&&co5 mt args h all post r (i+1)
def ca9(e:SX):Bool:=(bJ8 1000 e).isSome||R7 0 e
def isW(src:List BSrc)(i:Nat):Bool:=match src[i]? with
 |some (.whole _)=>true
 |_=>false
def clA(src:List BSrc)(mt:Nat)(post:List (Option Blk))(p:AV):Bool:=match p with
 | .oint _ e=>ca9 e
 | .ostr e=>ca9 e
 | .obool e=>ca9 e
 | .osl i x y _=>isW src i&&ca9 x&&ca9 y
 | .ous i x s=>bif Nat.ble src.length i then(match x,post[i-mt]? with
     | .op .llen [q],some (some (.arr _ sig q'))=>SX.beq q q'&&Nat.beq sig.length s
     |_,_=>false)else isW src i&&(bJ8 1000 x).isSome
 | .ptr i _=>isW src i
 |p=>aR9 p
def bl7(n:Nat)(p:AV):Bool:=match p with
 | .ous i _ _=>Nat.blt i n
 |_=>true
def clB(src:List BSrc)(mt:Nat)(post:List (Option Blk))(x:Option Blk):Bool:=match x with
 |none=>true
 |some (.cells _ _ ps)=>ps.all fun p=>clA src mt post p&&bl7 src.length p&&p.oneA
 |some (.arr _ _ q)=>ca9 q
 |_=>false
def c91(x:Option Blk):Bool:=match x with
 |some (.arr _ _ q)=>ca9 q
 |_=>false
def b46(src:List BSrc)(mt:Nat)(post:List (Option Blk)):List (Option Blk)→Nat→Bool
 | [],i=>Nat.ble src.length i
 |x::r,i=>bif Nat.blt i src.length then clB src mt post x&&b46 src mt post r (i+1)else c91 x&&b46 src mt post r (i+1)
structure Binding where
 src:List BSrc
 es:List SX
 nd:SX
def cz4(c:FC)(nv:Nat):Bool:=ca8 nv c.blks.length c.args&&c.blks.all (fun x=>okB nv c.blks.length (some x))&&R7 nv c.need&&a61 nv c.outs&&Nat.ble c.mt c.blks.length&&Nat.blt c.blks.length 60000&&c.blks.all (fun x=>match x with
  | .cells _ _ _=>true
  | .arr _ _ _=>true
  |_=>false)
def d06(c:FC)(args:List AV)(h:Heap):Bnd:=
 c11 h (b45 ⟨(c11 h ⟨(c11 h (b45 ⟨[],[]⟩ c.args args) c.blks 0).src,[]⟩ c.blks 0).src,[]⟩ c.args args) c.blks 0
def bO3(c:FC)(nv:Nat)(args:List AV)(h:Heap):Option Binding:=
 match d06 c args h with
 |B=>match c90 B.src c.blks.length 0,c90 B.sx nv 0 with
  |some src,some es=>bif cz3 src es c.blks c.args args&&seps c.blks c.mt h src 0&&co5 c.mt args h src c.post src 0&&b46 src c.mt c.post c.post c.mt&&(a46 c.out).all (clA src c.mt c.post)then(match dd8 src es c.blks h c.blks src with
   |some nd=>some ⟨src,es,nd⟩
   |none=>none)else none
  |_,_=>none
def br3(es outs:List SX)(k:Nat):SX:=a88 es (outs.getD k (.cb false))
def az0(src:List BSrc)(n:Nat)(i:Nat):Nat:=match src[i]? with
 |some (.whole b)=>b
 |some (.view _)=>n
 |none=>n+(i-src.length)
mutual
def bg2(ρ:Nat→Nat):AV→AV
 | .ptr b o=> .ptr (ρ b) o
 | .sl b o n c=> .sl (ρ b) o n c
 | .us b o n s=> .us (ρ b) o n s
 | .es b o s=> .es (ρ b) o s
 | .map b=> .map (ρ b)
 | .func fn a c=> .func fn (aT0 ρ a) (aT0 ρ c)
 | .yield b=> .yield (ρ b)
 | .iface t v=> .iface t (bg2 ρ v)
 | .agg l=> .agg (aT0 ρ l)
 | .tup l=> .tup (aT0 ρ l)
 | .osl b x y s=> .osl (ρ b) x y s
 | .optr b x j s=> .optr (ρ b) x j s
 | .ous b x s=> .ous (ρ b) x s
 |x=>x
def aT0(ρ:Nat→Nat):List AV→List AV
 | []=>[]
 |a::r=>bg2 ρ a::aT0 ρ r
end
def aT1(ρ:Nat→Nat):Option Blk→Option Blk
 |some (.cells e fz cs)=>some (.cells e fz (aT0 ρ cs))
 |some (.arr e sig l)=>some (.arr e sig l)
 |_=>none
mutual
def aa2(q:Nat→SX):AV→AV
 | .oint k e=>ca7 k (T0 1000 q e)
 | .ostr e=> .ostr (T0 1000 q e)
 | .obool e=> .obool (T0 1000 q e)
 | .agg l=> .agg (aw9 q l)
 | .tup l=> .tup (aw9 q l)
 | .osl b x y s=> .osl b (T0 1000 q x) (T0 1000 q y) s
 | .ous b x s=> .ous b (cH2 q x) s
 |x=>x
def aw9(q:Nat→SX):List AV→List AV
 | []=>[]
 |a::r=>aa2 q a::aw9 q r
def cH2(q:Nat→SX):SX→SX
 | .op .llen [x]=> .op .llen [T0 1000 q x]
 |x=>T0 1000 q x
end
def ak2(q:Nat→SX):Option Blk→Option Blk
 |some (.cells e fz cs)=>some (.cells e fz (aw9 q cs))
 |some (.arr e sig l)=>some (.arr e sig (T0 1000 q l))
 |x=>x
def Z2(ρ:Nat→Nat)(q:Nat→SX)(m:Nat):List (Option Blk)→Nat→Heap→Heap
 | [],_,h=>h
 |x::r,i,h=>Z2 ρ q m r (i+1) (bif Nat.blt i m then h.put (ρ i) (aT1 ρ (ak2 q x))else(match aT1 ρ (ak2 q x)with
  |some y=>h.new y
  |none=>h))
def cH3(e:SX)(v:AV)(h:Heap):Res:=match e with
 | .cb true=> .val v h
 |e=> .need e v h
def bO4(c:FC)(b:Binding)(h:Heap):Res:=
 cH3 (bi7 b.nd (a88 b.es c.need)) (bg2 (az0 b.src h.next) (aa2 (br3 b.es c.outs) c.out)) (Z2 (az0 b.src h.next) (br3 b.es c.outs) c.blks.length c.post c.mt h)
def co6(x:AV)(h:Heap):Option (SX×AV×Heap):=match x with
 | .ous b len s=>(match h.get b with
   |some (.arr e sig l)=>bif Nat.ble h.wm b&& !(SX.beq len (.op .llen [l]))&&Nat.beq s sig.length then
    some (.op .and [.op (.cmp .leq) [.ci 0,len],.op (.cmp .leq) [len,.op .llen [l]]],.ous b (.op .llen [.op .lsub [l,.ci 0,len]]) s,h.put b (some (.arr e sig (.op .lsub [l,.ci 0,len]))))else none
   |_=>none)
 |_=>none
def aD4:List AV→Heap→SX×List AV×Heap
 | [],h=>(.cb true,[],h)
 |x::r,h=>match co6 x h with
  |some (e,x',h')=>(match aD4 r h' with
   |(e',r',h2)=>(bi7 e e',x'::r',h2))
  |none=>(match aD4 r h with
   |(e',r',h2)=>(e',x::r',h2))
def bl8(nd:SX)(r:Res):Res:=match r with
 | .val v h=>cH3 nd v h
 | .need e v h=> .need (bi7 nd e) v h
 |_=> .bad
def b47(c:FC)(nv:Nat)(args:List AV)(h:Heap):Res:=match bO3 c nv args h with
 |some b=>bO4 c b h
 |none=> .bad
def a89(c:FC)(nv:Nat)(args:List AV)(h:Heap):Res:=match bO3 c nv args h with
 |some b=>bO4 c b h
 |none=>(match aD4 args h with
  |(nd,args',h')=>bl8 nd (b47 c nv args' h'))
mutual
def X0:AV→AV→Bool
 | .tup a,x=>(match x with
   | .tup b=>a35 a b
   |_=>false)
 | .agg a,x=>(match x with
   | .agg b=>Nat.beq a.length b.length
   |_=>false)
 |_,x=>(match x with
  | .tup _=>false
  | .agg _=>false
  |_=>true)
def a35:List AV→List AV→Bool
 | [],x=>(match x with
   | []=>true
   |_=>false)
 |a::r,x=>(match x with
  |b::q=>X0 a b&&a35 r q
  | []=>false)
end
def ds9(post:List (Option Blk))(k:Nat):Option (Nat×List CT):=match post[k]? with
 |some (some (.arr e sig _))=>some (e,sig)
 |_=>none
def bG4(post:List (Option Blk))(mt m base:Nat):List AV→Nat→List OwnP
 | [],_=>[]
 | .ous i _ _::r,t=>bif Nat.ble m i then(match ds9 post (i-mt)with
   |some (e,sig)=>⟨t,base+(i-m),e,sig,none⟩::bG4 post mt m base r (t+1)
   |none=>bG4 post mt m base r (t+1))else bG4 post mt m base r (t+1)
 |_::r,t=>bG4 post mt m base r (t+1)
def de1(h:Heap)(b s:Nat)(x:AV):Bool:=match x,h.get b with
 | .ous c (.op .llen [l]) s',some (.arr _ _ l')=>Nat.beq b c&&Nat.beq s s'&&SX.beq l l'
 |_,_=>false
def d07(m base n:Nat)(h:Heap)(p x:AV):Option (List SX):=match p with
 | .ous i q s=>bif Nat.ble m i then(bif de1 h (base+(i-m)) s x then some []else none)else P0 1000 base n (.ous i q s) x
 |p=>P0 1000 base n p x
def cH4(m base:Nat)(h:Heap)(a:Fr):List AV→Nat→Nat→Option (List SX)
 | [],_,_=>some []
 |p::ps,t,n=>match d07 m base n h p (a.slot t)with
  |some e=>match cH4 m base h a ps (t+1) (n+e.length)with
   |some es=>some (e++es)
   |none=>none
  |none=>none
def cH5(m base:Nat)(h:Heap):List (Option Blk)→Nat→Nat→Option (List SX)
 | [],_,_=>some []
 |p::ps,i,n=>match bn8 1000 base n p (h.get (bif Nat.blt i m then i else base+(i-m)))with
  |some e=>match cH5 m base h ps (i+1) (n+e.length)with
   |some es=>some (e++es)
   |none=>none
  |none=>none
def do2(pc:PC):List SX→List SX
 | []=>[]
 |e::r=>dn1 pc 16 e::do2 pc r
def dx4(c:FC)(m base:Nat)(p:Fr×Heap)(pc:PC):VT:=match cH4 m base p.2 p.1 (a46 c.out) 0 0 with
 |some es=>match cH5 m base p.2 c.post c.mt es.length with
  |some fs=> .ret 0 (do2 pc (es++fs))
  |none=> .bad
 |none=> .bad
def dx5(c:FC)(m base:Nat)(owns:List OwnP)(xs:List AV)(h:Heap)(pc:PC):VT:=
 match bK1 owns ⟨a62 xs 0 TF.empty,xs.length,[],0,[],none⟩ (h.upto (Nat.add base owns.length))with
 |some p=>dx4 c m base p pc
 |none=> .bad
def c92(h:Heap)(x:AV):SX×AV:=match x with
 | .ous r len s=>match h.get r with
   |some (.arr _ _ l)=>bif SX.beq len (.op .llen [l])then(.cb true,x)else(.op (.cmp .eql) [len,.op .llen [l]],.ous r (.op .llen [l]) s)
   |_=>(.cb true,x)
 |x=>(.cb true,x)
def bl9(h:Heap):List AV→SX×List AV
 | []=>(.cb true,[])
 |a::r=>match c92 h a,bl9 h r with
  |(e,x),(e',xs)=>(bi7 e e',x::xs)
def dx6(c:FC)(h:Heap)(p:SX×List AV):RPT:=bo0.need p.1 (dx5 c c.blks.length h.next (bG4 c.post c.mt c.blks.length h.next (a46 c.out) 0) p.2 h)
def kFC(c:FC)(v:AV)(h:Heap):RPT:=
 bif X0 c.out v&&Nat.ble (a46 v).length 256 then dx6 c h (bl9 h (a46 v))else fun _=> .bad
def ae0:List Blk→Heap→Heap
 | [],h=>h
 |x::r,h=>ae0 r (h.new x)
def de2(wm:Nat)(t:TH)(next _:Nat):Heap:=⟨t,next,wm⟩
def Heap.setwm(h:Heap)(wm:Nat):Heap:=Heap.rec (de2 wm) h
def FC.heap(c:FC):Heap:=(ae0 c.blks Heap.empty).setwm c.mt
def FC.run(E:Env)(fuel:Nat)(f:FuncId)(c:FC)(args:List AV):VT:=ev E fuel RPT bo0 (.body f args c.heap (kFC c)) []
end
end Go.Ev
