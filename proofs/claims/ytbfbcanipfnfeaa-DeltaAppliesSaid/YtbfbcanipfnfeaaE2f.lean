import Derived.Test.YtbfbcanipfnfeaaE2
set_option linter.unusedVariables false
namespace Go.Ev
open Go
noncomputable section
structure LGen where
 id:Nat
 v0:Nat
 dead:List Nat
 own:List (Nat×Option Nat×Nat×List CT)
 abs:List Nat
 mem:List Nat
 fvs:List Nat
 exits:List (Ex×List (Nat×AV))
 maps:List (Nat×List CT×List CT):=[]
 gone:List Ex:=[]
 mapr:Bool:=false
mutual
def cD3:AV→List SX
 | .oint _ e=>[e]
 | .ostr e=>[e]
 | .obool e=>[e]
 | .osl _ x y _=>[x,y]
 | .ous _ x _=>[x]
 | .agg l=>c27 l
 | .iface _ x=>cD3 x
 |_=>[]
def c27:List AV→List SX
 | []=>[]
 |a::r=>cD3 a++c27 r
end
def cW6(x:Option Blk):List SX:=match x with
 |some (.cells _ _ cs)=>c27 cs
 |some (.arr _ _ l)=>[l]
 |some (.marr _ _ _ l)=>[l]
 |some (.bag _ _ l)=>[l]
 |some (.mrg _ _ _ _ l)=>[l]
 |_=>[]
mutual
def d89(n:Nat):AV→AV×Nat
 | .int k _=>(.oint k (.va n),n+1)
 | .oint k _=>(.oint k (.va n),n+1)
 | .str _=>(.ostr (.va n),n+1)
 | .ostr _=>(.ostr (.va n),n+1)
 | .bool _=>(.obool (.va n),n+1)
 | .obool _=>(.obool (.va n),n+1)
 | .osl b _ _ s=>(.osl b (.va n) (.va (n+1)) s,n+2)
 | .ous b _ s=>(.ous b (.va n) s,n+1)
 | .agg l=>match cD4 n l with
   |(l',m)=>(.agg l',m)
 |x=>(x,n)
def cD4(n:Nat):List AV→List AV×Nat
 | []=>([],n)
 |a::r=>match d89 n a with
  |(a',m)=>match cD4 m r with
   |(r',m')=>(a'::r',m')
end
def d90(n:Nat)(x:Option Blk):Option Blk×Nat:=match x with
 |some (.cells e fz cs)=>match cD4 n cs with
  |(cs',m)=>(some (.cells e fz cs'),m)
 |some (.arr e sig _)=>(some (.arr e sig (.va n)),n+1)
 |some (.marr d ks vs _)=>(some (.marr d ks vs (.va n)),n+1)
 |x=>(x,n)
def d91(t:Nat):List Nat→Bool
 | []=>false
 |a::r=>bif Nat.beq a t then true else d91 t r
def cW7(t:Nat):List (Nat×AV)→Option AV
 | []=>none
 |a::r=>bif Nat.beq a.1 t then some a.2 else cW7 t r
def cD5(look:Nat→Option AV):Nat→Nat→Nat→List (Nat×AV)×Nat
 |0,_,n=>([],n)
 |m+1,t,n=>match look t with
  |some v=>match d89 n v with
   |(v',n')=>match cD5 look m (t+1) n' with
    |(r,n'')=>((t,v')::r,n'')
  |none=>cD5 look m (t+1) n
def d92(b:Nat):List (Nat×List Nat)→Option (List Nat)
 | []=>none
 |x::r=>bif Nat.beq x.1 b then(match x.2,d92 b r with
  | [],_=>some []
  |l,some []=>some []
  |l,some l'=>some (l++l')
  |l,none=>some l)else d92 b r
def cD6(l:List Nat):Nat→Nat→List AV→List AV×Nat
 |_,n,[]=>([],n)
 |i,n,a::r=>bif d91 i l then(match d89 n a with
     |(a',m)=>match cD6 l (i+1) m r with
      |(r',m')=>(a'::r',m'))
  else(match cD6 l (i+1) n r with
   |(r',m')=>(a::r',m'))
def d93(l:List Nat)(n:Nat)(x:Option Blk):Option Blk×Nat:=match l,x with
 |_::_,some (.cells e fz cs)=>(match cD6 l 0 n cs with
  |(cs',m)=>(some (.cells e fz cs'),m))
 |_,x=>d90 n x
def cD7(bs:List (Nat×List Nat))(h:Heap):Nat→Nat→Nat→List (Nat×Option Blk)×Nat
 |0,_,n=>([],n)
 |m+1,b,n=>match d92 b bs with
  |some l=>(match d93 l n (h.get b)with
   |(x,n')=>match cD7 bs h m (b+1) n' with
    |(r,n'')=>((b,x)::r,n''))
  |none=>cD7 bs h m (b+1) n
def cW8(look:Nat→Option AV)(bs:List (Nat×List Nat))(nt:Nat)(h:Heap)(v0:Nat):StP:=match cD5 look nt 0 v0 with
 |(sl,n)=>match cD7 bs h h.next 0 n with
  |(bl,_)=>⟨sl,bl,h.next⟩
def cD8(a:Fr)(n:Nat):List (Nat×Option Nat×Nat×List CT)→List OwnP
 | []=>[]
 |(t,none,e,sig)::r=>⟨t,n,e,sig,none⟩::cD8 a (n+1) r
 |(t,some i,e,sig)::r=>(match a.slot t with
  | .ptr b o=>⟨t,n,e,sig,some (b,o+i)⟩
  |_=>⟨t,n,e,sig,none⟩)::cD8 a (n+1) r
mutual
def bd8:AV→List Nat
 | .ptr b _=>[b]
 | .osl b _ _ _=>[b]
 | .ous b _ _=>[b]
 | .map b=>[b]
 | .agg l=>bd9 l
 | .func _ _ l=>bd9 l
 |_=>[]
def bd9:List AV→List Nat
 | []=>[]
 |a::r=>bd8 a++bd9 r
end
def cW9(a:Fr)(l:List Nat)(t:Nat):Option AV:=bif d91 t l then some (a.slot t)else none
def d94(a:Fr)(l:List Nat)(x:List (Nat×AV))(t:Nat):Option AV:=match cW7 t x with
 |some v=>some v
 |none=>cW9 a l t
def d95(h:Heap)(x:Option Blk):List SX:=match x with
 |some (.cells _ _ cs)=>(bd9 cs).flatMap fun b=>cW6 (h.get b)
 |_=>[]
def be0(h:Heap)(b:Nat):List Nat:=match h.get b with
 |some (.cells _ _ cs)=>bd9 cs
 |_=>[]
def dd7(h:Heap)(b:Nat):List SX:=match h.get b with
 |some (.arr _ _ l)=>[l]
 |_=>[]
def fvS(a:Fr)(h:Heap)(t:Nat):List SX:=
 bif Nat.ble 2000 t then((bd8 (a.slot (t-2000))).flatMap (be0 h)).flatMap fun b=>(be0 h b).flatMap (dd7 h)
 else bif Nat.ble 1000 t then(bd8 (a.slot (t-1000))).flatMap fun b=>(be0 h b).flatMap (dd7 h)
 else cD3 (a.slot t)++((bd8 (a.slot t)).flatMap fun b=>cW6 (h.get b)++d95 h (h.get b))
def fvG(a:Fr)(h:Heap):List Nat→List SX
 | []=>[]
 |t::r=>fvS a h t++fvG a h r
def d96(l:List Nat):List (Nat×List Nat):=l.map fun b=>(b,[])
def di9(a:Fr)(h:Heap)(t:Nat):List (Nat×List Nat):=bif Nat.ble 10000 t then(bd8 (a.slot (t % 100))).map fun b=>(b,[(t-10000)/100])
 else bif Nat.ble 1000 t then d96 ((bd8 (a.slot (t-1000))).flatMap (be0 h))else d96 (bd8 (a.slot t))
def exB:Ex→Ex→Bool
 | .norm,.norm=>true
 | .exit i,.exit j=>Nat.beq i j
 | .ret,.ret=>true
 |_,_=>false
def dj0(owns:List OwnP)(b:Nat):Bool:=owns.any fun o=>Nat.beq o.blk b
def cX0(g:Bool)(owns:List OwnP)(s:StP):StP:=bif g then⟨s.slots,s.blks.map fun x=>bif dj0 owns x.1 then(x.1,none)else x,s.next⟩else s
def d97(g:LGen)(owns:List OwnP)(p:Fr×Heap)(bs:List (Nat×List Nat)):LSpec:=
 ⟨g.id,owns,g.v0,fvG p.1 p.2 g.fvs,g.dead,cW8 (cW9 p.1 g.abs) bs p.1.nt p.2 g.v0,g.exits.map fun x=>(x.1,cX0 (g.gone.any (exB x.1)) owns (cW8 (d94 p.1 g.abs x.2) bs p.1.nt p.2 g.v0)),g.mapr⟩
def c28(ks vs:List CT)(h:Heap)(b:Nat):Heap:=match h.get b with
 |some (.map [] c)=>h.put b (some (.marr (Nat.beq c 0) ks vs (.op .row [])))
 |_=>h
def cX1(h:Heap):AV→Heap
 | .map b=>(match h.get b with
   |some (.marr _ ks vs l)=>h.put b (some (.marr false ks vs l))
   |_=>h)
 |_=>h
def aM7(a:Fr):List (Nat×List CT×List CT)→Heap→Heap
 | [],h=>h
 |(t,ks,vs)::r,h=>bif Nat.ble 20000 t then aM7 a r (cX1 h (a.slot (t-20000)))else bif Nat.ble 1000 t then aM7 a r (((bd8 (a.slot (t-1000))).flatMap (be0 h)).foldl (c28 ks vs) h)else(match a.slot t with
  | .map b=>aM7 a r (c28 ks vs h b)
  |_=>aM7 a r h)
def ab4(g:LGen)(a:Fr)(h:Heap):LSpec:=
 match cD8 a h.next g.own with
 |owns=>match aR8 ⟨g.id,owns,g.v0,[],g.dead,⟨[],[],0⟩,[],false⟩ (R6 owns a h).2 (h.upto (Nat.add h.next owns.length))with
  |p=>d97 g owns (p.1,aM7 p.1 g.maps p.2) (d96 (owns.map (·.blk))++(g.mem.map (di9 p.1 p.2)).flatten)
mutual
def a58:AV→List AV
 | .agg cs=>cs
 | .tup vs=>am4 vs
 |v=>[v]
def am4:List AV→List AV
 | []=>[]
 |a::r=>a58 a++am4 r
end
inductive BSrc where
 |whole (b:Nat)
 |view (v:AV)
 deriving Inhabited
structure FC where
 args:List AV
 blks:List Blk
 mt:Nat
 need:SX
 out:AV
 post:List (Option Blk)
 outs:List SX
mutual
def a80(es:List SX):SX→SX
 | .va n=>es.getD n (.va n)
 | .op p l=> .op p (aM8 es l)
 | .app f l=> .app f (aM8 es l)
 |x=>x
def aM8(es:List SX):List SX→List SX
 | []=>[]
 |a::r=>a80 es a::aM8 es r
end
def ck3(sz:Nat)(sig:List CT)(n:Nat)(cs:List AV):Option (SX×SX):=match an3 sig sz n cs with
 |some rs=>some (.cb true,.op .row rs)
 |none=>none
def c29(sz elem:Nat)(sig:List CT)(x:AV)(h:Heap):Option (SX×SX):=match x with
 | .nils=>some (.cb true,.op .row [])
 | .ous b len s=>match h.get b with
   |some (.arr e sg l)=>bif Nat.beq s sz&&Nat.beq e elem&&T8 sg sig then(bif SX.beq len (.op .llen [l])then some (.cb true,l)else some (.op .and [.op (.cmp .leq) [.ci 0,len],.op (.cmp .leq) [len,.op .llen [l]]],.op .lsub [l,.ci 0,len]))else none
   |_=>none
 | .osl b off len s=>match h.get b with
   |some (.arr e sg l)=>bif Nat.beq s sz&&Nat.beq e elem&&T8 sg sig then(bif SX.beq off (.ci 0)&&SX.beq len (.op .llen [l])then some (.cb true,l)else some (.op .and [.op (.cmp .leq) [.ci 0,off],.op .and [.op (.cmp .leq) [.ci 0,len],.op (.cmp .leq) [.op .iadd [off,len],.op .llen [l]]]],.op .lsub [l,off,.op .iadd [off,len]]))else none
   |_=>none
 | .sl b o n c=>match h.get b with
   |some (.cells e fz cs)=>bif Nat.beq e elem&&Nat.ble n c&&Nat.ble fz o&&Nat.ble (o+n*sz) cs.length&&Nat.blt 0 n then ck3 sz sig n ((cs.drop o).take (n*sz))else none
   |_=>none
 | .us b o n s=>match h.get b with
   |some (.cells e fz cs)=>bif Nat.blt 0 sz&&Nat.beq s sz&&Nat.beq e elem&&Nat.ble fz o&&Nat.ble (o+n*sz) cs.length then ck3 sz sig n ((cs.drop o).take (n*sz))else none
   |_=>none
 |_=>none
def d48(elem:Nat)(x:Option Blk):Nat:=match x with
 |some (.arr e _ _)=>e
 |some (.cells e _ _)=>e
 |_=>elem
def d98(x:AV)(h:Heap)(elem:Nat):Nat:=match x with
 | .ous b _ _=>d48 elem (h.get b)
 | .osl b _ _ _=>d48 elem (h.get b)
 | .sl b _ _ _=>d48 elem (h.get b)
 | .us b _ _ _=>d48 elem (h.get b)
 |_=>elem
def cs6(x:AV)(h:Heap)(elem:Nat):Nat:=bif Nat.beq elem an1 then d98 x h elem else elem
def bK6(sz elem:Nat)(sig:List CT)(x:AV)(h:Heap):Option (SX×SX):=c29 sz (cs6 x h elem) sig x h
structure Bnd where
 src:List (Nat×BSrc)
 sx:List (Nat×SX)
def d99{α:Type}(i:Nat):List (Nat×α)→Bool
 | []=>false
 |a::r=>bif Nat.beq a.1 i then true else d99 i r
def Bnd.addS(B:Bnd)(i:Nat)(s:BSrc):Bnd:=bif d99 i B.src then B else⟨(i,s)::B.src,B.sx⟩
def d49{α:Type}(i:Nat):List (Nat×α)→Option α
 | []=>none
 |a::r=>bif Nat.beq a.1 i then some a.2 else d49 i r
def Bnd.addG(B:Bnd)(j:Nat)(x:SX):Bnd:=match d49 j B.sx with
 |none=>(match x with
  | .op .lget [.app f l,.ci (.ofNat 0),_]=>⟨B.src,(j,.app f l)::B.sx⟩
  | .op .lget [.va n,.ci (.ofNat 0),_]=>⟨B.src,(j,.va n)::B.sx⟩
  |x=>⟨B.src,(j,.op .row [.op .row [x]])::B.sx⟩)
 |some (.op .row [.op .row l])=>⟨B.src,(j,.op .row [.op .row (l++[x])])::B.sx⟩
 |some _=>B
def Bnd.addX(B:Bnd)(p x:SX):Bnd:=match p with
 | .va j=>bif d99 j B.sx then B else⟨B.src,(j,x)::B.sx⟩
 | .op .lget [.va j,_,_]=>B.addG j x
 |_=>B
def Bnd.addO(B:Bnd)(p:SX)(x:Option SX):Bnd:=match x with
 |some x=>B.addX p x
 |none=>B
def aM9(p q:SX):Bool:=match p,q with
 | .ci 0,.op .llen _=>true
 |_,_=>false
mutual
def cX2(B:Bnd):AV→AV→Bnd
 | .oint _ p,x=>B.addO p ((aS2 x).map (·.2))
 | .ostr p,x=>B.addO p (bi2 x)
 | .obool p,x=>B.addO p (bj1 x)
 | .agg ps,.agg xs=>aN0 B ps xs
 | .iface _ p,.iface _ x=>cX2 B p x
 | .func _ a b,.func _ c d=>aN0 (aN0 B a c) b d
 | .ptr i _,.ptr b _=>B.addS i (.whole b)
 | .sl i _ _ _,.sl b _ _ _=>B.addS i (.whole b)
 | .osl i p q _,x=>bif aM9 p q then B.addS i (.view x)else(match x with
   | .osl b p' q' _=>((B.addS i (.whole b)).addX p p').addX q q'
   |_=>B)
 | .ous i q _,.ous b q' _=>(B.addS i (.whole b)).addX q q'
 |_,_=>B
def aN0(B:Bnd):List AV→List AV→Bnd
 | [],_=>B
 |_::_,[]=>B
 |p::ps,x::xs=>aN0 (cX2 B p x) ps xs
end
def da0(h:Heap)(B:Bnd)(p:Blk)(s:Option BSrc):Bnd:=match s with
 |some (.whole b)=>(match p,h.get b with
  | .cells _ _ ps,some (.cells _ _ xs)=>aN0 B ps xs
  | .arr _ _ q,some (.arr _ _ l)=>B.addX q l
  | .bag _ _ q,some (.bag _ _ l)=>B.addX q l
  |_,_=>B)
 |some (.view v)=>(match p with
  | .arr e sig q=>(match bK6 sig.length e sig v h with
    |some (_,l)=>B.addX q l
    |none=>B)
  |_=>B)
 |none=>B
def bz6(h:Heap)(B:Bnd):List Blk→Nat→Bnd
 | [],_=>B
 |p::r,i=>bz6 h (da0 h B p (d49 i B.src)) r (i+1)
def bK7{α:Type}(l:List (Nat×α)):Nat→Nat→Option (List α)
 |0,_=>some []
 |n+1,i=>match d49 i l,bK7 l n (i+1)with
  |some x,some r=>some (x::r)
  |_,_=>none
def aA1:AV→Bool
 | .bool _| .int _ _| .str _| .nilp| .glob _| .nils| .nilm| .nilf| .nili=>true
 |_=>false
def ax5(s:Option BSrc)(b:Nat):Bool:=match s with
 |some (.whole c)=>Nat.beq c b
 |_=>false
def b35(s:Option BSrc)(x:AV):Bool:=match s with
 |some (.view v)=>AV.beq v x
 |_=>false
def da1(e:SX):SX:=match e with
 | .op .lget [.op .row [.op .row l],.ci (.ofNat 0),.ci (.ofNat k)]=>(match l[k]? with
   |some x=>x
   |none=>e)
 |e=>e
def cX3(es:List SX)(p x:SX):Bool:=SX.beq (da1 (a80 es p)) x
def ckX(es:List SX)(p:SX)(x:Option SX):Bool:=match x with
 |some x=>cX3 es p x
 |none=>false
def ckI(es:List SX)(k:IntKind)(p:SX)(x:Option (IntKind×SX)):Bool:=match x with
 |some (k',x)=>decide (k=k')&&cX3 es p x
 |none=>false
def c30(blks:List Blk)(i s:Nat)(q:SX):Bool:=match blks[i]? with
 |some (.arr _ sig l)=>Nat.beq sig.length s&&SX.beq q (.op .llen [l])
 |_=>false
def cD9(src:List BSrc)(es:List SX)(i:Nat)(p q:SX)(s:Nat)(x:AV):Bool:=match x with
 | .osl b p' q' s'=>Nat.beq s s'&&ax5 src[i]? b&&cX3 es p p'&&cX3 es q q'
 |_=>false
def cE0(src:List BSrc)(es:List SX)(i:Nat)(q:SX)(s:Nat)(x:AV):Bool:=match x with
 | .ous b q' s'=>Nat.beq s s'&&ax5 src[i]? b&&SX.beq (a80 es q) q'
 |_=>false
def cE1(src:List BSrc)(i o:Nat)(x:AV):Bool:=match x with
 | .ptr b o'=>Nat.beq o o'&&ax5 src[i]? b
 |_=>false
def da2(src:List BSrc)(i o n c:Nat)(x:AV):Bool:=match x with
 | .sl b o' n' c'=>Nat.beq o o'&&Nat.beq n n'&&Nat.beq c c'&&ax5 src[i]? b
 |_=>false
mutual
def ckA(src:List BSrc)(es:List SX)(blks:List Blk):AV→AV→Bool
 | .oint k p,x=>ckI es k p (aS2 x)
 | .ostr p,x=>ckX es p (bi2 x)
 | .obool p,x=>ckX es p (bj1 x)
 | .agg ps,x=>(match x with
   | .agg xs=>cb8 src es blks ps xs
   |_=>false)
 | .iface t p,x=>(match x with
   | .iface u y=>Nat.beq t u&&ckA src es blks p y
   |_=>false)
 | .func f a b,x=>(match x with
   | .func g c d=>decide (f=g)&&cb8 src es blks a c&&cb8 src es blks b d
   |_=>false)
 | .ptr i o,x=>cE1 src i o x
 | .sl i o n c,x=>da2 src i o n c x
 | .osl i p q s,x=>bif aM9 p q then c30 blks i s q&&b35 src[i]? x else cD9 src es i p q s x
 | .ous i q s,x=>cE0 src es i q s x
 |p,x=>aA1 p&&AV.beq p x
def cb8(src:List BSrc)(es:List SX)(blks:List Blk):List AV→List AV→Bool
 | [],xs=>(match xs with
   | []=>true
   |_=>false)
 |p::ps,xs=>(match xs with
  |x::xs=>ckA src es blks p x&&cb8 src es blks ps xs
  |_=>false)
end
def ckB(src:List BSrc)(es:List SX)(blks:List Blk)(h:Heap)(p:Blk)(s:BSrc):Option SX:=match s with
 | .whole b=>(match p,h.get b with
   | .cells e fz ps,some (.cells e' fz' xs)=>bif Nat.beq e e'&&Nat.beq fz fz'&&ps.all AV.oneA&&cb8 src es blks ps xs then some (.cb true)else none
   | .arr e sig q,some (.arr e' sig' l)=>bif Nat.beq e e'&&T8 sig sig'&&SX.beq (a80 es q) l then some (.cb true)else none
   | .bag e sig q,some (.bag e' sig' l)=>bif Nat.beq e e'&&T8 sig sig'&&SX.beq (a80 es q) l then some (.cb true)else none
   |_,_=>none)
 | .view v=>(match p with
   | .arr e sig q=>(match bK6 sig.length e sig v h with
     |some (nd,l)=>bif SX.beq (a80 es q) l then some nd else none
     |none=>none)
   |_=>none)
def cX4(src:List BSrc)(es:List SX)(blks:List Blk)(h:Heap):List Blk→List BSrc→Option SX
 | [],[]=>some (.cb true)
 |p::ps,s::ss=>match ckB src es blks h p s,cX4 src es blks h ps ss with
  |some a,some b=>some (aG1 a b)
  |_,_=>none
 |_,_=>none
def a31:BSrc→Option Nat
 | .whole b=>some b
 | .view (.ous b _ _)=>some b
 | .view (.osl b _ _ _)=>some b
 | .view (.sl b _ _ _)=>some b
 | .view (.us b _ _ _)=>some b
 | .view _=>none
def neB(a b:Option Nat):Bool:=match a,b with
 |some x,some y=> !(Nat.beq x y)
 |_,_=>true
def d50(p:Option Blk):Bool:=match p with
 |some (.arr _ _ _)=>true
 |_=>false
def dj1(p:Option Blk):Bool:=match p with
 |some (.arr _ _ _)=>true
 |some (.bag _ _ _)=>true
 |some (.vec _)=>true
 |_=>false
def da3(h:Heap)(b:Option Nat):Bool:=match b with
 |some b=>dj1 (h.get b)
 |none=>false
def geB(n:Nat)(b:Option Nat):Bool:=match b with
 |some b=>Nat.ble n b
 |none=>true
def cX5(blks:List Blk)(mt:Nat)(h:Heap)(i j:Nat)(a b:Option Nat):Bool:=
 (Nat.blt i mt&&Nat.blt j mt&&d50 blks[i]? &&d50 blks[j]?)||(neB a b&&(geB h.wm a||geB h.wm b|| !(da3 h a)|| !(da3 h b)))
def d51(blks:List Blk)(mt:Nat)(h:Heap)(i:Nat)(s:BSrc):List BSrc→Nat→Bool
 | [],_=>true
 |t::r,j=>cX5 blks mt h i j (a31 s) (a31 t)&&d51 blks mt h i s r (j+1)
def seps(blks:List Blk)(mt:Nat)(h:Heap):List BSrc→Nat→Bool
 | [],_=>true
 |s::r,i=>d51 blks mt h i s r (i+1)&&seps blks mt h r (i+1)
def aW7(b:Nat):List AV→Bool
 | []=>false
 |x::r=>(match x with
  | .ptr c _=>Nat.beq c b
  |_=>false)||aW7 b r
def cE2(h:Heap)(b c:Nat):Bool:=match h.get c with
 |some (.cells _ _ cs)=>aW7 b cs
 |_=>false
def ck4(args:List AV)(h:Heap)(b:Nat):List BSrc→Bool
 | []=>false
 |s::r=>(match s with
  | .whole c=>aW7 c args&&cE2 h b c
  | .view _=>false)||ck4 args h b r
def c31(x:Option (Option Blk)):Bool:=match x with
 |some none=>true
 |_=>false
def c32(mt:Nat)(args:List AV)(h:Heap)(all:List BSrc)(post:List (Option Blk)):List BSrc→Nat→Bool
 | [],_=>true
 |s::r,i=>(Nat.blt i mt||(match s with
  | .whole b=>Nat.ble h.wm b&&Nat.blt b h.next&&(c31 post[i-mt]? ||aW7 b args||ck4 args h b all||d50 (h.get b))
  | .view _=>false))&&c32 mt args h all post r (i+1)
def bN1(e:SX):Bool:=(bj6 1000 e).isSome||R5 0 e
def isW(src:List BSrc)(i:Nat):Bool:=match src[i]? with
 |some (.whole _)=>true
 |_=>false
def clA(src:List BSrc)(mt:Nat)(post:List (Option Blk))(p:AV):Bool:=match p with
 | .oint _ e=>bN1 e
 | .ostr e=>bN1 e
 | .obool e=>bN1 e
 | .osl i x y _=>isW src i&&bN1 x&&bN1 y
 | .ous i x s=>bif Nat.ble src.length i then(match x,post[i-mt]? with
     | .op .llen [q],some (some (.arr _ sig q'))=>SX.beq q q'&&Nat.beq sig.length s
     |_,_=>false)else isW src i&&(bj6 1000 x).isSome
 | .ptr i _=>isW src i
 |p=>aA1 p
def aW8(n:Nat)(p:AV):Bool:=match p with
 | .ous i _ _=>Nat.blt i n
 |_=>true
def clB(src:List BSrc)(mt:Nat)(post:List (Option Blk))(x:Option Blk):Bool:=match x with
 |none=>true
 |some (.cells _ _ ps)=>ps.all fun p=>clA src mt post p&&aW8 src.length p&&p.oneA
 |some (.arr _ _ q)=>bN1 q
 |_=>false
def bK8(x:Option Blk):Bool:=match x with
 |some (.arr _ _ q)=>bN1 q
 |_=>false
def aN1(src:List BSrc)(mt:Nat)(post:List (Option Blk)):List (Option Blk)→Nat→Bool
 | [],i=>Nat.ble src.length i
 |x::r,i=>bif Nat.blt i src.length then clB src mt post x&&aN1 src mt post r (i+1)else bK8 x&&aN1 src mt post r (i+1)
structure Binding where
 src:List BSrc
 es:List SX
 nd:SX
def ck5(c:FC)(nv:Nat):Bool:=bN0 nv c.blks.length c.args&&c.blks.all (fun x=>okB nv c.blks.length (some x))&&R5 nv c.need&&a65 nv c.outs&&Nat.ble c.mt c.blks.length&&Nat.blt c.blks.length 60000&&c.blks.all (fun x=>match x with
  | .cells _ _ _=>true
  | .arr _ _ _=>true
  | .bag _ _ _=>true
  |_=>false)
def cE3(c:FC)(args:List AV)(h:Heap):Bnd:=
 bz6 h (aN0 ⟨(bz6 h ⟨(bz6 h (aN0 ⟨[],[]⟩ c.args args) c.blks 0).src,[]⟩ c.blks 0).src,[]⟩ c.args args) c.blks 0
def bo9(c:FC)(nv:Nat)(args:List AV)(h:Heap):Option Binding:=
 match cE3 c args h with
 |B=>match bK7 B.src c.blks.length 0,bK7 B.sx nv 0 with
  |some src,some es=>bif cb8 src es c.blks c.args args&&seps c.blks c.mt h src 0&&c32 c.mt args h src c.post src 0&&aN1 src c.mt c.post c.post c.mt&&(a58 c.out).all (clA src c.mt c.post)then(match cX4 src es c.blks h c.blks src with
   |some nd=>some ⟨src,es,nd⟩
   |none=>none)else none
  |_,_=>none
def b36(es outs:List SX)(k:Nat):SX:=a80 es (outs.getD k (.cb false))
def ap1(src:List BSrc)(n:Nat)(i:Nat):Nat:=match src[i]? with
 |some (.whole b)=>b
 |some (.view _)=>n
 |none=>n+(i-src.length)
mutual
def aR9(ρ:Nat→Nat):AV→AV
 | .ptr b o=> .ptr (ρ b) o
 | .sl b o n c=> .sl (ρ b) o n c
 | .us b o n s=> .us (ρ b) o n s
 | .es b o s=> .es (ρ b) o s
 | .map b=> .map (ρ b)
 | .func fn a c=> .func fn (aB4 ρ a) (aB4 ρ c)
 | .yield b=> .yield (ρ b)
 | .iface t v=> .iface t (aR9 ρ v)
 | .agg l=> .agg (aB4 ρ l)
 | .tup l=> .tup (aB4 ρ l)
 | .osl b x y s=> .osl (ρ b) x y s
 | .optr b x j s=> .optr (ρ b) x j s
 | .ous b x s=> .ous (ρ b) x s
 |x=>x
def aB4(ρ:Nat→Nat):List AV→List AV
 | []=>[]
 |a::r=>aR9 ρ a::aB4 ρ r
end
def aB5(ρ:Nat→Nat):Option Blk→Option Blk
 |some (.cells e fz cs)=>some (.cells e fz (aB4 ρ cs))
 |some (.arr e sig l)=>some (.arr e sig l)
 |_=>none
mutual
def aa5(q:Nat→SX):AV→AV
 | .oint k e=>bM9 k (T6 1000 q e)
 | .ostr e=> .ostr (T6 1000 q e)
 | .obool e=> .obool (T6 1000 q e)
 | .agg l=> .agg (am5 q l)
 | .tup l=> .tup (am5 q l)
 | .osl b x y s=> .osl b (T6 1000 q x) (T6 1000 q y) s
 | .ous b x s=> .ous b (ck6 q x) s
 |x=>x
def am5(q:Nat→SX):List AV→List AV
 | []=>[]
 |a::r=>aa5 q a::am5 q r
def ck6(q:Nat→SX):SX→SX
 | .op .llen [x]=> .op .llen [T6 1000 q x]
 |x=>T6 1000 q x
end
def ae5(q:Nat→SX):Option Blk→Option Blk
 |some (.cells e fz cs)=>some (.cells e fz (am5 q cs))
 |some (.arr e sig l)=>some (.arr e sig (T6 1000 q l))
 |x=>x
def Z4(ρ:Nat→Nat)(q:Nat→SX)(m:Nat):List (Option Blk)→Nat→Heap→Heap
 | [],_,h=>h
 |x::r,i,h=>Z4 ρ q m r (i+1) (bif Nat.blt i m then h.put (ρ i) (aB5 ρ (ae5 q x))else(match aB5 ρ (ae5 q x)with
  |some y=>h.new y
  |none=>h))
def ck7(e:SX)(v:AV)(h:Heap):Res:=match e with
 | .cb true=> .val v h
 |e=> .need e v h
def bp0(c:FC)(b:Binding)(h:Heap):Res:=
 ck7 (aG1 b.nd (a80 b.es c.need)) (aR9 (ap1 b.src h.next) (aa5 (b36 b.es c.outs) c.out)) (Z4 (ap1 b.src h.next) (b36 b.es c.outs) c.blks.length c.post c.mt h)
def c33(x:AV)(h:Heap):Option (SX×AV×Heap):=match x with
 | .ous b len s=>(match h.get b with
   |some (.arr e sig l)=>bif Nat.ble h.wm b&& !(SX.beq len (.op .llen [l]))&&Nat.beq s sig.length then
    some (.op .and [.op (.cmp .leq) [.ci 0,len],.op (.cmp .leq) [len,.op .llen [l]]],.ous b (.op .llen [.op .lsub [l,.ci 0,len]]) s,h.put b (some (.arr e sig (.op .lsub [l,.ci 0,len]))))else none
   |_=>none)
 |_=>none
def at0:List AV→Heap→SX×List AV×Heap
 | [],h=>(.cb true,[],h)
 |x::r,h=>match c33 x h with
  |some (e,x',h')=>(match at0 r h' with
   |(e',r',h2)=>(aG1 e e',x'::r',h2))
  |none=>(match at0 r h with
   |(e',r',h2)=>(e',x::r',h2))
def aW9(nd:SX)(r:Res):Res:=match r with
 | .val v h=>ck7 nd v h
 | .need e v h=> .need (aG1 nd e) v h
 |_=> .bad
def aN2(c:FC)(nv:Nat)(args:List AV)(h:Heap):Res:=match bo9 c nv args h with
 |some b=>bp0 c b h
 |none=> .bad
def a81(c:FC)(nv:Nat)(args:List AV)(h:Heap):Res:=match bo9 c nv args h with
 |some b=>bp0 c b h
 |none=>(match at0 args h with
  |(nd,args',h')=>aW9 nd (aN2 c nv args' h'))
mutual
def X1:AV→AV→Bool
 | .tup a,x=>(match x with
   | .tup b=>a42 a b
   |_=>false)
 | .agg a,x=>(match x with
   | .agg b=>Nat.beq a.length b.length
   |_=>false)
 |_,x=>(match x with
  | .tup _=>false
  | .agg _=>false
  |_=>true)
def a42:List AV→List AV→Bool
 | [],x=>(match x with
   | []=>true
   |_=>false)
 |a::r,x=>(match x with
  |b::q=>X1 a b&&a42 r q
  | []=>false)
end
def da4(post:List (Option Blk))(k:Nat):Option (Nat×List CT):=match post[k]? with
 |some (some (.arr e sig _))=>some (e,sig)
 |_=>none
def be1(post:List (Option Blk))(mt m base:Nat):List AV→Nat→List OwnP
 | [],_=>[]
 | .ous i _ _::r,t=>bif Nat.ble m i then(match da4 post (i-mt)with
   |some (e,sig)=>⟨t,base+(i-m),e,sig,none⟩::be1 post mt m base r (t+1)
   |none=>be1 post mt m base r (t+1))else be1 post mt m base r (t+1)
 |_::r,t=>be1 post mt m base r (t+1)
def cX6(h:Heap)(b s:Nat)(x:AV):Bool:=match x,h.get b with
 | .ous c (.op .llen [l]) s',some (.arr _ _ l')=>Nat.beq b c&&Nat.beq s s'&&SX.beq l l'
 |_,_=>false
def cE4(m base n:Nat)(h:Heap)(p x:AV):Option (List SX):=match p with
 | .ous i q s=>bif Nat.ble m i then(bif cX6 h (base+(i-m)) s x then some []else none)else Q1 1000 base n (.ous i q s) x
 |p=>Q1 1000 base n p x
def ck8(m base:Nat)(h:Heap)(a:Fr):List AV→Nat→Nat→Option (List SX)
 | [],_,_=>some []
 |p::ps,t,n=>match cE4 m base n h p (a.slot t)with
  |some e=>match ck8 m base h a ps (t+1) (n+e.length)with
   |some es=>some (e++es)
   |none=>none
  |none=>none
def ck9(m base:Nat)(h:Heap):List (Option Blk)→Nat→Nat→Option (List SX)
 | [],_,_=>some []
 |p::ps,i,n=>match aS5 1000 base n p (h.get (bif Nat.blt i m then i else base+(i-m)))with
  |some e=>match ck9 m base h ps (i+1) (n+e.length)with
   |some es=>some (e++es)
   |none=>none
  |none=>none
def d52(pc:PC):List SX→List SX
 | []=>[]
 |e::r=>d39 pc 16 e::d52 pc r
def dd8(c:FC)(m base:Nat)(p:Fr×Heap)(pc:PC):VT:=match ck8 m base p.2 p.1 (a58 c.out) 0 0 with
 |some es=>match ck9 m base p.2 c.post c.mt es.length with
  |some fs=> .ret 0 (d52 pc (es++fs))
  |none=> .bad
 |none=> .bad
def dd9(c:FC)(m base:Nat)(owns:List OwnP)(xs:List AV)(h:Heap)(pc:PC):VT:=
 match bk1 owns ⟨a68 xs 0 TF.empty,xs.length,[],0,[],none⟩ (h.upto (Nat.add base owns.length))with
 |some p=>dd8 c m base p pc
 |none=> .bad
def bK9(h:Heap)(x:AV):SX×AV:=match x with
 | .ous r len s=>match h.get r with
   |some (.arr _ _ l)=>bif SX.beq len (.op .llen [l])then(.cb true,x)else(.op (.cmp .eql) [len,.op .llen [l]],.ous r (.op .llen [l]) s)
   |_=>(.cb true,x)
 |x=>(.cb true,x)
def aX0(h:Heap):List AV→SX×List AV
 | []=>(.cb true,[])
 |a::r=>match bK9 h a,aX0 h r with
  |(e,x),(e',xs)=>(aG1 e e',x::xs)
def de0(c:FC)(h:Heap)(p:SX×List AV):RPT:=an6.need p.1 (dd9 c c.blks.length h.next (be1 c.post c.mt c.blks.length h.next (a58 c.out) 0) p.2 h)
def kFC(c:FC)(v:AV)(h:Heap):RPT:=
 bif X1 c.out v&&Nat.ble (a58 v).length 256 then de0 c h (aX0 h (a58 v))else fun _=> .bad
def a82:List Blk→Heap→Heap
 | [],h=>h
 |x::r,h=>a82 r (h.new x)
def cX7(wm:Nat)(t:TH)(next _:Nat):Heap:=⟨t,next,wm⟩
def Heap.setwm(h:Heap)(wm:Nat):Heap:=Heap.rec (cX7 wm) h
def FC.heap(c:FC):Heap:=(a82 c.blks Heap.empty).setwm c.mt
def FC.run(E:Env)(fuel:Nat)(f:FuncId)(c:FC)(args:List AV):VT:=ev E fuel RPT an6 (.body f args c.heap (kFC c)) []
end
end Go.Ev
