import Derived.Test.YtbfbcanipfnfeaaE1
set_option linter.unusedVariables false
namespace Go.Ev
open Go
noncomputable section
inductive Ext where
 |casI (k:IntKind)|loadI (k:IntKind)|storeT|addI (k:IntKind)|raceOff|raceOn|raceAcq|raceRel|ident|count|indexByte|mapsClone|makeNoZero (t:TypeId)|overlaps (t r:TypeId)
inductive FK where
 |bin (op:BinOp)|un (op:UnOp)|conv (d:TypeId)|len|max|min|slc
 deriving DecidableEq
structure LHd where
 id:Nat
 s0:List SX
 v0:Nat
 fv:List SX
inductive VT where
 |bad
 |ite (e:SX) (a b:VT)
 |need (e:SX) (x:VT)
 |ret (i:Nat) (out:List SX)
 |loop (hd:LHd) (body:VT) (ks:List VT)
 |both (a b:VT)
 |mloop (hd:LHd) (l:SX) (body:VT) (ks:List VT)
 deriving Inhabited
inductive Ex where
 |norm|exit (id:Nat)|ret
structure StP where
 slots:List (Nat×AV)
 blks:List (Nat×Option Blk)
 next:Nat
structure OwnP where
 slot:Nat
 blk:Nat
 elem:Nat
 sig:List CT
 cell:Option (Nat×Nat)
structure LSpec where
 id:Nat
 owns:List OwnP
 v0:Nat
 fv:List SX
 dead:List Nat
 head:StP
 exits:List (Ex×StP)
 mapr:Bool:=false
structure Fr where
 tm:TF
 nt:Nat
 pc:List (SX×Bool)
 fn:FuncId
 ds:List ADef
 ro:Option Nat
def Fr.slot(a:Fr)(t:Nat):AV:=(cQ2 t).g a.tm
def bO1(d:Nat)(v:AV)(tm:TF)(nt:Nat)(pc:List (SX×Bool))(fn:FuncId)(ds:List ADef)(ro:Option Nat):Fr:=bif Nat.blt d nt then⟨tm.set d v,nt,pc,fn,ds,ro⟩else⟨tm,nt,pc,fn,ds,ro⟩
def d68(p:SX×Bool)(tm:TF)(nt:Nat)(pc:List (SX×Bool))(fn:FuncId)(ds:List ADef)(ro:Option Nat):Fr:=⟨tm,nt,p::pc,fn,ds,ro⟩
def cQ6(tm:TF)(nt:Nat)(pc:List (SX×Bool))(fn:FuncId)(ds:List ADef)(ro:Option Nat):Fr:=⟨tm,nt,[],fn,ds,ro⟩
def d69(x:Option Nat)(tm:TF)(nt:Nat)(pc:List (SX×Bool))(fn:FuncId)(ds:List ADef)(ro:Option Nat):Fr:=⟨tm,nt,pc,fn,ds,x⟩
def Fr.back(a:Fr)(x:Option Nat):Fr:=Fr.rec (d69 x) a
def d70(m:List ADef)(tm:TF)(nt:Nat)(pc:List (SX×Bool))(fn:FuncId)(ds:List ADef)(ro:Option Nat):Fr:=⟨tm,nt,pc,fn,m++ds,ro⟩
def Fr.mark(a:Fr)(m:List ADef):Fr:=Fr.rec (d70 m) a
def Fr.clear(a:Fr):Fr:=Fr.rec cQ6 a
def Fr.cond(a:Fr)(p:SX×Bool):Fr:=Fr.rec (d68 p) a
def bO2(p:Prim)(l:List SX)(d:Int):Option Bool:=match p,l with
 | .imin,[_,.ci c]=>bif aF5 c d then some true else none
 |_,_=>none
def bO3(p:Prim)(l:List SX):Option Bool:=match p,l with
 | .cmp .lss,[.op q x,.ci d]=>bO2 q x d
 |_,_=>none
def d29(e:SX):Option Bool:=match e with
 | .op p l=>bO3 p l
 |_=>none
def aF7(e:SX):List (SX×Bool)→Option Bool
 | []=>d29 e
 |p::r=>bif SX.beq e p.1 then some p.2 else aF7 e r
def Fr.put(a:Fr)(dst:Option Tmp)(v:AV):Fr:=
 match dst with
 |none=>a
 |some d=>Fr.rec (bO1 d v) a
def Fr.ev(a:Fr):Operand→Option AV
 | .tmp t=>some (a.slot t)
 | .const v=>bi4 v
 | .global g=>some (.glob g)
 | .func f=>some (.func (.func f) [] [])
inductive Res where
 |val (v:AV) (h:Heap)
 |need (e:SX) (v:AV) (h:Heap)
 |cho (e:SX) (v:AV) (l:List AV) (h:Heap)
 |enter (f:FuncId) (args:List AV)
 |choice (l:List (AV×Heap))
 |yield (l:Nat) (args:List AV)
 |defer (d:ADef)
 |bad
structure Env where
 P:Program
 ext:FuncId→Option Ext
 amb:FuncId→Bool
 caps:FuncId→Bool
 hook:FuncId→List AV→Heap→Res
 fact:FK→List AV→Option AV
 lspec:FuncId→Nat→Fr→Heap→Option LSpec
def evs(ρ:Operand→Option AV):List Operand→Option (List AV)
 | []=>some []
 |x::r=>match ρ x,evs ρ r with
  |some v,some vs=>some (v::vs)
  |_,_=>none
def aS1(ρ:Operand→Option AV):List (Nat×Operand)→Option (List (Nat×AV))
 | []=>some []
 |(i,x)::r=>match ρ x,aS1 ρ r with
  |some v,some vs=>some ((i,v)::vs)
  |_,_=>none
def evo(ρ:Operand→Option AV):Option Operand→Option (Option AV)
 |none=>some none
 |some x=>(ρ x).map some
def ov(x:Option AV)(h:Heap):Res:=match x with
 |some v=> .val v h
 |none=> .bad
def oh(x:Option (AV×Heap)):Res:=match x with
 |some (v,h)=> .val v h
 |none=> .bad
def os(x:Option Heap):Res:=match x with
 |some h=> .val .undef h
 |none=> .bad
def aF8(P:Program)(t:TypeId):Bool:=match P.underlying t with
 |some .bool=>true
 |some (.int _)=>true
 |some .string=>true
 |_=>false
def aF9(P:Program)(t:TypeId)(k:AV):Bool:=
 match P.underlying t,k with
 |some .bool,.bool _=>true
 |some (.int _),.int _ _=>true
 |some .string,.str _=>true
 |some (.struct fields),.agg cs=>fields.all fun f=>(ae8 P f.type cs f.offset).isSome&&aF8 P f.type
 |_,_=>false
def al4(P:Program)(kt:TypeId)(k:AV):List Ent→Nat→Option (Option (Nat×Ent))
 | [],_=>some none
 |e::r,i=>match eqE P 10000 kt k e.key with
  |some true=>some (some (i,e))
  |some false=>al4 P kt k r (i+1)
  |none=>none
def am0:List Ent→Nat→Ent→List Ent
 | [],_,_=>[]
 |_::r,0,x=>x::r
 |e::r,i+1,x=>e::am0 r i x
def bu1:List Ent→Nat→List Ent
 | [],_=>[]
 |_::r,0=>r
 |e::r,i+1=>e::bu1 r i
def bO4(m:AV)(h:Heap):Option (List Ent):=
 match m with
 | .nilm=>some []
 | .map r=>match h.get r with
   |some (.map es _)=>some es
   |_=>none
 |_=>none
def aY5(P:Program)(t:TypeId)(m k:AV)(ok:Bool)(h:Heap):Option AV:=
 match P.underlying t with
 |some (.map kt et)=>bif aF9 P kt k then
  match bO4 m h with
  |none=>none
  |some es=>match al4 P kt k es 0 with
   |none=>none
   |some (some (_,e))=>some (bif ok then .tup [e.val,.bool true]else e.val)
   |some none=>(V5 P et).map fun z=>bif ok then .tup [z,.bool false]else z
  else none
 |_=>none
def a59(P:Program)(t:TypeId)(m k v:AV)(h:Heap):Option Heap:=
 match P.underlying t,m with
 |some (.map kt _),.map r=>bif aF9 P kt k&&Nat.ble h.wm r then
  match h.get r with
  |some (.map es c)=>match al4 P kt k es 0 with
   |none=>none
   |some (some (i,e))=>bif bO0 e.key k then some (h.put r (some (.map (am0 es i ⟨k,v,e.born⟩) c)))else none
   |some none=>some (h.put r (some (.map (es++[⟨k,v,c⟩]) (c+1))))
  |_=>none
  else none
 |_,_=>none
def aq1(P:Program)(t:TypeId)(m k:AV)(h:Heap):Option (AV×Heap):=
 match P.underlying t,m with
 |some (.map kt et),.map r=>bif aF9 P kt k&&Nat.ble h.wm r then
  match h.get r with
  |some (.map es c)=>match al4 P kt k es 0 with
   |none=>none
   |some (some (i,e))=>bif bO0 e.key k then some (.tup [e.val,.int .i64 e.born],h.put r (some (.map (am0 es i ⟨k,e.val,e.born⟩) c)))else none
   |some none=>(V5 P et).map fun z=>(.tup [z,.int .i64 c],h.put r (some (.map (es++[⟨k,z,c⟩]) (c+1))))
  |_=>none
  else none
 |_,_=>none
def ai8(b:Nat):List Ent→Nat→Option (Nat×Ent)
 | [],_=>none
 |e::r,i=>bif Nat.beq e.born b then some (i,e)else ai8 b r (i+1)
def ac3(m s v:AV)(h:Heap):Option Heap:=
 match m,s with
 | .map r,.int _ s=>match h.get r,a51 s with
   |some (.map es c),some b=>match ai8 b es 0 with
    |some (i,e)=>bif Nat.ble h.wm r then some (h.put r (some (.map (am0 es i ⟨e.key,v,e.born⟩) c)))else none
    |none=>none
   |_,_=>none
 |_,_=>none
def bi8(P:Program)(t:TypeId)(m k:AV)(h:Heap):Option Heap:=
 match P.underlying t,m with
 |some (.map kt _),.map r=>bif aF9 P kt k&&Nat.ble h.wm r then
  match h.get r with
  |some (.map es c)=>match al4 P kt k es 0 with
   |none=>none
   |some (some (i,_))=>some (h.put r (some (.map (bu1 es i) c)))
   |some none=>some (h.put r (some (.map es c)))
  |_=>none
  else none
 |_,_=>none
def bu2(P:Program)(t:TypeId)(x:AV)(h:Heap):Option (AV×Heap):=
 match P.underlying t,x with
 |some .string,.str l=>some (.ptr h.next 0,h.new (.strIter l 0))
 |some (.map _ _),.nilm=>some (.ptr h.next 0,h.new (.mapIter none 0 [] 0))
 |some (.map _ _),.map m=>match h.get m with
  |some (.map _ c)=>some (.ptr h.next 0,h.new (.mapIter (some m) c [] c))
  |some (.marr d ks vs l)=>some (.ptr h.next 0,(h.new (.mit m)).put m (some (.mrg h.next d ks vs l)))
  |_=>none
 |_,_=>none
def a18(es:List Ent)(seen:List Nat):List Ent:=es.filter fun e=> !(seen.contains e.born)
def cQ7(r m since:Nat)(seen:List Nat)(c:Nat)(h:Heap)(left:List Ent):Res:=
 match left with
 | []=> .val (.tup [.bool false]) h
 |left=> .choice (left.map fun e=>(.tup [.bool true,e.key,e.val],h.put r (some (.mapIter (some m) since (seen++[e.born]) c))))
def cQ8(r:Nat)(h:Heap)(l:List UInt8)(pos:Nat)(c:Option UInt8):Res:=match c with
 |none=> .val (.tup [.bool false]) h
 |some c=>bif Nat.ble h.wm r&&Nat.blt c.toNat 128 then .val (.tup [.bool true,.int .i64 pos,.int .i32 c.toNat]) (h.put r (some (.strIter l (pos+1))))else .bad
def cw2(r:Nat)(h:Heap)(b:Option Blk):Res:=match b with
 |some (.strIter l pos)=>cQ8 r h l pos l[pos]?
 |_=> .bad
def bO5(it:AV)(bP0:Bool)(h:Heap):Res:=
 match it,bP0 with
 | .ptr r 0,true=>cw2 r h (h.get r)
 | .ptr r 0,false=>match h.get r with
   |some (.mapIter none _ _ _)=> .val (.tup [.bool false]) h
   |some (.mapIter (some m) since seen last)=>match h.get m with
    |some (.map es c)=>
     bif Nat.ble h.wm r&& !(!seen.isEmpty&& !es.isEmpty&&es.all (fun e=>Nat.ble last e.born))&& !((a18 es seen).any (fun e=>Nat.ble since e.born))then cQ7 r m since seen c h (a18 es seen)else .bad
    |_=> .bad
   |_=> .bad
 |_,_=> .bad
def bu3:List Nat→Option Nat
 | []=>none
 | [x]=>some x
 |_::r=>bu3 r
def bu4(it:AV)(h:Heap):Option AV:=
 match it with
 | .ptr r 0=>match h.get r with
   |some (.mapIter (some m) _ seen stepped)=>match bu3 seen,h.get m with
    |some s,some (.map es c)=>bif Nat.beq c stepped then(ai8 s es 0).map fun x=> .tup [x.2.key,x.2.val]else none
    |_,_=>none
   |_=>none
 |_=>none
def bu5(P:Program)(asserted:TypeId)(ok:Bool):Option AV:=bif ok then(V5 P asserted).map fun z=> .tup [z,.bool false]else none
def bO6(ok:Bool)(v:AV):Option AV:=some (bif ok then .tup [v,.bool true]else v)
def ac4(P:Program)(x:AV)(asserted:TypeId)(ok:Bool):Option AV:=
 match P.underlying asserted with
 |some (.interface _)=>none
 |some _=>match x with
  | .nili=>bu5 P asserted ok
  | .iface t v=>bif Nat.beq t asserted then bO6 ok v else bu5 P asserted ok
  |_=>none
 |none=>none
def az0:List AV→Option (List UInt8)
 | []=>some []
 | .int .u8 (.ofNat n)::r=>match az0 r with
   |some l=>bif Nat.blt n 256 then some (UInt8.ofNat n::l)else none
   |none=>none
 |_=>none
def u8T(P:Program)(e:TypeId):Bool:=match P.underlying e with
 |some (.int .u8)=>true
 |_=>false
def bO7(P:Program)(e:TypeId)(l:List UInt8)(h:Heap):Option (AV×Heap):=
 bif u8T P e&&Nat.ble l.length room then some (.us h.next 0 l.length 1,h.new (.cells e 0 (l.map fun b=> .int .u8 b.toNat)))else none
def bO8(P:Program)(e:TypeId)(x:AV)(h:Heap):Option (List UInt8):=bif u8T P e then match x with
 | .nils=>some []
 | .es _ _ _=>some []
 | .es0=>some []
 | .sl b o n c=>(a92 1 n (.sl b o n c) h).bind az0
 | .us b o n s=>(a92 1 n (.us b o n s) h).bind az0
 |_=>none
 else none
def aC0(P:Program)(t b o:Nat)(h:Heap):Option (AV×Heap):=match a90 P t,h.get b with
 |some (_+1),some (.cells _ _ cs)=>bif Nat.blt o cs.length then some (.ptr b o,h)else none
 |_,_=>none
def aC1(P:Program)(t b o:Nat)(h:Heap):Option (AV×Heap):=match o,a90 P t,h.get b with
 |0,some (n+1),some (.cells e _ cs)=>bif Nat.beq e t&&Nat.ble (n+1) cs.length&&aq0 P t then some (.ptr b 0,h)else none
 |_,_,_=>none
def bO9(P:Program)(s d:TypeId)(x:AV)(h:Heap):Option (AV×Heap):=match P.underlying s,P.underlying d,x with
 |some .string,some (.slice e),.str l=>bO7 P e l h
 |_,_,_=>none
def bG0(P:Program)(s d:TypeId)(x:AV)(h:Heap):Option (AV×Heap):=
 match P.underlying s,P.underlying d,x with
 |some _,some (.int k),.int _ n=>some (.int k (al3 k n),h)
 |some _,some .string,.str l=>some (.str l,h)
 |some (.slice e),some .string,x=>(bO8 P e x h).map fun l=>(.str l,h)
 |some (.pointer t),some .unsafePointer,.ptr b o=>aC0 P t b o h
 |some .unsafePointer,some (.pointer t),.ptr b o=>aC1 P t b o h
 |_,_,_=>none
def aG0(c:Nat):List UInt8→Nat
 | []=>0
 |x::r=>bif Nat.beq x.toNat c then aG0 c r+1 else aG0 c r
def bG1(c:Nat):List UInt8→Nat→Option Nat
 | [],_=>none
 |x::r,i=>bif Nat.beq x.toNat c then some i else bG1 c r (i+1)
def b80(c:Nat)(l:List UInt8):Int:=match bG1 c l 0 with
 |some i=>(i:Int)
 |none=> -1
def cQ9(P:Program)(e:Ext)(args:List AV)(h:Heap):Option (AV×Heap):=
 match e,args with
 | .addI k,[.ptr b o,.int _ y]=>match h.get b with
   |some (.cells _ _ cs)=>match cs[o]? with
    |some (.int k2 n)=>if k=k2 then(putCells h b o [.int k (al3 k (n+y))]).map fun h'=>(.int k (al3 k (n+y)),h')else none
    |_=>none
   |_=>none
 | .loadI k,[.ptr b o]=>match h.get b with
   |some (.cells _ _ cs)=>match cs[o]? with
    |some (.int k2 n)=>if k=k2 then some (.int k n,h)else none
    |_=>none
   |_=>none
 | .storeT,[.ptr b o,.int k n]=>match h.get b with
   |some (.cells _ _ cs)=>match cs[o]? with
    |some (.int _ _)=>(putCells h b o [.int k n]).map fun h'=>(.undef,h')
    |_=>none
   |_=>none
 | .casI k,[.ptr b o,.int _ x,.int k3 y]=>match h.get b with
   |some (.cells _ fz cs)=>match cs[o]? with
    |some (.int k2 n)=>if k=k2 then
     (bif b76 n x then(putCells h b o [.int k3 y]).map fun h'=>(.bool true,h')else bif Nat.ble fz o then some (.bool false,h)else none)else none
    |_=>none
   |_=>none
 | .raceOff,[]=>some (.undef,h)
 | .raceOn,[]=>some (.undef,h)
 | .raceAcq,[.ptr _ _]=>some (.undef,h)
 | .raceRel,[.ptr _ _]=>some (.undef,h)
 | .mapsClone,[.iface t (.map r)]=>match h.get r with
   |some (.map es c)=>some (.iface t (.map h.next),h.new (.map es c))
   |_=>none
 | .ident,[x]=>some (x,h)
 | .count,[.str l,.int .u8 c]=>(a51 c).bind fun c=>bif Nat.blt c 256 then some (.int .i64 (aG0 c l:Nat),h)else none
 | .indexByte,[.str l,.int .u8 c]=>(a51 c).bind fun c=>bif Nat.blt c 256 then some (.int .i64 (b80 c l),h)else none
 |_,_=>none
def bP0:AV→Bool
 | .str _=>true
 |_=>false
def d71(P:Program)(t:Option TypeDesc)(x:AV)(h:Heap):Option Nat:=match t with
 |some .string=>match x with
  | .str l=>some l.length
  |_=>none
 |some (.slice _)=>bif bP0 x then none else ay9 x
 |some (.map _ _)=>match x with
  | .nilm=>some 0
  | .map r=>match h.get r with
    |some (.map es _)=>some es.length
    |_=>none
  |_=>none
 |_=>none
def aT8(P:Program)(elem:TypeId)(b o n:Nat)(h:Heap):Option (AV×Heap):=match n with
 |0=>some (.undef,h)
 |n=>match V5 P elem with
  |some z=>bif Nat.blt 0 z.cells.length then(putCells h b o (rep n z.cells)).map fun h'=>(.undef,h')else none
  |none=>none
def bP1(P:Program)(t:Option TypeDesc)(x:AV)(h:Heap):Option (AV×Heap):=match t with
 |some (.slice elem)=>match x with
  | .nils=>some (.undef,h)
  | .sl b o n _=>aT8 P elem b o n h
  | .us b o n _=>aT8 P elem b o n h
  |_=>none
 |some (.map _ _)=>match x with
  | .nilm=>some (.undef,h)
  | .map r=>match h.get r with
    |some (.map _ c)=>bif Nat.ble h.wm r then some (.undef,h.put r (some (.map [] c)))else none
    |_=>none
  |_=>none
 |_=>none
def bP2(P:Program)(argTypes:Array TypeId)(b o n:Nat)(h:Heap):Option (AV×Heap):=match h.get b,(argTypes[0]?).bind P.underlying with
 |some (.cells e _ cs),some (.pointer pt)=>bif Nat.ble h.wm b&&Nat.beq e pt&&Nat.ble (o+n) cs.length&&Nat.ble n room then(match a90 P e,az0 ((cs.drop o).take n)with
  |some 1,some l=>some (.str l,h.put b none)
  |_,_=>none)else none
 |_,_=>none
def bi9(x:AV)(h:Heap):Option (AV×Heap):=match x with
 | .sl b o _ (_+1)=>some (.ptr b o,h)
 | .us b o (n+1) sz=>bif Nat.blt 0 sz&&bi6 sz (.us b o (n+1) sz) h then some (.ptr b o,h)else none
 | .nils=>some (.nilp,h)
 |_=>none
def d72(P:Program)(argTypes:Array TypeId)(p:AV)(n:Option Nat)(h:Heap):Option (AV×Heap):=match argTypes[0]?,n with
 |some _,some 0=>match p with
  | .nilp=>some (.str [],h)
  | .ptr _ _=>some (.str [],h)
  |_=>none
 |some _,some (n+1)=>match p with
  | .ptr b o=>bP2 P argTypes b o (n+1) h
  |_=>none
 |_,_=>none
def d73(x:AV)(h:Heap):Option AV:=match x with
 | .nils=>some (.int .i64 0)
 | .es0=>some (.int .i64 0)
 | .sl _ _ _ c=>some (.int .i64 c)
 | .us b o _ sz=>match h.get b with
   |some (.cells _ _ cs)=>bif Nat.blt 0 sz&&Nat.ble o cs.length then some (.atl ((cs.length-o)/sz))else none
   |_=>none
 |_=>none
def aq2(P:Program)(b:Builtin)(argTypes:Array TypeId)(args:List AV)(h:Heap):Option (AV×Heap):=
 match b,args with
 | .len,[x]=>(d71 P ((argTypes[0]?).bind P.underlying) x h).map fun(n:Nat)=>(AV.int .i64 (n:Int),h)
 | .append,[x,y]=>bi7 P argTypes x y h
 | .copy,[x,y]=>cw1 P argTypes x y h
 | .clear,[x]=>bP1 P ((argTypes[0]?).bind P.underlying) x h
 | .delete,[m,k]=>match argTypes[0]? with
   |some t=>(bi8 P t m k h).map fun h'=>(.undef,h')
   |none=>none
 | .unsafeSliceData,[x]=>bi9 x h
 | .unsafeString,[p,.int _ n]=>d72 P argTypes p (a51 n) h
 | .cap,[x]=>match(argTypes[0]?).bind P.underlying with
   |some (.slice _)=>(d73 x h).map fun v=>(v,h)
   |_=>none
 | .max,[.int k x,.int _ y]=>some (.int k (bif aF5 x y then y else x),h)
 | .min,[.int k x,.int _ y]=>some (.int k (bif aF5 y x then y else x),h)
 |_,_=>none
def cN7(x:AV):Option (Nat×Nat):=match x with
 | .sl b o _ _=>some (b,o)
 | .us b o _ _=>some (b,o)
 |_=>none
def cw3(a b:Option (Nat×Nat))(h:Heap):Bool:=match a,b with
 |some p,some q=> !(Nat.beq p.1 q.1)&&(match h.get p.1,h.get q.1 with
  |some (.cells _ fz cs),some (.cells _ _ _)=>Nat.ble fz p.2&&Nat.blt p.2 cs.length
  |_,_=>false)
 |_,_=>false
def bG2(t:TypeId)(P:Program)(args:List AV)(h:Heap):Res:=match args with
 | [x,y]=>match P.underlying t with
   |some (.slice e)=>match a90 P e with
    |some _=>bif cw3 (cN7 x) (cN7 y) h then .choice [(.bool false,h),(.bool true,h)]else .bad
    |none=> .bad
   |_=> .bad
 |_=> .bad
def dc8(P:Program)(e:Ext)(args:List AV)(h:Heap):Res:=match e with
 | .overlaps t _=>bG2 t P args h
 |e=>oh (cQ9 P e args h)
def bG3(F:SX→SX→SX)(s:SX)(c:Option Nat)(h:Heap):Res:=match c with
 |some c=>bif Nat.blt c 256 then .val (.oint .i64 (F s (.ci c))) h else .bad
 |none=> .bad
def cR0:Int:=281474976710656
def d74(P:Program)(t:TypeId)(x:Option (IntKind×SX))(h:Heap):Res:=match x,P.underlying t with
 |some (.i64,n),some (.slice e)=>bif Nat.blt h.next 65536 then .need (.op .and [.op (.cmp .leq) [.ci 0,n],.op (.cmp .leq) [n,.ci cR0]]) (.ous h.next n 1) (h.new (.arr e [.int .u8] (.op .row [])))else .bad
 |_,_=> .bad
def cc6:AV→Option (IntKind×SX)
 | .int k n=>some (k,.ci n)
 | .oint k e=>some (k,e)
 |_=>none
def cR1(P:Program)(e:Ext)(args:List AV)(h:Heap):Res:=match e,args with
 | .count,[.ostr s,.int .u8 c]=>bG3 (fun s c=> .op .scnt [s,c]) s (a51 c) h
 | .indexByte,[.ostr s,.int .u8 c]=>bG3 (fun s c=> .op .sidx [s,c]) s (a51 c) h
 | .makeNoZero t,[x]=>d74 P t (cc6 x) h
 |_,_=> .bad
def orY(r s:Res):Res:=match r with
 | .bad=>s
 |r=>r
def b81(E:Env)(f:FuncId)(args:List AV)(h:Heap):Res:=
 match E.P.funcs[f]? with
 |none=> .bad
 |some fn=>match fn.body with
  |some _=> .enter f args
  |none=>match E.ext f with
   |some e=>orY (dc8 E.P e args h) (cR1 E.P e args h)
   |none=> .bad
def aw0(P:Program)(t:TypeId)(name:String):Option FuncId:=
 match P.info? t with
 |some i=>match i.methods.find? (·.name==name)with
  |some m=>match m.path.toList with
   | []=>match m.func,P.underlying t with
     |some (f,true),some (.pointer _)=>some f
     |some (_,_),some (.pointer _)=>none
     |some (f,false),some _=>some f
     |_,_=>none
   |_=>none
  |none=>none
 |none=>none
def aC2(E:Env)(name:String)(first args:List AV)(h:Heap):Res:=match first with
 | .iface t v::rest=>match aw0 E.P t name with
   |some g=>b81 E g (v::(rest++args)) h
   |none=> .bad
 |_=> .bad
def aY6(E:Env)(f:AV)(args:List AV)(h:Heap):Res:=
 match f with
 | .func (.func f) first cap=>b81 E f (first++args++cap) h
 | .func (.method name) first _=>aC2 E name first args h
 | .yield l=> .yield l args
 |_=> .bad
def aq3(x:AV):Option AV:=
 match x with
 | .nilp| .nili| .nilf=>none
 | .opq _=>none
 | .any=>none
 | .func (.method _) _ _=>none
 |x=>some x
def orF(E:Env)(x:Option AV)(k:FK)(vs:List AV):Option AV:=match x with
 |some v=>some v
 |none=>E.fact k vs
def bj0(ρ:Operand→Option AV)(a b:Operand)(h:Heap)(c:Option AV):Res:=match c with
 |some (.bool t)=>ov (bif t then ρ a else ρ b) h
 |_=> .bad
def cp2(e:TypeId)(h:Heap)(v:Option AV):Res:=match v with
 |some z=>oh (av8 e z h)
 |none=> .bad
def bu6(P:Program)(t:TypeId)(h:Heap)(ps:Option (List (Nat×AV))):Res:=match ps with
 |some ps=>ov (bN8 P t ps) h
 |none=> .bad
def a06(P:Program)(t n:Nat)(h:Heap)(ps:Option (List (Nat×AV))):Res:=match ps with
 |some ps=>oh (X9 P t n ps h)
 |none=> .bad
def cw4(P:Program)(t:TypeId)(h:Heap)(a:Option AV):Res:=match a with
 |some a=>ov (bN7 P t a h) h
 |none=> .bad
def bP3(P:Program)(t:TypeId)(h:Heap)(a v:Option AV):Res:=match a with
 |some a=>match v with
  |some v=>os (b78 P t a v h)
  |none=> .bad
 |none=> .bad
def aY7(P:Program)(h:Heap)(name:String)(first cap:List AV):Res:=match first with
 | .iface t v::rest=>match aw0 P t name with
   |some _=> .val (.func (.method name) (.iface t v::rest) cap) h
   |none=> .bad
 |_=> .bad
def cN8(P:Program)(h:Heap)(a:Option AV):Res:=match a with
 |some (.func (.method name) first cap)=>aY7 P h name first cap
 |some a=>ov (aq3 a) h
 |none=> .bad
def cN9(E:Env)(op:BinOp)(t:TypeId)(x y:Operand)(h:Heap)(a b:Option AV):Res:=match a with
 |some a=>match b with
  |some b=>bif an2 E.P op t x y a b then ov (orF E (d27 E.P op t a b) (.bin op) [a,b]) h else .bad
  |none=> .bad
 |none=> .bad
def sUn(E:Env)(op:UnOp)(h:Heap)(a:Option AV):Res:=match a with
 |some a=>ov (orF E (unE op a) (.un op) [a]) h
 |none=> .bad
def bG4(E:Env)(s d:TypeId)(h:Heap)(a:Option AV):Res:=match a with
 |some a=>match bG0 E.P s d a h with
  |some r=> .val r.1 r.2
  |none=>match bO9 E.P s d a h with
   |some r=> .choice [r]
   |none=>ov (E.fact (.conv d) [a]) h
 |none=> .bad
def aT9(P:Program)(t:TypeId)(h:Heap)(a:Option AV):Res:=match a with
 |some v=>match P.underlying t with
  |some (.interface _)=> .bad
  |some _=> .val (.iface t v) h
  |none=> .bad
 |none=> .bad
def bG5(fn:Fn)(h:Heap)(a b:Option (List AV)):Res:=match a with
 |some a=>match b with
  |some b=>match fn with
   | .yield _=> .bad
   |fn=> .val (.func fn a b) h
  |none=> .bad
 |none=> .bad
def cb5(P:Program)(t:TypeId)(h:Heap)(r:Option (Option AV)):Res:=match P.underlying t with
 |some (.map _ _)=>match r with
  |some none=> .val (.map h.next) (h.new (.map [] 0))
  |some (some (.int _ _))=> .val (.map h.next) (h.new (.map [] 0))
  |_=> .bad
 |_=> .bad
def a60(P:Program)(t:TypeId)(h:Heap)(l c:Option AV):Res:=match l with
 |some l=>match c with
  |some c=>oh (a05 P t l c h)
  |none=> .bad
 |none=> .bad
def aU0(E:Env)(t:TypeId)(h:Heap)(x:Option AV)(lo hi mx:Option (Option AV)):Res:=match x with
 |some x=>match lo with
  |some lo=>match hi with
   |some hi=>match mx with
    |some mx=>bif hi.isNone&&mx.isSome then .bad else ov (bN9 E.P t x lo hi mx h) h
    |none=> .bad
   |none=> .bad
  |none=> .bad
 |none=> .bad
def cp3(P:Program)(t:TypeId)(f:Nat)(h:Heap)(a:Option AV):Res:=match a with
 |some a=>ov (bt9 P t a f) h
 |none=> .bad
def aU1(P:Program)(t:TypeId)(f:Nat)(h:Heap)(a:Option AV):Res:=match a with
 |some a=>ov (ai7 P t a f) h
 |none=> .bad
def s2(F:AV→AV→Option AV)(h:Heap)(a b:Option AV):Res:=match a with
 |some a=>match b with
  |some b=>ov (F a b) h
  |none=> .bad
 |none=> .bad
def s3h(F:AV→AV→AV→Option Heap)(a b c:Option AV):Res:=match a with
 |some a=>match b with
  |some b=>match c with
   |some c=>os (F a b c)
   |none=> .bad
  |none=> .bad
 |none=> .bad
def s2h(F:AV→AV→Option (AV×Heap))(a b:Option AV):Res:=match a with
 |some a=>match b with
  |some b=>oh (F a b)
  |none=> .bad
 |none=> .bad
def s1h(F:AV→Option (AV×Heap))(a:Option AV):Res:=match a with
 |some a=>oh (F a)
 |none=> .bad
def s1r(F:AV→Res)(a:Option AV):Res:=match a with
 |some a=>F a
 |none=> .bad
def s1(F:AV→Option AV)(h:Heap)(a:Option AV):Res:=match a with
 |some a=>ov (F a) h
 |none=> .bad
def aC3(i:Nat)(x:AV):Option AV:=match x with
 | .tup vs=>vs[i]?
 |_=>none
def ac5(E:Env)(b:Builtin)(ts:Array TypeId)(h:Heap)(args:List AV):Res:=match aq2 E.P b ts args h with
 |some r=> .val r.1 r.2
 |none=>match b with
  | .len=>ov (E.fact .len args) h
  | .max=>ov (E.fact .max args) h
  | .min=>ov (E.fact .min args) h
  |_=> .bad
def b82(E:Env)(ρ:Operand→Option AV)(c:Call)(h:Heap)(args:Option (List AV)):Res:=match args with
 |none=> .bad
 |some args=>match c.callee with
  | .builtin b=>ac5 E b c.argTypes h args
  | .invoke rc name=>s1r (fun v=>aC2 E name [v] args h) (ρ rc)
  | .value f=>s1r (fun f=>aY6 E f args h) (ρ f)
def bP4(args:List AV)(f:AV):Res:=match f with
 | .func (.func g) first cap=> .defer (.fn g cap (first++args))
 |_=> .bad
def b83(ρ:Operand→Option AV)(c:Call)(args:Option (List AV)):Res:=match args with
 |none=> .bad
 |some args=>match c.callee with
  | .value f=>s1r (bP4 args) (ρ f)
  |_=> .bad
def aq4(E:Env)(ρ:Operand→Option AV)(o:Oper)(h:Heap):Res:=
 match o.op with
 | .move x=>ov (ρ x) h
 | .assign x=>ov (ρ x) h
 | .pick c a b=>bj0 ρ a b h (ρ c)
 | .alloc e=>cp2 e h (V5 E.P e)
 | .box e x=>cp2 e h (ρ x)
 | .build t ps=>bu6 E.P t h (aS1 ρ ps.toList)
 | .buildSlice t n ps=>a06 E.P t n h (aS1 ρ ps.toList)
 | .load t a=>cw4 E.P t h (ρ a)
 | .store t a x=>bP3 E.P t h (ρ a) (ρ x)
 | .nilCheck x=>cN8 E.P h (ρ x)
 | .binOp op t x y _=>cN9 E op t x y h (ρ x) (ρ y)
 | .unOp op _ x=>sUn E op h (ρ x)
 | .convert s d x=>bG4 E s d h (ρ x)
 | .makeInterface t x=>aT9 E.P t h (ρ x)
 | .makeFunc fn first cap=>bG5 fn h (evs ρ first.toList) (evs ρ cap.toList)
 | .makeMap t r=>cb5 E.P t h (evo ρ r)
 | .makeSlice t l c=>a60 E.P t h (ρ l) (ρ c)
 | .slice t x lo hi mx=>aU0 E t h (ρ x) (evo ρ lo) (evo ρ hi) (evo ρ mx)
 | .fieldAddr s x f=>aU1 E.P s f h (ρ x)
 | .field t x f=>cp3 E.P t f h (ρ x)
 | .indexAddr t x i=>s2 (av9 E.P t) h (ρ x) (ρ i)
 | .index t x i=>s2 (bu0 E.P t) h (ρ x) (ρ i)
 | .lookup t x i ok=>s2 (fun a i=>aY5 E.P t a i ok h) h (ρ x) (ρ i)
 | .mapUpdate t m k x=>s3h (fun m k v=>a59 E.P t m k v h) (ρ m) (ρ k) (ρ x)
 | .insert t m k x=>s3h (fun m k v=>a59 E.P t m k v h) (ρ m) (ρ k) (ρ x)
 | .mapEntry t m k=>s2h (fun m k=>aq1 E.P t m k h) (ρ m) (ρ k)
 | .entryStore _ m s x=>s3h (fun m s v=>ac3 m s v h) (ρ m) (ρ s) (ρ x)
 | .range t x=>s1h (fun a=>bu2 E.P t a h) (ρ x)
 | .next it s=>s1r (fun a=>bO5 a s h) (ρ it)
 | .entry it=>s1 (fun a=>bu4 a h) h (ρ it)
 | .typeAssert x _ t ok=>s1 (fun a=>ac4 E.P a t ok) h (ρ x)
 | .extract t i=>s1 (aC3 i) h (ρ t)
 | .call c=>b82 E ρ c h (evs ρ c.args.toList)
 | .defer c=>b83 ρ c (evs ρ c.args.toList)
 |_=> .bad
def aS2:AV→Option (IntKind×SX)
 | .int k n=>some (k,.ci n)
 | .oint k e=>some (k,e)
 |_=>none
def bi2:AV→Option SX
 | .str l=>some (.cs l)
 | .ostr e=>some e
 |_=>none
def bj1:AV→Option SX
 | .bool b=>some (.cb b)
 | .obool e=>some e
 |_=>none
def d30(op:BinOp)(k k':IntKind)(a b:SX)(h:Heap):Res:=match op with
 | .shl=> .need (.op (.cmp .leq) [.ci 0,b]) (.oint k (.op (.ar .shl k) [a,b])) h
 | .shr=> .need (.op (.cmp .leq) [.ci 0,b]) (.oint k (.op (.ar .shr k) [a,b])) h
 | .quo=>if k=k' then .need (.op (.cmp .neq) [b,.ci 0]) (.oint k (.op (.ar .quo k) [a,b])) h else .bad
 | .rem=>if k=k' then .need (.op (.cmp .neq) [b,.ci 0]) (.oint k (.op (.ar .rem k) [a,b])) h else .bad
 | .add| .sub| .mul| .and| .or| .xor| .andNot=>if k=k' then .val (.oint k (.op (.ar op k) [a,b])) h else .bad
 | .eql| .neq| .lss| .leq| .gtr| .geq=>if k=k' then .val (.obool (.op (.cmp op) [a,b])) h else .bad
def cb6:Int:=4294967296
def cp4(a b:SX):SX:= .op .iadd [a,b]
def d31(op:BinOp)(a b:SX)(h:Heap):Res:=match op with
 | .eql| .neq| .lss| .leq| .gtr| .geq=> .val (.obool (.op (.scmp op) [a,b])) h
 | .add=> .need (.op (.cmp .lss) [cp4 (.op .slen [a]) (.op .slen [b]),.ci cb6]) (.ostr (.op .cat [a,b])) h
 |_=> .bad
def bG6(P:Program)(t:TypeId):Bool:=match P.underlying t with
 |some .bool=>true
 |_=>false
def cw5(P:Program)(op:BinOp)(t:TypeId)(a b:SX)(h:Heap):Res:=match op with
 | .eql=>bif bG6 P t then .val (.obool (.op .beq [a,b])) h else .bad
 | .neq=>bif bG6 P t then .val (.obool (.op .not [.op .beq [a,b]])) h else .bad
 |_=> .bad
def aG1(a b:SX):SX:=match a with
 | .cb true=>b
 |_=>match b with
  | .cb true=>a
  |_=> .op .and [a,b]
def aa9(P:Program)(ih:TypeId→AV→AV→Option SX)(xs ys:List AV):List Field→Option SX
 | []=>some (.cb true)
 |f::r=>bif f.name== "_" then aa9 P ih xs ys r else match ae8 P f.type xs f.offset,ae8 P f.type ys f.offset with
  |some a,some b=>match ih f.type a b with
   |some e=>match aa9 P ih xs ys r with
    |some e'=>some (aG1 e e')
    |none=>none
   |none=>none
  |_,_=>none
def cp5(k k':IntKind)(a b:SX):Option SX:=if k=k' then some (.op (.cmp .eql) [a,b])else none
def bj2(P:Program)(ih:TypeId→AV→AV→Option SX)(t:TypeId)(x y:AV):Option SX:=
 match P.underlying t with
 |some .bool=>match bj1 x,bj1 y with
  |some a,some b=>some (.op .beq [a,b])
  |_,_=>none
 |some (.int _)=>match aS2 x,aS2 y with
  |some (k,a),some (k',b)=>cp5 k k' a b
  |_,_=>none
 |some .string=>match bi2 x,bi2 y with
  |some a,some b=>some (.op (.scmp .eql) [a,b])
  |_,_=>none
 |some (.struct fields)=>match x,y with
  | .agg xs,.agg ys=>bif P.stoodInHeld t then none else aa9 P ih xs ys fields.toList
  |_,_=>none
 |_=>none
def d75(_:TypeId)(_ _:AV):Option SX:=none
def eqS(P:Program)(n:Nat):TypeId→AV→AV→Option SX:=Nat.rec (motive:=fun _=>TypeId→AV→AV→Option SX) d75 (fun _=>bj2 P) n
def aG2(P:Program)(t:TypeId):Bool:=match P.underlying t with
 |some (.slice _)=>true
 |_=>false
def cR2(P:Program)(op:BinOp)(t:TypeId)(len:SX)(y:AV)(h:Heap):Res:=match y with
 | .nils=>bif aG2 P t then(match op with
   | .eql=> .cho (.op (.cmp .lss) [.ci 0,len]) (.bool false) [.bool true,.bool false] h
   | .neq=> .cho (.op (.cmp .lss) [.ci 0,len]) (.bool true) [.bool true,.bool false] h
   |_=> .bad)else .bad
 |_=> .bad
def d32(P:Program)(op:BinOp)(t:TypeId)(x y:AV)(h:Heap):Res:=match x with
 | .agg cs=>match eqS P 10000 t (.agg cs) y with
   |some e=>match op with
    | .eql=> .val (.obool e) h
    | .neq=> .val (.obool (.op .not [e])) h
    |_=> .bad
   |none=> .bad
 | .osl _ _ len _=>cR2 P op t len y h
 | .ous _ len _=>cR2 P op t len y h
 |_=> .bad
def d76(P:Program)(op:BinOp)(t:TypeId)(x y:AV)(h:Heap):Res:=
 match aS2 x,aS2 y with
 |some (k,a),some (k',b)=>d30 op k k' a b h
 |_,_=>match bi2 x,bi2 y with
  |some a,some b=>d31 op a b h
  |_,_=>match bj1 x,bj1 y with
   |some a,some b=>cw5 P op t a b h
   |_,_=>d32 P op t x y h
def cc7(P:Program)(op:BinOp)(t:TypeId)(x y:Operand)(h:Heap)(a b:Option AV):Res:=match a with
 |some a=>match b with
  |some b=>bif an2 P op t x y a b then d76 P op t a b h else .bad
  |none=> .bad
 |none=> .bad
def yUn(op:UnOp)(h:Heap)(a:Option AV):Res:=match a with
 |some (.obool e)=>match op with
  | .not=> .val (.obool (.op .not [e])) h
  |_=> .bad
 |some (.oint k e)=>match op with
  | .neg=> .val (.oint k (.op (.un .neg k) [e])) h
  | .xor=> .val (.oint k (.op (.un .xor k) [e])) h
  |_=> .bad
 |_=> .bad
def d33(e x y:SX):SX:=match x,y with
 | .cb true,.cb false=>e
 | .cb false,.cb true=> .op .not [e]
 |x,y=> .op .ite [e,x,y]
def bP5(h:Heap)(e:SX)(a b:Option AV):Res:=match a.bind bj1,b.bind bj1 with
 |some x,some y=> .val (.obool (d33 e x y)) h
 |_,_=> .bad
def bP6(h:Heap)(e:SX)(a b:Option AV):Res:=match a,b with
 |some (.tup []),some y=> .need (.op .not [e]) y h
 |some x,some (.tup [])=> .need e x h
 |a,b=>bP5 h e a b
def cc8(h:Heap)(c a b:Option AV):Res:=match c with
 |some (.obool e)=>bP6 h e a b
 |_=> .bad
def b84(c:CT)(e:SX):AV:=match c with
 | .int k=> .oint k e
 | .str=> .ostr e
 | .bool=> .obool e
def bG7(sig:List CT)(l idx:SX):Nat→Nat→List AV
 |_,0=>[]
 |j,n+1=>b84 (sig.getD j .bool) (.op .lget [l,idx,.ci j])::bG7 sig l idx (j+1) n
def b85(c:CT)(v:AV):Option SX:=match c with
 | .int k=>match aS2 v with
   |some (k',e)=>if k=k' then some e else none
   |none=>none
 | .str=>bi2 v
 | .bool=>bj1 v
def R8:List CT→List AV→Option (List SX)
 | [],[]=>some []
 |c::cs,v::vs=>match b85 c v,R8 cs vs with
  |some e,some es=>some (e::es)
  |_,_=>none
 |_,_=>none
def aY8(idx len:SX):SX:= .op .and [.op (.cmp .leq) [.ci 0,idx],.op (.cmp .lss) [idx,len]]
def cc9(P:Program)(t:TypeId)(h:Heap)(a:Option AV):Res:=match a with
 |some (.optr b idx j sz)=>match h.get b with
  |some (.arr _ sig l)=>match cQ4 P t,a90 P t with
   |some true,some n=>bif Nat.beq sig.length sz&&Nat.ble (j+n) sz then .need (aY8 idx (.op .llen [l])) (.agg (bG7 sig l idx j n)) h else .bad
   |some false,some _=>bif Nat.beq sig.length sz&&Nat.blt j sz then .need (aY8 idx (.op .llen [l])) (b84 (sig.getD j .bool) (.op .lget [l,idx,.ci j])) h else .bad
   |_,_=> .bad
  |some (.vec cs)=>match cQ4 P t,idx with
   |some false,.ci (.ofNat k)=>bif Nat.beq sz 1&&Nat.beq j 0 then(match cs[k]? with
    |some a=> .val a h
    |none=> .bad)else .bad
   |_,_=> .bad
  |_=> .bad
 |_=> .bad
def d34(a b:SX):SX:=match a with
 | .ci 0=>b
 |a=> .op .iadd [a,b]
def cw6(a b:SX):SX:=match a with
 | .op (.cmp .leq) [.ci 0,.ci 0]=>b
 |a=> .op .and [a,b]
def ai9(P:Program)(t:TypeId)(h:Heap)(x i:Option AV):Res:=match P.underlying t with
 |some (.slice elem)=>match a90 P elem with
  |some s=>match i.bind aS2 with
   |some (_,i)=>match x with
    |some (.osl b off len sz)=>bif Nat.beq s sz then .need (cw6 (.op (.cmp .leq) [.ci 0,off]) (aY8 i len)) (.optr b (d34 off i) 0 sz) h else .bad
    |some (.ous b len sz)=>bif Nat.beq s sz then .need (aY8 i len) (.optr b i 0 sz) h else .bad
    |_=> .bad
   |none=> .bad
  |none=> .bad
 |_=> .bad
def aj0(P:Program)(s:TypeId)(f:Nat)(h:Heap)(a:Option AV):Res:=match P.underlying s,a with
 |some (.struct fields),some (.optr b idx j sz)=>match fields[f]? with
  |some f=>match a90 P f.type with
   |some (_+1)=> .val (.optr b idx (j+f.offset) sz) h
   |_=> .bad
  |none=> .bad
 |_,_=> .bad
def bu7(P:Program)(t:TypeId)(h:Heap)(x i:Option AV):Res:=match P.underlying t,x.bind bi2,i.bind aS2 with
 |some .string,some s,some (_,i)=> .need (aY8 i (.op .slen [s])) (.oint .u8 (.op .sat [s,i])) h
 |_,_,_=> .bad
def bM9(k:IntKind)(e:SX):AV:=match e with
 | .ci n=> .int k n
 |e=> .oint k e
def d35(P:Program)(t:Option TypeDesc)(h:Heap)(x:AV):Res:=match t with
 |some .string=>match x with
  | .ostr e=> .val (.oint .i64 (.op .slen [e])) h
  |_=> .bad
 |some (.slice _)=>match x with
  | .osl _ _ len _=> .need (.op (.cmp .leq) [.ci 0,len]) (bM9 .i64 len) h
  | .ous _ len _=> .need (.op (.cmp .leq) [.ci 0,len]) (bM9 .i64 len) h
  |_=> .bad
 |_=> .bad
def yMM(b:Builtin)(x y:AV)(h:Heap):Res:=match aS2 x,aS2 y with
 |some (k,a),some (_,c)=>match b with
  | .max=> .val (.oint k (.op .imax [a,c])) h
  | .min=> .val (.oint k (.op .imin [a,c])) h
  |_=> .bad
 |_,_=> .bad
def di2:AV→Option CT
 | .int k _=>some (.int k)
 | .oint k _=>some (.int k)
 | .str _=>some .str
 | .ostr _=>some .str
 | .bool _=>some .bool
 | .obool _=>some .bool
 |_=>none
def b86:List AV→Option (List CT)
 | []=>some []
 |a::r=>match di2 a,b86 r with
  |some c,some cs=>some (c::cs)
  |_,_=>none
def an3(sig:List CT)(sz:Nat):Nat→List AV→Option (List SX)
 |0,_=>some []
 |n+1,cs=>match R8 sig (cs.take sz),an3 sig sz n (cs.drop sz)with
  |some e,some r=>some (.op .row e::r)
  |_,_=>none
def cw7(off len l:SX):SX:= .op .and [.op .and [.op (.cmp .leq) [.ci 0,off],.op (.cmp .leq) [.ci 0,len]],.op .and [.op (.cmp .leq) [.op .iadd [off,len],.op .llen [l]],.op .bok [.op .lsub [l,off,.op .iadd [off,len]]]]]
def aq5(off len:SX)(sz:Nat)(x:Option Blk)(h:Heap):Res:=match x with
 |some (.arr _ [.int .u8] l)=>bif Nat.beq sz 1 then .need (cw7 off len l) (.ostr (.op .bstr [.op .lsub [l,off,.op .iadd [off,len]]])) h else .bad
 |_=> .bad
def aq6(o n:Nat)(x:Option Blk)(h:Heap):Res:=match x with
 |some (.cells _ _ cs)=>bif Nat.ble (o+n) cs.length then(match an3 [.int .u8] 1 n ((cs.drop o).take n)with
  |some rs=> .need (.op .bok [.op .row rs]) (.ostr (.op .bstr [.op .row rs])) h
  |none=> .bad)else .bad
 |_=> .bad
def aY9(a:Option AV)(h:Heap):Res:=match a with
 |some (.osl b off len sz)=>aq5 off len sz (h.get b) h
 |some (.ous b len sz)=>aq5 (.ci 0) len sz (h.get b) h
 |some (.sl b o n _)=>aq6 o n (h.get b) h
 |some (.us b o n _)=>aq6 o n (h.get b) h
 |_=> .bad
def aZ0(e:TypeId)(a:Option AV)(h:Heap):Res:=match a with
 |some (.ostr s)=>bif Nat.blt h.next 65536 then .choice [(.ous h.next (.op .llen [.op .sbytes [s]]) 1,h.new (.arr e [.int .u8] (.op .sbytes [s])))]else .bad
 |_=> .bad
def cd0(P:Program)(s d:TypeId)(h:Heap)(a:Option AV):Res:=match P.underlying s,P.underlying d with
 |some _,some (.int k)=>match a with
  |some (.oint _ e)=> .val (.oint k (.op (.conv k) [e])) h
  |_=> .bad
 |some (.slice e),some .string=>bif u8T P e then aY9 a h else .bad
 |some .string,some (.slice e)=>bif u8T P e then aZ0 e a h else .bad
 |some _,some .string=>match a with
  |some (.ostr e)=> .val (.ostr e) h
  |_=> .bad
 |_,_=> .bad
def T8:List CT→List CT→Bool
 | [],[]=>true
 |a::x,b::y=>decide (a=b)&&T8 x y
 |_,_=>false
def eqN(a b:SX):SX:=bif SX.beq a b then .cb true else .op (.cmp .eql) [a,b]
def cw8(sz:Nat)(y:AV)(h:Heap):Option (List CT×SX×SX):=match y with
 | .ous b len s=>match h.get b with
   |some (.arr _ sig l)=>bif Nat.beq s sz&&Nat.beq sig.length sz then some (sig,eqN len (.op .llen [l]),l)else none
   |_=>none
 | .osl b off len s=>match h.get b with
   |some (.arr _ sig l)=>bif Nat.beq s sz&&Nat.beq sig.length sz then bif SX.beq off (.ci 0)&&SX.beq len (.op .llen [l])then some (sig,.cb true,l)else some (sig,.op .and [.op (.cmp .leq) [.ci 0,off],.op .and [.op (.cmp .leq) [.ci 0,len],.op (.cmp .leq) [.op .iadd [off,len],.op .llen [l]]]],.op .lsub [l,off,.op .iadd [off,len]])else none
   |_=>none
 | .sl b o n _=>match h.get b with
   |some (.cells _ _ cs)=>bif Nat.ble (o+n*sz) cs.length&&Nat.blt 0 n then(match b86 ((cs.drop o).take sz)with
    |some sig=>match an3 sig sz n ((cs.drop o).take (n*sz))with
     |some rs=>some (sig,.cb true,.op .row rs)
     |none=>none
    |none=>none)else none
   |_=>none
 | .us b o n s=>match h.get b with
   |some (.cells _ _ cs)=>bif Nat.ble (o+n*sz) cs.length&&Nat.blt 0 n&&Nat.beq s sz then(match b86 ((cs.drop o).take sz)with
    |some sig=>match an3 sig sz n ((cs.drop o).take (n*sz))with
     |some rs=>some (sig,.cb true,.op .row rs)
     |none=>none
    |none=>none)else none
   |_=>none
 |_=>none
def bP7(sz:Nat)(y:AV):Option (List CT×SX×SX):=bif Nat.beq sz 1 then(match bi2 y with
 |some e=>some ([.int .u8],.cb true,.op .sbytes [e])
 |none=>none)else none
def al5:Int:=1000000
def cp6(z:List AV)(y:AV):Option (List CT×SX×SX):=match aS2 y,b86 z with
 |some (_,e),some sig=>(match R8 sig z with
  |some es=>some (sig,.op .and [.op (.cmp .leq) [.ci 0,e],.op (.cmp .leq) [e,.ci al5]],.op .lrep [e,.op .row es])
  |none=>none)
 |_,_=>none
def d77(P:Program)(yt sz:Nat)(z:List AV)(y:AV)(h:Heap):Option (List CT×SX×SX):=match P.underlying yt with
 |some (.slice _)=>cw8 sz y h
 |some .string=>bP7 sz y
 |some (.int _)=>cp6 z y
 |_=>none
def bP8(elem s:Nat)(sig:List CT)(x:AV)(h:Heap):Option (AV×Heap):=match x with
 | .sl b o n c=>match h.get b with
   |some (.cells e fz cs)=>bif Nat.beq e elem&&Nat.ble h.wm b&&Nat.ble fz o&&Nat.ble (o+c*s) cs.length&&Nat.ble n c&&Nat.beq sig.length s&&Nat.blt h.next 65536 then(match an3 sig s n ((cs.drop o).take (n*s))with
    |some rs=>some (.ous h.next (.op .llen [.op .row rs]) s,(h.put b none).new (.arr elem sig (.op .row rs)))
    |none=>none)else none
   |_=>none
 | .us b o n s'=>match h.get b with
   |some (.cells e fz cs)=>bif Nat.beq e elem&&Nat.ble h.wm b&&Nat.ble fz o&&Nat.ble (o+n*s) cs.length&&Nat.beq s' s&&Nat.beq sig.length s&&Nat.blt h.next 65536&&Nat.blt 0 s then(match an3 sig s n ((cs.drop o).take (n*s))with
    |some rs=>some (.ous h.next (.op .llen [.op .row rs]) s,(h.put b none).new (.arr elem sig (.op .row rs)))
    |none=>none)else none
   |_=>none
 | .ous b (.ci 0) s'=>match h.get b with
   |some (.arr e sg _)=>bif Nat.beq e elem&&Nat.ble h.wm b&&T8 sg sig&&Nat.beq s' s&&Nat.beq sig.length s&&Nat.blt h.next 65536 then some (.ous h.next (.op .llen [.op .row []]) s,(h.put b none).new (.arr elem sig (.op .row [])))else none
   |_=>none
 |_=>none
def bP9(l y:SX):SX:=match l with
 | .op .row []=>y
 |l=> .op .lcat [l,y]
def cR3(elem s:Nat)(sig:List CT)(nd ly:SX)(x:AV)(h:Heap):Res:=match x with
 | .nils=>bif !(Nat.blt h.next 65536)then .bad else .need (aG1 nd (.op (.cmp .leq) [.op .llen [ly],.ci al5])) (.ous h.next (.op .llen [ly]) s) (h.new (.arr elem sig ly))
 | .ous b len sz=>match h.get b with
   |some (.arr e sig' l)=>bif Nat.beq sz s&&Nat.beq e elem&&T8 sig' sig&&Nat.ble h.wm b&&Nat.blt h.next 65536&& !(Nat.beq e an1)then
    .need (aG1 nd (aG1 (eqN len (.op .llen [l])) (.op (.cmp .leq) [.op .llen [bP9 l ly],.ci al5]))) (.ous h.next (.op .llen [bP9 l ly]) s) ((h.put b none).new (.arr elem sig (bP9 l ly)))else .bad
   |_=> .bad
 |_=> .bad
def cR4(elem s:Nat)(sig:List CT)(nd ly:SX)(x:AV)(h:Heap)(p:Option (AV×Heap)):Res:=match p with
 |some p=>cR3 elem s sig nd ly p.1 p.2
 |none=>cR3 elem s sig nd ly x h
def bj3(P:Program)(ts:Array TypeId)(x y:AV)(h:Heap):Res:=match(ts[0]?).bind P.underlying,ts[1]? with
 |some (.slice elem),some yt=>match P.info? elem,V5 P elem with
     |some i,some z=>match d77 P yt i.size z.cells y h with
      |some (sig,nd,ly)=>bif Nat.blt 0 i.size&&Nat.beq z.cells.length i.size&&Nat.ble i.bytes 1000&&Nat.beq ts.size 2&&Nat.beq sig.length i.size&& !(aq0 P elem)then cR4 elem i.size sig nd ly x h (bP8 elem i.size sig x h)else .bad
      |none=> .bad
     |_,_=> .bad
 |_,_=> .bad
def aZ1(x:AV)(h:Heap):Res:=match x with
 | .ous b len sz=> .need (.op (.cmp .lss) [.ci 0,len]) (.optr b (.ci 0) 0 sz) h
 |_=> .bad
def aS3(l n:SX):SX:=bif SX.beq n (.op .llen [l])then l else .op .lsub [l,.ci 0,n]
def bu8(P:Program)(pt b:Nat)(l n:SX)(e:Nat)(h:Heap):Res:=match P.underlying pt with
 |some (.pointer et)=>(match a90 P et with
  |some 1=>bif Nat.beq e et&&Nat.ble h.wm b&& !(Nat.beq e an1)then .need (.op .and [.op .and [.op (.cmp .lss) [.ci 0,n],.op (.cmp .leq) [n,.ci al5]],.op .and [.op (.cmp .leq) [n,.op .llen [l]],.op .bok [aS3 l n]]]) (.ostr (.op .bstr [aS3 l n])) (h.put b none)else .bad
  |_=> .bad)
 |_=> .bad
def bu9(P:Program)(ts:Array TypeId)(b:Nat)(n:SX)(x:Option Blk)(h:Heap):Res:=match x,ts[0]? with
 |some (.arr e [.int .u8] l),some pt=>bu8 P pt b l n e h
 |_,_=> .bad
def bj4(P:Program)(ts:Array TypeId)(x y:AV)(h:Heap):Res:=match x,aS2 y with
 | .optr b (.ci 0) 0 1,some (_,n)=>bu9 P ts b n (h.get b) h
 |_,_=> .bad
def aZ2(P:Program)(b:Nat)(off len:SX)(sz:Nat)(z:List AV)(x:Option Blk)(h:Heap):Res:=match x with
 |some (.arr e sig l)=>(match R8 sig z with
  |some es=>bif Nat.beq sig.length sz&&Nat.blt 0 sz&&Nat.ble h.wm b&& !(Nat.beq e an1)&& !(aq0 P e)then
   .need (.op .and [.op .and [.op (.cmp .leq) [.ci 0,off],.op (.cmp .leq) [.ci 0,len]],.op .and [.op (.cmp .leq) [len,.ci al5],.op (.cmp .leq) [.op .iadd [off,len],.op .llen [l]]]]) .undef (h.put b (some (.arr e sig (.op .lcat [.op .lsub [l,.ci 0,off],.op .lcat [.op .lrep [len,.op .row es],.op .lsub [l,.op .iadd [off,len],.op .llen [l]]]]))))else .bad
  |none=> .bad)
 |_=> .bad
def bQ0(P:Program)(t:Option TypeDesc)(x:AV)(h:Heap):Res:=match t with
 |some (.slice elem)=>(match V5 P elem with
  |some z=>bif aq0 P elem then .bad else(match x with
   | .osl b off len sz=>aZ2 P b off len sz z.cells (h.get b) h
   | .ous b len sz=>aZ2 P b (.ci 0) len sz z.cells (h.get b) h
   |_=> .bad)
  |none=> .bad)
 |_=> .bad
def cw9(P:Program)(ts:Array TypeId)(x y:AV)(h:Heap):Res:=match(ts[0]?).bind P.underlying with
 |some (.slice elem)=>(match a90 P elem,x,y with
  |some _,.ous _ len _,.nils=> .need (.op (.cmp .leq) [.ci 0,len]) (.int .i64 0) h
  |_,_,_=> .bad)
 |_=> .bad
def a52(l idx:SX):Nat→Nat→List SX
 |_,0=>[]
 |j,n+1=> .op .lget [l,idx,.ci j]::a52 l idx (j+1) n
def d36:List CT→Nat→Nat→SX
 | [],_,_=> .cb true
 |c::r,i,j=>aG1 (match c with
  | .int _=> .op (.cmp .eql) [.va i,.va j]
  | .str=> .op (.scmp .eql) [.va i,.va j]
  | .bool=> .op .beq [.va i,.va j]) (d36 r (i+1) (j+1))
def cb7:List CT→Nat→List AV
 | [],_=>[]
 |c::r,i=>b84 c (.va i)::cb7 r (i+1)
def aw1(P:Program)(kt:TypeId)(ks:List CT):Bool:=aF9 P kt (.agg (cb7 ks 0))&&(match eqS P 10000 kt (.agg (cb7 ks 0)) (.agg (cb7 ks ks.length))with
 |some e=>SX.beq e (d36 ks 0 ks.length)
 |none=>false)
def di3:AV→Bool
 | .agg _=>true
 |_=>false
def aS4(ks:List CT)(l:SX)(es:List SX):SX:= .op (.mfind ks) [l,.op .row es]
def al6(ks:List CT)(l:SX)(es:List SX):SX:= .op (.cmp .lss) [aS4 ks l es,.op .llen [l]]
def a88(ks:List CT)(l:SX)(es:List SX):List CT→Nat→List SX→List AV
 |c::cs,j,z::zs=>b84 c (.op .ite [al6 ks l es,.op .lget [l,aS4 ks l es,.ci j],z])::a88 ks l es cs (j+1) zs
 |_,_,_=>[]
def aZ3:List AV→AV
 | [v]=>v
 |vs=> .agg vs
def a36(vs:List CT)(z:AV):Bool:=match vs with
 | []=>false
 | [_]=>z.one
 |_=>di3 z
def aj1(ks:List CT)(es zs:List SX)(l:SX):SX:=match l with
 | .op .ite [c,l0,.op .lcat [l1,.op .row [.op .row ez]]]=>bif SX.beq c (al6 ks l0 es)&&SX.beq l1 l0&&SX.beqs ez (es++zs)then l0 else l
 |l=>l
def bQ1(P:Program)(kt et:TypeId)(h:Heap)(b:Option Blk)(cs:List AV)(ok:Bool):Res:=match b,V5 P et with
 |some (.marr _ ks vs l),some z=>match R8 ks cs,R8 vs z.cells with
  |some es,some zs=>bif aw1 P kt ks&&Nat.ble 2 ks.length&&a36 vs z then .val (bif ok then .tup [aZ3 (a88 ks l es vs ks.length zs),.obool (al6 ks l es)]else aZ3 (a88 ks (aj1 ks es zs l) es vs ks.length zs)) h else .bad
  |_,_=> .bad
 |_,_=> .bad
def aZ4(P:Program)(t:TypeId)(h:Heap)(m k:Option AV)(ok:Bool):Res:=match P.underlying t with
 |some (.map kt et)=>match m with
  |some (.map r)=>match k with
   |some (.agg cs)=>bQ1 P kt et h (h.get r) cs ok
   |_=> .bad
  |_=> .bad
 |_=> .bad
def cR5(ks:List CT)(l:SX)(es xs:List SX):SX:= .op .ite [al6 ks l es,.op .lset [l,aS4 ks l es,.op .row (es++xs)],.op .lcat [l,.op .row [.op .row (es++xs)]]]
def bQ2(P:Program)(kt:TypeId)(h:Heap)(r:Nat)(b:Option Blk)(ks vs:List CT)(z:AV)(cs:List AV)(x:AV):Res:=match R8 ks cs,R8 vs x.cells with
 |some es,some xs=>bif aw1 P kt ks&&Nat.ble 2 ks.length&&a36 vs x&&Nat.ble h.wm r then(match b with
  |some (.marr d ks' vs' l)=>bif T8 ks' ks&&T8 vs' vs then .val .undef (h.put r (some (.marr d ks vs (cR5 ks l es xs))))else .bad
  |some (.map [] c)=> .val .undef (h.put r (some (.marr (Nat.beq c 0) ks vs (.op .row [.op .row (es++xs)]))))
  |_=> .bad)else .bad
 |_,_=> .bad
def bv0(P:Program)(t:TypeId)(h:Heap)(m k x:Option AV):Res:=match P.underlying t with
 |some (.map kt et)=>match m with
  |some (.map r)=>match k with
   |some (.agg cs)=>match x with
    |some x=>match V5 P kt,V5 P et with
     |some zk,some z=>match b86 zk.cells,b86 z.cells with
      |some ks,some vs=>bQ2 P kt h r (h.get r) ks vs z cs x
      |_,_=> .bad
     |_,_=> .bad
    |none=> .bad
   |_=> .bad
  |_=> .bad
 |_=> .bad
def cR6(ks:List CT)(l:SX)(es zs:List SX):SX:= .op .ite [al6 ks l es,l,.op .lcat [l,.op .row [.op .row (es++zs)]]]
def bQ3(P:Program)(kt:TypeId)(h:Heap)(r:Nat)(b:Option Blk)(ks vs:List CT)(z:AV)(cs:List AV):Res:=match R8 ks cs,R8 vs z.cells with
 |some es,some zs=>bif aw1 P kt ks&&Nat.ble 2 ks.length&&a36 vs z&&Nat.ble h.wm r then(match b with
  |some (.marr true ks' vs' l)=>bif T8 ks' ks&&T8 vs' vs then .val (.tup [aZ3 (a88 ks l es vs ks.length zs),.oint .i64 (aS4 ks l es)]) (h.put r (some (.marr true ks vs (cR6 ks l es zs))))else .bad
  |some (.map [] 0)=> .val (.tup [z,.oint .i64 (.ci 0)]) (h.put r (some (.marr true ks vs (.op .row [.op .row (es++zs)]))))
  |_=> .bad)else .bad
 |_,_=> .bad
def bj5(P:Program)(t:TypeId)(h:Heap)(m k:Option AV):Res:=match P.underlying t with
 |some (.map kt et)=>match m with
  |some (.map r)=>match k with
   |some (.agg cs)=>match V5 P kt,V5 P et with
    |some zk,some z=>match b86 zk.cells,b86 z.cells with
     |some ks,some vs=>bQ3 P kt h r (h.get r) ks vs z cs
     |_,_=> .bad
    |_,_=> .bad
   |_=> .bad
  |_=> .bad
 |_=> .bad
def bQ4(h:Heap)(r:Nat)(b:Option Blk)(e:Option SX)(x:AV):Res:=match b,e with
 |some (.marr true ks vs l),some e=>match R8 vs x.cells with
  |some xs=>bif a36 vs x&&Nat.ble h.wm r then .need (aY8 e (.op .llen [l])) .undef (h.put r (some (.marr true ks vs (.op .lset [l,e,.op .row (a52 l e 0 ks.length++xs)]))))else .bad
  |none=> .bad
 |_,_=> .bad
def cx0:AV→Option SX
 | .oint .i64 e=>some e
 | .int .i64 n=>some (.ci n)
 |_=>none
def bQ5(h:Heap)(m s x:Option AV):Res:=match m,s,x with
 |some (.map r),some s,some x=>bQ4 h r (h.get r) (cx0 s) x
 |_,_,_=> .bad
def cR7(P:Program)(kt:TypeId)(h:Heap)(r:Nat)(b:Option Blk)(cs:List AV):Res:=match b with
 |some (.marr _ ks vs l)=>match R8 ks cs with
  |some es=>bif aw1 P kt ks&&Nat.ble 2 ks.length&&Nat.ble h.wm r then .need (.cb true) .undef (h.put r (some (.marr false ks vs (.op (.mdel ks) [l,.op .row es]))))else .bad
  |none=> .bad
 |_=> .bad
def d78(P:Program)(u:Option TypeDesc)(h:Heap)(m k:AV):Res:=match u with
 |some (.map kt _)=>match m with
  | .map r=>match k with
    | .agg cs=>cR7 P kt h r (h.get r) cs
    |_=> .bad
  |_=> .bad
 |_=> .bad
def aC4(P:Program)(b:Builtin)(ts:Array TypeId)(h:Heap)(args:Option (List AV)):Res:=match args with
 |some [x]=>match b with
  | .len=>d35 P ((ts[0]?).bind P.underlying) h x
  | .unsafeSliceData=>aZ1 x h
  | .clear=>bQ0 P ((ts[0]?).bind P.underlying) x h
  |_=> .bad
 |some [x,y]=>match b with
  | .append=>bj3 P ts x y h
  | .unsafeString=>bj4 P ts x y h
  | .copy=>cw9 P ts x y h
  | .delete=>d78 P ((ts[0]?).bind P.underlying) h x y
  |_=>yMM b x y h
 |_=> .bad
def cd1(P:Program)(ρ:Operand→Option AV)(c:Call)(h:Heap):Res:=match c.callee with
 | .builtin b=>aC4 P b c.argTypes h (evs ρ c.args.toList)
 |_=> .bad
def bQ6(e:Nat)(sig:List CT)(l idx:SX)(b j n:Nat)(h:Heap)(es:Option (List SX)):Res:=match es with
 |some es=> .need (aY8 idx (.op .llen [l])) .undef (h.put b (some (.arr e sig (.op .lset [l,idx,.op .row (a52 l idx 0 j++(es++a52 l idx (j+n) (sig.length-(j+n))))]))))
 |none=> .bad
def bQ7(P:Program)(b:Nat)(idx:SX)(j sz n:Nat)(v:AV)(h:Heap)(x:Option Blk):Res:=match x with
 |some (.arr e sig l)=>bif Nat.beq sig.length sz&&Nat.ble (j+n) sz&&v.nt&&Nat.beq v.cells.length n&&Nat.ble h.wm b&&Nat.blt 0 n&& !(aq0 P e)&& !(Nat.beq e an1)then bQ6 e sig l idx b j n h (R8 ((sig.drop j).take n) v.cells)else .bad
 |_=> .bad
def bQ8(P:Program)(t:TypeId)(h:Heap)(a v:Option AV):Res:=match a,v,a90 P t with
 |some (.optr b idx j sz),some v,some n=>bQ7 P b idx j sz n v h (h.get b)
 |_,_,_=> .bad
def cp7(x:Option (Option AV))(d:SX):Option SX:=match x with
 |some none=>some d
 |some (some v)=>(aS2 v).map (·.2)
 |none=>none
def cO0(lo hi n:SX):SX:=aG1 (bif SX.beq lo (.ci 0)then .cb true else .op (.cmp .leq) [.ci 0,lo]) (aG1 (.op (.cmp .leq) [lo,hi]) (bif SX.beq hi n then .cb true else .op (.cmp .leq) [hi,n]))
def cp8(a b:SX):SX:=match b with
 | .ci 0=>a
 |b=> .op .isub [a,b]
def bQ9(s:SX)(h:Heap)(lo hi:Option SX):Res:=match lo,hi with
 |some lo,some hi=> .need (cO0 lo hi (.op .slen [s])) (.ostr (.op .ssub [s,lo,hi])) h
 |_,_=> .bad
def bR0(b:Nat)(off len:SX)(sz:Nat)(h:Heap)(lo hi:Option SX):Res:=match lo,hi with
 |some lo,some hi=> .need (aG1 (bif SX.beq off (.ci 0)then .cb true else .op (.cmp .leq) [.ci 0,off]) (cO0 lo hi len)) (.osl b (d34 off lo) (cp8 hi lo) sz) h
 |_,_=> .bad
def bR1(b:Nat)(len:SX)(sz:Nat)(h:Heap)(lo hi:Option SX):Res:=match lo,hi with
 |some lo,some hi=>bif SX.beq lo (.ci 0)then .need (cO0 (.ci 0) hi len) (.ous b hi sz) h else .need (cO0 lo hi len) (.osl b lo (cp8 hi lo) sz) h
 |_,_=> .bad
def bv1(P:Program)(t:TypeId)(h:Heap)(x:Option AV)(lo hi mx:Option (Option AV)):Res:=match x,mx with
 |some x,some none=>(match P.underlying t with
  |some .string=>(match bi2 x with
   |some s=>bQ9 s h (cp7 lo (.ci 0)) (cp7 hi (.op .slen [s]))
   |none=> .bad)
  |some (.slice elem)=>(match a90 P elem,x with
   |some s,.osl b off len sz=>bif Nat.beq s sz then bR0 b off len sz h (cp7 lo (.ci 0)) (cp7 hi len)else .bad
   |some s,.ous b len sz=>bif Nat.beq s sz then bR1 b len sz h (cp7 lo (.ci 0)) (cp7 hi len)else .bad
   |_,_=> .bad)
  |_=> .bad)
 |_,_=> .bad
def aG3(E:Env)(ρ:Operand→Option AV)(o:Oper)(h:Heap):Res:=
 match o.op with
 | .binOp op t x y _=>cc7 E.P op t x y h (ρ x) (ρ y)
 | .unOp op _ x=>yUn op h (ρ x)
 | .convert s d x=>cd0 E.P s d h (ρ x)
 | .pick c a b=>cc8 h (ρ c) (ρ a) (ρ b)
 | .load t a=>cc9 E.P t h (ρ a)
 | .indexAddr t x i=>ai9 E.P t h (ρ x) (ρ i)
 | .fieldAddr s x f=>aj0 E.P s f h (ρ x)
 | .index t x i=>bu7 E.P t h (ρ x) (ρ i)
 | .store t a x=>bQ8 E.P t h (ρ a) (ρ x)
 | .slice t x lo hi mx=>bv1 E.P t h (ρ x) (evo ρ lo) (evo ρ hi) (evo ρ mx)
 | .lookup t m k ok=>aZ4 E.P t h (ρ m) (ρ k) ok
 | .mapUpdate t m k x=>bv0 E.P t h (ρ m) (ρ k) (ρ x)
 | .insert t m k x=>bv0 E.P t h (ρ m) (ρ k) (ρ x)
 | .mapEntry t m k=>bj5 E.P t h (ρ m) (ρ k)
 | .entryStore _ m s x=>bQ5 h (ρ m) (ρ s) (ρ x)
 | .call c=>cd1 E.P ρ c h
 |_=> .bad
def cR8(r:Res)(s:Res):Res:=match r with
 | .bad=>s
 |r=>r
def S5(E:Env)(ρ:Operand→Option AV)(o:Oper)(h:Heap):Res:=cR8 (aq4 E ρ o h) (aG3 E ρ o h)
def a37(o:Oper):Bool:=
 match o.op with
 | .move _| .pick .. | .alloc _| .box .. | .build .. | .buildSlice .. | .load .. | .nilCheck _| .binOp .. | .unOp .. | .makeInterface .. | .makeFunc ..
 | .makeMap .. | .makeSlice .. | .slice .. | .fieldAddr .. | .field .. | .indexAddr .. | .index .. | .lookup .. | .extract .. | .convert .. | .typeAssert .. =>true
 | .call {callee:= .builtin .len,..}| .call {callee:= .builtin .cap,..}| .call {callee:= .builtin .min,..}| .call {callee:= .builtin .max,..}=>true
 |_=>false
def R9(o:Oper):Bool:=
 match o.op with
 | .alloc _| .box .. | .buildSlice .. | .makeMap .. | .makeSlice .. =>true
 |_=>false
def a07(e:Edge):Bool:=match e.ground with
 | .textOnly _| .gcOnly _=>false
 |_=>true
def aG4(acc:List Nat):List Edge→Nat
 | []=>0
 |e::r=>bif a07 e then(2^e.on|||acc.getD e.on 0)|||aG4 acc r else aG4 acc r
def bR2:List Oper→List Nat→Option (List Nat)
 | [],acc=>some acc
 |o::r,acc=>bif o.after.toList.all (fun e=> !a07 e||Nat.blt e.on acc.length)then bR2 r (acc++[aG4 acc o.after.toList])else none
def cp9:Operand→List Nat
 | .tmp t=>[t]
 |_=>[]
def Z0(ops:List Oper)(o:Oper):List Nat:=
 o.op.operands.toList.flatMap cp9++(match o.guard with
  |some (j,_)=>match ops[j]? with
   |some g=>g.dst.toList
   |none=>[]
  |none=>[])
structure PO where
 i:Nat
 o:Oper
 m:Nat
 fl:Bool
def aB0:List Oper→List Nat→Nat→List PO
 |o::r,m::ms,i=>⟨i,o,m,a37 o⟩::aB0 r ms (i+1)
 |_,_,_=>[]
def d79(done:Nat):List PO→List PO×List PO×Nat
 | []=>([],[],done)
 |x::r=>bif x.fl&&Nat.beq (x.m&&&done) x.m then
  let (a,b,d):=d79 (done|||2^x.i) r
  (x::a,b,d)
  else
   let (a,b,d):=d79 done r
   (a,x::b,d)
def cR9:Nat→Nat→List PO→List PO
 |0,_,l=>l
 |f+1,done,l=>
  match d79 done l with
  |(a,b,d)=>match b.find? (fun x=> !x.fl)with
   |none=>a++b
   |some c=>a++c::cR9 f (d|||2^c.i) (b.filter fun x=> !(Nat.beq x.i c.i))
def bG8(o:Oper)(t:Nat):Bool:=match o.dst with
 |some d=>Nat.beq d t
 |none=>false
def cx1(ops:List Oper)(l:List PO):Bool:=
 l.all fun x=>((Z0 ops x.o).all fun t=>l.all fun y=> !(bG8 y.o t)||x.m.testBit y.i||(!y.fl&&y.m.testBit x.i))&&
  (match x.o.dst with
  |none=>true
  |some d=>l.all fun y=> !(bG8 y.o d)||Nat.beq x.i y.i)
def cx2(l:List PO):Bool:=
 l.all fun x=>x.fl||l.all fun y=>y.fl|| !(Nat.blt y.i x.i)||x.m.testBit y.i
def eager:Nat→List PO→Bool
 |_,[]=>true
 |done,x::r=>Nat.beq (x.m&&&done) x.m&& !(done.testBit x.i)&&(x.fl||r.all (fun y=> !y.fl|| !(Nat.beq (y.m&&&done) y.m)))&&eager (done|||2^x.i) r
def cx3(ops:List Oper)(l:List PO):List PO:=(cR9 (ops.length+1) 0 l).filterMap fun y=>l[y.i]?
def cS0(ops:List Oper):Option (List PO):=
 match bR2 ops []with
 |none=>none
 |some ms=>bif cx1 ops (aB0 ops ms 0)&&cx2 (aB0 ops ms 0)&&eager 0 (cx3 ops (aB0 ops ms 0))&&
  (aB0 ops ms 0).all (fun x=>(cx3 ops (aB0 ops ms 0)).any fun y=>Nat.beq x.i y.i)then some (cx3 ops (aB0 ops ms 0))else none
mutual
def AV.beq:AV→AV→Bool
 | .bool a,.bool b=>a==b
 | .int k a,.int k' b=>decide (k=k')&&b76 a b
 | .str a,.str b=>cw0 a b
 | .nilp,.nilp| .nils,.nils| .es0,.es0| .nilm,.nilm| .nilf,.nilf| .nili,.nili=>true
 | .ptr a b,.ptr c d=>Nat.beq a c&&Nat.beq b d
 | .glob a,.glob b| .map a,.map b| .opq a,.opq b=>Nat.beq a b
 | .ostr a,.ostr b| .obool a,.obool b=>SX.beq a b
 | .osl a b c d,.osl a' b' c' d'=>Nat.beq a a'&&SX.beq b b'&&SX.beq c c'&&Nat.beq d d'
 | .optr a b c d,.optr a' b' c' d'=>Nat.beq a a'&&SX.beq b b'&&Nat.beq c c'&&Nat.beq d d'
 | .ous a b c,.ous a' b' c'=>Nat.beq a a'&&SX.beq b b'&&Nat.beq c c'
 | .any,.any=>true
 | .atl a,.atl b=>Nat.beq a b
 | .oint k a,.oint k' b=>decide (k=k')&&SX.beq a b
 | .es a b c,.es a' b' c'=>Nat.beq a a'&&Nat.beq b b'&&Nat.beq c c'
 | .sl a b c d,.sl a' b' c' d'=>Nat.beq a a'&&Nat.beq b b'&&Nat.beq c c'&&Nat.beq d d'
 | .us a b c d,.us a' b' c' d'=>Nat.beq a a'&&Nat.beq b b'&&Nat.beq c c'&&Nat.beq d d'
 | .func f a b,.func g c d=>decide (f=g)&&AV.beqs a c&&AV.beqs b d
 | .iface t v,.iface u w=>Nat.beq t u&&AV.beq v w
 | .agg a,.agg b| .tup a,.tup b=>AV.beqs a b
 |_,_=>false
def AV.beqs:List AV→List AV→Bool
 | [],[]=>true
 |a::x,b::y=>AV.beq a b&&AV.beqs x y
 |_,_=>false
end
mutual
def R5(v0:Nat):SX→Bool
 | .va m=>Nat.blt m v0
 | .op _ l=>a65 v0 l
 | .app _ l=>a65 v0 l
 |_=>true
def a65(v0:Nat):List SX→Bool
 | []=>true
 |a::r=>R5 v0 a&&a65 v0 r
end
mutual
def okA(v0 nb:Nat):AV→Bool
 | .bool _| .int _ _| .str _| .nilp| .glob _| .nils| .es0| .nilm| .nilf| .nili| .opq _| .atl _| .any=>true
 | .ptr b _=>Nat.blt b nb
 | .sl b _ _ _=>Nat.blt b nb
 | .us b _ _ _=>Nat.blt b nb
 | .es b _ _=>Nat.blt b nb
 | .map b=>Nat.blt b nb
 | .yield b=>Nat.blt b nb
 | .func _ x y=>bN0 v0 nb x&&bN0 v0 nb y
 | .iface _ v=>okA v0 nb v
 | .agg l=>bN0 v0 nb l
 | .tup l=>bN0 v0 nb l
 | .oint _ e=>R5 v0 e
 | .ostr e=>R5 v0 e
 | .obool e=>R5 v0 e
 | .osl b x y _=>Nat.blt b nb&&R5 v0 x&&R5 v0 y
 | .optr b x _ _=>Nat.blt b nb&&R5 v0 x
 | .ous b x _=>Nat.blt b nb&&R5 v0 x
def bN0(v0 nb:Nat):List AV→Bool
 | []=>true
 |a::r=>okA v0 nb a&&bN0 v0 nb r
end
def bj6(v0:Nat)(e:SX):Option Nat:=match e with
 | .va m=>bif Nat.ble v0 m then some (m-v0)else none
 |_=>none
def bj7(v0 n:Nat)(p x:SX):Option (List SX):=match bj6 v0 p with
 |some m=>bif Nat.beq m n then some [x]else none
 |none=>bif SX.beq p x&&R5 v0 x then some []else none
def cq0(v0 n:Nat)(p:SX)(x:Option SX):Option (List SX):=match x with
 |some x=>bj7 v0 n p x
 |none=>none
def d37(v0 n:Nat)(k:IntKind)(p:SX)(x:Option (IntKind×SX)):Option (List SX):=match x with
 |some (k',x)=>if k=k' then bj7 v0 n p x else none
 |none=>none
def bj8(v0 n:Nat)(p q x y:SX):Option (List SX):=match bj7 v0 n p x with
 |some es=>match bj7 v0 (n+es.length) q y with
  |some fs=>some (es++fs)
  |none=>none
 |none=>none
def b87(v0 nb n b:Nat)(p q:SX)(s:Nat)(x:AV):Option (List SX):=match x with
 | .osl b' x y s'=>bif Nat.beq b b'&&Nat.beq s s'&&Nat.blt b nb then bj8 v0 n p q x y else none
 |_=>none
def b88(v0 nb n b:Nat)(p:SX)(s:Nat)(x:AV):Option (List SX):=match x with
 | .ous b' x s'=>bif Nat.beq b b'&&Nat.beq s s'&&Nat.blt b nb then bj7 v0 n p x else none
 |_=>none
mutual
def Q1(v0 nb n:Nat):AV→AV→Option (List SX)
 | .any,_=>some []
 | .oint k p,x=>d37 v0 n k p (aS2 x)
 | .ostr p,x=>cq0 v0 n p (bi2 x)
 | .obool p,x=>cq0 v0 n p (bj1 x)
 | .agg ps,.agg xs=>an4 v0 nb n ps xs
 | .osl b p q s,x=>b87 v0 nb n b p q s x
 | .ous b p s,x=>b88 v0 nb n b p s x
 |p,x=>bif AV.beq p x&&okA v0 nb x then some []else none
def an4(v0 nb n:Nat):List AV→List AV→Option (List SX)
 | [],[]=>some []
 |p::ps,x::xs=>match Q1 v0 nb n p x with
  |some e=>match an4 v0 nb (n+e.length) ps xs with
   |some es=>some (e++es)
   |none=>none
  |none=>none
 |_,_=>none
end
def aG5(v0 nb:Nat):List Ent→List Ent→Bool
 | [],[]=>true
 |a::x,b::y=>AV.beq a.key b.key&&AV.beq a.val b.val&&Nat.beq a.born b.born&&okA v0 nb b.key&&okA v0 nb b.val&&aG5 v0 nb x y
 |_,_=>false
def bR3(v0 nb n:Nat)(p x:Blk):Option (List SX):=match p,x with
 | .cells e fz ps,.cells e' fz' xs=>bif Nat.beq e e'&&Nat.beq fz fz'&&ps.all AV.oneA then an4 v0 nb n ps xs else none
 | .arr e sig p,.arr e' sig' x=>bif Nat.beq e e'&&T8 sig sig' then bj7 v0 n p x else none
 | .map es c,.map es' c'=>bif aG5 v0 nb es es'&&Nat.beq c c' then some []else none
 | .marr d ks vs p,.marr d' ks' vs' x=>bif (!d||d')&&(T8 ks ks'&&T8 vs vs')then bj7 v0 n p x else none
 | .marr d _ _ p,.map [] c=>bif !d||Nat.beq c 0 then bj7 v0 n p (.op .row [])else none
 | .bag e sig p,.bag e' sig' x=>bif Nat.beq e e'&&T8 sig sig' then bj7 v0 n p x else none
 |_,_=>none
def aS5(v0 nb n:Nat)(p x:Option Blk):Option (List SX):=match p with
 |none=>some []
 |some p=>match x with
  |some x=>bR3 v0 nb n p x
  |none=>none
def cd2(v0 nb:Nat)(aP a:Fr):Nat→Nat→Nat→Option (List SX)
 |0,_,_=>some []
 |m+1,t,n=>match Q1 v0 nb n (aP.slot t) (a.slot t)with
  |some e=>match cd2 v0 nb aP a m (t+1) (n+e.length)with
   |some es=>some (e++es)
   |none=>none
  |none=>none
def cd3(v0 nb:Nat)(hP h:Heap):Nat→Nat→Nat→Option (List SX)
 |0,_,_=>some []
 |m+1,b,n=>match aS5 v0 nb n (hP.get b) (h.get b)with
  |some e=>match cd3 v0 nb hP h m (b+1) (n+e.length)with
   |some es=>some (e++es)
   |none=>none
  |none=>none
def aa1(a:Fr):Bool:=a.ds.isEmpty&&a.ro.isNone
def a67(v0:Nat)(aP:Fr)(hP:Heap)(a:Fr)(h:Heap):Option (List SX):=
 bif aa1 aP&&aa1 a&&Nat.beq aP.nt a.nt&&Nat.ble hP.next h.next&&Nat.beq hP.wm h.wm then
  (match cd2 v0 hP.next aP a aP.nt 0 0 with
  |some es=>match cd3 v0 hP.next hP h hP.next 0 es.length with
   |some fs=>some (es++fs)
   |none=>none
  |none=>none)
 else none
def U0(a:Fr):List (Nat×AV)→Fr
 | []=>a
 |(t,v)::r=>U0 (a.put (some t) v) r
def layDead(a:Fr):List Nat→Fr
 | []=>a
 |t::r=>layDead (a.put (some t) .any) r
def cS1(n:Nat)(t:TH)(_ wm:Nat):Heap:=⟨t,n,wm⟩
def Heap.upto(h:Heap)(n:Nat):Heap:=Heap.rec (cS1 n) h
def Z1(h:Heap):List (Nat×Option Blk)→Heap
 | []=>h
 |(b,x)::r=>Z1 (h.put b x) r
def bv2(a:Fr)(b:Nat):Nat→Bool
 |0=>false
 |t+1=>(match a.slot t with
  | .ptr b' _=>Nat.beq b b'
  | .map b'=>Nat.beq b b'
  |_=>false)||bv2 a b t
def cS2(h:Heap)(b:Nat):Bool:=match h.get b with
 |some (.arr _ _ _)=>true
 |_=>false
def cS3(b:Nat):AV→Bool
 | .map b'=>Nat.beq b b'
 |_=>false
def cS4(b:Nat)(x:Option Blk):Bool:=match x with
 |some (.cells _ _ cs)=>cs.any (cS3 b)
 |_=>false
def cq1(b:Nat)(h:Heap):AV→Bool
 | .ptr c _=>cS4 b (h.get c)
 |_=>false
def bv3(a:Fr)(h:Heap)(b:Nat):Nat→Bool
 |0=>false
 |t+1=>(match a.slot t with
  | .func _ _ l=>l.any (cq1 b h)
  |_=>false)||bv3 a h b t
def bv4(a:Fr)(h:Heap)(n0:Nat)(next:Nat)(l:List (Nat×Option Blk)):Bool:=l.all fun p=>Nat.blt p.1 next&&(Nat.ble n0 p.1||bv2 a p.1 a.nt||cS2 h p.1||bv3 a h p.1 a.nt)
def T6(v0:Nat)(q:Nat→SX)(e:SX):SX:=match bj6 v0 e with
 |some m=>q m
 |none=>e
mutual
def aG6(v0:Nat)(q:Nat→SX):AV→AV
 | .oint k e=> .oint k (T6 v0 q e)
 | .ostr e=> .ostr (T6 v0 q e)
 | .obool e=> .obool (T6 v0 q e)
 | .agg l=> .agg (aU2 v0 q l)
 | .osl b x y s=> .osl b (T6 v0 q x) (T6 v0 q y) s
 | .ous b x s=> .ous b (T6 v0 q x) s
 |x=>x
def aU2(v0:Nat)(q:Nat→SX):List AV→List AV
 | []=>[]
 |a::r=>aG6 v0 q a::aU2 v0 q r
end
def bj9(v0:Nat)(q:Nat→SX)(x:Option Blk):Option Blk:=match x with
 |some (.cells e fz cs)=>some (.cells e fz (aU2 v0 q cs))
 |some (.arr e sig l)=>some (.arr e sig (T6 v0 q l))
 |some (.marr d ks vs l)=>some (.marr d ks vs (T6 v0 q l))
 |some (.bag e sig l)=>some (.bag e sig (T6 v0 q l))
 |x=>x
def okB(v0 nb:Nat):Option Blk→Bool
 |none=>true
 |some (.cells _ _ cs)=>bN0 v0 nb cs
 |some (.arr _ _ l)=>R5 v0 l
 |some (.marr _ _ _ l)=>R5 v0 l
 |some (.bag _ _ l)=>R5 v0 l
 |some (.map es _)=>aG5 v0 nb es es
 |_=>false
def cx4(v0 nb:Nat)(a:Fr):Nat→Bool
 |0=>true
 |t+1=>okA v0 nb (a.slot t)&&cx4 v0 nb a t
def d38(v0 nb:Nat)(h:Heap):Nat→Bool
 |0=>true
 |t+1=>okB v0 nb (h.get t)&&d38 v0 nb h t
mutual
def noB(b:Nat):AV→Bool
 | .ptr c _=> !(Nat.beq c b)
 | .sl c _ _ _=> !(Nat.beq c b)
 | .us c _ _ _=> !(Nat.beq c b)
 | .es c _ _=> !(Nat.beq c b)
 | .map c=> !(Nat.beq c b)
 | .yield c=> !(Nat.beq c b)
 | .func _ x y=>bk0 b x&&bk0 b y
 | .iface _ v=>noB b v
 | .agg l=>bk0 b l
 | .tup l=>bk0 b l
 | .osl c _ _ _=> !(Nat.beq c b)
 | .optr c _ _ _=> !(Nat.beq c b)
 | .ous c _ _=> !(Nat.beq c b)
 |_=>true
def bk0(b:Nat):List AV→Bool
 | []=>true
 |a::r=>noB b a&&bk0 b r
end
def bR4(b:Nat):Option Blk→Bool
 |none=>true
 |some (.cells _ _ cs)=>bk0 b cs
 |some (.arr _ _ _)=>true
 |some (.map es _)=>es.all fun e=>noB b e.key&&noB b e.val
 |some (.marr _ _ _ _)=>true
 |some (.bag _ _ _)=>true
 |some (.mrg it _ _ _ _)=> !(Nat.beq it b)
 |some (.mit m)=> !(Nat.beq m b)
 |some (.vec cs)=>bk0 b cs
 |_=>false
def bR5(b t:Nat)(a:Fr):Nat→Bool
 |0=>a.ds.isEmpty
 |s+1=>(Nat.beq s t||noB b (a.slot s))&&bR5 b t a s
def cq2(b:Nat)(h:Heap):Nat→Bool
 |0=>true
 |s+1=>bR4 b (h.get s)&&cq2 b h s
def an5(o:OwnP)(a:Fr)(h:Heap)(l:SX):Fr×Heap:=(a.put (some o.slot) (.ous o.blk (.op .llen [l]) o.sig.length),h.put o.blk (some (.arr o.elem o.sig l)))
def cd4(len l:SX):Bool:=SX.beq len (.op .llen [l])||(match len,l with
 | .ci 0,.op .row []=>true
 |_,_=>false)
def bR6(o:OwnP)(a:Fr)(h:Heap):Option (Fr×Heap):=
 match a.slot o.slot with
 | .ous r len sz=>bif Nat.beq r o.blk then(match h.get r with
     |some (.arr e sig l)=>bif Nat.beq e o.elem&&T8 sig o.sig&&Nat.beq sz sig.length then some (a,h)else none
     |_=>none)
   else bif Nat.blt o.slot a.nt&&Nat.blt o.blk h.next&&Nat.blt o.blk 65536&&(h.get o.blk).isNone&&bR5 o.blk o.slot a a.nt&&cq2 o.blk h h.next&&Nat.ble h.wm r then(match h.get r with
    |some (.arr e sig l)=>bif Nat.beq e o.elem&&T8 sig o.sig&&Nat.beq sz sig.length&&cd4 len l then some (an5 o a (h.put r none) l)else none
    |_=>none)else none
 | .nils=>bif Nat.blt o.slot a.nt&&Nat.blt o.blk h.next&&Nat.blt o.blk 65536&&(h.get o.blk).isNone&&bR5 o.blk o.slot a a.nt&&cq2 o.blk h h.next then some (an5 o a h (.op .row []))else none
 | .us r 0 n sz=>bif Nat.blt o.slot a.nt&&Nat.blt o.blk h.next&&Nat.blt o.blk 65536&&(h.get o.blk).isNone&&bR5 o.blk o.slot a a.nt&&cq2 o.blk h h.next&&Nat.ble h.wm r&&Nat.blt 0 sz then(match h.get r with
     |some (.cells e 0 cs)=>bif Nat.beq e o.elem&&Nat.beq sz o.sig.length&&Nat.beq cs.length (n*sz)then(match an3 o.sig sz n cs with
      |some rs=>some (an5 o a (h.put r none) (.op .row rs))
      |none=>none)else none
     |_=>none)else none
 | .sl r p n c=>bif Nat.blt o.slot a.nt&&Nat.blt o.blk h.next&&Nat.blt o.blk 65536&&(h.get o.blk).isNone&&bR5 o.blk o.slot a a.nt&&cq2 o.blk h h.next&&Nat.ble h.wm r then(match h.get r with
     |some (.cells e fz cs)=>bif Nat.beq e o.elem&&Nat.ble fz p&&Nat.ble (p+c*o.sig.length) cs.length&&Nat.ble n c then(match an3 o.sig o.sig.length n ((cs.drop p).take (n*o.sig.length))with
      |some rs=>some (an5 o a (h.put r none) (.op .row rs))
      |none=>none)else none
     |_=>none)else none
 |_=>none
def am1(o:OwnP)(c i e fz:Nat)(cs:List AV)(h:Heap)(l:SX):Heap:=(h.put c (some (.cells e fz (cs.set i (.ous o.blk (.op .llen [l]) o.sig.length))))).put o.blk (some (.arr o.elem o.sig l))
def cd5(b c:Nat)(cs:List AV)(h:Heap):Nat→Bool
 |0=>bk0 b cs
 |s+1=>(Nat.beq s c||bR4 b (h.get s))&&cd5 b c cs h s
def bR7(o:OwnP)(c i e fz:Nat)(cs:List AV)(a:Fr)(h:Heap)(x:Option AV):Option (Fr×Heap):=match x with
 |some (.ous r len sz)=>bif Nat.beq r o.blk then(match h.get r with
     |some (.arr e sig l)=>bif Nat.beq e o.elem&&T8 sig o.sig&&Nat.beq sz sig.length then some (a,h)else none
     |_=>none)
  else bif Nat.ble h.wm r&& !(Nat.beq r c)then(match h.get r with
   |some (.arr e' sig l)=>bif Nat.beq e' o.elem&&T8 sig o.sig&&Nat.beq sz sig.length&&cd4 len l then some (a,am1 o c i e fz cs (h.put r none) l)else none
   |_=>none)else none
 |some .nils=>some (a,am1 o c i e fz cs h (.op .row []))
 |some (.us r 0 n sz)=>bif Nat.ble h.wm r&&Nat.blt 0 sz&& !(Nat.beq r c)then(match h.get r with
     |some (.cells e' 0 ds)=>bif Nat.beq e' o.elem&&Nat.beq sz o.sig.length&&Nat.beq ds.length (n*sz)then(match an3 o.sig sz n ds with
      |some rs=>some (a,am1 o c i e fz cs (h.put r none) (.op .row rs))
      |none=>none)else none
     |_=>none)else none
 |_=>none
def cx5(b:Nat)(x:Option AV):Bool:=match x with
 |some (.ous r _ _)=>Nat.beq r b
 |_=>false
def cx6(c:Nat)(x:AV):Bool:=match x with
 | .ptr b _=>Nat.beq b c
 |_=>false
def cx7(o:OwnP)(c i:Nat)(a:Fr)(h:Heap):Option (Fr×Heap):=match h.get c with
 |some (.cells e fz cs)=>bif cx6 c (a.slot o.slot)&&Nat.blt o.slot a.nt&&Nat.blt i cs.length&&(cx5 o.blk cs[i]? ||(Nat.blt o.blk h.next&&Nat.blt o.blk 65536&&(h.get o.blk).isNone&& !(Nat.beq c o.blk)&&bR5 o.blk a.nt a a.nt&&cd5 o.blk c (cs.set i .nils) h h.next))then bR7 o c i e fz cs a h cs[i]? else none
 |_=>none
def cx8(o:OwnP)(a:Fr)(h:Heap):Option (Fr×Heap):=match o.cell with
 |none=>bR6 o a h
 |some p=>cx7 o p.1 p.2 a h
def bk1:List OwnP→Fr→Heap→Option (Fr×Heap)
 | [],a,h=>some (a,h)
 |o::r,a,h=>match cx8 o a h with
  |some p=>bk1 r p.1 p.2
  |none=>none
def bG9:Ex→Ex→Bool
 | .norm,.norm=>true
 | .ret,.ret=>true
 | .exit a,.exit b=>Nat.beq a b
 |_,_=>false
structure Pend where
 i:Nat
 o:Oper
 v:AV
 nd:Option SX
inductive Task (R:Type)where
 |code (c:Code) (a:Fr) (h:Heap) (k:Ex→Fr→Heap→R)
 |loop (c:Code) (a:Fr) (h:Heap) (k:Ex→Fr→Heap→R)
 |ops (all rest:List Oper) (a:Fr) (h:Heap) (k:Fr→Heap→R)
 |dops (all:List Oper) (rest:List PO) (pend:List Pend) (a:Fr) (h:Heap) (k:Fr→Heap→R)
 |call (f:FuncId) (args:List AV) (h:Heap) (k:AV→Heap→R)
 |body (f:FuncId) (args:List AV) (h:Heap) (k:AV→Heap→R)
 |dbody (f:FuncId) (args:List AV) (h:Heap) (k:AV→Heap→R)
 |leave (rs:List ResultVar) (a:Fr) (ds:List ADef) (h:Heap) (k:AV→Heap→R)
abbrev PC:=List (SX×Bool)
structure Alg (R:Type)where
 bad:R
 amb:List (AV×Heap)→(AV×Heap→R)→R
 ite:SX→R→R→R
 need:SX→R→R
 loop:LHd→VT→List R→R
 mloop:LHd→SX→VT→List R→R
def a38:Alg Bool:=⟨false,fun l f=>l.all f,fun _ x y=>x&&y,fun _ _=>false,fun _ _ _=>false,fun _ _ _ _=>false⟩
def bR8:Alg (Option (AV×Heap)):=⟨none,fun l f=>match l with
  |x::_=>f x
  | []=>none,fun _ _ _=>none,fun _ _=>none,fun _ _ _=>none,fun _ _ _ _=>none⟩
structure VC where
 pc:PC
 cl:SX
def cq3(p:Prim)(l:List SX):SX×Bool:=match p,l with
 | .cmp .geq,[a,b]=>(.op (.cmp .lss) [a,b],false)
 | .cmp .gtr,[a,b]=>(.op (.cmp .lss) [b,a],true)
 | .cmp .leq,[a,b]=>(.op (.cmp .lss) [b,a],false)
 | .cmp .neq,[a,b]=>(.op (.cmp .eql) [a,b],false)
 | .scmp .geq,[a,b]=>(.op (.scmp .lss) [a,b],false)
 | .scmp .gtr,[a,b]=>(.op (.scmp .lss) [b,a],true)
 | .scmp .leq,[a,b]=>(.op (.scmp .lss) [b,a],false)
 | .scmp .neq,[a,b]=>(.op (.scmp .eql) [a,b],false)
 |p,l=>(.op p l,true)
def aZ5(e:SX):SX×Bool:=match e with
 | .op p l=>cq3 p l
 |e=>(e,true)
def cd6(e:SX):PC→Option Bool
 | []=>none
 |p::r=>bif SX.beq e p.1 then some p.2 else cd6 e r
def bR9(a b:Bool):Bool:=bif a then b else !b
def cx9(c:SX×Bool)(pc:PC):Option Bool:=match cd6 c.1 pc with
 |some b=>some (bR9 b c.2)
 |none=>none
def d80(a b:Option Bool):Option Bool:=match a with
 |some false=>some false
 |some true=>b
 |none=>match b with
  |some false=>some false
  |_=>none
def orO(a b:Option Bool):Option Bool:=match a with
 |some true=>some true
 |some false=>b
 |none=>match b with
  |some true=>some true
  |_=>none
def dc9(a:Option Bool):Option Bool:=match a with
 |some b=>some (!b)
 |none=>none
def dd0(c a b:Option Bool):Option Bool:=match c with
 |some true=>a
 |some false=>b
 |none=>none
def cq4(k:SX→Option Bool)(p:Prim)(l:List SX):Option Bool:=match p,l with
 | .not,[a]=>dc9 (k a)
 | .and,[a,b]=>d80 (k a) (k b)
 | .or,[a,b]=>orO (k a) (k b)
 | .ite,[c,a,b]=>dd0 (k c) (k a) (k b)
 |p,l=>d29 (.op p l)
def cq5(k:SX→Option Bool)(e:SX):Option Bool:=match e with
 | .cb b=>some b
 | .op p l=>cq4 k p l
 |_=>none
def bS0(pc:PC)(k:SX→Option Bool)(e:SX):Option Bool:=match cx9 (aZ5 e) pc with
 |some b=>some b
 |none=>cq5 k e
def aB1(pc:PC)(n:Nat):SX→Option Bool:=Nat.rec (motive:=fun _=>SX→Option Bool) (fun _=>none) (fun _ k=>bS0 pc k) n
def cq6(k:SX→Bool→PC)(p:Prim)(l:List SX)(b:Bool):PC:=match p,l with
 | .not,[a]=>k a (!b)
 | .and,[x,y]=>bif b then k x true++k y true else []
 | .or,[x,y]=>bif b then []else k x false++k y false
 | .ite,[c,x,.cb false]=>bif b then k c true++k x true else []
 | .ite,[c,.cb true,y]=>bif b then []else k c false++k y false
 |_,_=>[]
def bS1(k:SX→Bool→PC)(e:SX)(b:Bool):PC:=match e with
 | .op p l=>cq6 k p l b
 |_=>[]
def cS5(c:SX×Bool)(b:Bool):SX×Bool:=(c.1,bR9 c.2 b)
def bS2(k:SX→Bool→PC)(e:SX)(b:Bool):PC:=cS5 (aZ5 e) b::bS1 k e b
def b89(n:Nat):SX→Bool→PC:=Nat.rec (motive:=fun _=>SX→Bool→PC) (fun _ _=>[]) (fun _ k=>bS2 k) n
abbrev RPT:=PC→VT
def dd1(pc:PC)(k:SX→SX)(p:Prim)(l:List SX):SX:=match p,l with
 | .ite,[c,a,b]=>(match aB1 pc 8 c with
   |some true=>k a
   |some false=>k b
   |none=> .op .ite [c,a,b])
 | .and,[a,b]=>(match aB1 pc 8 a with
   |some true=>k b
   |_=>(match aB1 pc 8 b with
    |some true=>k a
    |_=> .op .and [a,b]))
 | .or,[a,b]=>(match aB1 pc 8 a with
   |some false=>k b
   |_=>(match aB1 pc 8 b with
    |some false=>k a
    |_=> .op .or [a,b]))
 | .not,[a]=> .op .not [k a]
 |p,l=> .op p l
def d81(pc:PC)(k:SX→SX)(e:SX):SX:=match e with
 | .op p l=>dd1 pc k p l
 |e=>e
def red(pc:PC)(n:Nat):SX→SX:=Nat.rec (motive:=fun _=>SX→SX) (fun e=>e) (fun _ k=>d81 pc k) n
def cS6(pc:PC)(k:SX→SX)(p:Prim)(l:List SX):SX:=match p,l with
 | .ite,[c,a,b]=>(match aB1 pc 8 c with
   |some true=>k a
   |some false=>k b
   |none=> .op .ite [c,a,b])
 |p,l=> .op p l
def cy0(pc:PC)(k:SX→SX)(e:SX):SX:=match e with
 | .op p l=>cS6 pc k p l
 |e=>e
def d39(pc:PC)(n:Nat):SX→SX:=Nat.rec (motive:=fun _=>SX→SX) (fun e=>e) (fun _ k=>cy0 pc k) n
def cy1(e:SX)(x y:RPT)(pc:PC)(b:Option Bool):VT:=match b with
 |some true=>x pc
 |some false=>y pc
 |none=> .ite (red pc 16 e) (x (b89 8 e true++pc)) (y (b89 8 e false++pc))
def bS3(e:SX)(x:RPT)(pc:PC)(b:Option Bool):VT:=match b with
 |some true=>x pc
 |_=> .need (red pc 16 e) (x (b89 8 e true++pc))
def cy2(l:List (AV×Heap))(f:AV×Heap→RPT)(pc:PC):VT:=match l with
 | [x]=>f x pc
 | [x,y]=> .both (f x pc) (f y pc)
 |_=> .bad
def aZ6(pc:PC):List RPT→List VT
 | []=>[]
 |k::r=>k pc::aZ6 pc r
def an6:Alg RPT:=⟨fun _=> .bad,fun l f pc=>cy2 l f pc,fun e x y pc=>cy1 e x y pc (aB1 pc 8 e),fun e x pc=>bS3 e x pc (aB1 pc 8 e),fun hd body ks pc=> .loop hd body (aZ6 pc ks),fun hd l body ks pc=> .mloop hd l body (aZ6 pc ks)⟩
def P6(all:List Oper)(a:Fr)(o:Oper):Option Bool:=
 match o.guard with
 |none=>some true
 |some (j,want)=>match(all[j]?).bind (·.dst)with
  |none=>some false
  |some d=>bif Nat.blt d a.nt then match a.slot d with
   | .bool b=>some (b==want)
   | .obool e=>match aF7 e a.pc with
     |some b=>some (b==want)
     |none=>none
   | .opq _=>none
   | .any=>none
   |_=>some false
   else some false
def b90(all:List Oper)(a:Fr)(o:Oper):Option SX:=
 match o.guard with
 |none=>none
 |some (j,_)=>match(all[j]?).bind (·.dst)with
  |none=>none
  |some d=>match a.slot d with
   | .obool e=>some e
   |_=>none
def d82(P:Program)(a:Fr)(h:Heap):ResultVar→Option AV
 | .tmp t=>some (a.slot t)
 | .cell x t=>bN7 P t (a.slot x) h
def aB2(P:Program)(a:Fr)(h:Heap):List ResultVar→Option (List AV)
 | []=>some []
 |r::l=>match d82 P a h r,aB2 P a h l with
  |some v,some vs=>some (v::vs)
  |_,_=>none
def cy3:List AV→AV
 | [v]=>v
 |vs=> .tup vs
def a68:List AV→Nat→TF→TF
 | [],_,t=>t
 |v::r,i,t=>a68 r (i+1) (t.set i v)
def dd2(nd:Option SX)(e:SX):Bool:=match nd with
 |some x=>SX.beq x e
 |none=>false
def bv5(r:Res)(nd:Option SX)(v:AV):Bool:=match r with
 | .val v' _=>AV.beq v' v
 | .need e v' _=>dd2 nd e&&AV.beq v' v
 |_=>false
def aa2(E:Env)(a:Fr)(h:Heap):List Pend→Bool
 | []=>true
 |p::r=>(R9 p.o||bv5 (S5 E a.ev p.o h) p.nd p.v)&&aa2 E a h r
def Z2:AV→Bool
 | .bool _| .int _ _| .str _| .nilp| .nils| .nilm| .nilf| .nili=>true
 |_=>false
inductive Out where
 |plain (v:AV)
 |row (elem:Nat) (len sz:Nat) (cs:List AV)
 deriving Inhabited
def bS4(wm:Nat)(h:Heap)(v:AV):Option Out:=
 match v with
 | .us b 0 len sz=>bif Nat.ble wm b then match h.get b with
   |some (.cells e 0 cs)=>bif Nat.beq cs.length (len*sz)&&cs.all Z2 then some (.row e len sz cs)else none
   |_=>none
   else none
 |v=>bif Z2 v then some (.plain v)else none
def af3(wm:Nat)(h:Heap):List AV→Option (List Out)
 | []=>some []
 |v::r=>match bS4 wm h v,af3 wm h r with
  |some o,some os=>some (o::os)
  |_,_=>none
def aG7:List Out→Nat
 | []=>0
 | .plain _::r=>aG7 r
 | .row _ _ _ _::r=>aG7 r+1
def bv6(b:Bool)(l:List Out):Option (Bool×List Out):=bif Nat.ble (aG7 l) 1 then some (b,l)else none
def bk2(wm:Nat)(h:Heap)(v:AV):Option (Bool×List Out):=
 match v with
 | .tup vs=>(af3 wm h vs).bind (bv6 true)
 |v=>(af3 wm h [v]).bind (bv6 false)
def Out.beq:Out→Out→Bool
 | .plain a,.plain b=>AV.beq a b
 | .row e l s c,.row e' l' s' c'=>Nat.beq e e'&&Nat.beq l l'&&Nat.beq s s'&&AV.beqs c c'
 |_,_=>false
def aZ7:List Out→List Out→Bool
 | [],[]=>true
 |a::x,b::y=>Out.beq a b&&aZ7 x y
 |_,_=>false
def cS7(x y:Option (Bool×List Out)):Bool:=
 match x,y with
 |some (a,l),some (b,m)=>(a==b)&&aZ7 l m
 |_,_=>false
def Y0:List Out→Heap→List AV×Heap
 | [],h=>([],h)
 | .plain v::r,h=>let (vs,h'):=Y0 r h;(v::vs,h')
 | .row e len sz cs::r,h=>let (vs,h'):=Y0 r (h.new (.cells e 0 cs));(.us h.next 0 len sz::vs,h')
def b91(b:Bool)(l:List Out)(h:Heap):AV×Heap:=
 match Y0 l h with
 |(vs,h')=>(bif b then .tup vs else vs.headD .undef,h')
def cS8(t:TH)(next _:Nat):Heap:=⟨t,next,next⟩
def Heap.raise(h:Heap):Heap:=Heap.rec cS8 h
abbrev Rec:=(R:Type)→Alg R→Task R→R
section
variable{R:Type}
def dd3(rec:Rec)(A:Alg R)(y:Code)(k:Ex→Fr→Heap→R)(e:Ex)(a:Fr)(h:Heap):R:=match e with
 | .norm=>rec R A (.code y a h k)
 |e=>k e a h
def bv7(id:Nat)(k:Ex→Fr→Heap→R)(e:Ex)(a:Fr)(h:Heap):R:=match e with
 | .exit i=>bif Nat.beq i id then k .norm a h else k (.exit i) a h
 |e=>k e a h
def d83(rec:Rec)(A:Alg R)(c:Code)(k:Ex→Fr→Heap→R)(e:Ex)(a:Fr)(h:Heap):R:=match e with
 | .norm=>rec R A (.loop c a h k)
 |e=>k e a h
def bS5(ro:Option Nat)(k:Ex→Fr→Heap→R)(a:Fr)(h:Heap):R:=k .norm (a.back ro) h
def bS6(rec:Rec)(A:Alg R)(x y:Code)(a:Fr)(h:Heap)(k:Ex→Fr→Heap→R)(e:SX)(p:Option Bool):R:=match p with
 |some b=>rec R A (.code (bif b then x else y) a h k)
 |none=>A.ite e (rec R A (.code x (a.cond (e,true)) h k)) (rec R A (.code y (a.cond (e,false)) h k))
def cy4(rec:Rec)(A:Alg R)(x y:Code)(a:Fr)(h:Heap)(k:Ex→Fr→Heap→R)(v:Option AV):R:=match v with
 |some (.bool b)=>rec R A (.code (bif b then x else y) a h k)
 |some (.obool e)=>bS6 rec A x y a h k e (aF7 e a.pc)
 |_=>A.bad
def ac6:Code→Nat
 | .region id _ _=>id
 | .seq x _=>ac6 x
 | .block _ b=>ac6 b
 | .loop b=>ac6 b
 | .scope b=>ac6 b
 |_=>0
structure LSt where
 a:Fr
 h:Heap
def a08(id:Nat)(args:List SX)(j:Nat):SX:= .op .lget [.app id args,.ci 1,.ci j]
def O4(sp:LSpec)(a:Fr)(h:Heap):LSt:=⟨(U0 (layDead a sp.dead) sp.head.slots).clear,Z1 h sp.head.blks⟩
def Q3(sp:LSpec)(a:Fr)(h:Heap):LSt:=⟨layDead (layDead a sp.dead) (sp.head.slots.map (·.1)),Z1 h (sp.head.blks.map fun p=>(p.1,none))⟩
def T3(sp:LSpec)(a:Fr)(h:Heap)(x:StP):LSt:=⟨(U0 (Q3 sp a h).a x.slots).clear,(Z1 (Q3 sp a h).h x.blks).upto x.next⟩
def ae9(sp:LSpec)(q:Nat→SX)(a:Fr)(h:Heap)(x:StP):LSt:=
 ⟨U0 (Q3 sp a h).a (x.slots.map fun p=>(p.1,aG6 sp.v0 q p.2)),(Z1 (Q3 sp a h).h (x.blks.map fun p=>(p.1,bj9 sp.v0 q p.2))).upto x.next⟩
def am2(sp:LSpec)(a:Fr)(h:Heap)(e:Ex)(a':Fr)(h':Heap):List (Ex×StP)→Nat→VT
 | [],_=> .bad
 |x::r,i=>bif bG9 x.1 e then(match a67 sp.v0 (T3 sp a h x.2).a (T3 sp a h x.2).h a' h' with
  |some es=> .ret (i+1) es
  |none=>am2 sp a h e a' h' r (i+1))else am2 sp a h e a' h' r (i+1)
def aR8(sp:LSpec)(a:Fr)(h:Heap):Fr×Heap:=match bk1 sp.owns (layDead a sp.dead) h with
 |some p=>p
 |none=>(layDead a sp.dead,h)
def cy5(p:Prim)(l:List SX):Bool:=match p,l with
 | .cmp .leq,[.ci 0,.op .llen [_]]=>true
 | .cmp .leq,[.ci 0,.op .slen [_]]=>true
 | .cmp .leq,[.ci a,.ci b]=> !(aF5 b a)
 | .cmp .lss,[.ci a,.ci b]=>aF5 a b
 |_,_=>false
def b92(e:SX):Bool:=match e with
 | .cb b=>b
 | .op p l=>cy5 p l
 |_=>false
def b93(e:SX):Bool:=match e with
 | .op .and [a,b]=>b92 a&&b92 b
 |e=>b92 e
def bH0(e:SX):Bool:=match e with
 | .op .and [a,b]=>b93 a&&b93 b
 |e=>b93 e
def d40(p:Prim)(l:List SX):Bool:=match p,l with
 | .cmp .leq,[.ci a,.ci b]=> !(aF5 b a)
 | .cmp .lss,[.ci a,.ci b]=>aF5 a b
 | .bok,[.op .row []]=>true
 |_,_=>false
def cS9(p:Prim)(l:List SX):SX:=bif d40 p l then .cb true else .op p l
def b94:Nat→SX→SX
 |0,e=>e
 |n+1,e=>match e with
  | .op .and [a,b]=>aG1 (b94 n a) (b94 n b)
  | .op p l=>cS9 p l
  |e=>e
def cT0(e:SX):Bool:=match e with
 | .op .and [.op .and [.op .and [_,_],_],_]=>true
 |_=>false
def cT1(A:Alg R)(e:SX)(x:R):R:=match e with
 | .cb true=>x
 |e=>A.need e x
def needA(A:Alg R)(e:SX)(x:R):R:=bif bH0 e then x else bif cT0 e then cT1 A (b94 30 e) x else A.need e x
def ae2(o:OwnP)(a:Fr)(h:Heap):SX×Fr:=match o.cell,a.slot o.slot with
 |none,.ous r len s=>(match h.get r with
  |some (.arr _ _ l)=>bif Nat.beq r o.blk||SX.beq len (.op .llen [l])then(.cb true,a)else(.op (.cmp .eql) [len,.op .llen [l]],a.put (some o.slot) (.ous r (.op .llen [l]) s))
  |_=>(.cb true,a))
 |_,_=>(.cb true,a)
def R6:List OwnP→Fr→Heap→SX×Fr
 | [],a,_=>(.cb true,a)
 |o::r,a,h=>match ae2 o a h with
  |(e,a')=>match R6 r a' h with
   |(e',b)=>(aG1 e e',b)
def cd7(e:SX)(x:VT):VT:=bif bH0 e then x else .need e x
def aw2(sp:LSpec)(a:Fr)(h:Heap)(p:Fr×Heap):VT:=match a67 sp.v0 (O4 sp a h).a (O4 sp a h).h p.1 p.2 with
 |some es=> .ret 0 es
 |none=> .bad
def bk3(sp:LSpec)(a:Fr)(h:Heap)(e:Ex)(p:Fr×Heap):VT:=am2 sp a h e p.1 p.2 sp.exits 0
def b95(sp:LSpec)(a:Fr)(h:Heap)(e:Ex)(a':Fr)(h':Heap):VT:=match e with
 | .norm=>cd7 (R6 sp.owns a' h').1 (aw2 sp a h (aR8 sp (R6 sp.owns a' h').2 h'))
 |e=>cd7 (R6 sp.owns a' h').1 (bk3 sp a h e (aR8 sp (R6 sp.owns a' h').2 h'))
def af4(sp:LSpec)(a:Fr)(h:Heap)(e:Ex)(a':Fr)(h':Heap)(_:PC):VT:=b95 sp a h e a' h'
def bS7(sp:LSpec)(a:Fr)(h:Heap)(n0:Nat):Bool:=sp.owns.all (fun o=>Nat.ble n0 o.blk)&&bv4 a h n0 h.next sp.head.blks&&sp.exits.all (fun x=>Nat.ble h.next x.2.next&&bv4 a h n0 x.2.next x.2.blks)&&a65 sp.v0 sp.fv&&aa1 a&&cx4 sp.v0 h.next (Q3 sp a h).a a.nt&&d38 sp.v0 h.next (Q3 sp a h).h h.next
def aZ8(rec:Rec)(A:Alg R)(c:Code)(n0:Nat)(k:Ex→Fr→Heap→R)(sp:LSpec)(a:Fr)(h:Heap):R:=
 bif bS7 sp a h n0 then
  (match a67 sp.v0 (O4 sp a h).a (O4 sp a h).h a h with
  |some s0=>A.loop ⟨sp.id,s0,sp.v0,sp.fv⟩ (rec RPT an6 (.code c (O4 sp a h).a (O4 sp a h).h (af4 sp a h)) [])
   (sp.exits.map fun x=>k x.1 (ae9 sp (a08 sp.id (s0++sp.fv)) a h x.2).a (ae9 sp (a08 sp.id (s0++sp.fv)) a h x.2).h)
  |none=>A.bad)
 else A.bad
structure MC where
 ops1:Array Oper
 o1:Oper
 o2:Oper
 tok:Operand
 xid:Nat
 bid:Nat
 ops2:Array Oper
 o3:Oper
 r3:List Oper
 rest:Code
def bH1(c:Code):Option MC:=match c with
 | .seq (.region _ ops1 false) (.seq (.cond tok .skip (.exit x)) (.block b (.seq (.region _ ops2 false) rest)))=>(match ops1.toList,ops2.toList with
   | [o1,o2],o3::r3=>some ⟨ops1,o1,o2,tok,x,b,ops2,o3,r3,rest⟩
   |_,_=>none)
 |_=>none
structure MO where
 it:Nat
 d1:Nat
 d2:Nat
 d3:Nat
def az1(o:Oper):Bool:=match o.guard with
 |none=>true
 |some _=>false
def cT2(it d1 d2 d3:Nat)(nt:Nat)(o1 o2 o3:Oper):Option MO:=bif az1 o1&&az1 o2&&az1 o3&&Nat.blt d1 nt&&Nat.blt d2 nt&& !(Nat.beq d1 d2)then some ⟨it,d1,d2,d3⟩else none
def d41(m:MC)(a:Fr):Option MO:=match m.o1.op,m.o1.dst,m.o2.op,m.o2.dst,m.tok,m.o3.op,m.o3.dst with
 | .next (.tmp t) false,some d1,.extract (.tmp d1') 0,some d2,.tmp d2',.entry (.tmp t'),some d3=>bif Nat.beq d1 d1'&&Nat.beq d2 d2'&&Nat.beq t t'&& !(Nat.beq t d1)&& !(Nat.beq t d2)then(match a.slot t with
   | .ptr it 0=>cT2 it d1 d2 d3 a.nt m.o1 m.o2 m.o3
   |_=>none)else none
 |_,_,_,_,_,_,_=>none
def di4(b:Nat)(p:Nat×Option Blk):Nat×Option Blk:=bif Nat.beq p.1 b then(match p.2 with
 |some (.arr e sig l)=>(p.1,some (.bag e sig l))
 |_=>p)else p
def bS8(sp:LSpec)(it m ob:Nat)(lm:SX):LSpec:=⟨sp.id,sp.owns,sp.v0,sp.fv++[lm],sp.dead,⟨sp.head.slots,(it,none)::(m,none)::sp.head.blks,sp.head.next⟩,sp.exits.map fun x=>(x.1,⟨x.2.slots,x.2.blks.map (di4 ob),x.2.next⟩),true⟩
def bS9(ks vs:List CT)(l idx:SX):AV:= .tup [aZ3 (bG7 (ks++vs) l idx 0 ks.length),aZ3 (bG7 (ks++vs) l idx ks.length vs.length)]
def cT3(rec:Rec)(sp:LSpec)(mc:MC)(a:Fr)(h:Heap)(a3:Fr):VT:=rec RPT an6 (.ops mc.ops2.toList mc.r3 a3 (O4 sp a h).h (bS5 none (dd3 rec an6 mc.rest (bv7 mc.bid (af4 sp a h))))) []
def swB(v0 nb ob b:Nat)(x:Option Blk):Bool:=bif Nat.beq b ob then(match x with
 |some (.arr _ _ (.va n))=>Nat.beq n (v0+1)
 |_=>false)else okB (v0+1) nb x
def cO1(v0 nb ob:Nat)(h:Heap):Nat→Bool
 |0=>true
 |t+1=>swB v0 nb ob t (h.get t)&&cO1 v0 nb ob h t
def cT4(x:Option Blk):Option Blk:=match x with
 |some (.arr e sig l)=>some (.bag e sig l)
 |x=>x
def cT5(x:Option Blk):Bool:=match x with
 |none=>true
 |some _=>false
def cy6(v0:Nat)(es:List SX):Bool:=match es with
 | [.va n,.va m]=>Nat.beq n v0&&Nat.beq m (v0+1)
 |_=>false
def bT0(h1 h2:Heap):Nat→Bool
 |0=>true
 |t+1=>(cT5 (h1.get t)|| !(cT5 (h2.get t)))&&bT0 h1 h2 t
def aZ9(sp:LSpec)(mo:MO)(a:Fr)(h:Heap):Fr:=((O4 sp a h).a.put (some mo.d1) (.tup [.bool false])).put (some mo.d2) (.bool false)
def d42(sp:LSpec)(mo:MO)(ob:Nat)(a:Fr)(h:Heap)(x:StP):Bool:=match a67 sp.v0 (T3 sp a h x).a (T3 sp a h x).h (aZ9 sp mo a h) ((O4 sp a h).h.put ob (cT4 ((O4 sp a h).h.get ob)))with
 |some es=>cy6 sp.v0 es
 |none=>false
def bT1(sp:LSpec)(a:Fr)(h:Heap)(n0:Nat)(mo:MO)(m ob:Nat)(lm:SX):Bool:=
 bS7 sp a h n0&&Nat.ble h.wm n0&&Nat.ble h.wm mo.it&&Nat.blt m n0&&Nat.ble n0 ob&&Nat.blt mo.it n0&&cT5 ((O4 sp a h).h.get mo.it)&&cT5 ((O4 sp a h).h.get m)&&R5 sp.v0 lm&&
 cx4 (sp.v0+1) h.next (O4 sp a h).a a.nt&&cx4 (sp.v0+1) h.next (aZ9 sp mo a h) a.nt&&cO1 sp.v0 h.next ob (O4 sp a h).h h.next
def aC5(rec:Rec)(A:Alg R)(n0:Nat)(k:Ex→Fr→Heap→R)(sp:LSpec)(a:Fr)(h:Heap)(mc:MC)(mo:MO)(m ob:Nat)(d:Bool)(ks vs:List CT)(lm:SX)(x:Ex×StP):R:=match x.1 with
 | .exit xid=>bif Nat.beq xid mc.xid&&bT1 sp a h n0 mo m ob lm&&Nat.blt m x.2.next&&d42 sp mo ob a h x.2 then(match a67 sp.v0 (O4 sp a h).a (O4 sp a h).h a h with
     |some [s0,s1]=>bif bT0 (ae9 sp (a08 sp.id (s0::s1::sp.fv)) a h x.2).h (O4 sp a h).h x.2.next then A.mloop ⟨sp.id,[s0,s1],sp.v0,sp.fv⟩ lm
      (cT3 rec sp mc a h ((((O4 sp a h).a.put (some mo.d1) .any).put (some mo.d2) (.bool true)).put (some mo.d3) (bS9 ks vs lm (.va (sp.v0+2)))))
      [k x.1 (ae9 sp (a08 sp.id (s0::s1::sp.fv)) a h x.2).a ((ae9 sp (a08 sp.id (s0::s1::sp.fv)) a h x.2).h.put m (some (.marr d ks vs lm)))]else A.bad
     |_=>A.bad)else A.bad
 |_=>A.bad
def b00(rec:Rec)(A:Alg R)(n0:Nat)(k:Ex→Fr→Heap→R)(sp:LSpec)(a:Fr)(h:Heap)(mc:MC)(mo:MO)(m:Nat)(b:Option Blk)(o:List OwnP):R:=match b,o with
 |some (.mrg it' d ks vs lm),[o]=>bif Nat.beq it' mo.it then(match(bS8 sp mo.it m o.blk lm).exits with
  | [x]=>aC5 rec A n0 k (bS8 sp mo.it m o.blk lm) a h mc mo m o.blk d ks vs lm x
  |_=>A.bad)else A.bad
 |_,_=>A.bad
def b01(rec:Rec)(A:Alg R)(n0:Nat)(k:Ex→Fr→Heap→R)(sp:LSpec)(a:Fr)(h:Heap)(mc:MC)(mo:Option MO):R:=match mo with
 |some mo=>(match h.get mo.it with
  |some (.mit m)=>b00 rec A n0 k sp a h mc mo m (h.get m) sp.owns
  |_=>A.bad)
 |none=>A.bad
def aG8(rec:Rec)(A:Alg R)(n0:Nat)(k:Ex→Fr→Heap→R)(sp:LSpec)(a:Fr)(h:Heap)(mc:Option MC):R:=match mc with
 |some mc=>b01 rec A n0 k sp a h mc (d41 mc (O4 sp a h).a)
 |none=>A.bad
def bk4(rec:Rec)(A:Alg R)(c:Code)(n0:Nat)(k:Ex→Fr→Heap→R)(sp:LSpec)(p:Fr×Heap):R:=bif sp.mapr then aG8 rec A n0 k sp p.1 p.2 (bH1 c)else aZ8 rec A c n0 k sp p.1 p.2
def bk5(rec:Rec)(A:Alg R)(c:Code)(a:Fr)(h:Heap)(k:Ex→Fr→Heap→R)(sp:LSpec):R:=
 bif aa1 a then needA A (R6 sp.owns a h).1 (bk4 rec A c h.next k sp (aR8 sp (R6 sp.owns a h).2 (h.upto (Nat.add h.next sp.owns.length))))else A.bad
def cT6(rec:Rec)(A:Alg R)(c:Code)(a:Fr)(h:Heap)(k:Ex→Fr→Heap→R)(sp:Option LSpec):R:=match sp with
 |some sp=>bk5 rec A c a h k sp
 |none=>rec R A (.code c a h (d83 rec A c k))
def cT7(rec:Rec)(A:Alg R)(ops:List Oper)(a:Fr)(h:Heap)(k:Ex→Fr→Heap→R)(p:Option (List PO)):R:=match p with
 |some l=>rec R A (.dops ops l [] a h (bS5 a.ro k))
 |none=>A.bad
def bT2(rec:Rec)(A:Alg R)(ops:List Oper)(draw:Bool)(a:Fr)(h:Heap)(k:Ex→Fr→Heap→R):R:=
 bif draw then cT7 rec A ops a h k (cS0 ops)else rec R A (.ops ops ops a h (bS5 a.ro k))
def cd8(rec:Rec)(A:Alg R)(a:Fr)(k:Ex→Fr→Heap→R)(h:Heap)(pend:Option Code):R:=match pend with
 |none=>k .norm a h
 |some c=>rec R A (.code c a h k)
def cT8(rec:Rec)(A:Alg R)(a:Fr)(k:Ex→Fr→Heap→R)(h:Heap)(pend:Option Code)(st:LoopState):R:=match st with
 | .busy=>A.bad
 | .ready=>cd8 rec A a k h pend
 | .done=>cd8 rec A a k h pend
 | .exhausted=>cd8 rec A a k h pend
def cq7(rec:Rec)(A:Alg R)(l:Nat)(a:Fr)(k:Ex→Fr→Heap→R)(_:AV)(h:Heap):R:=match h.get l with
 |some (.loop st pend fn tm nt ps assign body d)=>bif Nat.ble h.wm l then cT8 rec A a k (h.put l (some (.loop .exhausted pend fn tm nt ps assign body d))) pend st else A.bad
 |_=>A.bad
def bT3(rec:Rec)(A:Alg R)(l:Nat)(a:Fr)(h:Heap)(k:Ex→Fr→Heap→R)(r:Res):R:=match r with
 | .enter g args=>rec R A (.call g args h (cq7 rec A l a k))
 |_=>A.bad
def b96(h:Heap)(ro:Option Nat):Option (Nat×Heap×List ADef):=match ro with
 |none=>some (h.next,h.new (.defd false),[ADef.coll h.next])
 |some l=>match h.get l with
  |some (.loop _ _ _ _ _ _ _ _ d)=>some (d,h,[])
  |_=>none
def bT4(E:Env)(rec:Rec)(A:Alg R)(ps:Array Tmp)(assign body:Code)(a:Fr)(k:Ex→Fr→Heap→R)(x:Option (Nat×Heap×List ADef))(f:Option AV):R:=match x with
 |some (d,h,mark)=>match f with
  |some fv=>bT3 rec A h.next (a.mark mark) (h.new (.loop .ready none a.fn a.tm a.nt ps assign body d)) k
   (aY6 E fv [.yield h.next] (h.new (.loop .ready none a.fn a.tm a.nt ps assign body d)))
  |none=>A.bad
 |none=>A.bad
def cq8(E:Env)(rec:Rec)(A:Alg R)(c:Code)(a:Fr)(h:Heap)(k:Ex→Fr→Heap→R):R:=match c with
 | .skip=>k .norm a h
 | .label _=>k .norm a h
 | .ret=>k .ret a h
 | .exit id=>k (.exit id) a h
 | .seq x y=>rec R A (.code x a h (dd3 rec A y k))
 | .cond c x y=>cy4 rec A x y a h k (a.ev c)
 | .block id b=>rec R A (.code b a h (bv7 id k))
 | .loop b=>rec R A (.loop b a h k)
 | .scope b=>rec R A (.code b a h k)
 | .region _ ops draw=>bT2 rec A ops.toList draw a h k
 | .rangeFunc f ps assign body=>bT4 E rec A ps assign body a k (b96 h a.ro) (a.ev f)
 |_=>A.bad
def aq7:Ex→Option Code
 | .norm=>none
 | .ret=>some .ret
 | .exit id=>some (.exit id)
def bk6:Option Code→LoopState
 |none=> .ready
 |some _=> .done
def bT5(A:Alg R)(l:Nat)(k:AV→Heap→R)(e:Ex)(a:Fr)(h:Heap):R:=match a.ds with
 | []=>match h.get l with
   |some (.loop _ _ fn tm nt ps as body d)=>k (.bool (aq7 e).isNone) (h.put l (some (.loop (bk6 (aq7 e)) (aq7 e) fn tm nt ps as body d)))
   |_=>A.bad
 |_=>A.bad
def bk7(rec:Rec)(A:Alg R)(l:Nat)(body:Code)(k:AV→Heap→R)(e:Ex)(a:Fr)(h:Heap):R:=match e with
 | .norm=>match h.get l with
   |some (.loop .ready pend fn tm nt ps as b d)=>rec R A (.code body a (h.put l (some (.loop .busy pend fn tm nt ps as b d))) (bT5 A l k))
   |_=>A.bad
 |_=>A.bad
def b97:List Tmp→List AV→Nat→TF→TF
 |p::ps,v::vs,nt,t=>b97 ps vs nt (bif Nat.blt p nt then t.set p v else t)
 |_,_,_,t=>t
def bT6(rec:Rec)(A:Alg R)(l:Nat)(args:List AV)(h:Heap)(k:AV→Heap→R)(b:Option Blk):R:=match b with
 |some (.loop _ _ fn tm nt ps assign body _)=>bif Nat.beq args.length ps.size&&Nat.ble h.wm l then
  rec R A (.code assign ⟨b97 ps.toList args nt tm,nt,[],fn,[],some l⟩ h (bk7 rec A l body k))else A.bad
 |_=>A.bad
def d43(rec:Rec)(A:Alg R)(h:Heap)(k:AV→Heap→R)(r:Res):R:=match r with
 | .val v h=>k v h
 | .need e v h=>needA A e (k v h)
 | .cho e v l h=>A.ite e (k v h) (A.amb (l.map fun v=>(v,h)) fun x=>k x.1 x.2)
 | .enter f args=>rec R A (.call f args h k)
 | .choice l=>A.amb l fun x=>k x.1 x.2
 | .yield l args=>bT6 rec A l args h k (h.get l)
 | .defer _=>A.bad
 | .bad=>A.bad
def kOp(rec:Rec)(A:Alg R)(all rest:List Oper)(dst:Option Tmp)(a:Fr)(k:Fr→Heap→R)(v:AV)(h:Heap):R:=rec R A (.ops all rest (a.put dst v) h k)
def bT7(rec:Rec)(A:Alg R)(all rest:List Oper)(a:Fr)(h:Heap)(k:Fr→Heap→R)(e:Option SX):R:=match e with
 |some e=>A.ite e (rec R A (.ops all rest (a.cond (e,true)) h k)) (rec R A (.ops all rest (a.cond (e,false)) h k))
 |none=>A.bad
def oGo(rec:Rec)(A:Alg R)(all rest:List Oper)(dst:Option Tmp)(a:Fr)(h:Heap)(k:Fr→Heap→R)(r:Res):R:=match r with
 | .defer d=>match a.ro with
   |none=>rec R A (.ops all rest ((a.mark [d]).put dst .undef) h k)
   |some _=>A.bad
 |r=>d43 rec A h (kOp rec A all rest dst a k) r
def cT9(E:Env)(rec:Rec)(A:Alg R)(all rest:List Oper)(o:Oper)(a:Fr)(h:Heap)(k:Fr→Heap→R)(w:Option Bool):R:=match w with
 |some true=>oGo rec A all rest o.dst a h k (S5 E a.ev o h)
 |some false=>rec R A (.ops all rest (a.put o.dst .undef) h k)
 |none=>bT7 rec A all (o::rest) a h k (b90 all a o)
def d84(E:Env)(rec:Rec)(A:Alg R)(all rest:List Oper)(a:Fr)(h:Heap)(k:Fr→Heap→R):R:=match rest with
 | []=>k a h
 |o::rest=>cT9 E rec A all rest o a h k (P6 all a o)
def dd4(E:Env)(rec:Rec)(A:Alg R)(all:List Oper)(rest:List PO)(pend:List Pend)(dst:Option Tmp)(a:Fr)(k:Fr→Heap→R)(v:AV)(h:Heap):R:=
 bif aa2 E (a.put dst v) h pend then rec R A (.dops all rest pend (a.put dst v) h k)else A.bad
def bT8(E:Env)(rec:Rec)(A:Alg R)(all:List Oper)(x:PO)(rest:List PO)(pend:List Pend)(a:Fr)(k:Fr→Heap→R)(r:Res):R:=match r with
 | .val v h=>bif !(R9 x.o)||aa2 E (a.put x.o.dst v) h pend then rec R A (.dops all rest (⟨x.i,x.o,v,none⟩::pend) (a.put x.o.dst v) h k)else A.bad
 | .need e v h=>bif !(R9 x.o)then needA A e (rec R A (.dops all rest (⟨x.i,x.o,v,some e⟩::pend) (a.put x.o.dst v) h k))else A.bad
 |_=>A.bad
def bk8(rec:Rec)(A:Alg R)(all:List Oper)(rest:List PO)(pend:List Pend)(a:Fr)(h:Heap)(k:Fr→Heap→R)(e:Option SX):R:=match e with
 |some e=>A.ite e (rec R A (.dops all rest pend (a.cond (e,true)) h k)) (rec R A (.dops all rest pend (a.cond (e,false)) h k))
 |none=>A.bad
def bH2(E:Env)(rec:Rec)(A:Alg R)(all:List Oper)(x:PO)(rest:List PO)(pend:List Pend)(a:Fr)(h:Heap)(k:Fr→Heap→R)(w:Option Bool):R:=match w with
 |some true=>bif x.fl then bT8 E rec A all x rest pend a k (S5 E a.ev x.o h)
  else d43 rec A h (dd4 E rec A all rest (pend.filter fun p=> !(x.m.testBit p.i)) x.o.dst a k) (S5 E a.ev x.o h)
 |some false=>rec R A (.dops all rest pend (a.put x.o.dst .undef) h k)
 |none=>bk8 rec A all (x::rest) pend a h k (b90 all a x.o)
def cU0(E:Env)(rec:Rec)(A:Alg R)(all:List Oper)(rest:List PO)(pend:List Pend)(a:Fr)(h:Heap)(k:Fr→Heap→R):R:=match rest with
 | []=>k a h
 |x::rest=>bH2 E rec A all x rest pend a h k (P6 all a x.o)
def cy7(v:AV)(h:Heap):Option (AV×Heap):=some (v,h)
def cq9(wm:Nat)(o:Option (Bool×List Out))(v:AV)(h:Heap):Bool:=cS7 (bk2 wm h v) o
def d44(k:AV→Heap→R)(x:AV×Heap):R:=k x.1 x.2
def cr0(rec:Rec)(A:Alg R)(f:FuncId)(args:List AV)(h:Heap)(k:AV→Heap→R)(x:Option (Bool×List Out)):R:=match x with
 |none=>A.bad
 |some (b,l)=>bif rec Bool a38 (.body f args h.raise (cq9 h.next (some (b,l))))then d44 k (b91 b l h)else A.bad
def bT9(rec:Rec)(A:Alg R)(f:FuncId)(args:List AV)(h:Heap)(k:AV→Heap→R)(x:Option (AV×Heap)):R:=match x with
 |none=>A.bad
 |some (v0,h0)=>cr0 rec A f args h k (bk2 h.next h0 v0)
structure Cap2 where
 b:Nat
 full:List AV
 wide:List AV
 h:Heap
def capH(h:Heap)(b e:Nat)(cs:List AV):Heap:=((h.put b none).raise).new (.cells e 0 cs)
def d45(args:List AV)(h:Heap):Option Cap2:=match args with
 | .us b 0 len sz:: .int k (.ofNat i)::rest=>match h.get b with
   |some (.cells e 0 cs)=>bif Nat.ble h.wm b&&Nat.beq cs.length (len*sz)&&Nat.blt i len&&Nat.blt 0 sz then
    some ⟨b,.sl b 0 len len:: .int k (.ofNat i)::rest,.us h.next 0 len sz:: .int k (.ofNat i)::rest,capH h b e (cs++rep sz [.any])⟩
    else none
   |_=>none
 |_=>none
def cr1(rec:Rec)(A:Alg R)(f:FuncId)(h:Heap)(k:AV→Heap→R)(c:Cap2)(x:Option (Bool×List Out)):R:=match x with
 |none=>A.bad
 |some (b,l)=>bif rec Bool a38 (.body f c.full h.raise (cq9 h.next (some (b,l))))&&rec Bool a38 (.body f c.wide c.h (cq9 h.next (some (b,l))))then
  d44 k (b91 b l (h.put c.b none))else A.bad
def cr2(rec:Rec)(A:Alg R)(f:FuncId)(h:Heap)(k:AV→Heap→R)(c:Cap2)(x:Option (AV×Heap)):R:=match x with
 |none=>A.bad
 |some (v0,h0)=>cr1 rec A f h k c (bk2 h.next h0 v0)
def cy8(rec:Rec)(A:Alg R)(f:FuncId)(args:List AV)(h:Heap)(k:AV→Heap→R)(c:Option Cap2):R:=match c with
 |none=>rec R A (.body f args h k)
 |some c=>cr2 rec A f h k c (rec (Option (AV×Heap)) bR8 (.body f c.full h.raise cy7))
def cU1(E:Env)(rec:Rec)(A:Alg R)(f:FuncId)(args:List AV)(h:Heap)(k:AV→Heap→R)(x:Res):R:=match x with
 | .val v h=>k v h
 | .need e v h=>needA A e (k v h)
 |_=>bif E.amb f then bT9 rec A f args h k (rec (Option (AV×Heap)) bR8 (.body f args h.raise cy7))else
  bif E.caps f then cy8 rec A f args h k (d45 args h)else rec R A (.body f args h k)
def cU2(E:Env)(rec:Rec)(A:Alg R)(f:FuncId)(args:List AV)(h:Heap)(k:AV→Heap→R):R:=cU1 E rec A f args h k (E.hook f args h)
def cO2(A:Alg R)(h:Heap)(k:AV→Heap→R)(vs:Option (List AV)):R:=match vs with
 |some vs=>k (cy3 vs) h
 |none=>A.bad
def cr3(P:Program)(rec:Rec)(A:Alg R)(rs:List ResultVar)(k:AV→Heap→R)(e:Ex)(a:Fr)(h:Heap):R:=match e with
 | .exit _=>A.bad
 |_=>match a.ds with
  | []=>cO2 A h k (aB2 P a h rs)
  |ds=>rec R A (.leave rs a ds h k)
def bU0(P:Program)(A:Alg R)(rs:List ResultVar)(k:AV→Heap→R)(e:Ex)(a:Fr)(h:Heap):R:=match e with
 | .exit _=>A.bad
 |_=>match a.ds with
  | []=>cO2 A h k (aB2 P a h rs)
  |_=>A.bad
def cy9(P:Program)(rec:Rec)(A:Alg R)(f:FuncId)(args:List AV)(h:Heap)(k:AV→Heap→R)(fn:Option Func):R:=match fn with
 |none=>A.bad
 |some fn=>match fn.body with
  |none=>A.bad
  |some c=>bif Nat.ble (Nat.max fn.ntmps args.length) 256 then rec R A (.code c ⟨a68 args 0 TF.empty,Nat.max fn.ntmps args.length,[],f,[],none⟩ h (cr3 P rec A fn.results.toList k))else A.bad
def cz0(P:Program)(rec:Rec)(A:Alg R)(f:FuncId)(args:List AV)(h:Heap)(k:AV→Heap→R)(fn:Option Func):R:=match fn with
 |none=>A.bad
 |some fn=>match fn.body with
  |none=>A.bad
  |some c=>bif Nat.ble (Nat.max fn.ntmps args.length) 256 then rec R A (.code c ⟨a68 args 0 TF.empty,Nat.max fn.ntmps args.length,[],f,[],none⟩ h (bU0 P A fn.results.toList k))else A.bad
def d85(rec:Rec)(A:Alg R)(rs:List ResultVar)(a:Fr)(ds:List ADef)(k:AV→Heap→R)(_:AV)(h:Heap):R:=rec R A (.leave rs a ds h k)
def lFn(rec:Rec)(A:Alg R)(rs:List ResultVar)(a:Fr)(ds:List ADef)(h:Heap)(k:AV→Heap→R)(r:Res):R:=match r with
 | .enter f args=>rec R A (.dbody f args h (d85 rec A rs a ds k))
 |_=>A.bad
def cz1(rec:Rec)(A:Alg R)(rs:List ResultVar)(a:Fr)(ds:List ADef)(b:Nat)(h:Heap)(k:AV→Heap→R)(x:Option Blk):R:=match x with
 |some (.defd false)=>bif Nat.ble h.wm b then rec R A (.leave rs a ds (h.put b (some (.defd true))) k)else A.bad
 |_=>A.bad
def bU1(E:Env)(rec:Rec)(A:Alg R)(rs:List ResultVar)(a:Fr)(ds:List ADef)(h:Heap)(k:AV→Heap→R):R:=match ds with
 | []=>cO2 A h k (aB2 E.P a h rs)
 | .coll b::ds=>cz1 rec A rs a ds b h k (h.get b)
 | .fn f cap args::ds=>lFn rec A rs a ds h k (b81 E f (args++cap) h)
def cU3(E:Env)(rec:Rec)(A:Alg R)(f:FuncId)(args:List AV)(h:Heap)(k:AV→Heap→R):R:=cy9 E.P rec A f args h k (E.P.funcs[f]?)
def cU4(E:Env)(rec:Rec)(A:Alg R)(t:Task R):R:=match t with
 | .code c a h k=>cq8 E rec A c a h k
 | .loop c a h k=>cT6 rec A c a h k (E.lspec a.fn (ac6 c) a h)
 | .ops all rest a h k=>d84 E rec A all rest a h k
 | .dops all rest pend a h k=>cU0 E rec A all rest pend a h k
 | .call f args h k=>cU2 E rec A f args h k
 | .body f args h k=>cU3 E rec A f args h k
 | .dbody f args h k=>cz0 E.P rec A f args h k (E.P.funcs[f]?)
 | .leave rs a ds h k=>bU1 E rec A rs a ds h k
end
def di5(R:Type)(A:Alg R)(_:Task R):R:=A.bad
def evS(E:Env)(_:Nat)(rec:Rec)(R:Type)(A:Alg R)(t:Task R):R:=cU4 E rec A t
def ev(E:Env)(n:Nat):Rec:=Nat.rec (motive:=fun _=>Rec) di5 (evS E) n
end
end Go.Ev
