import Derived.Test.YtdbiooidpgafaaaGreatE1
set_option linter.unusedVariables false
namespace Go.Ev
open Go
noncomputable section
inductive Ext where
 |ident|count|indexByte|makeNoZero (t:TypeId)|overlaps (t r:TypeId)
inductive FK where
 |bin (op:BinOp)|un (op:UnOp)|conv (d:TypeId)|len|max|min|slc
 deriving DecidableEq
structure LHd where
 id:Nat
 s0:List SX
 v0:Nat
 fv:List SX
inductive VT where
 |bad
 |ite (e:SX) (a b:VT)
 |need (e:SX) (x:VT)
 |ret (i:Nat) (out:List SX)
 |loop (hd:LHd) (body:VT) (ks:List VT)
 |both (a b:VT)
 |mloop (hd:LHd) (l:SX) (body:VT) (ks:List VT)
 deriving Inhabited
inductive Ex where
 |norm|exit (id:Nat)|ret
structure StP where
 slots:List (Nat×AV)
 blks:List (Nat×Option Blk)
 next:Nat
structure OwnP where
 slot:Nat
 blk:Nat
 elem:Nat
 sig:List CT
 cell:Option (Nat×Nat)
structure LSpec where
 id:Nat
 owns:List OwnP
 v0:Nat
 fv:List SX
 dead:List Nat
 head:StP
 exits:List (Ex×StP)
 mapr:Bool:=false
structure Fr where
 tm:TF
 nt:Nat
 pc:List (SX×Bool)
 fn:FuncId
 ds:List ADef
 ro:Option Nat
def Fr.slot(a:Fr)(t:Nat):AV:=(cW5 t).g a.tm
def bT6(d:Nat)(v:AV)(tm:TF)(nt:Nat)(pc:List (SX×Bool))(fn:FuncId)(ds:List ADef)(ro:Option Nat):Fr:=bif Nat.blt d nt then⟨tm.set d v,nt,pc,fn,ds,ro⟩else⟨tm,nt,pc,fn,ds,ro⟩
def de5(p:SX×Bool)(tm:TF)(nt:Nat)(pc:List (SX×Bool))(fn:FuncId)(ds:List ADef)(ro:Option Nat):Fr:=⟨tm,nt,p::pc,fn,ds,ro⟩
def cW9(tm:TF)(nt:Nat)(pc:List (SX×Bool))(fn:FuncId)(ds:List ADef)(ro:Option Nat):Fr:=⟨tm,nt,[],fn,ds,ro⟩
def de6(x:Option Nat)(tm:TF)(nt:Nat)(pc:List (SX×Bool))(fn:FuncId)(ds:List ADef)(ro:Option Nat):Fr:=⟨tm,nt,pc,fn,ds,x⟩
def Fr.back(a:Fr)(x:Option Nat):Fr:=Fr.rec (de6 x) a
def de7(m:List ADef)(tm:TF)(nt:Nat)(pc:List (SX×Bool))(fn:FuncId)(ds:List ADef)(ro:Option Nat):Fr:=⟨tm,nt,pc,fn,m++ds,ro⟩
def Fr.mark(a:Fr)(m:List ADef):Fr:=Fr.rec (de7 m) a
def Fr.clear(a:Fr):Fr:=Fr.rec cW9 a
def Fr.cond(a:Fr)(p:SX×Bool):Fr:=Fr.rec (de5 p) a
def bT7(p:Prim)(l:List SX)(d:Int):Option Bool:=match p,l with
 | .imin,[_,.ci c]=>bif aJ1 c d then some true else none
 |_,_=>none
def bT8(p:Prim)(l:List SX):Option Bool:=match p,l with
 | .cmp .lss,[.op q x,.ci d]=>bT7 q x d
 |_,_=>none
def db1(e:SX):Option Bool:=match e with
 | .op p l=>bT8 p l
 |_=>none
def aJ3(e:SX):List (SX×Bool)→Option Bool
 | []=>db1 e
 |p::r=>bif SX.beq e p.1 then some p.2 else aJ3 e r
def Fr.put(a:Fr)(dst:Option Tmp)(v:AV):Fr:=
 match dst with
 |none=>a
 |some d=>Fr.rec (bT6 d v) a
def Fr.ev(a:Fr):Operand→Option AV
 | .tmp t=>some (a.slot t)
 | .const v=>bn8 v
 | .global g=>some (.glob g)
 | .func f=>some (.func (.func f) [] [])
inductive Res where
 |val (v:AV) (h:Heap)
 |need (e:SX) (v:AV) (h:Heap)
 |cho (e:SX) (v:AV) (l:List AV) (h:Heap)
 |enter (f:FuncId) (args:List AV)
 |choice (l:List (AV×Heap))
 |yield (l:Nat) (args:List AV)
 |defer (d:ADef)
 |bad
structure Env where
 P:Program
 ext:FuncId→Option Ext
 amb:FuncId→Bool
 caps:FuncId→Bool
 hook:FuncId→List AV→Heap→Res
 fact:FK→List AV→Option AV
 lspec:FuncId→Nat→Fr→Heap→Option LSpec
def evs(ρ:Operand→Option AV):List Operand→Option (List AV)
 | []=>some []
 |x::r=>match ρ x,evs ρ r with
  |some v,some vs=>some (v::vs)
  |_,_=>none
def aU3(ρ:Operand→Option AV):List (Nat×Operand)→Option (List (Nat×AV))
 | []=>some []
 |(i,x)::r=>match ρ x,aU3 ρ r with
  |some v,some vs=>some ((i,v)::vs)
  |_,_=>none
def evo(ρ:Operand→Option AV):Option Operand→Option (Option AV)
 |none=>some none
 |some x=>(ρ x).map some
def ov(x:Option AV)(h:Heap):Res:=match x with
 |some v=> .val v h
 |none=> .bad
def oh(x:Option (AV×Heap)):Res:=match x with
 |some (v,h)=> .val v h
 |none=> .bad
def os(x:Option Heap):Res:=match x with
 |some h=> .val .undef h
 |none=> .bad
def aJ4(P:Program)(t:TypeId):Bool:=match P.underlying t with
 |some .bool=>true
 |some (.int _)=>true
 |some .string=>true
 |_=>false
def aJ5(P:Program)(t:TypeId)(k:AV):Bool:=
 match P.underlying t,k with
 |some .bool,.bool _=>true
 |some (.int _),.int _ _=>true
 |some .string,.str _=>true
 |some (.struct fields),.agg cs=>fields.all fun f=>(ah7 P f.type cs f.offset).isSome&&aJ4 P f.type
 |_,_=>false
def aq6(P:Program)(kt:TypeId)(k:AV):List Ent→Nat→Option (Option (Nat×Ent))
 | [],_=>some none
 |e::r,i=>match eqE P 10000 kt k e.key with
  |some true=>some (some (i,e))
  |some false=>aq6 P kt k r (i+1)
  |none=>none
def ao8:List Ent→Nat→Ent→List Ent
 | [],_,_=>[]
 |_::r,0,x=>x::r
 |e::r,i+1,x=>e::ao8 r i x
def bz6:List Ent→Nat→List Ent
 | [],_=>[]
 |_::r,0=>r
 |e::r,i+1=>e::bz6 r i
def bT9(m:AV)(h:Heap):Option (List Ent):=
 match m with
 | .nilm=>some []
 | .map r=>match h.get r with
   |some (.map es _)=>some es
   |_=>none
 |_=>none
def b05(P:Program)(t:TypeId)(m k:AV)(ok:Bool)(h:Heap):Option AV:=
 match P.underlying t with
 |some (.map kt et)=>bif aJ5 P kt k then
  match bT9 m h with
  |none=>none
  |some es=>match aq6 P kt k es 0 with
   |none=>none
   |some (some (_,e))=>some (bif ok then .tup [e.val,.bool true]else e.val)
   |some none=>(a10 P et).map fun z=>bif ok then .tup [z,.bool false]else z
  else none
 |_=>none
def a93(P:Program)(t:TypeId)(m k v:AV)(h:Heap):Option Heap:=
 match P.underlying t,m with
 |some (.map kt _),.map r=>bif aJ5 P kt k&&Nat.ble h.wm r then
  match h.get r with
  |some (.map es c)=>match aq6 P kt k es 0 with
   |none=>none
   |some (some (i,e))=>bif bT5 e.key k then some (h.put r (some (.map (ao8 es i ⟨k,v,e.born⟩) c)))else none
   |some none=>some (h.put r (some (.map (es++[⟨k,v,c⟩]) (c+1))))
  |_=>none
  else none
 |_,_=>none
def at4(P:Program)(t:TypeId)(m k:AV)(h:Heap):Option (AV×Heap):=
 match P.underlying t,m with
 |some (.map kt et),.map r=>bif aJ5 P kt k&&Nat.ble h.wm r then
  match h.get r with
  |some (.map es c)=>match aq6 P kt k es 0 with
   |none=>none
   |some (some (i,e))=>bif bT5 e.key k then some (.tup [e.val,.int .i64 e.born],h.put r (some (.map (ao8 es i ⟨k,e.val,e.born⟩) c)))else none
   |some none=>(a10 P et).map fun z=>(.tup [z,.int .i64 c],h.put r (some (.map (es++[⟨k,z,c⟩]) (c+1))))
  |_=>none
  else none
 |_,_=>none
def al6(b:Nat):List Ent→Nat→Option (Nat×Ent)
 | [],_=>none
 |e::r,i=>bif Nat.beq e.born b then some (i,e)else al6 b r (i+1)
def af7(m s v:AV)(h:Heap):Option Heap:=
 match m,s with
 | .map r,.int _ s=>match h.get r,af6 s with
   |some (.map es c),some b=>match al6 b es 0 with
    |some (i,e)=>bif Nat.ble h.wm r then some (h.put r (some (.map (ao8 es i ⟨e.key,v,e.born⟩) c)))else none
    |none=>none
   |_,_=>none
 |_,_=>none
def bo2(P:Program)(t:TypeId)(m k:AV)(h:Heap):Option Heap:=
 match P.underlying t,m with
 |some (.map kt _),.map r=>bif aJ5 P kt k&&Nat.ble h.wm r then
  match h.get r with
  |some (.map es c)=>match aq6 P kt k es 0 with
   |none=>none
   |some (some (i,_))=>some (h.put r (some (.map (bz6 es i) c)))
   |some none=>some (h.put r (some (.map es c)))
  |_=>none
  else none
 |_,_=>none
def bz7(P:Program)(t:TypeId)(x:AV)(h:Heap):Option (AV×Heap):=
 match P.underlying t,x with
 |some .string,.str l=>some (.ptr h.next 0,h.new (.strIter l 0))
 |some (.map _ _),.nilm=>some (.ptr h.next 0,h.new (.mapIter none 0 [] 0))
 |some (.map _ _),.map m=>match h.get m with
  |some (.map _ c)=>some (.ptr h.next 0,h.new (.mapIter (some m) c [] c))
  |some (.marr d ks vs l)=>some (.ptr h.next 0,(h.new (.mit m)).put m (some (.mrg h.next d ks vs l)))
  |_=>none
 |_,_=>none
def a59(es:List Ent)(seen:List Nat):List Ent:=es.filter fun e=> !(seen.contains e.born)
def cX0(r m since:Nat)(seen:List Nat)(c:Nat)(h:Heap)(left:List Ent):Res:=
 match left with
 | []=> .val (.tup [.bool false]) h
 |left=> .choice (left.map fun e=>(.tup [.bool true,e.key,e.val],h.put r (some (.mapIter (some m) since (seen++[e.born]) c))))
def cX1(r:Nat)(h:Heap)(l:List UInt8)(pos:Nat)(c:Option UInt8):Res:=match c with
 |none=> .val (.tup [.bool false]) h
 |some c=>bif Nat.ble h.wm r&&Nat.blt c.toNat 128 then .val (.tup [.bool true,.int .i64 pos,.int .i32 c.toNat]) (h.put r (some (.strIter l (pos+1))))else .bad
def cF5(r:Nat)(h:Heap)(b:Option Blk):Res:=match b with
 |some (.strIter l pos)=>cX1 r h l pos l[pos]?
 |_=> .bad
def bU0(it:AV)(bU5:Bool)(h:Heap):Res:=
 match it,bU5 with
 | .ptr r 0,true=>cF5 r h (h.get r)
 | .ptr r 0,false=>match h.get r with
   |some (.mapIter none _ _ _)=> .val (.tup [.bool false]) h
   |some (.mapIter (some m) since seen last)=>match h.get m with
    |some (.map es c)=>
     bif Nat.ble h.wm r&& !(!seen.isEmpty&& !es.isEmpty&&es.all (fun e=>Nat.ble last e.born))&& !((a59 es seen).any (fun e=>Nat.ble since e.born))then cX0 r m since seen c h (a59 es seen)else .bad
    |_=> .bad
   |_=> .bad
 |_,_=> .bad
def bz8:List Nat→Option Nat
 | []=>none
 | [x]=>some x
 |_::r=>bz8 r
def bz9(it:AV)(h:Heap):Option AV:=
 match it with
 | .ptr r 0=>match h.get r with
   |some (.mapIter (some m) _ seen stepped)=>match bz8 seen,h.get m with
    |some s,some (.map es c)=>bif Nat.beq c stepped then(al6 s es 0).map fun x=> .tup [x.2.key,x.2.val]else none
    |_,_=>none
   |_=>none
 |_=>none
def bA0(P:Program)(asserted:TypeId)(ok:Bool):Option AV:=bif ok then(a10 P asserted).map fun z=> .tup [z,.bool false]else none
def bU1(ok:Bool)(v:AV):Option AV:=some (bif ok then .tup [v,.bool true]else v)
def af8(P:Program)(x:AV)(asserted:TypeId)(ok:Bool):Option AV:=
 match P.underlying asserted with
 |some (.interface _)=>none
 |some _=>match x with
  | .nili=>bA0 P asserted ok
  | .iface t v=>bif Nat.beq t asserted then bU1 ok v else bA0 P asserted ok
  |_=>none
 |none=>none
def aD4:List AV→Option (List UInt8)
 | []=>some []
 | .int .u8 (.ofNat n)::r=>match aD4 r with
   |some l=>bif Nat.blt n 256 then some (UInt8.ofNat n::l)else none
   |none=>none
 |_=>none
def u8T(P:Program)(e:TypeId):Bool:=match P.underlying e with
 |some (.int .u8)=>true
 |_=>false
def bU2(P:Program)(e:TypeId)(l:List UInt8)(h:Heap):Option (AV×Heap):=
 bif u8T P e&&Nat.ble l.length room then some (.us h.next 0 l.length 1,h.new (.cells e 0 (l.map fun b=> .int .u8 b.toNat)))else none
def bU3(P:Program)(e:TypeId)(x:AV)(h:Heap):Option (List UInt8):=bif u8T P e then match x with
 | .nils=>some []
 | .es _ _ _=>some []
 | .es0=>some []
 | .sl b o n c=>(ac0 1 n (.sl b o n c) h).bind aD4
 | .us b o n s=>(ac0 1 n (.us b o n s) h).bind aD4
 |_=>none
 else none
def aG3(P:Program)(t b o:Nat)(h:Heap):Option (AV×Heap):=match ae2 P t,h.get b with
 |some (_+1),some (.cells _ _ cs)=>bif Nat.blt o cs.length then some (.ptr b o,h)else none
 |_,_=>none
def aG4(P:Program)(t b o:Nat)(h:Heap):Option (AV×Heap):=match o,ae2 P t,h.get b with
 |0,some (n+1),some (.cells e _ cs)=>bif Nat.beq e t&&Nat.ble (n+1) cs.length&&aG2 P t then some (.ptr b 0,h)else none
 |_,_,_=>none
def bU4(P:Program)(s d:TypeId)(x:AV)(h:Heap):Option (AV×Heap):=match P.underlying s,P.underlying d,x with
 |some .string,some (.slice e),.str l=>bU2 P e l h
 |_,_,_=>none
def bL5(P:Program)(s d:TypeId)(x:AV)(h:Heap):Option (AV×Heap):=
 match P.underlying s,P.underlying d,x with
 |some _,some (.int k),.int _ n=>some (.int k (at3 k n),h)
 |some _,some .string,.str l=>some (.str l,h)
 |some (.slice e),some .string,x=>(bU3 P e x h).map fun l=>(.str l,h)
 |some (.pointer t),some .unsafePointer,.ptr b o=>aG3 P t b o h
 |some .unsafePointer,some (.pointer t),.ptr b o=>aG4 P t b o h
 |_,_,_=>none
def aW1(c:Nat):List UInt8→Nat
 | []=>0
 |x::r=>bif Nat.beq x.toNat c then aW1 c r+1 else aW1 c r
def bL6(c:Nat):List UInt8→Nat→Option Nat
 | [],_=>none
 |x::r,i=>bif Nat.beq x.toNat c then some i else bL6 c r (i+1)
def bA1(c:Nat)(l:List UInt8):Int:=match bL6 c l 0 with
 |some i=>(i:Int)
 |none=> -1
def cX2(P:Program)(e:Ext)(args:List AV)(h:Heap):Option (AV×Heap):=
 match e,args with
 | .ident,[x]=>some (x,h)
 | .count,[.str l,.int .u8 c]=>(af6 c).bind fun c=>bif Nat.blt c 256 then some (.int .i64 (aW1 c l:Nat),h)else none
 | .indexByte,[.str l,.int .u8 c]=>(af6 c).bind fun c=>bif Nat.blt c 256 then some (.int .i64 (bA1 c l),h)else none
 |_,_=>none
def bU5:AV→Bool
 | .str _=>true
 |_=>false
def de8(P:Program)(t:Option TypeDesc)(x:AV)(h:Heap):Option Nat:=match t with
 |some .string=>match x with
  | .str l=>some l.length
  |_=>none
 |some (.slice _)=>bif bU5 x then none else aD3 x
 |some (.map _ _)=>match x with
  | .nilm=>some 0
  | .map r=>match h.get r with
    |some (.map es _)=>some es.length
    |_=>none
  |_=>none
 |_=>none
def bA2(P:Program)(elem:TypeId)(b o n:Nat)(h:Heap):Option (AV×Heap):=match n with
 |0=>some (.undef,h)
 |n=>match a10 P elem with
  |some z=>bif Nat.blt 0 z.cells.length then(putCells h b o (rep n z.cells)).map fun h'=>(.undef,h')else none
  |none=>none
def bU6(P:Program)(t:Option TypeDesc)(x:AV)(h:Heap):Option (AV×Heap):=match t with
 |some (.slice elem)=>match x with
  | .nils=>some (.undef,h)
  | .sl b o n _=>bA2 P elem b o n h
  | .us b o n _=>bA2 P elem b o n h
  |_=>none
 |some (.map _ _)=>match x with
  | .nilm=>some (.undef,h)
  | .map r=>match h.get r with
    |some (.map _ c)=>bif Nat.ble h.wm r then some (.undef,h.put r (some (.map [] c)))else none
    |_=>none
  |_=>none
 |_=>none
def bU7(P:Program)(argTypes:Array TypeId)(b o n:Nat)(h:Heap):Option (AV×Heap):=match h.get b,(argTypes[0]?).bind P.underlying with
 |some (.cells e _ cs),some (.pointer pt)=>bif Nat.ble h.wm b&&Nat.beq e pt&&Nat.ble (o+n) cs.length&&Nat.ble n room then(match ae2 P e,aD4 ((cs.drop o).take n)with
  |some 1,some l=>some (.str l,h.put b none)
  |_,_=>none)else none
 |_,_=>none
def bo3(x:AV)(h:Heap):Option (AV×Heap):=match x with
 | .sl b o _ (_+1)=>some (.ptr b o,h)
 | .us b o (n+1) sz=>bif Nat.blt 0 sz&&bo0 sz (.us b o (n+1) sz) h then some (.ptr b o,h)else none
 | .nils=>some (.nilp,h)
 |_=>none
def de9(P:Program)(argTypes:Array TypeId)(p:AV)(n:Option Nat)(h:Heap):Option (AV×Heap):=match argTypes[0]?,n with
 |some _,some 0=>match p with
  | .nilp=>some (.str [],h)
  | .ptr _ _=>some (.str [],h)
  |_=>none
 |some _,some (n+1)=>match p with
  | .ptr b o=>bU7 P argTypes b o (n+1) h
  |_=>none
 |_,_=>none
def df0(x:AV)(h:Heap):Option AV:=match x with
 | .nils=>some (.int .i64 0)
 | .es0=>some (.int .i64 0)
 | .sl _ _ _ c=>some (.int .i64 c)
 | .us b o _ sz=>match h.get b with
   |some (.cells _ _ cs)=>bif Nat.blt 0 sz&&Nat.ble o cs.length then some (.atl ((cs.length-o)/sz))else none
   |_=>none
 |_=>none
def at5(P:Program)(b:Builtin)(argTypes:Array TypeId)(args:List AV)(h:Heap):Option (AV×Heap):=
 match b,args with
 | .len,[x]=>(de8 P ((argTypes[0]?).bind P.underlying) x h).map fun(n:Nat)=>(AV.int .i64 (n:Int),h)
 | .append,[x,y]=>bo1 P argTypes x y h
 | .copy,[x,y]=>cF4 P argTypes x y h
 | .clear,[x]=>bU6 P ((argTypes[0]?).bind P.underlying) x h
 | .delete,[m,k]=>match argTypes[0]? with
   |some t=>(bo2 P t m k h).map fun h'=>(.undef,h')
   |none=>none
 | .unsafeSliceData,[x]=>bo3 x h
 | .unsafeString,[p,.int _ n]=>de9 P argTypes p (af6 n) h
 | .cap,[x]=>match(argTypes[0]?).bind P.underlying with
   |some (.slice _)=>(df0 x h).map fun v=>(v,h)
   |_=>none
 | .max,[.int k x,.int _ y]=>some (.int k (bif aJ1 x y then y else x),h)
 | .min,[.int k x,.int _ y]=>some (.int k (bif aJ1 y x then y else x),h)
 |_,_=>none
def cU5(x:AV):Option (Nat×Nat):=match x with
 | .sl b o _ _=>some (b,o)
 | .us b o _ _=>some (b,o)
 |_=>none
def cF6(a b:Option (Nat×Nat))(h:Heap):Bool:=match a,b with
 |some p,some q=> !(Nat.beq p.1 q.1)&&(match h.get p.1,h.get q.1 with
  |some (.cells _ fz cs),some (.cells _ _ _)=>Nat.ble fz p.2&&Nat.blt p.2 cs.length
  |_,_=>false)
 |_,_=>false
def bL7(t:TypeId)(P:Program)(args:List AV)(h:Heap):Res:=match args with
 | [x,y]=>match P.underlying t with
   |some (.slice e)=>match ae2 P e with
    |some _=>bif cF6 (cU5 x) (cU5 y) h then .choice [(.bool false,h),(.bool true,h)]else .bad
    |none=> .bad
   |_=> .bad
 |_=> .bad
def dn7(P:Program)(e:Ext)(args:List AV)(h:Heap):Res:=match e with
 | .overlaps t _=>bL7 t P args h
 |e=>oh (cX2 P e args h)
def cX3(P:Program)(e:Ext)(args:List AV)(h:Heap):Res:= .bad
def orY(r s:Res):Res:=match r with
 | .bad=>s
 |r=>r
def bL8(E:Env)(f:FuncId)(args:List AV)(h:Heap):Res:=
 match E.P.funcs[f]? with
 |none=> .bad
 |some fn=>match fn.body with
  |some _=> .enter f args
  |none=>match E.ext f with
   |some e=>orY (dn7 E.P e args h) (cX3 E.P e args h)
   |none=> .bad
def b06(P:Program)(t:TypeId)(name:String):Option FuncId:=
 match P.info? t with
 |some i=>match i.methods.find? (·.name==name)with
  |some m=>match m.path.toList with
   | []=>match m.func,P.underlying t with
     |some (f,true),some (.pointer _)=>some f
     |some (_,_),some (.pointer _)=>none
     |some (f,false),some _=>some f
     |_,_=>none
   |_=>none
  |none=>none
 |none=>none
def aG5(E:Env)(name:String)(first args:List AV)(h:Heap):Res:= .bad
def b07(E:Env)(f:AV)(args:List AV)(h:Heap):Res:=
 match f with
 | .func (.func f) first cap=>bL8 E f (first++args++cap) h
 | .func (.method name) first _=>aG5 E name first args h
 | .yield l=> .yield l args
 |_=> .bad
def at6(x:AV):Option AV:=
 match x with
 | .nilp| .nili| .nilf=>none
 | .opq _=>none
 | .any=>none
 | .func (.method _) _ _=>none
 |x=>some x
def orF(E:Env)(x:Option AV)(k:FK)(vs:List AV):Option AV:=match x with
 |some v=>some v
 |none=>E.fact k vs
def bo4(ρ:Operand→Option AV)(a b:Operand)(h:Heap)(c:Option AV):Res:=match c with
 |some (.bool t)=>ov (bif t then ρ a else ρ b) h
 |_=> .bad
def cz3(e:TypeId)(h:Heap)(v:Option AV):Res:=match v with
 |some z=>oh (az2 e z h)
 |none=> .bad
def bA3(P:Program)(t:TypeId)(h:Heap)(ps:Option (List (Nat×AV))):Res:=match ps with
 |some ps=>ov (bT2 P t ps) h
 |none=> .bad
def a47(P:Program)(t n:Nat)(h:Heap)(ps:Option (List (Nat×AV))):Res:=match ps with
 |some ps=>oh (a19 P t n ps h)
 |none=> .bad
def cF7(P:Program)(t:TypeId)(h:Heap)(a:Option AV):Res:=match a with
 |some a=>ov (bT1 P t a h) h
 |none=> .bad
def bU8(P:Program)(t:TypeId)(h:Heap)(a v:Option AV):Res:=match a with
 |some a=>match v with
  |some v=>os (bb7 P t a v h)
  |none=> .bad
 |none=> .bad
def b08(P:Program)(h:Heap)(name:String)(first cap:List AV):Res:=match first with
 | .iface t v::rest=>match b06 P t name with
   |some _=> .val (.func (.method name) (.iface t v::rest) cap) h
   |none=> .bad
 |_=> .bad
def cU6(P:Program)(h:Heap)(a:Option AV):Res:=match a with
 |some (.func (.method name) first cap)=>b08 P h name first cap
 |some a=>ov (at6 a) h
 |none=> .bad
def cU7(E:Env)(op:BinOp)(t:TypeId)(x y:Operand)(h:Heap)(a b:Option AV):Res:=match a with
 |some a=>match b with
  |some b=>bif aq5 E.P op t x y a b then ov (orF E (da9 E.P op t a b) (.bin op) [a,b]) h else .bad
  |none=> .bad
 |none=> .bad
def sUn(E:Env)(op:UnOp)(h:Heap)(a:Option AV):Res:=match a with
 |some a=>ov (orF E (unE op a) (.un op) [a]) h
 |none=> .bad
def bL9(E:Env)(s d:TypeId)(h:Heap)(a:Option AV):Res:=match a with
 |some a=>match bL5 E.P s d a h with
  |some r=> .val r.1 r.2
  |none=>match bU4 E.P s d a h with
   |some r=> .choice [r]
   |none=>ov (E.fact (.conv d) [a]) h
 |none=> .bad
def aW2(P:Program)(t:TypeId)(h:Heap)(a:Option AV):Res:=match a with
 |some v=>match P.underlying t with
  |some (.interface _)=> .bad
  |some _=> .val (.iface t v) h
  |none=> .bad
 |none=> .bad
def bM0(fn:Fn)(h:Heap)(a b:Option (List AV)):Res:=match a with
 |some a=>match b with
  |some b=>match fn with
   | .yield _=> .bad
   |fn=> .val (.func fn a b) h
  |none=> .bad
 |none=> .bad
def ck3(P:Program)(t:TypeId)(h:Heap)(r:Option (Option AV)):Res:=match P.underlying t with
 |some (.map _ _)=>match r with
  |some none=> .val (.map h.next) (h.new (.map [] 0))
  |some (some (.int _ _))=> .val (.map h.next) (h.new (.map [] 0))
  |_=> .bad
 |_=> .bad
def a94(P:Program)(t:TypeId)(h:Heap)(l c:Option AV):Res:=match l with
 |some l=>match c with
  |some c=>oh (a44 P t l c h)
  |none=> .bad
 |none=> .bad
def aW3(E:Env)(t:TypeId)(h:Heap)(x:Option AV)(lo hi mx:Option (Option AV)):Res:=match x with
 |some x=>match lo with
  |some lo=>match hi with
   |some hi=>match mx with
    |some mx=>bif hi.isNone&&mx.isSome then .bad else ov (bT4 E.P t x lo hi mx h) h
    |none=> .bad
   |none=> .bad
  |none=> .bad
 |none=> .bad
def cz4(P:Program)(t:TypeId)(f:Nat)(h:Heap)(a:Option AV):Res:=match a with
 |some a=>ov (bz5 P t a f) h
 |none=> .bad
def aW4(P:Program)(t:TypeId)(f:Nat)(h:Heap)(a:Option AV):Res:=match a with
 |some a=>ov (al5 P t a f) h
 |none=> .bad
def s2(F:AV→AV→Option AV)(h:Heap)(a b:Option AV):Res:=match a with
 |some a=>match b with
  |some b=>ov (F a b) h
  |none=> .bad
 |none=> .bad
def s3h(F:AV→AV→AV→Option Heap)(a b c:Option AV):Res:=match a with
 |some a=>match b with
  |some b=>match c with
   |some c=>os (F a b c)
   |none=> .bad
  |none=> .bad
 |none=> .bad
def s2h(F:AV→AV→Option (AV×Heap))(a b:Option AV):Res:=match a with
 |some a=>match b with
  |some b=>oh (F a b)
  |none=> .bad
 |none=> .bad
def s1h(F:AV→Option (AV×Heap))(a:Option AV):Res:=match a with
 |some a=>oh (F a)
 |none=> .bad
def s1r(F:AV→Res)(a:Option AV):Res:=match a with
 |some a=>F a
 |none=> .bad
def s1(F:AV→Option AV)(h:Heap)(a:Option AV):Res:=match a with
 |some a=>ov (F a) h
 |none=> .bad
def aG6(i:Nat)(x:AV):Option AV:=match x with
 | .tup vs=>vs[i]?
 |_=>none
def af9(E:Env)(b:Builtin)(ts:Array TypeId)(h:Heap)(args:List AV):Res:=match at5 E.P b ts args h with
 |some r=> .val r.1 r.2
 |none=>match b with
  | .len=>ov (E.fact .len args) h
  | .max=>ov (E.fact .max args) h
  | .min=>ov (E.fact .min args) h
  |_=> .bad
def bb9(E:Env)(ρ:Operand→Option AV)(c:Call)(h:Heap)(args:Option (List AV)):Res:=match args with
 |none=> .bad
 |some args=>match c.callee with
  | .builtin b=>af9 E b c.argTypes h args
  | .invoke rc name=>s1r (fun v=>aG5 E name [v] args h) (ρ rc)
  | .value f=>s1r (fun f=>b07 E f args h) (ρ f)
def bU9(args:List AV)(f:AV):Res:=match f with
 | .func (.func g) first cap=> .defer (.fn g cap (first++args))
 |_=> .bad
def bc0(ρ:Operand→Option AV)(c:Call)(args:Option (List AV)):Res:=match args with
 |none=> .bad
 |some args=>match c.callee with
  | .value f=>s1r (bU9 args) (ρ f)
  |_=> .bad
def at7(E:Env)(ρ:Operand→Option AV)(o:Oper)(h:Heap):Res:=
 match o.op with
 | .move x=>ov (ρ x) h
 | .assign x=>ov (ρ x) h
 | .pick c a b=>bo4 ρ a b h (ρ c)
 | .alloc e=>cz3 e h (a10 E.P e)
 | .box e x=>cz3 e h (ρ x)
 | .build t ps=>bA3 E.P t h (aU3 ρ ps.toList)
 | .buildSlice t n ps=>a47 E.P t n h (aU3 ρ ps.toList)
 | .load t a=>cF7 E.P t h (ρ a)
 | .store t a x=>bU8 E.P t h (ρ a) (ρ x)
 | .nilCheck x=>cU6 E.P h (ρ x)
 | .binOp op t x y _=>cU7 E op t x y h (ρ x) (ρ y)
 | .unOp op _ x=>sUn E op h (ρ x)
 | .convert s d x=>bL9 E s d h (ρ x)
 | .makeInterface t x=>aW2 E.P t h (ρ x)
 | .makeFunc fn first cap=>bM0 fn h (evs ρ first.toList) (evs ρ cap.toList)
 | .makeMap t r=>ck3 E.P t h (evo ρ r)
 | .makeSlice t l c=>a94 E.P t h (ρ l) (ρ c)
 | .slice t x lo hi mx=>aW3 E t h (ρ x) (evo ρ lo) (evo ρ hi) (evo ρ mx)
 | .fieldAddr s x f=>aW4 E.P s f h (ρ x)
 | .field t x f=>cz4 E.P t f h (ρ x)
 | .indexAddr t x i=>s2 (az3 E.P t) h (ρ x) (ρ i)
 | .index t x i=>s2 (bT3 E.P t) h (ρ x) (ρ i)
 | .lookup t x i ok=>s2 (fun a i=>b05 E.P t a i ok h) h (ρ x) (ρ i)
 | .mapUpdate t m k x=>s3h (fun m k v=>a93 E.P t m k v h) (ρ m) (ρ k) (ρ x)
 | .insert t m k x=>s3h (fun m k v=>a93 E.P t m k v h) (ρ m) (ρ k) (ρ x)
 | .mapEntry t m k=>s2h (fun m k=>at4 E.P t m k h) (ρ m) (ρ k)
 | .entryStore _ m s x=>s3h (fun m s v=>af7 m s v h) (ρ m) (ρ s) (ρ x)
 | .range t x=>s1h (fun a=>bz7 E.P t a h) (ρ x)
 | .next it s=>s1r (fun a=>bU0 a s h) (ρ it)
 | .entry it=>s1 (fun a=>bz9 a h) h (ρ it)
 | .typeAssert x _ t ok=>s1 (fun a=>af8 E.P a t ok) h (ρ x)
 | .extract t i=>s1 (aG6 i) h (ρ t)
 | .call c=>bb9 E ρ c h (evs ρ c.args.toList)
 | .defer c=>bc0 ρ c (evs ρ c.args.toList)
 |_=> .bad
def b09:AV→Option (IntKind×SX)
 | .int k n=>some (k,.ci n)
 | .oint k e=>some (k,e)
 |_=>none
def bo5:AV→Option SX
 | .str l=>some (.cs l)
 | .ostr e=>some e
 |_=>none
def bo6:AV→Option SX
 | .bool b=>some (.cb b)
 | .obool e=>some e
 |_=>none
def db2(op:BinOp)(k k':IntKind)(a b:SX)(h:Heap):Res:=match op with
 | .shl=> .need (.op (.cmp .leq) [.ci 0,b]) (.oint k (.op (.ar .shl k) [a,b])) h
 | .shr=> .need (.op (.cmp .leq) [.ci 0,b]) (.oint k (.op (.ar .shr k) [a,b])) h
 | .quo=>if k=k' then .need (.op (.cmp .neq) [b,.ci 0]) (.oint k (.op (.ar .quo k) [a,b])) h else .bad
 | .rem=>if k=k' then .need (.op (.cmp .neq) [b,.ci 0]) (.oint k (.op (.ar .rem k) [a,b])) h else .bad
 | .add| .sub| .mul| .and| .or| .xor| .andNot=>if k=k' then .val (.oint k (.op (.ar op k) [a,b])) h else .bad
 | .eql| .neq| .lss| .leq| .gtr| .geq=>if k=k' then .val (.obool (.op (.cmp op) [a,b])) h else .bad
def ck4:Int:=4294967296
def aD5(a b:SX):SX:= .op .iadd [a,b]
def db3(op:BinOp)(a b:SX)(h:Heap):Res:=match op with
 | .eql| .neq| .lss| .leq| .gtr| .geq=> .val (.obool (.op (.scmp op) [a,b])) h
 | .add=> .need (.op (.cmp .lss) [aD5 (.op .slen [a]) (.op .slen [b]),.ci ck4]) (.ostr (.op .cat [a,b])) h
 |_=> .bad
def bM1(P:Program)(t:TypeId):Bool:=match P.underlying t with
 |some .bool=>true
 |_=>false
def cF8(P:Program)(op:BinOp)(t:TypeId)(a b:SX)(h:Heap):Res:=match op with
 | .eql=>bif bM1 P t then .val (.obool (.op .beq [a,b])) h else .bad
 | .neq=>bif bM1 P t then .val (.obool (.op .not [.op .beq [a,b]])) h else .bad
 |_=> .bad
def aJ6(a b:SX):SX:=match a with
 | .cb true=>b
 |_=>match b with
  | .cb true=>a
  |_=> .op .and [a,b]
def ae3(P:Program)(ih:TypeId→AV→AV→Option SX)(xs ys:List AV):List Field→Option SX
 | []=>some (.cb true)
 |f::r=>bif f.name== "_" then ae3 P ih xs ys r else match ah7 P f.type xs f.offset,ah7 P f.type ys f.offset with
  |some a,some b=>match ih f.type a b with
   |some e=>match ae3 P ih xs ys r with
    |some e'=>some (aJ6 e e')
    |none=>none
   |none=>none
  |_,_=>none
def cz5(k k':IntKind)(a b:SX):Option SX:=if k=k' then some (.op (.cmp .eql) [a,b])else none
def bo7(P:Program)(ih:TypeId→AV→AV→Option SX)(t:TypeId)(x y:AV):Option SX:=
 match P.underlying t with
 |some .bool=>match bo6 x,bo6 y with
  |some a,some b=>some (.op .beq [a,b])
  |_,_=>none
 |some (.int _)=>match b09 x,b09 y with
  |some (k,a),some (k',b)=>cz5 k k' a b
  |_,_=>none
 |some .string=>match bo5 x,bo5 y with
  |some a,some b=>some (.op (.scmp .eql) [a,b])
  |_,_=>none
 |some (.struct fields)=>match x,y with
  | .agg xs,.agg ys=>bif P.stoodInHeld t then none else ae3 P ih xs ys fields.toList
  |_,_=>none
 |_=>none
def df1(_:TypeId)(_ _:AV):Option SX:=none
def eqS(P:Program)(n:Nat):TypeId→AV→AV→Option SX:=Nat.rec (motive:=fun _=>TypeId→AV→AV→Option SX) df1 (fun _=>bo7 P) n
def aJ7(P:Program)(t:TypeId):Bool:=match P.underlying t with
 |some (.slice _)=>true
 |_=>false
def cX4(P:Program)(op:BinOp)(t:TypeId)(len:SX)(y:AV)(h:Heap):Res:=match y with
 | .nils=>bif aJ7 P t then(match op with
   | .eql=> .cho (.op (.cmp .lss) [.ci 0,len]) (.bool false) [.bool true,.bool false] h
   | .neq=> .cho (.op (.cmp .lss) [.ci 0,len]) (.bool true) [.bool true,.bool false] h
   |_=> .bad)else .bad
 |_=> .bad
def db4(P:Program)(op:BinOp)(t:TypeId)(x y:AV)(h:Heap):Res:=match x with
 | .agg cs=>match eqS P 10000 t (.agg cs) y with
   |some e=>match op with
    | .eql=> .val (.obool e) h
    | .neq=> .val (.obool (.op .not [e])) h
    |_=> .bad
   |none=> .bad
 | .osl _ _ len _=>cX4 P op t len y h
 | .ous _ len _=>cX4 P op t len y h
 |_=> .bad
def df2(P:Program)(op:BinOp)(t:TypeId)(x y:AV)(h:Heap):Res:=
 match b09 x,b09 y with
 |some (k,a),some (k',b)=>db2 op k k' a b h
 |_,_=>match bo5 x,bo5 y with
  |some a,some b=>db3 op a b h
  |_,_=>match bo6 x,bo6 y with
   |some a,some b=>cF8 P op t a b h
   |_,_=>db4 P op t x y h
def cl8(P:Program)(op:BinOp)(t:TypeId)(x y:Operand)(h:Heap)(a b:Option AV):Res:=match a with
 |some a=>match b with
  |some b=>bif aq5 P op t x y a b then df2 P op t a b h else .bad
  |none=> .bad
 |none=> .bad
def yUn(op:UnOp)(h:Heap)(a:Option AV):Res:=match a with
 |some (.obool e)=>match op with
  | .not=> .val (.obool (.op .not [e])) h
  |_=> .bad
 |some (.oint k e)=>match op with
  | .neg=> .val (.oint k (.op (.un .neg k) [e])) h
  | .xor=> .val (.oint k (.op (.un .xor k) [e])) h
  |_=> .bad
 |_=> .bad
def db5(e x y:SX):SX:=match x,y with
 | .cb true,.cb false=>e
 | .cb false,.cb true=> .op .not [e]
 |x,y=> .op .ite [e,x,y]
def bV0(h:Heap)(e:SX)(a b:Option AV):Res:=match a.bind bo6,b.bind bo6 with
 |some x,some y=> .val (.obool (db5 e x y)) h
 |_,_=> .bad
def bV1(h:Heap)(e:SX)(a b:Option AV):Res:=match a,b with
 |some (.tup []),some y=> .need (.op .not [e]) y h
 |some x,some (.tup [])=> .need e x h
 |a,b=>bV0 h e a b
def cl9(h:Heap)(c a b:Option AV):Res:=match c with
 |some (.obool e)=>bV1 h e a b
 |_=> .bad
def bc1(c:CT)(e:SX):AV:=match c with
 | .int k=> .oint k e
 | .str=> .ostr e
 | .bool=> .obool e
def bM2(sig:List CT)(l idx:SX):Nat→Nat→List AV
 |_,0=>[]
 |j,n+1=>bc1 (sig.getD j .bool) (.op .lget [l,idx,.ci j])::bM2 sig l idx (j+1) n
def bc2(c:CT)(v:AV):Option SX:=match c with
 | .int k=>match b09 v with
   |some (k',e)=>if k=k' then some e else none
   |none=>none
 | .str=>bo5 v
 | .bool=>bo6 v
def X8:List CT→List AV→Option (List SX)
 | [],[]=>some []
 |c::cs,v::vs=>match bc2 c v,X8 cs vs with
  |some e,some es=>some (e::es)
  |_,_=>none
 |_,_=>none
def bo8(idx len:SX):SX:= .op .and [.op (.cmp .leq) [.ci 0,idx],.op (.cmp .lss) [idx,len]]
def cm0(P:Program)(t:TypeId)(h:Heap)(a:Option AV):Res:=match a with
 |some (.optr b idx j sz)=>match h.get b with
  |some (.arr _ sig l)=>match cW7 P t,ae2 P t with
   |some true,some n=>bif Nat.beq sig.length sz&&Nat.ble (j+n) sz then .need (bo8 idx (.op .llen [l])) (.agg (bM2 sig l idx j n)) h else .bad
   |some false,some _=>bif Nat.beq sig.length sz&&Nat.blt j sz then .need (bo8 idx (.op .llen [l])) (bc1 (sig.getD j .bool) (.op .lget [l,idx,.ci j])) h else .bad
   |_,_=> .bad
  |some (.vec cs)=>match cW7 P t,idx with
   |some false,.ci (.ofNat k)=>bif Nat.beq sz 1&&Nat.beq j 0 then(match cs[k]? with
    |some a=> .val a h
    |none=> .bad)else .bad
   |_,_=> .bad
  |_=> .bad
 |_=> .bad
def db6(a b:SX):SX:=match a with
 | .ci 0=>b
 |a=> .op .iadd [a,b]
def cF9(a b:SX):SX:=match a with
 | .op (.cmp .leq) [.ci 0,.ci 0]=>b
 |a=> .op .and [a,b]
def al7(P:Program)(t:TypeId)(h:Heap)(x i:Option AV):Res:=match P.underlying t with
 |some (.slice elem)=>match ae2 P elem with
  |some s=>match i.bind b09 with
   |some (_,i)=>match x with
    |some (.osl b off len sz)=>bif Nat.beq s sz then .need (cF9 (.op (.cmp .leq) [.ci 0,off]) (bo8 i len)) (.optr b (db6 off i) 0 sz) h else .bad
    |some (.ous b len sz)=>bif Nat.beq s sz then .need (bo8 i len) (.optr b i 0 sz) h else .bad
    |_=> .bad
   |none=> .bad
  |none=> .bad
 |_=> .bad
def al8(P:Program)(s:TypeId)(f:Nat)(h:Heap)(a:Option AV):Res:=match P.underlying s,a with
 |some (.struct fields),some (.optr b idx j sz)=>match fields[f]? with
  |some f=>match ae2 P f.type with
   |some (_+1)=> .val (.optr b idx (j+f.offset) sz) h
   |_=> .bad
  |none=> .bad
 |_,_=> .bad
def bA4(P:Program)(t:TypeId)(h:Heap)(x i:Option AV):Res:= .bad
def bS6(k:IntKind)(e:SX):AV:=match e with
 | .ci n=> .int k n
 |e=> .oint k e
def db7(P:Program)(t:Option TypeDesc)(h:Heap)(x:AV):Res:=match t with
 |some .string=>match x with
  | .ostr e=> .val (.oint .i64 (.op .slen [e])) h
  |_=> .bad
 |some (.slice _)=>match x with
  | .osl _ _ len _=> .need (.op (.cmp .leq) [.ci 0,len]) (bS6 .i64 len) h
  | .ous _ len _=> .need (.op (.cmp .leq) [.ci 0,len]) (bS6 .i64 len) h
  |_=> .bad
 |_=> .bad
def yMM(b:Builtin)(x y:AV)(h:Heap):Res:=match b09 x,b09 y with
 |some (k,a),some (_,c)=>match b with
  | .max=> .val (.oint k (.op .imax [a,c])) h
  | .min=> .val (.oint k (.op .imin [a,c])) h
  |_=> .bad
 |_,_=> .bad
def dq5:AV→Option CT
 | .int k _=>some (.int k)
 | .oint k _=>some (.int k)
 | .str _=>some .str
 | .ostr _=>some .str
 | .bool _=>some .bool
 | .obool _=>some .bool
 |_=>none
def bM3:List AV→Option (List CT)
 | []=>some []
 |a::r=>match dq5 a,bM3 r with
  |some c,some cs=>some (c::cs)
  |_,_=>none
def aq7(sig:List CT)(sz:Nat):Nat→List AV→Option (List SX)
 |0,_=>some []
 |n+1,cs=>match X8 sig (cs.take sz),aq7 sig sz n (cs.drop sz)with
  |some e,some r=>some (.op .row e::r)
  |_,_=>none
def cG0(off len l:SX):SX:= .op .and [.op .and [.op (.cmp .leq) [.ci 0,off],.op (.cmp .leq) [.ci 0,len]],.op .and [.op (.cmp .leq) [.op .iadd [off,len],.op .llen [l]],.op .bok [.op .lsub [l,off,.op .iadd [off,len]]]]]
def cm1(off len:SX)(sz:Nat)(x:Option Blk)(h:Heap):Res:=match x with
 |some (.arr _ [.int .u8] l)=>bif Nat.beq sz 1 then .need (cG0 off len l) (.ostr (.op .bstr [.op .lsub [l,off,.op .iadd [off,len]]])) h else .bad
 |_=> .bad
def cm2(o n:Nat)(x:Option Blk)(h:Heap):Res:=match x with
 |some (.cells _ _ cs)=>bif Nat.ble (o+n) cs.length then(match aq7 [.int .u8] 1 n ((cs.drop o).take n)with
  |some rs=> .need (.op .bok [.op .row rs]) (.ostr (.op .bstr [.op .row rs])) h
  |none=> .bad)else .bad
 |_=> .bad
def b10(a:Option AV)(h:Heap):Res:= .bad
def b11(e:TypeId)(a:Option AV)(h:Heap):Res:= .bad
def cm3(P:Program)(s d:TypeId)(h:Heap)(a:Option AV):Res:=match P.underlying s,P.underlying d with
 |some _,some (.int k)=>match a with
  |some (.oint _ e)=> .val (.oint k (.op (.conv k) [e])) h
  |_=> .bad
 |some (.slice e),some .string=>bif u8T P e then b10 a h else .bad
 |some .string,some (.slice e)=>bif u8T P e then b11 e a h else .bad
 |some _,some .string=>match a with
  |some (.ostr e)=> .val (.ostr e) h
  |_=> .bad
 |_,_=> .bad
def Y3:List CT→List CT→Bool
 | [],[]=>true
 |a::x,b::y=>decide (a=b)&&Y3 x y
 |_,_=>false
def eqN(a b:SX):SX:=bif SX.beq a b then .cb true else .op (.cmp .eql) [a,b]
def dn8:SX→Bool
 | .app _ _=>true
 |_=>false
def cG1(sz:Nat)(y:AV)(h:Heap):Option (List CT×SX×SX):=match y with
 | .ous b len s=>match h.get b with
   |some (.arr _ sig l)=>bif Nat.beq s sz&&Nat.beq sig.length sz then(bif dn8 len then some (sig,.op .and [.op (.cmp .leq) [.ci 0,len],.op (.cmp .leq) [len,.op .llen [l]]],.op .lsub [l,.ci 0,len])else some (sig,eqN len (.op .llen [l]),l))else none
   |_=>none
 | .osl b off len s=>match h.get b with
   |some (.arr _ sig l)=>bif Nat.beq s sz&&Nat.beq sig.length sz then bif SX.beq off (.ci 0)&&SX.beq len (.op .llen [l])then some (sig,.cb true,l)else some (sig,.op .and [.op (.cmp .leq) [.ci 0,off],.op .and [.op (.cmp .leq) [.ci 0,len],.op (.cmp .leq) [.op .iadd [off,len],.op .llen [l]]]],.op .lsub [l,off,.op .iadd [off,len]])else none
   |_=>none
 | .sl b o n _=>match h.get b with
   |some (.cells _ _ cs)=>bif Nat.ble (o+n*sz) cs.length&&Nat.blt 0 n then(match bM3 ((cs.drop o).take sz)with
    |some sig=>match aq7 sig sz n ((cs.drop o).take (n*sz))with
     |some rs=>some (sig,.cb true,.op .row rs)
     |none=>none
    |none=>none)else none
   |_=>none
 | .us b o n s=>match h.get b with
   |some (.cells _ _ cs)=>bif Nat.ble (o+n*sz) cs.length&&Nat.blt 0 n&&Nat.beq s sz then(match bM3 ((cs.drop o).take sz)with
    |some sig=>match aq7 sig sz n ((cs.drop o).take (n*sz))with
     |some rs=>some (sig,.cb true,.op .row rs)
     |none=>none
    |none=>none)else none
   |_=>none
 |_=>none
def bV2(sz:Nat)(y:AV):Option (List CT×SX×SX):=bif Nat.beq sz 1 then(match bo5 y with
 |some e=>some ([.int .u8],.cb true,.op .sbytes [e])
 |none=>none)else none
def aF1:Int:=1000000
def cz6(z:List AV)(y:AV):Option (List CT×SX×SX):=match b09 y,bM3 z with
 |some (_,e),some sig=>(match X8 sig z with
  |some es=>some (sig,.op .and [.op (.cmp .leq) [.ci 0,e],.op (.cmp .leq) [e,.ci aF1]],.op .lrep [e,.op .row es])
  |none=>none)
 |_,_=>none
def df3(P:Program)(yt sz:Nat)(z:List AV)(y:AV)(h:Heap):Option (List CT×SX×SX):=match P.underlying yt with
 |some (.slice _)=>cG1 sz y h
 |some .string=>bV2 sz y
 |some (.int _)=>cz6 z y
 |_=>none
def bV3(elem s:Nat)(sig:List CT)(x:AV)(h:Heap):Option (AV×Heap):=match x with
 | .sl b o n c=>match h.get b with
   |some (.cells e fz cs)=>bif Nat.beq e elem&&Nat.ble h.wm b&&Nat.ble fz o&&Nat.ble (o+c*s) cs.length&&Nat.ble n c&&Nat.beq sig.length s&&Nat.blt h.next 65536 then(match aq7 sig s n ((cs.drop o).take (n*s))with
    |some rs=>some (.ous h.next (.op .llen [.op .row rs]) s,(h.put b none).new (.arr elem sig (.op .row rs)))
    |none=>none)else none
   |_=>none
 | .us b o n s'=>match h.get b with
   |some (.cells e fz cs)=>bif Nat.beq e elem&&Nat.ble h.wm b&&Nat.ble fz o&&Nat.ble (o+n*s) cs.length&&Nat.beq s' s&&Nat.beq sig.length s&&Nat.blt h.next 65536&&Nat.blt 0 s then(match aq7 sig s n ((cs.drop o).take (n*s))with
    |some rs=>some (.ous h.next (.op .llen [.op .row rs]) s,(h.put b none).new (.arr elem sig (.op .row rs)))
    |none=>none)else none
   |_=>none
 | .ous b (.ci 0) s'=>match h.get b with
   |some (.arr e sg _)=>bif Nat.beq e elem&&Nat.ble h.wm b&&Y3 sg sig&&Nat.beq s' s&&Nat.beq sig.length s&&Nat.blt h.next 65536 then some (.ous h.next (.op .llen [.op .row []]) s,(h.put b none).new (.arr elem sig (.op .row [])))else none
   |_=>none
 |_=>none
def bV4(l y:SX):SX:=match l with
 | .op .row []=>y
 |l=> .op .lcat [l,y]
def cX5(elem s:Nat)(sig:List CT)(nd ly:SX)(x:AV)(h:Heap):Res:=match x with
 | .nils=>bif !(Nat.blt h.next 65536)then .bad else .need (aJ6 nd (.op (.cmp .leq) [.op .llen [ly],.ci aF1])) (.ous h.next (.op .llen [ly]) s) (h.new (.arr elem sig ly))
 | .ous b len sz=>match h.get b with
   |some (.arr e sig' l)=>bif Nat.beq sz s&&Nat.beq e elem&&Y3 sig' sig&&Nat.ble h.wm b&&Nat.blt h.next 65536&& !(Nat.beq e aV8)then
    .need (aJ6 nd (aJ6 (eqN len (.op .llen [l])) (.op (.cmp .leq) [.op .llen [bV4 l ly],.ci aF1]))) (.ous h.next (.op .llen [bV4 l ly]) s) ((h.put b none).new (.arr elem sig (bV4 l ly)))else .bad
   |_=> .bad
 |_=> .bad
def cX6(elem s:Nat)(sig:List CT)(nd ly:SX)(x:AV)(h:Heap)(p:Option (AV×Heap)):Res:=match p with
 |some p=>cX5 elem s sig nd ly p.1 p.2
 |none=>cX5 elem s sig nd ly x h
def bo9(P:Program)(ts:Array TypeId)(x y:AV)(h:Heap):Res:=match(ts[0]?).bind P.underlying,ts[1]? with
 |some (.slice elem),some yt=>match P.info? elem,a10 P elem with
     |some i,some z=>match df3 P yt i.size z.cells y h with
      |some (sig,nd,ly)=>bif Nat.blt 0 i.size&&Nat.beq z.cells.length i.size&&Nat.ble i.bytes 1000&&Nat.beq ts.size 2&&Nat.beq sig.length i.size&& !(aG2 P elem)then cX6 elem i.size sig nd ly x h (bV3 elem i.size sig x h)else .bad
      |none=> .bad
     |_,_=> .bad
 |_,_=> .bad
def b12(x:AV)(h:Heap):Res:= .bad
def bp0(P:Program)(ts:Array TypeId)(x y:AV)(h:Heap):Res:= .bad
def bV5(P:Program)(t:Option TypeDesc)(x:AV)(h:Heap):Res:= .bad
def cG2(P:Program)(ts:Array TypeId)(x y:AV)(h:Heap):Res:= .bad
def ai1(l idx:SX):Nat→Nat→List SX
 |_,0=>[]
 |j,n+1=> .op .lget [l,idx,.ci j]::ai1 l idx (j+1) n
def db8:List CT→Nat→Nat→SX
 | [],_,_=> .cb true
 |c::r,i,j=>aJ6 (match c with
  | .int _=> .op (.cmp .eql) [.va i,.va j]
  | .str=> .op (.scmp .eql) [.va i,.va j]
  | .bool=> .op .beq [.va i,.va j]) (db8 r (i+1) (j+1))
def ck5:List CT→Nat→List AV
 | [],_=>[]
 |c::r,i=>bc1 c (.va i)::ck5 r (i+1)
def aJ8(P:Program)(kt:TypeId)(ks:List CT):Bool:=aJ5 P kt (.agg (ck5 ks 0))&&(match eqS P 10000 kt (.agg (ck5 ks 0)) (.agg (ck5 ks ks.length))with
 |some e=>SX.beq e (db8 ks 0 ks.length)
 |none=>false)
def dq6:AV→Bool
 | .agg _=>true
 |_=>false
def bb1(ks:List CT)(l:SX)(es:List SX):SX:= .op (.mfind ks) [l,.op .row es]
def az1(ks:List CT)(l:SX)(es:List SX):SX:= .op (.cmp .lss) [bb1 ks l es,.op .llen [l]]
def ag0(ks:List CT)(l:SX)(es:List SX):List CT→Nat→List SX→List AV
 |c::cs,j,z::zs=>bc1 c (.op .ite [az1 ks l es,.op .lget [l,bb1 ks l es,.ci j],z])::ag0 ks l es cs (j+1) zs
 |_,_,_=>[]
def bn5:List AV→AV
 | [v]=>v
 |vs=> .agg vs
def ai2(vs:List CT)(z:AV):Bool:=match vs with
 | []=>false
 | [_]=>z.one
 |_=>dq6 z
def al9(ks:List CT)(es zs:List SX)(l:SX):SX:=match l with
 | .op .ite [c,l0,.op .lcat [l1,.op .row [.op .row ez]]]=>bif SX.beq c (az1 ks l0 es)&&SX.beq l1 l0&&SX.beqs ez (es++zs)then l0 else l
 |l=>l
def bV6(P:Program)(kt et:TypeId)(h:Heap)(b:Option Blk)(cs:List AV)(ok:Bool):Res:=match b,a10 P et with
 |some (.marr _ ks vs l),some z=>match X8 ks cs,X8 vs z.cells with
  |some es,some zs=>bif aJ8 P kt ks&&Nat.ble 2 ks.length&&ai2 vs z then .val (bif ok then .tup [bn5 (ag0 ks l es vs ks.length zs),.obool (az1 ks l es)]else bn5 (ag0 ks (al9 ks es zs l) es vs ks.length zs)) h else .bad
  |_,_=> .bad
 |_,_=> .bad
def b13(P:Program)(t:TypeId)(h:Heap)(m k:Option AV)(ok:Bool):Res:=match P.underlying t with
 |some (.map kt et)=>match m with
  |some (.map r)=>match k with
   |some (.agg cs)=>bV6 P kt et h (h.get r) cs ok
   |_=> .bad
  |_=> .bad
 |_=> .bad
def cX7(ks:List CT)(l:SX)(es xs:List SX):SX:= .op .ite [az1 ks l es,.op .lset [l,bb1 ks l es,.op .row (es++xs)],.op .lcat [l,.op .row [.op .row (es++xs)]]]
def bV7(P:Program)(kt:TypeId)(h:Heap)(r:Nat)(b:Option Blk)(ks vs:List CT)(z:AV)(cs:List AV)(x:AV):Res:=match X8 ks cs,X8 vs x.cells with
 |some es,some xs=>bif aJ8 P kt ks&&Nat.ble 2 ks.length&&ai2 vs x&&Nat.ble h.wm r then(match b with
  |some (.marr d ks' vs' l)=>bif Y3 ks' ks&&Y3 vs' vs then .val .undef (h.put r (some (.marr d ks vs (cX7 ks l es xs))))else .bad
  |some (.map [] c)=> .val .undef (h.put r (some (.marr (Nat.beq c 0) ks vs (.op .row [.op .row (es++xs)]))))
  |_=> .bad)else .bad
 |_,_=> .bad
def bA5(P:Program)(t:TypeId)(h:Heap)(m k x:Option AV):Res:=match P.underlying t with
 |some (.map kt et)=>match m with
  |some (.map r)=>match k with
   |some (.agg cs)=>match x with
    |some x=>match a10 P kt,a10 P et with
     |some zk,some z=>match bM3 zk.cells,bM3 z.cells with
      |some ks,some vs=>bV7 P kt h r (h.get r) ks vs z cs x
      |_,_=> .bad
     |_,_=> .bad
    |none=> .bad
   |_=> .bad
  |_=> .bad
 |_=> .bad
def bp1(P:Program)(t:TypeId)(h:Heap)(m k:Option AV):Res:= .bad
def bV8(h:Heap)(m s x:Option AV):Res:= .bad
def cX8(P:Program)(kt:TypeId)(h:Heap)(r:Nat)(b:Option Blk)(cs:List AV):Res:=match b with
 |some (.marr _ ks vs l)=>match X8 ks cs with
  |some es=>bif aJ8 P kt ks&&Nat.ble 2 ks.length&&Nat.ble h.wm r then .need (.cb true) .undef (h.put r (some (.marr false ks vs (.op (.mdel ks) [l,.op .row es]))))else .bad
  |none=> .bad
 |_=> .bad
def df4(P:Program)(u:Option TypeDesc)(h:Heap)(m k:AV):Res:=match u with
 |some (.map kt _)=>match m with
  | .map r=>match k with
    | .agg cs=>cX8 P kt h r (h.get r) cs
    |_=> .bad
  |_=> .bad
 |_=> .bad
def aG7(P:Program)(b:Builtin)(ts:Array TypeId)(h:Heap)(args:Option (List AV)):Res:=match args with
 |some [x]=>match b with
  | .len=>db7 P ((ts[0]?).bind P.underlying) h x
  | .unsafeSliceData=>b12 x h
  | .clear=>bV5 P ((ts[0]?).bind P.underlying) x h
  |_=> .bad
 |some [x,y]=>match b with
  | .append=>bo9 P ts x y h
  | .unsafeString=>bp0 P ts x y h
  | .copy=>cG2 P ts x y h
  | .delete=>df4 P ((ts[0]?).bind P.underlying) h x y
  |_=>yMM b x y h
 |_=> .bad
def cm4(P:Program)(ρ:Operand→Option AV)(c:Call)(h:Heap):Res:=match c.callee with
 | .builtin b=>aG7 P b c.argTypes h (evs ρ c.args.toList)
 |_=> .bad
def bV9(e:Nat)(sig:List CT)(l idx:SX)(b j n:Nat)(h:Heap)(es:Option (List SX)):Res:=match es with
 |some es=> .need (bo8 idx (.op .llen [l])) .undef (h.put b (some (.arr e sig (.op .lset [l,idx,.op .row (ai1 l idx 0 j++(es++ai1 l idx (j+n) (sig.length-(j+n))))]))))
 |none=> .bad
def bW0(P:Program)(b:Nat)(idx:SX)(j sz n:Nat)(v:AV)(h:Heap)(x:Option Blk):Res:=match x with
 |some (.arr e sig l)=>bif Nat.beq sig.length sz&&Nat.ble (j+n) sz&&v.nt&&Nat.beq v.cells.length n&&Nat.ble h.wm b&&Nat.blt 0 n&& !(aG2 P e)&& !(Nat.beq e aV8)then bV9 e sig l idx b j n h (X8 ((sig.drop j).take n) v.cells)else .bad
 |_=> .bad
def bW1(P:Program)(t:TypeId)(h:Heap)(a v:Option AV):Res:=match a,v,ae2 P t with
 |some (.optr b idx j sz),some v,some n=>bW0 P b idx j sz n v h (h.get b)
 |_,_,_=> .bad
def cz7(x:Option (Option AV))(d:SX):Option SX:=match x with
 |some none=>some d
 |some (some v)=>(b09 v).map (·.2)
 |none=>none
def cU8(lo hi n:SX):SX:=aJ6 (bif SX.beq lo (.ci 0)then .cb true else .op (.cmp .leq) [.ci 0,lo]) (aJ6 (.op (.cmp .leq) [lo,hi]) (bif SX.beq hi n then .cb true else .op (.cmp .leq) [hi,n]))
def cz8(a b:SX):SX:=match b with
 | .ci 0=>a
 |b=> .op .isub [a,b]
def bW2(s:SX)(h:Heap)(lo hi:Option SX):Res:=match lo,hi with
 |some lo,some hi=> .need (cU8 lo hi (.op .slen [s])) (.ostr (.op .ssub [s,lo,hi])) h
 |_,_=> .bad
def bW3(b:Nat)(off len:SX)(sz:Nat)(h:Heap)(lo hi:Option SX):Res:=match lo,hi with
 |some lo,some hi=> .need (aJ6 (bif SX.beq off (.ci 0)then .cb true else .op (.cmp .leq) [.ci 0,off]) (cU8 lo hi len)) (.osl b (db6 off lo) (cz8 hi lo) sz) h
 |_,_=> .bad
def bW4(b:Nat)(len:SX)(sz:Nat)(h:Heap)(lo hi:Option SX):Res:=match lo,hi with
 |some lo,some hi=>bif SX.beq lo (.ci 0)then .need (cU8 (.ci 0) hi len) (.ous b hi sz) h else .need (cU8 lo hi len) (.osl b lo (cz8 hi lo) sz) h
 |_,_=> .bad
def bA6(P:Program)(t:TypeId)(h:Heap)(x:Option AV)(lo hi mx:Option (Option AV)):Res:=match x,mx with
 |some x,some none=>(match P.underlying t with
  |some .string=>(match bo5 x with
   |some s=>bW2 s h (cz7 lo (.ci 0)) (cz7 hi (.op .slen [s]))
   |none=> .bad)
  |some (.slice elem)=>(match ae2 P elem,x with
   |some s,.osl b off len sz=>bif Nat.beq s sz then bW3 b off len sz h (cz7 lo (.ci 0)) (cz7 hi len)else .bad
   |some s,.ous b len sz=>bif Nat.beq s sz then bW4 b len sz h (cz7 lo (.ci 0)) (cz7 hi len)else .bad
   |_,_=> .bad)
  |_=> .bad)
 |_,_=> .bad
def aJ9(E:Env)(ρ:Operand→Option AV)(o:Oper)(h:Heap):Res:=
 match o.op with
 | .binOp op t x y _=>cl8 E.P op t x y h (ρ x) (ρ y)
 | .unOp op _ x=>yUn op h (ρ x)
 | .convert s d x=>cm3 E.P s d h (ρ x)
 | .pick c a b=>cl9 h (ρ c) (ρ a) (ρ b)
 | .load t a=>cm0 E.P t h (ρ a)
 | .indexAddr t x i=>al7 E.P t h (ρ x) (ρ i)
 | .fieldAddr s x f=>al8 E.P s f h (ρ x)
 | .index t x i=>bA4 E.P t h (ρ x) (ρ i)
 | .store t a x=>bW1 E.P t h (ρ a) (ρ x)
 | .slice t x lo hi mx=>bA6 E.P t h (ρ x) (evo ρ lo) (evo ρ hi) (evo ρ mx)
 | .lookup t m k ok=>b13 E.P t h (ρ m) (ρ k) ok
 | .mapUpdate t m k x=>bA5 E.P t h (ρ m) (ρ k) (ρ x)
 | .insert t m k x=>bA5 E.P t h (ρ m) (ρ k) (ρ x)
 | .mapEntry t m k=>bp1 E.P t h (ρ m) (ρ k)
 | .entryStore _ m s x=>bV8 h (ρ m) (ρ s) (ρ x)
 | .call c=>cm4 E.P ρ c h
 |_=> .bad
def cX9(r:Res)(s:Res):Res:=match r with
 | .bad=>s
 |r=>r
def W3(E:Env)(ρ:Operand→Option AV)(o:Oper)(h:Heap):Res:=cX9 (at7 E ρ o h) (aJ9 E ρ o h)
def a78(o:Oper):Bool:=
 match o.op with
 | .move _| .pick .. | .alloc _| .box .. | .build .. | .buildSlice .. | .load .. | .nilCheck _| .binOp .. | .unOp .. | .makeInterface .. | .makeFunc ..
 | .makeMap .. | .makeSlice .. | .slice .. | .fieldAddr .. | .field .. | .indexAddr .. | .index .. | .lookup .. | .extract .. | .convert .. | .typeAssert .. =>true
 | .call {callee:= .builtin .len,..}| .call {callee:= .builtin .cap,..}| .call {callee:= .builtin .min,..}| .call {callee:= .builtin .max,..}=>true
 |_=>false
def V6(o:Oper):Bool:=
 match o.op with
 | .alloc _| .box .. | .buildSlice .. | .makeMap .. | .makeSlice .. =>true
 |_=>false
def a48(e:Edge):Bool:=match e.ground with
 | .textOnly _| .gcOnly _=>false
 |_=>true
def aK0(acc:List Nat):List Edge→Nat
 | []=>0
 |e::r=>bif a48 e then(2^e.on|||acc.getD e.on 0)|||aK0 acc r else aK0 acc r
def bW5:List Oper→List Nat→Option (List Nat)
 | [],acc=>some acc
 |o::r,acc=>bif o.after.toList.all (fun e=> !a48 e||Nat.blt e.on acc.length)then bW5 r (acc++[aK0 acc o.after.toList])else none
def cz9:Operand→List Nat
 | .tmp t=>[t]
 |_=>[]
def a31(ops:List Oper)(o:Oper):List Nat:=
 o.op.operands.toList.flatMap cz9++(match o.guard with
  |some (j,_)=>match ops[j]? with
   |some g=>g.dst.toList
   |none=>[]
  |none=>[])
structure PO where
 i:Nat
 o:Oper
 m:Nat
 fl:Bool
def aF2:List Oper→List Nat→Nat→List PO
 |o::r,m::ms,i=>⟨i,o,m,a78 o⟩::aF2 r ms (i+1)
 |_,_,_=>[]
def df5(done:Nat):List PO→List PO×List PO×Nat
 | []=>([],[],done)
 |x::r=>bif x.fl&&Nat.beq (x.m&&&done) x.m then
  let (a,b,d):=df5 (done|||2^x.i) r
  (x::a,b,d)
  else
   let (a,b,d):=df5 done r
   (a,x::b,d)
def cY0:Nat→Nat→List PO→List PO
 |0,_,l=>l
 |f+1,done,l=>
  match df5 done l with
  |(a,b,d)=>match b.find? (fun x=> !x.fl)with
   |none=>a++b
   |some c=>a++c::cY0 f (d|||2^c.i) (b.filter fun x=> !(Nat.beq x.i c.i))
def bM4(o:Oper)(t:Nat):Bool:=match o.dst with
 |some d=>Nat.beq d t
 |none=>false
def cG3(ops:List Oper)(l:List PO):Bool:=
 l.all fun x=>((a31 ops x.o).all fun t=>l.all fun y=> !(bM4 y.o t)||x.m.testBit y.i||(!y.fl&&y.m.testBit x.i))&&
  (match x.o.dst with
  |none=>true
  |some d=>l.all fun y=> !(bM4 y.o d)||Nat.beq x.i y.i)
def cG4(l:List PO):Bool:=
 l.all fun x=>x.fl||l.all fun y=>y.fl|| !(Nat.blt y.i x.i)||x.m.testBit y.i
def eager:Nat→List PO→Bool
 |_,[]=>true
 |done,x::r=>Nat.beq (x.m&&&done) x.m&& !(done.testBit x.i)&&(x.fl||r.all (fun y=> !y.fl|| !(Nat.beq (y.m&&&done) y.m)))&&eager (done|||2^x.i) r
def cG5(ops:List Oper)(l:List PO):List PO:=(cY0 (ops.length+1) 0 l).filterMap fun y=>l[y.i]?
def cY1(ops:List Oper):Option (List PO):=
 match bW5 ops []with
 |none=>none
 |some ms=>bif cG3 ops (aF2 ops ms 0)&&cG4 (aF2 ops ms 0)&&eager 0 (cG5 ops (aF2 ops ms 0))&&
  (aF2 ops ms 0).all (fun x=>(cG5 ops (aF2 ops ms 0)).any fun y=>Nat.beq x.i y.i)then some (cG5 ops (aF2 ops ms 0))else none
mutual
def AV.beq:AV→AV→Bool
 | .bool a,.bool b=>a==b
 | .int k a,.int k' b=>decide (k=k')&&bz2 a b
 | .str a,.str b=>cF3 a b
 | .nilp,.nilp| .nils,.nils| .es0,.es0| .nilm,.nilm| .nilf,.nilf| .nili,.nili=>true
 | .ptr a b,.ptr c d=>Nat.beq a c&&Nat.beq b d
 | .glob a,.glob b| .map a,.map b| .opq a,.opq b=>Nat.beq a b
 | .ostr a,.ostr b| .obool a,.obool b=>SX.beq a b
 | .osl a b c d,.osl a' b' c' d'=>Nat.beq a a'&&SX.beq b b'&&SX.beq c c'&&Nat.beq d d'
 | .optr a b c d,.optr a' b' c' d'=>Nat.beq a a'&&SX.beq b b'&&Nat.beq c c'&&Nat.beq d d'
 | .ous a b c,.ous a' b' c'=>Nat.beq a a'&&SX.beq b b'&&Nat.beq c c'
 | .any,.any=>true
 | .atl a,.atl b=>Nat.beq a b
 | .oint k a,.oint k' b=>decide (k=k')&&SX.beq a b
 | .es a b c,.es a' b' c'=>Nat.beq a a'&&Nat.beq b b'&&Nat.beq c c'
 | .sl a b c d,.sl a' b' c' d'=>Nat.beq a a'&&Nat.beq b b'&&Nat.beq c c'&&Nat.beq d d'
 | .us a b c d,.us a' b' c' d'=>Nat.beq a a'&&Nat.beq b b'&&Nat.beq c c'&&Nat.beq d d'
 | .func f a b,.func g c d=>decide (f=g)&&AV.beqs a c&&AV.beqs b d
 | .iface t v,.iface u w=>Nat.beq t u&&AV.beq v w
 | .agg a,.agg b| .tup a,.tup b=>AV.beqs a b
 |_,_=>false
def AV.beqs:List AV→List AV→Bool
 | [],[]=>true
 |a::x,b::y=>AV.beq a b&&AV.beqs x y
 |_,_=>false
end
mutual
def V4(v0:Nat):SX→Bool
 | .va m=>Nat.blt m v0
 | .op _ l=>aa0 v0 l
 | .app _ l=>aa0 v0 l
 |_=>true
def aa0(v0:Nat):List SX→Bool
 | []=>true
 |a::r=>V4 v0 a&&aa0 v0 r
end
mutual
def okA(v0 nb:Nat):AV→Bool
 | .bool _| .int _ _| .str _| .nilp| .glob _| .nils| .es0| .nilm| .nilf| .nili| .opq _| .atl _| .any=>true
 | .ptr b _=>Nat.blt b nb
 | .sl b _ _ _=>Nat.blt b nb
 | .us b _ _ _=>Nat.blt b nb
 | .es b _ _=>Nat.blt b nb
 | .map b=>Nat.blt b nb
 | .yield b=>Nat.blt b nb
 | .func _ x y=>bS7 v0 nb x&&bS7 v0 nb y
 | .iface _ v=>okA v0 nb v
 | .agg l=>bS7 v0 nb l
 | .tup l=>bS7 v0 nb l
 | .oint _ e=>V4 v0 e
 | .ostr e=>V4 v0 e
 | .obool e=>V4 v0 e
 | .osl b x y _=>Nat.blt b nb&&V4 v0 x&&V4 v0 y
 | .optr b x _ _=>Nat.blt b nb&&V4 v0 x
 | .ous b x _=>Nat.blt b nb&&V4 v0 x
def bS7(v0 nb:Nat):List AV→Bool
 | []=>true
 |a::r=>okA v0 nb a&&bS7 v0 nb r
end
def bp2(v0:Nat)(e:SX):Option Nat:=match e with
 | .va m=>bif Nat.ble v0 m then some (m-v0)else none
 |_=>none
def bp3(v0 n:Nat)(p x:SX):Option (List SX):=match bp2 v0 p with
 |some m=>bif Nat.beq m n then some [x]else none
 |none=>bif SX.beq p x&&V4 v0 x then some []else none
def cA0(v0 n:Nat)(p:SX)(x:Option SX):Option (List SX):=match x with
 |some x=>bp3 v0 n p x
 |none=>none
def db9(v0 n:Nat)(k:IntKind)(p:SX)(x:Option (IntKind×SX)):Option (List SX):=match x with
 |some (k',x)=>if k=k' then bp3 v0 n p x else none
 |none=>none
def bp4(v0 n:Nat)(p q x y:SX):Option (List SX):=match bp3 v0 n p x with
 |some es=>match bp3 v0 (n+es.length) q y with
  |some fs=>some (es++fs)
  |none=>none
 |none=>none
def bc3(v0 nb n b:Nat)(p q:SX)(s:Nat)(x:AV):Option (List SX):=match x with
 | .osl b' x y s'=>bif Nat.beq b b'&&Nat.beq s s'&&Nat.blt b nb then bp4 v0 n p q x y else none
 |_=>none
def bc4(v0 nb n b:Nat)(p:SX)(s:Nat)(x:AV):Option (List SX):=match x with
 | .ous b' x s'=>bif Nat.beq b b'&&Nat.beq s s'&&Nat.blt b nb then bp3 v0 n p x else none
 |_=>none
mutual
def T6(v0 nb n:Nat):AV→AV→Option (List SX)
 | .any,_=>some []
 | .oint k p,x=>db9 v0 n k p (b09 x)
 | .ostr p,x=>cA0 v0 n p (bo5 x)
 | .obool p,x=>cA0 v0 n p (bo6 x)
 | .agg ps,.agg xs=>aq8 v0 nb n ps xs
 | .osl b p q s,x=>bc3 v0 nb n b p q s x
 | .ous b p s,x=>bc4 v0 nb n b p s x
 |p,x=>bif AV.beq p x&&okA v0 nb x then some []else none
def aq8(v0 nb n:Nat):List AV→List AV→Option (List SX)
 | [],[]=>some []
 |p::ps,x::xs=>match T6 v0 nb n p x with
  |some e=>match aq8 v0 nb (n+e.length) ps xs with
   |some es=>some (e++es)
   |none=>none
  |none=>none
 |_,_=>none
end
def aK1(v0 nb:Nat):List Ent→List Ent→Bool
 | [],[]=>true
 |a::x,b::y=>AV.beq a.key b.key&&AV.beq a.val b.val&&Nat.beq a.born b.born&&okA v0 nb b.key&&okA v0 nb b.val&&aK1 v0 nb x y
 |_,_=>false
def bp5(v0 nb n:Nat)(p x:Blk):Option (List SX):=match p,x with
 | .cells e fz ps,.cells e' fz' xs=>bif Nat.beq e e'&&Nat.beq fz fz'&&ps.all AV.oneA then aq8 v0 nb n ps xs else none
 | .arr e sig p,.arr e' sig' x=>bif Nat.beq e e'&&Y3 sig sig' then bp3 v0 n p x else none
 | .map es c,.map es' c'=>bif aK1 v0 nb es es'&&Nat.beq c c' then some []else none
 | .marr d ks vs p,.marr d' ks' vs' x=>bif (!d||d')&&(Y3 ks ks'&&Y3 vs vs')then bp3 v0 n p x else none
 | .marr d _ _ p,.map [] c=>bif !d||Nat.beq c 0 then bp3 v0 n p (.op .row [])else none
 | .bag e sig p,.bag e' sig' x=>bif Nat.beq e e'&&Y3 sig sig' then bp3 v0 n p x else none
 |_,_=>none
def aU4(v0 nb n:Nat)(p x:Option Blk):Option (List SX):=match p with
 |none=>some []
 |some p=>match x with
  |some x=>bp5 v0 nb n p x
  |none=>none
def cm5(v0 nb:Nat)(aP a:Fr):Nat→Nat→Nat→Option (List SX)
 |0,_,_=>some []
 |m+1,t,n=>match T6 v0 nb n (aP.slot t) (a.slot t)with
  |some e=>match cm5 v0 nb aP a m (t+1) (n+e.length)with
   |some es=>some (e++es)
   |none=>none
  |none=>none
def cm6(v0 nb:Nat)(hP h:Heap):Nat→Nat→Nat→Option (List SX)
 |0,_,_=>some []
 |m+1,b,n=>match aU4 v0 nb n (hP.get b) (h.get b)with
  |some e=>match cm6 v0 nb hP h m (b+1) (n+e.length)with
   |some es=>some (e++es)
   |none=>none
  |none=>none
def ad4(a:Fr):Bool:=a.ds.isEmpty&&a.ro.isNone
def aa1(v0:Nat)(aP:Fr)(hP:Heap)(a:Fr)(h:Heap):Option (List SX):=
 bif ad4 aP&&ad4 a&&Nat.beq aP.nt a.nt&&Nat.ble hP.next h.next&&Nat.beq hP.wm h.wm then
  (match cm5 v0 hP.next aP a aP.nt 0 0 with
  |some es=>match cm6 v0 hP.next hP h hP.next 0 es.length with
   |some fs=>some (es++fs)
   |none=>none
  |none=>none)
 else none
def X9(a:Fr):List (Nat×AV)→Fr
 | []=>a
 |(t,v)::r=>X9 (a.put (some t) v) r
def layDead(a:Fr):List Nat→Fr
 | []=>a
 |t::r=>layDead (a.put (some t) .any) r
def cY2(n:Nat)(t:TH)(_ wm:Nat):Heap:=⟨t,n,wm⟩
def Heap.upto(h:Heap)(n:Nat):Heap:=Heap.rec (cY2 n) h
def a32(h:Heap):List (Nat×Option Blk)→Heap
 | []=>h
 |(b,x)::r=>a32 (h.put b x) r
def bA7(a:Fr)(b:Nat):Nat→Bool
 |0=>false
 |t+1=>(match a.slot t with
  | .ptr b' _=>Nat.beq b b'
  | .map b'=>Nat.beq b b'
  |_=>false)||bA7 a b t
def cY3(h:Heap)(b:Nat):Bool:=match h.get b with
 |some (.arr _ _ _)=>true
 |_=>false
def cY4(b:Nat):AV→Bool
 | .map b'=>Nat.beq b b'
 |_=>false
def cY5(b:Nat)(x:Option Blk):Bool:=match x with
 |some (.cells _ _ cs)=>cs.any (cY4 b)
 |_=>false
def bA8(b:Nat)(h:Heap):AV→Bool
 | .ptr c _=>cY5 b (h.get c)
 |_=>false
def bA9(a:Fr)(h:Heap)(b:Nat):Nat→Bool
 |0=>false
 |t+1=>(match a.slot t with
  | .func _ _ l=>l.any (bA8 b h)
  | .ptr c o=>bA8 b h (.ptr c o)
  |_=>false)||bA9 a h b t
def bB0(a:Fr)(h:Heap)(n0:Nat)(next:Nat)(l:List (Nat×Option Blk)):Bool:=l.all fun p=>Nat.blt p.1 next&&(Nat.ble n0 p.1||bA7 a p.1 a.nt||cY3 h p.1||bA9 a h p.1 a.nt)
def W8(v0:Nat)(q:Nat→SX)(e:SX):SX:=match bp2 v0 e with
 |some m=>q m
 |none=>e
mutual
def aK2(v0:Nat)(q:Nat→SX):AV→AV
 | .oint k e=> .oint k (W8 v0 q e)
 | .ostr e=> .ostr (W8 v0 q e)
 | .obool e=> .obool (W8 v0 q e)
 | .agg l=> .agg (aW5 v0 q l)
 | .osl b x y s=> .osl b (W8 v0 q x) (W8 v0 q y) s
 | .ous b x s=> .ous b (W8 v0 q x) s
 |x=>x
def aW5(v0:Nat)(q:Nat→SX):List AV→List AV
 | []=>[]
 |a::r=>aK2 v0 q a::aW5 v0 q r
end
def bp6(v0:Nat)(q:Nat→SX)(x:Option Blk):Option Blk:=match x with
 |some (.cells e fz cs)=>some (.cells e fz (aW5 v0 q cs))
 |some (.arr e sig l)=>some (.arr e sig (W8 v0 q l))
 |some (.marr d ks vs l)=>some (.marr d ks vs (W8 v0 q l))
 |some (.bag e sig l)=>some (.bag e sig (W8 v0 q l))
 |x=>x
def okB(v0 nb:Nat):Option Blk→Bool
 |none=>true
 |some (.cells _ _ cs)=>bS7 v0 nb cs
 |some (.arr _ _ l)=>V4 v0 l
 |some (.marr _ _ _ l)=>V4 v0 l
 |some (.bag _ _ l)=>V4 v0 l
 |some (.map es _)=>aK1 v0 nb es es
 |_=>false
def cG6(v0 nb:Nat)(a:Fr):Nat→Bool
 |0=>true
 |t+1=>okA v0 nb (a.slot t)&&cG6 v0 nb a t
def dc0(v0 nb:Nat)(h:Heap):Nat→Bool
 |0=>true
 |t+1=>okB v0 nb (h.get t)&&dc0 v0 nb h t
mutual
def noB(b:Nat):AV→Bool
 | .ptr c _=> !(Nat.beq c b)
 | .sl c _ _ _=> !(Nat.beq c b)
 | .us c _ _ _=> !(Nat.beq c b)
 | .es c _ _=> !(Nat.beq c b)
 | .map c=> !(Nat.beq c b)
 | .yield c=> !(Nat.beq c b)
 | .func _ x y=>bp7 b x&&bp7 b y
 | .iface _ v=>noB b v
 | .agg l=>bp7 b l
 | .tup l=>bp7 b l
 | .osl c _ _ _=> !(Nat.beq c b)
 | .optr c _ _ _=> !(Nat.beq c b)
 | .ous c _ _=> !(Nat.beq c b)
 |_=>true
def bp7(b:Nat):List AV→Bool
 | []=>true
 |a::r=>noB b a&&bp7 b r
end
def bW6(b:Nat):Option Blk→Bool
 |none=>true
 |some (.cells _ _ cs)=>bp7 b cs
 |some (.arr _ _ _)=>true
 |some (.map es _)=>es.all fun e=>noB b e.key&&noB b e.val
 |some (.marr _ _ _ _)=>true
 |some (.bag _ _ _)=>true
 |some (.mrg it _ _ _ _)=> !(Nat.beq it b)
 |some (.mit m)=> !(Nat.beq m b)
 |some (.vec cs)=>bp7 b cs
 |_=>false
def bW7(b t:Nat)(a:Fr):Nat→Bool
 |0=>a.ds.isEmpty
 |s+1=>(Nat.beq s t||noB b (a.slot s))&&bW7 b t a s
def cA1(b:Nat)(h:Heap):Nat→Bool
 |0=>true
 |s+1=>bW6 b (h.get s)&&cA1 b h s
def aq9(o:OwnP)(a:Fr)(h:Heap)(l:SX):Fr×Heap:=(a.put (some o.slot) (.ous o.blk (.op .llen [l]) o.sig.length),h.put o.blk (some (.arr o.elem o.sig l)))
def cm7(len l:SX):Bool:=SX.beq len (.op .llen [l])||(match len,l with
 | .ci 0,.op .row []=>true
 |_,_=>false)
def bW8(o:OwnP)(a:Fr)(h:Heap):Option (Fr×Heap):=
 match a.slot o.slot with
 | .ous r len sz=>bif Nat.beq r o.blk then(match h.get r with
     |some (.arr e sig l)=>bif Nat.beq e o.elem&&Y3 sig o.sig&&Nat.beq sz sig.length then some (a,h)else none
     |_=>none)
   else bif Nat.blt o.slot a.nt&&Nat.blt o.blk h.next&&Nat.blt o.blk 65536&&(h.get o.blk).isNone&&bW7 o.blk o.slot a a.nt&&cA1 o.blk h h.next&&Nat.ble h.wm r then(match h.get r with
    |some (.arr e sig l)=>bif Nat.beq e o.elem&&Y3 sig o.sig&&Nat.beq sz sig.length&&cm7 len l then some (aq9 o a (h.put r none) l)else none
    |_=>none)else none
 | .nils=>bif Nat.blt o.slot a.nt&&Nat.blt o.blk h.next&&Nat.blt o.blk 65536&&(h.get o.blk).isNone&&bW7 o.blk o.slot a a.nt&&cA1 o.blk h h.next then some (aq9 o a h (.op .row []))else none
 | .us r 0 n sz=>bif Nat.blt o.slot a.nt&&Nat.blt o.blk h.next&&Nat.blt o.blk 65536&&(h.get o.blk).isNone&&bW7 o.blk o.slot a a.nt&&cA1 o.blk h h.next&&Nat.ble h.wm r&&Nat.blt 0 sz then(match h.get r with
     |some (.cells e 0 cs)=>bif Nat.beq e o.elem&&Nat.beq sz o.sig.length&&Nat.beq cs.length (n*sz)then(match aq7 o.sig sz n cs with
      |some rs=>some (aq9 o a (h.put r none) (.op .row rs))
      |none=>none)else none
     |_=>none)else none
 | .sl r p n c=>bif Nat.blt o.slot a.nt&&Nat.blt o.blk h.next&&Nat.blt o.blk 65536&&(h.get o.blk).isNone&&bW7 o.blk o.slot a a.nt&&cA1 o.blk h h.next&&Nat.ble h.wm r then(match h.get r with
     |some (.cells e fz cs)=>bif Nat.beq e o.elem&&Nat.ble fz p&&Nat.ble (p+c*o.sig.length) cs.length&&Nat.ble n c then(match aq7 o.sig o.sig.length n ((cs.drop p).take (n*o.sig.length))with
      |some rs=>some (aq9 o a (h.put r none) (.op .row rs))
      |none=>none)else none
     |_=>none)else none
 |_=>none
def ao9(o:OwnP)(c i e fz:Nat)(cs:List AV)(h:Heap)(l:SX):Heap:=(h.put c (some (.cells e fz (cs.set i (.ous o.blk (.op .llen [l]) o.sig.length))))).put o.blk (some (.arr o.elem o.sig l))
def cm8(b c:Nat)(cs:List AV)(h:Heap):Nat→Bool
 |0=>bp7 b cs
 |s+1=>(Nat.beq s c||bW6 b (h.get s))&&cm8 b c cs h s
def bW9(o:OwnP)(c i e fz:Nat)(cs:List AV)(a:Fr)(h:Heap)(x:Option AV):Option (Fr×Heap):=match x with
 |some (.ous r len sz)=>bif Nat.beq r o.blk then(match h.get r with
     |some (.arr e sig l)=>bif Nat.beq e o.elem&&Y3 sig o.sig&&Nat.beq sz sig.length then some (a,h)else none
     |_=>none)
  else bif Nat.ble h.wm r&& !(Nat.beq r c)then(match h.get r with
   |some (.arr e' sig l)=>bif Nat.beq e' o.elem&&Y3 sig o.sig&&Nat.beq sz sig.length&&cm7 len l then some (a,ao9 o c i e fz cs (h.put r none) l)else none
   |_=>none)else none
 |some .nils=>some (a,ao9 o c i e fz cs h (.op .row []))
 |some (.us r 0 n sz)=>bif Nat.ble h.wm r&&Nat.blt 0 sz&& !(Nat.beq r c)then(match h.get r with
     |some (.cells e' 0 ds)=>bif Nat.beq e' o.elem&&Nat.beq sz o.sig.length&&Nat.beq ds.length (n*sz)then(match aq7 o.sig sz n ds with
      |some rs=>some (a,ao9 o c i e fz cs (h.put r none) (.op .row rs))
      |none=>none)else none
     |_=>none)else none
 |_=>none
def cG7(b:Nat)(x:Option AV):Bool:=match x with
 |some (.ous r _ _)=>Nat.beq r b
 |_=>false
def cG8(c:Nat)(x:AV):Bool:=match x with
 | .ptr b _=>Nat.beq b c
 |_=>false
def cG9(o:OwnP)(c i:Nat)(a:Fr)(h:Heap):Option (Fr×Heap):=match h.get c with
 |some (.cells e fz cs)=>bif cG8 c (a.slot o.slot)&&Nat.blt o.slot a.nt&&Nat.blt i cs.length&&(cG7 o.blk cs[i]? ||(Nat.blt o.blk h.next&&Nat.blt o.blk 65536&&(h.get o.blk).isNone&& !(Nat.beq c o.blk)&&bW7 o.blk a.nt a a.nt&&cm8 o.blk c (cs.set i .nils) h h.next))then bW9 o c i e fz cs a h cs[i]? else none
 |_=>none
def cH0(o:OwnP)(a:Fr)(h:Heap):Option (Fr×Heap):=match o.cell with
 |none=>bW8 o a h
 |some p=>cG9 o p.1 p.2 a h
def bp8:List OwnP→Fr→Heap→Option (Fr×Heap)
 | [],a,h=>some (a,h)
 |o::r,a,h=>match cH0 o a h with
  |some p=>bp8 r p.1 p.2
  |none=>none
def bM5:Ex→Ex→Bool
 | .norm,.norm=>true
 | .ret,.ret=>true
 | .exit a,.exit b=>Nat.beq a b
 |_,_=>false
structure Pend where
 i:Nat
 o:Oper
 v:AV
 nd:Option SX
inductive Task (R:Type)where
 |code (c:Code) (a:Fr) (h:Heap) (k:Ex→Fr→Heap→R)
 |loop (c:Code) (a:Fr) (h:Heap) (k:Ex→Fr→Heap→R)
 |ops (all rest:List Oper) (a:Fr) (h:Heap) (k:Fr→Heap→R)
 |dops (all:List Oper) (rest:List PO) (pend:List Pend) (a:Fr) (h:Heap) (k:Fr→Heap→R)
 |call (f:FuncId) (args:List AV) (h:Heap) (k:AV→Heap→R)
 |body (f:FuncId) (args:List AV) (h:Heap) (k:AV→Heap→R)
 |dbody (f:FuncId) (args:List AV) (h:Heap) (k:AV→Heap→R)
 |leave (rs:List ResultVar) (a:Fr) (ds:List ADef) (h:Heap) (k:AV→Heap→R)
abbrev PC:=List (SX×Bool)
structure Alg (R:Type)where
 bad:R
 amb:List (AV×Heap)→(AV×Heap→R)→R
 ite:SX→R→R→R
 need:SX→R→R
 loop:LHd→VT→List R→R
 mloop:LHd→SX→VT→List R→R
def a79:Alg Bool:=⟨false,fun l f=>l.all f,fun _ x y=>x&&y,fun _ _=>false,fun _ _ _=>false,fun _ _ _ _=>false⟩
def bX0:Alg (Option (AV×Heap)):=⟨none,fun l f=>match l with
  |x::_=>f x
  | []=>none,fun _ _ _=>none,fun _ _=>none,fun _ _ _=>none,fun _ _ _ _=>none⟩
structure VC where
 pc:PC
 cl:SX
def cA2(p:Prim)(l:List SX):SX×Bool:=match p,l with
 | .cmp .geq,[a,b]=>(.op (.cmp .lss) [a,b],false)
 | .cmp .gtr,[a,b]=>(.op (.cmp .lss) [b,a],true)
 | .cmp .leq,[a,b]=>(.op (.cmp .lss) [b,a],false)
 | .cmp .neq,[a,b]=>(.op (.cmp .eql) [a,b],false)
 | .scmp .geq,[a,b]=>(.op (.scmp .lss) [a,b],false)
 | .scmp .gtr,[a,b]=>(.op (.scmp .lss) [b,a],true)
 | .scmp .leq,[a,b]=>(.op (.scmp .lss) [b,a],false)
 | .scmp .neq,[a,b]=>(.op (.scmp .eql) [a,b],false)
 |p,l=>(.op p l,true)
def b14(e:SX):SX×Bool:=match e with
 | .op p l=>cA2 p l
 |e=>(e,true)
def cm9(e:SX):PC→Option Bool
 | []=>none
 |p::r=>bif SX.beq e p.1 then some p.2 else cm9 e r
def bX1(a b:Bool):Bool:=bif a then b else !b
def cH1(c:SX×Bool)(pc:PC):Option Bool:=match cm9 c.1 pc with
 |some b=>some (bX1 b c.2)
 |none=>none
def df6(a b:Option Bool):Option Bool:=match a with
 |some false=>some false
 |some true=>b
 |none=>match b with
  |some false=>some false
  |_=>none
def orO(a b:Option Bool):Option Bool:=match a with
 |some true=>some true
 |some false=>b
 |none=>match b with
  |some true=>some true
  |_=>none
def dn9(a:Option Bool):Option Bool:=match a with
 |some b=>some (!b)
 |none=>none
def do0(c a b:Option Bool):Option Bool:=match c with
 |some true=>a
 |some false=>b
 |none=>none
def cA3(k:SX→Option Bool)(p:Prim)(l:List SX):Option Bool:=match p,l with
 | .not,[a]=>dn9 (k a)
 | .and,[a,b]=>df6 (k a) (k b)
 | .or,[a,b]=>orO (k a) (k b)
 | .ite,[c,a,b]=>do0 (k c) (k a) (k b)
 |p,l=>db1 (.op p l)
def cA4(k:SX→Option Bool)(e:SX):Option Bool:=match e with
 | .cb b=>some b
 | .op p l=>cA3 k p l
 |_=>none
def bX2(pc:PC)(k:SX→Option Bool)(e:SX):Option Bool:=match cH1 (b14 e) pc with
 |some b=>some b
 |none=>cA4 k e
def aF3(pc:PC)(n:Nat):SX→Option Bool:=Nat.rec (motive:=fun _=>SX→Option Bool) (fun _=>none) (fun _ k=>bX2 pc k) n
def cA5(k:SX→Bool→PC)(p:Prim)(l:List SX)(b:Bool):PC:=match p,l with
 | .not,[a]=>k a (!b)
 | .and,[x,y]=>bif b then k x true++k y true else []
 | .or,[x,y]=>bif b then []else k x false++k y false
 | .ite,[c,x,.cb false]=>bif b then k c true++k x true else []
 | .ite,[c,.cb true,y]=>bif b then []else k c false++k y false
 |_,_=>[]
def bX3(k:SX→Bool→PC)(e:SX)(b:Bool):PC:=match e with
 | .op p l=>cA5 k p l b
 |_=>[]
def cY6(c:SX×Bool)(b:Bool):SX×Bool:=(c.1,bX1 c.2 b)
def bX4(k:SX→Bool→PC)(e:SX)(b:Bool):PC:=cY6 (b14 e) b::bX3 k e b
def bc5(n:Nat):SX→Bool→PC:=Nat.rec (motive:=fun _=>SX→Bool→PC) (fun _ _=>[]) (fun _ k=>bX4 k) n
abbrev RPT:=PC→VT
def do1(pc:PC)(k:SX→SX)(p:Prim)(l:List SX):SX:=match p,l with
 | .ite,[c,a,b]=>(match aF3 pc 8 c with
   |some true=>k a
   |some false=>k b
   |none=> .op .ite [c,a,b])
 | .and,[a,b]=>(match aF3 pc 8 a with
   |some true=>k b
   |_=>(match aF3 pc 8 b with
    |some true=>k a
    |_=> .op .and [a,b]))
 | .or,[a,b]=>(match aF3 pc 8 a with
   |some false=>k b
   |_=>(match aF3 pc 8 b with
    |some false=>k a
    |_=> .op .or [a,b]))
 | .not,[a]=> .op .not [k a]
 |p,l=> .op p l
def df7(pc:PC)(k:SX→SX)(e:SX):SX:=match e with
 | .op p l=>do1 pc k p l
 |e=>e
def red(pc:PC)(n:Nat):SX→SX:=Nat.rec (motive:=fun _=>SX→SX) (fun e=>e) (fun _ k=>df7 pc k) n
def cY7(pc:PC)(k:SX→SX)(p:Prim)(l:List SX):SX:=match p,l with
 | .ite,[c,a,b]=>(match aF3 pc 8 c with
   |some true=>k a
   |some false=>k b
   |none=> .op .ite [c,a,b])
 |p,l=> .op p l
def cH2(pc:PC)(k:SX→SX)(e:SX):SX:=match e with
 | .op p l=>cY7 pc k p l
 |e=>e
def dc1(pc:PC)(n:Nat):SX→SX:=Nat.rec (motive:=fun _=>SX→SX) (fun e=>e) (fun _ k=>cH2 pc k) n
def cH3(e:SX)(x y:RPT)(pc:PC)(b:Option Bool):VT:=match b with
 |some true=>x pc
 |some false=>y pc
 |none=> .ite (red pc 16 e) (x (bc5 8 e true++pc)) (y (bc5 8 e false++pc))
def bX5(e:SX)(x:RPT)(pc:PC)(b:Option Bool):VT:=match b with
 |some true=>x pc
 |_=> .need (red pc 16 e) (x (bc5 8 e true++pc))
def cH4(l:List (AV×Heap))(f:AV×Heap→RPT)(pc:PC):VT:=match l with
 | [x]=>f x pc
 | [x,y]=> .both (f x pc) (f y pc)
 |_=> .bad
def b15(pc:PC):List RPT→List VT
 | []=>[]
 |k::r=>k pc::b15 pc r
def ao0:Alg RPT:=⟨fun _=> .bad,fun l f pc=>cH4 l f pc,fun e x y pc=>cH3 e x y pc (aF3 pc 8 e),fun e x pc=>bX5 e x pc (aF3 pc 8 e),fun hd body ks pc=> .loop hd body (b15 pc ks),fun hd l body ks pc=> .mloop hd l body (b15 pc ks)⟩
def S8(all:List Oper)(a:Fr)(o:Oper):Option Bool:=
 match o.guard with
 |none=>some true
 |some (j,want)=>match(all[j]?).bind (·.dst)with
  |none=>some false
  |some d=>bif Nat.blt d a.nt then match a.slot d with
   | .bool b=>some (b==want)
   | .obool e=>match aJ3 e a.pc with
     |some b=>some (b==want)
     |none=>none
   | .opq _=>none
   | .any=>none
   |_=>some false
   else some false
def bc6(all:List Oper)(a:Fr)(o:Oper):Option SX:=
 match o.guard with
 |none=>none
 |some (j,_)=>match(all[j]?).bind (·.dst)with
  |none=>none
  |some d=>match a.slot d with
   | .obool e=>some e
   |_=>none
def df8(P:Program)(a:Fr)(h:Heap):ResultVar→Option AV
 | .tmp t=>some (a.slot t)
 | .cell x t=>bT1 P t (a.slot x) h
def aF4(P:Program)(a:Fr)(h:Heap):List ResultVar→Option (List AV)
 | []=>some []
 |r::l=>match df8 P a h r,aF4 P a h l with
  |some v,some vs=>some (v::vs)
  |_,_=>none
def cH5:List AV→AV
 | [v]=>v
 |vs=> .tup vs
def aa2:List AV→Nat→TF→TF
 | [],_,t=>t
 |v::r,i,t=>aa2 r (i+1) (t.set i v)
def do2(nd:Option SX)(e:SX):Bool:=match nd with
 |some x=>SX.beq x e
 |none=>false
def bB1(r:Res)(nd:Option SX)(v:AV):Bool:=match r with
 | .val v' _=>AV.beq v' v
 | .need e v' _=>do2 nd e&&AV.beq v' v
 |_=>false
def ad5(E:Env)(a:Fr)(h:Heap):List Pend→Bool
 | []=>true
 |p::r=>(V6 p.o||bB1 (W3 E a.ev p.o h) p.nd p.v)&&ad5 E a h r
def a33:AV→Bool
 | .bool _| .int _ _| .str _| .nilp| .nils| .nilm| .nilf| .nili| .oint _ _| .ostr _| .obool _=>true
 |_=>false
inductive Out where
 |plain (v:AV)
 |row (elem:Nat) (len sz:Nat) (cs:List AV)
 deriving Inhabited
def bX6(wm:Nat)(h:Heap)(v:AV):Option Out:=
 match v with
 | .us b 0 len sz=>bif Nat.ble wm b then match h.get b with
   |some (.cells e 0 cs)=>bif Nat.beq cs.length (len*sz)&&cs.all a33 then some (.row e len sz cs)else none
   |_=>none
   else none
 |v=>bif a33 v then some (.plain v)else none
def ai3(wm:Nat)(h:Heap):List AV→Option (List Out)
 | []=>some []
 |v::r=>match bX6 wm h v,ai3 wm h r with
  |some o,some os=>some (o::os)
  |_,_=>none
def aK3:List Out→Nat
 | []=>0
 | .plain _::r=>aK3 r
 | .row _ _ _ _::r=>aK3 r+1
def bB2(b:Bool)(l:List Out):Option (Bool×List Out):=bif Nat.ble (aK3 l) 1 then some (b,l)else none
def bp9(wm:Nat)(h:Heap)(v:AV):Option (Bool×List Out):=
 match v with
 | .tup vs=>(ai3 wm h vs).bind (bB2 true)
 |v=>(ai3 wm h [v]).bind (bB2 false)
def Out.beq:Out→Out→Bool
 | .plain a,.plain b=>AV.beq a b
 | .row e l s c,.row e' l' s' c'=>Nat.beq e e'&&Nat.beq l l'&&Nat.beq s s'&&AV.beqs c c'
 |_,_=>false
def b16:List Out→List Out→Bool
 | [],[]=>true
 |a::x,b::y=>Out.beq a b&&b16 x y
 |_,_=>false
def cY8(x y:Option (Bool×List Out)):Bool:=
 match x,y with
 |some (a,l),some (b,m)=>(a==b)&&b16 l m
 |_,_=>false
def a20:List Out→Heap→List AV×Heap
 | [],h=>([],h)
 | .plain v::r,h=>let (vs,h'):=a20 r h;(v::vs,h')
 | .row e len sz cs::r,h=>let (vs,h'):=a20 r (h.new (.cells e 0 cs));(.us h.next 0 len sz::vs,h')
def bc7(b:Bool)(l:List Out)(h:Heap):AV×Heap:=
 match a20 l h with
 |(vs,h')=>(bif b then .tup vs else vs.headD .undef,h')
def cY9(t:TH)(next _:Nat):Heap:=⟨t,next,next⟩
def Heap.raise(h:Heap):Heap:=Heap.rec cY9 h
abbrev Rec:=(R:Type)→Alg R→Task R→R
section
variable{R:Type}
def do3(rec:Rec)(A:Alg R)(y:Code)(k:Ex→Fr→Heap→R)(e:Ex)(a:Fr)(h:Heap):R:=match e with
 | .norm=>rec R A (.code y a h k)
 |e=>k e a h
def bB3(id:Nat)(k:Ex→Fr→Heap→R)(e:Ex)(a:Fr)(h:Heap):R:=match e with
 | .exit i=>bif Nat.beq i id then k .norm a h else k (.exit i) a h
 |e=>k e a h
def df9(rec:Rec)(A:Alg R)(c:Code)(k:Ex→Fr→Heap→R)(e:Ex)(a:Fr)(h:Heap):R:=match e with
 | .norm=>rec R A (.loop c a h k)
 |e=>k e a h
def bX7(ro:Option Nat)(k:Ex→Fr→Heap→R)(a:Fr)(h:Heap):R:=k .norm (a.back ro) h
def bX8(rec:Rec)(A:Alg R)(x y:Code)(a:Fr)(h:Heap)(k:Ex→Fr→Heap→R)(e:SX)(p:Option Bool):R:=match p with
 |some b=>rec R A (.code (bif b then x else y) a h k)
 |none=>A.ite e (rec R A (.code x (a.cond (e,true)) h k)) (rec R A (.code y (a.cond (e,false)) h k))
def cH6(rec:Rec)(A:Alg R)(x y:Code)(a:Fr)(h:Heap)(k:Ex→Fr→Heap→R)(v:Option AV):R:=match v with
 |some (.bool b)=>rec R A (.code (bif b then x else y) a h k)
 |some (.obool e)=>bX8 rec A x y a h k e (aJ3 e a.pc)
 |_=>A.bad
def ag1:Code→Nat
 | .region id _ _=>id
 | .seq x _=>ag1 x
 | .block _ b=>ag1 b
 | .loop b=>ag1 b
 | .scope b=>ag1 b
 |_=>0
structure LSt where
 a:Fr
 h:Heap
def a49(id:Nat)(args:List SX)(j:Nat):SX:= .op .lget [.app id args,.ci 1,.ci j]
def R4(sp:LSpec)(a:Fr)(h:Heap):LSt:=⟨(X9 (layDead a sp.dead) sp.head.slots).clear,a32 h sp.head.blks⟩
def T9(sp:LSpec)(a:Fr)(h:Heap):LSt:=⟨layDead (layDead a sp.dead) (sp.head.slots.map (·.1)),a32 h (sp.head.blks.map fun p=>(p.1,none))⟩
def X1(sp:LSpec)(a:Fr)(h:Heap)(x:StP):LSt:=⟨(X9 (T9 sp a h).a x.slots).clear,(a32 (T9 sp a h).h x.blks).upto x.next⟩
def ah8(sp:LSpec)(q:Nat→SX)(a:Fr)(h:Heap)(x:StP):LSt:=
 ⟨X9 (T9 sp a h).a (x.slots.map fun p=>(p.1,aK2 sp.v0 q p.2)),(a32 (T9 sp a h).h (x.blks.map fun p=>(p.1,bp6 sp.v0 q p.2))).upto x.next⟩
def ap0(sp:LSpec)(a:Fr)(h:Heap)(e:Ex)(a':Fr)(h':Heap):List (Ex×StP)→Nat→VT
 | [],_=> .bad
 |x::r,i=>bif bM5 x.1 e then(match aa1 sp.v0 (X1 sp a h x.2).a (X1 sp a h x.2).h a' h' with
  |some es=> .ret (i+1) es
  |none=>ap0 sp a h e a' h' r (i+1))else ap0 sp a h e a' h' r (i+1)
def aT7(sp:LSpec)(a:Fr)(h:Heap):Fr×Heap:=match bp8 sp.owns (layDead a sp.dead) h with
 |some p=>p
 |none=>(layDead a sp.dead,h)
def cH7(p:Prim)(l:List SX):Bool:=match p,l with
 | .cmp .leq,[.ci 0,.op .llen [_]]=>true
 | .cmp .leq,[.ci 0,.op .slen [_]]=>true
 | .cmp .leq,[.ci a,.ci b]=> !(aJ1 b a)
 | .cmp .lss,[.ci a,.ci b]=>aJ1 a b
 |_,_=>false
def bc8(e:SX):Bool:=match e with
 | .cb b=>b
 | .op p l=>cH7 p l
 |_=>false
def bc9(e:SX):Bool:=match e with
 | .op .and [a,b]=>bc8 a&&bc8 b
 |e=>bc8 e
def bM6(e:SX):Bool:=match e with
 | .op .and [a,b]=>bc9 a&&bc9 b
 |e=>bc9 e
def dc2(p:Prim)(l:List SX):Bool:=match p,l with
 | .cmp .leq,[.ci a,.ci b]=> !(aJ1 b a)
 | .cmp .lss,[.ci a,.ci b]=>aJ1 a b
 | .bok,[.op .row []]=>true
 |_,_=>false
def cZ0(p:Prim)(l:List SX):SX:=bif dc2 p l then .cb true else .op p l
def bd0:Nat→SX→SX
 |0,e=>e
 |n+1,e=>match e with
  | .op .and [a,b]=>aJ6 (bd0 n a) (bd0 n b)
  | .op p l=>cZ0 p l
  |e=>e
def cZ1(e:SX):Bool:=match e with
 | .op .and [.op .and [.op .and [_,_],_],_]=>true
 |_=>false
def cZ2(A:Alg R)(e:SX)(x:R):R:=match e with
 | .cb true=>x
 |e=>A.need e x
def needA(A:Alg R)(e:SX)(x:R):R:=bif bM6 e then x else bif cZ1 e then cZ2 A (bd0 30 e) x else A.need e x
def ah5(o:OwnP)(a:Fr)(h:Heap):SX×Fr:=match o.cell,a.slot o.slot with
 |none,.ous r len s=>(match h.get r with
  |some (.arr _ _ l)=>bif Nat.beq r o.blk||SX.beq len (.op .llen [l])then(.cb true,a)else(.op (.cmp .eql) [len,.op .llen [l]],a.put (some o.slot) (.ous r (.op .llen [l]) s))
  |_=>(.cb true,a))
 |_,_=>(.cb true,a)
def V5:List OwnP→Fr→Heap→SX×Fr
 | [],a,_=>(.cb true,a)
 |o::r,a,h=>match ah5 o a h with
  |(e,a')=>match V5 r a' h with
   |(e',b)=>(aJ6 e e',b)
def cn0(e:SX)(x:VT):VT:=bif bM6 e then x else .need e x
def az4(sp:LSpec)(a:Fr)(h:Heap)(p:Fr×Heap):VT:=match aa1 sp.v0 (R4 sp a h).a (R4 sp a h).h p.1 p.2 with
 |some es=> .ret 0 es
 |none=> .bad
def bq0(sp:LSpec)(a:Fr)(h:Heap)(e:Ex)(p:Fr×Heap):VT:=ap0 sp a h e p.1 p.2 sp.exits 0
def bd1(sp:LSpec)(a:Fr)(h:Heap)(e:Ex)(a':Fr)(h':Heap):VT:=match e with
 | .norm=>cn0 (V5 sp.owns a' h').1 (az4 sp a h (aT7 sp (V5 sp.owns a' h').2 h'))
 |e=>cn0 (V5 sp.owns a' h').1 (bq0 sp a h e (aT7 sp (V5 sp.owns a' h').2 h'))
def ai4(sp:LSpec)(a:Fr)(h:Heap)(e:Ex)(a':Fr)(h':Heap)(_:PC):VT:=bd1 sp a h e a' h'
def bX9(sp:LSpec)(a:Fr)(h:Heap)(n0:Nat):Bool:=sp.owns.all (fun o=>Nat.ble n0 o.blk)&&bB0 a h n0 h.next sp.head.blks&&sp.exits.all (fun x=>Nat.ble h.next x.2.next&&bB0 a h n0 x.2.next x.2.blks)&&aa0 sp.v0 sp.fv&&ad4 a&&cG6 sp.v0 h.next (T9 sp a h).a a.nt&&dc0 sp.v0 h.next (T9 sp a h).h h.next
def b17(rec:Rec)(A:Alg R)(c:Code)(n0:Nat)(k:Ex→Fr→Heap→R)(sp:LSpec)(a:Fr)(h:Heap):R:=
 bif bX9 sp a h n0 then
  (match aa1 sp.v0 (R4 sp a h).a (R4 sp a h).h a h with
  |some s0=>A.loop ⟨sp.id,s0,sp.v0,sp.fv⟩ (rec RPT ao0 (.code c (R4 sp a h).a (R4 sp a h).h (ai4 sp a h)) [])
   (sp.exits.map fun x=>k x.1 (ah8 sp (a49 sp.id (s0++sp.fv)) a h x.2).a (ah8 sp (a49 sp.id (s0++sp.fv)) a h x.2).h)
  |none=>A.bad)
 else A.bad
structure MC where
 ops1:Array Oper
 o1:Oper
 o2:Oper
 tok:Operand
 xid:Nat
 bid:Nat
 ops2:Array Oper
 o3:Oper
 r3:List Oper
 rest:Code
def bM7(c:Code):Option MC:=match c with
 | .seq (.region _ ops1 false) (.seq (.cond tok .skip (.exit x)) (.block b (.seq (.region _ ops2 false) rest)))=>(match ops1.toList,ops2.toList with
   | [o1,o2],o3::r3=>some ⟨ops1,o1,o2,tok,x,b,ops2,o3,r3,rest⟩
   |_,_=>none)
 |_=>none
structure MO where
 it:Nat
 d1:Nat
 d2:Nat
 d3:Nat
def aD6(o:Oper):Bool:=match o.guard with
 |none=>true
 |some _=>false
def cZ3(it d1 d2 d3:Nat)(nt:Nat)(o1 o2 o3:Oper):Option MO:=bif aD6 o1&&aD6 o2&&aD6 o3&&Nat.blt d1 nt&&Nat.blt d2 nt&& !(Nat.beq d1 d2)then some ⟨it,d1,d2,d3⟩else none
def dc3(m:MC)(a:Fr):Option MO:=match m.o1.op,m.o1.dst,m.o2.op,m.o2.dst,m.tok,m.o3.op,m.o3.dst with
 | .next (.tmp t) false,some d1,.extract (.tmp d1') 0,some d2,.tmp d2',.entry (.tmp t'),some d3=>bif Nat.beq d1 d1'&&Nat.beq d2 d2'&&Nat.beq t t'&& !(Nat.beq t d1)&& !(Nat.beq t d2)then(match a.slot t with
   | .ptr it 0=>cZ3 it d1 d2 d3 a.nt m.o1 m.o2 m.o3
   |_=>none)else none
 |_,_,_,_,_,_,_=>none
def dq7(b:Nat)(p:Nat×Option Blk):Nat×Option Blk:=bif Nat.beq p.1 b then(match p.2 with
 |some (.arr e sig l)=>(p.1,some (.bag e sig l))
 |_=>p)else p
def bY0(sp:LSpec)(it m ob:Nat)(lm:SX):LSpec:=⟨sp.id,sp.owns,sp.v0,sp.fv++[lm],sp.dead,⟨sp.head.slots,(it,none)::(m,none)::sp.head.blks,sp.head.next⟩,sp.exits.map fun x=>(x.1,⟨x.2.slots,x.2.blks.map (dq7 ob),x.2.next⟩),true⟩
def bY1(ks vs:List CT)(l idx:SX):AV:= .tup [bn5 (bM2 (ks++vs) l idx 0 ks.length),bn5 (bM2 (ks++vs) l idx ks.length vs.length)]
def cZ4(rec:Rec)(sp:LSpec)(mc:MC)(a:Fr)(h:Heap)(a3:Fr):VT:=rec RPT ao0 (.ops mc.ops2.toList mc.r3 a3 (R4 sp a h).h (bX7 none (do3 rec ao0 mc.rest (bB3 mc.bid (ai4 sp a h))))) []
def swB(v0 nb ob b:Nat)(x:Option Blk):Bool:=bif Nat.beq b ob then(match x with
 |some (.arr _ _ (.va n))=>Nat.beq n (v0+1)
 |_=>false)else okB (v0+1) nb x
def cU9(v0 nb ob:Nat)(h:Heap):Nat→Bool
 |0=>true
 |t+1=>swB v0 nb ob t (h.get t)&&cU9 v0 nb ob h t
def cZ5(x:Option Blk):Option Blk:=match x with
 |some (.arr e sig l)=>some (.bag e sig l)
 |x=>x
def cZ6(x:Option Blk):Bool:=match x with
 |none=>true
 |some _=>false
def cH8(v0:Nat)(es:List SX):Bool:=match es with
 | [.va n,.va m]=>Nat.beq n v0&&Nat.beq m (v0+1)
 |_=>false
def bY2(h1 h2:Heap):Nat→Bool
 |0=>true
 |t+1=>(cZ6 (h1.get t)|| !(cZ6 (h2.get t)))&&bY2 h1 h2 t
def b18(sp:LSpec)(mo:MO)(a:Fr)(h:Heap):Fr:=((R4 sp a h).a.put (some mo.d1) (.tup [.bool false])).put (some mo.d2) (.bool false)
def dc4(sp:LSpec)(mo:MO)(ob:Nat)(a:Fr)(h:Heap)(x:StP):Bool:=match aa1 sp.v0 (X1 sp a h x).a (X1 sp a h x).h (b18 sp mo a h) ((R4 sp a h).h.put ob (cZ5 ((R4 sp a h).h.get ob)))with
 |some es=>cH8 sp.v0 es
 |none=>false
def bY3(sp:LSpec)(a:Fr)(h:Heap)(n0:Nat)(mo:MO)(m ob:Nat)(lm:SX):Bool:=
 bX9 sp a h n0&&Nat.ble h.wm n0&&Nat.ble h.wm mo.it&&Nat.blt m n0&&Nat.ble n0 ob&&Nat.blt mo.it n0&&cZ6 ((R4 sp a h).h.get mo.it)&&cZ6 ((R4 sp a h).h.get m)&&V4 sp.v0 lm&&
 cG6 (sp.v0+1) h.next (R4 sp a h).a a.nt&&cG6 (sp.v0+1) h.next (b18 sp mo a h) a.nt&&cU9 sp.v0 h.next ob (R4 sp a h).h h.next
def aG8(rec:Rec)(A:Alg R)(n0:Nat)(k:Ex→Fr→Heap→R)(sp:LSpec)(a:Fr)(h:Heap)(mc:MC)(mo:MO)(m ob:Nat)(d:Bool)(ks vs:List CT)(lm:SX)(x:Ex×StP):R:=match x.1 with
 | .exit xid=>bif Nat.beq xid mc.xid&&bY3 sp a h n0 mo m ob lm&&Nat.blt m x.2.next&&dc4 sp mo ob a h x.2 then(match aa1 sp.v0 (R4 sp a h).a (R4 sp a h).h a h with
     |some [s0,s1]=>bif bY2 (ah8 sp (a49 sp.id (s0::s1::sp.fv)) a h x.2).h (R4 sp a h).h x.2.next then A.mloop ⟨sp.id,[s0,s1],sp.v0,sp.fv⟩ lm
      (cZ4 rec sp mc a h ((((R4 sp a h).a.put (some mo.d1) .any).put (some mo.d2) (.bool true)).put (some mo.d3) (bY1 ks vs lm (.va (sp.v0+2)))))
      [k x.1 (ah8 sp (a49 sp.id (s0::s1::sp.fv)) a h x.2).a ((ah8 sp (a49 sp.id (s0::s1::sp.fv)) a h x.2).h.put m (some (.marr d ks vs lm)))]else A.bad
     |_=>A.bad)else A.bad
 |_=>A.bad
def b19(rec:Rec)(A:Alg R)(n0:Nat)(k:Ex→Fr→Heap→R)(sp:LSpec)(a:Fr)(h:Heap)(mc:MC)(mo:MO)(m:Nat)(b:Option Blk)(o:List OwnP):R:=match b,o with
 |some (.mrg it' d ks vs lm),[o]=>bif Nat.beq it' mo.it then(match(bY0 sp mo.it m o.blk lm).exits with
  | [x]=>aG8 rec A n0 k (bY0 sp mo.it m o.blk lm) a h mc mo m o.blk d ks vs lm x
  |_=>A.bad)else A.bad
 |_,_=>A.bad
def b20(rec:Rec)(A:Alg R)(n0:Nat)(k:Ex→Fr→Heap→R)(sp:LSpec)(a:Fr)(h:Heap)(mc:MC)(mo:Option MO):R:=match mo with
 |some mo=>(match h.get mo.it with
  |some (.mit m)=>b19 rec A n0 k sp a h mc mo m (h.get m) sp.owns
  |_=>A.bad)
 |none=>A.bad
def aK4(rec:Rec)(A:Alg R)(n0:Nat)(k:Ex→Fr→Heap→R)(sp:LSpec)(a:Fr)(h:Heap)(mc:Option MC):R:=match mc with
 |some mc=>b20 rec A n0 k sp a h mc (dc3 mc (R4 sp a h).a)
 |none=>A.bad
def bq1(rec:Rec)(A:Alg R)(c:Code)(n0:Nat)(k:Ex→Fr→Heap→R)(sp:LSpec)(p:Fr×Heap):R:=bif sp.mapr then aK4 rec A n0 k sp p.1 p.2 (bM7 c)else b17 rec A c n0 k sp p.1 p.2
def bq2(rec:Rec)(A:Alg R)(c:Code)(a:Fr)(h:Heap)(k:Ex→Fr→Heap→R)(sp:LSpec):R:=
 bif ad4 a then needA A (V5 sp.owns a h).1 (bq1 rec A c h.next k sp (aT7 sp (V5 sp.owns a h).2 (h.upto (Nat.add h.next sp.owns.length))))else A.bad
def cZ7(rec:Rec)(A:Alg R)(c:Code)(a:Fr)(h:Heap)(k:Ex→Fr→Heap→R)(sp:Option LSpec):R:=match sp with
 |some sp=>bq2 rec A c a h k sp
 |none=>rec R A (.code c a h (df9 rec A c k))
def cZ8(rec:Rec)(A:Alg R)(ops:List Oper)(a:Fr)(h:Heap)(k:Ex→Fr→Heap→R)(p:Option (List PO)):R:=match p with
 |some l=>rec R A (.dops ops l [] a h (bX7 a.ro k))
 |none=>A.bad
def bY4(rec:Rec)(A:Alg R)(ops:List Oper)(draw:Bool)(a:Fr)(h:Heap)(k:Ex→Fr→Heap→R):R:=
 bif draw then cZ8 rec A ops a h k (cY1 ops)else rec R A (.ops ops ops a h (bX7 a.ro k))
def cn1(rec:Rec)(A:Alg R)(a:Fr)(k:Ex→Fr→Heap→R)(h:Heap)(pend:Option Code):R:=match pend with
 |none=>k .norm a h
 |some c=>rec R A (.code c a h k)
def cZ9(rec:Rec)(A:Alg R)(a:Fr)(k:Ex→Fr→Heap→R)(h:Heap)(pend:Option Code)(st:LoopState):R:=match st with
 | .busy=>A.bad
 | .ready=>cn1 rec A a k h pend
 | .done=>cn1 rec A a k h pend
 | .exhausted=>cn1 rec A a k h pend
def cA6(rec:Rec)(A:Alg R)(l:Nat)(a:Fr)(k:Ex→Fr→Heap→R)(_:AV)(h:Heap):R:=match h.get l with
 |some (.loop st pend fn tm nt ps assign body d)=>bif Nat.ble h.wm l then cZ9 rec A a k (h.put l (some (.loop .exhausted pend fn tm nt ps assign body d))) pend st else A.bad
 |_=>A.bad
def bY5(rec:Rec)(A:Alg R)(l:Nat)(a:Fr)(h:Heap)(k:Ex→Fr→Heap→R)(r:Res):R:=match r with
 | .enter g args=>rec R A (.call g args h (cA6 rec A l a k))
 |_=>A.bad
def bd2(h:Heap)(ro:Option Nat):Option (Nat×Heap×List ADef):=match ro with
 |none=>some (h.next,h.new (.defd false),[ADef.coll h.next])
 |some l=>match h.get l with
  |some (.loop _ _ _ _ _ _ _ _ d)=>some (d,h,[])
  |_=>none
def bY6(E:Env)(rec:Rec)(A:Alg R)(ps:Array Tmp)(assign body:Code)(a:Fr)(k:Ex→Fr→Heap→R)(x:Option (Nat×Heap×List ADef))(f:Option AV):R:=match x with
 |some (d,h,mark)=>match f with
  |some fv=>bY5 rec A h.next (a.mark mark) (h.new (.loop .ready none a.fn a.tm a.nt ps assign body d)) k
   (b07 E fv [.yield h.next] (h.new (.loop .ready none a.fn a.tm a.nt ps assign body d)))
  |none=>A.bad
 |none=>A.bad
def cA7(E:Env)(rec:Rec)(A:Alg R)(c:Code)(a:Fr)(h:Heap)(k:Ex→Fr→Heap→R):R:=match c with
 | .skip=>k .norm a h
 | .label _=>k .norm a h
 | .ret=>k .ret a h
 | .exit id=>k (.exit id) a h
 | .seq x y=>rec R A (.code x a h (do3 rec A y k))
 | .cond c x y=>cH6 rec A x y a h k (a.ev c)
 | .block id b=>rec R A (.code b a h (bB3 id k))
 | .loop b=>rec R A (.loop b a h k)
 | .scope b=>rec R A (.code b a h k)
 | .region _ ops draw=>bY4 rec A ops.toList draw a h k
 | .rangeFunc f ps assign body=>bY6 E rec A ps assign body a k (bd2 h a.ro) (a.ev f)
 |_=>A.bad
def at8:Ex→Option Code
 | .norm=>none
 | .ret=>some .ret
 | .exit id=>some (.exit id)
def bq3:Option Code→LoopState
 |none=> .ready
 |some _=> .done
def bY7(A:Alg R)(l:Nat)(k:AV→Heap→R)(e:Ex)(a:Fr)(h:Heap):R:=match a.ds with
 | []=>match h.get l with
   |some (.loop _ _ fn tm nt ps as body d)=>k (.bool (at8 e).isNone) (h.put l (some (.loop (bq3 (at8 e)) (at8 e) fn tm nt ps as body d)))
   |_=>A.bad
 |_=>A.bad
def bq4(rec:Rec)(A:Alg R)(l:Nat)(body:Code)(k:AV→Heap→R)(e:Ex)(a:Fr)(h:Heap):R:=match e with
 | .norm=>match h.get l with
   |some (.loop .ready pend fn tm nt ps as b d)=>rec R A (.code body a (h.put l (some (.loop .busy pend fn tm nt ps as b d))) (bY7 A l k))
   |_=>A.bad
 |_=>A.bad
def bd3:List Tmp→List AV→Nat→TF→TF
 |p::ps,v::vs,nt,t=>bd3 ps vs nt (bif Nat.blt p nt then t.set p v else t)
 |_,_,_,t=>t
def bY8(rec:Rec)(A:Alg R)(l:Nat)(args:List AV)(h:Heap)(k:AV→Heap→R)(b:Option Blk):R:=match b with
 |some (.loop _ _ fn tm nt ps assign body _)=>bif Nat.beq args.length ps.size&&Nat.ble h.wm l then
  rec R A (.code assign ⟨bd3 ps.toList args nt tm,nt,[],fn,[],some l⟩ h (bq4 rec A l body k))else A.bad
 |_=>A.bad
def dc5(rec:Rec)(A:Alg R)(h:Heap)(k:AV→Heap→R)(r:Res):R:=match r with
 | .val v h=>k v h
 | .need e v h=>needA A e (k v h)
 | .cho e v l h=>A.ite e (k v h) (A.amb (l.map fun v=>(v,h)) fun x=>k x.1 x.2)
 | .enter f args=>rec R A (.call f args h k)
 | .choice l=>A.amb l fun x=>k x.1 x.2
 | .yield l args=>bY8 rec A l args h k (h.get l)
 | .defer _=>A.bad
 | .bad=>A.bad
def kOp(rec:Rec)(A:Alg R)(all rest:List Oper)(dst:Option Tmp)(a:Fr)(k:Fr→Heap→R)(v:AV)(h:Heap):R:=rec R A (.ops all rest (a.put dst v) h k)
def bY9(rec:Rec)(A:Alg R)(all rest:List Oper)(a:Fr)(h:Heap)(k:Fr→Heap→R)(e:Option SX):R:=match e with
 |some e=>A.ite e (rec R A (.ops all rest (a.cond (e,true)) h k)) (rec R A (.ops all rest (a.cond (e,false)) h k))
 |none=>A.bad
def oGo(rec:Rec)(A:Alg R)(all rest:List Oper)(dst:Option Tmp)(a:Fr)(h:Heap)(k:Fr→Heap→R)(r:Res):R:=match r with
 | .defer d=>match a.ro with
   |none=>rec R A (.ops all rest ((a.mark [d]).put dst .undef) h k)
   |some _=>A.bad
 |r=>dc5 rec A h (kOp rec A all rest dst a k) r
def d00(E:Env)(rec:Rec)(A:Alg R)(all rest:List Oper)(o:Oper)(a:Fr)(h:Heap)(k:Fr→Heap→R)(w:Option Bool):R:=match w with
 |some true=>oGo rec A all rest o.dst a h k (W3 E a.ev o h)
 |some false=>rec R A (.ops all rest (a.put o.dst .undef) h k)
 |none=>bY9 rec A all (o::rest) a h k (bc6 all a o)
def dh0(E:Env)(rec:Rec)(A:Alg R)(all rest:List Oper)(a:Fr)(h:Heap)(k:Fr→Heap→R):R:=match rest with
 | []=>k a h
 |o::rest=>d00 E rec A all rest o a h k (S8 all a o)
def do4(E:Env)(rec:Rec)(A:Alg R)(all:List Oper)(rest:List PO)(pend:List Pend)(dst:Option Tmp)(a:Fr)(k:Fr→Heap→R)(v:AV)(h:Heap):R:=
 bif ad5 E (a.put dst v) h pend then rec R A (.dops all rest pend (a.put dst v) h k)else A.bad
def bZ0(E:Env)(rec:Rec)(A:Alg R)(all:List Oper)(x:PO)(rest:List PO)(pend:List Pend)(a:Fr)(k:Fr→Heap→R)(r:Res):R:=match r with
 | .val v h=>bif !(V6 x.o)||ad5 E (a.put x.o.dst v) h pend then rec R A (.dops all rest (⟨x.i,x.o,v,none⟩::pend) (a.put x.o.dst v) h k)else A.bad
 | .need e v h=>bif !(V6 x.o)then needA A e (rec R A (.dops all rest (⟨x.i,x.o,v,some e⟩::pend) (a.put x.o.dst v) h k))else A.bad
 |_=>A.bad
def bq5(rec:Rec)(A:Alg R)(all:List Oper)(rest:List PO)(pend:List Pend)(a:Fr)(h:Heap)(k:Fr→Heap→R)(e:Option SX):R:=match e with
 |some e=>A.ite e (rec R A (.dops all rest pend (a.cond (e,true)) h k)) (rec R A (.dops all rest pend (a.cond (e,false)) h k))
 |none=>A.bad
def bM8(E:Env)(rec:Rec)(A:Alg R)(all:List Oper)(x:PO)(rest:List PO)(pend:List Pend)(a:Fr)(h:Heap)(k:Fr→Heap→R)(w:Option Bool):R:=match w with
 |some true=>bif x.fl then bZ0 E rec A all x rest pend a k (W3 E a.ev x.o h)
  else dc5 rec A h (do4 E rec A all rest (pend.filter fun p=> !(x.m.testBit p.i)) x.o.dst a k) (W3 E a.ev x.o h)
 |some false=>rec R A (.dops all rest pend (a.put x.o.dst .undef) h k)
 |none=>bq5 rec A all (x::rest) pend a h k (bc6 all a x.o)
def d01(E:Env)(rec:Rec)(A:Alg R)(all:List Oper)(rest:List PO)(pend:List Pend)(a:Fr)(h:Heap)(k:Fr→Heap→R):R:=match rest with
 | []=>k a h
 |x::rest=>bM8 E rec A all x rest pend a h k (S8 all a x.o)
def cH9(v:AV)(h:Heap):Option (AV×Heap):=some (v,h)
def cA8(wm:Nat)(o:Option (Bool×List Out))(v:AV)(h:Heap):Bool:=cY8 (bp9 wm h v) o
def dc6(k:AV→Heap→R)(x:AV×Heap):R:=k x.1 x.2
def cA9(rec:Rec)(A:Alg R)(f:FuncId)(args:List AV)(h:Heap)(k:AV→Heap→R)(x:Option (Bool×List Out)):R:=match x with
 |none=>A.bad
 |some (b,l)=>bif rec Bool a79 (.body f args h.raise (cA8 h.next (some (b,l))))then dc6 k (bc7 b l h)else A.bad
def bZ1(rec:Rec)(A:Alg R)(f:FuncId)(args:List AV)(h:Heap)(k:AV→Heap→R)(x:Option (AV×Heap)):R:=match x with
 |none=>A.bad
 |some (v0,h0)=>cA9 rec A f args h k (bp9 h.next h0 v0)
structure Cap2 where
 b:Nat
 full:List AV
 wide:List AV
 h:Heap
def capH(h:Heap)(b e:Nat)(cs:List AV):Heap:=((h.put b none).raise).new (.cells e 0 cs)
def dc7(args:List AV)(h:Heap):Option Cap2:=match args with
 | .us b 0 len sz:: .int k (.ofNat i)::rest=>match h.get b with
   |some (.cells e 0 cs)=>bif Nat.ble h.wm b&&Nat.beq cs.length (len*sz)&&Nat.blt i len&&Nat.blt 0 sz then
    some ⟨b,.sl b 0 len len:: .int k (.ofNat i)::rest,.us h.next 0 len sz:: .int k (.ofNat i)::rest,capH h b e (cs++rep sz [.any])⟩
    else none
   |_=>none
 |_=>none
def cB0(rec:Rec)(A:Alg R)(f:FuncId)(h:Heap)(k:AV→Heap→R)(c:Cap2)(x:Option (Bool×List Out)):R:=match x with
 |none=>A.bad
 |some (b,l)=>bif rec Bool a79 (.body f c.full h.raise (cA8 h.next (some (b,l))))&&rec Bool a79 (.body f c.wide c.h (cA8 h.next (some (b,l))))then
  dc6 k (bc7 b l (h.put c.b none))else A.bad
def cB1(rec:Rec)(A:Alg R)(f:FuncId)(h:Heap)(k:AV→Heap→R)(c:Cap2)(x:Option (AV×Heap)):R:=match x with
 |none=>A.bad
 |some (v0,h0)=>cB0 rec A f h k c (bp9 h.next h0 v0)
def cI0(rec:Rec)(A:Alg R)(f:FuncId)(args:List AV)(h:Heap)(k:AV→Heap→R)(c:Option Cap2):R:=match c with
 |none=>rec R A (.body f args h k)
 |some c=>cB1 rec A f h k c (rec (Option (AV×Heap)) bX0 (.body f c.full h.raise cH9))
def d02(E:Env)(rec:Rec)(A:Alg R)(f:FuncId)(args:List AV)(h:Heap)(k:AV→Heap→R)(x:Res):R:=match x with
 | .val v h=>k v h
 | .need e v h=>needA A e (k v h)
 |_=>bif E.amb f then bZ1 rec A f args h k (rec (Option (AV×Heap)) bX0 (.body f args h.raise cH9))else
  bif E.caps f then cI0 rec A f args h k (dc7 args h)else rec R A (.body f args h k)
def d03(E:Env)(rec:Rec)(A:Alg R)(f:FuncId)(args:List AV)(h:Heap)(k:AV→Heap→R):R:=d02 E rec A f args h k (E.hook f args h)
def cV0(A:Alg R)(h:Heap)(k:AV→Heap→R)(vs:Option (List AV)):R:=match vs with
 |some vs=>k (cH5 vs) h
 |none=>A.bad
def cB2(P:Program)(rec:Rec)(A:Alg R)(rs:List ResultVar)(k:AV→Heap→R)(e:Ex)(a:Fr)(h:Heap):R:=match e with
 | .exit _=>A.bad
 |_=>match a.ds with
  | []=>cV0 A h k (aF4 P a h rs)
  |ds=>rec R A (.leave rs a ds h k)
def bZ2(P:Program)(A:Alg R)(rs:List ResultVar)(k:AV→Heap→R)(e:Ex)(a:Fr)(h:Heap):R:=match e with
 | .exit _=>A.bad
 |_=>match a.ds with
  | []=>cV0 A h k (aF4 P a h rs)
  |_=>A.bad
def cI1(P:Program)(rec:Rec)(A:Alg R)(f:FuncId)(args:List AV)(h:Heap)(k:AV→Heap→R)(fn:Option Func):R:=match fn with
 |none=>A.bad
 |some fn=>match fn.body with
  |none=>A.bad
  |some c=>bif Nat.ble (Nat.max fn.ntmps args.length) 256 then rec R A (.code c ⟨aa2 args 0 TF.empty,Nat.max fn.ntmps args.length,[],f,[],none⟩ h (cB2 P rec A fn.results.toList k))else A.bad
def cI2(P:Program)(rec:Rec)(A:Alg R)(f:FuncId)(args:List AV)(h:Heap)(k:AV→Heap→R)(fn:Option Func):R:=match fn with
 |none=>A.bad
 |some fn=>match fn.body with
  |none=>A.bad
  |some c=>bif Nat.ble (Nat.max fn.ntmps args.length) 256 then rec R A (.code c ⟨aa2 args 0 TF.empty,Nat.max fn.ntmps args.length,[],f,[],none⟩ h (bZ2 P A fn.results.toList k))else A.bad
def dh1(rec:Rec)(A:Alg R)(rs:List ResultVar)(a:Fr)(ds:List ADef)(k:AV→Heap→R)(_:AV)(h:Heap):R:=rec R A (.leave rs a ds h k)
def lFn(rec:Rec)(A:Alg R)(rs:List ResultVar)(a:Fr)(ds:List ADef)(h:Heap)(k:AV→Heap→R)(r:Res):R:=match r with
 | .enter f args=>rec R A (.dbody f args h (dh1 rec A rs a ds k))
 |_=>A.bad
def cI3(rec:Rec)(A:Alg R)(rs:List ResultVar)(a:Fr)(ds:List ADef)(b:Nat)(h:Heap)(k:AV→Heap→R)(x:Option Blk):R:=match x with
 |some (.defd false)=>bif Nat.ble h.wm b then rec R A (.leave rs a ds (h.put b (some (.defd true))) k)else A.bad
 |_=>A.bad
def bZ3(E:Env)(rec:Rec)(A:Alg R)(rs:List ResultVar)(a:Fr)(ds:List ADef)(h:Heap)(k:AV→Heap→R):R:=match ds with
 | []=>cV0 A h k (aF4 E.P a h rs)
 | .coll b::ds=>cI3 rec A rs a ds b h k (h.get b)
 | .fn f cap args::ds=>lFn rec A rs a ds h k (bL8 E f (args++cap) h)
def d04(E:Env)(rec:Rec)(A:Alg R)(f:FuncId)(args:List AV)(h:Heap)(k:AV→Heap→R):R:=cI1 E.P rec A f args h k (E.P.funcs[f]?)
def d05(E:Env)(rec:Rec)(A:Alg R)(t:Task R):R:=match t with
 | .code c a h k=>cA7 E rec A c a h k
 | .loop c a h k=>cZ7 rec A c a h k (E.lspec a.fn (ag1 c) a h)
 | .ops all rest a h k=>dh0 E rec A all rest a h k
 | .dops all rest pend a h k=>d01 E rec A all rest pend a h k
 | .call f args h k=>d03 E rec A f args h k
 | .body f args h k=>d04 E rec A f args h k
 | .dbody f args h k=>cI2 E.P rec A f args h k (E.P.funcs[f]?)
 | .leave rs a ds h k=>bZ3 E rec A rs a ds h k
end
def dq8(R:Type)(A:Alg R)(_:Task R):R:=A.bad
def evS(E:Env)(_:Nat)(rec:Rec)(R:Type)(A:Alg R)(t:Task R):R:=d05 E rec A t
def ev(E:Env)(n:Nat):Rec:=Nat.rec (motive:=fun _=>Rec) dq8 (evS E) n
end
end Go.Ev
