import Derived.Test.YtfpjiopkeekkeaaGreatDoorE1
set_option autoImplicit false
set_option linter.unusedVariables false
namespace Go.Ev
open Go
noncomputable section
inductive Ext where
 |ident|count|indexByte|makeNoZero (t:TypeId)
inductive FK where
 |bin (op:BinOp)|un (op:UnOp)|conv (d:TypeId)|len|max|min|slc
 deriving DecidableEq
structure LHd where
 id:Nat
 s0:List SX
 v0:Nat
 fv:List SX
inductive VT where
 |bad
 |ite (e:SX) (a b:VT)
 |need (e:SX) (x:VT)
 |ret (i:Nat) (out:List SX)
 |loop (hd:LHd) (body:VT) (ks:List VT)
 |both (a b:VT)
 |mloop (hd:LHd) (l:SX) (body:VT) (ks:List VT)
 deriving Inhabited
inductive Ex where
 |norm|exit (id:Nat)|ret
structure StP where
 slots:List (Nat×AV)
 blks:List (Nat×Option Blk)
 next:Nat
structure OwnP where
 slot:Nat
 blk:Nat
 elem:Nat
 sig:List CT
 cell:Option (Nat×Nat)
structure LSpec where
 id:Nat
 owns:List OwnP
 v0:Nat
 fv:List SX
 dead:List Nat
 head:StP
 exits:List (Ex×StP)
 mapr:Bool:=false
structure Fr where
 tm:TF
 nt:Nat
 pc:List (SX×Bool)
 fn:FuncId
 ds:List ADef
 ro:Option Nat
def Fr.slot(a:Fr)(t:Nat):AV:=(cS3 t).g a.tm
def bQ9(d:Nat)(v:AV)(tm:TF)(nt:Nat)(pc:List (SX×Bool))(fn:FuncId)(ds:List ADef)(ro:Option Nat):Fr:=bif Nat.blt d nt then⟨tm.set d v,nt,pc,fn,ds,ro⟩else⟨tm,nt,pc,fn,ds,ro⟩
def da6(p:SX×Bool)(tm:TF)(nt:Nat)(pc:List (SX×Bool))(fn:FuncId)(ds:List ADef)(ro:Option Nat):Fr:=⟨tm,nt,p::pc,fn,ds,ro⟩
def cS7(tm:TF)(nt:Nat)(pc:List (SX×Bool))(fn:FuncId)(ds:List ADef)(ro:Option Nat):Fr:=⟨tm,nt,[],fn,ds,ro⟩
def da7(x:Option Nat)(tm:TF)(nt:Nat)(pc:List (SX×Bool))(fn:FuncId)(ds:List ADef)(ro:Option Nat):Fr:=⟨tm,nt,pc,fn,ds,x⟩
def Fr.back(a:Fr)(x:Option Nat):Fr:=Fr.rec (da7 x) a
def da8(m:List ADef)(tm:TF)(nt:Nat)(pc:List (SX×Bool))(fn:FuncId)(ds:List ADef)(ro:Option Nat):Fr:=⟨tm,nt,pc,fn,m++ds,ro⟩
def Fr.mark(a:Fr)(m:List ADef):Fr:=Fr.rec (da8 m) a
def Fr.clear(a:Fr):Fr:=Fr.rec cS7 a
def Fr.cond(a:Fr)(p:SX×Bool):Fr:=Fr.rec (da6 p) a
def bR0(p:Prim)(l:List SX)(d:Int):Option Bool:=match p,l with
 | .imin,[_,.ci c]=>bif aK3 c d then some true else none
 |_,_=>none
def bR1(p:Prim)(l:List SX):Option Bool:=match p,l with
 | .cmp .lss,[.op q x,.ci d]=>bR0 q x d
 |_,_=>none
def d68(e:SX):Option Bool:=match e with
 | .op p l=>bR1 p l
 |_=>none
def aK5(e:SX):List (SX×Bool)→Option Bool
 | []=>d68 e
 |p::r=>bif SX.beq e p.1 then some p.2 else aK5 e r
def Fr.put(a:Fr)(dst:Option Tmp)(v:AV):Fr:=
 match dst with
 |none=>a
 |some d=>Fr.rec (bQ9 d v) a
def Fr.ev(a:Fr):Operand→Option AV
 | .tmp t=>some (a.slot t)
 | .const v=>bm6 v
 | .global g=>some (.glob g)
 | .func f=>some (.func (.func f) [] [])
inductive Res where
 |val (v:AV) (h:Heap)
 |need (e:SX) (v:AV) (h:Heap)
 |cho (e:SX) (v:AV) (l:List AV) (h:Heap)
 |enter (f:FuncId) (args:List AV)
 |choice (l:List (AV×Heap))
 |yield (l:Nat) (args:List AV)
 |defer (d:ADef)
 |bad
structure Env where
 P:Program
 ext:FuncId→Option Ext
 amb:FuncId→Bool
 caps:FuncId→Bool
 hook:FuncId→List AV→Heap→Res
 fact:FK→List AV→Option AV
 lspec:FuncId→Nat→Fr→Heap→Option LSpec
def evs(ρ:Operand→Option AV):List Operand→Option (List AV)
 | []=>some []
 |x::r=>match ρ x,evs ρ r with
  |some v,some vs=>some (v::vs)
  |_,_=>none
def aW4(ρ:Operand→Option AV):List (Nat×Operand)→Option (List (Nat×AV))
 | []=>some []
 |(i,x)::r=>match ρ x,aW4 ρ r with
  |some v,some vs=>some ((i,v)::vs)
  |_,_=>none
def evo(ρ:Operand→Option AV):Option Operand→Option (Option AV)
 |none=>some none
 |some x=>(ρ x).map some
def ov(x:Option AV)(h:Heap):Res:=match x with
 |some v=> .val v h
 |none=> .bad
def oh(x:Option (AV×Heap)):Res:=match x with
 |some (v,h)=> .val v h
 |none=> .bad
def os(x:Option Heap):Res:=match x with
 |some h=> .val .undef h
 |none=> .bad
def aK6(P:Program)(t:TypeId):Bool:=match P.underlying t with
 |some .bool=>true
 |some (.int _)=>true
 |some .string=>true
 |_=>false
def aK7(P:Program)(t:TypeId)(k:AV):Bool:=
 match P.underlying t,k with
 |some .bool,.bool _=>true
 |some (.int _),.int _ _=>true
 |some .string,.str _=>true
 |some (.struct fields),.agg cs=>fields.all fun f=>(ai2 P f.type cs f.offset).isSome&&aK6 P f.type
 |_,_=>false
def ap8(P:Program)(kt:TypeId)(k:AV):List Ent→Nat→Option (Option (Nat×Ent))
 | [],_=>some none
 |e::r,i=>match eqE P 10000 kt k e.key with
  |some true=>some (some (i,e))
  |some false=>ap8 P kt k r (i+1)
  |none=>none
def aq6:List Ent→Nat→Ent→List Ent
 | [],_,_=>[]
 |_::r,0,x=>x::r
 |e::r,i+1,x=>e::aq6 r i x
def bx7:List Ent→Nat→List Ent
 | [],_=>[]
 |_::r,0=>r
 |e::r,i+1=>e::bx7 r i
def bR2(m:AV)(h:Heap):Option (List Ent):=
 match m with
 | .nilm=>some []
 | .map r=>match h.get r with
   |some (.map es _)=>some es
   |_=>none
 |_=>none
def b24(P:Program)(t:TypeId)(m k:AV)(ok:Bool)(h:Heap):Option AV:=
 match P.underlying t with
 |some (.map kt et)=>bif aK7 P kt k then
  match bR2 m h with
  |none=>none
  |some es=>match ap8 P kt k es 0 with
   |none=>none
   |some (some (_,e))=>some (bif ok then .tup [e.val,.bool true]else e.val)
   |some none=>(X0 P et).map fun z=>bif ok then .tup [z,.bool false]else z
  else none
 |_=>none
def a89(P:Program)(t:TypeId)(m k v:AV)(h:Heap):Option Heap:=
 match P.underlying t,m with
 |some (.map kt _),.map r=>bif aK7 P kt k&&Nat.ble h.wm r then
  match h.get r with
  |some (.map es c)=>match ap8 P kt k es 0 with
   |none=>none
   |some (some (i,e))=>bif bQ8 e.key k then some (h.put r (some (.map (aq6 es i ⟨k,v,e.born⟩) c)))else none
   |some none=>some (h.put r (some (.map (es++[⟨k,v,c⟩]) (c+1))))
  |_=>none
  else none
 |_,_=>none
def av1(P:Program)(t:TypeId)(m k:AV)(h:Heap):Option (AV×Heap):=
 match P.underlying t,m with
 |some (.map kt et),.map r=>bif aK7 P kt k&&Nat.ble h.wm r then
  match h.get r with
  |some (.map es c)=>match ap8 P kt k es 0 with
   |none=>none
   |some (some (i,e))=>bif bQ8 e.key k then some (.tup [e.val,.int .i64 e.born],h.put r (some (.map (aq6 es i ⟨k,e.val,e.born⟩) c)))else none
   |some none=>(X0 P et).map fun z=>(.tup [z,.int .i64 c],h.put r (some (.map (es++[⟨k,z,c⟩]) (c+1))))
  |_=>none
  else none
 |_,_=>none
def an3(b:Nat):List Ent→Nat→Option (Nat×Ent)
 | [],_=>none
 |e::r,i=>bif Nat.beq e.born b then some (i,e)else an3 b r (i+1)
def af8(m s v:AV)(h:Heap):Option Heap:=
 match m,s with
 | .map r,.int _ s=>match h.get r,a81 s with
   |some (.map es c),some b=>match an3 b es 0 with
    |some (i,e)=>bif Nat.ble h.wm r then some (h.put r (some (.map (aq6 es i ⟨e.key,v,e.born⟩) c)))else none
    |none=>none
   |_,_=>none
 |_,_=>none
def bn0(P:Program)(t:TypeId)(m k:AV)(h:Heap):Option Heap:=
 match P.underlying t,m with
 |some (.map kt _),.map r=>bif aK7 P kt k&&Nat.ble h.wm r then
  match h.get r with
  |some (.map es c)=>match ap8 P kt k es 0 with
   |none=>none
   |some (some (i,_))=>some (h.put r (some (.map (bx7 es i) c)))
   |some none=>some (h.put r (some (.map es c)))
  |_=>none
  else none
 |_,_=>none
def bx8(P:Program)(t:TypeId)(x:AV)(h:Heap):Option (AV×Heap):=
 match P.underlying t,x with
 |some .string,.str l=>some (.ptr h.next 0,h.new (.strIter l 0))
 |some (.map _ _),.nilm=>some (.ptr h.next 0,h.new (.mapIter none 0 [] 0))
 |some (.map _ _),.map m=>match h.get m with
  |some (.map _ c)=>some (.ptr h.next 0,h.new (.mapIter (some m) c [] c))
  |some (.marr d ks vs l)=>some (.ptr h.next 0,(h.new (.mit m)).put m (some (.mrg h.next d ks vs l)))
  |_=>none
 |_,_=>none
def a44(es:List Ent)(seen:List Nat):List Ent:=es.filter fun e=> !(seen.contains e.born)
def cS8(r m since:Nat)(seen:List Nat)(c:Nat)(h:Heap)(left:List Ent):Res:=
 match left with
 | []=> .val (.tup [.bool false]) h
 |left=> .choice (left.map fun e=>(.tup [.bool true,e.key,e.val],h.put r (some (.mapIter (some m) since (seen++[e.born]) c))))
def cS9(r:Nat)(h:Heap)(l:List UInt8)(pos:Nat)(c:Option UInt8):Res:=match c with
 |none=> .val (.tup [.bool false]) h
 |some c=>bif Nat.ble h.wm r&&Nat.blt c.toNat 128 then .val (.tup [.bool true,.int .i64 pos,.int .i32 c.toNat]) (h.put r (some (.strIter l (pos+1))))else .bad
def cA0(r:Nat)(h:Heap)(b:Option Blk):Res:=match b with
 |some (.strIter l pos)=>cS9 r h l pos l[pos]?
 |_=> .bad
def bR3(it:AV)(bR8:Bool)(h:Heap):Res:=
 match it,bR8 with
 | .ptr r 0,true=>cA0 r h (h.get r)
 | .ptr r 0,false=>match h.get r with
   |some (.mapIter none _ _ _)=> .val (.tup [.bool false]) h
   |some (.mapIter (some m) since seen last)=>match h.get m with
    |some (.map es c)=>
     bif Nat.ble h.wm r&& !(!seen.isEmpty&& !es.isEmpty&&es.all (fun e=>Nat.ble last e.born))&& !((a44 es seen).any (fun e=>Nat.ble since e.born))then cS8 r m since seen c h (a44 es seen)else .bad
    |_=> .bad
   |_=> .bad
 |_,_=> .bad
def bx9:List Nat→Option Nat
 | []=>none
 | [x]=>some x
 |_::r=>bx9 r
def by0(it:AV)(h:Heap):Option AV:=
 match it with
 | .ptr r 0=>match h.get r with
   |some (.mapIter (some m) _ seen stepped)=>match bx9 seen,h.get m with
    |some s,some (.map es c)=>bif Nat.beq c stepped then(an3 s es 0).map fun x=> .tup [x.2.key,x.2.val]else none
    |_,_=>none
   |_=>none
 |_=>none
def by1(P:Program)(asserted:TypeId)(ok:Bool):Option AV:=bif ok then(X0 P asserted).map fun z=> .tup [z,.bool false]else none
def bR4(ok:Bool)(v:AV):Option AV:=some (bif ok then .tup [v,.bool true]else v)
def af9(P:Program)(x:AV)(asserted:TypeId)(ok:Bool):Option AV:=
 match P.underlying asserted with
 |some (.interface _)=>none
 |some _=>match x with
  | .nili=>by1 P asserted ok
  | .iface t v=>bif Nat.beq t asserted then bR4 ok v else by1 P asserted ok
  |_=>none
 |none=>none
def aE6:List AV→Option (List UInt8)
 | []=>some []
 | .int .u8 (.ofNat n)::r=>match aE6 r with
   |some l=>bif Nat.blt n 256 then some (UInt8.ofNat n::l)else none
   |none=>none
 |_=>none
def u8T(P:Program)(e:TypeId):Bool:=match P.underlying e with
 |some (.int .u8)=>true
 |_=>false
def bR5(P:Program)(e:TypeId)(l:List UInt8)(h:Heap):Option (AV×Heap):=
 bif u8T P e&&Nat.ble l.length room then some (.us h.next 0 l.length 1,h.new (.cells e 0 (l.map fun b=> .int .u8 b.toNat)))else none
def bR6(P:Program)(e:TypeId)(x:AV)(h:Heap):Option (List UInt8):=bif u8T P e then match x with
 | .nils=>some []
 | .es _ _ _=>some []
 | .es0=>some []
 | .sl b o n c=>(ac9 1 n (.sl b o n c) h).bind aE6
 | .us b o n s=>(ac9 1 n (.us b o n s) h).bind aE6
 |_=>none
 else none
def aH4(P:Program)(t b o:Nat)(h:Heap):Option (AV×Heap):=match ae2 P t,h.get b with
 |some (_+1),some (.cells _ _ cs)=>bif Nat.blt o cs.length then some (.ptr b o,h)else none
 |_,_=>none
def aH5(P:Program)(t b o:Nat)(h:Heap):Option (AV×Heap):=match o,ae2 P t,h.get b with
 |0,some (n+1),some (.cells e _ cs)=>bif Nat.beq e t&&Nat.ble (n+1) cs.length&&av0 P t then some (.ptr b 0,h)else none
 |_,_,_=>none
def bR7(P:Program)(s d:TypeId)(x:AV)(h:Heap):Option (AV×Heap):=match P.underlying s,P.underlying d,x with
 |some .string,some (.slice e),.str l=>bR5 P e l h
 |_,_,_=>none
def bJ0(P:Program)(s d:TypeId)(x:AV)(h:Heap):Option (AV×Heap):=
 match P.underlying s,P.underlying d,x with
 |some _,some (.int k),.int _ n=>some (.int k (au9 k n),h)
 |some _,some .string,.str l=>some (.str l,h)
 |some (.slice e),some .string,x=>(bR6 P e x h).map fun l=>(.str l,h)
 |some (.pointer t),some .unsafePointer,.ptr b o=>aH4 P t b o h
 |some .unsafePointer,some (.pointer t),.ptr b o=>aH5 P t b o h
 |_,_,_=>none
def P6(c:Nat):List UInt8→Nat
 | []=>0
 |x::r=>bif Nat.beq x.toNat c then P6 c r+1 else P6 c r
def b25(c:Nat):List UInt8→Nat→Option Nat
 | [],_=>none
 |x::r,i=>bif Nat.beq x.toNat c then some i else b25 c r (i+1)
def aE7(c:Nat)(l:List UInt8):Int:=match b25 c l 0 with
 |some i=>(i:Int)
 |none=> -1
def cT0(P:Program)(e:Ext)(args:List AV)(h:Heap):Option (AV×Heap):=
 match e,args with
 | .ident,[x]=>some (x,h)
 | .count,[.str l,.int .u8 c]=>(a81 c).bind fun c=>bif Nat.blt c 256 then some (.int .i64 (P6 c l:Nat),h)else none
 | .indexByte,[.str l,.int .u8 c]=>(a81 c).bind fun c=>bif Nat.blt c 256 then some (.int .i64 (aE7 c l),h)else none
 |_,_=>none
def bR8:AV→Bool
 | .str _=>true
 |_=>false
def da9(P:Program)(t:Option TypeDesc)(x:AV)(h:Heap):Option Nat:=match t with
 |some .string=>match x with
  | .str l=>some l.length
  |_=>none
 |some (.slice _)=>bif bR8 x then none else aE5 x
 |some (.map _ _)=>match x with
  | .nilm=>some 0
  | .map r=>match h.get r with
    |some (.map es _)=>some es.length
    |_=>none
  |_=>none
 |_=>none
def aY3(P:Program)(elem:TypeId)(b o n:Nat)(h:Heap):Option (AV×Heap):=match n with
 |0=>some (.undef,h)
 |n=>match X0 P elem with
  |some z=>bif Nat.blt 0 z.cells.length then(putCells h b o (rep n z.cells)).map fun h'=>(.undef,h')else none
  |none=>none
def bR9(P:Program)(t:Option TypeDesc)(x:AV)(h:Heap):Option (AV×Heap):=match t with
 |some (.slice elem)=>match x with
  | .nils=>some (.undef,h)
  | .sl b o n _=>aY3 P elem b o n h
  | .us b o n _=>aY3 P elem b o n h
  |_=>none
 |some (.map _ _)=>match x with
  | .nilm=>some (.undef,h)
  | .map r=>match h.get r with
    |some (.map _ c)=>bif Nat.ble h.wm r then some (.undef,h.put r (some (.map [] c)))else none
    |_=>none
  |_=>none
 |_=>none
def bS0(P:Program)(argTypes:Array TypeId)(b o n:Nat)(h:Heap):Option (AV×Heap):=match h.get b,(argTypes[0]?).bind P.underlying with
 |some (.cells e _ cs),some (.pointer pt)=>bif Nat.ble h.wm b&&Nat.beq e pt&&Nat.ble (o+n) cs.length&&Nat.ble n room then(match ae2 P e,aE6 ((cs.drop o).take n)with
  |some 1,some l=>some (.str l,h.put b none)
  |_,_=>none)else none
 |_,_=>none
def bn1(x:AV)(h:Heap):Option (AV×Heap):=match x with
 | .sl b o _ (_+1)=>some (.ptr b o,h)
 | .us b o (n+1) sz=>bif Nat.blt 0 sz&&bm8 sz (.us b o (n+1) sz) h then some (.ptr b o,h)else none
 | .nils=>some (.nilp,h)
 |_=>none
def db0(P:Program)(argTypes:Array TypeId)(p:AV)(n:Option Nat)(h:Heap):Option (AV×Heap):=match argTypes[0]?,n with
 |some _,some 0=>match p with
  | .nilp=>some (.str [],h)
  | .ptr _ _=>some (.str [],h)
  |_=>none
 |some _,some (n+1)=>match p with
  | .ptr b o=>bS0 P argTypes b o (n+1) h
  |_=>none
 |_,_=>none
def db1(x:AV)(h:Heap):Option AV:=match x with
 | .nils=>some (.int .i64 0)
 | .es0=>some (.int .i64 0)
 | .sl _ _ _ c=>some (.int .i64 c)
 | .us b o _ sz=>match h.get b with
   |some (.cells _ _ cs)=>bif Nat.blt 0 sz&&Nat.ble o cs.length then some (.atl ((cs.length-o)/sz))else none
   |_=>none
 |_=>none
def av2(P:Program)(b:Builtin)(argTypes:Array TypeId)(args:List AV)(h:Heap):Option (AV×Heap):=
 match b,args with
 | .len,[x]=>(da9 P ((argTypes[0]?).bind P.underlying) x h).map fun(n:Nat)=>(AV.int .i64 (n:Int),h)
 | .append,[x,y]=>bm9 P argTypes x y h
 | .copy,[x,y]=>cz9 P argTypes x y h
 | .clear,[x]=>bR9 P ((argTypes[0]?).bind P.underlying) x h
 | .delete,[m,k]=>match argTypes[0]? with
   |some t=>(bn0 P t m k h).map fun h'=>(.undef,h')
   |none=>none
 | .unsafeSliceData,[x]=>bn1 x h
 | .unsafeString,[p,.int _ n]=>db0 P argTypes p (a81 n) h
 | .cap,[x]=>match(argTypes[0]?).bind P.underlying with
   |some (.slice _)=>(db1 x h).map fun v=>(v,h)
   |_=>none
 | .max,[.int k x,.int _ y]=>some (.int k (bif aK3 x y then y else x),h)
 | .min,[.int k x,.int _ y]=>some (.int k (bif aK3 y x then y else x),h)
 |_,_=>none
def dh8(P:Program)(e:Ext)(args:List AV)(h:Heap):Res:=oh (cT0 P e args h)
def bJ1(F:SX→SX→SX)(s:SX)(c:Option Nat)(h:Heap):Res:=match c with
 |some c=>bif Nat.blt c 256 then .val (.oint .i64 (F s (.ci c))) h else .bad
 |none=> .bad
def cT1:Int:=281474976710656
def db2(P:Program)(t:TypeId)(x:Option (IntKind×SX))(h:Heap):Res:=match x,P.underlying t with
 |some (.i64,n),some (.slice e)=>bif Nat.blt h.next 65536 then .need (.op .and [.op (.cmp .leq) [.ci 0,n],.op (.cmp .leq) [n,.ci cT1]]) (.ous h.next n 1) (h.new (.arr e [.int .u8] (.op .row [])))else .bad
 |_,_=> .bad
def ch3:AV→Option (IntKind×SX)
 | .int k n=>some (k,.ci n)
 | .oint k e=>some (k,e)
 |_=>none
def cT2(P:Program)(e:Ext)(args:List AV)(h:Heap):Res:=match e,args with
 | .count,[.ostr s,.int .u8 c]=>bJ1 (fun s c=> .op .scnt [s,c]) s (a81 c) h
 | .indexByte,[.ostr s,.int .u8 c]=>bJ1 (fun s c=> .op .sidx [s,c]) s (a81 c) h
 | .makeNoZero t,[x]=>db2 P t (ch3 x) h
 |_,_=> .bad
def orY(r s:Res):Res:=match r with
 | .bad=>s
 |r=>r
def bc1(E:Env)(f:FuncId)(args:List AV)(h:Heap):Res:=
 match E.P.funcs[f]? with
 |none=> .bad
 |some fn=>match fn.body with
  |some _=> .enter f args
  |none=>match E.ext f with
   |some e=>orY (dh8 E.P e args h) (cT2 E.P e args h)
   |none=> .bad
def aB2(P:Program)(t:TypeId)(name:String):Option FuncId:=
 match P.info? t with
 |some i=>match i.methods.find? (·.name==name)with
  |some m=>match m.path.toList with
   | []=>match m.func,P.underlying t with
     |some (f,true),some (.pointer _)=>some f
     |some (_,_),some (.pointer _)=>none
     |some (f,false),some _=>some f
     |_,_=>none
   |_=>none
  |none=>none
 |none=>none
def aH6(E:Env)(name:String)(first args:List AV)(h:Heap):Res:=match first with
 | .iface t v::rest=>match aB2 E.P t name with
   |some g=>bc1 E g (v::(rest++args)) h
   |none=> .bad
 |_=> .bad
def b26(E:Env)(f:AV)(args:List AV)(h:Heap):Res:=
 match f with
 | .func (.func f) first cap=>bc1 E f (first++args++cap) h
 | .func (.method name) first _=>aH6 E name first args h
 | .yield l=> .yield l args
 |_=> .bad
def av3(x:AV):Option AV:=
 match x with
 | .nilp| .nili| .nilf=>none
 | .opq _=>none
 | .any=>none
 | .func (.method _) _ _=>none
 |x=>some x
def orF(E:Env)(x:Option AV)(k:FK)(vs:List AV):Option AV:=match x with
 |some v=>some v
 |none=>E.fact k vs
def bn2(ρ:Operand→Option AV)(a b:Operand)(h:Heap)(c:Option AV):Res:=match c with
 |some (.bool t)=>ov (bif t then ρ a else ρ b) h
 |_=> .bad
def cu2(e:TypeId)(h:Heap)(v:Option AV):Res:=match v with
 |some z=>oh (aB0 e z h)
 |none=> .bad
def by2(P:Program)(t:TypeId)(h:Heap)(ps:Option (List (Nat×AV))):Res:=match ps with
 |some ps=>ov (bQ6 P t ps) h
 |none=> .bad
def a32(P:Program)(t n:Nat)(h:Heap)(ps:Option (List (Nat×AV))):Res:=match ps with
 |some ps=>oh (a03 P t n ps h)
 |none=> .bad
def cA1(P:Program)(t:TypeId)(h:Heap)(a:Option AV):Res:=match a with
 |some a=>ov (bQ5 P t a h) h
 |none=> .bad
def bS1(P:Program)(t:TypeId)(h:Heap)(a v:Option AV):Res:=match a with
 |some a=>match v with
  |some v=>os (bb9 P t a v h)
  |none=> .bad
 |none=> .bad
def b27(P:Program)(h:Heap)(name:String)(first cap:List AV):Res:=match first with
 | .iface t v::rest=>match aB2 P t name with
   |some _=> .val (.func (.method name) (.iface t v::rest) cap) h
   |none=> .bad
 |_=> .bad
def cP8(P:Program)(h:Heap)(a:Option AV):Res:=match a with
 |some (.func (.method name) first cap)=>b27 P h name first cap
 |some a=>ov (av3 a) h
 |none=> .bad
def cP9(E:Env)(op:BinOp)(t:TypeId)(x y:Operand)(h:Heap)(a b:Option AV):Res:=match a with
 |some a=>match b with
  |some b=>bif ar5 E.P op t x y a b then ov (orF E (d66 E.P op t a b) (.bin op) [a,b]) h else .bad
  |none=> .bad
 |none=> .bad
def sUn(E:Env)(op:UnOp)(h:Heap)(a:Option AV):Res:=match a with
 |some a=>ov (orF E (unE op a) (.un op) [a]) h
 |none=> .bad
def bJ2(E:Env)(s d:TypeId)(h:Heap)(a:Option AV):Res:=match a with
 |some a=>match bJ0 E.P s d a h with
  |some r=> .val r.1 r.2
  |none=>match bR7 E.P s d a h with
   |some r=> .choice [r]
   |none=>ov (E.fact (.conv d) [a]) h
 |none=> .bad
def aY4(P:Program)(t:TypeId)(h:Heap)(a:Option AV):Res:=match a with
 |some v=>match P.underlying t with
  |some (.interface _)=> .bad
  |some _=> .val (.iface t v) h
  |none=> .bad
 |none=> .bad
def bJ3(fn:Fn)(h:Heap)(a b:Option (List AV)):Res:=match a with
 |some a=>match b with
  |some b=>match fn with
   | .yield _=> .bad
   |fn=> .val (.func fn a b) h
  |none=> .bad
 |none=> .bad
def cf9(P:Program)(t:TypeId)(h:Heap)(r:Option (Option AV)):Res:=match P.underlying t with
 |some (.map _ _)=>match r with
  |some none=> .val (.map h.next) (h.new (.map [] 0))
  |some (some (.int _ _))=> .val (.map h.next) (h.new (.map [] 0))
  |_=> .bad
 |_=> .bad
def a90(P:Program)(t:TypeId)(h:Heap)(l c:Option AV):Res:=match l with
 |some l=>match c with
  |some c=>oh (a31 P t l c h)
  |none=> .bad
 |none=> .bad
def aY5(E:Env)(t:TypeId)(h:Heap)(x:Option AV)(lo hi mx:Option (Option AV)):Res:=match x with
 |some x=>match lo with
  |some lo=>match hi with
   |some hi=>match mx with
    |some mx=>bif hi.isNone&&mx.isSome then .bad else ov (bQ7 E.P t x lo hi mx h) h
    |none=> .bad
   |none=> .bad
  |none=> .bad
 |none=> .bad
def cu3(P:Program)(t:TypeId)(f:Nat)(h:Heap)(a:Option AV):Res:=match a with
 |some a=>ov (bx5 P t a f) h
 |none=> .bad
def aY6(P:Program)(t:TypeId)(f:Nat)(h:Heap)(a:Option AV):Res:=match a with
 |some a=>ov (an2 P t a f) h
 |none=> .bad
def s2(F:AV→AV→Option AV)(h:Heap)(a b:Option AV):Res:=match a with
 |some a=>match b with
  |some b=>ov (F a b) h
  |none=> .bad
 |none=> .bad
def s3h(F:AV→AV→AV→Option Heap)(a b c:Option AV):Res:=match a with
 |some a=>match b with
  |some b=>match c with
   |some c=>os (F a b c)
   |none=> .bad
  |none=> .bad
 |none=> .bad
def s2h(F:AV→AV→Option (AV×Heap))(a b:Option AV):Res:=match a with
 |some a=>match b with
  |some b=>oh (F a b)
  |none=> .bad
 |none=> .bad
def s1h(F:AV→Option (AV×Heap))(a:Option AV):Res:=match a with
 |some a=>oh (F a)
 |none=> .bad
def s1r(F:AV→Res)(a:Option AV):Res:=match a with
 |some a=>F a
 |none=> .bad
def s1(F:AV→Option AV)(h:Heap)(a:Option AV):Res:=match a with
 |some a=>ov (F a) h
 |none=> .bad
def aH7(i:Nat)(x:AV):Option AV:=match x with
 | .tup vs=>vs[i]?
 |_=>none
def ag0(E:Env)(b:Builtin)(ts:Array TypeId)(h:Heap)(args:List AV):Res:=match av2 E.P b ts args h with
 |some r=> .val r.1 r.2
 |none=>match b with
  | .len=>ov (E.fact .len args) h
  | .max=>ov (E.fact .max args) h
  | .min=>ov (E.fact .min args) h
  |_=> .bad
def bc2(E:Env)(ρ:Operand→Option AV)(c:Call)(h:Heap)(args:Option (List AV)):Res:=match args with
 |none=> .bad
 |some args=>match c.callee with
  | .builtin b=>ag0 E b c.argTypes h args
  | .invoke rc name=>s1r (fun v=>aH6 E name [v] args h) (ρ rc)
  | .value f=>s1r (fun f=>b26 E f args h) (ρ f)
def bS2(args:List AV)(f:AV):Res:=match f with
 | .func (.func g) first cap=> .defer (.fn g cap (first++args))
 |_=> .bad
def bc3(ρ:Operand→Option AV)(c:Call)(args:Option (List AV)):Res:=match args with
 |none=> .bad
 |some args=>match c.callee with
  | .value f=>s1r (bS2 args) (ρ f)
  |_=> .bad
def av4(E:Env)(ρ:Operand→Option AV)(o:Oper)(h:Heap):Res:=
 match o.op with
 | .move x=>ov (ρ x) h
 | .assign x=>ov (ρ x) h
 | .pick c a b=>bn2 ρ a b h (ρ c)
 | .alloc e=>cu2 e h (X0 E.P e)
 | .box e x=>cu2 e h (ρ x)
 | .build t ps=>by2 E.P t h (aW4 ρ ps.toList)
 | .buildSlice t n ps=>a32 E.P t n h (aW4 ρ ps.toList)
 | .load t a=>cA1 E.P t h (ρ a)
 | .store t a x=>bS1 E.P t h (ρ a) (ρ x)
 | .nilCheck x=>cP8 E.P h (ρ x)
 | .binOp op t x y _=>cP9 E op t x y h (ρ x) (ρ y)
 | .unOp op _ x=>sUn E op h (ρ x)
 | .convert s d x=>bJ2 E s d h (ρ x)
 | .makeInterface t x=>aY4 E.P t h (ρ x)
 | .makeFunc fn first cap=>bJ3 fn h (evs ρ first.toList) (evs ρ cap.toList)
 | .makeMap t r=>cf9 E.P t h (evo ρ r)
 | .makeSlice t l c=>a90 E.P t h (ρ l) (ρ c)
 | .slice t x lo hi mx=>aY5 E t h (ρ x) (evo ρ lo) (evo ρ hi) (evo ρ mx)
 | .fieldAddr s x f=>aY6 E.P s f h (ρ x)
 | .field t x f=>cu3 E.P t f h (ρ x)
 | .indexAddr t x i=>s2 (aB1 E.P t) h (ρ x) (ρ i)
 | .index t x i=>s2 (bx6 E.P t) h (ρ x) (ρ i)
 | .lookup t x i ok=>s2 (fun a i=>b24 E.P t a i ok h) h (ρ x) (ρ i)
 | .mapUpdate t m k x=>s3h (fun m k v=>a89 E.P t m k v h) (ρ m) (ρ k) (ρ x)
 | .insert t m k x=>s3h (fun m k v=>a89 E.P t m k v h) (ρ m) (ρ k) (ρ x)
 | .mapEntry t m k=>s2h (fun m k=>av1 E.P t m k h) (ρ m) (ρ k)
 | .entryStore _ m s x=>s3h (fun m s v=>af8 m s v h) (ρ m) (ρ s) (ρ x)
 | .range t x=>s1h (fun a=>bx8 E.P t a h) (ρ x)
 | .next it s=>s1r (fun a=>bR3 a s h) (ρ it)
 | .entry it=>s1 (fun a=>by0 a h) h (ρ it)
 | .typeAssert x _ t ok=>s1 (fun a=>af9 E.P a t ok) h (ρ x)
 | .extract t i=>s1 (aH7 i) h (ρ t)
 | .call c=>bc2 E ρ c h (evs ρ c.args.toList)
 | .defer c=>bc3 ρ c (evs ρ c.args.toList)
 |_=> .bad
def aW5:AV→Option (IntKind×SX)
 | .int k n=>some (k,.ci n)
 | .oint k e=>some (k,e)
 |_=>none
def bm3:AV→Option SX
 | .str l=>some (.cs l)
 | .ostr e=>some e
 |_=>none
def bn3:AV→Option SX
 | .bool b=>some (.cb b)
 | .obool e=>some e
 |_=>none
def d69(op:BinOp)(k k':IntKind)(a b:SX)(h:Heap):Res:=match op with
 | .shl=> .need (.op (.cmp .leq) [.ci 0,b]) (.oint k (.op (.ar .shl k) [a,b])) h
 | .shr=> .need (.op (.cmp .leq) [.ci 0,b]) (.oint k (.op (.ar .shr k) [a,b])) h
 | .quo=>if k=k' then .need (.op (.cmp .neq) [b,.ci 0]) (.oint k (.op (.ar .quo k) [a,b])) h else .bad
 | .rem=>if k=k' then .need (.op (.cmp .neq) [b,.ci 0]) (.oint k (.op (.ar .rem k) [a,b])) h else .bad
 | .add| .sub| .mul| .and| .or| .xor| .andNot=>if k=k' then .val (.oint k (.op (.ar op k) [a,b])) h else .bad
 | .eql| .neq| .lss| .leq| .gtr| .geq=>if k=k' then .val (.obool (.op (.cmp op) [a,b])) h else .bad
def cg0:Int:=4294967296
def cu4(a b:SX):SX:= .op .iadd [a,b]
def d70(op:BinOp)(a b:SX)(h:Heap):Res:=match op with
 | .eql| .neq| .lss| .leq| .gtr| .geq=> .val (.obool (.op (.scmp op) [a,b])) h
 | .add=> .need (.op (.cmp .lss) [cu4 (.op .slen [a]) (.op .slen [b]),.ci cg0]) (.ostr (.op .cat [a,b])) h
 |_=> .bad
def bJ4(P:Program)(t:TypeId):Bool:=match P.underlying t with
 |some .bool=>true
 |_=>false
def cA2(P:Program)(op:BinOp)(t:TypeId)(a b:SX)(h:Heap):Res:=match op with
 | .eql=>bif bJ4 P t then .val (.obool (.op .beq [a,b])) h else .bad
 | .neq=>bif bJ4 P t then .val (.obool (.op .not [.op .beq [a,b]])) h else .bad
 |_=> .bad
def aK8(a b:SX):SX:=match a with
 | .cb true=>b
 |_=>match b with
  | .cb true=>a
  |_=> .op .and [a,b]
def ae3(P:Program)(ih:TypeId→AV→AV→Option SX)(xs ys:List AV):List Field→Option SX
 | []=>some (.cb true)
 |f::r=>bif f.name== "_" then ae3 P ih xs ys r else match ai2 P f.type xs f.offset,ai2 P f.type ys f.offset with
  |some a,some b=>match ih f.type a b with
   |some e=>match ae3 P ih xs ys r with
    |some e'=>some (aK8 e e')
    |none=>none
   |none=>none
  |_,_=>none
def cu5(k k':IntKind)(a b:SX):Option SX:=if k=k' then some (.op (.cmp .eql) [a,b])else none
def bn4(P:Program)(ih:TypeId→AV→AV→Option SX)(t:TypeId)(x y:AV):Option SX:=
 match P.underlying t with
 |some .bool=>match bn3 x,bn3 y with
  |some a,some b=>some (.op .beq [a,b])
  |_,_=>none
 |some (.int _)=>match aW5 x,aW5 y with
  |some (k,a),some (k',b)=>cu5 k k' a b
  |_,_=>none
 |some .string=>match bm3 x,bm3 y with
  |some a,some b=>some (.op (.scmp .eql) [a,b])
  |_,_=>none
 |some (.struct fields)=>match x,y with
  | .agg xs,.agg ys=>bif P.stoodInHeld t then none else ae3 P ih xs ys fields.toList
  |_,_=>none
 |_=>none
def db3(_:TypeId)(_ _:AV):Option SX:=none
def eqS(P:Program)(n:Nat):TypeId→AV→AV→Option SX:=Nat.rec (motive:=fun _=>TypeId→AV→AV→Option SX) db3 (fun _=>bn4 P) n
def aK9(P:Program)(t:TypeId):Bool:=match P.underlying t with
 |some (.slice _)=>true
 |_=>false
def cT3(P:Program)(op:BinOp)(t:TypeId)(len:SX)(y:AV)(h:Heap):Res:=match y with
 | .nils=>bif aK9 P t then(match op with
   | .eql=> .cho (.op (.cmp .lss) [.ci 0,len]) (.bool false) [.bool true,.bool false] h
   | .neq=> .cho (.op (.cmp .lss) [.ci 0,len]) (.bool true) [.bool true,.bool false] h
   |_=> .bad)else .bad
 |_=> .bad
def d71(P:Program)(op:BinOp)(t:TypeId)(x y:AV)(h:Heap):Res:=match x with
 | .agg cs=>match eqS P 10000 t (.agg cs) y with
   |some e=>match op with
    | .eql=> .val (.obool e) h
    | .neq=> .val (.obool (.op .not [e])) h
    |_=> .bad
   |none=> .bad
 | .osl _ _ len _=>cT3 P op t len y h
 | .ous _ len _=>cT3 P op t len y h
 |_=> .bad
def db4(P:Program)(op:BinOp)(t:TypeId)(x y:AV)(h:Heap):Res:=
 match aW5 x,aW5 y with
 |some (k,a),some (k',b)=>d69 op k k' a b h
 |_,_=>match bm3 x,bm3 y with
  |some a,some b=>d70 op a b h
  |_,_=>match bn3 x,bn3 y with
   |some a,some b=>cA2 P op t a b h
   |_,_=>d71 P op t x y h
def ch4(P:Program)(op:BinOp)(t:TypeId)(x y:Operand)(h:Heap)(a b:Option AV):Res:=match a with
 |some a=>match b with
  |some b=>bif ar5 P op t x y a b then db4 P op t a b h else .bad
  |none=> .bad
 |none=> .bad
def yUn(op:UnOp)(h:Heap)(a:Option AV):Res:=match a with
 |some (.obool e)=>match op with
  | .not=> .val (.obool (.op .not [e])) h
  |_=> .bad
 |some (.oint k e)=>match op with
  | .neg=> .val (.oint k (.op (.un .neg k) [e])) h
  | .xor=> .val (.oint k (.op (.un .xor k) [e])) h
  |_=> .bad
 |_=> .bad
def d72(e x y:SX):SX:=match x,y with
 | .cb true,.cb false=>e
 | .cb false,.cb true=> .op .not [e]
 |x,y=> .op .ite [e,x,y]
def bS3(h:Heap)(e:SX)(a b:Option AV):Res:=match a.bind bn3,b.bind bn3 with
 |some x,some y=> .val (.obool (d72 e x y)) h
 |_,_=> .bad
def bS4(h:Heap)(e:SX)(a b:Option AV):Res:=match a,b with
 |some (.tup []),some y=> .need (.op .not [e]) y h
 |some x,some (.tup [])=> .need e x h
 |a,b=>bS3 h e a b
def ch5(h:Heap)(c a b:Option AV):Res:=match c with
 |some (.obool e)=>bS4 h e a b
 |_=> .bad
def bc4(c:CT)(e:SX):AV:=match c with
 | .int k=> .oint k e
 | .str=> .ostr e
 | .bool=> .obool e
def bJ5(sig:List CT)(l idx:SX):Nat→Nat→List AV
 |_,0=>[]
 |j,n+1=>bc4 (sig.getD j .bool) (.op .lget [l,idx,.ci j])::bJ5 sig l idx (j+1) n
def bc5(c:CT)(v:AV):Option SX:=match c with
 | .int k=>match aW5 v with
   |some (k',e)=>if k=k' then some e else none
   |none=>none
 | .str=>bm3 v
 | .bool=>bn3 v
def T6:List CT→List AV→Option (List SX)
 | [],[]=>some []
 |c::cs,v::vs=>match bc5 c v,T6 cs vs with
  |some e,some es=>some (e::es)
  |_,_=>none
 |_,_=>none
def b28(idx len:SX):SX:= .op .and [.op (.cmp .leq) [.ci 0,idx],.op (.cmp .lss) [idx,len]]
def ch6(P:Program)(t:TypeId)(h:Heap)(a:Option AV):Res:=match a with
 |some (.optr b idx j sz)=>match h.get b with
  |some (.arr _ sig l)=>match cS5 P t,ae2 P t with
   |some true,some n=>bif Nat.beq sig.length sz&&Nat.ble (j+n) sz then .need (b28 idx (.op .llen [l])) (.agg (bJ5 sig l idx j n)) h else .bad
   |some false,some _=>bif Nat.beq sig.length sz&&Nat.blt j sz then .need (b28 idx (.op .llen [l])) (bc4 (sig.getD j .bool) (.op .lget [l,idx,.ci j])) h else .bad
   |_,_=> .bad
  |some (.vec cs)=>match cS5 P t,idx with
   |some false,.ci (.ofNat k)=>bif Nat.beq sz 1&&Nat.beq j 0 then(match cs[k]? with
    |some a=> .val a h
    |none=> .bad)else .bad
   |_,_=> .bad
  |_=> .bad
 |_=> .bad
def d73(a b:SX):SX:=match a with
 | .ci 0=>b
 |a=> .op .iadd [a,b]
def cA3(a b:SX):SX:=match a with
 | .op (.cmp .leq) [.ci 0,.ci 0]=>b
 |a=> .op .and [a,b]
def an4(P:Program)(t:TypeId)(h:Heap)(x i:Option AV):Res:=match P.underlying t with
 |some (.slice elem)=>match ae2 P elem with
  |some s=>match i.bind aW5 with
   |some (_,i)=>match x with
    |some (.osl b off len sz)=>bif Nat.beq s sz then .need (cA3 (.op (.cmp .leq) [.ci 0,off]) (b28 i len)) (.optr b (d73 off i) 0 sz) h else .bad
    |some (.ous b len sz)=>bif Nat.beq s sz then .need (b28 i len) (.optr b i 0 sz) h else .bad
    |_=> .bad
   |none=> .bad
  |none=> .bad
 |_=> .bad
def an5(P:Program)(s:TypeId)(f:Nat)(h:Heap)(a:Option AV):Res:=match P.underlying s,a with
 |some (.struct fields),some (.optr b idx j sz)=>match fields[f]? with
  |some f=>match ae2 P f.type with
   |some (_+1)=> .val (.optr b idx (j+f.offset) sz) h
   |_=> .bad
  |none=> .bad
 |_,_=> .bad
def by3(P:Program)(t:TypeId)(h:Heap)(x i:Option AV):Res:=match P.underlying t,x.bind bm3,i.bind aW5 with
 |some .string,some s,some (_,i)=> .need (b28 i (.op .slen [s])) (.oint .u8 (.op .sat [s,i])) h
 |_,_,_=> .bad
def bQ1(k:IntKind)(e:SX):AV:=match e with
 | .ci n=> .int k n
 |e=> .oint k e
def d74(P:Program)(t:Option TypeDesc)(h:Heap)(x:AV):Res:=match t with
 |some .string=>match x with
  | .ostr e=> .val (.oint .i64 (.op .slen [e])) h
  |_=> .bad
 |some (.slice _)=>match x with
  | .osl _ _ len _=> .need (.op (.cmp .leq) [.ci 0,len]) (bQ1 .i64 len) h
  | .ous _ len _=> .need (.op (.cmp .leq) [.ci 0,len]) (bQ1 .i64 len) h
  |_=> .bad
 |_=> .bad
def yMM(b:Builtin)(x y:AV)(h:Heap):Res:=match aW5 x,aW5 y with
 |some (k,a),some (_,c)=>match b with
  | .max=> .val (.oint k (.op .imax [a,c])) h
  | .min=> .val (.oint k (.op .imin [a,c])) h
  |_=> .bad
 |_,_=> .bad
def dl3:AV→Option CT
 | .int k _=>some (.int k)
 | .oint k _=>some (.int k)
 | .str _=>some .str
 | .ostr _=>some .str
 | .bool _=>some .bool
 | .obool _=>some .bool
 |_=>none
def bc6:List AV→Option (List CT)
 | []=>some []
 |a::r=>match dl3 a,bc6 r with
  |some c,some cs=>some (c::cs)
  |_,_=>none
def ar6(sig:List CT)(sz:Nat):Nat→List AV→Option (List SX)
 |0,_=>some []
 |n+1,cs=>match T6 sig (cs.take sz),ar6 sig sz n (cs.drop sz)with
  |some e,some r=>some (.op .row e::r)
  |_,_=>none
def cA4(off len l:SX):SX:= .op .and [.op .and [.op (.cmp .leq) [.ci 0,off],.op (.cmp .leq) [.ci 0,len]],.op .and [.op (.cmp .leq) [.op .iadd [off,len],.op .llen [l]],.op .bok [.op .lsub [l,off,.op .iadd [off,len]]]]]
def av5(off len:SX)(sz:Nat)(x:Option Blk)(h:Heap):Res:=match x with
 |some (.arr _ [.int .u8] l)=>bif Nat.beq sz 1 then .need (cA4 off len l) (.ostr (.op .bstr [.op .lsub [l,off,.op .iadd [off,len]]])) h else .bad
 |_=> .bad
def av6(o n:Nat)(x:Option Blk)(h:Heap):Res:=match x with
 |some (.cells _ _ cs)=>bif Nat.ble (o+n) cs.length then(match ar6 [.int .u8] 1 n ((cs.drop o).take n)with
  |some rs=> .need (.op .bok [.op .row rs]) (.ostr (.op .bstr [.op .row rs])) h
  |none=> .bad)else .bad
 |_=> .bad
def b29(a:Option AV)(h:Heap):Res:=match a with
 |some (.osl b off len sz)=>av5 off len sz (h.get b) h
 |some (.ous b len sz)=>av5 (.ci 0) len sz (h.get b) h
 |some (.sl b o n _)=>av6 o n (h.get b) h
 |some (.us b o n _)=>av6 o n (h.get b) h
 |_=> .bad
def b30(e:TypeId)(a:Option AV)(h:Heap):Res:=match a with
 |some (.ostr s)=>bif Nat.blt h.next 65536 then .choice [(.ous h.next (.op .llen [.op .sbytes [s]]) 1,h.new (.arr e [.int .u8] (.op .sbytes [s])))]else .bad
 |_=> .bad
def ch7(P:Program)(s d:TypeId)(h:Heap)(a:Option AV):Res:=match P.underlying s,P.underlying d with
 |some _,some (.int k)=>match a with
  |some (.oint _ e)=> .val (.oint k (.op (.conv k) [e])) h
  |_=> .bad
 |some (.slice e),some .string=>bif u8T P e then b29 a h else .bad
 |some .string,some (.slice e)=>bif u8T P e then b30 e a h else .bad
 |some _,some .string=>match a with
  |some (.ostr e)=> .val (.ostr e) h
  |_=> .bad
 |_,_=> .bad
def U9:List CT→List CT→Bool
 | [],[]=>true
 |a::x,b::y=>decide (a=b)&&U9 x y
 |_,_=>false
def eqN(a b:SX):SX:=bif SX.beq a b then .cb true else .op (.cmp .eql) [a,b]
def cA5(sz:Nat)(y:AV)(h:Heap):Option (List CT×SX×SX):=match y with
 | .ous b len s=>match h.get b with
   |some (.arr _ sig l)=>bif Nat.beq s sz&&Nat.beq sig.length sz then some (sig,eqN len (.op .llen [l]),l)else none
   |_=>none
 | .osl b off len s=>match h.get b with
   |some (.arr _ sig l)=>bif Nat.beq s sz&&Nat.beq sig.length sz then bif SX.beq off (.ci 0)&&SX.beq len (.op .llen [l])then some (sig,.cb true,l)else some (sig,.op .and [.op (.cmp .leq) [.ci 0,off],.op .and [.op (.cmp .leq) [.ci 0,len],.op (.cmp .leq) [.op .iadd [off,len],.op .llen [l]]]],.op .lsub [l,off,.op .iadd [off,len]])else none
   |_=>none
 | .sl b o n _=>match h.get b with
   |some (.cells _ _ cs)=>bif Nat.ble (o+n*sz) cs.length&&Nat.blt 0 n then(match bc6 ((cs.drop o).take sz)with
    |some sig=>match ar6 sig sz n ((cs.drop o).take (n*sz))with
     |some rs=>some (sig,.cb true,.op .row rs)
     |none=>none
    |none=>none)else none
   |_=>none
 | .us b o n s=>match h.get b with
   |some (.cells _ _ cs)=>bif Nat.ble (o+n*sz) cs.length&&Nat.blt 0 n&&Nat.beq s sz then(match bc6 ((cs.drop o).take sz)with
    |some sig=>match ar6 sig sz n ((cs.drop o).take (n*sz))with
     |some rs=>some (sig,.cb true,.op .row rs)
     |none=>none
    |none=>none)else none
   |_=>none
 |_=>none
def bS5(sz:Nat)(y:AV):Option (List CT×SX×SX):=bif Nat.beq sz 1 then(match bm3 y with
 |some e=>some ([.int .u8],.cb true,.op .sbytes [e])
 |none=>none)else none
def ap9:Int:=1000000
def cu6(z:List AV)(y:AV):Option (List CT×SX×SX):=match aW5 y,bc6 z with
 |some (_,e),some sig=>(match T6 sig z with
  |some es=>some (sig,.op .and [.op (.cmp .leq) [.ci 0,e],.op (.cmp .leq) [e,.ci ap9]],.op .lrep [e,.op .row es])
  |none=>none)
 |_,_=>none
def db5(P:Program)(yt sz:Nat)(z:List AV)(y:AV)(h:Heap):Option (List CT×SX×SX):=match P.underlying yt with
 |some (.slice _)=>cA5 sz y h
 |some .string=>bS5 sz y
 |some (.int _)=>cu6 z y
 |_=>none
def bS6(elem s:Nat)(sig:List CT)(x:AV)(h:Heap):Option (AV×Heap):=match x with
 | .sl b o n c=>match h.get b with
   |some (.cells e fz cs)=>bif Nat.beq e elem&&Nat.ble h.wm b&&Nat.ble fz o&&Nat.ble (o+c*s) cs.length&&Nat.ble n c&&Nat.beq sig.length s&&Nat.blt h.next 65536 then(match ar6 sig s n ((cs.drop o).take (n*s))with
    |some rs=>some (.ous h.next (.op .llen [.op .row rs]) s,(h.put b none).new (.arr elem sig (.op .row rs)))
    |none=>none)else none
   |_=>none
 | .us b o n s'=>match h.get b with
   |some (.cells e fz cs)=>bif Nat.beq e elem&&Nat.ble h.wm b&&Nat.ble fz o&&Nat.ble (o+n*s) cs.length&&Nat.beq s' s&&Nat.beq sig.length s&&Nat.blt h.next 65536&&Nat.blt 0 s then(match ar6 sig s n ((cs.drop o).take (n*s))with
    |some rs=>some (.ous h.next (.op .llen [.op .row rs]) s,(h.put b none).new (.arr elem sig (.op .row rs)))
    |none=>none)else none
   |_=>none
 | .ous b (.ci 0) s'=>match h.get b with
   |some (.arr e sg _)=>bif Nat.beq e elem&&Nat.ble h.wm b&&U9 sg sig&&Nat.beq s' s&&Nat.beq sig.length s&&Nat.blt h.next 65536 then some (.ous h.next (.op .llen [.op .row []]) s,(h.put b none).new (.arr elem sig (.op .row [])))else none
   |_=>none
 |_=>none
def bS7(l y:SX):SX:=match l with
 | .op .row []=>y
 |l=> .op .lcat [l,y]
def cT4(elem s:Nat)(sig:List CT)(nd ly:SX)(x:AV)(h:Heap):Res:=match x with
 | .nils=>bif !(Nat.blt h.next 65536)then .bad else .need (aK8 nd (.op (.cmp .leq) [.op .llen [ly],.ci ap9])) (.ous h.next (.op .llen [ly]) s) (h.new (.arr elem sig ly))
 | .ous b len sz=>match h.get b with
   |some (.arr e sig' l)=>bif Nat.beq sz s&&Nat.beq e elem&&U9 sig' sig&&Nat.ble h.wm b&&Nat.blt h.next 65536&& !(Nat.beq e au8)then
    .need (aK8 nd (aK8 (eqN len (.op .llen [l])) (.op (.cmp .leq) [.op .llen [bS7 l ly],.ci ap9]))) (.ous h.next (.op .llen [bS7 l ly]) s) ((h.put b none).new (.arr elem sig (bS7 l ly)))else .bad
   |_=> .bad
 |_=> .bad
def cT5(elem s:Nat)(sig:List CT)(nd ly:SX)(x:AV)(h:Heap)(p:Option (AV×Heap)):Res:=match p with
 |some p=>cT4 elem s sig nd ly p.1 p.2
 |none=>cT4 elem s sig nd ly x h
def bn5(P:Program)(ts:Array TypeId)(x y:AV)(h:Heap):Res:=match(ts[0]?).bind P.underlying,ts[1]? with
 |some (.slice elem),some yt=>match P.info? elem,X0 P elem with
     |some i,some z=>match db5 P yt i.size z.cells y h with
      |some (sig,nd,ly)=>bif Nat.blt 0 i.size&&Nat.beq z.cells.length i.size&&Nat.ble i.bytes 1000&&Nat.beq ts.size 2&&Nat.beq sig.length i.size&& !(av0 P elem)then cT5 elem i.size sig nd ly x h (bS6 elem i.size sig x h)else .bad
      |none=> .bad
     |_,_=> .bad
 |_,_=> .bad
def b31(x:AV)(h:Heap):Res:=match x with
 | .ous b len sz=> .need (.op (.cmp .lss) [.ci 0,len]) (.optr b (.ci 0) 0 sz) h
 |_=> .bad
def aW6(l n:SX):SX:=bif SX.beq n (.op .llen [l])then l else .op .lsub [l,.ci 0,n]
def by4(P:Program)(pt b:Nat)(l n:SX)(e:Nat)(h:Heap):Res:=match P.underlying pt with
 |some (.pointer et)=>(match ae2 P et with
  |some 1=>bif Nat.beq e et&&Nat.ble h.wm b&& !(Nat.beq e au8)then .need (.op .and [.op .and [.op (.cmp .lss) [.ci 0,n],.op (.cmp .leq) [n,.ci ap9]],.op .and [.op (.cmp .leq) [n,.op .llen [l]],.op .bok [aW6 l n]]]) (.ostr (.op .bstr [aW6 l n])) (h.put b none)else .bad
  |_=> .bad)
 |_=> .bad
def by5(P:Program)(ts:Array TypeId)(b:Nat)(n:SX)(x:Option Blk)(h:Heap):Res:=match x,ts[0]? with
 |some (.arr e [.int .u8] l),some pt=>by4 P pt b l n e h
 |_,_=> .bad
def bn6(P:Program)(ts:Array TypeId)(x y:AV)(h:Heap):Res:=match x,aW5 y with
 | .optr b (.ci 0) 0 1,some (_,n)=>by5 P ts b n (h.get b) h
 |_,_=> .bad
def b32(P:Program)(b:Nat)(off len:SX)(sz:Nat)(z:List AV)(x:Option Blk)(h:Heap):Res:=match x with
 |some (.arr e sig l)=>(match T6 sig z with
  |some es=>bif Nat.beq sig.length sz&&Nat.blt 0 sz&&Nat.ble h.wm b&& !(Nat.beq e au8)&& !(av0 P e)then
   .need (.op .and [.op .and [.op (.cmp .leq) [.ci 0,off],.op (.cmp .leq) [.ci 0,len]],.op .and [.op (.cmp .leq) [len,.ci ap9],.op (.cmp .leq) [.op .iadd [off,len],.op .llen [l]]]]) .undef (h.put b (some (.arr e sig (.op .lcat [.op .lsub [l,.ci 0,off],.op .lcat [.op .lrep [len,.op .row es],.op .lsub [l,.op .iadd [off,len],.op .llen [l]]]]))))else .bad
  |none=> .bad)
 |_=> .bad
def bS8(P:Program)(t:Option TypeDesc)(x:AV)(h:Heap):Res:=match t with
 |some (.slice elem)=>(match X0 P elem with
  |some z=>bif av0 P elem then .bad else(match x with
   | .osl b off len sz=>b32 P b off len sz z.cells (h.get b) h
   | .ous b len sz=>b32 P b (.ci 0) len sz z.cells (h.get b) h
   |_=> .bad)
  |none=> .bad)
 |_=> .bad
def cA6(P:Program)(ts:Array TypeId)(x y:AV)(h:Heap):Res:=match(ts[0]?).bind P.underlying with
 |some (.slice elem)=>(match ae2 P elem,x,y with
  |some _,.ous _ len _,.nils=> .need (.op (.cmp .leq) [.ci 0,len]) (.int .i64 0) h
  |_,_,_=> .bad)
 |_=> .bad
def a82(l idx:SX):Nat→Nat→List SX
 |_,0=>[]
 |j,n+1=> .op .lget [l,idx,.ci j]::a82 l idx (j+1) n
def d75:List CT→Nat→Nat→SX
 | [],_,_=> .cb true
 |c::r,i,j=>aK8 (match c with
  | .int _=> .op (.cmp .eql) [.va i,.va j]
  | .str=> .op (.scmp .eql) [.va i,.va j]
  | .bool=> .op .beq [.va i,.va j]) (d75 r (i+1) (j+1))
def cg1:List CT→Nat→List AV
 | [],_=>[]
 |c::r,i=>bc4 c (.va i)::cg1 r (i+1)
def aB3(P:Program)(kt:TypeId)(ks:List CT):Bool:=aK7 P kt (.agg (cg1 ks 0))&&(match eqS P 10000 kt (.agg (cg1 ks 0)) (.agg (cg1 ks ks.length))with
 |some e=>SX.beq e (d75 ks 0 ks.length)
 |none=>false)
def dl4:AV→Bool
 | .agg _=>true
 |_=>false
def aW7(ks:List CT)(l:SX)(es:List SX):SX:= .op (.mfind ks) [l,.op .row es]
def aq0(ks:List CT)(l:SX)(es:List SX):SX:= .op (.cmp .lss) [aW7 ks l es,.op .llen [l]]
def ac4(ks:List CT)(l:SX)(es:List SX):List CT→Nat→List SX→List AV
 |c::cs,j,z::zs=>bc4 c (.op .ite [aq0 ks l es,.op .lget [l,aW7 ks l es,.ci j],z])::ac4 ks l es cs (j+1) zs
 |_,_,_=>[]
def b33:List AV→AV
 | [v]=>v
 |vs=> .agg vs
def a72(vs:List CT)(z:AV):Bool:=match vs with
 | []=>false
 | [_]=>z.one
 |_=>dl4 z
def an6(ks:List CT)(es zs:List SX)(l:SX):SX:=match l with
 | .op .ite [c,l0,.op .lcat [l1,.op .row [.op .row ez]]]=>bif SX.beq c (aq0 ks l0 es)&&SX.beq l1 l0&&SX.beqs ez (es++zs)then l0 else l
 |l=>l
def bS9(P:Program)(kt et:TypeId)(h:Heap)(b:Option Blk)(cs:List AV)(ok:Bool):Res:=match b,X0 P et with
 |some (.marr _ ks vs l),some z=>match T6 ks cs,T6 vs z.cells with
  |some es,some zs=>bif aB3 P kt ks&&Nat.ble 2 ks.length&&a72 vs z then .val (bif ok then .tup [b33 (ac4 ks l es vs ks.length zs),.obool (aq0 ks l es)]else b33 (ac4 ks (an6 ks es zs l) es vs ks.length zs)) h else .bad
  |_,_=> .bad
 |_,_=> .bad
def b34(P:Program)(t:TypeId)(h:Heap)(m k:Option AV)(ok:Bool):Res:=match P.underlying t with
 |some (.map kt et)=>match m with
  |some (.map r)=>match k with
   |some (.agg cs)=>bS9 P kt et h (h.get r) cs ok
   |_=> .bad
  |_=> .bad
 |_=> .bad
def cT6(ks:List CT)(l:SX)(es xs:List SX):SX:= .op .ite [aq0 ks l es,.op .lset [l,aW7 ks l es,.op .row (es++xs)],.op .lcat [l,.op .row [.op .row (es++xs)]]]
def bT0(P:Program)(kt:TypeId)(h:Heap)(r:Nat)(b:Option Blk)(ks vs:List CT)(z:AV)(cs:List AV)(x:AV):Res:=match T6 ks cs,T6 vs x.cells with
 |some es,some xs=>bif aB3 P kt ks&&Nat.ble 2 ks.length&&a72 vs x&&Nat.ble h.wm r then(match b with
  |some (.marr d ks' vs' l)=>bif U9 ks' ks&&U9 vs' vs then .val .undef (h.put r (some (.marr d ks vs (cT6 ks l es xs))))else .bad
  |some (.map [] c)=> .val .undef (h.put r (some (.marr (Nat.beq c 0) ks vs (.op .row [.op .row (es++xs)]))))
  |_=> .bad)else .bad
 |_,_=> .bad
def by6(P:Program)(t:TypeId)(h:Heap)(m k x:Option AV):Res:=match P.underlying t with
 |some (.map kt et)=>match m with
  |some (.map r)=>match k with
   |some (.agg cs)=>match x with
    |some x=>match X0 P kt,X0 P et with
     |some zk,some z=>match bc6 zk.cells,bc6 z.cells with
      |some ks,some vs=>bT0 P kt h r (h.get r) ks vs z cs x
      |_,_=> .bad
     |_,_=> .bad
    |none=> .bad
   |_=> .bad
  |_=> .bad
 |_=> .bad
def cT7(ks:List CT)(l:SX)(es zs:List SX):SX:= .op .ite [aq0 ks l es,l,.op .lcat [l,.op .row [.op .row (es++zs)]]]
def bT1(P:Program)(kt:TypeId)(h:Heap)(r:Nat)(b:Option Blk)(ks vs:List CT)(z:AV)(cs:List AV):Res:=match T6 ks cs,T6 vs z.cells with
 |some es,some zs=>bif aB3 P kt ks&&Nat.ble 2 ks.length&&a72 vs z&&Nat.ble h.wm r then(match b with
  |some (.marr true ks' vs' l)=>bif U9 ks' ks&&U9 vs' vs then .val (.tup [b33 (ac4 ks l es vs ks.length zs),.oint .i64 (aW7 ks l es)]) (h.put r (some (.marr true ks vs (cT7 ks l es zs))))else .bad
  |some (.map [] 0)=> .val (.tup [z,.oint .i64 (.ci 0)]) (h.put r (some (.marr true ks vs (.op .row [.op .row (es++zs)]))))
  |_=> .bad)else .bad
 |_,_=> .bad
def bn7(P:Program)(t:TypeId)(h:Heap)(m k:Option AV):Res:=match P.underlying t with
 |some (.map kt et)=>match m with
  |some (.map r)=>match k with
   |some (.agg cs)=>match X0 P kt,X0 P et with
    |some zk,some z=>match bc6 zk.cells,bc6 z.cells with
     |some ks,some vs=>bT1 P kt h r (h.get r) ks vs z cs
     |_,_=> .bad
    |_,_=> .bad
   |_=> .bad
  |_=> .bad
 |_=> .bad
def bT2(h:Heap)(r:Nat)(b:Option Blk)(e:Option SX)(x:AV):Res:=match b,e with
 |some (.marr true ks vs l),some e=>match T6 vs x.cells with
  |some xs=>bif a72 vs x&&Nat.ble h.wm r then .need (b28 e (.op .llen [l])) .undef (h.put r (some (.marr true ks vs (.op .lset [l,e,.op .row (a82 l e 0 ks.length++xs)]))))else .bad
  |none=> .bad
 |_,_=> .bad
def cA7:AV→Option SX
 | .oint .i64 e=>some e
 | .int .i64 n=>some (.ci n)
 |_=>none
def bT3(h:Heap)(m s x:Option AV):Res:=match m,s,x with
 |some (.map r),some s,some x=>bT2 h r (h.get r) (cA7 s) x
 |_,_,_=> .bad
def cT8(P:Program)(kt:TypeId)(h:Heap)(r:Nat)(b:Option Blk)(cs:List AV):Res:=match b with
 |some (.marr _ ks vs l)=>match T6 ks cs with
  |some es=>bif aB3 P kt ks&&Nat.ble 2 ks.length&&Nat.ble h.wm r then .need (.cb true) .undef (h.put r (some (.marr false ks vs (.op (.mdel ks) [l,.op .row es]))))else .bad
  |none=> .bad
 |_=> .bad
def db6(P:Program)(u:Option TypeDesc)(h:Heap)(m k:AV):Res:=match u with
 |some (.map kt _)=>match m with
  | .map r=>match k with
    | .agg cs=>cT8 P kt h r (h.get r) cs
    |_=> .bad
  |_=> .bad
 |_=> .bad
def aH8(P:Program)(b:Builtin)(ts:Array TypeId)(h:Heap)(args:Option (List AV)):Res:=match args with
 |some [x]=>match b with
  | .len=>d74 P ((ts[0]?).bind P.underlying) h x
  | .unsafeSliceData=>b31 x h
  | .clear=>bS8 P ((ts[0]?).bind P.underlying) x h
  |_=> .bad
 |some [x,y]=>match b with
  | .append=>bn5 P ts x y h
  | .unsafeString=>bn6 P ts x y h
  | .copy=>cA6 P ts x y h
  | .delete=>db6 P ((ts[0]?).bind P.underlying) h x y
  |_=>yMM b x y h
 |_=> .bad
def ch8(P:Program)(ρ:Operand→Option AV)(c:Call)(h:Heap):Res:=match c.callee with
 | .builtin b=>aH8 P b c.argTypes h (evs ρ c.args.toList)
 |_=> .bad
def bT4(e:Nat)(sig:List CT)(l idx:SX)(b j n:Nat)(h:Heap)(es:Option (List SX)):Res:=match es with
 |some es=> .need (b28 idx (.op .llen [l])) .undef (h.put b (some (.arr e sig (.op .lset [l,idx,.op .row (a82 l idx 0 j++(es++a82 l idx (j+n) (sig.length-(j+n))))]))))
 |none=> .bad
def bT5(P:Program)(b:Nat)(idx:SX)(j sz n:Nat)(v:AV)(h:Heap)(x:Option Blk):Res:=match x with
 |some (.arr e sig l)=>bif Nat.beq sig.length sz&&Nat.ble (j+n) sz&&v.nt&&Nat.beq v.cells.length n&&Nat.ble h.wm b&&Nat.blt 0 n&& !(av0 P e)&& !(Nat.beq e au8)then bT4 e sig l idx b j n h (T6 ((sig.drop j).take n) v.cells)else .bad
 |_=> .bad
def bT6(P:Program)(t:TypeId)(h:Heap)(a v:Option AV):Res:=match a,v,ae2 P t with
 |some (.optr b idx j sz),some v,some n=>bT5 P b idx j sz n v h (h.get b)
 |_,_,_=> .bad
def cu7(x:Option (Option AV))(d:SX):Option SX:=match x with
 |some none=>some d
 |some (some v)=>(aW5 v).map (·.2)
 |none=>none
def cQ0(lo hi n:SX):SX:=aK8 (bif SX.beq lo (.ci 0)then .cb true else .op (.cmp .leq) [.ci 0,lo]) (aK8 (.op (.cmp .leq) [lo,hi]) (bif SX.beq hi n then .cb true else .op (.cmp .leq) [hi,n]))
def cu8(a b:SX):SX:=match b with
 | .ci 0=>a
 |b=> .op .isub [a,b]
def bT7(s:SX)(h:Heap)(lo hi:Option SX):Res:=match lo,hi with
 |some lo,some hi=> .need (cQ0 lo hi (.op .slen [s])) (.ostr (.op .ssub [s,lo,hi])) h
 |_,_=> .bad
def bT8(b:Nat)(off len:SX)(sz:Nat)(h:Heap)(lo hi:Option SX):Res:=match lo,hi with
 |some lo,some hi=> .need (aK8 (bif SX.beq off (.ci 0)then .cb true else .op (.cmp .leq) [.ci 0,off]) (cQ0 lo hi len)) (.osl b (d73 off lo) (cu8 hi lo) sz) h
 |_,_=> .bad
def bT9(b:Nat)(len:SX)(sz:Nat)(h:Heap)(lo hi:Option SX):Res:=match lo,hi with
 |some lo,some hi=>bif SX.beq lo (.ci 0)then .need (cQ0 (.ci 0) hi len) (.ous b hi sz) h else .need (cQ0 lo hi len) (.osl b lo (cu8 hi lo) sz) h
 |_,_=> .bad
def by7(P:Program)(t:TypeId)(h:Heap)(x:Option AV)(lo hi mx:Option (Option AV)):Res:=match x,mx with
 |some x,some none=>(match P.underlying t with
  |some .string=>(match bm3 x with
   |some s=>bT7 s h (cu7 lo (.ci 0)) (cu7 hi (.op .slen [s]))
   |none=> .bad)
  |some (.slice elem)=>(match ae2 P elem,x with
   |some s,.osl b off len sz=>bif Nat.beq s sz then bT8 b off len sz h (cu7 lo (.ci 0)) (cu7 hi len)else .bad
   |some s,.ous b len sz=>bif Nat.beq s sz then bT9 b len sz h (cu7 lo (.ci 0)) (cu7 hi len)else .bad
   |_,_=> .bad)
  |_=> .bad)
 |_,_=> .bad
def aL0(E:Env)(ρ:Operand→Option AV)(o:Oper)(h:Heap):Res:=
 match o.op with
 | .binOp op t x y _=>ch4 E.P op t x y h (ρ x) (ρ y)
 | .unOp op _ x=>yUn op h (ρ x)
 | .convert s d x=>ch7 E.P s d h (ρ x)
 | .pick c a b=>ch5 h (ρ c) (ρ a) (ρ b)
 | .load t a=>ch6 E.P t h (ρ a)
 | .indexAddr t x i=>an4 E.P t h (ρ x) (ρ i)
 | .fieldAddr s x f=>an5 E.P s f h (ρ x)
 | .index t x i=>by3 E.P t h (ρ x) (ρ i)
 | .store t a x=>bT6 E.P t h (ρ a) (ρ x)
 | .slice t x lo hi mx=>by7 E.P t h (ρ x) (evo ρ lo) (evo ρ hi) (evo ρ mx)
 | .lookup t m k ok=>b34 E.P t h (ρ m) (ρ k) ok
 | .mapUpdate t m k x=>by6 E.P t h (ρ m) (ρ k) (ρ x)
 | .insert t m k x=>by6 E.P t h (ρ m) (ρ k) (ρ x)
 | .mapEntry t m k=>bn7 E.P t h (ρ m) (ρ k)
 | .entryStore _ m s x=>bT3 h (ρ m) (ρ s) (ρ x)
 | .call c=>ch8 E.P ρ c h
 |_=> .bad
def cT9(r:Res)(s:Res):Res:=match r with
 | .bad=>s
 |r=>r
def U3(E:Env)(ρ:Operand→Option AV)(o:Oper)(h:Heap):Res:=cT9 (av4 E ρ o h) (aL0 E ρ o h)
def a73(o:Oper):Bool:=
 match o.op with
 | .move _| .pick .. | .alloc _| .box .. | .build .. | .buildSlice .. | .load .. | .nilCheck _| .binOp .. | .unOp .. | .makeInterface .. | .makeFunc ..
 | .makeMap .. | .makeSlice .. | .slice .. | .fieldAddr .. | .field .. | .indexAddr .. | .index .. | .lookup .. | .extract .. | .convert .. | .typeAssert .. =>true
 | .call {callee:= .builtin .len,..}| .call {callee:= .builtin .cap,..}| .call {callee:= .builtin .min,..}| .call {callee:= .builtin .max,..}=>true
 |_=>false
def T7(o:Oper):Bool:=
 match o.op with
 | .alloc _| .box .. | .buildSlice .. | .makeMap .. | .makeSlice .. =>true
 |_=>false
def a33(e:Edge):Bool:=match e.ground with
 | .textOnly _| .gcOnly _=>false
 |_=>true
def aL1(acc:List Nat):List Edge→Nat
 | []=>0
 |e::r=>bif a33 e then(2^e.on|||acc.getD e.on 0)|||aL1 acc r else aL1 acc r
def bU0:List Oper→List Nat→Option (List Nat)
 | [],acc=>some acc
 |o::r,acc=>bif o.after.toList.all (fun e=> !a33 e||Nat.blt e.on acc.length)then bU0 r (acc++[aL1 acc o.after.toList])else none
def cu9:Operand→List Nat
 | .tmp t=>[t]
 |_=>[]
def a11(ops:List Oper)(o:Oper):List Nat:=
 o.op.operands.toList.flatMap cu9++(match o.guard with
  |some (j,_)=>match ops[j]? with
   |some g=>g.dst.toList
   |none=>[]
  |none=>[])
structure PO where
 i:Nat
 o:Oper
 m:Nat
 fl:Bool
def aG3:List Oper→List Nat→Nat→List PO
 |o::r,m::ms,i=>⟨i,o,m,a73 o⟩::aG3 r ms (i+1)
 |_,_,_=>[]
def db7(done:Nat):List PO→List PO×List PO×Nat
 | []=>([],[],done)
 |x::r=>bif x.fl&&Nat.beq (x.m&&&done) x.m then
  let (a,b,d):=db7 (done|||2^x.i) r
  (x::a,b,d)
  else
   let (a,b,d):=db7 done r
   (a,x::b,d)
def cU0:Nat→Nat→List PO→List PO
 |0,_,l=>l
 |f+1,done,l=>
  match db7 done l with
  |(a,b,d)=>match b.find? (fun x=> !x.fl)with
   |none=>a++b
   |some c=>a++c::cU0 f (d|||2^c.i) (b.filter fun x=> !(Nat.beq x.i c.i))
def bJ6(o:Oper)(t:Nat):Bool:=match o.dst with
 |some d=>Nat.beq d t
 |none=>false
def cA8(ops:List Oper)(l:List PO):Bool:=
 l.all fun x=>((a11 ops x.o).all fun t=>l.all fun y=> !(bJ6 y.o t)||x.m.testBit y.i||(!y.fl&&y.m.testBit x.i))&&
  (match x.o.dst with
  |none=>true
  |some d=>l.all fun y=> !(bJ6 y.o d)||Nat.beq x.i y.i)
def cA9(l:List PO):Bool:=
 l.all fun x=>x.fl||l.all fun y=>y.fl|| !(Nat.blt y.i x.i)||x.m.testBit y.i
def eager:Nat→List PO→Bool
 |_,[]=>true
 |done,x::r=>Nat.beq (x.m&&&done) x.m&& !(done.testBit x.i)&&(x.fl||r.all (fun y=> !y.fl|| !(Nat.beq (y.m&&&done) y.m)))&&eager (done|||2^x.i) r
def cB0(ops:List Oper)(l:List PO):List PO:=(cU0 (ops.length+1) 0 l).filterMap fun y=>l[y.i]?
def cU1(ops:List Oper):Option (List PO):=
 match bU0 ops []with
 |none=>none
 |some ms=>bif cA8 ops (aG3 ops ms 0)&&cA9 (aG3 ops ms 0)&&eager 0 (cB0 ops (aG3 ops ms 0))&&
  (aG3 ops ms 0).all (fun x=>(cB0 ops (aG3 ops ms 0)).any fun y=>Nat.beq x.i y.i)then some (cB0 ops (aG3 ops ms 0))else none
mutual
def AV.beq:AV→AV→Bool
 | .bool a,.bool b=>a==b
 | .int k a,.int k' b=>decide (k=k')&&bx2 a b
 | .str a,.str b=>cz8 a b
 | .nilp,.nilp| .nils,.nils| .es0,.es0| .nilm,.nilm| .nilf,.nilf| .nili,.nili=>true
 | .ptr a b,.ptr c d=>Nat.beq a c&&Nat.beq b d
 | .glob a,.glob b| .map a,.map b| .opq a,.opq b=>Nat.beq a b
 | .ostr a,.ostr b| .obool a,.obool b=>SX.beq a b
 | .osl a b c d,.osl a' b' c' d'=>Nat.beq a a'&&SX.beq b b'&&SX.beq c c'&&Nat.beq d d'
 | .optr a b c d,.optr a' b' c' d'=>Nat.beq a a'&&SX.beq b b'&&Nat.beq c c'&&Nat.beq d d'
 | .ous a b c,.ous a' b' c'=>Nat.beq a a'&&SX.beq b b'&&Nat.beq c c'
 | .any,.any=>true
 | .atl a,.atl b=>Nat.beq a b
 | .oint k a,.oint k' b=>decide (k=k')&&SX.beq a b
 | .es a b c,.es a' b' c'=>Nat.beq a a'&&Nat.beq b b'&&Nat.beq c c'
 | .sl a b c d,.sl a' b' c' d'=>Nat.beq a a'&&Nat.beq b b'&&Nat.beq c c'&&Nat.beq d d'
 | .us a b c d,.us a' b' c' d'=>Nat.beq a a'&&Nat.beq b b'&&Nat.beq c c'&&Nat.beq d d'
 | .func f a b,.func g c d=>decide (f=g)&&AV.beqs a c&&AV.beqs b d
 | .iface t v,.iface u w=>Nat.beq t u&&AV.beq v w
 | .agg a,.agg b| .tup a,.tup b=>AV.beqs a b
 |_,_=>false
def AV.beqs:List AV→List AV→Bool
 | [],[]=>true
 |a::x,b::y=>AV.beq a b&&AV.beqs x y
 |_,_=>false
end
mutual
def T2(v0:Nat):SX→Bool
 | .va m=>Nat.blt m v0
 | .op _ l=>a95 v0 l
 | .app _ l=>a95 v0 l
 |_=>true
def a95(v0:Nat):List SX→Bool
 | []=>true
 |a::r=>T2 v0 a&&a95 v0 r
end
mutual
def okA(v0 nb:Nat):AV→Bool
 | .bool _| .int _ _| .str _| .nilp| .glob _| .nils| .es0| .nilm| .nilf| .nili| .opq _| .atl _| .any=>true
 | .ptr b _=>Nat.blt b nb
 | .sl b _ _ _=>Nat.blt b nb
 | .us b _ _ _=>Nat.blt b nb
 | .es b _ _=>Nat.blt b nb
 | .map b=>Nat.blt b nb
 | .yield b=>Nat.blt b nb
 | .func _ x y=>bQ2 v0 nb x&&bQ2 v0 nb y
 | .iface _ v=>okA v0 nb v
 | .agg l=>bQ2 v0 nb l
 | .tup l=>bQ2 v0 nb l
 | .oint _ e=>T2 v0 e
 | .ostr e=>T2 v0 e
 | .obool e=>T2 v0 e
 | .osl b x y _=>Nat.blt b nb&&T2 v0 x&&T2 v0 y
 | .optr b x _ _=>Nat.blt b nb&&T2 v0 x
 | .ous b x _=>Nat.blt b nb&&T2 v0 x
def bQ2(v0 nb:Nat):List AV→Bool
 | []=>true
 |a::r=>okA v0 nb a&&bQ2 v0 nb r
end
def bn8(v0:Nat)(e:SX):Option Nat:=match e with
 | .va m=>bif Nat.ble v0 m then some (m-v0)else none
 |_=>none
def bn9(v0 n:Nat)(p x:SX):Option (List SX):=match bn8 v0 p with
 |some m=>bif Nat.beq m n then some [x]else none
 |none=>bif SX.beq p x&&T2 v0 x then some []else none
def cv0(v0 n:Nat)(p:SX)(x:Option SX):Option (List SX):=match x with
 |some x=>bn9 v0 n p x
 |none=>none
def d76(v0 n:Nat)(k:IntKind)(p:SX)(x:Option (IntKind×SX)):Option (List SX):=match x with
 |some (k',x)=>if k=k' then bn9 v0 n p x else none
 |none=>none
def bo0(v0 n:Nat)(p q x y:SX):Option (List SX):=match bn9 v0 n p x with
 |some es=>match bn9 v0 (n+es.length) q y with
  |some fs=>some (es++fs)
  |none=>none
 |none=>none
def bc7(v0 nb n b:Nat)(p q:SX)(s:Nat)(x:AV):Option (List SX):=match x with
 | .osl b' x y s'=>bif Nat.beq b b'&&Nat.beq s s'&&Nat.blt b nb then bo0 v0 n p q x y else none
 |_=>none
def bc8(v0 nb n b:Nat)(p:SX)(s:Nat)(x:AV):Option (List SX):=match x with
 | .ous b' x s'=>bif Nat.beq b b'&&Nat.beq s s'&&Nat.blt b nb then bn9 v0 n p x else none
 |_=>none
mutual
def S1(v0 nb n:Nat):AV→AV→Option (List SX)
 | .any,_=>some []
 | .oint k p,x=>d76 v0 n k p (aW5 x)
 | .ostr p,x=>cv0 v0 n p (bm3 x)
 | .obool p,x=>cv0 v0 n p (bn3 x)
 | .agg ps,.agg xs=>ar7 v0 nb n ps xs
 | .osl b p q s,x=>bc7 v0 nb n b p q s x
 | .ous b p s,x=>bc8 v0 nb n b p s x
 |p,x=>bif AV.beq p x&&okA v0 nb x then some []else none
def ar7(v0 nb n:Nat):List AV→List AV→Option (List SX)
 | [],[]=>some []
 |p::ps,x::xs=>match S1 v0 nb n p x with
  |some e=>match ar7 v0 nb (n+e.length) ps xs with
   |some es=>some (e++es)
   |none=>none
  |none=>none
 |_,_=>none
end
def aL2(v0 nb:Nat):List Ent→List Ent→Bool
 | [],[]=>true
 |a::x,b::y=>AV.beq a.key b.key&&AV.beq a.val b.val&&Nat.beq a.born b.born&&okA v0 nb b.key&&okA v0 nb b.val&&aL2 v0 nb x y
 |_,_=>false
def bo1(v0 nb n:Nat)(p x:Blk):Option (List SX):=match p,x with
 | .cells e fz ps,.cells e' fz' xs=>bif Nat.beq e e'&&Nat.beq fz fz'&&ps.all AV.oneA then ar7 v0 nb n ps xs else none
 | .arr e sig p,.arr e' sig' x=>bif Nat.beq e e'&&U9 sig sig' then bn9 v0 n p x else none
 | .map es c,.map es' c'=>bif aL2 v0 nb es es'&&Nat.beq c c' then some []else none
 | .marr d ks vs p,.marr d' ks' vs' x=>bif (!d||d')&&(U9 ks ks'&&U9 vs vs')then bn9 v0 n p x else none
 | .marr d _ _ p,.map [] c=>bif !d||Nat.beq c 0 then bn9 v0 n p (.op .row [])else none
 | .bag e sig p,.bag e' sig' x=>bif Nat.beq e e'&&U9 sig sig' then bn9 v0 n p x else none
 |_,_=>none
def aW8(v0 nb n:Nat)(p x:Option Blk):Option (List SX):=match p with
 |none=>some []
 |some p=>match x with
  |some x=>bo1 v0 nb n p x
  |none=>none
def ch9(v0 nb:Nat)(aP a:Fr):Nat→Nat→Nat→Option (List SX)
 |0,_,_=>some []
 |m+1,t,n=>match S1 v0 nb n (aP.slot t) (a.slot t)with
  |some e=>match ch9 v0 nb aP a m (t+1) (n+e.length)with
   |some es=>some (e++es)
   |none=>none
  |none=>none
def ci0(v0 nb:Nat)(hP h:Heap):Nat→Nat→Nat→Option (List SX)
 |0,_,_=>some []
 |m+1,b,n=>match aW8 v0 nb n (hP.get b) (h.get b)with
  |some e=>match ci0 v0 nb hP h m (b+1) (n+e.length)with
   |some es=>some (e++es)
   |none=>none
  |none=>none
def ad4(a:Fr):Bool:=a.ds.isEmpty&&a.ro.isNone
def a96(v0:Nat)(aP:Fr)(hP:Heap)(a:Fr)(h:Heap):Option (List SX):=
 bif ad4 aP&&ad4 a&&Nat.beq aP.nt a.nt&&Nat.ble hP.next h.next&&Nat.beq hP.wm h.wm then
  (match ch9 v0 hP.next aP a aP.nt 0 0 with
  |some es=>match ci0 v0 hP.next hP h hP.next 0 es.length with
   |some fs=>some (es++fs)
   |none=>none
  |none=>none)
 else none
def V9(a:Fr):List (Nat×AV)→Fr
 | []=>a
 |(t,v)::r=>V9 (a.put (some t) v) r
def layDead(a:Fr):List Nat→Fr
 | []=>a
 |t::r=>layDead (a.put (some t) .any) r
def cU2(n:Nat)(t:TH)(_ wm:Nat):Heap:=⟨t,n,wm⟩
def Heap.upto(h:Heap)(n:Nat):Heap:=Heap.rec (cU2 n) h
def a12(h:Heap):List (Nat×Option Blk)→Heap
 | []=>h
 |(b,x)::r=>a12 (h.put b x) r
def by8(a:Fr)(b:Nat):Nat→Bool
 |0=>false
 |t+1=>(match a.slot t with
  | .ptr b' _=>Nat.beq b b'
  | .map b'=>Nat.beq b b'
  |_=>false)||by8 a b t
def cU3(h:Heap)(b:Nat):Bool:=match h.get b with
 |some (.arr _ _ _)=>true
 |_=>false
def cU4(b:Nat):AV→Bool
 | .map b'=>Nat.beq b b'
 |_=>false
def cU5(b:Nat)(x:Option Blk):Bool:=match x with
 |some (.cells _ _ cs)=>cs.any (cU4 b)
 |_=>false
def cv1(b:Nat)(h:Heap):AV→Bool
 | .ptr c _=>cU5 b (h.get c)
 |_=>false
def by9(a:Fr)(h:Heap)(b:Nat):Nat→Bool
 |0=>false
 |t+1=>(match a.slot t with
  | .func _ _ l=>l.any (cv1 b h)
  |_=>false)||by9 a h b t
def bz0(a:Fr)(h:Heap)(n0:Nat)(next:Nat)(l:List (Nat×Option Blk)):Bool:=l.all fun p=>Nat.blt p.1 next&&(Nat.ble n0 p.1||by8 a p.1 a.nt||cU3 h p.1||by9 a h p.1 a.nt)
def U8(v0:Nat)(q:Nat→SX)(e:SX):SX:=match bn8 v0 e with
 |some m=>q m
 |none=>e
mutual
def aL3(v0:Nat)(q:Nat→SX):AV→AV
 | .oint k e=> .oint k (U8 v0 q e)
 | .ostr e=> .ostr (U8 v0 q e)
 | .obool e=> .obool (U8 v0 q e)
 | .agg l=> .agg (aY7 v0 q l)
 | .osl b x y s=> .osl b (U8 v0 q x) (U8 v0 q y) s
 | .ous b x s=> .ous b (U8 v0 q x) s
 |x=>x
def aY7(v0:Nat)(q:Nat→SX):List AV→List AV
 | []=>[]
 |a::r=>aL3 v0 q a::aY7 v0 q r
end
def bo2(v0:Nat)(q:Nat→SX)(x:Option Blk):Option Blk:=match x with
 |some (.cells e fz cs)=>some (.cells e fz (aY7 v0 q cs))
 |some (.arr e sig l)=>some (.arr e sig (U8 v0 q l))
 |some (.marr d ks vs l)=>some (.marr d ks vs (U8 v0 q l))
 |some (.bag e sig l)=>some (.bag e sig (U8 v0 q l))
 |x=>x
def okB(v0 nb:Nat):Option Blk→Bool
 |none=>true
 |some (.cells _ _ cs)=>bQ2 v0 nb cs
 |some (.arr _ _ l)=>T2 v0 l
 |some (.marr _ _ _ l)=>T2 v0 l
 |some (.bag _ _ l)=>T2 v0 l
 |some (.map es _)=>aL2 v0 nb es es
 |_=>false
def cB1(v0 nb:Nat)(a:Fr):Nat→Bool
 |0=>true
 |t+1=>okA v0 nb (a.slot t)&&cB1 v0 nb a t
def d77(v0 nb:Nat)(h:Heap):Nat→Bool
 |0=>true
 |t+1=>okB v0 nb (h.get t)&&d77 v0 nb h t
mutual
def noB(b:Nat):AV→Bool
 | .ptr c _=> !(Nat.beq c b)
 | .sl c _ _ _=> !(Nat.beq c b)
 | .us c _ _ _=> !(Nat.beq c b)
 | .es c _ _=> !(Nat.beq c b)
 | .map c=> !(Nat.beq c b)
 | .yield c=> !(Nat.beq c b)
 | .func _ x y=>bo3 b x&&bo3 b y
 | .iface _ v=>noB b v
 | .agg l=>bo3 b l
 | .tup l=>bo3 b l
 | .osl c _ _ _=> !(Nat.beq c b)
 | .optr c _ _ _=> !(Nat.beq c b)
 | .ous c _ _=> !(Nat.beq c b)
 |_=>true
def bo3(b:Nat):List AV→Bool
 | []=>true
 |a::r=>noB b a&&bo3 b r
end
def bU1(b:Nat):Option Blk→Bool
 |none=>true
 |some (.cells _ _ cs)=>bo3 b cs
 |some (.arr _ _ _)=>true
 |some (.map es _)=>es.all fun e=>noB b e.key&&noB b e.val
 |some (.marr _ _ _ _)=>true
 |some (.bag _ _ _)=>true
 |some (.mrg it _ _ _ _)=> !(Nat.beq it b)
 |some (.mit m)=> !(Nat.beq m b)
 |some (.vec cs)=>bo3 b cs
 |_=>false
def bU2(b t:Nat)(a:Fr):Nat→Bool
 |0=>a.ds.isEmpty
 |s+1=>(Nat.beq s t||noB b (a.slot s))&&bU2 b t a s
def cv2(b:Nat)(h:Heap):Nat→Bool
 |0=>true
 |s+1=>bU1 b (h.get s)&&cv2 b h s
def ar8(o:OwnP)(a:Fr)(h:Heap)(l:SX):Fr×Heap:=(a.put (some o.slot) (.ous o.blk (.op .llen [l]) o.sig.length),h.put o.blk (some (.arr o.elem o.sig l)))
def ci1(len l:SX):Bool:=SX.beq len (.op .llen [l])||(match len,l with
 | .ci 0,.op .row []=>true
 |_,_=>false)
def bU3(o:OwnP)(a:Fr)(h:Heap):Option (Fr×Heap):=
 match a.slot o.slot with
 | .ous r len sz=>bif Nat.beq r o.blk then(match h.get r with
     |some (.arr e sig l)=>bif Nat.beq e o.elem&&U9 sig o.sig&&Nat.beq sz sig.length then some (a,h)else none
     |_=>none)
   else bif Nat.blt o.slot a.nt&&Nat.blt o.blk h.next&&Nat.blt o.blk 65536&&(h.get o.blk).isNone&&bU2 o.blk o.slot a a.nt&&cv2 o.blk h h.next&&Nat.ble h.wm r then(match h.get r with
    |some (.arr e sig l)=>bif Nat.beq e o.elem&&U9 sig o.sig&&Nat.beq sz sig.length&&ci1 len l then some (ar8 o a (h.put r none) l)else none
    |_=>none)else none
 | .nils=>bif Nat.blt o.slot a.nt&&Nat.blt o.blk h.next&&Nat.blt o.blk 65536&&(h.get o.blk).isNone&&bU2 o.blk o.slot a a.nt&&cv2 o.blk h h.next then some (ar8 o a h (.op .row []))else none
 | .us r 0 n sz=>bif Nat.blt o.slot a.nt&&Nat.blt o.blk h.next&&Nat.blt o.blk 65536&&(h.get o.blk).isNone&&bU2 o.blk o.slot a a.nt&&cv2 o.blk h h.next&&Nat.ble h.wm r&&Nat.blt 0 sz then(match h.get r with
     |some (.cells e 0 cs)=>bif Nat.beq e o.elem&&Nat.beq sz o.sig.length&&Nat.beq cs.length (n*sz)then(match ar6 o.sig sz n cs with
      |some rs=>some (ar8 o a (h.put r none) (.op .row rs))
      |none=>none)else none
     |_=>none)else none
 | .sl r p n c=>bif Nat.blt o.slot a.nt&&Nat.blt o.blk h.next&&Nat.blt o.blk 65536&&(h.get o.blk).isNone&&bU2 o.blk o.slot a a.nt&&cv2 o.blk h h.next&&Nat.ble h.wm r then(match h.get r with
     |some (.cells e fz cs)=>bif Nat.beq e o.elem&&Nat.ble fz p&&Nat.ble (p+c*o.sig.length) cs.length&&Nat.ble n c then(match ar6 o.sig o.sig.length n ((cs.drop p).take (n*o.sig.length))with
      |some rs=>some (ar8 o a (h.put r none) (.op .row rs))
      |none=>none)else none
     |_=>none)else none
 |_=>none
def aq7(o:OwnP)(c i e fz:Nat)(cs:List AV)(h:Heap)(l:SX):Heap:=(h.put c (some (.cells e fz (cs.set i (.ous o.blk (.op .llen [l]) o.sig.length))))).put o.blk (some (.arr o.elem o.sig l))
def ci2(b c:Nat)(cs:List AV)(h:Heap):Nat→Bool
 |0=>bo3 b cs
 |s+1=>(Nat.beq s c||bU1 b (h.get s))&&ci2 b c cs h s
def bU4(o:OwnP)(c i e fz:Nat)(cs:List AV)(a:Fr)(h:Heap)(x:Option AV):Option (Fr×Heap):=match x with
 |some (.ous r len sz)=>bif Nat.beq r o.blk then(match h.get r with
     |some (.arr e sig l)=>bif Nat.beq e o.elem&&U9 sig o.sig&&Nat.beq sz sig.length then some (a,h)else none
     |_=>none)
  else bif Nat.ble h.wm r&& !(Nat.beq r c)then(match h.get r with
   |some (.arr e' sig l)=>bif Nat.beq e' o.elem&&U9 sig o.sig&&Nat.beq sz sig.length&&ci1 len l then some (a,aq7 o c i e fz cs (h.put r none) l)else none
   |_=>none)else none
 |some .nils=>some (a,aq7 o c i e fz cs h (.op .row []))
 |some (.us r 0 n sz)=>bif Nat.ble h.wm r&&Nat.blt 0 sz&& !(Nat.beq r c)then(match h.get r with
     |some (.cells e' 0 ds)=>bif Nat.beq e' o.elem&&Nat.beq sz o.sig.length&&Nat.beq ds.length (n*sz)then(match ar6 o.sig sz n ds with
      |some rs=>some (a,aq7 o c i e fz cs (h.put r none) (.op .row rs))
      |none=>none)else none
     |_=>none)else none
 |_=>none
def cB2(b:Nat)(x:Option AV):Bool:=match x with
 |some (.ous r _ _)=>Nat.beq r b
 |_=>false
def cB3(c:Nat)(x:AV):Bool:=match x with
 | .ptr b _=>Nat.beq b c
 |_=>false
def cB4(o:OwnP)(c i:Nat)(a:Fr)(h:Heap):Option (Fr×Heap):=match h.get c with
 |some (.cells e fz cs)=>bif cB3 c (a.slot o.slot)&&Nat.blt o.slot a.nt&&Nat.blt i cs.length&&(cB2 o.blk cs[i]? ||(Nat.blt o.blk h.next&&Nat.blt o.blk 65536&&(h.get o.blk).isNone&& !(Nat.beq c o.blk)&&bU2 o.blk a.nt a a.nt&&ci2 o.blk c (cs.set i .nils) h h.next))then bU4 o c i e fz cs a h cs[i]? else none
 |_=>none
def cB5(o:OwnP)(a:Fr)(h:Heap):Option (Fr×Heap):=match o.cell with
 |none=>bU3 o a h
 |some p=>cB4 o p.1 p.2 a h
def bo4:List OwnP→Fr→Heap→Option (Fr×Heap)
 | [],a,h=>some (a,h)
 |o::r,a,h=>match cB5 o a h with
  |some p=>bo4 r p.1 p.2
  |none=>none
def bJ7:Ex→Ex→Bool
 | .norm,.norm=>true
 | .ret,.ret=>true
 | .exit a,.exit b=>Nat.beq a b
 |_,_=>false
structure Pend where
 i:Nat
 o:Oper
 v:AV
 nd:Option SX
inductive Task (R:Type)where
 |code (c:Code) (a:Fr) (h:Heap) (k:Ex→Fr→Heap→R)
 |loop (c:Code) (a:Fr) (h:Heap) (k:Ex→Fr→Heap→R)
 |ops (all rest:List Oper) (a:Fr) (h:Heap) (k:Fr→Heap→R)
 |dops (all:List Oper) (rest:List PO) (pend:List Pend) (a:Fr) (h:Heap) (k:Fr→Heap→R)
 |call (f:FuncId) (args:List AV) (h:Heap) (k:AV→Heap→R)
 |body (f:FuncId) (args:List AV) (h:Heap) (k:AV→Heap→R)
 |dbody (f:FuncId) (args:List AV) (h:Heap) (k:AV→Heap→R)
 |leave (rs:List ResultVar) (a:Fr) (ds:List ADef) (h:Heap) (k:AV→Heap→R)
abbrev PC:=List (SX×Bool)
structure Alg (R:Type)where
 bad:R
 amb:List (AV×Heap)→(AV×Heap→R)→R
 ite:SX→R→R→R
 need:SX→R→R
 loop:LHd→VT→List R→R
 mloop:LHd→SX→VT→List R→R
def a74:Alg Bool:=⟨false,fun l f=>l.all f,fun _ x y=>x&&y,fun _ _=>false,fun _ _ _=>false,fun _ _ _ _=>false⟩
def bU5:Alg (Option (AV×Heap)):=⟨none,fun l f=>match l with
  |x::_=>f x
  | []=>none,fun _ _ _=>none,fun _ _=>none,fun _ _ _=>none,fun _ _ _ _=>none⟩
structure VC where
 pc:PC
 cl:SX
def cv3(p:Prim)(l:List SX):SX×Bool:=match p,l with
 | .cmp .geq,[a,b]=>(.op (.cmp .lss) [a,b],false)
 | .cmp .gtr,[a,b]=>(.op (.cmp .lss) [b,a],true)
 | .cmp .leq,[a,b]=>(.op (.cmp .lss) [b,a],false)
 | .cmp .neq,[a,b]=>(.op (.cmp .eql) [a,b],false)
 | .scmp .geq,[a,b]=>(.op (.scmp .lss) [a,b],false)
 | .scmp .gtr,[a,b]=>(.op (.scmp .lss) [b,a],true)
 | .scmp .leq,[a,b]=>(.op (.scmp .lss) [b,a],false)
 | .scmp .neq,[a,b]=>(.op (.scmp .eql) [a,b],false)
 |p,l=>(.op p l,true)
def b35(e:SX):SX×Bool:=match e with
 | .op p l=>cv3 p l
 |e=>(e,true)
def ci3(e:SX):PC→Option Bool
 | []=>none
 |p::r=>bif SX.beq e p.1 then some p.2 else ci3 e r
def bU6(a b:Bool):Bool:=bif a then b else !b
def cB6(c:SX×Bool)(pc:PC):Option Bool:=match ci3 c.1 pc with
 |some b=>some (bU6 b c.2)
 |none=>none
def db8(a b:Option Bool):Option Bool:=match a with
 |some false=>some false
 |some true=>b
 |none=>match b with
  |some false=>some false
  |_=>none
def orO(a b:Option Bool):Option Bool:=match a with
 |some true=>some true
 |some false=>b
 |none=>match b with
  |some true=>some true
  |_=>none
def dh9(a:Option Bool):Option Bool:=match a with
 |some b=>some (!b)
 |none=>none
def di0(c a b:Option Bool):Option Bool:=match c with
 |some true=>a
 |some false=>b
 |none=>none
def cv4(k:SX→Option Bool)(p:Prim)(l:List SX):Option Bool:=match p,l with
 | .not,[a]=>dh9 (k a)
 | .and,[a,b]=>db8 (k a) (k b)
 | .or,[a,b]=>orO (k a) (k b)
 | .ite,[c,a,b]=>di0 (k c) (k a) (k b)
 |p,l=>d68 (.op p l)
def cv5(k:SX→Option Bool)(e:SX):Option Bool:=match e with
 | .cb b=>some b
 | .op p l=>cv4 k p l
 |_=>none
def bU7(pc:PC)(k:SX→Option Bool)(e:SX):Option Bool:=match cB6 (b35 e) pc with
 |some b=>some b
 |none=>cv5 k e
def aG4(pc:PC)(n:Nat):SX→Option Bool:=Nat.rec (motive:=fun _=>SX→Option Bool) (fun _=>none) (fun _ k=>bU7 pc k) n
def cv6(k:SX→Bool→PC)(p:Prim)(l:List SX)(b:Bool):PC:=match p,l with
 | .not,[a]=>k a (!b)
 | .and,[x,y]=>bif b then k x true++k y true else []
 | .or,[x,y]=>bif b then []else k x false++k y false
 | .ite,[c,x,.cb false]=>bif b then k c true++k x true else []
 | .ite,[c,.cb true,y]=>bif b then []else k c false++k y false
 |_,_=>[]
def bU8(k:SX→Bool→PC)(e:SX)(b:Bool):PC:=match e with
 | .op p l=>cv6 k p l b
 |_=>[]
def cU6(c:SX×Bool)(b:Bool):SX×Bool:=(c.1,bU6 c.2 b)
def bU9(k:SX→Bool→PC)(e:SX)(b:Bool):PC:=cU6 (b35 e) b::bU8 k e b
def bc9(n:Nat):SX→Bool→PC:=Nat.rec (motive:=fun _=>SX→Bool→PC) (fun _ _=>[]) (fun _ k=>bU9 k) n
abbrev RPT:=PC→VT
def di1(pc:PC)(k:SX→SX)(p:Prim)(l:List SX):SX:=match p,l with
 | .ite,[c,a,b]=>(match aG4 pc 8 c with
   |some true=>k a
   |some false=>k b
   |none=> .op .ite [c,a,b])
 | .and,[a,b]=>(match aG4 pc 8 a with
   |some true=>k b
   |_=>(match aG4 pc 8 b with
    |some true=>k a
    |_=> .op .and [a,b]))
 | .or,[a,b]=>(match aG4 pc 8 a with
   |some false=>k b
   |_=>(match aG4 pc 8 b with
    |some false=>k a
    |_=> .op .or [a,b]))
 | .not,[a]=> .op .not [k a]
 |p,l=> .op p l
def db9(pc:PC)(k:SX→SX)(e:SX):SX:=match e with
 | .op p l=>di1 pc k p l
 |e=>e
def red(pc:PC)(n:Nat):SX→SX:=Nat.rec (motive:=fun _=>SX→SX) (fun e=>e) (fun _ k=>db9 pc k) n
def cU7(pc:PC)(k:SX→SX)(p:Prim)(l:List SX):SX:=match p,l with
 | .ite,[c,a,b]=>(match aG4 pc 8 c with
   |some true=>k a
   |some false=>k b
   |none=> .op .ite [c,a,b])
 |p,l=> .op p l
def cB7(pc:PC)(k:SX→SX)(e:SX):SX:=match e with
 | .op p l=>cU7 pc k p l
 |e=>e
def d78(pc:PC)(n:Nat):SX→SX:=Nat.rec (motive:=fun _=>SX→SX) (fun e=>e) (fun _ k=>cB7 pc k) n
def cB8(e:SX)(x y:RPT)(pc:PC)(b:Option Bool):VT:=match b with
 |some true=>x pc
 |some false=>y pc
 |none=> .ite (red pc 16 e) (x (bc9 8 e true++pc)) (y (bc9 8 e false++pc))
def bV0(e:SX)(x:RPT)(pc:PC)(b:Option Bool):VT:=match b with
 |some true=>x pc
 |_=> .need (red pc 16 e) (x (bc9 8 e true++pc))
def cB9(l:List (AV×Heap))(f:AV×Heap→RPT)(pc:PC):VT:=match l with
 | [x]=>f x pc
 | [x,y]=> .both (f x pc) (f y pc)
 |_=> .bad
def b36(pc:PC):List RPT→List VT
 | []=>[]
 |k::r=>k pc::b36 pc r
def aB4:Alg RPT:=⟨fun _=> .bad,fun l f pc=>cB9 l f pc,fun e x y pc=>cB8 e x y pc (aG4 pc 8 e),fun e x pc=>bV0 e x pc (aG4 pc 8 e),fun hd body ks pc=> .loop hd body (b36 pc ks),fun hd l body ks pc=> .mloop hd l body (b36 pc ks)⟩
def R6(all:List Oper)(a:Fr)(o:Oper):Option Bool:=
 match o.guard with
 |none=>some true
 |some (j,want)=>match(all[j]?).bind (·.dst)with
  |none=>some false
  |some d=>bif Nat.blt d a.nt then match a.slot d with
   | .bool b=>some (b==want)
   | .obool e=>match aK5 e a.pc with
     |some b=>some (b==want)
     |none=>none
   | .opq _=>none
   | .any=>none
   |_=>some false
   else some false
def bd0(all:List Oper)(a:Fr)(o:Oper):Option SX:=
 match o.guard with
 |none=>none
 |some (j,_)=>match(all[j]?).bind (·.dst)with
  |none=>none
  |some d=>match a.slot d with
   | .obool e=>some e
   |_=>none
def dc0(P:Program)(a:Fr)(h:Heap):ResultVar→Option AV
 | .tmp t=>some (a.slot t)
 | .cell x t=>bQ5 P t (a.slot x) h
def aG5(P:Program)(a:Fr)(h:Heap):List ResultVar→Option (List AV)
 | []=>some []
 |r::l=>match dc0 P a h r,aG5 P a h l with
  |some v,some vs=>some (v::vs)
  |_,_=>none
def cC0:List AV→AV
 | [v]=>v
 |vs=> .tup vs
def a97:List AV→Nat→TF→TF
 | [],_,t=>t
 |v::r,i,t=>a97 r (i+1) (t.set i v)
def di2(nd:Option SX)(e:SX):Bool:=match nd with
 |some x=>SX.beq x e
 |none=>false
def bz1(r:Res)(nd:Option SX)(v:AV):Bool:=match r with
 | .val v' _=>AV.beq v' v
 | .need e v' _=>di2 nd e&&AV.beq v' v
 |_=>false
def ad5(E:Env)(a:Fr)(h:Heap):List Pend→Bool
 | []=>true
 |p::r=>(T7 p.o||bz1 (U3 E a.ev p.o h) p.nd p.v)&&ad5 E a h r
def a13:AV→Bool
 | .bool _| .int _ _| .str _| .nilp| .nils| .nilm| .nilf| .nili=>true
 |_=>false
inductive Out where
 |plain (v:AV)
 |row (elem:Nat) (len sz:Nat) (cs:List AV)
 deriving Inhabited
def bV1(wm:Nat)(h:Heap)(v:AV):Option Out:=
 match v with
 | .us b 0 len sz=>bif Nat.ble wm b then match h.get b with
   |some (.cells e 0 cs)=>bif Nat.beq cs.length (len*sz)&&cs.all a13 then some (.row e len sz cs)else none
   |_=>none
   else none
 |v=>bif a13 v then some (.plain v)else none
def ai7(wm:Nat)(h:Heap):List AV→Option (List Out)
 | []=>some []
 |v::r=>match bV1 wm h v,ai7 wm h r with
  |some o,some os=>some (o::os)
  |_,_=>none
def aL4:List Out→Nat
 | []=>0
 | .plain _::r=>aL4 r
 | .row _ _ _ _::r=>aL4 r+1
def bz2(b:Bool)(l:List Out):Option (Bool×List Out):=bif Nat.ble (aL4 l) 1 then some (b,l)else none
def bo5(wm:Nat)(h:Heap)(v:AV):Option (Bool×List Out):=
 match v with
 | .tup vs=>(ai7 wm h vs).bind (bz2 true)
 |v=>(ai7 wm h [v]).bind (bz2 false)
def Out.beq:Out→Out→Bool
 | .plain a,.plain b=>AV.beq a b
 | .row e l s c,.row e' l' s' c'=>Nat.beq e e'&&Nat.beq l l'&&Nat.beq s s'&&AV.beqs c c'
 |_,_=>false
def b37:List Out→List Out→Bool
 | [],[]=>true
 |a::x,b::y=>Out.beq a b&&b37 x y
 |_,_=>false
def cU8(x y:Option (Bool×List Out)):Bool:=
 match x,y with
 |some (a,l),some (b,m)=>(a==b)&&b37 l m
 |_,_=>false
def a04:List Out→Heap→List AV×Heap
 | [],h=>([],h)
 | .plain v::r,h=>let (vs,h'):=a04 r h;(v::vs,h')
 | .row e len sz cs::r,h=>let (vs,h'):=a04 r (h.new (.cells e 0 cs));(.us h.next 0 len sz::vs,h')
def bd1(b:Bool)(l:List Out)(h:Heap):AV×Heap:=
 match a04 l h with
 |(vs,h')=>(bif b then .tup vs else vs.headD .undef,h')
def cU9(t:TH)(next _:Nat):Heap:=⟨t,next,next⟩
def Heap.raise(h:Heap):Heap:=Heap.rec cU9 h
abbrev Rec:=(R:Type)→Alg R→Task R→R
section
variable{R:Type}
def di3(rec:Rec)(A:Alg R)(y:Code)(k:Ex→Fr→Heap→R)(e:Ex)(a:Fr)(h:Heap):R:=match e with
 | .norm=>rec R A (.code y a h k)
 |e=>k e a h
def bz3(id:Nat)(k:Ex→Fr→Heap→R)(e:Ex)(a:Fr)(h:Heap):R:=match e with
 | .exit i=>bif Nat.beq i id then k .norm a h else k (.exit i) a h
 |e=>k e a h
def dc1(rec:Rec)(A:Alg R)(c:Code)(k:Ex→Fr→Heap→R)(e:Ex)(a:Fr)(h:Heap):R:=match e with
 | .norm=>rec R A (.loop c a h k)
 |e=>k e a h
def bV2(ro:Option Nat)(k:Ex→Fr→Heap→R)(a:Fr)(h:Heap):R:=k .norm (a.back ro) h
def bV3(rec:Rec)(A:Alg R)(x y:Code)(a:Fr)(h:Heap)(k:Ex→Fr→Heap→R)(e:SX)(p:Option Bool):R:=match p with
 |some b=>rec R A (.code (bif b then x else y) a h k)
 |none=>A.ite e (rec R A (.code x (a.cond (e,true)) h k)) (rec R A (.code y (a.cond (e,false)) h k))
def cC1(rec:Rec)(A:Alg R)(x y:Code)(a:Fr)(h:Heap)(k:Ex→Fr→Heap→R)(v:Option AV):R:=match v with
 |some (.bool b)=>rec R A (.code (bif b then x else y) a h k)
 |some (.obool e)=>bV3 rec A x y a h k e (aK5 e a.pc)
 |_=>A.bad
def ag1:Code→Nat
 | .region id _ _=>id
 | .seq x _=>ag1 x
 | .block _ b=>ag1 b
 | .loop b=>ag1 b
 | .scope b=>ag1 b
 |_=>0
structure LSt where
 a:Fr
 h:Heap
def a34(id:Nat)(args:List SX)(j:Nat):SX:= .op .lget [.app id args,.ci 1,.ci j]
def Q7(sp:LSpec)(a:Fr)(h:Heap):LSt:=⟨(V9 (layDead a sp.dead) sp.head.slots).clear,a12 h sp.head.blks⟩
def S3(sp:LSpec)(a:Fr)(h:Heap):LSt:=⟨layDead (layDead a sp.dead) (sp.head.slots.map (·.1)),a12 h (sp.head.blks.map fun p=>(p.1,none))⟩
def V0(sp:LSpec)(a:Fr)(h:Heap)(x:StP):LSt:=⟨(V9 (S3 sp a h).a x.slots).clear,(a12 (S3 sp a h).h x.blks).upto x.next⟩
def ai3(sp:LSpec)(q:Nat→SX)(a:Fr)(h:Heap)(x:StP):LSt:=
 ⟨V9 (S3 sp a h).a (x.slots.map fun p=>(p.1,aL3 sp.v0 q p.2)),(a12 (S3 sp a h).h (x.blks.map fun p=>(p.1,bo2 sp.v0 q p.2))).upto x.next⟩
def aq8(sp:LSpec)(a:Fr)(h:Heap)(e:Ex)(a':Fr)(h':Heap):List (Ex×StP)→Nat→VT
 | [],_=> .bad
 |x::r,i=>bif bJ7 x.1 e then(match a96 sp.v0 (V0 sp a h x.2).a (V0 sp a h x.2).h a' h' with
  |some es=> .ret (i+1) es
  |none=>aq8 sp a h e a' h' r (i+1))else aq8 sp a h e a' h' r (i+1)
def aW1(sp:LSpec)(a:Fr)(h:Heap):Fr×Heap:=match bo4 sp.owns (layDead a sp.dead) h with
 |some p=>p
 |none=>(layDead a sp.dead,h)
def cC2(p:Prim)(l:List SX):Bool:=match p,l with
 | .cmp .leq,[.ci 0,.op .llen [_]]=>true
 | .cmp .leq,[.ci 0,.op .slen [_]]=>true
 | .cmp .leq,[.ci a,.ci b]=> !(aK3 b a)
 | .cmp .lss,[.ci a,.ci b]=>aK3 a b
 |_,_=>false
def bd2(e:SX):Bool:=match e with
 | .cb b=>b
 | .op p l=>cC2 p l
 |_=>false
def bd3(e:SX):Bool:=match e with
 | .op .and [a,b]=>bd2 a&&bd2 b
 |e=>bd2 e
def bJ8(e:SX):Bool:=match e with
 | .op .and [a,b]=>bd3 a&&bd3 b
 |e=>bd3 e
def d79(p:Prim)(l:List SX):Bool:=match p,l with
 | .cmp .leq,[.ci a,.ci b]=> !(aK3 b a)
 | .cmp .lss,[.ci a,.ci b]=>aK3 a b
 | .bok,[.op .row []]=>true
 |_,_=>false
def cV0(p:Prim)(l:List SX):SX:=bif d79 p l then .cb true else .op p l
def bd4:Nat→SX→SX
 |0,e=>e
 |n+1,e=>match e with
  | .op .and [a,b]=>aK8 (bd4 n a) (bd4 n b)
  | .op p l=>cV0 p l
  |e=>e
def cV1(e:SX):Bool:=match e with
 | .op .and [.op .and [.op .and [_,_],_],_]=>true
 |_=>false
def cV2(A:Alg R)(e:SX)(x:R):R:=match e with
 | .cb true=>x
 |e=>A.need e x
def needA(A:Alg R)(e:SX)(x:R):R:=bif bJ8 e then x else bif cV1 e then cV2 A (bd4 30 e) x else A.need e x
def ah6(o:OwnP)(a:Fr)(h:Heap):SX×Fr:=match o.cell,a.slot o.slot with
 |none,.ous r len s=>(match h.get r with
  |some (.arr _ _ l)=>bif Nat.beq r o.blk||SX.beq len (.op .llen [l])then(.cb true,a)else(.op (.cmp .eql) [len,.op .llen [l]],a.put (some o.slot) (.ous r (.op .llen [l]) s))
  |_=>(.cb true,a))
 |_,_=>(.cb true,a)
def T3:List OwnP→Fr→Heap→SX×Fr
 | [],a,_=>(.cb true,a)
 |o::r,a,h=>match ah6 o a h with
  |(e,a')=>match T3 r a' h with
   |(e',b)=>(aK8 e e',b)
def ci4(e:SX)(x:VT):VT:=bif bJ8 e then x else .need e x
def aB5(sp:LSpec)(a:Fr)(h:Heap)(p:Fr×Heap):VT:=match a96 sp.v0 (Q7 sp a h).a (Q7 sp a h).h p.1 p.2 with
 |some es=> .ret 0 es
 |none=> .bad
def bo6(sp:LSpec)(a:Fr)(h:Heap)(e:Ex)(p:Fr×Heap):VT:=aq8 sp a h e p.1 p.2 sp.exits 0
def bd5(sp:LSpec)(a:Fr)(h:Heap)(e:Ex)(a':Fr)(h':Heap):VT:=match e with
 | .norm=>ci4 (T3 sp.owns a' h').1 (aB5 sp a h (aW1 sp (T3 sp.owns a' h').2 h'))
 |e=>ci4 (T3 sp.owns a' h').1 (bo6 sp a h e (aW1 sp (T3 sp.owns a' h').2 h'))
def ai8(sp:LSpec)(a:Fr)(h:Heap)(e:Ex)(a':Fr)(h':Heap)(_:PC):VT:=bd5 sp a h e a' h'
def bV4(sp:LSpec)(a:Fr)(h:Heap)(n0:Nat):Bool:=sp.owns.all (fun o=>Nat.ble n0 o.blk)&&bz0 a h n0 h.next sp.head.blks&&sp.exits.all (fun x=>Nat.ble h.next x.2.next&&bz0 a h n0 x.2.next x.2.blks)&&a95 sp.v0 sp.fv&&ad4 a&&cB1 sp.v0 h.next (S3 sp a h).a a.nt&&d77 sp.v0 h.next (S3 sp a h).h h.next
def b38(rec:Rec)(A:Alg R)(c:Code)(n0:Nat)(k:Ex→Fr→Heap→R)(sp:LSpec)(a:Fr)(h:Heap):R:=
 bif bV4 sp a h n0 then
  (match a96 sp.v0 (Q7 sp a h).a (Q7 sp a h).h a h with
  |some s0=>A.loop ⟨sp.id,s0,sp.v0,sp.fv⟩ (rec RPT aB4 (.code c (Q7 sp a h).a (Q7 sp a h).h (ai8 sp a h)) [])
   (sp.exits.map fun x=>k x.1 (ai3 sp (a34 sp.id (s0++sp.fv)) a h x.2).a (ai3 sp (a34 sp.id (s0++sp.fv)) a h x.2).h)
  |none=>A.bad)
 else A.bad
structure MC where
 ops1:Array Oper
 o1:Oper
 o2:Oper
 tok:Operand
 xid:Nat
 bid:Nat
 ops2:Array Oper
 o3:Oper
 r3:List Oper
 rest:Code
def bJ9(c:Code):Option MC:=match c with
 | .seq (.region _ ops1 false) (.seq (.cond tok .skip (.exit x)) (.block b (.seq (.region _ ops2 false) rest)))=>(match ops1.toList,ops2.toList with
   | [o1,o2],o3::r3=>some ⟨ops1,o1,o2,tok,x,b,ops2,o3,r3,rest⟩
   |_,_=>none)
 |_=>none
structure MO where
 it:Nat
 d1:Nat
 d2:Nat
 d3:Nat
def aE8(o:Oper):Bool:=match o.guard with
 |none=>true
 |some _=>false
def cV3(it d1 d2 d3:Nat)(nt:Nat)(o1 o2 o3:Oper):Option MO:=bif aE8 o1&&aE8 o2&&aE8 o3&&Nat.blt d1 nt&&Nat.blt d2 nt&& !(Nat.beq d1 d2)then some ⟨it,d1,d2,d3⟩else none
def d80(m:MC)(a:Fr):Option MO:=match m.o1.op,m.o1.dst,m.o2.op,m.o2.dst,m.tok,m.o3.op,m.o3.dst with
 | .next (.tmp t) false,some d1,.extract (.tmp d1') 0,some d2,.tmp d2',.entry (.tmp t'),some d3=>bif Nat.beq d1 d1'&&Nat.beq d2 d2'&&Nat.beq t t'&& !(Nat.beq t d1)&& !(Nat.beq t d2)then(match a.slot t with
   | .ptr it 0=>cV3 it d1 d2 d3 a.nt m.o1 m.o2 m.o3
   |_=>none)else none
 |_,_,_,_,_,_,_=>none
def dl5(b:Nat)(p:Nat×Option Blk):Nat×Option Blk:=bif Nat.beq p.1 b then(match p.2 with
 |some (.arr e sig l)=>(p.1,some (.bag e sig l))
 |_=>p)else p
def bV5(sp:LSpec)(it m ob:Nat)(lm:SX):LSpec:=⟨sp.id,sp.owns,sp.v0,sp.fv++[lm],sp.dead,⟨sp.head.slots,(it,none)::(m,none)::sp.head.blks,sp.head.next⟩,sp.exits.map fun x=>(x.1,⟨x.2.slots,x.2.blks.map (dl5 ob),x.2.next⟩),true⟩
def bV6(ks vs:List CT)(l idx:SX):AV:= .tup [b33 (bJ5 (ks++vs) l idx 0 ks.length),b33 (bJ5 (ks++vs) l idx ks.length vs.length)]
def cV4(rec:Rec)(sp:LSpec)(mc:MC)(a:Fr)(h:Heap)(a3:Fr):VT:=rec RPT aB4 (.ops mc.ops2.toList mc.r3 a3 (Q7 sp a h).h (bV2 none (di3 rec aB4 mc.rest (bz3 mc.bid (ai8 sp a h))))) []
def swB(v0 nb ob b:Nat)(x:Option Blk):Bool:=bif Nat.beq b ob then(match x with
 |some (.arr _ _ (.va n))=>Nat.beq n (v0+1)
 |_=>false)else okB (v0+1) nb x
def cQ1(v0 nb ob:Nat)(h:Heap):Nat→Bool
 |0=>true
 |t+1=>swB v0 nb ob t (h.get t)&&cQ1 v0 nb ob h t
def cV5(x:Option Blk):Option Blk:=match x with
 |some (.arr e sig l)=>some (.bag e sig l)
 |x=>x
def cV6(x:Option Blk):Bool:=match x with
 |none=>true
 |some _=>false
def cC3(v0:Nat)(es:List SX):Bool:=match es with
 | [.va n,.va m]=>Nat.beq n v0&&Nat.beq m (v0+1)
 |_=>false
def bV7(h1 h2:Heap):Nat→Bool
 |0=>true
 |t+1=>(cV6 (h1.get t)|| !(cV6 (h2.get t)))&&bV7 h1 h2 t
def b39(sp:LSpec)(mo:MO)(a:Fr)(h:Heap):Fr:=((Q7 sp a h).a.put (some mo.d1) (.tup [.bool false])).put (some mo.d2) (.bool false)
def d81(sp:LSpec)(mo:MO)(ob:Nat)(a:Fr)(h:Heap)(x:StP):Bool:=match a96 sp.v0 (V0 sp a h x).a (V0 sp a h x).h (b39 sp mo a h) ((Q7 sp a h).h.put ob (cV5 ((Q7 sp a h).h.get ob)))with
 |some es=>cC3 sp.v0 es
 |none=>false
def bV8(sp:LSpec)(a:Fr)(h:Heap)(n0:Nat)(mo:MO)(m ob:Nat)(lm:SX):Bool:=
 bV4 sp a h n0&&Nat.ble h.wm n0&&Nat.ble h.wm mo.it&&Nat.blt m n0&&Nat.ble n0 ob&&Nat.blt mo.it n0&&cV6 ((Q7 sp a h).h.get mo.it)&&cV6 ((Q7 sp a h).h.get m)&&T2 sp.v0 lm&&
 cB1 (sp.v0+1) h.next (Q7 sp a h).a a.nt&&cB1 (sp.v0+1) h.next (b39 sp mo a h) a.nt&&cQ1 sp.v0 h.next ob (Q7 sp a h).h h.next
def aH9(rec:Rec)(A:Alg R)(n0:Nat)(k:Ex→Fr→Heap→R)(sp:LSpec)(a:Fr)(h:Heap)(mc:MC)(mo:MO)(m ob:Nat)(d:Bool)(ks vs:List CT)(lm:SX)(x:Ex×StP):R:=match x.1 with
 | .exit xid=>bif Nat.beq xid mc.xid&&bV8 sp a h n0 mo m ob lm&&Nat.blt m x.2.next&&d81 sp mo ob a h x.2 then(match a96 sp.v0 (Q7 sp a h).a (Q7 sp a h).h a h with
     |some [s0,s1]=>bif bV7 (ai3 sp (a34 sp.id (s0::s1::sp.fv)) a h x.2).h (Q7 sp a h).h x.2.next then A.mloop ⟨sp.id,[s0,s1],sp.v0,sp.fv⟩ lm
      (cV4 rec sp mc a h ((((Q7 sp a h).a.put (some mo.d1) .any).put (some mo.d2) (.bool true)).put (some mo.d3) (bV6 ks vs lm (.va (sp.v0+2)))))
      [k x.1 (ai3 sp (a34 sp.id (s0::s1::sp.fv)) a h x.2).a ((ai3 sp (a34 sp.id (s0::s1::sp.fv)) a h x.2).h.put m (some (.marr d ks vs lm)))]else A.bad
     |_=>A.bad)else A.bad
 |_=>A.bad
def b40(rec:Rec)(A:Alg R)(n0:Nat)(k:Ex→Fr→Heap→R)(sp:LSpec)(a:Fr)(h:Heap)(mc:MC)(mo:MO)(m:Nat)(b:Option Blk)(o:List OwnP):R:=match b,o with
 |some (.mrg it' d ks vs lm),[o]=>bif Nat.beq it' mo.it then(match(bV5 sp mo.it m o.blk lm).exits with
  | [x]=>aH9 rec A n0 k (bV5 sp mo.it m o.blk lm) a h mc mo m o.blk d ks vs lm x
  |_=>A.bad)else A.bad
 |_,_=>A.bad
def b41(rec:Rec)(A:Alg R)(n0:Nat)(k:Ex→Fr→Heap→R)(sp:LSpec)(a:Fr)(h:Heap)(mc:MC)(mo:Option MO):R:=match mo with
 |some mo=>(match h.get mo.it with
  |some (.mit m)=>b40 rec A n0 k sp a h mc mo m (h.get m) sp.owns
  |_=>A.bad)
 |none=>A.bad
def aL5(rec:Rec)(A:Alg R)(n0:Nat)(k:Ex→Fr→Heap→R)(sp:LSpec)(a:Fr)(h:Heap)(mc:Option MC):R:=match mc with
 |some mc=>b41 rec A n0 k sp a h mc (d80 mc (Q7 sp a h).a)
 |none=>A.bad
def bo7(rec:Rec)(A:Alg R)(c:Code)(n0:Nat)(k:Ex→Fr→Heap→R)(sp:LSpec)(p:Fr×Heap):R:=bif sp.mapr then aL5 rec A n0 k sp p.1 p.2 (bJ9 c)else b38 rec A c n0 k sp p.1 p.2
def bo8(rec:Rec)(A:Alg R)(c:Code)(a:Fr)(h:Heap)(k:Ex→Fr→Heap→R)(sp:LSpec):R:=
 bif ad4 a then needA A (T3 sp.owns a h).1 (bo7 rec A c h.next k sp (aW1 sp (T3 sp.owns a h).2 (h.upto (Nat.add h.next sp.owns.length))))else A.bad
def cV7(rec:Rec)(A:Alg R)(c:Code)(a:Fr)(h:Heap)(k:Ex→Fr→Heap→R)(sp:Option LSpec):R:=match sp with
 |some sp=>bo8 rec A c a h k sp
 |none=>rec R A (.code c a h (dc1 rec A c k))
def cV8(rec:Rec)(A:Alg R)(ops:List Oper)(a:Fr)(h:Heap)(k:Ex→Fr→Heap→R)(p:Option (List PO)):R:=match p with
 |some l=>rec R A (.dops ops l [] a h (bV2 a.ro k))
 |none=>A.bad
def bV9(rec:Rec)(A:Alg R)(ops:List Oper)(draw:Bool)(a:Fr)(h:Heap)(k:Ex→Fr→Heap→R):R:=
 bif draw then cV8 rec A ops a h k (cU1 ops)else rec R A (.ops ops ops a h (bV2 a.ro k))
def ci5(rec:Rec)(A:Alg R)(a:Fr)(k:Ex→Fr→Heap→R)(h:Heap)(pend:Option Code):R:=match pend with
 |none=>k .norm a h
 |some c=>rec R A (.code c a h k)
def cV9(rec:Rec)(A:Alg R)(a:Fr)(k:Ex→Fr→Heap→R)(h:Heap)(pend:Option Code)(st:LoopState):R:=match st with
 | .busy=>A.bad
 | .ready=>ci5 rec A a k h pend
 | .done=>ci5 rec A a k h pend
 | .exhausted=>ci5 rec A a k h pend
def cv7(rec:Rec)(A:Alg R)(l:Nat)(a:Fr)(k:Ex→Fr→Heap→R)(_:AV)(h:Heap):R:=match h.get l with
 |some (.loop st pend fn tm nt ps assign body d)=>bif Nat.ble h.wm l then cV9 rec A a k (h.put l (some (.loop .exhausted pend fn tm nt ps assign body d))) pend st else A.bad
 |_=>A.bad
def bW0(rec:Rec)(A:Alg R)(l:Nat)(a:Fr)(h:Heap)(k:Ex→Fr→Heap→R)(r:Res):R:=match r with
 | .enter g args=>rec R A (.call g args h (cv7 rec A l a k))
 |_=>A.bad
def bd6(h:Heap)(ro:Option Nat):Option (Nat×Heap×List ADef):=match ro with
 |none=>some (h.next,h.new (.defd false),[ADef.coll h.next])
 |some l=>match h.get l with
  |some (.loop _ _ _ _ _ _ _ _ d)=>some (d,h,[])
  |_=>none
def bW1(E:Env)(rec:Rec)(A:Alg R)(ps:Array Tmp)(assign body:Code)(a:Fr)(k:Ex→Fr→Heap→R)(x:Option (Nat×Heap×List ADef))(f:Option AV):R:=match x with
 |some (d,h,mark)=>match f with
  |some fv=>bW0 rec A h.next (a.mark mark) (h.new (.loop .ready none a.fn a.tm a.nt ps assign body d)) k
   (b26 E fv [.yield h.next] (h.new (.loop .ready none a.fn a.tm a.nt ps assign body d)))
  |none=>A.bad
 |none=>A.bad
def cv8(E:Env)(rec:Rec)(A:Alg R)(c:Code)(a:Fr)(h:Heap)(k:Ex→Fr→Heap→R):R:=match c with
 | .skip=>k .norm a h
 | .label _=>k .norm a h
 | .ret=>k .ret a h
 | .exit id=>k (.exit id) a h
 | .seq x y=>rec R A (.code x a h (di3 rec A y k))
 | .cond c x y=>cC1 rec A x y a h k (a.ev c)
 | .block id b=>rec R A (.code b a h (bz3 id k))
 | .loop b=>rec R A (.loop b a h k)
 | .scope b=>rec R A (.code b a h k)
 | .region _ ops draw=>bV9 rec A ops.toList draw a h k
 | .rangeFunc f ps assign body=>bW1 E rec A ps assign body a k (bd6 h a.ro) (a.ev f)
 |_=>A.bad
def av7:Ex→Option Code
 | .norm=>none
 | .ret=>some .ret
 | .exit id=>some (.exit id)
def bo9:Option Code→LoopState
 |none=> .ready
 |some _=> .done
def bW2(A:Alg R)(l:Nat)(k:AV→Heap→R)(e:Ex)(a:Fr)(h:Heap):R:=match a.ds with
 | []=>match h.get l with
   |some (.loop _ _ fn tm nt ps as body d)=>k (.bool (av7 e).isNone) (h.put l (some (.loop (bo9 (av7 e)) (av7 e) fn tm nt ps as body d)))
   |_=>A.bad
 |_=>A.bad
def bp0(rec:Rec)(A:Alg R)(l:Nat)(body:Code)(k:AV→Heap→R)(e:Ex)(a:Fr)(h:Heap):R:=match e with
 | .norm=>match h.get l with
   |some (.loop .ready pend fn tm nt ps as b d)=>rec R A (.code body a (h.put l (some (.loop .busy pend fn tm nt ps as b d))) (bW2 A l k))
   |_=>A.bad
 |_=>A.bad
def bd7:List Tmp→List AV→Nat→TF→TF
 |p::ps,v::vs,nt,t=>bd7 ps vs nt (bif Nat.blt p nt then t.set p v else t)
 |_,_,_,t=>t
def bW3(rec:Rec)(A:Alg R)(l:Nat)(args:List AV)(h:Heap)(k:AV→Heap→R)(b:Option Blk):R:=match b with
 |some (.loop _ _ fn tm nt ps assign body _)=>bif Nat.beq args.length ps.size&&Nat.ble h.wm l then
  rec R A (.code assign ⟨bd7 ps.toList args nt tm,nt,[],fn,[],some l⟩ h (bp0 rec A l body k))else A.bad
 |_=>A.bad
def d82(rec:Rec)(A:Alg R)(h:Heap)(k:AV→Heap→R)(r:Res):R:=match r with
 | .val v h=>k v h
 | .need e v h=>needA A e (k v h)
 | .cho e v l h=>A.ite e (k v h) (A.amb (l.map fun v=>(v,h)) fun x=>k x.1 x.2)
 | .enter f args=>rec R A (.call f args h k)
 | .choice l=>A.amb l fun x=>k x.1 x.2
 | .yield l args=>bW3 rec A l args h k (h.get l)
 | .defer _=>A.bad
 | .bad=>A.bad
def kOp(rec:Rec)(A:Alg R)(all rest:List Oper)(dst:Option Tmp)(a:Fr)(k:Fr→Heap→R)(v:AV)(h:Heap):R:=rec R A (.ops all rest (a.put dst v) h k)
def bW4(rec:Rec)(A:Alg R)(all rest:List Oper)(a:Fr)(h:Heap)(k:Fr→Heap→R)(e:Option SX):R:=match e with
 |some e=>A.ite e (rec R A (.ops all rest (a.cond (e,true)) h k)) (rec R A (.ops all rest (a.cond (e,false)) h k))
 |none=>A.bad
def oGo(rec:Rec)(A:Alg R)(all rest:List Oper)(dst:Option Tmp)(a:Fr)(h:Heap)(k:Fr→Heap→R)(r:Res):R:=match r with
 | .defer d=>match a.ro with
   |none=>rec R A (.ops all rest ((a.mark [d]).put dst .undef) h k)
   |some _=>A.bad
 |r=>d82 rec A h (kOp rec A all rest dst a k) r
def cW0(E:Env)(rec:Rec)(A:Alg R)(all rest:List Oper)(o:Oper)(a:Fr)(h:Heap)(k:Fr→Heap→R)(w:Option Bool):R:=match w with
 |some true=>oGo rec A all rest o.dst a h k (U3 E a.ev o h)
 |some false=>rec R A (.ops all rest (a.put o.dst .undef) h k)
 |none=>bW4 rec A all (o::rest) a h k (bd0 all a o)
def dc2(E:Env)(rec:Rec)(A:Alg R)(all rest:List Oper)(a:Fr)(h:Heap)(k:Fr→Heap→R):R:=match rest with
 | []=>k a h
 |o::rest=>cW0 E rec A all rest o a h k (R6 all a o)
def di4(E:Env)(rec:Rec)(A:Alg R)(all:List Oper)(rest:List PO)(pend:List Pend)(dst:Option Tmp)(a:Fr)(k:Fr→Heap→R)(v:AV)(h:Heap):R:=
 bif ad5 E (a.put dst v) h pend then rec R A (.dops all rest pend (a.put dst v) h k)else A.bad
def bW5(E:Env)(rec:Rec)(A:Alg R)(all:List Oper)(x:PO)(rest:List PO)(pend:List Pend)(a:Fr)(k:Fr→Heap→R)(r:Res):R:=match r with
 | .val v h=>bif !(T7 x.o)||ad5 E (a.put x.o.dst v) h pend then rec R A (.dops all rest (⟨x.i,x.o,v,none⟩::pend) (a.put x.o.dst v) h k)else A.bad
 | .need e v h=>bif !(T7 x.o)then needA A e (rec R A (.dops all rest (⟨x.i,x.o,v,some e⟩::pend) (a.put x.o.dst v) h k))else A.bad
 |_=>A.bad
def bp1(rec:Rec)(A:Alg R)(all:List Oper)(rest:List PO)(pend:List Pend)(a:Fr)(h:Heap)(k:Fr→Heap→R)(e:Option SX):R:=match e with
 |some e=>A.ite e (rec R A (.dops all rest pend (a.cond (e,true)) h k)) (rec R A (.dops all rest pend (a.cond (e,false)) h k))
 |none=>A.bad
def bK0(E:Env)(rec:Rec)(A:Alg R)(all:List Oper)(x:PO)(rest:List PO)(pend:List Pend)(a:Fr)(h:Heap)(k:Fr→Heap→R)(w:Option Bool):R:=match w with
 |some true=>bif x.fl then bW5 E rec A all x rest pend a k (U3 E a.ev x.o h)
  else d82 rec A h (di4 E rec A all rest (pend.filter fun p=> !(x.m.testBit p.i)) x.o.dst a k) (U3 E a.ev x.o h)
 |some false=>rec R A (.dops all rest pend (a.put x.o.dst .undef) h k)
 |none=>bp1 rec A all (x::rest) pend a h k (bd0 all a x.o)
def cW1(E:Env)(rec:Rec)(A:Alg R)(all:List Oper)(rest:List PO)(pend:List Pend)(a:Fr)(h:Heap)(k:Fr→Heap→R):R:=match rest with
 | []=>k a h
 |x::rest=>bK0 E rec A all x rest pend a h k (R6 all a x.o)
def cC4(v:AV)(h:Heap):Option (AV×Heap):=some (v,h)
def cv9(wm:Nat)(o:Option (Bool×List Out))(v:AV)(h:Heap):Bool:=cU8 (bo5 wm h v) o
def d83(k:AV→Heap→R)(x:AV×Heap):R:=k x.1 x.2
def cw0(rec:Rec)(A:Alg R)(f:FuncId)(args:List AV)(h:Heap)(k:AV→Heap→R)(x:Option (Bool×List Out)):R:=match x with
 |none=>A.bad
 |some (b,l)=>bif rec Bool a74 (.body f args h.raise (cv9 h.next (some (b,l))))then d83 k (bd1 b l h)else A.bad
def bW6(rec:Rec)(A:Alg R)(f:FuncId)(args:List AV)(h:Heap)(k:AV→Heap→R)(x:Option (AV×Heap)):R:=match x with
 |none=>A.bad
 |some (v0,h0)=>cw0 rec A f args h k (bo5 h.next h0 v0)
structure Cap2 where
 b:Nat
 full:List AV
 wide:List AV
 h:Heap
def capH(h:Heap)(b e:Nat)(cs:List AV):Heap:=((h.put b none).raise).new (.cells e 0 cs)
def d84(args:List AV)(h:Heap):Option Cap2:=match args with
 | .us b 0 len sz:: .int k (.ofNat i)::rest=>match h.get b with
   |some (.cells e 0 cs)=>bif Nat.ble h.wm b&&Nat.beq cs.length (len*sz)&&Nat.blt i len&&Nat.blt 0 sz then
    some ⟨b,.sl b 0 len len:: .int k (.ofNat i)::rest,.us h.next 0 len sz:: .int k (.ofNat i)::rest,capH h b e (cs++rep sz [.any])⟩
    else none
   |_=>none
 |_=>none
def cw1(rec:Rec)(A:Alg R)(f:FuncId)(h:Heap)(k:AV→Heap→R)(c:Cap2)(x:Option (Bool×List Out)):R:=match x with
 |none=>A.bad
 |some (b,l)=>bif rec Bool a74 (.body f c.full h.raise (cv9 h.next (some (b,l))))&&rec Bool a74 (.body f c.wide c.h (cv9 h.next (some (b,l))))then
  d83 k (bd1 b l (h.put c.b none))else A.bad
def cw2(rec:Rec)(A:Alg R)(f:FuncId)(h:Heap)(k:AV→Heap→R)(c:Cap2)(x:Option (AV×Heap)):R:=match x with
 |none=>A.bad
 |some (v0,h0)=>cw1 rec A f h k c (bo5 h.next h0 v0)
def cC5(rec:Rec)(A:Alg R)(f:FuncId)(args:List AV)(h:Heap)(k:AV→Heap→R)(c:Option Cap2):R:=match c with
 |none=>rec R A (.body f args h k)
 |some c=>cw2 rec A f h k c (rec (Option (AV×Heap)) bU5 (.body f c.full h.raise cC4))
def cW2(E:Env)(rec:Rec)(A:Alg R)(f:FuncId)(args:List AV)(h:Heap)(k:AV→Heap→R)(x:Res):R:=match x with
 | .val v h=>k v h
 | .need e v h=>needA A e (k v h)
 |_=>bif E.amb f then bW6 rec A f args h k (rec (Option (AV×Heap)) bU5 (.body f args h.raise cC4))else
  bif E.caps f then cC5 rec A f args h k (d84 args h)else rec R A (.body f args h k)
def cW3(E:Env)(rec:Rec)(A:Alg R)(f:FuncId)(args:List AV)(h:Heap)(k:AV→Heap→R):R:=cW2 E rec A f args h k (E.hook f args h)
def cQ2(A:Alg R)(h:Heap)(k:AV→Heap→R)(vs:Option (List AV)):R:=match vs with
 |some vs=>k (cC0 vs) h
 |none=>A.bad
def cw3(P:Program)(rec:Rec)(A:Alg R)(rs:List ResultVar)(k:AV→Heap→R)(e:Ex)(a:Fr)(h:Heap):R:=match e with
 | .exit _=>A.bad
 |_=>match a.ds with
  | []=>cQ2 A h k (aG5 P a h rs)
  |ds=>rec R A (.leave rs a ds h k)
def bW7(P:Program)(A:Alg R)(rs:List ResultVar)(k:AV→Heap→R)(e:Ex)(a:Fr)(h:Heap):R:=match e with
 | .exit _=>A.bad
 |_=>match a.ds with
  | []=>cQ2 A h k (aG5 P a h rs)
  |_=>A.bad
def cC6(P:Program)(rec:Rec)(A:Alg R)(f:FuncId)(args:List AV)(h:Heap)(k:AV→Heap→R)(fn:Option Func):R:=match fn with
 |none=>A.bad
 |some fn=>match fn.body with
  |none=>A.bad
  |some c=>bif Nat.ble (Nat.max fn.ntmps args.length) 256 then rec R A (.code c ⟨a97 args 0 TF.empty,Nat.max fn.ntmps args.length,[],f,[],none⟩ h (cw3 P rec A fn.results.toList k))else A.bad
def cC7(P:Program)(rec:Rec)(A:Alg R)(f:FuncId)(args:List AV)(h:Heap)(k:AV→Heap→R)(fn:Option Func):R:=match fn with
 |none=>A.bad
 |some fn=>match fn.body with
  |none=>A.bad
  |some c=>bif Nat.ble (Nat.max fn.ntmps args.length) 256 then rec R A (.code c ⟨a97 args 0 TF.empty,Nat.max fn.ntmps args.length,[],f,[],none⟩ h (bW7 P A fn.results.toList k))else A.bad
def dc3(rec:Rec)(A:Alg R)(rs:List ResultVar)(a:Fr)(ds:List ADef)(k:AV→Heap→R)(_:AV)(h:Heap):R:=rec R A (.leave rs a ds h k)
def lFn(rec:Rec)(A:Alg R)(rs:List ResultVar)(a:Fr)(ds:List ADef)(h:Heap)(k:AV→Heap→R)(r:Res):R:=match r with
 | .enter f args=>rec R A (.dbody f args h (dc3 rec A rs a ds k))
 |_=>A.bad
def cC8(rec:Rec)(A:Alg R)(rs:List ResultVar)(a:Fr)(ds:List ADef)(b:Nat)(h:Heap)(k:AV→Heap→R)(x:Option Blk):R:=match x with
 |some (.defd false)=>bif Nat.ble h.wm b then rec R A (.leave rs a ds (h.put b (some (.defd true))) k)else A.bad
 |_=>A.bad
def bW8(E:Env)(rec:Rec)(A:Alg R)(rs:List ResultVar)(a:Fr)(ds:List ADef)(h:Heap)(k:AV→Heap→R):R:=match ds with
 | []=>cQ2 A h k (aG5 E.P a h rs)
 | .coll b::ds=>cC8 rec A rs a ds b h k (h.get b)
 | .fn f cap args::ds=>lFn rec A rs a ds h k (bc1 E f (args++cap) h)
def cW4(E:Env)(rec:Rec)(A:Alg R)(f:FuncId)(args:List AV)(h:Heap)(k:AV→Heap→R):R:=cC6 E.P rec A f args h k (E.P.funcs[f]?)
def cW5(E:Env)(rec:Rec)(A:Alg R)(t:Task R):R:=match t with
 | .code c a h k=>cv8 E rec A c a h k
 | .loop c a h k=>cV7 rec A c a h k (E.lspec a.fn (ag1 c) a h)
 | .ops all rest a h k=>dc2 E rec A all rest a h k
 | .dops all rest pend a h k=>cW1 E rec A all rest pend a h k
 | .call f args h k=>cW3 E rec A f args h k
 | .body f args h k=>cW4 E rec A f args h k
 | .dbody f args h k=>cC7 E.P rec A f args h k (E.P.funcs[f]?)
 | .leave rs a ds h k=>bW8 E rec A rs a ds h k
end
def dl6(R:Type)(A:Alg R)(_:Task R):R:=A.bad
def evS(E:Env)(_:Nat)(rec:Rec)(R:Type)(A:Alg R)(t:Task R):R:=cW5 E rec A t
def ev(E:Env)(n:Nat):Rec:=Nat.rec (motive:=fun _=>Rec) dl6 (evS E) n
end
end Go.Ev
