import Derived.Test.YtfpjiopkeekkeaaGreatDoorE17
set_option autoImplicit false
set_option linter.unusedVariables false
set_option linter.unusedSimpArgs false
namespace Go.Ev
open Go
variable{E:Env}{β:Bij}{ω:Opq}{K:Nat→Prop}{w0 w:World}{h h':Heap}
theorem ae7{ρ ρ':Operand→Option AV}: ∀{l:List Operand},(∀x∈l,ρ x=ρ' x)→evs ρ l=evs ρ' l
 | [],_=>rfl
 |x::r,h=>by
  simp only[evs]
  rw[h x (.head _),ae7 fun y hy=>h y (.tail _ hy)]
theorem aC2{ρ ρ':Operand→Option AV}: ∀{l:List (Nat×Operand)},(∀x∈l.map (·.2),ρ x=ρ' x)→aW4 ρ l=aW4 ρ' l
 | [],_=>rfl
 |(i,x)::r,h=>by
  simp only[aW4]
  rw[h x (.head _),aC2 fun y hy=>h y (.tail _ hy)]
theorem aa3{ρ ρ':Operand→Option AV}{x:Option Operand}(h: ∀y∈x.toArray,ρ y=ρ' y):evo ρ x=evo ρ' x:=by
 cases x with
 |none=>rfl
 |some y=>simp only[evo];rw[h y (by simp)]
theorem br1{ρ ρ':Operand→Option AV}(o:Oper)(hh: ∀x∈o.op.operands,ρ x=ρ' x)(h:Heap):av4 E ρ o h=av4 E ρ' o h:=by
 obtain⟨dst,op,ty,pos,after,guard⟩:=o
 cases op<;>simp only[Op.operands]at hh<;>simp only[av4]
 case build t ps=>rw[aC2 fun x hx=>hh x (by simpa using hx)]
 case buildSlice t n ps=>rw[aC2 fun x hx=>hh x (by simpa using hx)]
 case makeFunc fn a b=>rw[ae7 (l:=a.toList) fun x hx=>hh x (by simp at hx;simp[hx]),ae7 (l:=b.toList) fun x hx=>hh x (by simp at hx;simp[hx])]
 case makeMap t r=>rw[aa3 hh]
 case slice t x lo hi mx=>rw[hh x (by simp),aa3 (x:=lo) fun y hy=>hh y (by simp at hy;simp[hy]),aa3 (x:=hi) fun y hy=>hh y (by simp at hy;simp[hy]),aa3 (x:=mx) fun y hy=>hh y (by simp at hy;simp[hy])]
 case call c=>
  have h1:evs ρ c.args.toList=evs ρ' c.args.toList:=ae7 fun x hx=>hh x (by simp at hx;simp[Call.operands,hx])
  rw[h1]
  cases evs ρ' c.args.toList with
  |none=>rfl
  |some args=>
   simp only[bc2]
   cases hc:c.callee with
   |builtin b=>rfl
   |invoke r m=>simp only[];rw[hh r (by simp[Call.operands,hc])]
   |value f=>simp only[];rw[hh f (by simp[Call.operands,hc])]
 case defer c=>
  have h1:evs ρ c.args.toList=evs ρ' c.args.toList:=ae7 fun x hx=>hh x (by simp at hx;simp[Call.operands,hx])
  rw[h1]
  cases evs ρ' c.args.toList with
  |none=>rfl
  |some args=>
   simp only[bc3]
   cases hc:c.callee with
   |builtin b=>rfl
   |invoke r m=>rfl
   |value f=>simp only[];rw[hh f (by simp[Call.operands,hc])]
 case pick c a b=>
  rw[hh c (by simp)]
  unfold bn2
  rw[hh a (by simp),hh b (by simp)]
 all_goals first
  |rfl
  |simp only[hh _ (show _∈(#[_]:Array Operand) by simp)]
  |simp[hh]
theorem br2{ρ ρ':Operand→Option AV}(o:Oper)(hh: ∀x∈o.op.operands,ρ x=ρ' x)(h:Heap):aL0 E ρ o h=aL0 E ρ' o h:=by
 obtain⟨dst,op,ty,pos,after,guard⟩:=o
 cases op<;>simp only[Op.operands]at hh<;>simp only[aL0]
 case slice t x lo hi mx=>rw[hh x (by simp),aa3 (x:=lo) fun y hy=>hh y (by simp at hy;simp[hy]),aa3 (x:=hi) fun y hy=>hh y (by simp at hy;simp[hy]),aa3 (x:=mx) fun y hy=>hh y (by simp at hy;simp[hy])]
 case call c=>
  have h1:evs ρ c.args.toList=evs ρ' c.args.toList:=ae7 fun x hx=>hh x (by simp at hx;simp[Call.operands,hx])
  simp only[ch8,h1]
 all_goals first
  |rfl
  |simp only[hh _ (show _∈(#[_]:Array Operand) by simp)]
  |simp[hh]
theorem aj9{ρ ρ':Operand→Option AV}(o:Oper)(hh: ∀x∈o.op.operands,ρ x=ρ' x)(h:Heap):U3 E ρ o h=U3 E ρ' o h:=by
 unfold U3
 rw[br1 o hh,br2 o hh]
theorem br3{ρ:Operand→Option AV}{o:Oper}(ha:T7 o=true)(h:Heap):aL0 E ρ o h= .bad:=by
 obtain⟨dst,op,ty,pos,after,guard⟩:=o
 cases op<;>first|rfl|(cases ha;done)
theorem aF5{ρ:Operand→Option AV}{o:Oper}(ha:T7 o=true)(h:Heap):U3 E ρ o h=av4 E ρ o h:=by
 unfold U3
 rw[br3 ha]
 cases av4 E ρ o h<;>rfl
end Go.Ev
