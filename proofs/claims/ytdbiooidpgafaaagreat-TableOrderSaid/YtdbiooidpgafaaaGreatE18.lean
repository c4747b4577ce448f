import Derived.Test.YtdbiooidpgafaaaGreatE17
set_option linter.unusedVariables false
set_option linter.unusedSimpArgs false
namespace Go.Ev
open Go
variable{E:Env}{β:Bij}{ω:Opq}{K:Nat→Prop}{w0 w:World}{h h':Heap}
theorem ae9{ρ ρ':Operand→Option AV}: ∀{l:List Operand},(∀x∈l,ρ x=ρ' x)→evs ρ l=evs ρ' l
 | [],_=>rfl
 |x::r,h=>by
  simp only[evs]
  rw[h x (.head _),ae9 fun y hy=>h y (.tail _ hy)]
theorem aA2{ρ ρ':Operand→Option AV}: ∀{l:List (Nat×Operand)},(∀x∈l.map (·.2),ρ x=ρ' x)→aU3 ρ l=aU3 ρ' l
 | [],_=>rfl
 |(i,x)::r,h=>by
  simp only[aU3]
  rw[h x (.head _),aA2 fun y hy=>h y (.tail _ hy)]
theorem aa8{ρ ρ':Operand→Option AV}{x:Option Operand}(h: ∀y∈x.toArray,ρ y=ρ' y):evo ρ x=evo ρ' x:=by
 cases x with
 |none=>rfl
 |some y=>simp only[evo];rw[h y (by simp)]
theorem bs5{ρ ρ':Operand→Option AV}(o:Oper)(hh: ∀x∈o.op.operands,ρ x=ρ' x)(h:Heap):at7 E ρ o h=at7 E ρ' o h:=by
 obtain⟨dst,op,ty,pos,after,guard⟩:=o
 cases op<;>simp only[Op.operands]at hh<;>simp only[at7]
 case build t ps=>rw[aA2 fun x hx=>hh x (by simpa using hx)]
 case buildSlice t n ps=>rw[aA2 fun x hx=>hh x (by simpa using hx)]
 case makeFunc fn a b=>rw[ae9 (l:=a.toList) fun x hx=>hh x (by simp at hx;simp[hx]),ae9 (l:=b.toList) fun x hx=>hh x (by simp at hx;simp[hx])]
 case makeMap t r=>rw[aa8 hh]
 case slice t x lo hi mx=>rw[hh x (by simp),aa8 (x:=lo) fun y hy=>hh y (by simp at hy;simp[hy]),aa8 (x:=hi) fun y hy=>hh y (by simp at hy;simp[hy]),aa8 (x:=mx) fun y hy=>hh y (by simp at hy;simp[hy])]
 case call c=>
  have h1:evs ρ c.args.toList=evs ρ' c.args.toList:=ae9 fun x hx=>hh x (by simp at hx;simp[Call.operands,hx])
  rw[h1]
  cases evs ρ' c.args.toList with
  |none=>rfl
  |some args=>
   simp only[bb9]
   cases hc:c.callee with
   |builtin b=>rfl
   |invoke r m=>simp only[];rw[hh r (by simp[Call.operands,hc])]
   |value f=>simp only[];rw[hh f (by simp[Call.operands,hc])]
 case defer c=>
  have h1:evs ρ c.args.toList=evs ρ' c.args.toList:=ae9 fun x hx=>hh x (by simp at hx;simp[Call.operands,hx])
  rw[h1]
  cases evs ρ' c.args.toList with
  |none=>rfl
  |some args=>
   simp only[bc0]
   cases hc:c.callee with
   |builtin b=>rfl
   |invoke r m=>rfl
   |value f=>simp only[];rw[hh f (by simp[Call.operands,hc])]
 case pick c a b=>
  rw[hh c (by simp)]
  unfold bo4
  rw[hh a (by simp),hh b (by simp)]
 all_goals first
  |rfl
  |simp only[hh _ (show _∈(#[_]:Array Operand) by simp)]
  |simp[hh]
theorem bs6{ρ ρ':Operand→Option AV}(o:Oper)(hh: ∀x∈o.op.operands,ρ x=ρ' x)(h:Heap):aJ9 E ρ o h=aJ9 E ρ' o h:=by
 obtain⟨dst,op,ty,pos,after,guard⟩:=o
 cases op<;>simp only[Op.operands]at hh<;>simp only[aJ9]
 case slice t x lo hi mx=>rw[hh x (by simp),aa8 (x:=lo) fun y hy=>hh y (by simp at hy;simp[hy]),aa8 (x:=hi) fun y hy=>hh y (by simp at hy;simp[hy]),aa8 (x:=mx) fun y hy=>hh y (by simp at hy;simp[hy])]
 case call c=>
  have h1:evs ρ c.args.toList=evs ρ' c.args.toList:=ae9 fun x hx=>hh x (by simp at hx;simp[Call.operands,hx])
  simp only[cm4,h1]
 all_goals first
  |rfl
  |simp only[hh _ (show _∈(#[_]:Array Operand) by simp)]
  |simp[hh]
theorem aj2{ρ ρ':Operand→Option AV}(o:Oper)(hh: ∀x∈o.op.operands,ρ x=ρ' x)(h:Heap):W3 E ρ o h=W3 E ρ' o h:=by
 unfold W3
 rw[bs5 o hh,bs6 o hh]
theorem bs7{ρ:Operand→Option AV}{o:Oper}(ha:V6 o=true)(h:Heap):aJ9 E ρ o h= .bad:=by
 obtain⟨dst,op,ty,pos,after,guard⟩:=o
 cases op<;>first|rfl|(cases ha;done)
theorem aE0{ρ:Operand→Option AV}{o:Oper}(ha:V6 o=true)(h:Heap):W3 E ρ o h=at7 E ρ o h:=by
 unfold W3
 rw[bs7 ha]
 cases at7 E ρ o h<;>rfl
end Go.Ev
