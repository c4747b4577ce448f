import Derived.Test.YtagmhdcpfhpmfaaGreatE17
set_option linter.unusedVariables false
set_option linter.unusedSimpArgs false
namespace Go.Ev
open Go
variable{E:Env}{β:Bij}{ω:Opq}{K:Nat→Prop}{w0 w:World}{h h':Heap}
theorem ab3{ρ ρ':Operand→Option AV}: ∀{l:List Operand},(∀x∈l,ρ x=ρ' x)→evs ρ l=evs ρ' l
 | [],_=>rfl
 |x::r,h=>by
  simp only[evs]
  rw[h x (.head _),ab3 fun y hy=>h y (.tail _ hy)]
theorem aK5{ρ ρ':Operand→Option AV}: ∀{l:List (Nat×Operand)},(∀x∈l.map (·.2),ρ x=ρ' x)→bg7 ρ l=bg7 ρ' l
 | [],_=>rfl
 |(i,x)::r,h=>by
  simp only[bg7]
  rw[h x (.head _),aK5 fun y hy=>h y (.tail _ hy)]
theorem a66{ρ ρ':Operand→Option AV}{x:Option Operand}(h: ∀y∈x.toArray,ρ y=ρ' y):evo ρ x=evo ρ' x:=by
 cases x with
 |none=>rfl
 |some y=>simp only[evo];rw[h y (by simp)]
theorem bM5{ρ ρ':Operand→Option AV}(o:Oper)(hh: ∀x∈o.op.operands,ρ x=ρ' x)(h:Heap):aB4 E ρ o h=aB4 E ρ' o h:=by
 obtain⟨dst,op,ty,pos,after,guard⟩:=o
 cases op<;>simp only[Op.operands]at hh<;>simp only[aB4]
 case build t ps=>rw[aK5 fun x hx=>hh x (by simpa using hx)]
 case buildSlice t n ps=>rw[aK5 fun x hx=>hh x (by simpa using hx)]
 case makeFunc fn a b=>rw[ab3 (l:=a.toList) fun x hx=>hh x (by simp at hx;simp[hx]),ab3 (l:=b.toList) fun x hx=>hh x (by simp at hx;simp[hx])]
 case makeMap t r=>rw[a66 hh]
 case slice t x lo hi mx=>rw[hh x (by simp),a66 (x:=lo) fun y hy=>hh y (by simp at hy;simp[hy]),a66 (x:=hi) fun y hy=>hh y (by simp at hy;simp[hy]),a66 (x:=mx) fun y hy=>hh y (by simp at hy;simp[hy])]
 case call c=>
  have h1:evs ρ c.args.toList=evs ρ' c.args.toList:=ab3 fun x hx=>hh x (by simp at hx;simp[Call.operands,hx])
  rw[h1]
  cases evs ρ' c.args.toList with
  |none=>rfl
  |some args=>
   simp only[bA8]
   cases hc:c.callee with
   |builtin b=>rfl
   |invoke r m=>simp only[];rw[hh r (by simp[Call.operands,hc])]
   |value f=>simp only[];rw[hh f (by simp[Call.operands,hc])]
 case defer c=>
  have h1:evs ρ c.args.toList=evs ρ' c.args.toList:=ab3 fun x hx=>hh x (by simp at hx;simp[Call.operands,hx])
  rw[h1]
  cases evs ρ' c.args.toList with
  |none=>rfl
  |some args=>
   simp only[bA9]
   cases hc:c.callee with
   |builtin b=>rfl
   |invoke r m=>rfl
   |value f=>simp only[];rw[hh f (by simp[Call.operands,hc])]
 case pick c a b=>
  rw[hh c (by simp)]
  unfold bJ3
  rw[hh a (by simp),hh b (by simp)]
 all_goals first
  |rfl
  |simp only[hh _ (show _∈(#[_]:Array Operand) by simp)]
  |simp[hh]
theorem bM6{ρ ρ':Operand→Option AV}(o:Oper)(hh: ∀x∈o.op.operands,ρ x=ρ' x)(h:Heap):aZ0 E ρ o h=aZ0 E ρ' o h:=by
 obtain⟨dst,op,ty,pos,after,guard⟩:=o
 cases op<;>simp only[Op.operands]at hh<;>simp only[aZ0]
 case slice t x lo hi mx=>rw[hh x (by simp),a66 (x:=lo) fun y hy=>hh y (by simp at hy;simp[hy]),a66 (x:=hi) fun y hy=>hh y (by simp at hy;simp[hy]),a66 (x:=mx) fun y hy=>hh y (by simp at hy;simp[hy])]
 case call c=>
  have h1:evs ρ c.args.toList=evs ρ' c.args.toList:=ab3 fun x hx=>hh x (by simp at hx;simp[Call.operands,hx])
  simp only[cA9,h1]
 all_goals first
  |rfl
  |simp only[hh _ (show _∈(#[_]:Array Operand) by simp)]
  |simp[hh]
theorem al9{ρ ρ':Operand→Option AV}(o:Oper)(hh: ∀x∈o.op.operands,ρ x=ρ' x)(h:Heap):R6 E ρ o h=R6 E ρ' o h:=by
 unfold R6
 rw[bM5 o hh,bM6 o hh]
theorem bM7{ρ:Operand→Option AV}{o:Oper}(ha:Q6 o=true)(h:Heap):aZ0 E ρ o h= .bad:=by
 obtain⟨dst,op,ty,pos,after,guard⟩:=o
 cases op<;>first|rfl|(cases ha;done)
theorem aR6{ρ:Operand→Option AV}{o:Oper}(ha:Q6 o=true)(h:Heap):R6 E ρ o h=aB4 E ρ o h:=by
 unfold R6
 rw[bM7 ha]
 cases aB4 E ρ o h<;>rfl
end Go.Ev
