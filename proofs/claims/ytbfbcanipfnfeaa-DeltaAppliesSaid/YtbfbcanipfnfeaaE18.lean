import Derived.Test.YtbfbcanipfnfeaaE17
set_option linter.unusedVariables false
set_option linter.unusedSimpArgs false
namespace Go.Ev
open Go
variable{E:Env}{β:Bij}{ω:Opq}{K:Nat→Prop}{w0 w:World}{h h':Heap}
theorem ab3{ρ ρ':Operand→Option AV}: ∀{l:List Operand},(∀x∈l,ρ x=ρ' x)→evs ρ l=evs ρ' l
 | [],_=>rfl
 |x::r,h=>by
  simp only[evs]
  rw[h x (.head _),ab3 fun y hy=>h y (.tail _ hy)]
theorem aw9{ρ ρ':Operand→Option AV}: ∀{l:List (Nat×Operand)},(∀x∈l.map (·.2),ρ x=ρ' x)→aS1 ρ l=aS1 ρ' l
 | [],_=>rfl
 |(i,x)::r,h=>by
  simp only[aS1]
  rw[h x (.head _),aw9 fun y hy=>h y (.tail _ hy)]
theorem a73{ρ ρ':Operand→Option AV}{x:Option Operand}(h: ∀y∈x.toArray,ρ y=ρ' y):evo ρ x=evo ρ' x:=by
 cases x with
 |none=>rfl
 |some y=>simp only[evo];rw[h y (by simp)]
theorem bm9{ρ ρ':Operand→Option AV}(o:Oper)(hh: ∀x∈o.op.operands,ρ x=ρ' x)(h:Heap):aq4 E ρ o h=aq4 E ρ' o h:=by
 obtain⟨dst,op,ty,pos,after,guard⟩:=o
 cases op<;>simp only[Op.operands]at hh<;>simp only[aq4]
 case build t ps=>rw[aw9 fun x hx=>hh x (by simpa using hx)]
 case buildSlice t n ps=>rw[aw9 fun x hx=>hh x (by simpa using hx)]
 case makeFunc fn a b=>rw[ab3 (l:=a.toList) fun x hx=>hh x (by simp at hx;simp[hx]),ab3 (l:=b.toList) fun x hx=>hh x (by simp at hx;simp[hx])]
 case makeMap t r=>rw[a73 hh]
 case slice t x lo hi mx=>rw[hh x (by simp),a73 (x:=lo) fun y hy=>hh y (by simp at hy;simp[hy]),a73 (x:=hi) fun y hy=>hh y (by simp at hy;simp[hy]),a73 (x:=mx) fun y hy=>hh y (by simp at hy;simp[hy])]
 case call c=>
  have h1:evs ρ c.args.toList=evs ρ' c.args.toList:=ab3 fun x hx=>hh x (by simp at hx;simp[Call.operands,hx])
  rw[h1]
  cases evs ρ' c.args.toList with
  |none=>rfl
  |some args=>
   simp only[b82]
   cases hc:c.callee with
   |builtin b=>rfl
   |invoke r m=>simp only[];rw[hh r (by simp[Call.operands,hc])]
   |value f=>simp only[];rw[hh f (by simp[Call.operands,hc])]
 case defer c=>
  have h1:evs ρ c.args.toList=evs ρ' c.args.toList:=ab3 fun x hx=>hh x (by simp at hx;simp[Call.operands,hx])
  rw[h1]
  cases evs ρ' c.args.toList with
  |none=>rfl
  |some args=>
   simp only[b83]
   cases hc:c.callee with
   |builtin b=>rfl
   |invoke r m=>rfl
   |value f=>simp only[];rw[hh f (by simp[Call.operands,hc])]
 case pick c a b=>
  rw[hh c (by simp)]
  unfold bj0
  rw[hh a (by simp),hh b (by simp)]
 all_goals first
  |rfl
  |simp only[hh _ (show _∈(#[_]:Array Operand) by simp)]
  |simp[hh]
theorem bn0{ρ ρ':Operand→Option AV}(o:Oper)(hh: ∀x∈o.op.operands,ρ x=ρ' x)(h:Heap):aG3 E ρ o h=aG3 E ρ' o h:=by
 obtain⟨dst,op,ty,pos,after,guard⟩:=o
 cases op<;>simp only[Op.operands]at hh<;>simp only[aG3]
 case slice t x lo hi mx=>rw[hh x (by simp),a73 (x:=lo) fun y hy=>hh y (by simp at hy;simp[hy]),a73 (x:=hi) fun y hy=>hh y (by simp at hy;simp[hy]),a73 (x:=mx) fun y hy=>hh y (by simp at hy;simp[hy])]
 case call c=>
  have h1:evs ρ c.args.toList=evs ρ' c.args.toList:=ab3 fun x hx=>hh x (by simp at hx;simp[Call.operands,hx])
  simp only[cd1,h1]
 all_goals first
  |rfl
  |simp only[hh _ (show _∈(#[_]:Array Operand) by simp)]
  |simp[hh]
theorem ag4{ρ ρ':Operand→Option AV}(o:Oper)(hh: ∀x∈o.op.operands,ρ x=ρ' x)(h:Heap):S5 E ρ o h=S5 E ρ' o h:=by
 unfold S5
 rw[bm9 o hh,bn0 o hh]
theorem bn1{ρ:Operand→Option AV}{o:Oper}(ha:R9 o=true)(h:Heap):aG3 E ρ o h= .bad:=by
 obtain⟨dst,op,ty,pos,after,guard⟩:=o
 cases op<;>first|rfl|(cases ha;done)
theorem az8{ρ:Operand→Option AV}{o:Oper}(ha:R9 o=true)(h:Heap):S5 E ρ o h=aq4 E ρ o h:=by
 unfold S5
 rw[bn1 ha]
 cases aq4 E ρ o h<;>rfl
end Go.Ev
