import Derived.Test.YtagmhdcpfhpmfaaGreatE16y
set_option linter.unusedVariables false
set_option linter.unusedSimpArgs false
namespace Go.Ev
open Go
variable{E:Env}{β:Bij}{ω:Opq}{K:Nat→Prop}{w0 w:World}{h h':Heap}{ρA:Operand→Option AV}{ρ:Operand→Value}
theorem HR.marr{b:Nat}{ks vs:List CT}{l:SX}{L:Loc}(r:HR β ω K w0 h w)(hg:h.get b=some (.marr ks vs l))(hb:β b=some L):
 ∃E c,w.heap[L.blk]? =some (.map E c)∧(E.toList.map fun e=>(e.key,e.val))=(dL ω l).map (dx1 ks vs):=r.blk b _ L hg hb
theorem b24: ∀{sig:List CT} {vs:List AV} {es:List SX},U5 sig vs=some es→es.length=sig.length
 | [],[],es,h=>by simp only[U5,d5]at h;subst h;rfl
 | [],_::_,es,h=>by cases h
 |_::_,[],es,h=>by cases h
 |c::cs,v::vs,es,h=>by
  unfold U5 at h
  split at h
  ·rename_i e es' h1 h2
   simp only[d5]at h;subst h
   simp[b24 h2]
  ·cases h
theorem c75(r:HR β ω K w0 h w)(o:OpR β ω ρA ρ)(t:TypeId)(m k:Operand)(ok:Bool):SOk E β ω K w0 w h (do pure (.value (←Instr.lookup t (ρ m) (ρ k) ok))) (bn7 E.P t h (ρA m) (ρA k) ok):=by
 unfold bn7;trivial
theorem bE6(r:HR β ω K w0 h w)(o:OpR β ω ρA ρ)(t:TypeId)(m k x:Operand):SOk E β ω K w0 w h (do Instr.mapUpdate t (ρ m) (ρ k) (ρ x);pure .skip) (bW8 E.P t h (ρA m) (ρA k) (ρA x)):=by
 unfold bW8;trivial
end Go.Ev
