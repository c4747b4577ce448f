import Derived.Test.YtbfbcanipfnfeaaE31
import Derived.Carry
import Derived.OpenShut
import Derived.ChangeSame
import Derived.ChangeMaps5
set_option linter.unusedVariables false
set_option linter.unusedSimpArgs false
namespace Go.Ev
open Go Go.RowKit Go.WideShapes Go.ChangeShapes
section
variable{H:Type}{enc:TypeId×Value→H}{P:Program}
theorem as9(hl:laidOutB P=true){W W':World}{sp':Nat→Bool}: ∀{ts:List TypeId} {vs:List Value} {ds:List (DataW H)} {ps:List MemPlace},DataW.TrodAll enc P W 0 (fun _=>true) true ts vs ds ps→
 (ts.all fun t=>P.readableRec t&&decide (t<P.types.size))=true→(∀p∈ps,W.sameAt W' p)→(∀p∈ps,sp' p.block=true)→DataW.TrodAll enc P W' 0 sp' true ts vs ds ps
 | [],vs,ds,ps,h,_,_,_=>by
   obtain⟨rfl,rfl,rfl⟩:=trodAll_nil h
   exact trodAll_mk0
 |t::ts,vs,ds,ps,h,hr,hs,hp=>by
  obtain⟨v,vs',d,ds',p,q,rfl,rfl,rfl,h1,h2⟩:=trodAll_cons h
  simp only[List.all_cons,d6,decide_eq_true_eq]at hr
  exact trodAll_cons_mk (WideElems.Trod_stays hl hr.1.1 hr.1.2 h1 (fun x hx=>hs x (by simp[hx])) (fun x hx=>hp x (by simp[hx])))
    (as9 hl h2 hr.2 (fun x hx=>hs x (by simp[hx])) (fun x hx=>hp x (by simp[hx])))
theorem ck2{f:Func}{s:ChangeSpec}{W W':World}{args:Array Value}{ds:List (DataW H)}{before:List MemPlace}{tb:TypeId}
 (hW:DataW.Whole enc P f.params.toList s.vars false W args.toList ds [] before) (hv:s.vars=[]) (hfn:s.fn H ds={results:=[.lit (.bool true)],args:=ds})
 (hl:laidOutB P=true) (hr:(f.params.toList.all fun t=>P.readableRec t&&decide (t<P.types.size))=true) (hb:Below W.heap.size W W')
 (hbool:P.underlying tb=some .bool) (hres:f.resultTypes= #[tb]):s.post enc P f false true false false W args (.bool true) W':=by
 have hlt: ∀p∈before,p.block<W.heap.size:=fun p hp=>hW.lt p hp
 have hWW:=hW
 obtain⟨p,q,hA,hV,rfl,hz,_⟩:=hWW
 rw[hv]at hV
 obtain rfl:q=[]:=hV
 simp only[n9]at hlt hz
 have hsame: ∀x∈p,W.sameAt W' x:=fun x hx=>hb.same (hlt x hx)
 have hargs: ∀sp:Nat→Bool,(∀x∈p,sp x.block=true)→DataW.TrodAll enc P W' 0 sp true f.params.toList args.toList ds p:=fun sp hsp=>as9 hl hA hr hsame hsp
 have hress: ∀(b:Nat) (sp:Nat→Bool) (hd:Bool),DataW.TrodAll enc P W' b sp hd f.resultTypes.toList ((Value.bool true).resultList f.resultTypes.size) [.lit (.bool true)] []:=fun b sp hd=>by
  rw[hres];exact trodAll_mk1 (shut_bool hbool true)
 have hvs: ∀sp:Nat→Bool,DataW.TrodVars enc P W' sp s.vars [] []:=fun sp=>by rw[hv];rfl
 have h0:s.fn H (ds++[])={results:=[.lit (.bool true)],args:=ds}:=by rw[n9];exact hfn
 refine⟨ds,[],p,[],p,[],by simpa using hW,?_,?_,?_,World.keptBut_mono (fun x hx=>⟨hx,.inr (.inl hx)⟩) (hb.frame (· ∈p)),fun h=>by cases h⟩
 ·rw[h0];exact hress _ _ _
 ·rw[h0];exact hargs _ (fun x hx=>by simpa using hlt x hx)
 ·rw[h0];exact hvs _
end
def cs5:Value→Val
 | .int _ n=> .vi n
 | .string s=> .vs s.data.toList
 | .bool b=> .vb b
 |_=> .vb false
end Go.Ev
