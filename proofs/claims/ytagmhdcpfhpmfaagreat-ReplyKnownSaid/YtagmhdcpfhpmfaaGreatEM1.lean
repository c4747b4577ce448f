import Derived.Test.YtagmhdcpfhpmfaaGreatE41
namespace Go.Ev
open Go
theorem br9{step:List Val→Option (Nat×List Val)}{st:Nat→List Val}{n j:Nat}{p:List Val}(h1: ∀i,i<n→step (st i)=some (0,st (i+1)))(h2:step (st n)=some (j+1,p)):Y6 step (st 0)=some (j,p):=by
 rw[U0]
 have: ∀k,k≤n→Iter step (st (n-k)) j p:=by
  intro k
  induction k with
  |zero=>intro _;exact .out h2
  |succ k ih=>
   intro hk
   have e:=h1 (n-(k+1)) (by omega)
   rw[show n-(k+1)+1=n-k by omega]at e
   exact .more e (ih (by omega))
 have h:=this n (d8 _)
 rwa[D1]at h
def bs0(x:Val)(px:Nat→List Val)(bad:Nat→Bool)(n:Nat):Nat×List Val:=match(List.range n).find? bad with
 |some i=>(1,px i)
 |none=>(0,[x,.vi n])
theorem bm1{bad:Nat→Bool}: ∀{n i:Nat},(List.range n).find? bad=some i→i<n∧bad i=true∧ ∀k,k<i→bad k=false:=by
 intro n i h
 rw[List.find?_range_eq_some]at h
 exact⟨D0.1 h.2.1,h.1,fun k hk=>by simpa using h.2.2 k hk⟩
theorem O5{step:List Val→Option (Nat×List Val)}{x:Val}{px:Nat→List Val}{bad:Nat→Bool}{n:Nat}
 (h1: ∀i,i<n→bad i=false→step [x,.vi i]=some (0,[x,.vi (i+1:Nat)])) (h2: ∀i,i<n→bad i=true→step [x,.vi i]=some (2,px i))
 (h3:step [x,.vi n]=some (1,[x,.vi n])):Y6 step [x,.vi (0:Int)]=some (bs0 x px bad n):=by
 unfold bs0
 split
 ·rename_i i hi
  obtain⟨a,b,c⟩:=bm1 hi
  exact br9 (st:=fun i=>[x,.vi i]) (n:=i) (fun k hk=>h1 k (by omega) (c k hk)) (h2 i a b)
 ·rename_i hn
  rw[List.find?_range_eq_none]at hn
  exact br9 (st:=fun i=>[x,.vi i]) (n:=n) (fun k hk=>h1 k hk (by simpa using hn k hk)) h3
theorem aL6{x:Val}{px:Nat→List Val}{bad:Nat→Bool}{n:Nat}:bs0 x px bad n=if(List.range n).any bad then(1,px (((List.range n).find? bad).getD 0))else(0,[x,.vi n]):=by
 unfold bs0
 split
 ·rename_i i hi
  have:(List.range n).any bad=true:=by
   rw[List.any_eq_true]
   obtain⟨a,b,_⟩:=bm1 hi
   exact⟨i,D0.2 a,b⟩
  rw[this,hi];rfl
 ·rename_i hn
  have:(List.range n).any bad=false:=by
   rw[List.find?_range_eq_none]at hn
   rw[z9]
   intro i hi
   simpa using hn i (D0.1 hi)
  rw[this];rfl
def ax0(g:Nat→List Val):Nat→List Val
 |0=>[]
 |n+1=>ax0 g n++g n
theorem Q9{g:Nat→List Val}{m:Nat}(hg: ∀i,(g i).length≤m): ∀n,(ax0 g n).length≤n*m
 |0=>by simp[ax0]
 |n+1=>by
  have:=Q9 hg n
  have:=hg n
  simp only[ax0,d7,n7];omega
theorem ar0(g:Nat→List Val): ∀n,ax0 g n=(List.range n).flatMap g
 |0=>rfl
 |n+1=>by rw[ax0,ar0 g n,List.range_succ,F4];simp
theorem b56{α:Type}(q:α→Bool)(d:α): ∀(l:List α),((List.range l.length).any fun i=>q (l.getD i d))=l.any q
 | []=>rfl
 |a::l=>by
  rw[List.length_cons,D7,List.any_cons,B8]
  simp only[G1,List.any_cons]
  congr 1
  rw[←b56 q d l]
  congr 1
theorem ar1{α β:Type}(g:α→List β)(d:α): ∀(l:List α),((List.range l.length).flatMap fun i=>g (l.getD i d))=l.flatMap g
 | []=>rfl
 |a::l=>by
  rw[List.length_cons,D7,v8,G2]
  simp only[G1,v8]
  congr 1
  rw[←ar1 g d l]
  congr 1
theorem c25{α β:Type} [DecidableEq β](f:α→β)(d:α): ∀(l r:List α),l.length=r.length→((List.range l.length).any fun i=> !decide (f (l.getD i d)=f (r.getD i d)))= !decide (l.map f=r.map f)
 | [],[],_=>by simp
 |a::l,b::r,h=>by
  rw[List.length_cons,D7,List.any_cons,B8]
  simp only[G1,o9,s7]
  have:=c25 f d l r (by simpa using h)
  have e:((fun i=> !decide (f ((a::l).getD i d)=f ((b::r).getD i d)))∘Nat.succ)=fun i=> !decide (f (l.getD i d)=f (r.getD i d)):=by
   funext i;simp[Function.comp]
  rw[e,this]
  by_cases h1:f a=f b<;>simp[h1]
 | [],_::_,h=>by simp at h
 |_::_,[],h=>by simp at h
theorem aV0(l:List Val)(i:Nat)(j:Int):P3 l (i:Int) j=(l.getD i (.vl [])).toL.getD j.toNat default:=rfl
theorem c99{n:Nat}(h:n≤10000000):IntKind.i64.wrap ((n:Int)+1)=((n+1:Nat):Int):=by
 have:((n:Int)+1)=((n+1:Nat):Int):=by omega
 rw[this]
 simp only[IntKind.wrap,IntKind.bits,IntKind.signed]
 simp
 omega
end Go.Ev
