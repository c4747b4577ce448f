import Derived.Test.YtbfbcanipfnfeaaE28
set_option linter.unusedVariables false
set_option linter.unusedSimpArgs false
namespace Go.Ev
open Go
variable{E:Env}{ω:Opq}{K:Nat→Prop}{w0 w w':World}{h h':Heap}{β β':Bij}
theorem HR.later(r:HR β ω K w0 h w)(hpre: ∀i,i<w.heap.size→w'.heap[i]? =w.heap[i]?)(hsz:w.heap.size≤w'.heap.size)(hos:w'.os=w.os)(htp:w'.tape=w.tape)(hout:w'.output=w.output)(hdr:w.drawn≤w'.drawn):HR β ω K w0 h w':=by
 refine⟨fun b x L hg hb=> ?_,r.sep,r.fresh,r.fget,fun b L hb=>o7 (r.lt b L hb) hsz,r.kin,fun i hi=> ?_,r.free,m7 r.size hsz,hos.trans r.os,htp.trans r.tape,hout.trans r.out,m7 r.dr hdr⟩
 ·rw[hpre _ (r.lt b L hb)];exact r.blk b x L hg hb
 ·rw[hpre _ (o7 (r.kin i hi) r.size)];exact r.keep i hi
theorem HR.later2(r:HR β ω K w0 h w)(hpre: ∀b x L,h.get b=some x→β b=some L→w'.heap[L.blk]? =w.heap[L.blk]?)(hK: ∀i,K i→w'.heap[i]? =w.heap[i]?)(hsz:w.heap.size≤w'.heap.size)(hos:w'.os=w.os)(htp:w'.tape=w.tape)(hout:w'.output=w.output)(hdr:w.drawn≤w'.drawn):HR β ω K w0 h w':=by
 refine⟨fun b x L hg hb=> ?_,r.sep,r.fresh,r.fget,fun b L hb=>o7 (r.lt b L hb) hsz,r.kin,fun i hi=> ?_,r.free,m7 r.size hsz,hos.trans r.os,htp.trans r.tape,hout.trans r.out,m7 r.dr hdr⟩
 ·rw[hpre b x L hg hb];exact r.blk b x L hg hb
 ·rw[hK i hi];exact r.keep i hi
theorem HR.row(r:HR β ω K w0 h w')(L:Loc)(hn: ∀b y M,h.get b=some y→β b=some M→M.blk≠L.blk)(hk: ¬K L.blk)(hlt:L.blk<w'.heap.size)(x:Blk)(hx:BR (β.add h.next L) ω L w'.heap[L.blk]? x):
 HR (β.add h.next L) ω K w0 (h.new x) w'∧St h β (h.new x) (β.add h.next L):=by
 have hst:St h β (h.new x) (β.add h.next L):=by
  refine⟨by simp,fun b hb=> ?_,fun b hb _=> ?_,rfl⟩
  ·simp only[Bij.add];rw[if_neg (by omega)]
  ·left;rw[Heap.get_new,if_neg (by omega)]
 have hle:=hst.Le r
 refine⟨⟨?_,?_,?_,?_,?_,r.kin,r.keep,?_,r.size,r.os,r.tape,r.out,r.dr⟩,hst⟩
 ·intro b y M hg hb
  rw[Heap.get_new]at hg
  simp only[Bij.add]at hb
  by_cases e:b=h.next
  ·rw[if_pos e]at hg hb
   simp only[a8]at hb;subst hb
   split at hg
   ·simp only[a8]at hg;subst hg;exact hx
   ·cases hg
  ·rw[if_neg e]at hg hb
   exact(r.blk b y M hg hb).mono hle
 ·intro b1 b2 y1 y2 M1 M2 g1 g2 m1 m2 hne hw
  rw[Heap.get_new]at g1 g2
  simp only[Bij.add]at m1 m2
  by_cases e1:b1=h.next
  ·rw[if_pos e1]at m1;simp only[a8]at m1;subst m1
   by_cases e2:b2=h.next
   ·exact absurd (e1.trans e2.symm) hne
   ·rw[if_neg e2]at m2 g2
    exact fun hh=>hn b2 y2 M2 g2 m2 hh.symm
  ·rw[if_neg e1]at g1 m1
   by_cases e2:b2=h.next
   ·rw[if_pos e2]at m2;simp only[a8]at m2;subst m2
    exact hn b1 y1 M1 g1 m1
   ·rw[if_neg e2]at g2 m2
    exact r.sep b1 b2 y1 y2 M1 M2 g1 g2 m1 m2 hne hw
 ·intro b hb
  simp only[Heap.next_new]at hb
  simp only[Bij.add];rw[if_neg (by omega)];exact r.fresh b (by omega)
 ·intro b hb
  simp only[Heap.next_new]at hb
  rw[Heap.get_new,if_neg (by omega)];exact r.fget b (by omega)
 ·intro b M hb
  simp only[Bij.add]at hb
  split at hb
  ·simp only[a8]at hb;subst hb;exact hlt
  ·exact r.lt b M hb
 ·intro b y M hg hw hb
  rw[Heap.get_new]at hg
  simp only[Bij.add]at hb
  by_cases e:b=h.next
  ·rw[if_pos e]at hb;simp only[a8]at hb;subst hb
   exact hk
  ·rw[if_neg e]at hg hb
   exact r.free b y M hg hw hb
theorem b34{v:AV}{u:Value}(hp:Z2 v=true)(r:VR β ω v u):VR β' ω v u:=by
 cases v<;>simp only[Z2,i4]at hp<;>exact r
theorem aW5: ∀{vs:List AV} {us:List Value},vs.all Z2=true→VRs β ω vs us→VRs β' ω vs us
 | [],_,_,r=>r
 |v::vs,_,hp,⟨u,ur,e,p,q⟩=>by
  simp only[List.all_cons,d6]at hp
  exact⟨u,ur,e,b34 hp.1 p,aW5 hp.2 q⟩
theorem Out.beq_eq: ∀{a b:Out},Out.beq a b=true→a=b
 | .plain a,.plain b,h=>by rw[AV.beq_eq a b h]
 | .row e l s c,.row e' l' s' c',h=>by
   simp only[Out.beq,d6,D0]at h
   obtain⟨⟨⟨rfl,rfl⟩,rfl⟩,h⟩:=h
   rw[AV.beqs_eq c c' h]
 | .plain _,.row _ _ _ _,h=>by cases h
 | .row _ _ _ _,.plain _,h=>by cases h
theorem aW6: ∀{a b:List Out},aZ7 a b=true→a=b
 | [],[],_=>rfl
 | [],_::_,h=>by cases h
 |_::_,[],h=>by cases h
 |a::x,b::y,h=>by
  simp only[aZ7,d6]at h
  rw[Out.beq_eq h.1,aW6 h.2]
end Go.Ev
