/- Four slices of a state cloned by calls in one region: the region's invariant. No function of the program is named. Conditions: none. Written by gen/mk-rtj.py. | A region that draws its order, walked by an invariant: each operation that may come up keeps it. No function is named. Conditions: none. | A region that reads,  -/
import Derived.Test.YtoiakijmbghhlaaGreatS27
import Derived.Orders
import Derived.Test.YtoiakijmbghhlaaGreatS00
import Derived.Test.YtoiakijmbghhlaaGreatS05
set_option linter.unusedVariables false
set_option linter.unusedSimpArgs false
set_option maxRecDepth 100000
set_option maxHeartbeats 32000000
namespace Go.Proofs.YtoiakijmbghhlaaGreat
open Go.RowKit
abbrev updV {β:Type} (y:Nat->β) (d:Nat) (v:β):Nat->β:=fun j=>if j=d then v else y j
def cqF (n0 B:Nat) (s:St) (l:Array Bool) (y:Nat->Value) (lo hi:Nat->Nat) (W:World):Nat->Prop
 | 0=>y 3=.pointer (some ⟨B,0,none⟩)
 | 1=>y 4=vSl s.V
 | 2=>RowAt W (lo 0) (hi 0) 3 eInt 1 (y 5) s.V.xs/\n0<=lo 0/\lo 0<=hi 0/\hi 0<=W.heap.size
 | 3=>y 6=.pointer (some ⟨B,1,none⟩)
 | 4=>y 7=vSl s.P
 | 5=>l.getD 2 false=true/\RowAt W (lo 1) (hi 1) 3 eInt 1 (y 8) s.P.xs/\hi 0<=lo 1/\lo 1<=hi 1/\hi 1<=W.heap.size
 | 6=>y 9=.pointer (some ⟨B,2,none⟩)
 | 7=>y 10=vSl s.S
 | 8=>l.getD 5 false=true/\RowAt W (lo 2) (hi 2) 3 eInt 1 (y 11) s.S.xs/\hi 1<=lo 2/\lo 2<=hi 2/\hi 2<=W.heap.size
 | 9=>y 12=.pointer (some ⟨B,3,none⟩)
 | 10=>y 13=vSl s.O
 | 11=>l.getD 8 false=true/\RowAt W (lo 3) (hi 3) 4 eBool 1 (y 14) s.O.xs/\hi 2<=lo 3/\lo 3<=hi 3/\hi 3<=W.heap.size
 | 12=>(l.getD 2 false=true/\l.getD 5 false=true/\l.getD 8 false=true/\l.getD 11 false=true)/\y 15=.agg #[y 5,y 8,y 11,y 14]
 | _=>True
theorem cqF_keep {n0 B:Nat} {s:St} {l l':Array Bool} {y y':Nat->Value} {lo hi lo' hi':Nat->Nat} {W W':World} {i:Nat} (hb:Below W.heap.size W W') (hun:l.getD i false=false)
  (hy:∀ j,j≠i->y' (j+3)=y (j+3)) (hlh:∀ r,i≠3*r+2->lo' r=lo r/\hi' r=hi r) (hl:∀ j,j≠i->l'.getD j false=l.getD j false) :
  ∀ j,j≠i->cqF n0 B s l y lo hi W j->cqF n0 B s l' y' lo' hi' W' j:=by
 have hno:∀ j,l.getD j false=true->j≠i:=fun j h e=>by subst e;rw [hun] at h;cases h
 have hs:=hb.size
 intro j hj h
 match j,hj,h with
 | 0,hj,h=>exact (hy 0 hj).trans h
 | 1,hj,h=>exact (hy 1 hj).trans h
 | 2,hj,h=>
  obtain ⟨e1,e2⟩:=hlh 0 om
  have e3:y' 5=y 5:=hy 2 hj
  show RowAt W' (lo' 0) (hi' 0) _ _ _ (y' 5) _/\_
  rw [e1,e2,e3]
  exact ⟨h.1.below hb,h.2.1,h.2.2.1,Nat.le_trans h.2.2.2 hs⟩
 | 3,hj,h=>exact (hy 3 hj).trans h
 | 4,hj,h=>exact (hy 4 hj).trans h
 | 5,hj,h=>
  obtain ⟨h0,h1,h2,h3,h4⟩:=h
  have n3:=hno 2 h0
  obtain ⟨e1,e2⟩:=hlh 1 om
  obtain ⟨_,e5⟩:=hlh 0 om
  have e3:y' 8=y 8:=hy 5 hj
  show _/\RowAt W' (lo' 1) (hi' 1) _ _ _ (y' 8) _/\hi' 0<=lo' 1/\lo' 1<=hi' 1/\_
  rw [e1,e2,e3,e5,hl 2 n3]
  exact ⟨h0,h1.below hb,h2,h3,Nat.le_trans h4 hs⟩
 | 6,hj,h=>exact (hy 6 hj).trans h
 | 7,hj,h=>exact (hy 7 hj).trans h
 | 8,hj,h=>
  obtain ⟨h0,h1,h2,h3,h4⟩:=h
  have n3:=hno 5 h0
  obtain ⟨e1,e2⟩:=hlh 2 om
  obtain ⟨_,e5⟩:=hlh 1 om
  have e3:y' 11=y 11:=hy 8 hj
  show _/\RowAt W' (lo' 2) (hi' 2) _ _ _ (y' 11) _/\hi' 1<=lo' 2/\lo' 2<=hi' 2/\_
  rw [e1,e2,e3,e5,hl 5 n3]
  exact ⟨h0,h1.below hb,h2,h3,Nat.le_trans h4 hs⟩
 | 9,hj,h=>exact (hy 9 hj).trans h
 | 10,hj,h=>exact (hy 10 hj).trans h
 | 11,hj,h=>
  obtain ⟨h0,h1,h2,h3,h4⟩:=h
  have n3:=hno 8 h0
  obtain ⟨e1,e2⟩:=hlh 3 om
  obtain ⟨_,e5⟩:=hlh 2 om
  have e3:y' 14=y 14:=hy 11 hj
  show _/\RowAt W' (lo' 3) (hi' 3) _ _ _ (y' 14) _/\hi' 2<=lo' 3/\lo' 3<=hi' 3/\_
  rw [e1,e2,e3,e5,hl 8 n3]
  exact ⟨h0,h1.below hb,h2,h3,Nat.le_trans h4 hs⟩
 | 12,hj,h=>
  obtain ⟨⟨h0,h1,h2,h3⟩,h4⟩:=h
  have e2:y' 5=y 5:=hy 2 (hno 2 h0)
  have e5:y' 8=y 8:=hy 5 (hno 5 h1)
  have e8:y' 11=y 11:=hy 8 (hno 8 h2)
  have e11:y' 14=y 14:=hy 11 (hno 11 h3)
  have e12:y' 15=y 15:=hy 12 hj
  show _/\y' 15=.agg #[y' 5,y' 8,y' 11,y' 14]
  rw [e2,e5,e8,e11,e12,hl 2 (hno 2 h0),hl 5 (hno 5 h1),hl 8 (hno 8 h2),hl 11 (hno 11 h3)]
  exact ⟨⟨h0,h1,h2,h3⟩,h4⟩
 | n+13,hj,h=>exact trivial
abbrev cqA (p0:Value) (B B2:Nat) (y:Nat->Value):Act:=⟨#[p0,.pointer (some ⟨B,0,none⟩),.pointer (some ⟨B2,0,none⟩),y 3,y 4,y 5,y 6,y 7,y 8,y 9,y 10,y 11,y 12,y 13,y 14,y 15],[]⟩
def set4 (W:World) (B:Nat) (u0 u1 u2 u3:Value):World:=(((W.setCell ⟨B,0,none⟩ u0).setCell ⟨B,1,none⟩ u1).setCell ⟨B,2,none⟩ u2).setCell ⟨B,3,none⟩ u3
def cqI (wm:World) (p0:Value) (B B2:Nat) (s:St) (l:Array Bool) (a:Act) (W:World):Prop:=
 l.size=14/\∃ (y:Nat->Value) (lo hi:Nat->Nat) (W0:World),a=cqA p0 B B2 y/\Below wm.heap.size wm W0/\(∀ j,j<13->l.getD j false=true->cqF wm.heap.size B s l y lo hi W0 j) /\
  ((l.getD 13 false=false/\W=W0)\/(l.getD 13 false=true/\(∀ j,j<13->l.getD j false=true)/\W=set4 W0 B2 (y 5) (y 8) (y 11) (y 14)))
theorem getD_tf {l:Array Bool} {i:Nat} (h:i<l.size):l.getD i true=l.getD i false:=by simp [Array.getD,h]
theorem getD_setF {l:Array Bool} {i j:Nat} (h:j≠i):(l.setIfInBounds i true).getD j false=l.getD j false:=by
 simp only [Array.getD,Array.size_setIfInBounds]
 split
 ·rename_i hj
  simp only [Array.getInternal_eq_getElem]
  rw [Array.getElem_setIfInBounds_ne _ (Ne.symm h)]
 ·rfl
theorem getD_setT {l:Array Bool} {i:Nat} (h:i<l.size):(l.setIfInBounds i true).getD i false=true:=by simp [Array.getD,h]
theorem cq_next {wm:World} {p0:Value} {B B2:Nat} {s:St} {l:Array Bool} {y:Nat->Value} {lo hi:Nat->Nat} {W0:World} (hz:l.size=14) (hb:Below wm.heap.size wm W0)
  (hF:∀ j,j<13->l.getD j false=true->cqF wm.heap.size B s l y lo hi W0 j) (h13:l.getD 13 false=false) {i:Nat} (hi13:i<13) (hun:l.getD i true=false)
  (v:Value) (lo' hi':Nat->Nat) {a:Act} {W':World} (ha:a=cqA p0 B B2 (updV y (i+3) v)) (hbW:Below W0.heap.size W0 W') (hlh:∀ r,i≠3*r+2->lo' r=lo r/\hi' r=hi r)
  (hN:cqF wm.heap.size B s (l.setIfInBounds i true) (updV y (i+3) v) lo' hi' W' i):cqI wm p0 B B2 s (l.setIfInBounds i true) a W':=by
 have hun':l.getD i false=false:=by rw [<-getD_tf om];exact hun
 refine ⟨by simpa using hz,updV y (i+3) v,lo',hi',W',ha,hb.trans (hbW.mono hb.size),?_,.inl ⟨by rw [getD_setF om];exact h13,rfl⟩⟩
 intro j hj hl
 by_cases hji:j=i
 ·subst hji;exact hN
 ·rw [getD_setF hji] at hl
  exact cqF_keep hbW hun' (fun j hj=>by simp only [updV];rw [if_neg om]) hlh (fun j hj=>getD_setF hj) j hji (hF j hj hl)
section
variable {P : Program} {ops : Array Oper} {Q : Exit → Act → World → Prop} {md : Region.Mode}
def remL (n:Nat) (l:Array Bool):Nat:=(List.range n).countP fun i=>!(l.getD i true)
theorem countP_lt {p q:Nat->Bool}:∀ (xs:List Nat),(∀ x∈xs,q x=true->p x=true)->(∃ x∈xs,p x=true/\q x=false)->xs.countP q<xs.countP p
 | [],_,h=>by obtain ⟨x,hx,_⟩:=h;cases hx
 | x :: r,h1,h2=>by
  have hr:r.countP q<=r.countP p:=List.countP_mono_left (fun y hy=>h1 y (List.mem_cons_of_mem _ hy))
  by_cases hx:p x=true/\q x=false
  ·rw [List.countP_cons_of_pos hx.1,List.countP_cons_of_neg (by rw [hx.2];simp)];omega
  ·obtain ⟨y,hy,hpy⟩:=h2
   have hyr:y∈r:=by
    rcases List.mem_cons.1 hy with e|e
    ·subst e;exact absurd hpy hx
    ·exact e
   have ih:=countP_lt r (fun z hz=>h1 z (List.mem_cons_of_mem _ hz)) ⟨y,hyr,hpy⟩
   have hqx:=h1 x (List.mem_cons_self ..)
   cases hq:q x
   ·rw [List.countP_cons_of_neg (by rw [hq];simp)]
    exact Nat.lt_of_lt_of_le ih (by cases hp:p x <;> simp [hp])
   ·rw [List.countP_cons_of_pos hq,List.countP_cons_of_pos (hqx hq)];omega
def backB (ops:Array Oper):Bool:=(List.range ops.size).all fun i=>match ops[i]? with|some o=>o.after.all fun e=>decide (e.on<i)|none=>true
theorem backB_spec (h:backB ops=true) {i:Nat} {o:Oper} (ho:ops[i]? = some o) (e:_) (he:e∈o.after):e.on<i:=by
 have hi:i<ops.size:=(Array.getElem?_eq_some_iff.1 ho).1
 have h1:=List.all_eq_true.1 h i (List.mem_range.2 hi)
 rw [ho] at h1
 simp only at h1
 have h2:=Array.all_eq_true_iff_forall_mem.1 h1 e he
 simpa using h2
theorem ready_none (hb:backB ops=true) {l:Array Bool} (hs:l.size=ops.size) (h:Region.ready md ops l = []):∀ i,i<ops.size->l.getD i false=true:=by
 intro i
 induction i using Nat.strongRecOn with
 | _ i ih=>
  intro hi
  cases hl:l.getD i false with
  | true=>rfl
  | false=>
   exfalso
   have hi':i<l.size:=by omega
   have hm:i∈Region.ready md ops l:=mem_ready.2 ⟨by simp only [Array.getD,hi',dite_true] at hl ⊢;exact hl,ops[i],by simp [hi],fun e he _=>ih e.on (backB_spec hb (by simp [hi]) e he) (by have:=backB_spec hb (i:=i) (o:=ops[i]) (by simp [hi]) e he;omega)⟩
   rw [h] at hm
   cases hm
theorem wpAny_inv (I:Array Bool->Act->World->Prop) (hb:backB ops=true) (hs:∀ l a w,I l a w->l.size=ops.size)
  (step:∀ l a w i o,I l a w->ops[i]? = some o->l.getD i true=false->(∀ e∈o.after,Region.binds md e=true->l.getD e.on false=true)->wpOp P ops Q i (fun a' w'=>I (l.setIfInBounds i true) a' w') a w)
  (fin:∀ l a w,I l a w->(∀ i,i<ops.size->l.getD i false=true)->Q .normal a w) :
  ∀ (fuel:Nat) (l:Array Bool) (a:Act) (w:World),remL ops.size l<=fuel->I l a w->wpAny P md ops Q fuel l a w
 | 0,l,a,w,hr,hI=>by
  have hz:=hs l a w hI
  have hall:∀ i,i<ops.size->l.getD i false=true:=by
   intro i hi
   have h0:remL ops.size l=0:=by omega
   unfold remL at h0
   have h1:=List.countP_eq_zero.1 h0 i (List.mem_range.2 hi)
   have hi':i<l.size:=by omega
   simp only [Array.getD,hi',dite_true] at h1 ⊢
   simpa using h1
  refine ⟨?_,fin l a w hI hall⟩
  cases hrd:Region.ready md ops l with
  | nil=>rfl
  | cons i r=>
   exfalso
   have hm:i∈Region.ready md ops l:=by rw [hrd];exact List.mem_cons_self ..
   obtain ⟨h1,o,ho,_⟩:=mem_ready.1 hm
   have hi:i<ops.size:=(Array.getElem?_eq_some_iff.1 ho).1
   have h2:=hall i hi
   have hi':i<l.size:=by omega
   simp only [Array.getD,hi',dite_true] at h1 h2
   rw [h1] at h2;cases h2
 | fuel+1,l,a,w,hr,hI=>by
  have hz:=hs l a w hI
  refine ⟨fun h=>fin l a w hI (ready_none hb hz h),fun i hi=>?_⟩
  obtain ⟨h1,o,ho,h2⟩:=mem_ready.1 hi
  refine wpOp_mono (fun a' w' h'=>wpAny_inv I hb hs step fin fuel _ a' w' ?_ h') (step l a w i o hI ho h1 h2)
  have hil:i<ops.size:=(Array.getElem?_eq_some_iff.1 ho).1
  have hi':i<l.size:=by omega
  have:remL ops.size (l.setIfInBounds i true)<remL ops.size l:=by
   refine countP_lt _ (fun x _ hx=>?_) ⟨i,List.mem_range.2 hil,by rw [h1];rfl,?_⟩
   ·by_cases hxi:i=x
    ·subst hxi
     simp [Array.getD,hi'] at hx
    ·rw [getD_set_ne true hxi] at hx;exact hx
   ·simp [Array.getD,hi']
  omega
theorem wp_region_inv {id:Nat} {a:Act} {w:World} (I:Array Bool->Act->World->Prop) (hm:P.follows .mixedOrders=true) (hb:backB ops=true) (hs:∀ l a w,I l a w->l.size=ops.size)
  (step:∀ l a w i o,I l a w->ops[i]? = some o->l.getD i true=false->(∀ e∈o.after,Region.binds .any e=true->l.getD e.on false=true)->wpOp P ops Q i (fun a' w'=>I (l.setIfInBounds i true) a' w') a w)
  (fin:∀ l a w,I l a w->(∀ i,i<ops.size->l.getD i false=true)->Q .normal a w)
  (h0:I (Array.replicate ops.size false) a { w with drawn:=w.drawn+1 }):(Code.region id ops true).wp P Q a w:=by
 refine wp_region_any hm (wpAny_inv I hb hs step fin _ _ _ _ ?_ h0)
 unfold remL
 exact Nat.le_trans List.countP_le_length (by simp)
end
section
variable {n b k : Nat} {fr : (Nat → Value) → Act} {c : Nat → Value} {enc : Value} {T : TypeId} {W6 W W' : World} {p : Addr} {l : Array Bool} {y : Nat → Value} {i : Nat}
end
end Go.Proofs.YtoiakijmbghhlaaGreat
