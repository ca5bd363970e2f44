/- routing: the first closure of Step (a refusal's answer). Conditions: none. | Four slices of a state cloned by calls in one region: the region's invariant. No function of the program is named. Conditions: none. Written by gen/mk-rtj.py. | A region that draws its order, walked by an invariant: each operation that may come up keeps it. No function is named. Conditions: none. | A region that reads,  | routing.copied, walked. Conditions: the state reads as data, its lists have at most a million elements. Written by gen/mk-rtk.py. -/
import Derived.Test.YtoiakijmbghhlaaGreatS24
import Derived.Orders
import Derived.Test.YtoiakijmbghhlaaGreatS00
import Derived.Test.YtoiakijmbghhlaaGreatS04
set_option linter.unusedVariables false
set_option linter.unusedSimpArgs false
set_option maxRecDepth 100000
set_option maxHeartbeats 32000000
namespace Go.Proofs.YtoiakijmbghhlaaGreat
open Go.RowKit
theorem rstep1_any (e0:Int) (w:World) :
  Calls Tryz.prog 163 #[.int .i64 e0] w fun e w'=>e=.returned (.tuple #[.agg #[.slice none 0 0,.slice none 0 0,.slice none 0 0,.slice none 0 0],.agg #[.int .i64 0,.int .i64 0,.slice none 0 0],.int .i64 e0])/\Below w.heap.size w w':=by
 go_enter Tryz.func163,Tryz.ntmps163
 go_wp2_with fail
 refine bodyPost_ret (v:=.tuple #[.agg #[.slice none 0 0,.slice none 0 0,.slice none 0 0,.slice none 0 0],.agg #[.int .i64 0,.int .i64 0,.slice none 0 0],.int .i64 e0]) (by simp (maxDischargeDepth:=9) [results,Tryz.results163,go_sem]) rfl ?_
 exact ⟨rfl,bl⟩
abbrev updV {β:Type} (y:Nat->β) (d:Nat) (v:β):Nat->β:=fun j=>if j=d then v else y j
def cqF (n0 B:Nat) (s:St) (l:Array Bool) (y:Nat->Value) (lo hi:Nat->Nat) (W:World):Nat->Prop
 | 0=>y 3=.pointer (some ⟨B,0,none⟩)
 | 1=>y 4=vSl s.V
 | 2=>RowAt W (lo 0) (hi 0) 3 eInt 1 (y 5) s.V.xs/\n0<=lo 0/\lo 0<=hi 0/\hi 0<=W.heap.size
 | 3=>y 6=.pointer (some ⟨B,1,none⟩)
 | 4=>y 7=vSl s.P
 | 5=>l.getD 2 false=true/\RowAt W (lo 1) (hi 1) 3 eInt 1 (y 8) s.P.xs/\hi 0<=lo 1/\lo 1<=hi 1/\hi 1<=W.heap.size
 | 6=>y 9=.pointer (some ⟨B,2,none⟩)
 | 7=>y 10=vSl s.S
 | 8=>l.getD 5 false=true/\RowAt W (lo 2) (hi 2) 3 eInt 1 (y 11) s.S.xs/\hi 1<=lo 2/\lo 2<=hi 2/\hi 2<=W.heap.size
 | 9=>y 12=.pointer (some ⟨B,3,none⟩)
 | 10=>y 13=vSl s.O
 | 11=>l.getD 8 false=true/\RowAt W (lo 3) (hi 3) 4 eBool 1 (y 14) s.O.xs/\hi 2<=lo 3/\lo 3<=hi 3/\hi 3<=W.heap.size
 | 12=>(l.getD 2 false=true/\l.getD 5 false=true/\l.getD 8 false=true/\l.getD 11 false=true)/\y 15=.agg #[y 5,y 8,y 11,y 14]
 | _=>True
theorem cqF_keep {n0 B:Nat} {s:St} {l l':Array Bool} {y y':Nat->Value} {lo hi lo' hi':Nat->Nat} {W W':World} {i:Nat} (hb:Below W.heap.size W W') (hun:l.getD i false=false)
  (hy:∀ j,j≠i->y' (j+3)=y (j+3)) (hlh:∀ r,i≠3*r+2->lo' r=lo r/\hi' r=hi r) (hl:∀ j,j≠i->l'.getD j false=l.getD j false) :
  ∀ j,j≠i->cqF n0 B s l y lo hi W j->cqF n0 B s l' y' lo' hi' W' j:=by
 have hno:∀ j,l.getD j false=true->j≠i:=fun j h e=>by subst e;rw [hun] at h;cases h
 have hs:=hb.size
 intro j hj h
 match j,hj,h with
 | 0,hj,h=>exact (hy 0 hj).trans h
 | 1,hj,h=>exact (hy 1 hj).trans h
 | 2,hj,h=>
  obtain ⟨e1,e2⟩:=hlh 0 om
  have e3:y' 5=y 5:=hy 2 hj
  show RowAt W' (lo' 0) (hi' 0) _ _ _ (y' 5) _/\_
  rw [e1,e2,e3]
  exact ⟨h.1.below hb,h.2.1,h.2.2.1,Nat.le_trans h.2.2.2 hs⟩
 | 3,hj,h=>exact (hy 3 hj).trans h
 | 4,hj,h=>exact (hy 4 hj).trans h
 | 5,hj,h=>
  obtain ⟨h0,h1,h2,h3,h4⟩:=h
  have n3:=hno 2 h0
  obtain ⟨e1,e2⟩:=hlh 1 om
  obtain ⟨_,e5⟩:=hlh 0 om
  have e3:y' 8=y 8:=hy 5 hj
  show _/\RowAt W' (lo' 1) (hi' 1) _ _ _ (y' 8) _/\hi' 0<=lo' 1/\lo' 1<=hi' 1/\_
  rw [e1,e2,e3,e5,hl 2 n3]
  exact ⟨h0,h1.below hb,h2,h3,Nat.le_trans h4 hs⟩
 | 6,hj,h=>exact (hy 6 hj).trans h
 | 7,hj,h=>exact (hy 7 hj).trans h
 | 8,hj,h=>
  obtain ⟨h0,h1,h2,h3,h4⟩:=h
  have n3:=hno 5 h0
  obtain ⟨e1,e2⟩:=hlh 2 om
  obtain ⟨_,e5⟩:=hlh 1 om
  have e3:y' 11=y 11:=hy 8 hj
  show _/\RowAt W' (lo' 2) (hi' 2) _ _ _ (y' 11) _/\hi' 1<=lo' 2/\lo' 2<=hi' 2/\_
  rw [e1,e2,e3,e5,hl 5 n3]
  exact ⟨h0,h1.below hb,h2,h3,Nat.le_trans h4 hs⟩
 | 9,hj,h=>exact (hy 9 hj).trans h
 | 10,hj,h=>exact (hy 10 hj).trans h
 | 11,hj,h=>
  obtain ⟨h0,h1,h2,h3,h4⟩:=h
  have n3:=hno 8 h0
  obtain ⟨e1,e2⟩:=hlh 3 om
  obtain ⟨_,e5⟩:=hlh 2 om
  have e3:y' 14=y 14:=hy 11 hj
  show _/\RowAt W' (lo' 3) (hi' 3) _ _ _ (y' 14) _/\hi' 2<=lo' 3/\lo' 3<=hi' 3/\_
  rw [e1,e2,e3,e5,hl 8 n3]
  exact ⟨h0,h1.below hb,h2,h3,Nat.le_trans h4 hs⟩
 | 12,hj,h=>
  obtain ⟨⟨h0,h1,h2,h3⟩,h4⟩:=h
  have e2:y' 5=y 5:=hy 2 (hno 2 h0)
  have e5:y' 8=y 8:=hy 5 (hno 5 h1)
  have e8:y' 11=y 11:=hy 8 (hno 8 h2)
  have e11:y' 14=y 14:=hy 11 (hno 11 h3)
  have e12:y' 15=y 15:=hy 12 hj
  show _/\y' 15=.agg #[y' 5,y' 8,y' 11,y' 14]
  rw [e2,e5,e8,e11,e12,hl 2 (hno 2 h0),hl 5 (hno 5 h1),hl 8 (hno 8 h2),hl 11 (hno 11 h3)]
  exact ⟨⟨h0,h1,h2,h3⟩,h4⟩
 | n+13,hj,h=>exact trivial
abbrev cqA (p0:Value) (B B2:Nat) (y:Nat->Value):Act:=⟨#[p0,.pointer (some ⟨B,0,none⟩),.pointer (some ⟨B2,0,none⟩),y 3,y 4,y 5,y 6,y 7,y 8,y 9,y 10,y 11,y 12,y 13,y 14,y 15],[]⟩
def set4 (W:World) (B:Nat) (u0 u1 u2 u3:Value):World:=(((W.setCell ⟨B,0,none⟩ u0).setCell ⟨B,1,none⟩ u1).setCell ⟨B,2,none⟩ u2).setCell ⟨B,3,none⟩ u3
def cqI (wm:World) (p0:Value) (B B2:Nat) (s:St) (l:Array Bool) (a:Act) (W:World):Prop:=
 l.size=14/\∃ (y:Nat->Value) (lo hi:Nat->Nat) (W0:World),a=cqA p0 B B2 y/\Below wm.heap.size wm W0/\(∀ j,j<13->l.getD j false=true->cqF wm.heap.size B s l y lo hi W0 j) /\
  ((l.getD 13 false=false/\W=W0)\/(l.getD 13 false=true/\(∀ j,j<13->l.getD j false=true)/\W=set4 W0 B2 (y 5) (y 8) (y 11) (y 14)))
theorem getD_tf {l:Array Bool} {i:Nat} (h:i<l.size):l.getD i true=l.getD i false:=by simp [Array.getD,h]
theorem getD_setF {l:Array Bool} {i j:Nat} (h:j≠i):(l.setIfInBounds i true).getD j false=l.getD j false:=by
 simp only [Array.getD,Array.size_setIfInBounds]
 split
 ·rename_i hj
  simp only [Array.getInternal_eq_getElem]
  rw [Array.getElem_setIfInBounds_ne _ (Ne.symm h)]
 ·rfl
theorem getD_setT {l:Array Bool} {i:Nat} (h:i<l.size):(l.setIfInBounds i true).getD i false=true:=by simp [Array.getD,h]
theorem cq_next {wm:World} {p0:Value} {B B2:Nat} {s:St} {l:Array Bool} {y:Nat->Value} {lo hi:Nat->Nat} {W0:World} (hz:l.size=14) (hb:Below wm.heap.size wm W0)
  (hF:∀ j,j<13->l.getD j false=true->cqF wm.heap.size B s l y lo hi W0 j) (h13:l.getD 13 false=false) {i:Nat} (hi13:i<13) (hun:l.getD i true=false)
  (v:Value) (lo' hi':Nat->Nat) {a:Act} {W':World} (ha:a=cqA p0 B B2 (updV y (i+3) v)) (hbW:Below W0.heap.size W0 W') (hlh:∀ r,i≠3*r+2->lo' r=lo r/\hi' r=hi r)
  (hN:cqF wm.heap.size B s (l.setIfInBounds i true) (updV y (i+3) v) lo' hi' W' i):cqI wm p0 B B2 s (l.setIfInBounds i true) a W':=by
 have hun':l.getD i false=false:=by rw [<-getD_tf om];exact hun
 refine ⟨by simpa using hz,updV y (i+3) v,lo',hi',W',ha,hb.trans (hbW.mono hb.size),?_,.inl ⟨by rw [getD_setF om];exact h13,rfl⟩⟩
 intro j hj hl
 by_cases hji:j=i
 ·subst hji;exact hN
 ·rw [getD_setF hji] at hl
  exact cqF_keep hbW hun' (fun j hj=>by simp only [updV];rw [if_neg om]) hlh (fun j hj=>getD_setF hj) j hji (hF j hj hl)
section
variable {P : Program} {ops : Array Oper} {Q : Exit → Act → World → Prop} {md : Region.Mode}
def remL (n:Nat) (l:Array Bool):Nat:=(List.range n).countP fun i=>!(l.getD i true)
theorem countP_lt {p q:Nat->Bool}:∀ (xs:List Nat),(∀ x∈xs,q x=true->p x=true)->(∃ x∈xs,p x=true/\q x=false)->xs.countP q<xs.countP p
 | [],_,h=>by obtain ⟨x,hx,_⟩:=h;cases hx
 | x :: r,h1,h2=>by
  have hr:r.countP q<=r.countP p:=List.countP_mono_left (fun y hy=>h1 y (List.mem_cons_of_mem _ hy))
  by_cases hx:p x=true/\q x=false
  ·rw [List.countP_cons_of_pos hx.1,List.countP_cons_of_neg (by rw [hx.2];simp)];omega
  ·obtain ⟨y,hy,hpy⟩:=h2
   have hyr:y∈r:=by
    rcases List.mem_cons.1 hy with e|e
    ·subst e;exact absurd hpy hx
    ·exact e
   have ih:=countP_lt r (fun z hz=>h1 z (List.mem_cons_of_mem _ hz)) ⟨y,hyr,hpy⟩
   have hqx:=h1 x (List.mem_cons_self ..)
   cases hq:q x
   ·rw [List.countP_cons_of_neg (by rw [hq];simp)]
    exact Nat.lt_of_lt_of_le ih (by cases hp:p x <;> simp [hp])
   ·rw [List.countP_cons_of_pos hq,List.countP_cons_of_pos (hqx hq)];omega
def backB (ops:Array Oper):Bool:=(List.range ops.size).all fun i=>match ops[i]? with|some o=>o.after.all fun e=>decide (e.on<i)|none=>true
theorem backB_spec (h:backB ops=true) {i:Nat} {o:Oper} (ho:ops[i]? = some o) (e:_) (he:e∈o.after):e.on<i:=by
 have hi:i<ops.size:=(Array.getElem?_eq_some_iff.1 ho).1
 have h1:=List.all_eq_true.1 h i (List.mem_range.2 hi)
 rw [ho] at h1
 simp only at h1
 have h2:=Array.all_eq_true_iff_forall_mem.1 h1 e he
 simpa using h2
theorem ready_none (hb:backB ops=true) {l:Array Bool} (hs:l.size=ops.size) (h:Region.ready md ops l = []):∀ i,i<ops.size->l.getD i false=true:=by
 intro i
 induction i using Nat.strongRecOn with
 | _ i ih=>
  intro hi
  cases hl:l.getD i false with
  | true=>rfl
  | false=>
   exfalso
   have hi':i<l.size:=by omega
   have hm:i∈Region.ready md ops l:=mem_ready.2 ⟨by simp only [Array.getD,hi',dite_true] at hl ⊢;exact hl,ops[i],by simp [hi],fun e he _=>ih e.on (backB_spec hb (by simp [hi]) e he) (by have:=backB_spec hb (i:=i) (o:=ops[i]) (by simp [hi]) e he;omega)⟩
   rw [h] at hm
   cases hm
theorem wpAny_inv (I:Array Bool->Act->World->Prop) (hb:backB ops=true) (hs:∀ l a w,I l a w->l.size=ops.size)
  (step:∀ l a w i o,I l a w->ops[i]? = some o->l.getD i true=false->(∀ e∈o.after,Region.binds md e=true->l.getD e.on false=true)->wpOp P ops Q i (fun a' w'=>I (l.setIfInBounds i true) a' w') a w)
  (fin:∀ l a w,I l a w->(∀ i,i<ops.size->l.getD i false=true)->Q .normal a w) :
  ∀ (fuel:Nat) (l:Array Bool) (a:Act) (w:World),remL ops.size l<=fuel->I l a w->wpAny P md ops Q fuel l a w
 | 0,l,a,w,hr,hI=>by
  have hz:=hs l a w hI
  have hall:∀ i,i<ops.size->l.getD i false=true:=by
   intro i hi
   have h0:remL ops.size l=0:=by omega
   unfold remL at h0
   have h1:=List.countP_eq_zero.1 h0 i (List.mem_range.2 hi)
   have hi':i<l.size:=by omega
   simp only [Array.getD,hi',dite_true] at h1 ⊢
   simpa using h1
  refine ⟨?_,fin l a w hI hall⟩
  cases hrd:Region.ready md ops l with
  | nil=>rfl
  | cons i r=>
   exfalso
   have hm:i∈Region.ready md ops l:=by rw [hrd];exact List.mem_cons_self ..
   obtain ⟨h1,o,ho,_⟩:=mem_ready.1 hm
   have hi:i<ops.size:=(Array.getElem?_eq_some_iff.1 ho).1
   have h2:=hall i hi
   have hi':i<l.size:=by omega
   simp only [Array.getD,hi',dite_true] at h1 h2
   rw [h1] at h2;cases h2
 | fuel+1,l,a,w,hr,hI=>by
  have hz:=hs l a w hI
  refine ⟨fun h=>fin l a w hI (ready_none hb hz h),fun i hi=>?_⟩
  obtain ⟨h1,o,ho,h2⟩:=mem_ready.1 hi
  refine wpOp_mono (fun a' w' h'=>wpAny_inv I hb hs step fin fuel _ a' w' ?_ h') (step l a w i o hI ho h1 h2)
  have hil:i<ops.size:=(Array.getElem?_eq_some_iff.1 ho).1
  have hi':i<l.size:=by omega
  have:remL ops.size (l.setIfInBounds i true)<remL ops.size l:=by
   refine countP_lt _ (fun x _ hx=>?_) ⟨i,List.mem_range.2 hil,by rw [h1];rfl,?_⟩
   ·by_cases hxi:i=x
    ·subst hxi
     simp [Array.getD,hi'] at hx
    ·rw [getD_set_ne true hxi] at hx;exact hx
   ·simp [Array.getD,hi']
  omega
theorem wp_region_inv {id:Nat} {a:Act} {w:World} (I:Array Bool->Act->World->Prop) (hm:P.follows .mixedOrders=true) (hb:backB ops=true) (hs:∀ l a w,I l a w->l.size=ops.size)
  (step:∀ l a w i o,I l a w->ops[i]? = some o->l.getD i true=false->(∀ e∈o.after,Region.binds .any e=true->l.getD e.on false=true)->wpOp P ops Q i (fun a' w'=>I (l.setIfInBounds i true) a' w') a w)
  (fin:∀ l a w,I l a w->(∀ i,i<ops.size->l.getD i false=true)->Q .normal a w)
  (h0:I (Array.replicate ops.size false) a { w with drawn:=w.drawn+1 }):(Code.region id ops true).wp P Q a w:=by
 refine wp_region_any hm (wpAny_inv I hb hs step fin _ _ _ _ ?_ h0)
 unfold remL
 exact Nat.le_trans List.countP_le_length (by simp)
end
theorem gD_tf {l:Array Bool} {i:Nat} (h:i<l.size):l.getD i true=l.getD i false:=by simp [Array.getD,h]
theorem gD_setF {l:Array Bool} {i j:Nat} (h:j≠i):(l.setIfInBounds i true).getD j false=l.getD j false:=by
 simp only [Array.getD,Array.size_setIfInBounds]
 split
 ·rename_i hj
  simp only [Array.getInternal_eq_getElem]
  rw [Array.getElem_setIfInBounds_ne _ (Ne.symm h)]
 ·rfl
theorem gD_setT {l:Array Bool} {i:Nat} (h:i<l.size):(l.setIfInBounds i true).getD i false=true:=by simp [Array.getD,h]
def upY (y:Nat->Value) (i:Nat) (v:Value):Nat->Value:=fun j=>if j=i then v else y j
def PApp (enc:Value) (W6 W:World) (u:Value):Prop:=∃ g c,u=.slice (some ⟨g,0,none⟩) 1 c/\W6.heap.size<=g/\W.cell? ⟨g,0,none⟩=some enc
theorem PApp.mono {enc:Value} {W6 W W':World} {u:Value} (h:PApp enc W6 W u) (hb:Below W.heap.size W W'):PApp enc W6 W' u:=by
 obtain ⟨g,c,e,h1,h2⟩:=h
 exact ⟨g,c,e,h1,by rw [hb.cell (World.block_lt_of_cell? _ _ h2)];exact h2⟩
def pJ (n b k:Nat) (fr:(Nat->Value)->Act) (c:Nat->Value) (enc:Value) (T:TypeId) (W6:World) (p:Addr) (l:Array Bool) (a:Act) (W:World):Prop:=
  l.size=n+1/\∃ y,a=fr y/\(∀ j,j<n->j≠k->l.getD j false=true->y j=c j) /\
    ((l.getD n false = false ∧ Below W6.heap.size W6 W ∧ (l.getD b false = false → W.heap.size = W6.heap.size) ∧ (l.getD b false = true → l.getD k false = false → W.heap[W6.heap.size]? = some (.cells #[enc] T (0, 0))) ∧ (l.getD k false = true → PApp enc W6 W (y k))) ∨
     (l.getD n false=true/\(∀ j,j<n->l.getD j false=true)/\∃ V,W=V.setCell p (y k)/\Below W6.heap.size W6 V/\PApp enc W6 V (y k)))
theorem yielded_of {ops:Array Oper} {tmps:Array Value} {d t:Nat} {b:Bool} (h1:(ops[d]?).bind (·.dst)=some t) (h2:tmps[t]? = some (.bool b)):yielded ops tmps d=some b:=by
 simp [yielded,h1,h2]
theorem wanted_of {o:Oper} {f:Nat->Option Bool} {d:Nat} {b:Bool} (ho:o.guard=some (d,b)) (h:f d=some b):Region.wanted o f=true:=by
 simp [Region.wanted,ho,h]
section
variable {n b k : Nat} {fr : (Nat → Value) → Act} {c : Nat → Value} {enc : Value} {T : TypeId} {W6 W W' : World} {p : Addr} {l : Array Bool} {y : Nat → Value} {i : Nat}
theorem pJ_quiet (hz:l.size=n+1) (hV:∀ j,j<n->j≠k->l.getD j false=true->y j=c j) (hn:l.getD n false=false) (hb:Below W6.heap.size W6 W) (h1:l.getD b false=false->W.heap.size=W6.heap.size)
  (h2:l.getD b false=true->l.getD k false=false->W.heap[W6.heap.size]? = some (.cells #[enc] T (0,0))) (h3:l.getD k false=true->PApp enc W6 W (y k)) (hi:i<n) (hib:i≠b) (hik:i≠k) {a:Act} (ha:a=fr (upY y i (c i))) :
  pJ n b k fr c enc T W6 p (l.setIfInBounds i true) a W:=by
 refine ⟨by simpa using hz,upY y i (c i),ha,fun j hj hjk hl=>?_,.inl ⟨by rw [gD_setF om];exact hn,hb,fun h=>h1 (by rwa [gD_setF (Ne.symm hib)] at h),fun h h'=>h2 (by rwa [gD_setF (Ne.symm hib)] at h) (by rwa [gD_setF (Ne.symm hik)] at h'),fun h=>?_⟩⟩
 ·unfold upY
  by_cases hji:j=i
  ·rw [if_pos hji,hji]
  ·rw [if_neg hji]
   rw [gD_setF hji] at hl
   exact hV j hj hjk hl
 ·unfold upY
  rw [if_neg (Ne.symm hik)]
  exact h3 (by rwa [gD_setF (Ne.symm hik)] at h)
theorem pJ_build (hz:l.size=n+1) (hV:∀ j,j<n->j≠k->l.getD j false=true->y j=c j) (hn:l.getD n false=false) (hb:Below W6.heap.size W6 W) (h1:W.heap.size=W6.heap.size)
  (hk:l.getD k false=false) (hbn:b<n) (hbk:b≠k) (hc:c b=.slice (some ⟨W6.heap.size,0,none⟩) 1 1) {a:Act} (ha:a=fr (upY y b (.slice (some ⟨W.heap.size,0,none⟩) 1 1))) :
  pJ n b k fr c enc T W6 p (l.setIfInBounds b true) a (W.alloc (.cells #[enc] T)):=by
 refine ⟨by simpa using hz,_,ha,fun j hj hjk hl=>?_,.inl ⟨by rw [gD_setF om];exact hn,hb.alloc hb.size _,fun h=>?_,fun _ _=>?_,fun h=>?_⟩⟩
 ·unfold upY
  by_cases hji:j=b
  ·rw [if_pos hji,hji,hc,h1]
  ·rw [if_neg hji]
   rw [gD_setF hji] at hl
   exact hV j hj hjk hl
 ·rw [gD_setT om] at h;cases h
 ·rw [<-h1];exact heap_alloc_new W _
 ·rw [gD_setF (Ne.symm hbk),hk] at h;cases h
theorem pJ_app (hz:l.size=n+1) (hV:∀ j,j<n->j≠k->l.getD j false=true->y j=c j) (hn:l.getD n false=false) (hb:Below W6.heap.size W6 W) (hbl:l.getD b false=true) (hkn:k<n) (hbk:b≠k)
  (hbW:Below W6.heap.size W W') {u:Value} (hu:PApp enc W6 W' u) {a:Act} (ha:a=fr (upY y k u)) :
  pJ n b k fr c enc T W6 p (l.setIfInBounds k true) a W':=by
 refine ⟨by simpa using hz,_,ha,fun j hj hjk hl=>?_,.inl ⟨by rw [gD_setF om];exact hn,hb.trans hbW,fun h=>?_,fun _ h=>?_,fun _=>?_⟩⟩
 ·unfold upY
  rw [if_neg hjk]
  rw [gD_setF hjk] at hl
  exact hV j hj hjk hl
 ·rw [gD_setF hbk,hbl] at h;cases h
 ·rw [gD_setT om] at h;cases h
 ·unfold upY
  rw [if_pos rfl];exact hu
theorem pJ_store (hz:l.size=n+1) (hV:∀ j,j<n->j≠k->l.getD j false=true->y j=c j) (hb:Below W6.heap.size W6 W) (hu:PApp enc W6 W (y k)) (hall:∀ j,j<n->l.getD j false=true) {a:Act} (ha:a=fr y) :
  pJ n b k fr c enc T W6 p (l.setIfInBounds n true) a (W.setCell p (y k)):=by
 refine ⟨by simpa using hz,y,ha,fun j hj hjk hl=>?_,.inr ⟨gD_setT om,fun j hj=>by rw [gD_setF om];exact hall j hj,W,rfl,hb,hu⟩⟩
 rw [gD_setF om] at hl
 exact hV j hj hjk hl
theorem pJ_start (fr:(Nat->Value)->Act) (W6:World) (hb:Below W6.heap.size W6 W) (hs:W.heap.size=W6.heap.size) (y:Nat->Value):pJ n b k fr c enc T W6 p (Array.replicate (n+1) false) (fr y) W:=by
 have h0:∀ j,(Array.replicate (n+1) false).getD j false=false:=fun j=>by
  simp only [Array.getD]
  split <;> simp
 refine ⟨by simp,y,rfl,fun j _ _ h=>?_,.inl ⟨h0 n,hb,fun _=>hs,fun h=>?_,fun h=>?_⟩⟩
 ·rw [h0] at h;cases h
 ·rw [h0] at h;cases h
 ·rw [h0] at h;cases h
end
theorem set4_bel {w W:World} {B:Nat} (h:Below w.heap.size w W) (hB:w.heap.size<=B) (u0 u1 u2 u3:Value):Below w.heap.size w (set4 W B u0 u1 u2 u3):=
 (((h.setCell (p:=⟨B,0,none⟩) hB u0).setCell (p:=⟨B,1,none⟩) hB u1).setCell (p:=⟨B,2,none⟩) hB u2).setCell (p:=⟨B,3,none⟩) hB u3
structure Copied (w W:World) (s:St) (uV uP uS uO:Value) (lV hV lP hP lS hS lO hO:Nat):Prop where
 V:RowAt W lV hV 3 eInt 1 uV s.V.xs
 P:RowAt W lP hP 3 eInt 1 uP s.P.xs
 S:RowAt W lS hS 3 eInt 1 uS s.S.xs
 O:RowAt W lO hO 4 eBool 1 uO s.O.xs
 b0:w.heap.size<=lV
 b1:lV<=hV
 b2:hV<=lP
 b3:lP<=hP
 b4:hP<=lS
 b5:lS<=hS
 b6:hS<=lO
 b7:lO<=hO
 b8:hO<=W.heap.size
theorem rcopied_any (s:St) (w:World) (hgs:gSt w s) (hl0:s.V.xs.length<=1000000) (hl1:s.P.xs.length<=1000000) (hl2:s.S.xs.length<=1000000) (hl3:s.O.xs.length<=1000000):Calls Tryz.prog 168 #[vSt s] w fun e w'=>
  (∃ uV uP uS uO lV hV lP hP lS hS lO hO,e=.returned (.agg #[uV,uP,uS,uO])/\Copied w w' s uV uP uS uO lV hV lP hP lS hS lO hO)/\Below w.heap.size w w':=by
 obtain ⟨wm,hW⟩:∃ W,W=allocs w [((eSt s).toArray,31),(#[.slice none 0 0,.slice none 0 0,.slice none 0 0,.slice none 0 0],31)]:=⟨_,rfl⟩
 have hbw:Below w.heap.size w wm:=by rw [hW];exact allocs_below _ _
 have t0:wm.heap[w.heap.size]? = some (.cells (eSt s).toArray 31 (0,0)):=by rw [hW];exact allocs_at [((eSt s).toArray,31),(#[.slice none 0 0,.slice none 0 0,.slice none 0 0,.slice none 0 0],31)] w 0 (by simp)
 have t1:wm.heap[w.heap.size+1]? = some (.cells #[.slice none 0 0,.slice none 0 0,.slice none 0 0,.slice none 0 0] 31 (0,0)):=by rw [hW];exact allocs_at [((eSt s).toArray,31),(#[.slice none 0 0,.slice none 0 0,.slice none 0 0,.slice none 0 0],31)] w 1 (by simp)
 have HW:Hid (wm=(w.alloc (.cells (eSt s).toArray 31)).alloc (.cells #[.slice none 0 0,.slice none 0 0,.slice none 0 0,.slice none 0 0] 31)):=qh hW
 have T0:=qh t0
 have T1:=qh t1
 have hgs:=rdSt.mono hgs hbw
 have hlt:w.heap.size+1<wm.heap.size:=(Array.getElem?_eq_some_iff.1 t1).1
 clear hW t0 t1
 go_enter Tryz.func168,Tryz.ntmps168
 go_upto_region 1 with (fail)
 first|rw [<-HW.out]|(simp only [vSt,vSl];rw [<-HW.out])|skip
 clear HW
 refine wp_region_inv (cqI wm (vSt s) w.heap.size (w.heap.size+1) s) (by kernel_rfl) (by kernel_rfl) (fun l a W h=>h.1) ?step ?fin ?start
 case start=>
  refine ⟨by simp,fun _=>undef,fun _=>0,fun _=>0,_,rfl,Below.drew qr,fun j hj h=>?_,.inl ⟨by simp,rfl⟩⟩
  exfalso
  simp [Array.getD] at h
 case fin=>
  intro l a W hI hall
  obtain ⟨hz,y,lo,hi,W0,rfl,hb,hF,h13⟩:=hI
  have h13l:=hall 13 (by decide)
  rcases h13 with ⟨h,_⟩|⟨_,h2,rfl⟩
  ·rw [h13l] at h;cases h
  ·have g2:=hF 2 om (h2 2 om)
   have g5:=hF 5 om (h2 5 om)
   have g8:=hF 8 om (h2 8 om)
   have g11:=hF 11 om (h2 11 om)
   have u1:=(hb.block (w.heap.size+1) hlt).trans T1.out
   have o0:W0.cell? ⟨w.heap.size+1,0,none⟩=some (.slice none 0 0):=(tank_blk u1 0).trans rfl
   have o1:W0.cell? ⟨w.heap.size+1,1,none⟩=some (.slice none 0 0):=(tank_blk u1 1).trans rfl
   have o2:W0.cell? ⟨w.heap.size+1,2,none⟩=some (.slice none 0 0):=(tank_blk u1 2).trans rfl
   have o3:W0.cell? ⟨w.heap.size+1,3,none⟩=some (.slice none 0 0):=(tank_blk u1 3).trans rfl
   have q0:(set4 W0 (w.heap.size+1) (y 5) (y 8) (y 11) (y 14)).cell? ⟨w.heap.size+1,0,none⟩=some (y 5):=by simp [set4,go_sem,o0]
   have q1:(set4 W0 (w.heap.size+1) (y 5) (y 8) (y 11) (y 14)).cell? ⟨w.heap.size+1,1,none⟩=some (y 8):=by simp [set4,go_sem,o1]
   have q2:(set4 W0 (w.heap.size+1) (y 5) (y 8) (y 11) (y 14)).cell? ⟨w.heap.size+1,2,none⟩=some (y 11):=by simp [set4,go_sem,o2]
   have q3:(set4 W0 (w.heap.size+1) (y 5) (y 8) (y 11) (y 14)).cell? ⟨w.heap.size+1,3,none⟩=some (y 14):=by simp [set4,go_sem,o3]
   have hbf:Below w.heap.size w (set4 W0 (w.heap.size+1) (y 5) (y 8) (y 11) (y 14)):=set4_bel (hbw.trans (hb.mono hbw.size)) om _ _ _ _
   have hcp:Copied w (set4 W0 (w.heap.size+1) (y 5) (y 8) (y 11) (y 14)) s (y 5) (y 8) (y 11) (y 14) (lo 0) (hi 0) (lo 1) (hi 1) (lo 2) (hi 2) (lo 3) (hi 3):=by
    obtain ⟨r0,r1,r2,r3⟩:=g2
    obtain ⟨_,s0,s1,s2,s3⟩:=g5
    obtain ⟨_,t0,t1,t2,t3⟩:=g8
    obtain ⟨_,u0,u1,u2,u3⟩:=g11
    have hwz:=hbw.size
    exact ⟨r0.set4 (.inl om) _ _ _ _,s0.set4 (.inl om) _ _ _ _,t0.set4 (.inl om) _ _ _ _,u0.set4 (.inl om) _ _ _ _,by omega,r2,s1,s2,t1,t2,u1,u2,by simp [set4,World.setCell];exact u3⟩
   clear g2 g5 g8 g11 o0 o1 o2 o3 u1 hF h2 hall
   generalize set4 W0 (w.heap.size+1) (y 5) (y 8) (y 11) (y 14)=WF at *
   go_wp2_with fail
   exact bodyPost_ret (v:=.agg #[y 5,y 8,y 11,y 14]) (by simp (maxDischargeDepth:=9) [results,Tryz.results168,go_sem,q0,q1,q2,q3]) rfl ⟨⟨_,_,_,_,_,_,_,_,_,_,_,_,rfl,hcp⟩,hbf⟩
 case step=>
 intro l a W i o hI ho hun hdeps
 obtain ⟨hz,y,lo,hi,W0,rfl,hb,hF,h13o⟩:=hI
 have hi14:i<14:=(Array.getElem?_eq_some_iff.1 ho).1
 have h13':l.getD 13 false=false/\W=W0:=by
  rcases h13o with h|⟨h1,h2,_⟩
  ·exact h
  ·exfalso
   rw [getD_tf om] at hun
   by_cases h:i=13
   ·subst h;rw [h1] at hun;cases hun
   ·rw [h2 i om] at hun;cases hun
 obtain ⟨h13,hWW⟩:=h13'
 subst W
 clear h13o
 have v0:=(hb.block w.heap.size om).trans T0.out
 have c0:W0.cell? ⟨w.heap.size,0,none⟩=some (vSl s.V):=(tank_blk v0 0).trans rfl
 have c1:W0.cell? ⟨w.heap.size,1,none⟩=some (vSl s.P):=(tank_blk v0 1).trans rfl
 have c2:W0.cell? ⟨w.heap.size,2,none⟩=some (vSl s.S):=(tank_blk v0 2).trans rfl
 have c3:W0.cell? ⟨w.heap.size,3,none⟩=some (vSl s.O):=(tank_blk v0 3).trans rfl
 simp only [vSl] at c0 c1 c2 c3
 have hgs:=rdSt.mono hgs hb
 rcases (show i=0\/i=1\/i=2\/i=3\/i=4\/i=5\/i=6\/i=7\/i=8\/i=9\/i=10\/i=11\/i=12\/i=13 by omega) with rfl|rfl|rfl|rfl|rfl|rfl|rfl|rfl|rfl|rfl|rfl|rfl|rfl|rfl
 ·refine wpOp_step rfl (fun K hK=>?_)
  rw [if_pos (by rfl)]
  go_simp
  exact hK _ _ (cq_next hz hb hF h13 om hun _ lo hi rfl qr (fun _ _=>⟨rfl,rfl⟩) rfl)
 ·obtain rfl:=Option.some.inj (show some _=some o from ho)
  have e:=hF 0 om (hdeps ⟨0,.data⟩ (by simp) rfl)
  change y 3=_ at e
  refine wpOp_step rfl (fun K hK=>?_)
  rw [if_pos (by rfl)]
  go_simp
  refine hK _ _ (cq_next hz hb hF h13 om hun (vSl s.V) lo hi ?_ qr (fun _ _=>⟨rfl,rfl⟩) rfl)
  first|rfl|simp [cqA,updV,e]
 ·obtain rfl:=Option.some.inj (show some _=some o from ho)
  have e:=hF 1 om (hdeps ⟨1,.data⟩ (by simp) rfl)
  change y 4=_ at e
  simp only [vSl] at e
  have hcl:=cloneInt_any s.V.xs _ W0 hgs.1.isL hl0
  simp only [vSl] at hcl
  refine wpOp_step rfl (fun K hK=>?_)
  rw [if_pos (by rfl)]
  go_simp
  go_at_call 161
  refine hcl.mono ?_
  rintro e' w' ⟨⟨v',rfl,hown⟩,hbel⟩
  have hrow:=RowAt.of hown
  refine hK _ _ (cq_next hz hb hF h13 om hun v' (updV lo 0 W0.heap.size) (updV hi 0 w'.heap.size) (by first|rfl|simp [cqA,updV,e]) hbel (fun r hr=>?_) ?_)
  ·simp only [updV];constructor <;> rw [if_neg om]
  ·exact ⟨hrow,hb.size,hbel.size,Nat.le_refl _⟩
 ·refine wpOp_step rfl (fun K hK=>?_)
  rw [if_pos (by rfl)]
  go_simp
  exact hK _ _ (cq_next hz hb hF h13 om hun _ lo hi rfl qr (fun _ _=>⟨rfl,rfl⟩) rfl)
 ·obtain rfl:=Option.some.inj (show some _=some o from ho)
  have e:=hF 3 om (hdeps ⟨3,.data⟩ (by simp) rfl)
  change y 6=_ at e
  refine wpOp_step rfl (fun K hK=>?_)
  rw [if_pos (by rfl)]
  go_simp
  refine hK _ _ (cq_next hz hb hF h13 om hun (vSl s.P) lo hi ?_ qr (fun _ _=>⟨rfl,rfl⟩) rfl)
  first|rfl|simp [cqA,updV,e]
 ·obtain rfl:=Option.some.inj (show some _=some o from ho)
  have e:=hF 4 om (hdeps ⟨4,.data⟩ (by simp) rfl)
  change y 7=_ at e
  simp only [vSl] at e
  have hcl:=cloneInt_any s.P.xs _ W0 hgs.2.1.isL hl1
  simp only [vSl] at hcl
  refine wpOp_step rfl (fun K hK=>?_)
  rw [if_pos (by rfl)]
  go_simp
  go_at_call 161
  refine hcl.mono ?_
  rintro e' w' ⟨⟨v',rfl,hown⟩,hbel⟩
  have hrow:=RowAt.of hown
  refine hK _ _ (cq_next hz hb hF h13 om hun v' (updV lo 1 W0.heap.size) (updV hi 1 w'.heap.size) (by first|rfl|simp [cqA,updV,e]) hbel (fun r hr=>?_) ?_)
  ·simp only [updV];constructor <;> rw [if_neg om]
  ·have d:=hdeps ⟨2,.chain⟩ (by simp) rfl
   exact ⟨by rw [getD_setF (by decide)];exact d,hrow,(hF 2 om d).2.2.2,hbel.size,Nat.le_refl _⟩
 ·refine wpOp_step rfl (fun K hK=>?_)
  rw [if_pos (by rfl)]
  go_simp
  exact hK _ _ (cq_next hz hb hF h13 om hun _ lo hi rfl qr (fun _ _=>⟨rfl,rfl⟩) rfl)
 ·obtain rfl:=Option.some.inj (show some _=some o from ho)
  have e:=hF 6 om (hdeps ⟨6,.data⟩ (by simp) rfl)
  change y 9=_ at e
  refine wpOp_step rfl (fun K hK=>?_)
  rw [if_pos (by rfl)]
  go_simp
  refine hK _ _ (cq_next hz hb hF h13 om hun (vSl s.S) lo hi ?_ qr (fun _ _=>⟨rfl,rfl⟩) rfl)
  first|rfl|simp [cqA,updV,e]
 ·obtain rfl:=Option.some.inj (show some _=some o from ho)
  have e:=hF 7 om (hdeps ⟨7,.data⟩ (by simp) rfl)
  change y 10=_ at e
  simp only [vSl] at e
  have hcl:=cloneInt_any s.S.xs _ W0 hgs.2.2.1.isL hl2
  simp only [vSl] at hcl
  refine wpOp_step rfl (fun K hK=>?_)
  rw [if_pos (by rfl)]
  go_simp
  go_at_call 161
  refine hcl.mono ?_
  rintro e' w' ⟨⟨v',rfl,hown⟩,hbel⟩
  have hrow:=RowAt.of hown
  refine hK _ _ (cq_next hz hb hF h13 om hun v' (updV lo 2 W0.heap.size) (updV hi 2 w'.heap.size) (by first|rfl|simp [cqA,updV,e]) hbel (fun r hr=>?_) ?_)
  ·simp only [updV];constructor <;> rw [if_neg om]
  ·have d:=hdeps ⟨5,.chain⟩ (by simp) rfl
   exact ⟨by rw [getD_setF (by decide)];exact d,hrow,(hF 5 om d).2.2.2.2,hbel.size,Nat.le_refl _⟩
 ·refine wpOp_step rfl (fun K hK=>?_)
  rw [if_pos (by rfl)]
  go_simp
  exact hK _ _ (cq_next hz hb hF h13 om hun _ lo hi rfl qr (fun _ _=>⟨rfl,rfl⟩) rfl)
 ·obtain rfl:=Option.some.inj (show some _=some o from ho)
  have e:=hF 9 om (hdeps ⟨9,.data⟩ (by simp) rfl)
  change y 12=_ at e
  refine wpOp_step rfl (fun K hK=>?_)
  rw [if_pos (by rfl)]
  go_simp
  refine hK _ _ (cq_next hz hb hF h13 om hun (vSl s.O) lo hi ?_ qr (fun _ _=>⟨rfl,rfl⟩) rfl)
  first|rfl|simp [cqA,updV,e]
 ·obtain rfl:=Option.some.inj (show some _=some o from ho)
  have e:=hF 10 om (hdeps ⟨10,.data⟩ (by simp) rfl)
  change y 13=_ at e
  simp only [vSl] at e
  have hcl:=cloneBool_any s.O.xs _ W0 hgs.2.2.2.isL hl3
  simp only [vSl] at hcl
  refine wpOp_step rfl (fun K hK=>?_)
  rw [if_pos (by rfl)]
  go_simp
  go_at_call 162
  refine hcl.mono ?_
  rintro e' w' ⟨⟨v',rfl,hown⟩,hbel⟩
  have hrow:=RowAt.of hown
  refine hK _ _ (cq_next hz hb hF h13 om hun v' (updV lo 3 W0.heap.size) (updV hi 3 w'.heap.size) (by first|rfl|simp [cqA,updV,e]) hbel (fun r hr=>?_) ?_)
  ·simp only [updV];constructor <;> rw [if_neg om]
  ·have d:=hdeps ⟨8,.chain⟩ (by simp) rfl
   exact ⟨by rw [getD_setF (by decide)];exact d,hrow,(hF 8 om d).2.2.2.2,hbel.size,Nat.le_refl _⟩
 ·obtain rfl:=Option.some.inj (show some _=some o from ho)
  have d2:=hdeps ⟨2,.data⟩ (by simp) rfl
  have d5:=hdeps ⟨5,.data⟩ (by simp) rfl
  have d8:=hdeps ⟨8,.data⟩ (by simp) rfl
  have d11:=hdeps ⟨11,.data⟩ (by simp) rfl
  obtain ⟨a0,k0,e0⟩:=(hF 2 om d2).1.1.isSlice
  obtain ⟨a1,k1,e1⟩:=(hF 5 om d5).2.1.1.isSlice
  obtain ⟨a2,k2,e2⟩:=(hF 8 om d8).2.1.1.isSlice
  obtain ⟨a3,k3,e3⟩:=(hF 11 om d11).2.1.1.isSlice
  refine wpOp_step rfl (fun K hK=>?_)
  rw [if_pos (by rfl)]
  go_simp
  refine hK _ _ (cq_next hz hb hF h13 om hun (.agg #[y 5,y 8,y 11,y 14]) lo hi ?_ qr (fun _ _=>⟨rfl,rfl⟩) ⟨⟨by rw [getD_setF (by decide)];exact d2,by rw [getD_setF (by decide)];exact d5,by rw [getD_setF (by decide)];exact d8,by rw [getD_setF (by decide)];exact d11⟩,rfl⟩)
  first|rfl|simp [cqA,updV,e0,e1,e2,e3]
 ·obtain rfl:=Option.some.inj (show some _=some o from ho)
  have hall:∀ j,j<13->l.getD j false=true:=by
   intro j hj
   rcases (show j=0\/j=1\/j=2\/j=3\/j=4\/j=5\/j=6\/j=7\/j=8\/j=9\/j=10\/j=11\/j=12 by omega) with rfl|rfl|rfl|rfl|rfl|rfl|rfl|rfl|rfl|rfl|rfl|rfl|rfl
   all_goals exact hdeps ⟨_,.phase⟩ (by simp) rfl
  have e:=(hF 12 om (hall 12 om)).2
  obtain ⟨a0,k0,e0⟩:=(hF 2 om (hall 2 om)).1.1.isSlice
  obtain ⟨a1,k1,e1⟩:=(hF 5 om (hall 5 om)).2.1.1.isSlice
  obtain ⟨a2,k2,e2⟩:=(hF 8 om (hall 8 om)).2.1.1.isSlice
  obtain ⟨a3,k3,e3⟩:=(hF 11 om (hall 11 om)).2.1.1.isSlice
  have u1:=(hb.block (w.heap.size+1) hlt).trans T1.out
  have o0:W0.cell? ⟨w.heap.size+1,0,none⟩=some (.slice none 0 0):=(tank_blk u1 0).trans rfl
  have o1:W0.cell? ⟨w.heap.size+1,1,none⟩=some (.slice none 0 0):=(tank_blk u1 1).trans rfl
  have o2:W0.cell? ⟨w.heap.size+1,2,none⟩=some (.slice none 0 0):=(tank_blk u1 2).trans rfl
  have o3:W0.cell? ⟨w.heap.size+1,3,none⟩=some (.slice none 0 0):=(tank_blk u1 3).trans rfl
  have of0:W0.frozen? ⟨w.heap.size+1,0,none⟩=false:=tank_free u1 0
  have of1:W0.frozen? ⟨w.heap.size+1,1,none⟩=false:=tank_free u1 1
  have of2:W0.frozen? ⟨w.heap.size+1,2,none⟩=false:=tank_free u1 2
  have of3:W0.frozen? ⟨w.heap.size+1,3,none⟩=false:=tank_free u1 3
  refine wpOp_step rfl (fun K hK=>?_)
  rw [if_pos (by rfl)]
  go_simp
  refine hK _ _ ⟨by simpa using hz,y,lo,hi,W0,?_,hb,?_,.inr ⟨getD_setT om,fun j hj=>by rw [getD_setF om];exact hall j hj,?_⟩⟩
  ·first|rfl|simp [cqA,e,e0,e1,e2,e3]
  ·intro j hj hl
   rw [getD_setF om] at hl
   exact cqF_keep qr h13 (fun _ _=>rfl) (fun _ _=>⟨rfl,rfl⟩) (fun j hj=>getD_setF hj) j om (hF j hj hl)
  ·first|rfl|simp [set4,e0,e1,e2,e3]
end Go.Proofs.YtoiakijmbghhlaaGreat
