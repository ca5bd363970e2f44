/- control.Step. Conditions: the arguments read as data. | control.Run: the invariant of the region in which one step is made. No function of the program is named. Conditions: none. | control.Run: the invariant of the region in which a state and a ledger are appended. No function of the program is named. Conditions: none. | control.Run, walked. Conditions: the arguments read as data. | The frame of control.Run as a function of its slots. No function of the program is named. Conditions: none. -/
import Derived.Test.YtoiakijmbghhlaaGreatS37
import Derived.Test.YtoiakijmbghhlaaGreatS38
set_option linter.unusedVariables false
set_option linter.unusedSimpArgs false
set_option maxRecDepth 100000
set_option maxHeartbeats 32000000
namespace Go.Proofs.YtoiakijmbghhlaaGreat
open Go.RowKit Go.Maps
inductive CtOut (base:Nat) (w:World) (n:Net) (s:St) (q:List Int):Value->Prop
 | no (e:Int):e≠0->CtOut base w n s q (.tuple #[.agg #[.slice none 0 0,.slice none 0 0,.slice none 0 0,.slice none 0 0],.agg #[.int .i64 0,.int .i64 0,.slice none 0 0],.int .i64 e])
 | ok (s':St) (g:Led):CStep n s q s' g->gSt w s'->gInts w g.P->FarS base s' g->CtOut base w n s q (.tuple #[vSt s',vLed g,.int .i64 0])
end Go.Proofs.YtoiakijmbghhlaaGreat
namespace Go.Proofs.YtoiakijmbghhlaaGreat
open Go.RowKit
structure StR where
 s:St
 g:Led
 e:Int
abbrev StR.a0 (R:StR):Value:=.slice R.s.V.a R.s.V.xs.length R.s.V.cap
abbrev StR.a1 (R:StR):Value:=.slice R.s.P.a R.s.P.xs.length R.s.P.cap
abbrev StR.a2 (R:StR):Value:=.slice R.s.S.a R.s.S.xs.length R.s.S.cap
abbrev StR.a3 (R:StR):Value:=.slice R.s.O.a R.s.O.xs.length R.s.O.cap
abbrev StR.l0 (R:StR):Value:=.int .i64 R.g.I
abbrev StR.l1 (R:StR):Value:=.int .i64 R.g.O
abbrev StR.l2 (R:StR):Value:=.slice R.g.P.a R.g.P.xs.length R.g.P.cap
abbrev StR.A (R:StR):Value:=.agg #[R.a0,R.a1,R.a2,R.a3]
abbrev StR.L (R:StR):Value:=.agg #[R.l0,R.l1,R.l2]
abbrev StR.V (R:StR):Value:=.tuple #[R.A,R.L,.int .i64 R.e]
def StR.ok (R:StR) (base:Nat) (w:World) (n:Net) (x:St) (q:List Int):Prop:=
 R.e≠0\/(R.e=0/\CStep n x q R.s R.g/\gSt w R.s/\gInts w R.g.P/\FarS base R.s R.g)
theorem CtOut.res {base:Nat} {w:World} {n:Net} {x:St} {q:List Int} {u:Value} (h:CtOut base w n x q u):∃ R:StR,u=R.V/\R.ok base w n x q:=by
 cases h with
 | no e he=>exact ⟨⟨⟨⟨none,0,[]⟩,⟨none,0,[]⟩,⟨none,0,[]⟩,⟨none,0,[]⟩⟩,⟨0,0,⟨none,0,[]⟩⟩,e⟩,rfl,.inl he⟩
 | ok s' g h1 h2 h3 h4=>exact ⟨⟨s',g,0⟩,rfl,.inr ⟨rfl,h1,h2,h3,h4⟩⟩
def rankB (rk:List Nat) (ops:Array Oper):Bool:=(List.range ops.size).all fun i=>match ops[i]? with|some o=>o.after.all fun e=>!(Region.binds .any e)||(decide (e.on<ops.size)&&decide (rk.getD e.on 0<rk.getD i 0))|none=>true
section
variable {P : Program} {ops : Array Oper} {Q : Exit → Act → World → Prop} {md : Region.Mode}
theorem rankB_spec {rk:List Nat} (h:rankB rk ops=true) {i:Nat} {o:Oper} (ho:ops[i]? = some o) (e:_) (he:e∈o.after) (hbd:Region.binds .any e=true):e.on<ops.size/\rk.getD e.on 0<rk.getD i 0:=by
 have hi:i<ops.size:=(Array.getElem?_eq_some_iff.1 ho).1
 have h1:=List.all_eq_true.1 h i (List.mem_range.2 hi)
 rw [ho] at h1
 simp only at h1
 have h2:=Array.all_eq_true_iff_forall_mem.1 h1 e he
 simpa [hbd] using h2
theorem ready_rk (rk:List Nat) (hb:rankB rk ops=true) {l:Array Bool} (hs:l.size=ops.size) (h:Region.ready .any ops l = []):∀ i,i<ops.size->l.getD i false=true:=by
 suffices H:∀ r i,rk.getD i 0=r->i<ops.size->l.getD i false=true from fun i hi=>H _ i rfl hi
 intro r
 induction r using Nat.strongRecOn with
 | _ r ih=>
  intro i hr hi
  cases hl:l.getD i false with
  | true=>rfl
  | false=>
   exfalso
   have hi':i<l.size:=by omega
   have hm:i∈Region.ready .any ops l:=mem_ready.2 ⟨by simp only [Array.getD,hi',dite_true] at hl ⊢;exact hl,ops[i],by simp [hi],fun e he hbd=>by
    have h:=rankB_spec hb (i:=i) (o:=ops[i]) (by simp [hi]) e he hbd
    exact ih _ (hr ▸ h.2) e.on rfl h.1⟩
   rw [h] at hm
   cases hm
theorem wpAny_rk (I:Array Bool->Act->World->Prop) (hb:∀ l:Array Bool,l.size=ops.size->Region.ready md ops l = []->∀ i,i<ops.size->l.getD i false=true) (hs:∀ l a w,I l a w->l.size=ops.size)
  (step:∀ l a w i o,I l a w->ops[i]? = some o->l.getD i true=false->(∀ e∈o.after,Region.binds md e=true->l.getD e.on false=true)->wpOp P ops Q i (fun a' w'=>I (l.setIfInBounds i true) a' w') a w)
  (fin:∀ l a w,I l a w->(∀ i,i<ops.size->l.getD i false=true)->Q .normal a w) :
  ∀ (fuel:Nat) (l:Array Bool) (a:Act) (w:World),remL ops.size l<=fuel->I l a w->wpAny P md ops Q fuel l a w
 | 0,l,a,w,hr,hI=>by
  have hz:=hs l a w hI
  have hall:∀ i,i<ops.size->l.getD i false=true:=by
   intro i hi
   have h0:remL ops.size l=0:=by omega
   unfold remL at h0
   have h1:=List.countP_eq_zero.1 h0 i (List.mem_range.2 hi)
   have hi':i<l.size:=by omega
   simp only [Array.getD,hi',dite_true] at h1 ⊢
   simpa using h1
  refine ⟨?_,fin l a w hI hall⟩
  cases hrd:Region.ready md ops l with
  | nil=>rfl
  | cons i r=>
   exfalso
   have hm:i∈Region.ready md ops l:=by rw [hrd];exact List.mem_cons_self ..
   obtain ⟨h1,o,ho,_⟩:=mem_ready.1 hm
   have hi:i<ops.size:=(Array.getElem?_eq_some_iff.1 ho).1
   have h2:=hall i hi
   have hi':i<l.size:=by omega
   simp only [Array.getD,hi',dite_true] at h1 h2
   rw [h1] at h2;cases h2
 | fuel+1,l,a,w,hr,hI=>by
  have hz:=hs l a w hI
  refine ⟨fun h=>fin l a w hI (hb l hz h),fun i hi=>?_⟩
  obtain ⟨h1,o,ho,h2⟩:=mem_ready.1 hi
  refine wpOp_mono (fun a' w' h'=>wpAny_rk I hb hs step fin fuel _ a' w' ?_ h') (step l a w i o hI ho h1 h2)
  have hil:i<ops.size:=(Array.getElem?_eq_some_iff.1 ho).1
  have hi':i<l.size:=by omega
  have:remL ops.size (l.setIfInBounds i true)<remL ops.size l:=by
   refine countP_lt _ (fun x _ hx=>?_) ⟨i,List.mem_range.2 hil,by rw [h1];rfl,?_⟩
   ·by_cases hxi:i=x
    ·subst hxi
     simp [Array.getD,hi'] at hx
    ·rw [getD_set_ne true hxi] at hx;exact hx
   ·simp [Array.getD,hi']
  omega
theorem wp_region_rk {id:Nat} {a:Act} {w:World} (I:Array Bool->Act->World->Prop) (hm:P.follows .mixedOrders=true) (rk:List Nat) (hb:rankB rk ops=true) (hs:∀ l a w,I l a w->l.size=ops.size)
  (step:∀ l a w i o,I l a w->ops[i]? = some o->l.getD i true=false->(∀ e∈o.after,Region.binds .any e=true->l.getD e.on false=true)->wpOp P ops Q i (fun a' w'=>I (l.setIfInBounds i true) a' w') a w)
  (fin:∀ l a w,I l a w->(∀ i,i<ops.size->l.getD i false=true)->Q .normal a w)
  (h0:I (Array.replicate ops.size false) a { w with drawn:=w.drawn+1 }):(Code.region id ops true).wp P Q a w:=by
 refine wp_region_any hm (wpAny_rk I (fun l hz h=>ready_rk rk hb hz h) hs step fin _ _ _ _ ?_ h0)
 unfold remL
 exact Nat.le_trans List.countP_le_length (by simp)
end
structure CiM (B:Nat) (W0:World) (vT vU:Value) (sts:List St) (leds:List Led) (s':St) (g:Led) (d2 d3 d6 d7:Bool) (tT tU:Value) (c1 c2:Nat) (w:World):Prop where
 hB:B<=W0.heap.size
 sz:W0.heap.size<=w.heap.size
 bel:Below B W0 w
 kept:∀ b,b<W0.heap.size->vT.ownBlock≠some b->vU.ownBlock≠some b->w.heap[b]? = W0.heap[b]?
 T:Own B 31 eSt 4 w tT (bif d3 then sts ++ [s'] else sts)
 T0:d3=false->tT=vT
 Tp:∀ g,tT.ownBlock=some g->vT.ownBlock=some g\/W0.heap.size<=g
 U:Own B 56 eLed 3 w tU (bif d7 then leds ++ [g] else leds)
 U0:d7=false->tU=vU
 Up:∀ g,tU.ownBlock=some g->vU.ownBlock=some g\/W0.heap.size<=g
 ne:∀ g,tT.ownBlock=some g->tU.ownBlock≠some g
 k1:d2=true->d3=false->W0.heap.size<=c1/\c1<w.heap.size/\w.heap[c1]? = some (.cells (eSt s').toArray 31 (0,0))/\tT.ownBlock≠some c1/\tU.ownBlock≠some c1
 k2:d6=true->d7=false->W0.heap.size<=c2/\c2<w.heap.size/\w.heap[c2]? = some (.cells (eLed g).toArray 56 (0,0))/\tT.ownBlock≠some c2/\tU.ownBlock≠some c2
section
variable {B : Nat} {W0 : World} {vT vU : Value} {sts : List St} {leds : List Led} {s' : St} {g : Led} {d2 d3 d6 d7 : Bool} {tT tU : Value} {c1 c2 : Nat} {w : World}
theorem CiM.box1 (h:CiM B W0 vT vU sts leds s' g d2 d3 d6 d7 tT tU c1 c2 w):CiM B W0 vT vU sts leds s' g true d3 d6 d7 tT tU w.heap.size c2 (w.alloc (.cells (eSt s').toArray 31)):=by
 have hb:=alloc_below w (.cells (eSt s').toArray 31)
 have hz:(w.alloc (.cells (eSt s').toArray 31)).heap.size=w.heap.size+1:=by simp
 refine ⟨h.hB,by have:=h.sz;omega,h.bel.trans (hb.mono (by have:=h.sz;have:=h.hB;omega)),fun b h1 h2 h3=>(hb.block b (by have:=h.sz;omega)).trans (h.kept b h1 h2 h3),h.T.below hb,h.T0,h.Tp,h.U.below hb,h.U0,h.Up,h.ne,fun _ _=>⟨h.sz,by omega,heap_alloc_new w _,fun e=>?_,fun e=>?_⟩,fun e1 e2=>?_⟩
 ·have:=(h.T.lt _ e).2;omega
 ·have:=(h.U.lt _ e).2;omega
 ·obtain ⟨q1,q2,q3,q4,q5⟩:=h.k2 e1 e2
  exact ⟨q1,by omega,(hb.block _ q2).trans q3,q4,q5⟩
theorem CiM.box2 (h:CiM B W0 vT vU sts leds s' g d2 d3 d6 d7 tT tU c1 c2 w):CiM B W0 vT vU sts leds s' g d2 d3 true d7 tT tU c1 w.heap.size (w.alloc (.cells (eLed g).toArray 56)):=by
 have hb:=alloc_below w (.cells (eLed g).toArray 56)
 have hz:(w.alloc (.cells (eLed g).toArray 56)).heap.size=w.heap.size+1:=by simp
 refine ⟨h.hB,by have:=h.sz;omega,h.bel.trans (hb.mono (by have:=h.sz;have:=h.hB;omega)),fun b h1 h2 h3=>(hb.block b (by have:=h.sz;omega)).trans (h.kept b h1 h2 h3),h.T.below hb,h.T0,h.Tp,h.U.below hb,h.U0,h.Up,h.ne,fun e1 e2=>?_,fun _ _=>⟨h.sz,by omega,heap_alloc_new w _,fun e=>?_,fun e=>?_⟩⟩
 ·obtain ⟨q1,q2,q3,q4,q5⟩:=h.k1 e1 e2
  exact ⟨q1,by omega,(hb.block _ q2).trans q3,q4,q5⟩
 ·have:=(h.T.lt _ e).2;omega
 ·have:=(h.U.lt _ e).2;omega
theorem CiM.app1 (h:CiM B W0 vT vU sts leds s' g d2 false d6 d7 tT tU c1 c2 w) {new:Value} {w':World} (hR:RowStep B 31 eSt 4 w w' tT new (sts ++ [s'])):CiM B W0 vT vU sts leds s' g d2 true d6 d7 new tU c1 c2 w':=by
 have hzB:B<=w.heap.size:=Nat.le_trans h.hB h.sz
 have hb:=hR.below h.T hzB
 have hz:=hb.size
 have e0:=h.T0 rfl
 have hne':∀ g,tU.ownBlock=some g->tT.ownBlock≠some g:=fun g h1 h2=>h.ne g h2 h1
 have hap:=hR.apart h.U hne'
 refine ⟨h.hB,by have:=h.sz;omega,h.bel.trans hb,fun b h1 h2 h3=>?_,hR.own,fun e=>(Bool.noConfusion e),fun g hg=>?_,hR.other h.U hne',h.U0,h.Up,fun g h1 h2=>hap g h2 h1,fun _ e=>(Bool.noConfusion e),fun e1 e2=>?_⟩
 ·have hlt:b<w.heap.size:=by have:=h.sz;omega
  exact (hR.grown.block b hlt (fun e=>h2 (by rw [<-e0];exact e.symm))).trans (h.kept b h1 h2 h3)
 ·rcases hR.place g hg with h1|h1
  ·exact h.Tp g h1
  ·right;have:=h.sz;omega
 ·obtain ⟨q1,q2,q3,q4,q5⟩:=h.k2 e1 e2
  refine ⟨q1,by omega,(hR.grown.block _ q2 (fun e=>q4 e.symm)).trans q3,fun e=>?_,q5⟩
  rcases hR.place _ e with h1|h1
  ·exact q4 h1
  ·omega
theorem CiM.app2 (h:CiM B W0 vT vU sts leds s' g d2 d3 d6 false tT tU c1 c2 w) {new:Value} {w':World} (hR:RowStep B 56 eLed 3 w w' tU new (leds ++ [g])):CiM B W0 vT vU sts leds s' g d2 d3 d6 true tT new c1 c2 w':=by
 have hzB:B<=w.heap.size:=Nat.le_trans h.hB h.sz
 have hb:=hR.below h.U hzB
 have hz:=hb.size
 have e0:=h.U0 rfl
 have hap:=hR.apart h.T h.ne
 refine ⟨h.hB,by have:=h.sz;omega,h.bel.trans hb,fun b h1 h2 h3=>?_,hR.other h.T h.ne,h.T0,h.Tp,hR.own,fun e=>(Bool.noConfusion e),fun g hg=>?_,hap,fun e1 e2=>?_,fun _ e=>(Bool.noConfusion e)⟩
 ·have hlt:b<w.heap.size:=by have:=h.sz;omega
  exact (hR.grown.block b hlt (fun e=>h3 (by rw [<-e0];exact e.symm))).trans (h.kept b h1 h2 h3)
 ·rcases hR.place g hg with h1|h1
  ·exact h.Up g h1
  ·right;have:=h.sz;omega
 ·obtain ⟨q1,q2,q3,q4,q5⟩:=h.k1 e1 e2
  refine ⟨q1,by omega,(hR.grown.block _ q2 (fun e=>q5 e.symm)).trans q3,q4,fun e=>?_⟩
  rcases hR.place _ e with h1|h1
  ·exact q5 h1
  ·omega
end
end Go.Proofs.YtoiakijmbghhlaaGreat
namespace Go.Proofs.YtoiakijmbghhlaaGreat
open Go.RowKit Go.Maps
def RunCh (n:Net) (x:St) (ins:List InD) (sts:List St) (leds:List Led):Prop:=
 ∀ j (h:j<sts.length) (h':j<leds.length),∃ q:List Int,q.length=n.Ns.xs.length/\(∀ i,i<n.Ns.xs.length->q.getD i 0=atQ n ins j i)/\CStep n ((x :: sts).getD j x) q sts[j] leds[j]
def AvR {α:Type} (B:Nat) (vT vU:Value) (r:Sl α):Prop:=r.xs≠[]->∀ b off,r.a=some ⟨b,off,none⟩->B<=b/\vT.ownBlock≠some b/\vU.ownBlock≠some b
def AvS (B:Nat) (vT vU:Value) (s:St):Prop:=AvR B vT vU s.V/\AvR B vT vU s.P/\AvR B vT vU s.S/\AvR B vT vU s.O
theorem IsC.near3 {α:Type} {enc:α->List Value} {k:Nat} {w w':World} {a:Option Addr} {xs:List α} (hk:0<k) (h:IsC enc k w a xs) (he:xs≠[]->∀ b off,a=some ⟨b,off,none⟩->b<w.heap.size->w'.heap[b]? = w.heap[b]?):IsC enc k w' a xs:=by
 intro i hi
 obtain ⟨b,off,e,hc⟩:=h i hi
 have hx:xs≠[]:=fun e=>by rw [e] at hi;exact absurd hi (Nat.not_lt_zero _)
 have lt:b<w.heap.size:=World.block_lt_of_cell? w _ (hc 0 hk)
 exact ⟨b,off,e,fun j hj=>(World.cell?_of_block (he hx b off e lt)).trans (hc j hj)⟩
theorem gSl_near {w w':World} {s:St} (h:gSt w s) {P:Nat->Prop} (hP:∀ b,P b->b<w.heap.size->w'.heap[b]? = w.heap[b]?)
  (a1:s.V.xs≠[]->∀ b off,s.V.a=some ⟨b,off,none⟩->P b) (a2:s.P.xs≠[]->∀ b off,s.P.a=some ⟨b,off,none⟩->P b) (a3:s.S.xs≠[]->∀ b off,s.S.a=some ⟨b,off,none⟩->P b) (a4:s.O.xs≠[]->∀ b off,s.O.a=some ⟨b,off,none⟩->P b):gSt w' s:=
 ⟨⟨h.1.1,h.1.2.1,h.1.2.2.1.near3 om (fun x b off e=>hP b (a1 x b off e)),h.1.2.2.2⟩,⟨h.2.1.1,h.2.1.2.1,h.2.1.2.2.1.near3 om (fun x b off e=>hP b (a2 x b off e)),h.2.1.2.2.2⟩,⟨h.2.2.1.1,h.2.2.1.2.1,h.2.2.1.2.2.1.near3 om (fun x b off e=>hP b (a3 x b off e)),h.2.2.1.2.2.2⟩,⟨h.2.2.2.1,h.2.2.2.2.1,h.2.2.2.2.2.1.near3 om (fun x b off e=>hP b (a4 x b off e)),h.2.2.2.2.2.2⟩⟩
end Go.Proofs.YtoiakijmbghhlaaGreat
namespace Go.Proofs.YtoiakijmbghhlaaGreat
open Go.RowKit
theorem getD_setOf {l:Array Bool} {i j:Nat} (hij:j≠i) (h:l.getD j false=true):(l.setIfInBounds i true).getD j false=true:=(getD_setF hij).trans h
theorem set4_far (w:World) {b c:Nat} (h:c≠b) (u0 u1 u2 u3:Value):(set4 w b u0 u1 u2 u3).heap[c]? = w.heap[c]?:=by
 unfold set4
 rw [Below.heap_setCell _ _ _ _ (show c≠(⟨b,3,none⟩:Addr).block from h),Below.heap_setCell _ _ _ _ (show c≠(⟨b,2,none⟩:Addr).block from h),Below.heap_setCell _ _ _ _ (show c≠(⟨b,1,none⟩:Addr).block from h),Below.heap_setCell _ _ _ _ (show c≠(⟨b,0,none⟩:Addr).block from h)]
theorem set4_cells {w:World} {b:Nat} {x0 x1 x2 x3:Value} {T:TypeId} {z:Nat×Nat} (y:w.heap[b]? = some (.cells #[x0,x1,x2,x3] T z)) (u0 u1 u2 u3:Value):(set4 w b u0 u1 u2 u3).heap[b]? = some (.cells #[u0,u1,u2,u3] T z):=by
 unfold set4
 exact blk_set (blk_set (blk_set (blk_set y 0 u0) 1 u1) 2 u2) 3 u3
theorem set4_size (w:World) (b:Nat) (u0 u1 u2 u3:Value):(set4 w b u0 u1 u2 u3).heap.size=w.heap.size:=by simp [set4,World.setCell]
theorem set4_below {B:Nat} {w0 w:World} (h:Below B w0 w) {b:Nat} (hb:B<=b) (u0 u1 u2 u3:Value):Below B w0 (set4 w b u0 u1 u2 u3):=
 (((h.setCell (p:=⟨b,0,none⟩) hb u0).setCell (p:=⟨b,1,none⟩) hb u1).setCell (p:=⟨b,2,none⟩) hb u2).setCell (p:=⟨b,3,none⟩) hb u3
theorem Own.set4' {α:Type} {base:Nat} {e:TypeId} {enc:α->List Value} {k:Nat} {w:World} {v:Value} {xs:List α} (h:Own base e enc k w v xs) {b:Nat} (hne:v.ownBlock≠some b) (u0 u1 u2 u3:Value):Own base e enc k (set4 w b u0 u1 u2 u3) v xs:=
 (((h.set' ⟨b,0,none⟩ u0 hne).set' ⟨b,1,none⟩ u1 hne).set' ⟨b,2,none⟩ u2 hne).set' ⟨b,3,none⟩ u3 hne
section
variable {B : Nat} {W0 : World} {vT vU : Value} {sts : List St} {leds : List Led} {s' : St} {g : Led} {y0 y : Nat → Value} {l : Array Bool} {tT tU : Value} {c1 c2 : Nat} {w : World}
end
def yOf (a:Act):Nat->Value:=fun j=>a.tmps.getD j undef
end Go.Proofs.YtoiakijmbghhlaaGreat
