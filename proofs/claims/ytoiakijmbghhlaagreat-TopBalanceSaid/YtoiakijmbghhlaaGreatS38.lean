/- control.Run: the invariant of the region in which a state and a ledger are appended. No function of the program is named. Conditions: none. | control.Run, walked. Conditions: the arguments read as data. | balance.given at what a step hands back. Conditions: the arguments read as data and come of a step. -/
import Derived.Test.YtoiakijmbghhlaaGreatS37
import Derived.Test.YtoiakijmbghhlaaGreatS33
set_option linter.unusedVariables false
set_option linter.unusedSimpArgs false
set_option maxRecDepth 100000
set_option maxHeartbeats 32000000
namespace Go.Proofs.YtoiakijmbghhlaaGreat
open Go.RowKit
structure CiM (B:Nat) (W0:World) (vT vU:Value) (sts:List St) (leds:List Led) (s':St) (g:Led) (d2 d3 d6 d7:Bool) (tT tU:Value) (c1 c2:Nat) (w:World):Prop where
 hB:B<=W0.heap.size
 sz:W0.heap.size<=w.heap.size
 bel:Below B W0 w
 kept:∀ b,b<W0.heap.size->vT.ownBlock≠some b->vU.ownBlock≠some b->w.heap[b]? = W0.heap[b]?
 T:Own B 31 eSt 4 w tT (bif d3 then sts ++ [s'] else sts)
 T0:d3=false->tT=vT
 Tp:∀ g,tT.ownBlock=some g->vT.ownBlock=some g\/W0.heap.size<=g
 U:Own B 56 eLed 3 w tU (bif d7 then leds ++ [g] else leds)
 U0:d7=false->tU=vU
 Up:∀ g,tU.ownBlock=some g->vU.ownBlock=some g\/W0.heap.size<=g
 ne:∀ g,tT.ownBlock=some g->tU.ownBlock≠some g
 k1:d2=true->d3=false->W0.heap.size<=c1/\c1<w.heap.size/\w.heap[c1]? = some (.cells (eSt s').toArray 31 (0,0))/\tT.ownBlock≠some c1/\tU.ownBlock≠some c1
 k2:d6=true->d7=false->W0.heap.size<=c2/\c2<w.heap.size/\w.heap[c2]? = some (.cells (eLed g).toArray 56 (0,0))/\tT.ownBlock≠some c2/\tU.ownBlock≠some c2
section
variable {B : Nat} {W0 : World} {vT vU : Value} {sts : List St} {leds : List Led} {s' : St} {g : Led} {d2 d3 d6 d7 : Bool} {tT tU : Value} {c1 c2 : Nat} {w : World}
theorem CiM.box1 (h:CiM B W0 vT vU sts leds s' g d2 d3 d6 d7 tT tU c1 c2 w):CiM B W0 vT vU sts leds s' g true d3 d6 d7 tT tU w.heap.size c2 (w.alloc (.cells (eSt s').toArray 31)):=by
 have hb:=alloc_below w (.cells (eSt s').toArray 31)
 have hz:(w.alloc (.cells (eSt s').toArray 31)).heap.size=w.heap.size+1:=by simp
 refine ⟨h.hB,by have:=h.sz;omega,h.bel.trans (hb.mono (by have:=h.sz;have:=h.hB;omega)),fun b h1 h2 h3=>(hb.block b (by have:=h.sz;omega)).trans (h.kept b h1 h2 h3),h.T.below hb,h.T0,h.Tp,h.U.below hb,h.U0,h.Up,h.ne,fun _ _=>⟨h.sz,by omega,heap_alloc_new w _,fun e=>?_,fun e=>?_⟩,fun e1 e2=>?_⟩
 ·have:=(h.T.lt _ e).2;omega
 ·have:=(h.U.lt _ e).2;omega
 ·obtain ⟨q1,q2,q3,q4,q5⟩:=h.k2 e1 e2
  exact ⟨q1,by omega,(hb.block _ q2).trans q3,q4,q5⟩
theorem CiM.box2 (h:CiM B W0 vT vU sts leds s' g d2 d3 d6 d7 tT tU c1 c2 w):CiM B W0 vT vU sts leds s' g d2 d3 true d7 tT tU c1 w.heap.size (w.alloc (.cells (eLed g).toArray 56)):=by
 have hb:=alloc_below w (.cells (eLed g).toArray 56)
 have hz:(w.alloc (.cells (eLed g).toArray 56)).heap.size=w.heap.size+1:=by simp
 refine ⟨h.hB,by have:=h.sz;omega,h.bel.trans (hb.mono (by have:=h.sz;have:=h.hB;omega)),fun b h1 h2 h3=>(hb.block b (by have:=h.sz;omega)).trans (h.kept b h1 h2 h3),h.T.below hb,h.T0,h.Tp,h.U.below hb,h.U0,h.Up,h.ne,fun e1 e2=>?_,fun _ _=>⟨h.sz,by omega,heap_alloc_new w _,fun e=>?_,fun e=>?_⟩⟩
 ·obtain ⟨q1,q2,q3,q4,q5⟩:=h.k1 e1 e2
  exact ⟨q1,by omega,(hb.block _ q2).trans q3,q4,q5⟩
 ·have:=(h.T.lt _ e).2;omega
 ·have:=(h.U.lt _ e).2;omega
theorem CiM.app1 (h:CiM B W0 vT vU sts leds s' g d2 false d6 d7 tT tU c1 c2 w) {new:Value} {w':World} (hR:RowStep B 31 eSt 4 w w' tT new (sts ++ [s'])):CiM B W0 vT vU sts leds s' g d2 true d6 d7 new tU c1 c2 w':=by
 have hzB:B<=w.heap.size:=Nat.le_trans h.hB h.sz
 have hb:=hR.below h.T hzB
 have hz:=hb.size
 have e0:=h.T0 rfl
 have hne':∀ g,tU.ownBlock=some g->tT.ownBlock≠some g:=fun g h1 h2=>h.ne g h2 h1
 have hap:=hR.apart h.U hne'
 refine ⟨h.hB,by have:=h.sz;omega,h.bel.trans hb,fun b h1 h2 h3=>?_,hR.own,fun e=>(Bool.noConfusion e),fun g hg=>?_,hR.other h.U hne',h.U0,h.Up,fun g h1 h2=>hap g h2 h1,fun _ e=>(Bool.noConfusion e),fun e1 e2=>?_⟩
 ·have hlt:b<w.heap.size:=by have:=h.sz;omega
  exact (hR.grown.block b hlt (fun e=>h2 (by rw [<-e0];exact e.symm))).trans (h.kept b h1 h2 h3)
 ·rcases hR.place g hg with h1|h1
  ·exact h.Tp g h1
  ·right;have:=h.sz;omega
 ·obtain ⟨q1,q2,q3,q4,q5⟩:=h.k2 e1 e2
  refine ⟨q1,by omega,(hR.grown.block _ q2 (fun e=>q4 e.symm)).trans q3,fun e=>?_,q5⟩
  rcases hR.place _ e with h1|h1
  ·exact q4 h1
  ·omega
theorem CiM.app2 (h:CiM B W0 vT vU sts leds s' g d2 d3 d6 false tT tU c1 c2 w) {new:Value} {w':World} (hR:RowStep B 56 eLed 3 w w' tU new (leds ++ [g])):CiM B W0 vT vU sts leds s' g d2 d3 d6 true tT new c1 c2 w':=by
 have hzB:B<=w.heap.size:=Nat.le_trans h.hB h.sz
 have hb:=hR.below h.U hzB
 have hz:=hb.size
 have e0:=h.U0 rfl
 have hap:=hR.apart h.T h.ne
 refine ⟨h.hB,by have:=h.sz;omega,h.bel.trans hb,fun b h1 h2 h3=>?_,hR.other h.T h.ne,h.T0,h.Tp,hR.own,fun e=>(Bool.noConfusion e),fun g hg=>?_,hap,fun e1 e2=>?_,fun _ e=>(Bool.noConfusion e)⟩
 ·have hlt:b<w.heap.size:=by have:=h.sz;omega
  exact (hR.grown.block b hlt (fun e=>h3 (by rw [<-e0];exact e.symm))).trans (h.kept b h1 h2 h3)
 ·rcases hR.place g hg with h1|h1
  ·exact h.Up g h1
  ·right;have:=h.sz;omega
 ·obtain ⟨q1,q2,q3,q4,q5⟩:=h.k1 e1 e2
  refine ⟨q1,by omega,(hR.grown.block _ q2 (fun e=>q5 e.symm)).trans q3,q4,fun e=>?_⟩
  rcases hR.place _ e with h1|h1
  ·exact q5 h1
  ·omega
end
def ciF (vT vU:Value) (s':St) (g:Led) (l:Array Bool) (y:Nat->Value) (tT tU:Value) (c1 c2:Nat):Nat->Prop
 | 0=>y 74=vT
 | 1=>y 75=vSt s'
 | 2=>y 76=.slice (some ⟨c1,0,none⟩) 1 1
 | 3=>l.getD 0 false=true/\y 77=tT
 | 4=>y 78=vU
 | 5=>y 79=vLed g
 | 6=>y 80=.slice (some ⟨c2,0,none⟩) 1 1
 | 7=>l.getD 4 false=true/\y 81=tU
 | 8=>l.getD 3 false=true/\y 18=tT
 | 9=>l.getD 7 false=true/\y 19=tU
 | _=>True
def ciS:Nat->Nat
 | 0=>74|1=>75|2=>76|3=>77|4=>78|5=>79|6=>80|7=>81|8=>18|9=>19|_=>99
def ciT (j:Nat):Prop:=j=18\/j=19\/(74<=j/\j<=81)
theorem ciS_ne {a b:Nat} (ha:a<10) (hb:b<10) (h:a≠b):ciS a≠ciS b:=by
 have hd:((List.range 10).all fun a=>(List.range 10).all fun b=>a==b||ciS a != ciS b)=true:=by kernel_rfl
 have:=List.all_eq_true.1 (List.all_eq_true.1 hd a (List.mem_range.2 ha)) b (List.mem_range.2 hb)
 simp [h] at this
 exact this
theorem ciS_T {i:Nat} (hi:i<10):ciT (ciS i):=by
 have:i=0\/i=1\/i=2\/i=3\/i=4\/i=5\/i=6\/i=7\/i=8\/i=9:=by omega
 rcases this with rfl|rfl|rfl|rfl|rfl|rfl|rfl|rfl|rfl|rfl <;> (unfold ciT;decide)
theorem ciF_keep {vT vU:Value} {s':St} {g:Led} {l:Array Bool} {y:Nat->Value} {tT tU tT' tU':Value} {c1 c2 c1' c2':Nat} {i:Nat} (hi:i<10) (hun:l.getD i false=false) (v:Value)
  (h1:i≠3->tT'=tT) (h2:i≠7->tU'=tU) (h3:i≠2->c1'=c1) (h4:i≠6->c2'=c2) :
  ∀ j,j≠i->ciF vT vU s' g l y tT tU c1 c2 j->ciF vT vU s' g (l.setIfInBounds i true) (updV y (ciS i) v) tT' tU' c1' c2' j:=by
 have gg:∀ j,j≠i->(l.setIfInBounds i true).getD j false=l.getD j false:=fun j h=>getD_setF h
 have no:∀ j,l.getD j false=true->i≠j:=fun j h e=>by subst e;rw [hun] at h;cases h
 have hs:∀ j,j<10->j≠i->updV y (ciS i) v (ciS j)=y (ciS j):=by
  intro j h1 h2
  simp only [updV]
  rw [if_neg]
  intro hc
  exact ciS_ne h1 hi h2 hc
 intro j hj h
 match j,hj,h with
 | 0,hj,h=>exact (hs 0 om hj).trans h
 | 1,hj,h=>exact (hs 1 om hj).trans h
 | 2,hj,h=>rw [show ciF vT vU s' g (l.setIfInBounds i true) (updV y (ciS i) v) tT' tU' c1' c2' 2=(updV y (ciS i) v 76=.slice (some ⟨c1',0,none⟩) 1 1) from rfl,h3 (Ne.symm hj)];exact (hs 2 om hj).trans h
 | 3,hj,h=>exact ⟨(gg 0 (Ne.symm (no 0 h.1))).trans h.1,by rw [h1 (Ne.symm hj)];exact (hs 3 om hj).trans h.2⟩
 | 4,hj,h=>exact (hs 4 om hj).trans h
 | 5,hj,h=>exact (hs 5 om hj).trans h
 | 6,hj,h=>rw [h4 (Ne.symm hj)];exact (hs 6 om hj).trans h
 | 7,hj,h=>exact ⟨(gg 4 (Ne.symm (no 4 h.1))).trans h.1,by rw [h2 (Ne.symm hj)];exact (hs 7 om hj).trans h.2⟩
 | 8,hj,h=>exact ⟨(gg 3 (Ne.symm (no 3 h.1))).trans h.1,by rw [h1 (no 3 h.1)];exact (hs 8 om hj).trans h.2⟩
 | 9,hj,h=>exact ⟨(gg 7 (Ne.symm (no 7 h.1))).trans h.1,by rw [h2 (no 7 h.1)];exact (hs 9 om hj).trans h.2⟩
 | n+10,hj,h=>exact trivial
def ciK (l:Array Bool) (j:Nat):Prop:=¬ ciT j\/(j=18/\l.getD 8 false=false)\/(j=19/\l.getD 9 false=false)
def ciI (B:Nat) (W0:World) (vT vU:Value) (sts:List St) (leds:List Led) (s':St) (g:Led) (y0:Nat->Value) (l:Array Bool) (a:Act) (w:World):Prop:=
 l.size=10/\∃ (y:Nat->Value) (tT tU:Value) (c1 c2:Nat),a=crA y/\CiM B W0 vT vU sts leds s' g (l.getD 2 false) (l.getD 3 false) (l.getD 6 false) (l.getD 7 false) tT tU c1 c2 w/\(∀ j,ciK l j->y j=y0 j) /\
  ∀ j,j<10->l.getD j false=true->ciF vT vU s' g l y tT tU c1 c2 j
theorem ci_next {B:Nat} {W0:World} {vT vU:Value} {sts:List St} {leds:List Led} {s':St} {g:Led} {y0 y:Nat->Value} {l:Array Bool} {tT tU tT' tU':Value} {c1 c2 c1' c2':Nat} {w':World} (hz:l.size=10)
  (hy:∀ j,ciK l j->y j=y0 j) (hF:∀ j,j<10->l.getD j false=true->ciF vT vU s' g l y tT tU c1 c2 j) {i:Nat} (hi:i<10) (hun:l.getD i true=false) (v:Value)
  (h1:i≠3->tT'=tT) (h2:i≠7->tU'=tU) (h3:i≠2->c1'=c1) (h4:i≠6->c2'=c2) {a:Act} (ha:a=crA (updV y (ciS i) v))
  (hM:CiM B W0 vT vU sts leds s' g ((l.setIfInBounds i true).getD 2 false) ((l.setIfInBounds i true).getD 3 false) ((l.setIfInBounds i true).getD 6 false) ((l.setIfInBounds i true).getD 7 false) tT' tU' c1' c2' w')
  (hN:ciF vT vU s' g (l.setIfInBounds i true) (updV y (ciS i) v) tT' tU' c1' c2' i):ciI B W0 vT vU sts leds s' g y0 (l.setIfInBounds i true) a w':=by
 have hun':l.getD i false=false:=by rw [<-getD_tf om];exact hun
 refine ⟨by simpa using hz,_,tT',tU',c1',c2',ha,hM,fun j hj=>?_,fun j hj hd=>?_⟩
 ·simp only [updV]
  rcases hj with hj|⟨rfl,hj⟩|⟨rfl,hj⟩
  ·rw [if_neg (fun (e:j=ciS i)=>hj (by rw [e];exact ciS_T hi))]
   exact hy j (.inl hj)
  ·have h8:i≠8:=fun e=>by subst e;rw [getD_setT om] at hj;cases hj
   rw [if_neg (show ¬ (18=ciS i) from fun e=>ciS_ne (a:=8) om hi (Ne.symm h8) e)]
   rw [getD_setF (Ne.symm h8)] at hj
   exact hy 18 (.inr (.inl ⟨rfl,hj⟩))
  ·have h8:i≠9:=fun e=>by subst e;rw [getD_setT om] at hj;cases hj
   rw [if_neg (show ¬ (19=ciS i) from fun e=>ciS_ne (a:=9) om hi (Ne.symm h8) e)]
   rw [getD_setF (Ne.symm h8)] at hj
   exact hy 19 (.inr (.inr ⟨rfl,hj⟩))
 ·by_cases hji:j=i
  ·subst hji;exact hN
  ·rw [getD_setF hji] at hd
   exact ciF_keep hi hun' v h1 h2 h3 h4 j hji (hF j hj hd)
end Go.Proofs.YtoiakijmbghhlaaGreat
namespace Go.Proofs.YtoiakijmbghhlaaGreat
open Go.RowKit Go.Maps
def RunCh (n:Net) (x:St) (ins:List InD) (sts:List St) (leds:List Led):Prop:=
 ∀ j (h:j<sts.length) (h':j<leds.length),∃ q:List Int,q.length=n.Ns.xs.length/\(∀ i,i<n.Ns.xs.length->q.getD i 0=atQ n ins j i)/\CStep n ((x :: sts).getD j x) q sts[j] leds[j]
theorem RunCh.nil (n:Net) (x:St) (ins:List InD):RunCh n x ins [] []:=fun j h=>absurd h (Nat.not_lt_zero j)
theorem RunCh.snoc {n:Net} {x:St} {ins:List InD} {sts:List St} {leds:List Led} (h:RunCh n x ins sts leds) (hl:leds.length=sts.length) {q:List Int} {s:St} {g:Led} (h1:q.length=n.Ns.xs.length)
  (h2:∀ i,i<n.Ns.xs.length->q.getD i 0=atQ n ins sts.length i) (h3:CStep n ((x :: sts).getD sts.length x) q s g):RunCh n x ins (sts ++ [s]) (leds ++ [g]):=by
 intro j hj hj'
 simp only [List.length_append,List.length_cons,List.length_nil,Nat.zero_add] at hj hj'
 by_cases hjl:j<sts.length
 ·obtain ⟨q',k1,k2,k3⟩:=h j hjl om
  refine ⟨q',k1,k2,?_⟩
  rw [List.getElem_append_left hjl,List.getElem_append_left (by omega:j<leds.length)]
  have:(x :: (sts ++ [s])).getD j x=(x :: sts).getD j x:=by
   rw [<-List.cons_append]
   simp only [List.getD,List.getElem?_append_left (show j<(x :: sts).length by simp;omega)]
  rw [this];exact k3
 ·have e:j=sts.length:=by omega
  subst e
  refine ⟨q,h1,h2,?_⟩
  rw [List.getElem_append_right (Nat.le_refl _),List.getElem_append_right (by omega:leds.length<=sts.length)]
  have:(x :: (sts ++ [s])).getD sts.length x=(x :: sts).getD sts.length x:=by
   rw [<-List.cons_append]
   simp only [List.getD,List.getElem?_append_left (show sts.length<(x :: sts).length by simp)]
  rw [this]
  simp only [Nat.sub_self,List.getElem_cons_zero]
  have e2:sts.length-leds.length=0:=by omega
  simp only [e2,List.getElem_cons_zero]
  exact h3
inductive RunOut (w:World) (n:Net) (x:St) (ins:List InD) (steps:Int):Value->Prop
 | no (e:Int):e≠0->RunOut w n x ins steps (.tuple #[.slice none 0 0,.slice none 0 0,.int .i64 e])
 | ok (sts:List St) (leds:List Led) (vT vU:Value):GoodI n ins ins.length->netB n=true->stB n x=true->(sts.length:Int)=steps->leds.length=sts.length->RunCh n x ins sts leds->IsL eSt 4 w vT sts->IsL eLed 3 w vU leds ->
   (∀ s∈sts,gSt w s)->(∀ g∈leds,gInts w g.P)->RunOut w n x ins steps (.tuple #[vT,vU,.int .i64 0])
def AvR {α:Type} (B:Nat) (vT vU:Value) (r:Sl α):Prop:=r.xs≠[]->∀ b off,r.a=some ⟨b,off,none⟩->B<=b/\vT.ownBlock≠some b/\vU.ownBlock≠some b
def AvS (B:Nat) (vT vU:Value) (s:St):Prop:=AvR B vT vU s.V/\AvR B vT vU s.P/\AvR B vT vU s.S/\AvR B vT vU s.O
theorem IsC.near3 {α:Type} {enc:α->List Value} {k:Nat} {w w':World} {a:Option Addr} {xs:List α} (hk:0<k) (h:IsC enc k w a xs) (he:xs≠[]->∀ b off,a=some ⟨b,off,none⟩->b<w.heap.size->w'.heap[b]? = w.heap[b]?):IsC enc k w' a xs:=by
 intro i hi
 obtain ⟨b,off,e,hc⟩:=h i hi
 have hx:xs≠[]:=fun e=>by rw [e] at hi;exact absurd hi (Nat.not_lt_zero _)
 have lt:b<w.heap.size:=World.block_lt_of_cell? w _ (hc 0 hk)
 exact ⟨b,off,e,fun j hj=>(World.cell?_of_block (he hx b off e lt)).trans (hc j hj)⟩
theorem gSl_near {w w':World} {s:St} (h:gSt w s) {P:Nat->Prop} (hP:∀ b,P b->b<w.heap.size->w'.heap[b]? = w.heap[b]?)
  (a1:s.V.xs≠[]->∀ b off,s.V.a=some ⟨b,off,none⟩->P b) (a2:s.P.xs≠[]->∀ b off,s.P.a=some ⟨b,off,none⟩->P b) (a3:s.S.xs≠[]->∀ b off,s.S.a=some ⟨b,off,none⟩->P b) (a4:s.O.xs≠[]->∀ b off,s.O.a=some ⟨b,off,none⟩->P b):gSt w' s:=
 ⟨⟨h.1.1,h.1.2.1,h.1.2.2.1.near3 om (fun x b off e=>hP b (a1 x b off e)),h.1.2.2.2⟩,⟨h.2.1.1,h.2.1.2.1,h.2.1.2.2.1.near3 om (fun x b off e=>hP b (a2 x b off e)),h.2.1.2.2.2⟩,⟨h.2.2.1.1,h.2.2.1.2.1,h.2.2.1.2.2.1.near3 om (fun x b off e=>hP b (a3 x b off e)),h.2.2.1.2.2.2⟩,⟨h.2.2.2.1,h.2.2.2.2.1,h.2.2.2.2.2.1.near3 om (fun x b off e=>hP b (a4 x b off e)),h.2.2.2.2.2.2⟩⟩
structure RunI (B b7 b10:Nat) (w:World) (vT vU:Value) (n:Net) (x:St) (ins:List InD) (sts:List St) (leds:List Led) (xk:St) (k:Nat):Prop where
 T:Own B 31 eSt 4 w vT sts
 U:Own B 56 eLed 3 w vU leds
 ne:∀ g,vT.ownBlock=some g->vU.ownBlock≠some g
 st:∀ s∈sts,gSt w s/\AvS B vT vU s
 le:∀ g∈leds,gInts w g.P/\AvR B vT vU g.P
 cur:gSt w xk
 ls:sts.length=k
 ll:leds.length=k
 ch:RunCh n x ins sts leds
 pv:xk=(x :: sts).getD k x
 k7:w.heap[b7]? = some (.cells (eNet n).toArray 25 (0,0))
 k10:w.heap[b10]? = some (.cells (eSt xk).toArray 31 (0,0))
theorem RunI.next {B b7 b10:Nat} {w W W' w':World} {vT vU:Value} {n:Net} {x:St} {ins:List InD} {sts:List St} {leds:List Led} {xk:St} {k:Nat} (h:RunI B b7 b10 w vT vU n x ins sts leds xk k)
  (hb:Below w.heap.size w W) (hB:B<=w.heap.size) (h7:b7<B) (h10:b10<B) (h710:b7≠b10) {q:List Int} {s':St} {g:Led} (hq1:q.length=n.Ns.xs.length) (hq2:∀ i,i<n.Ns.xs.length->q.getD i 0=atQ n ins k i)
  (hst:CStep n xk q s' g) (hgs:gSt W s') (hgp:gInts W g.P) (hf:FarS w.heap.size s' g)
  (hs':W'.heap.size=W.heap.size) (ho:∀ b,b≠b10->W'.heap[b]? = W.heap[b]?) (h10':W'.heap[b10]? = some (.cells (eSt s').toArray 31 (0,0)))
  {tT tU:Value} {c1 c2:Nat} (hM:CiM B W' vT vU sts leds s' g true true true true tT tU c1 c2 w'):RunI B b7 b10 w' tT tU n x ins (sts ++ [s']) (leds ++ [g]) s' (k+1):=by
 have hTlt:∀ b,vT.ownBlock=some b->b<w.heap.size:=fun b e=>(h.T.lt b e).2
 have hUlt:∀ b,vU.ownBlock=some b->b<w.heap.size:=fun b e=>(h.U.lt b e).2
 have hTge:∀ b,vT.ownBlock=some b->B<=b:=fun b e=>(h.T.lt b e).1
 have hUge:∀ b,vU.ownBlock=some b->B<=b:=fun b e=>(h.U.lt b e).1
 have hsz:=hb.size
 have hk2:∀ b,(B<=b/\vT.ownBlock≠some b/\vU.ownBlock≠some b)->b<W.heap.size->w'.heap[b]? = W.heap[b]?:=fun b h1 h2=>
  (hM.kept b om h1.2.1 h1.2.2).trans (ho b om)
 have hk1:∀ b,(B<=b/\vT.ownBlock≠some b/\vU.ownBlock≠some b)->b<w.heap.size->w'.heap[b]? = w.heap[b]?:=fun b h1 h2=>(hk2 b h1 om).trans (hb.block b h2)
 have hav:∀ b,b<w'.heap.size->b<W.heap.size->(B<=b/\vT.ownBlock≠some b/\vU.ownBlock≠some b)->B<=b/\tT.ownBlock≠some b/\tU.ownBlock≠some b:=fun b _ h1 h2=>by
  refine ⟨h2.1,fun e=>?_,fun e=>?_⟩
  ·rcases hM.Tp b e with h|h
   ·exact h2.2.1 h
   ·omega
  ·rcases hM.Up b e with h|h
   ·exact h2.2.2 h
   ·omega
 have hnew:∀ b,w.heap.size<=b->(B<=b/\vT.ownBlock≠some b/\vU.ownBlock≠some b):=fun b h1=>⟨by omega,fun e=>by have:=hTlt b e;omega,fun e=>by have:=hUlt b e;omega⟩
 have hWw:W.heap.size<=w'.heap.size:=by have:=hM.sz;omega
 have avR:∀ {α:Type} {enc:α->List Value} {V:World} {r:Sl α},V.heap.size<=W.heap.size->IsC enc 1 V r.a r.xs->AvR B vT vU r->AvR B tT tU r:=fun hv hc ha hx b off e=>by
  obtain ⟨b',off',e',hc'⟩:=hc 0 (List.length_pos_iff.2 hx)
  have hbb:b'=b:=by rw [e] at e';simp only [Option.some.injEq,Addr.mk.injEq] at e';exact e'.1.symm
  have lt:=World.block_lt_of_cell? _ _ (hc' 0 om)
  simp only at lt
  rw [hbb] at lt
  exact hav b om om (ha hx b off e)
 have hgs':gSt w' s':=gSl_near hgs hk2 (fun _ b off e=>hnew b (hf.V b off e)) (fun _ b off e=>hnew b (hf.P b off e)) (fun _ b off e=>hnew b (hf.S b off e)) (fun _ b off e=>hnew b (hf.O b off e))
 have hz:W.heap.size<=W.heap.size:=Nat.le_refl _
 refine ⟨hM.T,hM.U,hM.ne,fun s hs=>?_,fun l hl=>?_,hgs',by simp [h.ls],by simp [h.ll],?_,?_,?_,?_⟩
 ·rcases List.mem_append.1 hs with hs|hs
  ·obtain ⟨k1,k2⟩:=h.st s hs
   exact ⟨gSl_near k1 hk1 k2.1 k2.2.1 k2.2.2.1 k2.2.2.2,avR hsz k1.1.2.2.1 k2.1,avR hsz k1.2.1.2.2.1 k2.2.1,avR hsz k1.2.2.1.2.2.1 k2.2.2.1,avR hsz k1.2.2.2.2.2.1 k2.2.2.2⟩
  ·rw [List.mem_singleton] at hs
   subst hs
   exact ⟨hgs',avR hz hgs.1.2.2.1 (fun _ b off e=>hnew b (hf.V b off e)),avR hz hgs.2.1.2.2.1 (fun _ b off e=>hnew b (hf.P b off e)),avR hz hgs.2.2.1.2.2.1 (fun _ b off e=>hnew b (hf.S b off e)),avR hz hgs.2.2.2.2.2.1 (fun _ b off e=>hnew b (hf.O b off e))⟩
 ·rcases List.mem_append.1 hl with hl|hl
  ·obtain ⟨k1,k2⟩:=h.le l hl
   exact ⟨⟨k1.1,k1.2.1,k1.2.2.1.near3 om (fun x b off e=>hk1 b (k2 x b off e)),k1.2.2.2⟩,avR hsz k1.2.2.1 k2⟩
  ·rw [List.mem_singleton] at hl
   subst hl
   exact ⟨⟨hgp.1,hgp.2.1,hgp.2.2.1.near3 om (fun x b off e=>hk2 b (hnew b (hf.G b off e))),hgp.2.2.2⟩,avR hz hgp.2.2.1 (fun _ b off e=>hnew b (hf.G b off e))⟩
 ·have e:=h.pv
  have e1:=h.ls
  refine RunCh.snoc h.ch (by rw [h.ll,h.ls]) hq1 (by rw [e1];exact hq2) ?_
  rw [e1,<-e];exact hst
 ·have e1:=h.ls
  have:(x :: (sts ++ [s'])).getD (k+1) x=s':=by
   subst e1
   simp [List.getD]
  exact this.symm
 ·have hlt:b7<w.heap.size:=by omega
  rw [hM.kept b7 om (fun e=>by have:=hTge _ e;omega) (fun e=>by have:=hUge _ e;omega),ho b7 h710,hb.block b7 hlt]
  exact h.k7
 ·rw [hM.kept b10 om (fun e=>by have:=hTge _ e;omega) (fun e=>by have:=hUge _ e;omega)]
  exact h10'
theorem ledB_ok {n:Net} {s s':St} {q:List Int} {g:Led} (h:CStep n s q s' g) (hN:n.Ns.xs.length<=12) (hL:n.Ls.xs.length<=12):ledB n g=true:=by
 have a:=sg_bd (n:=n.Ns.xs.length) h.qb
 have b:=sg_bd (n:=n.Ns.xs.length) (f:=lostQ n (fun _=>true) q) (b:=1125899906842624) (fun i hi=>by
  have:=h.qb i hi
  unfold lostQ
  split <;> omega)
 have c:=sg_bd (n:=n.Ls.xs.length) (f:=lostP n (fun _=>true) g.P.xs) (b:=4503599627370496) (fun i hi=>by
  have:=h.pb i hi
  unfold lostP
  split <;> omega)
 have e1:=h.gi
 have e2:=h.go
 unfold ledB
 rw [wiB_of (fun x hx=>?_),wiB_of (fun x hx=>?_),decide_eq_true h.pl]
 ·rfl
 ·obtain ⟨i,hi,rfl⟩:=List.mem_iff_getElem.1 hx
  have:=h.pb i (by rw [<-h.pl];exact hi)
  simp only [List.getD,List.getElem?_eq_getElem hi,Option.getD_some] at this
  omega
 ·simp only [List.mem_cons,List.not_mem_nil,or_false] at hx
  have a1:((n.Ns.xs.length:Nat):Int)<=12:=by omega
  have a2:((n.Ls.xs.length:Nat):Int)<=12:=by omega
  rcases hx with rfl|rfl <;> omega
theorem wiQ_ok {n:Net} {s s':St} {q:List Int} {g:Led} (h:CStep n s q s' g):wiB q 1125899906842624=true:=by
 refine wiB_of (fun x hx=>?_)
 obtain ⟨i,hi,rfl⟩:=List.mem_iff_getElem.1 hx
 have:=h.qb i (by rw [<-h.ql];exact hi)
 simpa only [List.getD,List.getElem?_eq_getElem hi,Option.getD_some] using this
theorem bagiven_ok (n:Net) (x y:St) (q:List Int) (vq:Value) (g:Led) (w:World) (hg:gNet w n) (hx:gSt w x) (hy:gSt w y) (hq:IsInts w vq q) (hp:gInts w g.P) (hc:CStep n x q y g) (hN:n.Ns.xs.length<=12) (hL:n.Ls.xs.length<=12) :
  Calls Tryz.prog 61 #[vNet n,vSt x,vSt y,vq,vLed g] w fun e w'=>e=.returned (.int .i64 0)/\Below w.heap.size w w':=by
 obtain ⟨L,hLL⟩:∃ L:List (Array Value×TypeId),L = [((eNet n).toArray,25),((eSt x).toArray,31),((eSt y).toArray,31),((eLed g).toArray,56)]:=⟨_,rfl⟩
 obtain ⟨W,hW⟩:∃ W,W=allocs w L:=⟨_,rfl⟩
 have hbw:Below w.heap.size w W:=by rw [hW];exact allocs_below _ _
 have t0:W.heap[w.heap.size]? = some (.cells (eNet n).toArray 25 (0,0)):=by rw [hW,hLL];exact allocs_at _ w 0 (by simp)
 have t1:W.heap[w.heap.size+1]? = some (.cells (eSt x).toArray 31 (0,0)):=by rw [hW,hLL];exact allocs_at _ w 1 (by simp)
 have t2:W.heap[w.heap.size+2]? = some (.cells (eSt y).toArray 31 (0,0)):=by rw [hW,hLL];exact allocs_at _ w 2 (by simp)
 have t3:W.heap[w.heap.size+3]? = some (.cells (eLed g).toArray 56 (0,0)):=by rw [hW,hLL];exact allocs_at _ w 3 (by simp)
 have HW:Hid (W=(((w.alloc (.cells (eNet n).toArray 25)).alloc (.cells (eSt x).toArray 31)).alloc (.cells (eSt y).toArray 31)).alloc (.cells (eLed g).toArray 56)):=qh (by rw [hW,hLL];rfl)
 have hsz:w.heap.size+3<W.heap.size:=(Array.getElem?_eq_some_iff.1 t3).1
 obtain ⟨aq,cq,rfl,hq1,hq2,hq3⟩:=hq
 have HG:=qh hg
 have HX:=qh hx
 have HY:=qh hy
 have HQ:Hid (IsInts w (.slice aq q.length cq) q):=qh ⟨aq,cq,rfl,hq1,hq2,hq3⟩
 have HP:=qh hp
 have hv1:(netB n&&stB n x)=true:=by rw [hc.net,hc.st];rfl
 have hv2:(netB n&&stB n y)=true:=by rw [hc.net,hc.st'];rfl
 have hv3:=ledB_ok hc hN hL
 have hv4:=wiQ_ok hc
 have hql:=hc.ql
 have q0:W.cell? ⟨w.heap.size,0,none⟩=some (.slice n.Ns.a n.Ns.xs.length n.Ns.cap):=(tank_blk t0 0).trans rfl
 have q1:W.cell? ⟨w.heap.size,1,none⟩=some (.slice n.Ls.a n.Ls.xs.length n.Ls.cap):=(tank_blk t0 1).trans rfl
 have s0:W.cell? ⟨w.heap.size+1,0,none⟩=some (.slice x.V.a x.V.xs.length x.V.cap):=(tank_blk t1 0).trans rfl
 have s1:W.cell? ⟨w.heap.size+1,1,none⟩=some (.slice x.P.a x.P.xs.length x.P.cap):=(tank_blk t1 1).trans rfl
 have s2:W.cell? ⟨w.heap.size+1,2,none⟩=some (.slice x.S.a x.S.xs.length x.S.cap):=(tank_blk t1 2).trans rfl
 have s3:W.cell? ⟨w.heap.size+1,3,none⟩=some (.slice x.O.a x.O.xs.length x.O.cap):=(tank_blk t1 3).trans rfl
 have r0:W.cell? ⟨w.heap.size+2,0,none⟩=some (.slice y.V.a y.V.xs.length y.V.cap):=(tank_blk t2 0).trans rfl
 have r1:W.cell? ⟨w.heap.size+2,1,none⟩=some (.slice y.P.a y.P.xs.length y.P.cap):=(tank_blk t2 1).trans rfl
 have r2:W.cell? ⟨w.heap.size+2,2,none⟩=some (.slice y.S.a y.S.xs.length y.S.cap):=(tank_blk t2 2).trans rfl
 have r3:W.cell? ⟨w.heap.size+2,3,none⟩=some (.slice y.O.a y.O.xs.length y.O.cap):=(tank_blk t2 3).trans rfl
 have g0:W.cell? ⟨w.heap.size+3,0,none⟩=some (.int .i64 g.I):=(tank_blk t3 0).trans rfl
 have g1:W.cell? ⟨w.heap.size+3,1,none⟩=some (.int .i64 g.O):=(tank_blk t3 1).trans rfl
 have g2:W.cell? ⟨w.heap.size+3,2,none⟩=some (.slice g.P.a g.P.xs.length g.P.cap):=(tank_blk t3 2).trans rfl
 have hbr:=hbw
 have HV:=qh (And.intro hv1 (And.intro hv2 (And.intro hv3 (And.intro hv4 hql))))
 obtain ⟨N,hNN⟩:∃ N,N=n.Ns.xs.length:=⟨_,rfl⟩
 have HNN:=qh hNN
 clear hW hLL t0 t1 t2 t3 hg hx hy hp hc hN hL hq1 hq2 hq3 hv1 hv2 hv3 hv4 hql hNN
 simp only [vNet,vSt,vLed,vSl]
 go_enter Tryz.func61,Tryz.ntmps61
 go_upto_region 1 with (fail)
 simp only [Nat.add_assoc,Nat.reduceAdd]
 rw [<-HW.out]
 clear HW
 have k1:=svalid_any n x W (rdNet.mono HG.out hbr) (rdSt.mono HX.out hbr)
 rw [HV.out.1] at k1
 simp only [vNet,vSt,vSl] at k1
 go_wp2_with fail
 refine Calls.to k1 ?_
 rintro e w1 rfl hb1
 replace q0:=cel_lt q0 hb1
 replace q1:=cel_lt q1 hb1
 replace s0:=cel_lt s0 hb1
 replace s1:=cel_lt s1 hb1
 replace s2:=cel_lt s2 hb1
 replace s3:=cel_lt s3 hb1
 replace r0:=cel_lt r0 hb1
 replace r1:=cel_lt r1 hb1
 replace r2:=cel_lt r2 hb1
 replace r3:=cel_lt r3 hb1
 replace g0:=cel_lt g0 hb1
 replace g1:=cel_lt g1 hb1
 replace g2:=cel_lt g2 hb1
 replace hbr:=hbr.trans ((hb1).mono hbr.size)
 clear k1 hb1
 have k1:=svalid_any n y w1 (rdNet.mono HG.out hbr) (rdSt.mono HY.out hbr)
 rw [HV.out.2.1] at k1
 simp only [vNet,vSt,vSl] at k1
 go_wp2_with fail
 refine Calls.to k1 ?_
 rintro e w2 rfl hb1
 replace q0:=cel_lt q0 hb1
 replace q1:=cel_lt q1 hb1
 replace s0:=cel_lt s0 hb1
 replace s1:=cel_lt s1 hb1
 replace s2:=cel_lt s2 hb1
 replace s3:=cel_lt s3 hb1
 replace r0:=cel_lt r0 hb1
 replace r1:=cel_lt r1 hb1
 replace r2:=cel_lt r2 hb1
 replace r3:=cel_lt r3 hb1
 replace g0:=cel_lt g0 hb1
 replace g1:=cel_lt g1 hb1
 replace g2:=cel_lt g2 hb1
 replace hbr:=hbr.trans ((hb1).mono hbr.size)
 clear k1 hb1
 have k1:=bavalid_any n g w2 (rdInts.mono HP.out hbr).isL
 rw [HV.out.2.2.1] at k1
 simp only [vNet,vLed,vSl] at k1
 go_wp2_with fail
 refine Calls.to k1 ?_
 rintro e w3 rfl hb1
 replace q0:=cel_lt q0 hb1
 replace q1:=cel_lt q1 hb1
 replace s0:=cel_lt s0 hb1
 replace s1:=cel_lt s1 hb1
 replace s2:=cel_lt s2 hb1
 replace s3:=cel_lt s3 hb1
 replace r0:=cel_lt r0 hb1
 replace r1:=cel_lt r1 hb1
 replace r2:=cel_lt r2 hb1
 replace r3:=cel_lt r3 hb1
 replace g0:=cel_lt g0 hb1
 replace g1:=cel_lt g1 hb1
 replace g2:=cel_lt g2 hb1
 replace hbr:=hbr.trans ((hb1).mono hbr.size)
 clear k1 hb1
 have i1:(q.length==n.Ns.xs.length)=true:=by rw [HV.out.2.2.2.2];simp
 have i2:((q.length:Int) != (n.Ns.xs.length:Int))=false:=by rw [HV.out.2.2.2.2];simp
 have i3:(q.length != n.Ns.xs.length)=false:=by rw [HV.out.2.2.2.2];simp
 have k1:=bawithin_lit HV.out.2.2.2.1 _ w3 (HQ.out.mono hbr)
 go_wp2_with fail
 refine Calls.to k1 ?_
 rintro e w4 rfl hb1
 replace q0:=cel_lt q0 hb1
 replace q1:=cel_lt q1 hb1
 replace s0:=cel_lt s0 hb1
 replace s1:=cel_lt s1 hb1
 replace s2:=cel_lt s2 hb1
 replace s3:=cel_lt s3 hb1
 replace r0:=cel_lt r0 hb1
 replace r1:=cel_lt r1 hb1
 replace r2:=cel_lt r2 hb1
 replace r3:=cel_lt r3 hb1
 replace g0:=cel_lt g0 hb1
 replace g1:=cel_lt g1 hb1
 replace g2:=cel_lt g2 hb1
 replace hbr:=hbr.trans ((hb1).mono hbr.size)
 clear k1 hb1
 go_wp2_with fail
 go_ret
 exact ⟨rfl,hbr⟩
end Go.Proofs.YtoiakijmbghhlaaGreat
