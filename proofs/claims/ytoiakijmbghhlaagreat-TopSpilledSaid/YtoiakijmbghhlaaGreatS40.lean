/- simulate.Run: the invariant of the region in which a copied state and a ledger are appended. No function of the program is named. Conditions: none. -/
import Derived.Test.YtoiakijmbghhlaaGreatS39
set_option linter.unusedVariables false
set_option linter.unusedSimpArgs false
set_option maxRecDepth 100000
set_option maxHeartbeats 32000000
namespace Go.Proofs.YtoiakijmbghhlaaGreat
open Go.RowKit
theorem IsC.blt {α:Type} {enc:α->List Value} {w:World} {a:Option Addr} {xs:List α} (h:IsC enc 1 w a xs) (hx:xs≠[]) {b off:Nat} (e:a=some ⟨b,off,none⟩):b<w.heap.size:=by
 obtain ⟨b',off',e',hc'⟩:=h 0 (List.length_pos_iff.2 hx)
 have hbb:b'=b:=by rw [e] at e';simp only [Option.some.injEq,Addr.mk.injEq] at e';exact e'.1.symm
 have lt:=World.block_lt_of_cell? _ _ (hc' 0 om)
 simp only at lt
 omega
theorem AvR.step {α:Type} {enc:α->List Value} {B:Nat} {w:World} {tT tU tT' tU':Value} {r:Sl α} (h:AvR B tT tU r) (hc:IsC enc 1 w r.a r.xs)
  (hT:∀ g,tT'.ownBlock=some g->tT.ownBlock=some g\/w.heap.size<=g) (hU:∀ g,tU'.ownBlock=some g->tU.ownBlock=some g\/w.heap.size<=g):AvR B tT' tU' r:=fun hx b off e=>by
 have hlt:=hc.blt hx e
 obtain ⟨h1,h2,h3⟩:=h hx b off e
 refine ⟨h1,fun q=>?_,fun q=>?_⟩
 ·rcases hT b q with k|k
  ·exact h2 k
  ·omega
 ·rcases hU b q with k|k
  ·exact h3 k
  ·omega
theorem AvS.step {B:Nat} {w:World} {tT tU tT' tU':Value} {s:St} (h:AvS B tT tU s) (hg:gSt w s)
  (hT:∀ g,tT'.ownBlock=some g->tT.ownBlock=some g\/w.heap.size<=g) (hU:∀ g,tU'.ownBlock=some g->tU.ownBlock=some g\/w.heap.size<=g):AvS B tT' tU' s:=
 ⟨h.1.step hg.1.2.2.1 hT hU,h.2.1.step hg.2.1.2.2.1 hT hU,h.2.2.1.step hg.2.2.1.2.2.1 hT hU,h.2.2.2.step hg.2.2.2.2.2.1 hT hU⟩
structure CjM (B:Nat) (W0:World) (vT vU:Value) (sts:List St) (leds:List Led) (sc:St) (g:Led) (dc d2 d3 d6 d7:Bool) (tT tU:Value) (c1 c2:Nat) (w:World):Prop where
 m:CiM B W0 vT vU sts leds sc g d2 d3 d6 d7 tT tU c1 c2 w
 cp:dc=true->gSt w sc/\AvS W0.heap.size tT tU sc
section
variable {B : Nat} {W0 : World} {vT vU : Value} {sts : List St} {leds : List Led} {s' sc : St} {g : Led} {dc d2 d3 d6 d7 : Bool} {tT tU : Value} {c1 c2 : Nat} {w : World}
theorem CjM.box1 (h:CjM B W0 vT vU sts leds sc g dc d2 d3 d6 d7 tT tU c1 c2 w):CjM B W0 vT vU sts leds sc g dc true d3 d6 d7 tT tU w.heap.size c2 (w.alloc (.cells (eSt sc).toArray 31)):=
 ⟨h.m.box1,fun e=>⟨rdSt.mono (h.cp e).1 (alloc_below _ _),(h.cp e).2⟩⟩
theorem CjM.box2 (h:CjM B W0 vT vU sts leds sc g dc d2 d3 d6 d7 tT tU c1 c2 w):CjM B W0 vT vU sts leds sc g dc d2 d3 true d7 tT tU c1 w.heap.size (w.alloc (.cells (eLed g).toArray 56)):=
 ⟨h.m.box2,fun e=>⟨rdSt.mono (h.cp e).1 (alloc_below _ _),(h.cp e).2⟩⟩
theorem CjM.call (h:CjM B W0 vT vU sts leds s' g false false false d6 d7 tT tU c1 c2 w) {w':World} (hb:Below w.heap.size w w') (hg:gSt w' sc)
  (hV:∀ b off,sc.V.a=some ⟨b,off,none⟩->w.heap.size<=b) (hP:∀ b off,sc.P.a=some ⟨b,off,none⟩->w.heap.size<=b) (hS:∀ b off,sc.S.a=some ⟨b,off,none⟩->w.heap.size<=b) (hO:∀ b off,sc.O.a=some ⟨b,off,none⟩->w.heap.size<=b) :
  CjM B W0 vT vU sts leds sc g true false false d6 d7 tT tU c1 c2 w':=by
 have hz:=h.m.sz
 have hz':=hb.size
 have av:∀ {α:Type} {r:Sl α},(∀ b off,r.a=some ⟨b,off,none⟩->w.heap.size<=b)->AvR W0.heap.size tT tU r:=fun hr hx b off e=>by
  have hge:=hr b off e
  refine ⟨by omega,fun q=>?_,fun q=>?_⟩
  ·have:=(h.m.T.lt b q).2;omega
  ·have:=(h.m.U.lt b q).2;omega
 refine ⟨⟨h.m.hB,by omega,h.m.bel.trans (hb.mono (by have:=h.m.hB;omega)),fun b h1 h2 h3=>(hb.block b om).trans (h.m.kept b h1 h2 h3),h.m.T.below hb,h.m.T0,h.m.Tp,h.m.U.below hb,h.m.U0,h.m.Up,h.m.ne,fun e=>(Bool.noConfusion e),fun e1 e2=>?_⟩,fun _=>⟨hg,av hV,av hP,av hS,av hO⟩⟩
 obtain ⟨q1,q2,q3,q4,q5⟩:=h.m.k2 e1 e2
 exact ⟨q1,by omega,(hb.block _ q2).trans q3,q4,q5⟩
theorem CjM.app1 (h:CjM B W0 vT vU sts leds sc g dc d2 false d6 d7 tT tU c1 c2 w) {new:Value} {w':World} (hR:RowStep B 31 eSt 4 w w' tT new (sts ++ [sc])):CjM B W0 vT vU sts leds sc g dc d2 true d6 d7 new tU c1 c2 w':=by
 refine ⟨h.m.app1 hR,fun e=>?_⟩
 obtain ⟨k1,k2⟩:=h.cp e
 have hn:∀ b,(tT.ownBlock≠some b/\tU.ownBlock≠some b)->b<w.heap.size->w'.heap[b]? = w.heap[b]?:=fun b hb lt=>hR.grown.block b lt (fun q=>hb.1 q.symm)
 refine ⟨gSl_near k1 hn (fun hx b off e=>(k2.1 hx b off e).2) (fun hx b off e=>(k2.2.1 hx b off e).2) (fun hx b off e=>(k2.2.2.1 hx b off e).2) (fun hx b off e=>(k2.2.2.2 hx b off e).2),k2.step k1 (fun g hg=>hR.place g hg) (fun g hg=>.inl hg)⟩
theorem CjM.app2 (h:CjM B W0 vT vU sts leds sc g dc d2 d3 d6 false tT tU c1 c2 w) {new:Value} {w':World} (hR:RowStep B 56 eLed 3 w w' tU new (leds ++ [g])):CjM B W0 vT vU sts leds sc g dc d2 d3 d6 true tT new c1 c2 w':=by
 refine ⟨h.m.app2 hR,fun e=>?_⟩
 obtain ⟨k1,k2⟩:=h.cp e
 have hn:∀ b,(tT.ownBlock≠some b/\tU.ownBlock≠some b)->b<w.heap.size->w'.heap[b]? = w.heap[b]?:=fun b hb lt=>hR.grown.block b lt (fun q=>hb.2 q.symm)
 refine ⟨gSl_near k1 hn (fun hx b off e=>(k2.1 hx b off e).2) (fun hx b off e=>(k2.2.1 hx b off e).2) (fun hx b off e=>(k2.2.2.1 hx b off e).2) (fun hx b off e=>(k2.2.2.2 hx b off e).2),k2.step k1 (fun g hg=>.inl hg) (fun g hg=>hR.place g hg)⟩
end
def SameSt (a b:St):Prop:=a.V.xs=b.V.xs/\a.P.xs=b.P.xs/\a.S.xs=b.S.xs/\a.O.xs=b.O.xs
def cjF (vT vU:Value) (s':St) (g:Led) (l:Array Bool) (y:Nat->Value) (sc:St) (tT tU:Value) (c1 c2:Nat):Nat->Prop
 | 0=>y 92=vT
 | 1=>y 93=vSt s'
 | 2=>y 94=vSt sc/\SameSt sc s'
 | 3=>l.getD 2 false=true/\y 95=.slice (some ⟨c1,0,none⟩) 1 1
 | 4=>(l.getD 0 false=true/\l.getD 3 false=true)/\y 96=tT
 | 5=>y 97=vU
 | 6=>y 98=vLed g
 | 7=>y 99=.slice (some ⟨c2,0,none⟩) 1 1
 | 8=>l.getD 5 false=true/\y 100=tU
 | 9=>l.getD 4 false=true/\y 19=tT
 | 10=>l.getD 8 false=true/\y 20=tU
 | _=>True
def cjS:Nat->Nat
 | 0=>92|1=>93|2=>94|3=>95|4=>96|5=>97|6=>98|7=>99|8=>100|9=>19|10=>20|_=>199
def cjT (j:Nat):Prop:=j=19\/j=20\/(92<=j/\j<=100)
theorem cjS_ne {a b:Nat} (ha:a<11) (hb:b<11) (h:a≠b):cjS a≠cjS b:=by
 have hd:((List.range 11).all fun a=>(List.range 11).all fun b=>a==b||cjS a != cjS b)=true:=by kernel_rfl
 have:=List.all_eq_true.1 (List.all_eq_true.1 hd a (List.mem_range.2 ha)) b (List.mem_range.2 hb)
 simp [h] at this
 exact this
theorem cjS_T {i:Nat} (hi:i<11):cjT (cjS i):=by
 have:i=0\/i=1\/i=2\/i=3\/i=4\/i=5\/i=6\/i=7\/i=8\/i=9\/i=10:=by omega
 rcases this with rfl|rfl|rfl|rfl|rfl|rfl|rfl|rfl|rfl|rfl|rfl <;> (unfold cjT;decide)
theorem cjF_keep {vT vU:Value} {s':St} {g:Led} {l:Array Bool} {y:Nat->Value} {sc sc':St} {tT tU tT' tU':Value} {c1 c2 c1' c2':Nat} {i:Nat} (hi:i<11) (hun:l.getD i false=false) (v:Value)
  (h0:i≠2->sc'=sc) (h1:i≠4->tT'=tT) (h2:i≠8->tU'=tU) (h3:i≠3->c1'=c1) (h4:i≠7->c2'=c2) :
  ∀ j,j≠i->cjF vT vU s' g l y sc tT tU c1 c2 j->cjF vT vU s' g (l.setIfInBounds i true) (updV y (cjS i) v) sc' tT' tU' c1' c2' j:=by
 have gg:∀ j,j≠i->(l.setIfInBounds i true).getD j false=l.getD j false:=fun j h=>getD_setF h
 have no:∀ j,l.getD j false=true->i≠j:=fun j h e=>by subst e;rw [hun] at h;cases h
 have up:∀ j,l.getD j false=true->(l.setIfInBounds i true).getD j false=true:=fun j h=>(gg j (Ne.symm (no j h))).trans h
 have hs:∀ j,j<11->j≠i->updV y (cjS i) v (cjS j)=y (cjS j):=by
  intro j h1 h2
  simp only [updV]
  rw [if_neg]
  intro hc
  exact cjS_ne h1 hi h2 hc
 intro j hj h
 match j,hj,h with
 | 0,hj,h=>exact (hs 0 om hj).trans h
 | 1,hj,h=>exact (hs 1 om hj).trans h
 | 2,hj,h=>rw [h0 (Ne.symm hj)];exact ⟨(hs 2 om hj).trans h.1,h.2⟩
 | 3,hj,h=>exact ⟨up 2 h.1,by rw [h3 (Ne.symm hj)];exact (hs 3 om hj).trans h.2⟩
 | 4,hj,h=>exact ⟨⟨up 0 h.1.1,up 3 h.1.2⟩,by rw [h1 (Ne.symm hj)];exact (hs 4 om hj).trans h.2⟩
 | 5,hj,h=>exact (hs 5 om hj).trans h
 | 6,hj,h=>exact (hs 6 om hj).trans h
 | 7,hj,h=>rw [show cjF vT vU s' g (l.setIfInBounds i true) (updV y (cjS i) v) sc' tT' tU' c1' c2' 7=(updV y (cjS i) v 99=.slice (some ⟨c2',0,none⟩) 1 1) from rfl,h4 (Ne.symm hj)];exact (hs 7 om hj).trans h
 | 8,hj,h=>exact ⟨up 5 h.1,by rw [h2 (Ne.symm hj)];exact (hs 8 om hj).trans h.2⟩
 | 9,hj,h=>exact ⟨up 4 h.1,by rw [h1 (no 4 h.1)];exact (hs 9 om hj).trans h.2⟩
 | 10,hj,h=>exact ⟨up 8 h.1,by rw [h2 (no 8 h.1)];exact (hs 10 om hj).trans h.2⟩
 | n+11,hj,h=>exact trivial
def cjK (l:Array Bool) (j:Nat):Prop:=¬ cjT j\/(j=19/\l.getD 9 false=false)\/(j=20/\l.getD 10 false=false)
def cjI (A:(Nat->Value)->Act) (B:Nat) (W0:World) (vT vU:Value) (sts:List St) (leds:List Led) (s':St) (g:Led) (y0:Nat->Value) (l:Array Bool) (a:Act) (w:World):Prop:=
 l.size=11/\∃ (y:Nat->Value) (sc:St) (tT tU:Value) (c1 c2:Nat),a=A y/\CjM B W0 vT vU sts leds sc g (l.getD 2 false) (l.getD 3 false) (l.getD 4 false) (l.getD 7 false) (l.getD 8 false) tT tU c1 c2 w/\(∀ j,cjK l j->y j=y0 j) /\
  ∀ j,j<11->l.getD j false=true->cjF vT vU s' g l y sc tT tU c1 c2 j
theorem cj_next {A:(Nat->Value)->Act} {B:Nat} {W0:World} {vT vU:Value} {sts:List St} {leds:List Led} {s' sc sc':St} {g:Led} {y0 y:Nat->Value} {l:Array Bool} {tT tU tT' tU':Value} {c1 c2 c1' c2':Nat} {w':World} (hz:l.size=11)
  (hy:∀ j,cjK l j->y j=y0 j) (hF:∀ j,j<11->l.getD j false=true->cjF vT vU s' g l y sc tT tU c1 c2 j) {i:Nat} (hi:i<11) (hun:l.getD i true=false) (v:Value)
  (h0:i≠2->sc'=sc) (h1:i≠4->tT'=tT) (h2:i≠8->tU'=tU) (h3:i≠3->c1'=c1) (h4:i≠7->c2'=c2) {a:Act} (ha:a=A (updV y (cjS i) v))
  (hM:CjM B W0 vT vU sts leds sc' g ((l.setIfInBounds i true).getD 2 false) ((l.setIfInBounds i true).getD 3 false) ((l.setIfInBounds i true).getD 4 false) ((l.setIfInBounds i true).getD 7 false) ((l.setIfInBounds i true).getD 8 false) tT' tU' c1' c2' w')
  (hN:cjF vT vU s' g (l.setIfInBounds i true) (updV y (cjS i) v) sc' tT' tU' c1' c2' i):cjI A B W0 vT vU sts leds s' g y0 (l.setIfInBounds i true) a w':=by
 have hun':l.getD i false=false:=by rw [<-getD_tf om];exact hun
 refine ⟨by simpa using hz,_,sc',tT',tU',c1',c2',ha,hM,fun j hj=>?_,fun j hj hd=>?_⟩
 ·simp only [updV]
  rcases hj with hj|⟨rfl,hj⟩|⟨rfl,hj⟩
  ·rw [if_neg (fun (e:j=cjS i)=>hj (by rw [e];exact cjS_T hi))]
   exact hy j (.inl hj)
  ·have h8:i≠9:=fun e=>by subst e;rw [getD_setT om] at hj;cases hj
   rw [if_neg (show ¬ (19=cjS i) from fun e=>cjS_ne (a:=9) om hi (Ne.symm h8) e)]
   rw [getD_setF (Ne.symm h8)] at hj
   exact hy 19 (.inr (.inl ⟨rfl,hj⟩))
  ·have h8:i≠10:=fun e=>by subst e;rw [getD_setT om] at hj;cases hj
   rw [if_neg (show ¬ (20=cjS i) from fun e=>cjS_ne (a:=10) om hi (Ne.symm h8) e)]
   rw [getD_setF (Ne.symm h8)] at hj
   exact hy 20 (.inr (.inr ⟨rfl,hj⟩))
 ·by_cases hji:j=i
  ·subst hji;exact hN
  ·rw [getD_setF hji] at hd
   exact cjF_keep hi hun' v h0 h1 h2 h3 h4 j hji (hF j hj hd)
end Go.Proofs.YtoiakijmbghhlaaGreat
