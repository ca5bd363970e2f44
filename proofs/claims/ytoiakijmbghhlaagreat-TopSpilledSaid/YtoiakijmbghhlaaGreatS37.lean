/- routing.Step, ground: the blocks of its own variables; a state's row of truth values turned. Conditions: none. | rules.Settings. Conditions: the arguments read as data. | network.Node; control.wrong. Conditions: the network is right; the inflows read as data. | control.wrong. Conditions: the network is right; the inflows read as data. | control.at. Conditions: the network is right; the inflows read as data. -/
import Derived.Test.YtoiakijmbghhlaaGreatS30
import Derived.Test.YtoiakijmbghhlaaGreatS35
import Derived.Test.YtoiakijmbghhlaaGreatS36
import Derived.Test.YtoiakijmbghhlaaGreatS25
import Derived.Test.YtoiakijmbghhlaaGreatS26
import Derived.Test.YtoiakijmbghhlaaGreatS14
set_option linter.unusedVariables false
set_option linter.unusedSimpArgs false
set_option maxRecDepth 100000
set_option maxHeartbeats 32000000
namespace Go.Proofs.YtoiakijmbghhlaaGreat
open Go.RowKit
theorem mem_getD {l:List Int} {x:Int} (h:x∈l):∃ i,i<l.length/\l.getD i 0=x:=by
 obtain ⟨i,hi,rfl⟩:=List.mem_iff_getElem.1 h
 exact ⟨i,hi,by simp [List.getD,hi]⟩
theorem mixL.skip {F G:Nat->Int} {n k:Nat} {xs:List Int} (h:mixL F G n k xs) (hk:k<n) (he:F k=G k):mixL F G n (k+1) xs:=by
 refine ⟨h.1,fun i hi=>?_⟩
 rw [h.2 i hi]
 by_cases e:i=k
 ·subst e;rw [if_neg (Nat.lt_irrefl i),if_pos om,he]
 ·by_cases h2:i<k
  ·rw [if_pos h2,if_pos om]
  ·rw [if_neg h2,if_neg om]
structure FarS (base:Nat) (s:St) (g:Led):Prop where
 V:∀ b off,s.V.a=some ⟨b,off,none⟩->base<=b
 P:∀ b off,s.P.a=some ⟨b,off,none⟩->base<=b
 S:∀ b off,s.S.a=some ⟨b,off,none⟩->base<=b
 O:∀ b off,s.O.a=some ⟨b,off,none⟩->base<=b
 G:∀ b off,g.P.a=some ⟨b,off,none⟩->base<=b
inductive StepOut (base:Nat) (w:World) (n:Net) (s:St) (q:List Int):Value->Prop
 | no (e:Int):e≠0->StepOut base w n s q (.tuple #[.agg #[.slice none 0 0,.slice none 0 0,.slice none 0 0,.slice none 0 0],.agg #[.int .i64 0,.int .i64 0,.slice none 0 0],.int .i64 e])
 | ok (s':St) (g:Led):StepR n s q s' g.I g.O g.P.xs->gSt w s'->gInts w g.P->FarS base s' g->StepOut base w n s q (.tuple #[vSt s',vLed g,.int .i64 0])
theorem blk_set {w:World} {b:Nat} {cs:Array Value} {T:TypeId} {z:Nat×Nat} (h:w.heap[b]? = some (.cells cs T z)) (i:Nat) (v:Value):(w.setCell ⟨b,i,none⟩ v).heap[b]? = some (.cells (cs.setIfInBounds i v) T z):=by
 simp [World.setCell,Array.getElem?_modify,h]
theorem setCell_id {w:World} {b i:Nat} {cs:Array Value} {T:TypeId} {z:Nat×Nat} {v:Value} (h:w.heap[b]? = some (.cells cs T z)) (hv:cs[i]? = some v):w.setCell ⟨b,i,none⟩ v=w:=by
 have hh:(w.setCell ⟨b,i,none⟩ v).heap=w.heap:=by
  refine Array.ext_getElem? fun j=>?_
  by_cases e:j=b
  ·subst e
   rw [blk_set h,h]
   obtain ⟨hi,hx⟩:=Array.getElem?_eq_some_iff.1 hv
   have:cs.setIfInBounds i v=cs:=by
    refine Array.ext_getElem? fun k=>?_
    by_cases e2:i=k
    ·subst e2;rw [Array.getElem?_setIfInBounds_self_of_lt hi,hv]
    ·rw [Array.getElem?_setIfInBounds_ne e2]
   rw [this]
  ·exact Below.heap_setCell _ _ _ _ e
 have:(w.setCell ⟨b,i,none⟩ v) = { w with heap:=(w.setCell ⟨b,i,none⟩ v).heap }:=rfl
 rw [this,hh]
theorem blk_far {w:World} {b:Nat} {o:Obj} (h:w.heap[b]? = some o) (a:Addr) (v:Value) (ha:b≠a.block):(w.setCell a v).heap[b]? = some o:=(Below.heap_setCell _ _ _ _ ha).trans h
theorem blk_mono {w w':World} {b:Nat} {o:Obj} (h:w.heap[b]? = some o) (hb:Below w.heap.size w w'):w'.heap[b]? = some o:=
 (hb.block b (Array.getElem?_eq_some_iff.1 h).1).trans h
structure SB (w:World) (b5 b10 b11 b16:Nat) (n:Net) (cg:Array Value):Prop where
 k5:w.heap[b5]? = some (.cells (eNet n).toArray 25 (0,0))
 k10:w.heap[b10]? = some (.cells #[.slice none 0 0,.slice none 0 0,.slice none 0 0,.slice none 0 0] 31 (0,0))
 k11:w.heap[b11]? = some (.cells #[.int .i64 0,.int .i64 0,.slice none 0 0] 56 (0,0))
 k16:w.heap[b16]? = some (.cells cg 56 (0,0))
 d1:b5<b10
 d2:b10<b11
 d3:b11<b16
section
variable {w w' : World} {b5 b10 b11 b16 : Nat} {n : Net} {cg : Array Value}
theorem SB.mono (h:SB w b5 b10 b11 b16 n cg) (hb:Below w.heap.size w w'):SB w' b5 b10 b11 b16 n cg:=⟨blk_mono h.k5 hb,blk_mono h.k10 hb,blk_mono h.k11 hb,blk_mono h.k16 hb,h.d1,h.d2,h.d3⟩
theorem SB.far (h:SB w b5 b10 b11 b16 n cg) (a:Addr) (v:Value) (h1:b11<a.block) (h2:b16≠a.block):SB (w.setCell a v) b5 b10 b11 b16 n cg:=
 ⟨blk_far h.k5 _ _ (by have:=h.d1;have:=h.d2;omega),blk_far h.k10 _ _ (by have:=h.d2;omega),blk_far h.k11 _ _ om,blk_far h.k16 _ _ h2,h.d1,h.d2,h.d3⟩
theorem SB.set (h:SB w b5 b10 b11 b16 n cg) (i:Nat) (v:Value):SB (w.setCell ⟨b16,i,none⟩ v) b5 b10 b11 b16 n (cg.setIfInBounds i v):=
 ⟨blk_far h.k5 _ _ (by have:=h.d1;have:=h.d2;have:=h.d3;show b5≠b16;omega),blk_far h.k10 _ _ (by have:=h.d2;have:=h.d3;show b10≠b16;omega),blk_far h.k11 _ _ (by have:=h.d3;show b11≠b16;omega),blk_set h.k16 i v,h.d1,h.d2,h.d3⟩
theorem SB.kept (h:SB w b5 b10 b11 b16 n cg) (hk:∀ j,j<=b11\/j=b16->j<w.heap.size->w'.heap[j]? = w.heap[j]?):SB w' b5 b10 b11 b16 n cg:=
 ⟨(hk b5 (.inl (by have:=h.d1;have:=h.d2;omega)) (Array.getElem?_eq_some_iff.1 h.k5).1).trans h.k5,(hk b10 (.inl (by have:=h.d2;omega)) (Array.getElem?_eq_some_iff.1 h.k10).1).trans h.k10,(hk b11 (.inl (Nat.le_refl _)) (Array.getElem?_eq_some_iff.1 h.k11).1).trans h.k11,(hk b16 (.inr rfl) (Array.getElem?_eq_some_iff.1 h.k16).1).trans h.k16,h.d1,h.d2,h.d3⟩
end
theorem Sett.set (w W:World) {B:Nat} {uV uP uS uO uH:Value} {vs ps ss:List Int} {os:List Bool} {hs:List Int} (h:Sett w W B uV uP uS uO uH vs ps ss os hs) (a:Addr) (u:Value) (ha:w.heap.size<=a.block) (h0:a.block≠B) (h1:uV.ownBlock≠some a.block) (h2:uP.ownBlock≠some a.block) (h3:uS.ownBlock≠some a.block) (h4:uO.ownBlock≠some a.block) (h5:uH.ownBlock≠some a.block) :
  Sett w (W.setCell a u) B uV uP uS uO uH vs ps ss os hs:=by
 have C:=h.cl
 exact ⟨⟨C.bel.setCell ha u,C.base,cell_far C.c0 _ _ (Ne.symm h0),cell_far C.c1 _ _ (Ne.symm h0),cell_far C.c2 _ _ (Ne.symm h0),cell_far C.c3 _ _ (Ne.symm h0),C.V.far _ _ h1,C.P.far _ _ h2,C.S.far _ _ h3,C.O.far _ _ h4,C.aV,C.aP⟩,h.H.far _ _ h5,h.aH⟩
theorem Sett.setO {w W:World} {B:Nat} {uV uP uS uO uH u:Value} {vs ps ss:List Int} {os os':List Bool} {hs:List Int} (h:Sett w W B uV uP uS uO uH vs ps ss os hs) (hO:Own w.heap.size 4 eBool 1 W u os')
  (hSB:uS.ownBlock≠some B) (hu:∀ g,u.ownBlock=some g->g≠B/\uV.ownBlock≠some g/\uP.ownBlock≠some g/\uH.ownBlock≠some g):Sett w (W.setCell ⟨B,3,none⟩ u) B uV uP uS u uH vs ps ss os' hs:=by
 have C:=h.cl
 have o:∀ (i:Nat) (v:Value),i≠3->W.cell? ⟨B,i,none⟩=some v->(W.setCell ⟨B,3,none⟩ u).cell? ⟨B,i,none⟩=some v:=fun i v hi hv=>(World.cell?_setCell_other _ _ _ _ (by intro e;simp only [Addr.mk.injEq] at e;omega)).trans hv
 refine ⟨⟨C.bel.setCell (p:=⟨B,3,none⟩) C.base u,C.base,o 0 _ om C.c0,o 1 _ om C.c1,o 2 _ om C.c2,World.cell?_setCell_same' _ _ _ (by rw [C.c3];rfl),C.V.far _ _ (fun e=>(C.aV B e).1 rfl),C.P.far _ _ (fun e=>(C.aP B e).1 rfl),C.S.far _ _ hSB,hO.far _ _ (fun e=>(hu B e).1 rfl),?_,?_⟩,h.H.far _ _ (fun e=>(h.aH B e).1 rfl),?_⟩
 ·intro g hg
  have a:=C.aV g hg
  exact ⟨a.1,a.2.1,a.2.2.1,fun e=>(hu g e).2.1 hg⟩
 ·intro g hg
  have a:=C.aP g hg
  exact ⟨a.1,a.2.1,a.2.2.1,fun e=>(hu g e).2.2.1 hg⟩
 ·intro g hg
  have a:=h.aH g hg
  exact ⟨a.1,a.2.1,a.2.2.1,a.2.2.2.1,fun e=>(hu g e).2.2.2 hg⟩
def heldF (n:Net) (h1 ps:List Int) (k i:Nat):Int:=
 h1.getD i 0-sg (fun j=>if frmN n j=i then ps.getD j 0 else 0) k+if isOut n i then 0 else sg (fun j=>if toN n j=i then ps.getD j 0 else 0) k
theorem heldF_zero (n:Net) (h1 ps:List Int) (i:Nat):heldF n h1 ps 0 i=h1.getD i 0:=by
 unfold heldF
 simp only [sg]
 split <;> omega
theorem heldF_bd {n:Net} {h1 ps:List Int} {k i m:Nat} (hk:k<=m) (hm:m<=400) (h0:0<=h1.getD i 0/\h1.getD i 0<=4503599627370496) (hp:∀ j,j<m->0<=ps.getD j 0/\ps.getD j 0<=4503599627370496) : -1801439850948198400<=heldF n h1 ps k i/\heldF n h1 ps k i<=1805943450575568896:=by
 have a:=sg_bd (f:=fun j=>if frmN n j=i then ps.getD j 0 else 0) (b:=4503599627370496) (n:=k) (fun j hj=>by
  have:=hp j om
  split
  ·exact this
  ·omega)
 have b:=sg_bd (f:=fun j=>if toN n j=i then ps.getD j 0 else 0) (b:=4503599627370496) (n:=k) (fun j hj=>by
  have:=hp j om
  split
  ·exact this
  ·omega)
 unfold heldF
 split <;> omega
theorem heldF_out {n:Net} {h1 ps hs:List Int} {k N:Nat} (hl:hs.length=N) (hf:frmN n k<N) (ho:isOut n (toN n k)=true) (hh:∀ i,i<N->hs.getD i 0=heldF n h1 ps k i) :
  ∀ i,i<N->(hs.set (frmN n k) (hs.getD (frmN n k) 0-ps.getD k 0)).getD i 0=heldF n h1 ps (k+1) i:=by
 intro i hi
 rw [getD_set _ _ _ _ om]
 have h:=hh i hi
 unfold heldF at h ⊢
 rw [sg_succ,sg_succ]
 by_cases e:i=frmN n k
 ·subst e
  rw [if_pos rfl,if_pos rfl,h]
  cases hi2:isOut n (frmN n k)
  ·rw [if_neg (show ¬ toN n k=frmN n k from fun e=>by rw [e,hi2] at ho;cases ho)]
   simp;omega
  ·simp;omega
 ·rw [if_neg e,if_neg (Ne.symm e),h]
  cases hi2:isOut n i
  ·rw [if_neg (show ¬ toN n k=i from fun e=>by rw [e,hi2] at ho;cases ho)]
   simp
  ·simp
theorem heldF_in {n:Net} {h1 ps hs:List Int} {k N:Nat} (hl:hs.length=N) (hf:frmN n k<N) (ht:toN n k<N) (ho:isOut n (toN n k)=false) (hh:∀ i,i<N->hs.getD i 0=heldF n h1 ps k i) :
  ∀ i,i<N->((hs.set (frmN n k) (hs.getD (frmN n k) 0-ps.getD k 0)).set (toN n k) ((hs.set (frmN n k) (hs.getD (frmN n k) 0-ps.getD k 0)).getD (toN n k) 0+ps.getD k 0)).getD i 0=heldF n h1 ps (k+1) i:=by
 intro i hi
 rw [getD_set _ _ _ _ (by rw [List.length_set];omega),getD_set _ _ _ _ om,getD_set _ _ _ _ om]
 have h:=hh i hi
 have h2:=hh _ hf
 have h3:=hh _ ht
 unfold heldF at h h2 h3 ⊢
 rw [sg_succ,sg_succ]
 by_cases e:i=toN n k
 ·subst e
  rw [if_pos rfl,if_pos rfl]
  rw [ho] at h ⊢
  by_cases e2:toN n k=frmN n k
  ·rw [if_pos e2,if_pos e2.symm,<-e2,h]
   simp;omega
  ·rw [if_neg e2,if_neg (Ne.symm e2),h]
   simp;omega
 ·rw [if_neg e,if_neg (Ne.symm e)]
  by_cases e2:i=frmN n k
  ·subst e2
   rw [if_pos rfl,if_pos rfl,h]
   cases isOut n (frmN n k)
   ·simp;omega
   ·simp;omega
  ·rw [if_neg e2,if_neg (Ne.symm e2),h]
   cases isOut n i
   ·simp
   ·simp
theorem SetR.i64 {n:Net} {hs vs ps gs:List Int} {b:Bool} {w:World} (h:SetR n hs vs ps gs b) (hn:netB n=true) (hb:∀ i,i<n.Ns.xs.length->-2305843009213693952<=hs.getD i 0/\hs.getD i 0<=2305843009213693952) :
  (∀ x∈vs,gI64 w x)/\(∀ x∈ps,gI64 w x):=by
 have key:∀ i,i<n.Ns.xs.length->-2305843009213693952<=vs.getD i 0/\vs.getD i 0<=2305843009213693952/\-9223372036854775808<=ps.getD i 0/\ps.getD i 0<=9223372036854775807:=fun i hi=>by
  have a:=h.v i hi
  have b:=h.h i hi
  have c:=hb i hi
  have d:=capB_le hn i hi
  have e:=h.p i hi
  split at b <;> omega
 refine ⟨fun x hx=>?_,fun x hx=>?_⟩
 ·obtain ⟨i,hi,rfl⟩:=mem_getD hx
  have:=key i (by rw [<-h.lv];exact hi)
  exact gI64_of (w:=w) om om
 ·obtain ⟨i,hi,rfl⟩:=mem_getD hx
  have:=key i (by rw [<-h.lp];exact hi)
  exact gI64_of (w:=w) om om
theorem LimI.i64 {frm:Nat->Nat} {wt held:Nat->Int} {m i:Nat} {ps:List Int} {w:World} (h:LimI frm wt held m i ps):∀ x∈ps,gI64 w x:=fun x hx=>by
 obtain ⟨i,hi,rfl⟩:=mem_getD hx
 have:=h.bd i (by rw [<-h.len];exact hi)
 exact gI64_of (w:=w) om om
theorem fiveB {b5 b7 b10 b11 w W w4 b14 b16 w8 w9:Nat} (h:b5=w/\b7=w+1/\b10=w+2/\b11=w+3/\b11<W) (h2:b11<w4/\w4<=b14/\b14<b16/\w<=w4/\b16<w8) (h3:b16<w9) :
  b10<w4/\b11<w4/\w<=b10/\w<=b11/\b11<w9/\b10<w9:=by omega
theorem far9 {w w4 b11 b14 b16 w8 w9:Nat} (h2:b11<w4/\w4<=b14/\b14<b16/\w<=w4/\b16<w8) (h3:b16<w9):w<=w9:=by omega
def set7 (w:World) (b10 b11:Nat) (u0 u1 u2 u3 l0 l1 l2:Value):World:=
 ((((((w.setCell ⟨b10,0,none⟩ u0).setCell ⟨b10,1,none⟩ u1).setCell ⟨b10,2,none⟩ u2).setCell ⟨b10,3,none⟩ u3).setCell ⟨b11,0,none⟩ l0).setCell ⟨b11,1,none⟩ l1).setCell ⟨b11,2,none⟩ l2
theorem Own.under7 {α:Type} {W:World} {base:Nat} {e:TypeId} {enc:α->List Value} {k:Nat} {v:Value} {xs:List α} (h:Own base e enc k W v xs) {b10 b11:Nat} (h1:b10<base) (h2:b11<base) (u0 u1 u2 u3 l0 l1 l2:Value):Own base e enc k (set7 W b10 b11 u0 u1 u2 u3 l0 l1 l2) v xs:=
 ((((((h.under (a:=⟨b10,0,none⟩) h1 u0).under (a:=⟨b10,1,none⟩) h1 u1).under (a:=⟨b10,2,none⟩) h1 u2).under (a:=⟨b10,3,none⟩) h1 u3).under (a:=⟨b11,0,none⟩) h2 l0).under (a:=⟨b11,1,none⟩) h2 l1).under (a:=⟨b11,2,none⟩) h2 l2
theorem Below.set7 {w W:World} {B:Nat} (h:Below B w W) {b10 b11:Nat} (h1:B<=b10) (h2:B<=b11) (u0 u1 u2 u3 l0 l1 l2:Value):Below B w (set7 W b10 b11 u0 u1 u2 u3 l0 l1 l2):=
 ((((((h.setCell (p:=⟨b10,0,none⟩) h1 u0).setCell (p:=⟨b10,1,none⟩) h1 u1).setCell (p:=⟨b10,2,none⟩) h1 u2).setCell (p:=⟨b10,3,none⟩) h1 u3).setCell (p:=⟨b11,0,none⟩) h2 l0).setCell (p:=⟨b11,1,none⟩) h2 l1).setCell (p:=⟨b11,2,none⟩) h2 l2
theorem set7_heap (w:World) {b10 b11 b:Nat} (h1:b≠b10) (h2:b≠b11) (u0 u1 u2 u3 l0 l1 l2:Value):(set7 w b10 b11 u0 u1 u2 u3 l0 l1 l2).heap[b]? = w.heap[b]?:=by
 unfold set7
 rw [Below.heap_setCell _ _ _ _ (show b≠(⟨b11,2,none⟩:Addr).block from h2),Below.heap_setCell _ _ _ _ (show b≠(⟨b11,1,none⟩:Addr).block from h2),Below.heap_setCell _ _ _ _ (show b≠(⟨b11,0,none⟩:Addr).block from h2),Below.heap_setCell _ _ _ _ (show b≠(⟨b10,3,none⟩:Addr).block from h1),Below.heap_setCell _ _ _ _ (show b≠(⟨b10,2,none⟩:Addr).block from h1),Below.heap_setCell _ _ _ _ (show b≠(⟨b10,1,none⟩:Addr).block from h1),Below.heap_setCell _ _ _ _ (show b≠(⟨b10,0,none⟩:Addr).block from h1)]
theorem set7_cells {w:World} {b10 b11:Nat} (hne:b10≠b11) (y10:w.heap[b10]? = some (.cells #[.slice none 0 0,.slice none 0 0,.slice none 0 0,.slice none 0 0] 31 (0,0))) (y11:w.heap[b11]? = some (.cells #[.int .i64 0,.int .i64 0,.slice none 0 0] 56 (0,0))) (u0 u1 u2 u3 l0 l1 l2:Value) :
  (set7 w b10 b11 u0 u1 u2 u3 l0 l1 l2).heap[b10]? = some (.cells #[u0,u1,u2,u3] 31 (0,0))/\(set7 w b10 b11 u0 u1 u2 u3 l0 l1 l2).heap[b11]? = some (.cells #[l0,l1,l2] 56 (0,0)):=by
 unfold set7
 constructor
 ·refine blk_far (blk_far (blk_far ?_ _ _ hne) _ _ hne) _ _ hne
  exact blk_set (blk_set (blk_set (blk_set y10 0 u0) 1 u1) 2 u2) 3 u3
 ·have h:((((w.setCell ⟨b10,0,none⟩ u0).setCell ⟨b10,1,none⟩ u1).setCell ⟨b10,2,none⟩ u2).setCell ⟨b10,3,none⟩ u3).heap[b11]? = _:=blk_far (blk_far (blk_far (blk_far y11 ⟨b10,0,none⟩ u0 (Ne.symm hne)) ⟨b10,1,none⟩ u1 (Ne.symm hne)) ⟨b10,2,none⟩ u2 (Ne.symm hne)) ⟨b10,3,none⟩ u3 (Ne.symm hne)
  exact blk_set (blk_set (blk_set h 0 l0) 1 l1) 2 l2
end Go.Proofs.YtoiakijmbghhlaaGreat
namespace Go.Proofs.YtoiakijmbghhlaaGreat
open Go.RowKit Go.Maps
theorem cel_gr {w w':World} {B j:Nat} {v:Value} {row:Option Nat} (hc:w.cell? ⟨B,j,none⟩=some v) (hg:w.grownBy w' row) (hne:row≠some B):w'.cell? ⟨B,j,none⟩=some v:=
 (World.cell?_of_block (hg.block B (lt_of_isSome (a:=⟨B,j,none⟩) (by rw [hc];rfl)) (fun e=>hne e.symm))).trans hc
theorem SetS.upd {w:World} {b n:Nat} {s:ByteArray->Prop} (h:SetS w b n s) (hn:n<maxLen) {k:ByteArray} (hk:k.size<=maxLen) :
  ∃ w',(Instr.mapUpdate 206 (.map (some b)) (.string k) (.bool true)).run Tryz.prog w=.ok () w'/\SetS w' b (n+1) (fun j=>s j\/j=k)/\w.grownBy w' (some b):=by
 obtain ⟨D,hD,hf⟩:=h
 obtain ⟨w',h1,h2,h3⟩:=hD.update kStr undMSB hn (keyS hk) (plainElem_bool undB true)
 exact ⟨w',h1,SetS.put hD.isMap hf h2,h3⟩
structure GoodI (n:Net) (ins:List InD) (k:Nat):Prop where
 known:∀ a (h:a<ins.length),a<k->0<=findNd n.Ns.xs ins[a].N
 apart:∀ a b (ha:a<ins.length) (hb:b<ins.length),b<k->a<b->ins[a].N≠ins[b].N
theorem GoodI.zero (n:Net) (ins:List InD):GoodI n ins 0:=⟨fun a _ h=>absurd h (Nat.not_lt_zero a),fun a b _ _ h=>absurd h (Nat.not_lt_zero b)⟩
def stepQ (n:Net) (k:Nat) (i:Nat) (acc:Int) (x:InD):Int:=if findNd n.Ns.xs x.N=i/\k<x.V.xs.length then x.V.xs.getD k 0 else acc
def atQ (n:Net) (ins:List InD) (k i:Nat):Int:=ins.foldl (stepQ n k i) 0
end Go.Proofs.YtoiakijmbghhlaaGreat
