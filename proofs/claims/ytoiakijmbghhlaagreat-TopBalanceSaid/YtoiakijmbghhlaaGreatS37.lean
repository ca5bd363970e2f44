/- control.Run: the invariant of the region in which one step is made. No function of the program is named. Conditions: none. -/
import Derived.Test.YtoiakijmbghhlaaGreatS36
set_option linter.unusedVariables false
set_option linter.unusedSimpArgs false
set_option maxRecDepth 100000
set_option maxHeartbeats 32000000
namespace Go.Proofs.YtoiakijmbghhlaaGreat
open Go.RowKit
theorem IsC.near2 {α:Type} {enc:α->List Value} {k:Nat} {w w':World} {a:Option Addr} {xs:List α} (hk:0<k) (h:IsC enc k w a xs) {lo:Nat} (hlo:∀ b off,a=some ⟨b,off,none⟩->lo<=b) (he:∀ b,lo<=b->b<w.heap.size->w'.heap[b]? = w.heap[b]?):IsC enc k w' a xs:=by
 intro i hi
 obtain ⟨b,off,e,hc⟩:=h i hi
 have lt:b<w.heap.size:=World.block_lt_of_cell? w _ (hc 0 hk)
 exact ⟨b,off,e,fun j hj=>(World.cell?_of_block (he b (hlo b off e) lt)).trans (hc j hj)⟩
structure StR where
 s:St
 g:Led
 e:Int
abbrev StR.a0 (R:StR):Value:=.slice R.s.V.a R.s.V.xs.length R.s.V.cap
abbrev StR.a1 (R:StR):Value:=.slice R.s.P.a R.s.P.xs.length R.s.P.cap
abbrev StR.a2 (R:StR):Value:=.slice R.s.S.a R.s.S.xs.length R.s.S.cap
abbrev StR.a3 (R:StR):Value:=.slice R.s.O.a R.s.O.xs.length R.s.O.cap
abbrev StR.l0 (R:StR):Value:=.int .i64 R.g.I
abbrev StR.l1 (R:StR):Value:=.int .i64 R.g.O
abbrev StR.l2 (R:StR):Value:=.slice R.g.P.a R.g.P.xs.length R.g.P.cap
abbrev StR.A (R:StR):Value:=.agg #[R.a0,R.a1,R.a2,R.a3]
abbrev StR.L (R:StR):Value:=.agg #[R.l0,R.l1,R.l2]
abbrev StR.V (R:StR):Value:=.tuple #[R.A,R.L,.int .i64 R.e]
def StR.ok (R:StR) (base:Nat) (w:World) (n:Net) (x:St) (q:List Int):Prop:=
 R.e≠0\/(R.e=0/\CStep n x q R.s R.g/\gSt w R.s/\gInts w R.g.P/\FarS base R.s R.g)
theorem CtOut.res {base:Nat} {w:World} {n:Net} {x:St} {q:List Int} {u:Value} (h:CtOut base w n x q u):∃ R:StR,u=R.V/\R.ok base w n x q:=by
 cases h with
 | no e he=>exact ⟨⟨⟨⟨none,0,[]⟩,⟨none,0,[]⟩,⟨none,0,[]⟩,⟨none,0,[]⟩⟩,⟨0,0,⟨none,0,[]⟩⟩,e⟩,rfl,.inl he⟩
 | ok s' g h1 h2 h3 h4=>exact ⟨⟨s',g,0⟩,rfl,.inr ⟨rfl,h1,h2,h3,h4⟩⟩
theorem StR.ok.near {R:StR} {b0 base:Nat} {w w':World} {n:Net} {x:St} {q:List Int} (h:R.ok base w n x q) (hb:b0<=base) (he:∀ b,base<=b->b<w.heap.size->w'.heap[b]? = w.heap[b]?):R.ok b0 w' n x q:=by
 rcases h with h|⟨h0,h3,h4,h5,h6⟩
 ·exact .inl h
 ·refine .inr ⟨h0,h3,⟨⟨h4.1.1,h4.1.2.1,h4.1.2.2.1.near2 om h6.V he,h4.1.2.2.2⟩,⟨h4.2.1.1,h4.2.1.2.1,h4.2.1.2.2.1.near2 om h6.P he,h4.2.1.2.2.2⟩,⟨h4.2.2.1.1,h4.2.2.1.2.1,h4.2.2.1.2.2.1.near2 om h6.S he,h4.2.2.1.2.2.2⟩,⟨h4.2.2.2.1,h4.2.2.2.2.1,h4.2.2.2.2.2.1.near2 om h6.O he,h4.2.2.2.2.2.2⟩⟩,⟨h5.1,h5.2.1,h5.2.2.1.near2 om h6.G he,h5.2.2.2⟩,?_⟩
  exact ⟨fun b off e=>Nat.le_trans hb (h6.V b off e),fun b off e=>Nat.le_trans hb (h6.P b off e),fun b off e=>Nat.le_trans hb (h6.S b off e),fun b off e=>Nat.le_trans hb (h6.O b off e),fun b off e=>Nat.le_trans hb (h6.G b off e)⟩
structure CrC where
 n:Net
 vS:Value
 vR:Value
 x:St
 vI:Value
 k:Int
 sec:Int
 Q:List Int->Prop
structure CrL where
 q:List Int
 R:StR
 b1:Nat
 b2:Nat
abbrev zSt:Array Value:=#[.slice none 0 0,.slice none 0 0,.slice none 0 0,.slice none 0 0]
abbrev zLed:Array Value:=#[.int .i64 0,.int .i64 0,.slice none 0 0]
def crF (C:CrC) (B:Nat) (l:Array Bool) (y:Nat->Value) (E:CrL) (W:World):Nat->Prop
 | 0=>y 57=vNet C.n
 | 1=>y 58=C.vS
 | 2=>y 59=C.vR
 | 3=>y 60=vSt C.x
 | 4=>y 61=vNet C.n
 | 5=>y 62=C.vI
 | 6=>y 63=.int .i64 C.k
 | 7=>C.Q E.q/\(l.getD 9 false=false->IsInts W (y 64) E.q)
 | 8=>y 65=.int .i64 C.sec
 | 9=>l.getD 7 false=true/\y 66=E.R.V/\∃ w8 w9:World,B<=w8.heap.size/\w9.heap.size<=W.heap.size/\E.R.ok w8.heap.size w9 C.n C.x E.q/\(∀ b,w8.heap.size<=b->b<w9.heap.size->W.heap[b]? = w9.heap[b]?)/\(l.getD 14 false=true->E.b1<w8.heap.size\/w9.heap.size<=E.b1)/\(l.getD 15 false=true->E.b2<w8.heap.size\/w9.heap.size<=E.b2)
 | 10=>l.getD 9 false=true/\y 56=E.R.V
 | 11=>l.getD 9 false=true/\y 67=E.R.A
 | 12=>l.getD 9 false=true/\y 68=E.R.L
 | 13=>l.getD 9 false=true/\y 69=.int .i64 E.R.e
 | 14=>y 21=.pointer (some ⟨E.b1,0,none⟩)/\B<=E.b1/\E.b1<W.heap.size/\W.heap[E.b1]? = some (.cells (bif l.getD 16 false then #[E.R.a0,E.R.a1,E.R.a2,E.R.a3] else zSt) 31 (0,0))/\(l.getD 15 false=true->E.b1≠E.b2)/\(l.getD 16 false=true->l.getD 9 false=true)
 | 15=>y 22=.pointer (some ⟨E.b2,0,none⟩)/\B<=E.b2/\E.b2<W.heap.size/\W.heap[E.b2]? = some (.cells (bif l.getD 17 false then #[E.R.l0,E.R.l1,E.R.l2] else zLed) 56 (0,0))/\(l.getD 14 false=true->E.b1≠E.b2)/\(l.getD 17 false=true->l.getD 9 false=true)
 | 16=>l.getD 9 false=true/\l.getD 14 false=true
 | 17=>l.getD 9 false=true/\l.getD 15 false=true
 | 18=>l.getD 9 false=true/\y 23=.int .i64 E.R.e
 | _=>True
def crS:Nat->Nat
 | 0=>57|1=>58|2=>59|3=>60|4=>61|5=>62|6=>63|7=>64|8=>65|9=>66|10=>56|11=>67|12=>68|13=>69|14=>21|15=>22|18=>23|_=>99
theorem crS_ne {a b:Nat} (ha:a<19) (hb:b<19) (h:a≠b) (h1:a≠16) (h2:a≠17):crS a≠crS b:=by
 have hd:((List.range 19).all fun a=>(List.range 19).all fun b=>a==b||a==16||a==17||crS a != crS b)=true:=by kernel_rfl
 have:=List.all_eq_true.1 (List.all_eq_true.1 hd a (List.mem_range.2 ha)) b (List.mem_range.2 hb)
 simp [h,h1,h2] at this
 exact this
def crT (j:Nat):Prop:=j=21\/j=22\/j=23\/(56<=j/\j<=69)
theorem crF_pure {C:CrC} {B:Nat} {l:Array Bool} {y:Nat->Value} {E:CrL} {W:World} {i:Nat} (hi:i≠7/\i≠9/\i≠14/\i≠15/\i≠16/\i≠17) (v:Value) :
  ∀ j,j≠i->crF C B l y E W j->crF C B (l.setIfInBounds i true) (updV y (crS i) v) E W j:=by
 obtain ⟨h7,h9,h14,h15,h16,h17⟩:=hi
 have g:∀ j,j≠i->(l.setIfInBounds i true).getD j false=l.getD j false:=fun j h=>getD_setF h
 have e7:=g 7 (Ne.symm h7)
 have e9:=g 9 (Ne.symm h9)
 have e14:=g 14 (Ne.symm h14)
 have e15:=g 15 (Ne.symm h15)
 have e16:=g 16 (Ne.symm h16)
 have e17:=g 17 (Ne.symm h17)
 intro j hj h
 have hs:∀ j,j<19->j≠i->j≠16->j≠17->updV y (crS i) v (crS j)=y (crS j):=by
  intro j h1 h2 h3 h4
  simp only [updV]
  rw [if_neg]
  intro hc
  have hi18:i<19\/19<=i:=by omega
  rcases hi18 with hi|hi
  ·exact crS_ne h1 hi h2 h3 h4 hc
  ·have hx:crS i=99:=by
    unfold crS
    split <;> first|omega|rfl
   rw [hx] at hc
   have:∀ a,a<19->a≠16->a≠17->crS a≠99:=by decide
   exact this j h1 h3 h4 hc
 match j,hj,h with
 | 0,hj,h=>exact (hs 0 om hj om om).trans h
 | 1,hj,h=>exact (hs 1 om hj om om).trans h
 | 2,hj,h=>exact (hs 2 om hj om om).trans h
 | 3,hj,h=>exact (hs 3 om hj om om).trans h
 | 4,hj,h=>exact (hs 4 om hj om om).trans h
 | 5,hj,h=>exact (hs 5 om hj om om).trans h
 | 6,hj,h=>exact (hs 6 om hj om om).trans h
 | 7,hj,h=>
  have e:updV y (crS i) v 64=y 64:=hs 7 om hj om om
  show _/\_
  rw [e9,e];exact h
 | 8,hj,h=>exact (hs 8 om hj om om).trans h
 | 9,hj,h=>
  have e:updV y (crS i) v 66=y 66:=hs 9 om hj om om
  show _/\_
  rw [e7,e,e14,e15];exact h
 | 10,hj,h=>exact ⟨e9.trans h.1,(hs 10 om hj om om).trans h.2⟩
 | 11,hj,h=>exact ⟨e9.trans h.1,(hs 11 om hj om om).trans h.2⟩
 | 12,hj,h=>exact ⟨e9.trans h.1,(hs 12 om hj om om).trans h.2⟩
 | 13,hj,h=>exact ⟨e9.trans h.1,(hs 13 om hj om om).trans h.2⟩
 | 14,hj,h=>
  have e:updV y (crS i) v 21=y 21:=hs 14 om hj om om
  show _/\_
  rw [e16,e15,e,e9];exact h
 | 15,hj,h=>
  have e:updV y (crS i) v 22=y 22:=hs 15 om hj om om
  show _/\_
  rw [e17,e14,e,e9];exact h
 | 16,hj,h=>exact ⟨e9.trans h.1,e14.trans h.2⟩
 | 17,hj,h=>exact ⟨e9.trans h.1,e15.trans h.2⟩
 | 18,hj,h=>exact ⟨e9.trans h.1,(hs 18 om hj om om).trans h.2⟩
 | n+19,hj,h=>exact trivial
theorem crF_mem {C:CrC} {B:Nat} {l:Array Bool} {y:Nat->Value} {E E':CrL} {W W':World} {i:Nat} (hi:i=7\/i=9\/i=14\/i=15) (hun:l.getD i false=false) (v:Value) (hb:Below W.heap.size W W')
  (hq:i≠7->E'.q=E.q) (hR:i≠9->E'.R=E.R) (h1:i≠14->E'.b1=E.b1) (h2:i≠15->E'.b2=E.b2) (n1:i=14->E'.b1=W.heap.size) (n2:i=15->E'.b2=W.heap.size) :
  ∀ j,j≠i->crF C B l y E W j->crF C B (l.setIfInBounds i true) (updV y (crS i) v) E' W' j:=by
 have g:∀ j,j≠i->(l.setIfInBounds i true).getD j false=l.getD j false:=fun j h=>getD_setF h
 have hz:=hb.size
 intro j hj h
 have hs:∀ j,j<19->j≠i->j≠16->j≠17->updV y (crS i) v (crS j)=y (crS j):=by
  intro j h1 h2 h3 h4
  simp only [updV]
  rw [if_neg]
  intro hc
  exact crS_ne h1 om h2 h3 h4 hc
 have no:∀ j,l.getD j false=true->i≠j:=fun j h e=>by subst e;rw [hun] at h;cases h
 match j,hj,h with
 | 0,hj,h=>exact (hs 0 om hj om om).trans h
 | 1,hj,h=>exact (hs 1 om hj om om).trans h
 | 2,hj,h=>exact (hs 2 om hj om om).trans h
 | 3,hj,h=>exact (hs 3 om hj om om).trans h
 | 4,hj,h=>exact (hs 4 om hj om om).trans h
 | 5,hj,h=>exact (hs 5 om hj om om).trans h
 | 6,hj,h=>exact (hs 6 om hj om om).trans h
 | 7,hj,h=>
  have e:updV y (crS i) v 64=y 64:=hs 7 om hj om om
  obtain ⟨k1,k2⟩:=h
  show _/\_
  rw [e,hq (Ne.symm hj)]
  refine ⟨k1,fun h9=>(k2 ?_).mono hb⟩
  by_cases hi9:i=9
  ·subst hi9;exact hun
  ·rw [g 9 (Ne.symm hi9)] at h9;exact h9
 | 8,hj,h=>exact (hs 8 om hj om om).trans h
 | 9,hj,h=>
  have e:updV y (crS i) v 66=y 66:=hs 9 om hj om om
  obtain ⟨k1,k2,w8,w9,k3,k4,k5,k6,k7,k8⟩:=h
  have i7:=no 7 k1
  have i9:i≠9:=Ne.symm hj
  refine ⟨(g 7 (Ne.symm i7)).trans k1,by rw [e,hR i9];exact k2,w8,w9,k3,by omega,by rw [hR i9,hq i7];exact k5,fun b hb1 hb2=>(hb.block b om).trans (k6 b hb1 hb2),fun h=>?_,fun h=>?_⟩
  ·by_cases hi14:i=14
   ·right;rw [n1 hi14];omega
   ·rw [h1 hi14];rw [g 14 (Ne.symm hi14)] at h;exact k7 h
  ·by_cases hi15:i=15
   ·right;rw [n2 hi15];omega
   ·rw [h2 hi15];rw [g 15 (Ne.symm hi15)] at h;exact k8 h
 | 10,hj,h=>exact ⟨(g 9 (Ne.symm (no 9 h.1))).trans h.1,by rw [hR (no 9 h.1)];exact (hs 10 om hj om om).trans h.2⟩
 | 11,hj,h=>exact ⟨(g 9 (Ne.symm (no 9 h.1))).trans h.1,by rw [hR (no 9 h.1)];exact (hs 11 om hj om om).trans h.2⟩
 | 12,hj,h=>exact ⟨(g 9 (Ne.symm (no 9 h.1))).trans h.1,by rw [hR (no 9 h.1)];exact (hs 12 om hj om om).trans h.2⟩
 | 13,hj,h=>exact ⟨(g 9 (Ne.symm (no 9 h.1))).trans h.1,by rw [hR (no 9 h.1)];exact (hs 13 om hj om om).trans h.2⟩
 | 14,hj,h=>
  have e:updV y (crS i) v 21=y 21:=hs 14 om hj om om
  obtain ⟨k1,k2,k3,k4,k5,k6⟩:=h
  have i14:i≠14:=Ne.symm hj
  have e16:(l.setIfInBounds i true).getD 16 false=l.getD 16 false:=g 16 om
  show _/\_
  rw [e,h1 i14,e16]
  refine ⟨k1,k2,by omega,?_,fun h=>?_,fun h=>?_⟩
  ·rw [hb.block _ k3,k4]
   cases h16:l.getD 16 false
   ·rfl
   ·rw [hR (no 9 (k6 h16))]
  ·by_cases hi15:i=15
   ·rw [n2 hi15];omega
   ·rw [h2 hi15];rw [g 15 (Ne.symm hi15)] at h;exact k5 h
  ·rw [g 9 (Ne.symm (no 9 (k6 h)))];exact k6 h
 | 15,hj,h=>
  have e:updV y (crS i) v 22=y 22:=hs 15 om hj om om
  obtain ⟨k1,k2,k3,k4,k5,k6⟩:=h
  have i15:i≠15:=Ne.symm hj
  have e17:(l.setIfInBounds i true).getD 17 false=l.getD 17 false:=g 17 om
  show _/\_
  rw [e,h2 i15,e17]
  refine ⟨k1,k2,by omega,?_,fun h=>?_,fun h=>?_⟩
  ·rw [hb.block _ k3,k4]
   cases h16:l.getD 17 false
   ·rfl
   ·rw [hR (no 9 (k6 h16))]
  ·by_cases hi14:i=14
   ·rw [n1 hi14];omega
   ·rw [h1 hi14];rw [g 14 (Ne.symm hi14)] at h;exact k5 h
  ·rw [g 9 (Ne.symm (no 9 (k6 h)))];exact k6 h
 | 16,hj,h=>exact ⟨(g 9 (Ne.symm (no 9 h.1))).trans h.1,(g 14 (Ne.symm (no 14 h.2))).trans h.2⟩
 | 17,hj,h=>exact ⟨(g 9 (Ne.symm (no 9 h.1))).trans h.1,(g 15 (Ne.symm (no 15 h.2))).trans h.2⟩
 | 18,hj,h=>exact ⟨(g 9 (Ne.symm (no 9 h.1))).trans h.1,by rw [hR (no 9 h.1)];exact (hs 18 om hj om om).trans h.2⟩
 | n+19,hj,h=>exact trivial
theorem crF_set16 {C:CrC} {B:Nat} {l:Array Bool} {y:Nat->Value} {E:CrL} {W W':World} (hz:l.size=19) (h9:l.getD 9 false=true) (hA:l.getD 14 false=true) (hun:l.getD 16 false=false) (hs:W'.heap.size=W.heap.size) (hh:∀ b,b≠E.b1->W'.heap[b]? = W.heap[b]?)
  (hc:W'.heap[E.b1]? = some (.cells #[E.R.a0,E.R.a1,E.R.a2,E.R.a3] 31 (0,0))) (hall:∀ j,j<19->l.getD j false=true->crF C B l y E W j) :
  ∀ j,j<19->(l.setIfInBounds 16 true).getD j false=true->crF C B (l.setIfInBounds 16 true) y E W' j:=by
 have g:∀ j,j≠16->(l.setIfInBounds 16 true).getD j false=l.getD j false:=fun j h=>getD_setF h
 have gi:(l.setIfInBounds 16 true).getD 16 false=true:=getD_setT om
 have fA:=hall 14 om hA
 intro j hj hd
 by_cases hji:j=16
 ·subst hji
  exact ⟨(g 9 om).trans h9,(g 14 om).trans hA⟩
 rw [g j hji] at hd
 have h:=hall j hj hd
 match j,hji,h with
 | 0,_,h=>exact h
 | 1,_,h=>exact h
 | 2,_,h=>exact h
 | 3,_,h=>exact h
 | 4,_,h=>exact h
 | 5,_,h=>exact h
 | 6,_,h=>exact h
 | 7,_,h=>
  refine ⟨h.1,fun hx=>?_⟩
  rw [g 9 om,h9] at hx;cases hx
 | 8,_,h=>exact h
 | 9,_,h=>
  obtain ⟨k1,k2,w8,w9,k3,k4,k5,k6,k7,k8⟩:=h
  refine ⟨(g 7 om).trans k1,k2,w8,w9,k3,by omega,k5,fun b hb1 hb2=>(hh b ?_).trans (k6 b hb1 hb2),fun h=>k7 ((g 14 om).symm.trans h),fun h=>k8 ((g 15 om).symm.trans h)⟩
  have:=k7 hA
  omega
 | 10,_,h=>exact ⟨(g 9 om).trans h9,h.2⟩
 | 11,_,h=>exact ⟨(g 9 om).trans h9,h.2⟩
 | 12,_,h=>exact ⟨(g 9 om).trans h9,h.2⟩
 | 13,_,h=>exact ⟨(g 9 om).trans h9,h.2⟩
 | 14,_,h=>
  obtain ⟨k1,k2,k3,k4,k5,k6⟩:=h
  refine ⟨k1,k2,by omega,by rw [gi];exact hc,fun h=>k5 ((g 15 om).symm.trans h),fun _=>(g 9 om).trans h9⟩
 | 15,_,h=>
  obtain ⟨k1,k2,k3,k4,k5,k6⟩:=h
  have hne:=k5 hA
  refine ⟨k1,k2,by omega,by rw [hh _ (Ne.symm hne),g 17 om];exact k4,fun h=>k5 ((g 14 om).symm.trans h),fun _=>(g 9 om).trans h9⟩
 | 17,_,h=>exact ⟨(g 9 om).trans h9,(g 15 om).trans h.2⟩
 | 16,h1,h=>exact absurd rfl h1
 | 18,_,h=>exact ⟨(g 9 om).trans h9,h.2⟩
 | n+19,_,h=>exact trivial
theorem crF_set17 {C:CrC} {B:Nat} {l:Array Bool} {y:Nat->Value} {E:CrL} {W W':World} (hz:l.size=19) (h9:l.getD 9 false=true) (hA:l.getD 15 false=true) (hun:l.getD 17 false=false) (hs:W'.heap.size=W.heap.size) (hh:∀ b,b≠E.b2->W'.heap[b]? = W.heap[b]?)
  (hc:W'.heap[E.b2]? = some (.cells #[E.R.l0,E.R.l1,E.R.l2] 56 (0,0))) (hall:∀ j,j<19->l.getD j false=true->crF C B l y E W j) :
  ∀ j,j<19->(l.setIfInBounds 17 true).getD j false=true->crF C B (l.setIfInBounds 17 true) y E W' j:=by
 have g:∀ j,j≠17->(l.setIfInBounds 17 true).getD j false=l.getD j false:=fun j h=>getD_setF h
 have gi:(l.setIfInBounds 17 true).getD 17 false=true:=getD_setT om
 have fA:=hall 15 om hA
 intro j hj hd
 by_cases hji:j=17
 ·subst hji
  exact ⟨(g 9 om).trans h9,(g 15 om).trans hA⟩
 rw [g j hji] at hd
 have h:=hall j hj hd
 match j,hji,h with
 | 0,_,h=>exact h
 | 1,_,h=>exact h
 | 2,_,h=>exact h
 | 3,_,h=>exact h
 | 4,_,h=>exact h
 | 5,_,h=>exact h
 | 6,_,h=>exact h
 | 7,_,h=>
  refine ⟨h.1,fun hx=>?_⟩
  rw [g 9 om,h9] at hx;cases hx
 | 8,_,h=>exact h
 | 9,_,h=>
  obtain ⟨k1,k2,w8,w9,k3,k4,k5,k6,k7,k8⟩:=h
  refine ⟨(g 7 om).trans k1,k2,w8,w9,k3,by omega,k5,fun b hb1 hb2=>(hh b ?_).trans (k6 b hb1 hb2),fun h=>k7 ((g 14 om).symm.trans h),fun h=>k8 ((g 15 om).symm.trans h)⟩
  have:=k8 hA
  omega
 | 10,_,h=>exact ⟨(g 9 om).trans h9,h.2⟩
 | 11,_,h=>exact ⟨(g 9 om).trans h9,h.2⟩
 | 12,_,h=>exact ⟨(g 9 om).trans h9,h.2⟩
 | 13,_,h=>exact ⟨(g 9 om).trans h9,h.2⟩
 | 15,_,h=>
  obtain ⟨k1,k2,k3,k4,k5,k6⟩:=h
  refine ⟨k1,k2,by omega,by rw [gi];exact hc,fun h=>k5 ((g 14 om).symm.trans h),fun _=>(g 9 om).trans h9⟩
 | 14,_,h=>
  obtain ⟨k1,k2,k3,k4,k5,k6⟩:=h
  have hne:=k5 hA
  refine ⟨k1,k2,by omega,by rw [hh _ hne,g 16 om];exact k4,fun h=>k5 ((g 15 om).symm.trans h),fun _=>(g 9 om).trans h9⟩
 | 16,_,h=>exact ⟨(g 9 om).trans h9,(g 14 om).trans h.2⟩
 | 17,h1,h=>exact absurd rfl h1
 | 18,_,h=>exact ⟨(g 9 om).trans h9,h.2⟩
 | n+19,_,h=>exact trivial
abbrev crA (y:Nat->Value):Act:=⟨#[y 0,y 1,y 2,y 3,y 4,y 5,y 6,y 7,y 8,y 9,y 10,y 11,y 12,y 13,y 14,y 15,y 16,y 17,y 18,y 19,y 20,y 21,y 22,y 23,y 24,y 25,y 26,y 27,y 28,y 29,y 30,y 31,y 32,y 33,y 34,y 35,y 36,y 37,y 38,y 39,y 40,y 41,y 42,y 43,y 44,y 45,y 46,y 47,y 48,y 49,y 50,y 51,y 52,y 53,y 54,y 55,y 56,y 57,y 58,y 59,y 60,y 61,y 62,y 63,y 64,y 65,y 66,y 67,y 68,y 69,y 70,y 71,y 72,y 73,y 74,y 75,y 76,y 77,y 78,y 79,y 80,y 81,y 82,y 83,y 84],[]⟩
def crI (C:CrC) (wr:World) (y0:Nat->Value) (l:Array Bool) (a:Act) (W:World):Prop:=
 l.size=19/\∃ (y:Nat->Value) (E:CrL),a=crA y/\Below wr.heap.size wr W/\(∀ j,¬ crT j->y j=y0 j)/\∀ j,j<19->l.getD j false=true->crF C wr.heap.size l y E W j
theorem crS_T {i:Nat} (hi:i<19) (h1:i≠16) (h2:i≠17):crT (crS i):=by
 have:i=0\/i=1\/i=2\/i=3\/i=4\/i=5\/i=6\/i=7\/i=8\/i=9\/i=10\/i=11\/i=12\/i=13\/i=14\/i=15\/i=18:=by omega
 rcases this with rfl|rfl|rfl|rfl|rfl|rfl|rfl|rfl|rfl|rfl|rfl|rfl|rfl|rfl|rfl|rfl|rfl <;> (unfold crT;decide)
theorem cr_pure {C:CrC} {wr:World} {y0 y:Nat->Value} {E:CrL} {l:Array Bool} {W:World} (hz:l.size=19) (hb:Below wr.heap.size wr W) (hy:∀ j,¬ crT j->y j=y0 j) (hF:∀ j,j<19->l.getD j false=true->crF C wr.heap.size l y E W j)
  {i:Nat} (hi:i<19/\i≠7/\i≠9/\i≠14/\i≠15/\i≠16/\i≠17) (v:Value) {a:Act} (ha:a=crA (updV y (crS i) v)) (hN:crF C wr.heap.size (l.setIfInBounds i true) (updV y (crS i) v) E W i):crI C wr y0 (l.setIfInBounds i true) a W:=by
 refine ⟨by simpa using hz,_,E,ha,hb,fun j hj=>?_,fun j hj hd=>?_⟩
 ·simp only [updV]
  rw [if_neg (fun (e:j=crS i)=>hj (by rw [e];exact crS_T hi.1 om om))]
  exact hy j hj
 ·by_cases hji:j=i
  ·subst hji;exact hN
  ·rw [getD_setF hji] at hd
   exact crF_pure hi.2 v j hji (hF j hj hd)
theorem cr_mem {C:CrC} {wr:World} {y0 y:Nat->Value} {E E':CrL} {l:Array Bool} {W W':World} (hz:l.size=19) (hb:Below wr.heap.size wr W) (hy:∀ j,¬ crT j->y j=y0 j) (hF:∀ j,j<19->l.getD j false=true->crF C wr.heap.size l y E W j)
  {i:Nat} (hi:i=7\/i=9\/i=14\/i=15) (hun:l.getD i true=false) (v:Value) (hbW:Below W.heap.size W W')
  (hq:i≠7->E'.q=E.q) (hR:i≠9->E'.R=E.R) (h1:i≠14->E'.b1=E.b1) (h2:i≠15->E'.b2=E.b2) (n1:i=14->E'.b1=W.heap.size) (n2:i=15->E'.b2=W.heap.size)
  {a:Act} (ha:a=crA (updV y (crS i) v)) (hN:crF C wr.heap.size (l.setIfInBounds i true) (updV y (crS i) v) E' W' i):crI C wr y0 (l.setIfInBounds i true) a W':=by
 have hun':l.getD i false=false:=by rw [<-getD_tf om];exact hun
 refine ⟨by simpa using hz,_,E',ha,hb.trans (hbW.mono hb.size),fun j hj=>?_,fun j hj hd=>?_⟩
 ·simp only [updV]
  rw [if_neg (fun (e:j=crS i)=>hj (by rw [e];exact crS_T om om om))]
  exact hy j hj
 ·by_cases hji:j=i
  ·subst hji;exact hN
  ·rw [getD_setF hji] at hd
   exact crF_mem hi hun' v hbW hq hR h1 h2 n1 n2 j hji (hF j hj hd)
def rankB (rk:List Nat) (ops:Array Oper):Bool:=(List.range ops.size).all fun i=>match ops[i]? with|some o=>o.after.all fun e=>!(Region.binds .any e)||(decide (e.on<ops.size)&&decide (rk.getD e.on 0<rk.getD i 0))|none=>true
section
variable {P : Program} {ops : Array Oper} {Q : Exit → Act → World → Prop} {md : Region.Mode}
theorem rankB_spec {rk:List Nat} (h:rankB rk ops=true) {i:Nat} {o:Oper} (ho:ops[i]? = some o) (e:_) (he:e∈o.after) (hbd:Region.binds .any e=true):e.on<ops.size/\rk.getD e.on 0<rk.getD i 0:=by
 have hi:i<ops.size:=(Array.getElem?_eq_some_iff.1 ho).1
 have h1:=List.all_eq_true.1 h i (List.mem_range.2 hi)
 rw [ho] at h1
 simp only at h1
 have h2:=Array.all_eq_true_iff_forall_mem.1 h1 e he
 simpa [hbd] using h2
theorem ready_rk (rk:List Nat) (hb:rankB rk ops=true) {l:Array Bool} (hs:l.size=ops.size) (h:Region.ready .any ops l = []):∀ i,i<ops.size->l.getD i false=true:=by
 suffices H:∀ r i,rk.getD i 0=r->i<ops.size->l.getD i false=true from fun i hi=>H _ i rfl hi
 intro r
 induction r using Nat.strongRecOn with
 | _ r ih=>
  intro i hr hi
  cases hl:l.getD i false with
  | true=>rfl
  | false=>
   exfalso
   have hi':i<l.size:=by omega
   have hm:i∈Region.ready .any ops l:=mem_ready.2 ⟨by simp only [Array.getD,hi',dite_true] at hl ⊢;exact hl,ops[i],by simp [hi],fun e he hbd=>by
    have h:=rankB_spec hb (i:=i) (o:=ops[i]) (by simp [hi]) e he hbd
    exact ih _ (hr ▸ h.2) e.on rfl h.1⟩
   rw [h] at hm
   cases hm
theorem wpAny_rk (I:Array Bool->Act->World->Prop) (hb:∀ l:Array Bool,l.size=ops.size->Region.ready md ops l = []->∀ i,i<ops.size->l.getD i false=true) (hs:∀ l a w,I l a w->l.size=ops.size)
  (step:∀ l a w i o,I l a w->ops[i]? = some o->l.getD i true=false->(∀ e∈o.after,Region.binds md e=true->l.getD e.on false=true)->wpOp P ops Q i (fun a' w'=>I (l.setIfInBounds i true) a' w') a w)
  (fin:∀ l a w,I l a w->(∀ i,i<ops.size->l.getD i false=true)->Q .normal a w) :
  ∀ (fuel:Nat) (l:Array Bool) (a:Act) (w:World),remL ops.size l<=fuel->I l a w->wpAny P md ops Q fuel l a w
 | 0,l,a,w,hr,hI=>by
  have hz:=hs l a w hI
  have hall:∀ i,i<ops.size->l.getD i false=true:=by
   intro i hi
   have h0:remL ops.size l=0:=by omega
   unfold remL at h0
   have h1:=List.countP_eq_zero.1 h0 i (List.mem_range.2 hi)
   have hi':i<l.size:=by omega
   simp only [Array.getD,hi',dite_true] at h1 ⊢
   simpa using h1
  refine ⟨?_,fin l a w hI hall⟩
  cases hrd:Region.ready md ops l with
  | nil=>rfl
  | cons i r=>
   exfalso
   have hm:i∈Region.ready md ops l:=by rw [hrd];exact List.mem_cons_self ..
   obtain ⟨h1,o,ho,_⟩:=mem_ready.1 hm
   have hi:i<ops.size:=(Array.getElem?_eq_some_iff.1 ho).1
   have h2:=hall i hi
   have hi':i<l.size:=by omega
   simp only [Array.getD,hi',dite_true] at h1 h2
   rw [h1] at h2;cases h2
 | fuel+1,l,a,w,hr,hI=>by
  have hz:=hs l a w hI
  refine ⟨fun h=>fin l a w hI (hb l hz h),fun i hi=>?_⟩
  obtain ⟨h1,o,ho,h2⟩:=mem_ready.1 hi
  refine wpOp_mono (fun a' w' h'=>wpAny_rk I hb hs step fin fuel _ a' w' ?_ h') (step l a w i o hI ho h1 h2)
  have hil:i<ops.size:=(Array.getElem?_eq_some_iff.1 ho).1
  have hi':i<l.size:=by omega
  have:remL ops.size (l.setIfInBounds i true)<remL ops.size l:=by
   refine countP_lt _ (fun x _ hx=>?_) ⟨i,List.mem_range.2 hil,by rw [h1];rfl,?_⟩
   ·by_cases hxi:i=x
    ·subst hxi
     simp [Array.getD,hi'] at hx
    ·rw [getD_set_ne true hxi] at hx;exact hx
   ·simp [Array.getD,hi']
  omega
theorem wp_region_rk {id:Nat} {a:Act} {w:World} (I:Array Bool->Act->World->Prop) (hm:P.follows .mixedOrders=true) (rk:List Nat) (hb:rankB rk ops=true) (hs:∀ l a w,I l a w->l.size=ops.size)
  (step:∀ l a w i o,I l a w->ops[i]? = some o->l.getD i true=false->(∀ e∈o.after,Region.binds .any e=true->l.getD e.on false=true)->wpOp P ops Q i (fun a' w'=>I (l.setIfInBounds i true) a' w') a w)
  (fin:∀ l a w,I l a w->(∀ i,i<ops.size->l.getD i false=true)->Q .normal a w)
  (h0:I (Array.replicate ops.size false) a { w with drawn:=w.drawn+1 }):(Code.region id ops true).wp P Q a w:=by
 refine wp_region_any hm (wpAny_rk I (fun l hz h=>ready_rk rk hb hz h) hs step fin _ _ _ _ ?_ h0)
 unfold remL
 exact Nat.le_trans List.countP_le_length (by simp)
end
end Go.Proofs.YtoiakijmbghhlaaGreat
