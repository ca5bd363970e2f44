/- The frame of control.Run as a function of its slots. No function of the program is named. Conditions: none. -/
import Derived.Test.YtoiakijmbghhlaaGreatS38
set_option linter.unusedVariables false
set_option linter.unusedSimpArgs false
set_option maxRecDepth 100000
set_option maxHeartbeats 32000000
namespace Go.Proofs.YtoiakijmbghhlaaGreat
open Go.RowKit
theorem getD_setOf {l:Array Bool} {i j:Nat} (hij:j≠i) (h:l.getD j false=true):(l.setIfInBounds i true).getD j false=true:=(getD_setF hij).trans h
theorem set4_far (w:World) {b c:Nat} (h:c≠b) (u0 u1 u2 u3:Value):(set4 w b u0 u1 u2 u3).heap[c]? = w.heap[c]?:=by
 unfold set4
 rw [Below.heap_setCell _ _ _ _ (show c≠(⟨b,3,none⟩:Addr).block from h),Below.heap_setCell _ _ _ _ (show c≠(⟨b,2,none⟩:Addr).block from h),Below.heap_setCell _ _ _ _ (show c≠(⟨b,1,none⟩:Addr).block from h),Below.heap_setCell _ _ _ _ (show c≠(⟨b,0,none⟩:Addr).block from h)]
theorem set4_cells {w:World} {b:Nat} {x0 x1 x2 x3:Value} {T:TypeId} {z:Nat×Nat} (y:w.heap[b]? = some (.cells #[x0,x1,x2,x3] T z)) (u0 u1 u2 u3:Value):(set4 w b u0 u1 u2 u3).heap[b]? = some (.cells #[u0,u1,u2,u3] T z):=by
 unfold set4
 exact blk_set (blk_set (blk_set (blk_set y 0 u0) 1 u1) 2 u2) 3 u3
def set3 (W:World) (B:Nat) (u0 u1 u2:Value):World:=((W.setCell ⟨B,0,none⟩ u0).setCell ⟨B,1,none⟩ u1).setCell ⟨B,2,none⟩ u2
theorem set3_far (w:World) {b c:Nat} (h:c≠b) (u0 u1 u2:Value):(set3 w b u0 u1 u2).heap[c]? = w.heap[c]?:=by
 unfold set3
 rw [Below.heap_setCell _ _ _ _ (show c≠(⟨b,2,none⟩:Addr).block from h),Below.heap_setCell _ _ _ _ (show c≠(⟨b,1,none⟩:Addr).block from h),Below.heap_setCell _ _ _ _ (show c≠(⟨b,0,none⟩:Addr).block from h)]
theorem set3_cells {w:World} {b:Nat} {x0 x1 x2:Value} {T:TypeId} {z:Nat×Nat} (y:w.heap[b]? = some (.cells #[x0,x1,x2] T z)) (u0 u1 u2:Value):(set3 w b u0 u1 u2).heap[b]? = some (.cells #[u0,u1,u2] T z):=by
 unfold set3
 exact blk_set (blk_set (blk_set y 0 u0) 1 u1) 2 u2
theorem set4_size (w:World) (b:Nat) (u0 u1 u2 u3:Value):(set4 w b u0 u1 u2 u3).heap.size=w.heap.size:=by simp [set4,World.setCell]
theorem set3_size (w:World) (b:Nat) (u0 u1 u2:Value):(set3 w b u0 u1 u2).heap.size=w.heap.size:=by simp [set3,World.setCell]
theorem set4_below {B:Nat} {w0 w:World} (h:Below B w0 w) {b:Nat} (hb:B<=b) (u0 u1 u2 u3:Value):Below B w0 (set4 w b u0 u1 u2 u3):=
 (((h.setCell (p:=⟨b,0,none⟩) hb u0).setCell (p:=⟨b,1,none⟩) hb u1).setCell (p:=⟨b,2,none⟩) hb u2).setCell (p:=⟨b,3,none⟩) hb u3
theorem set3_below {B:Nat} {w0 w:World} (h:Below B w0 w) {b:Nat} (hb:B<=b) (u0 u1 u2:Value):Below B w0 (set3 w b u0 u1 u2):=
 ((h.setCell (p:=⟨b,0,none⟩) hb u0).setCell (p:=⟨b,1,none⟩) hb u1).setCell (p:=⟨b,2,none⟩) hb u2
theorem cr_set16 {C:CrC} {wr:World} {y0 y:Nat->Value} {E:CrL} {l:Array Bool} {W:World} (hz:l.size=19) (hb:Below wr.heap.size wr W) (hy:∀ j,¬ crT j->y j=y0 j) (hF:∀ j,j<19->l.getD j false=true->crF C wr.heap.size l y E W j) (hun:l.getD 16 true=false)
  (h9:l.getD 9 false=true) (h14:l.getD 14 false=true) {a:Act} (ha:a=crA y):crI C wr y0 (l.setIfInBounds 16 true) a (set4 W E.b1 E.R.a0 E.R.a1 E.R.a2 E.R.a3):=by
 have hun':l.getD 16 false=false:=by rw [<-getD_tf om];exact hun
 obtain ⟨k1,k2,k3,k4,k5,k6⟩:=hF 14 om h14
 rw [hun'] at k4
 exact ⟨by simpa using hz,y,E,ha,set4_below hb k2 _ _ _ _,hy,crF_set16 hz h9 h14 hun' (set4_size _ _ _ _ _ _) (fun b hb=>set4_far W hb _ _ _ _) (set4_cells k4 _ _ _ _) hF⟩
theorem cr_set17 {C:CrC} {wr:World} {y0 y:Nat->Value} {E:CrL} {l:Array Bool} {W:World} (hz:l.size=19) (hb:Below wr.heap.size wr W) (hy:∀ j,¬ crT j->y j=y0 j) (hF:∀ j,j<19->l.getD j false=true->crF C wr.heap.size l y E W j) (hun:l.getD 17 true=false)
  (h9:l.getD 9 false=true) (h15:l.getD 15 false=true) {a:Act} (ha:a=crA y):crI C wr y0 (l.setIfInBounds 17 true) a (set3 W E.b2 E.R.l0 E.R.l1 E.R.l2):=by
 have hun':l.getD 17 false=false:=by rw [<-getD_tf om];exact hun
 obtain ⟨k1,k2,k3,k4,k5,k6⟩:=hF 15 om h15
 rw [hun'] at k4
 exact ⟨by simpa using hz,y,E,ha,set3_below hb k2 _ _ _,hy,crF_set17 hz h9 h15 hun' (set3_size _ _ _ _ _) (fun b hb=>set3_far W hb _ _ _) (set3_cells k4 _ _ _) hF⟩
theorem cr_box14 {C:CrC} {wr:World} {y0 y:Nat->Value} {E:CrL} {l:Array Bool} {W:World} (hz:l.size=19) (hb:Below wr.heap.size wr W) (hy:∀ j,¬ crT j->y j=y0 j) (hF:∀ j,j<19->l.getD j false=true->crF C wr.heap.size l y E W j) (hun:l.getD 14 true=false)
  {a:Act} (ha:a=crA (updV y 21 (.pointer (some ⟨W.heap.size,0,none⟩)))):crI C wr y0 (l.setIfInBounds 14 true) a (W.alloc (.cells zSt 31)):=by
 have hun':l.getD 14 false=false:=by rw [<-getD_tf om];exact hun
 have hbA:=alloc_below W (.cells zSt 31)
 have h16:l.getD 16 false=false:=by
  cases h:l.getD 16 false
  ·rfl
  ·have:=(hF 16 om h).2;rw [hun'] at this;cases this
 have e16:(l.setIfInBounds 14 true).getD 16 false=l.getD 16 false:=getD_setF om
 have e15:(l.setIfInBounds 14 true).getD 15 false=l.getD 15 false:=getD_setF om
 refine cr_mem hz hb hy hF (i:=14) om hun _ (E':=⟨E.q,E.R,W.heap.size,E.b2⟩) hbA (fun _=>rfl) (fun _=>rfl) (fun h=>absurd rfl h) (fun _=>rfl) (fun _=>rfl) (fun h=>absurd h (by decide)) ha ⟨rfl,hb.size,by simp,?_,fun h=>?_,fun h=>?_⟩
 ·rw [e16,h16];exact heap_alloc_new W _
 ·rw [e15] at h
  have:=(hF 15 om h).2.2.1
  show W.heap.size≠E.b2
  omega
 ·rw [e16,h16] at h;cases h
theorem cr_box15 {C:CrC} {wr:World} {y0 y:Nat->Value} {E:CrL} {l:Array Bool} {W:World} (hz:l.size=19) (hb:Below wr.heap.size wr W) (hy:∀ j,¬ crT j->y j=y0 j) (hF:∀ j,j<19->l.getD j false=true->crF C wr.heap.size l y E W j) (hun:l.getD 15 true=false)
  {a:Act} (ha:a=crA (updV y 22 (.pointer (some ⟨W.heap.size,0,none⟩)))):crI C wr y0 (l.setIfInBounds 15 true) a (W.alloc (.cells zLed 56)):=by
 have hun':l.getD 15 false=false:=by rw [<-getD_tf om];exact hun
 have hbA:=alloc_below W (.cells zLed 56)
 have h16:l.getD 17 false=false:=by
  cases h:l.getD 17 false
  ·rfl
  ·have:=(hF 17 om h).2;rw [hun'] at this;cases this
 have e16:(l.setIfInBounds 15 true).getD 17 false=l.getD 17 false:=getD_setF om
 have e15:(l.setIfInBounds 15 true).getD 14 false=l.getD 14 false:=getD_setF om
 refine cr_mem hz hb hy hF (i:=15) om hun _ (E':=⟨E.q,E.R,E.b1,W.heap.size⟩) hbA (fun _=>rfl) (fun _=>rfl) (fun _=>rfl) (fun h=>absurd rfl h) (fun h=>absurd h (by decide)) (fun _=>rfl) ha ⟨rfl,hb.size,by simp,?_,fun h=>?_,fun h=>?_⟩
 ·rw [e16,h16];exact heap_alloc_new W _
 ·rw [e15] at h
  have:=(hF 14 om h).2.2.1
  show E.b1≠W.heap.size
  omega
 ·rw [e16,h16] at h;cases h
theorem Own.set4' {α:Type} {base:Nat} {e:TypeId} {enc:α->List Value} {k:Nat} {w:World} {v:Value} {xs:List α} (h:Own base e enc k w v xs) {b:Nat} (hne:v.ownBlock≠some b) (u0 u1 u2 u3:Value):Own base e enc k (set4 w b u0 u1 u2 u3) v xs:=
 (((h.set' ⟨b,0,none⟩ u0 hne).set' ⟨b,1,none⟩ u1 hne).set' ⟨b,2,none⟩ u2 hne).set' ⟨b,3,none⟩ u3 hne
theorem ci_start {B:Nat} {W0:World} {vT vU:Value} {sts:List St} {leds:List Led} (s':St) (g:Led) (y0:Nat->Value) (hB:B<=W0.heap.size) (hT:Own B 31 eSt 4 W0 vT sts) (hU:Own B 56 eLed 3 W0 vU leds) (hne:∀ g,vT.ownBlock=some g->vU.ownBlock≠some g) :
  ciI B W0 vT vU sts leds s' g y0 (Array.replicate 10 false) (crA y0) { W0 with drawn:=W0.drawn+1 }:=by
 have hd:∀ j,(Array.replicate 10 false).getD j false=false:=fun j=>by simp [Array.getD]
 have hb:Below W0.heap.size W0 { W0 with drawn:=W0.drawn+1 }:=Below.drew qr
 refine ⟨by simp,y0,vT,vU,0,0,rfl,?_,fun _ _=>rfl,fun j hj h=>?_⟩
 ·rw [hd,hd,hd,hd]
  exact ⟨hB,Nat.le_refl _,hb.mono hB,fun _ _ _ _=>rfl,hT.below hb,fun _=>rfl,fun g hg=>.inl hg,hU.below hb,fun _=>rfl,fun g hg=>.inl hg,hne,fun h=>(Bool.noConfusion h),fun h=>(Bool.noConfusion h)⟩
 ·rw [hd] at h;cases h
section
variable {B : Nat} {W0 : World} {vT vU : Value} {sts : List St} {leds : List Led} {s' : St} {g : Led} {y0 y : Nat → Value} {l : Array Bool} {tT tU : Value} {c1 c2 : Nat} {w : World}
theorem ci_pure (hz:l.size=10) (hM:CiM B W0 vT vU sts leds s' g (l.getD 2 false) (l.getD 3 false) (l.getD 6 false) (l.getD 7 false) tT tU c1 c2 w) (hy:∀ j,ciK l j->y j=y0 j) (hF:∀ j,j<10->l.getD j false=true->ciF vT vU s' g l y tT tU c1 c2 j)
  {i:Nat} (hi:i<10/\i≠2/\i≠3/\i≠6/\i≠7) (hun:l.getD i true=false) (v:Value) {a:Act} (ha:a=crA (updV y (ciS i) v)) (hN:ciF vT vU s' g (l.setIfInBounds i true) (updV y (ciS i) v) tT tU c1 c2 i):ciI B W0 vT vU sts leds s' g y0 (l.setIfInBounds i true) a w:=
 ci_next hz hy hF hi.1 hun v (fun _=>rfl) (fun _=>rfl) (fun _=>rfl) (fun _=>rfl) ha (by rw [getD_setF om,getD_setF om,getD_setF om,getD_setF om];exact hM) hN
theorem ci_box1 (hz:l.size=10) (hM:CiM B W0 vT vU sts leds s' g (l.getD 2 false) (l.getD 3 false) (l.getD 6 false) (l.getD 7 false) tT tU c1 c2 w) (hy:∀ j,ciK l j->y j=y0 j) (hF:∀ j,j<10->l.getD j false=true->ciF vT vU s' g l y tT tU c1 c2 j)
  (hun:l.getD 2 true=false) {a:Act} (ha:a=crA (updV y 76 (.slice (some ⟨w.heap.size,0,none⟩) 1 1))):ciI B W0 vT vU sts leds s' g y0 (l.setIfInBounds 2 true) a (w.alloc (.cells (eSt s').toArray 31)):=
 ci_next hz hy hF (i:=2) om hun _ (fun _=>rfl) (fun _=>rfl) (fun h=>absurd rfl h) (fun _=>rfl) ha (by rw [getD_setT om,getD_setF om,getD_setF om,getD_setF om];exact hM.box1) rfl
theorem ci_box2 (hz:l.size=10) (hM:CiM B W0 vT vU sts leds s' g (l.getD 2 false) (l.getD 3 false) (l.getD 6 false) (l.getD 7 false) tT tU c1 c2 w) (hy:∀ j,ciK l j->y j=y0 j) (hF:∀ j,j<10->l.getD j false=true->ciF vT vU s' g l y tT tU c1 c2 j)
  (hun:l.getD 6 true=false) {a:Act} (ha:a=crA (updV y 80 (.slice (some ⟨w.heap.size,0,none⟩) 1 1))):ciI B W0 vT vU sts leds s' g y0 (l.setIfInBounds 6 true) a (w.alloc (.cells (eLed g).toArray 56)):=
 ci_next hz hy hF (i:=6) om hun _ (fun _=>rfl) (fun _=>rfl) (fun _=>rfl) (fun h=>absurd rfl h) ha (by rw [getD_setT om,getD_setF om,getD_setF om,getD_setF om];exact hM.box2) rfl
theorem ci_app1 (h0:l.getD 0 false=true) (hz:l.size=10) (hM:CiM B W0 vT vU sts leds s' g (l.getD 2 false) (l.getD 3 false) (l.getD 6 false) (l.getD 7 false) tT tU c1 c2 w) (hy:∀ j,ciK l j->y j=y0 j) (hF:∀ j,j<10->l.getD j false=true->ciF vT vU s' g l y tT tU c1 c2 j)
  (hun:l.getD 3 true=false) {new:Value} {w':World} (hR:RowStep B 31 eSt 4 w w' tT new (sts ++ [s'])) {a:Act} (ha:a=crA (updV y 77 new)):ciI B W0 vT vU sts leds s' g y0 (l.setIfInBounds 3 true) a w':=by
 have h3:l.getD 3 false=false:=by rw [<-getD_tf om];exact hun
 rw [h3] at hM
 exact ci_next hz hy hF (i:=3) om hun _ (fun h=>absurd rfl h) (fun _=>rfl) (fun _=>rfl) (fun _=>rfl) ha (by rw [getD_setT om,getD_setF om,getD_setF om,getD_setF om];exact hM.app1 hR) ⟨getD_setOf om h0,rfl⟩
theorem ci_app2 (h0:l.getD 4 false=true) (hz:l.size=10) (hM:CiM B W0 vT vU sts leds s' g (l.getD 2 false) (l.getD 3 false) (l.getD 6 false) (l.getD 7 false) tT tU c1 c2 w) (hy:∀ j,ciK l j->y j=y0 j) (hF:∀ j,j<10->l.getD j false=true->ciF vT vU s' g l y tT tU c1 c2 j)
  (hun:l.getD 7 true=false) {new:Value} {w':World} (hR:RowStep B 56 eLed 3 w w' tU new (leds ++ [g])) {a:Act} (ha:a=crA (updV y 81 new)):ciI B W0 vT vU sts leds s' g y0 (l.setIfInBounds 7 true) a w':=by
 have h3:l.getD 7 false=false:=by rw [<-getD_tf om];exact hun
 rw [h3] at hM
 exact ci_next hz hy hF (i:=7) om hun _ (fun _=>rfl) (fun h=>absurd rfl h) (fun _=>rfl) (fun _=>rfl) ha (by rw [getD_setT om,getD_setF om,getD_setF om,getD_setF om];exact hM.app2 hR) ⟨getD_setOf om h0,rfl⟩
end
def yOf (a:Act):Nat->Value:=fun j=>a.tmps.getD j undef
theorem wp_y0 {P:Program} {c:Code} {Q:Exit->Act->World->Prop} {a:Act} {w:World} (hz:a=crA (yOf a)) (h:∀ y0,a=crA y0->c.wp P Q (crA y0) w):c.wp P Q a w:=by
 rw [hz];exact h _ hz
theorem cr_fin {v0 v1 v2 v3 v4 v5 v6 v7 v8 v9 v10 v11 v12 v13 v14 v15 v16 v17 v18 v19 v20 v21 v22 v23 v24 v25 v26 v27 v28 v29 v30 v31 v32 v33 v34 v35 v36 v37 v38 v39 v40 v41 v42 v43 v44 v45 v46 v47 v48 v49 v50 v51 v52 v53 v54 v55 v56 v57 v58 v59 v60 v61 v62 v63 v64 v65 v66 v67 v68 v69 v70 v71 v72 v73 v74 v75 v76 v77 v78 v79 v80 v81 v82 v83 v84:Value} {y0 y:Nat->Value} (ha:(⟨#[v0,v1,v2,v3,v4,v5,v6,v7,v8,v9,v10,v11,v12,v13,v14,v15,v16,v17,v18,v19,v20,v21,v22,v23,v24,v25,v26,v27,v28,v29,v30,v31,v32,v33,v34,v35,v36,v37,v38,v39,v40,v41,v42,v43,v44,v45,v46,v47,v48,v49,v50,v51,v52,v53,v54,v55,v56,v57,v58,v59,v60,v61,v62,v63,v64,v65,v66,v67,v68,v69,v70,v71,v72,v73,v74,v75,v76,v77,v78,v79,v80,v81,v82,v83,v84],[]⟩:Act)=crA y0) (hy:∀ j,¬ crT j->y j=y0 j):crA y=⟨#[v0,v1,v2,v3,v4,v5,v6,v7,v8,v9,v10,v11,v12,v13,v14,v15,v16,v17,v18,v19,v20,y 21,y 22,y 23,v24,v25,v26,v27,v28,v29,v30,v31,v32,v33,v34,v35,v36,v37,v38,v39,v40,v41,v42,v43,v44,v45,v46,v47,v48,v49,v50,v51,v52,v53,v54,v55,y 56,y 57,y 58,y 59,y 60,y 61,y 62,y 63,y 64,y 65,y 66,y 67,y 68,y 69,v70,v71,v72,v73,v74,v75,v76,v77,v78,v79,v80,v81,v82,v83,v84],[]⟩:=by
 have h:∀ j,(j==21||j==22||j==23||j==56||j==57||j==58||j==59||j==60||j==61||j==62||j==63||j==64||j==65||j==66||j==67||j==68||j==69)=false->y j=y0 j:=fun j hj=>hy j (by
  intro h
  unfold crT at h
  simp only [Bool.or_eq_false_iff,beq_eq_false_iff_ne] at hj
  omega)
 have e0:y 0=v0:=(h 0 rfl).trans (congrArg (fun a:Act=>a.tmps.getD 0 undef) ha).symm
 have e1:y 1=v1:=(h 1 rfl).trans (congrArg (fun a:Act=>a.tmps.getD 1 undef) ha).symm
 have e2:y 2=v2:=(h 2 rfl).trans (congrArg (fun a:Act=>a.tmps.getD 2 undef) ha).symm
 have e3:y 3=v3:=(h 3 rfl).trans (congrArg (fun a:Act=>a.tmps.getD 3 undef) ha).symm
 have e4:y 4=v4:=(h 4 rfl).trans (congrArg (fun a:Act=>a.tmps.getD 4 undef) ha).symm
 have e5:y 5=v5:=(h 5 rfl).trans (congrArg (fun a:Act=>a.tmps.getD 5 undef) ha).symm
 have e6:y 6=v6:=(h 6 rfl).trans (congrArg (fun a:Act=>a.tmps.getD 6 undef) ha).symm
 have e7:y 7=v7:=(h 7 rfl).trans (congrArg (fun a:Act=>a.tmps.getD 7 undef) ha).symm
 have e8:y 8=v8:=(h 8 rfl).trans (congrArg (fun a:Act=>a.tmps.getD 8 undef) ha).symm
 have e9:y 9=v9:=(h 9 rfl).trans (congrArg (fun a:Act=>a.tmps.getD 9 undef) ha).symm
 have e10:y 10=v10:=(h 10 rfl).trans (congrArg (fun a:Act=>a.tmps.getD 10 undef) ha).symm
 have e11:y 11=v11:=(h 11 rfl).trans (congrArg (fun a:Act=>a.tmps.getD 11 undef) ha).symm
 have e12:y 12=v12:=(h 12 rfl).trans (congrArg (fun a:Act=>a.tmps.getD 12 undef) ha).symm
 have e13:y 13=v13:=(h 13 rfl).trans (congrArg (fun a:Act=>a.tmps.getD 13 undef) ha).symm
 have e14:y 14=v14:=(h 14 rfl).trans (congrArg (fun a:Act=>a.tmps.getD 14 undef) ha).symm
 have e15:y 15=v15:=(h 15 rfl).trans (congrArg (fun a:Act=>a.tmps.getD 15 undef) ha).symm
 have e16:y 16=v16:=(h 16 rfl).trans (congrArg (fun a:Act=>a.tmps.getD 16 undef) ha).symm
 have e17:y 17=v17:=(h 17 rfl).trans (congrArg (fun a:Act=>a.tmps.getD 17 undef) ha).symm
 have e18:y 18=v18:=(h 18 rfl).trans (congrArg (fun a:Act=>a.tmps.getD 18 undef) ha).symm
 have e19:y 19=v19:=(h 19 rfl).trans (congrArg (fun a:Act=>a.tmps.getD 19 undef) ha).symm
 have e20:y 20=v20:=(h 20 rfl).trans (congrArg (fun a:Act=>a.tmps.getD 20 undef) ha).symm
 have e24:y 24=v24:=(h 24 rfl).trans (congrArg (fun a:Act=>a.tmps.getD 24 undef) ha).symm
 have e25:y 25=v25:=(h 25 rfl).trans (congrArg (fun a:Act=>a.tmps.getD 25 undef) ha).symm
 have e26:y 26=v26:=(h 26 rfl).trans (congrArg (fun a:Act=>a.tmps.getD 26 undef) ha).symm
 have e27:y 27=v27:=(h 27 rfl).trans (congrArg (fun a:Act=>a.tmps.getD 27 undef) ha).symm
 have e28:y 28=v28:=(h 28 rfl).trans (congrArg (fun a:Act=>a.tmps.getD 28 undef) ha).symm
 have e29:y 29=v29:=(h 29 rfl).trans (congrArg (fun a:Act=>a.tmps.getD 29 undef) ha).symm
 have e30:y 30=v30:=(h 30 rfl).trans (congrArg (fun a:Act=>a.tmps.getD 30 undef) ha).symm
 have e31:y 31=v31:=(h 31 rfl).trans (congrArg (fun a:Act=>a.tmps.getD 31 undef) ha).symm
 have e32:y 32=v32:=(h 32 rfl).trans (congrArg (fun a:Act=>a.tmps.getD 32 undef) ha).symm
 have e33:y 33=v33:=(h 33 rfl).trans (congrArg (fun a:Act=>a.tmps.getD 33 undef) ha).symm
 have e34:y 34=v34:=(h 34 rfl).trans (congrArg (fun a:Act=>a.tmps.getD 34 undef) ha).symm
 have e35:y 35=v35:=(h 35 rfl).trans (congrArg (fun a:Act=>a.tmps.getD 35 undef) ha).symm
 have e36:y 36=v36:=(h 36 rfl).trans (congrArg (fun a:Act=>a.tmps.getD 36 undef) ha).symm
 have e37:y 37=v37:=(h 37 rfl).trans (congrArg (fun a:Act=>a.tmps.getD 37 undef) ha).symm
 have e38:y 38=v38:=(h 38 rfl).trans (congrArg (fun a:Act=>a.tmps.getD 38 undef) ha).symm
 have e39:y 39=v39:=(h 39 rfl).trans (congrArg (fun a:Act=>a.tmps.getD 39 undef) ha).symm
 have e40:y 40=v40:=(h 40 rfl).trans (congrArg (fun a:Act=>a.tmps.getD 40 undef) ha).symm
 have e41:y 41=v41:=(h 41 rfl).trans (congrArg (fun a:Act=>a.tmps.getD 41 undef) ha).symm
 have e42:y 42=v42:=(h 42 rfl).trans (congrArg (fun a:Act=>a.tmps.getD 42 undef) ha).symm
 have e43:y 43=v43:=(h 43 rfl).trans (congrArg (fun a:Act=>a.tmps.getD 43 undef) ha).symm
 have e44:y 44=v44:=(h 44 rfl).trans (congrArg (fun a:Act=>a.tmps.getD 44 undef) ha).symm
 have e45:y 45=v45:=(h 45 rfl).trans (congrArg (fun a:Act=>a.tmps.getD 45 undef) ha).symm
 have e46:y 46=v46:=(h 46 rfl).trans (congrArg (fun a:Act=>a.tmps.getD 46 undef) ha).symm
 have e47:y 47=v47:=(h 47 rfl).trans (congrArg (fun a:Act=>a.tmps.getD 47 undef) ha).symm
 have e48:y 48=v48:=(h 48 rfl).trans (congrArg (fun a:Act=>a.tmps.getD 48 undef) ha).symm
 have e49:y 49=v49:=(h 49 rfl).trans (congrArg (fun a:Act=>a.tmps.getD 49 undef) ha).symm
 have e50:y 50=v50:=(h 50 rfl).trans (congrArg (fun a:Act=>a.tmps.getD 50 undef) ha).symm
 have e51:y 51=v51:=(h 51 rfl).trans (congrArg (fun a:Act=>a.tmps.getD 51 undef) ha).symm
 have e52:y 52=v52:=(h 52 rfl).trans (congrArg (fun a:Act=>a.tmps.getD 52 undef) ha).symm
 have e53:y 53=v53:=(h 53 rfl).trans (congrArg (fun a:Act=>a.tmps.getD 53 undef) ha).symm
 have e54:y 54=v54:=(h 54 rfl).trans (congrArg (fun a:Act=>a.tmps.getD 54 undef) ha).symm
 have e55:y 55=v55:=(h 55 rfl).trans (congrArg (fun a:Act=>a.tmps.getD 55 undef) ha).symm
 have e70:y 70=v70:=(h 70 rfl).trans (congrArg (fun a:Act=>a.tmps.getD 70 undef) ha).symm
 have e71:y 71=v71:=(h 71 rfl).trans (congrArg (fun a:Act=>a.tmps.getD 71 undef) ha).symm
 have e72:y 72=v72:=(h 72 rfl).trans (congrArg (fun a:Act=>a.tmps.getD 72 undef) ha).symm
 have e73:y 73=v73:=(h 73 rfl).trans (congrArg (fun a:Act=>a.tmps.getD 73 undef) ha).symm
 have e74:y 74=v74:=(h 74 rfl).trans (congrArg (fun a:Act=>a.tmps.getD 74 undef) ha).symm
 have e75:y 75=v75:=(h 75 rfl).trans (congrArg (fun a:Act=>a.tmps.getD 75 undef) ha).symm
 have e76:y 76=v76:=(h 76 rfl).trans (congrArg (fun a:Act=>a.tmps.getD 76 undef) ha).symm
 have e77:y 77=v77:=(h 77 rfl).trans (congrArg (fun a:Act=>a.tmps.getD 77 undef) ha).symm
 have e78:y 78=v78:=(h 78 rfl).trans (congrArg (fun a:Act=>a.tmps.getD 78 undef) ha).symm
 have e79:y 79=v79:=(h 79 rfl).trans (congrArg (fun a:Act=>a.tmps.getD 79 undef) ha).symm
 have e80:y 80=v80:=(h 80 rfl).trans (congrArg (fun a:Act=>a.tmps.getD 80 undef) ha).symm
 have e81:y 81=v81:=(h 81 rfl).trans (congrArg (fun a:Act=>a.tmps.getD 81 undef) ha).symm
 have e82:y 82=v82:=(h 82 rfl).trans (congrArg (fun a:Act=>a.tmps.getD 82 undef) ha).symm
 have e83:y 83=v83:=(h 83 rfl).trans (congrArg (fun a:Act=>a.tmps.getD 83 undef) ha).symm
 have e84:y 84=v84:=(h 84 rfl).trans (congrArg (fun a:Act=>a.tmps.getD 84 undef) ha).symm
 simp only [crA,e0,e1,e2,e3,e4,e5,e6,e7,e8,e9,e10,e11,e12,e13,e14,e15,e16,e17,e18,e19,e20,e24,e25,e26,e27,e28,e29,e30,e31,e32,e33,e34,e35,e36,e37,e38,e39,e40,e41,e42,e43,e44,e45,e46,e47,e48,e49,e50,e51,e52,e53,e54,e55,e70,e71,e72,e73,e74,e75,e76,e77,e78,e79,e80,e81,e82,e83,e84]
theorem ci_fin {v0 v1 v2 v3 v4 v5 v6 v7 v8 v9 v10 v11 v12 v13 v14 v15 v16 v17 v18 v19 v20 v21 v22 v23 v24 v25 v26 v27 v28 v29 v30 v31 v32 v33 v34 v35 v36 v37 v38 v39 v40 v41 v42 v43 v44 v45 v46 v47 v48 v49 v50 v51 v52 v53 v54 v55 v56 v57 v58 v59 v60 v61 v62 v63 v64 v65 v66 v67 v68 v69 v70 v71 v72 v73 v74 v75 v76 v77 v78 v79 v80 v81 v82 v83 v84:Value} {y0 y:Nat->Value} (ha:(⟨#[v0,v1,v2,v3,v4,v5,v6,v7,v8,v9,v10,v11,v12,v13,v14,v15,v16,v17,v18,v19,v20,v21,v22,v23,v24,v25,v26,v27,v28,v29,v30,v31,v32,v33,v34,v35,v36,v37,v38,v39,v40,v41,v42,v43,v44,v45,v46,v47,v48,v49,v50,v51,v52,v53,v54,v55,v56,v57,v58,v59,v60,v61,v62,v63,v64,v65,v66,v67,v68,v69,v70,v71,v72,v73,v74,v75,v76,v77,v78,v79,v80,v81,v82,v83,v84],[]⟩:Act)=crA y0) (hy:∀ j,¬ ciT j->y j=y0 j):crA y=⟨#[v0,v1,v2,v3,v4,v5,v6,v7,v8,v9,v10,v11,v12,v13,v14,v15,v16,v17,y 18,y 19,v20,v21,v22,v23,v24,v25,v26,v27,v28,v29,v30,v31,v32,v33,v34,v35,v36,v37,v38,v39,v40,v41,v42,v43,v44,v45,v46,v47,v48,v49,v50,v51,v52,v53,v54,v55,v56,v57,v58,v59,v60,v61,v62,v63,v64,v65,v66,v67,v68,v69,v70,v71,v72,v73,y 74,y 75,y 76,y 77,y 78,y 79,y 80,y 81,v82,v83,v84],[]⟩:=by
 have h:∀ j,(j==18||j==19||j==74||j==75||j==76||j==77||j==78||j==79||j==80||j==81)=false->y j=y0 j:=fun j hj=>hy j (by
  intro h
  unfold ciT at h
  simp only [Bool.or_eq_false_iff,beq_eq_false_iff_ne] at hj
  omega)
 have e0:y 0=v0:=(h 0 rfl).trans (congrArg (fun a:Act=>a.tmps.getD 0 undef) ha).symm
 have e1:y 1=v1:=(h 1 rfl).trans (congrArg (fun a:Act=>a.tmps.getD 1 undef) ha).symm
 have e2:y 2=v2:=(h 2 rfl).trans (congrArg (fun a:Act=>a.tmps.getD 2 undef) ha).symm
 have e3:y 3=v3:=(h 3 rfl).trans (congrArg (fun a:Act=>a.tmps.getD 3 undef) ha).symm
 have e4:y 4=v4:=(h 4 rfl).trans (congrArg (fun a:Act=>a.tmps.getD 4 undef) ha).symm
 have e5:y 5=v5:=(h 5 rfl).trans (congrArg (fun a:Act=>a.tmps.getD 5 undef) ha).symm
 have e6:y 6=v6:=(h 6 rfl).trans (congrArg (fun a:Act=>a.tmps.getD 6 undef) ha).symm
 have e7:y 7=v7:=(h 7 rfl).trans (congrArg (fun a:Act=>a.tmps.getD 7 undef) ha).symm
 have e8:y 8=v8:=(h 8 rfl).trans (congrArg (fun a:Act=>a.tmps.getD 8 undef) ha).symm
 have e9:y 9=v9:=(h 9 rfl).trans (congrArg (fun a:Act=>a.tmps.getD 9 undef) ha).symm
 have e10:y 10=v10:=(h 10 rfl).trans (congrArg (fun a:Act=>a.tmps.getD 10 undef) ha).symm
 have e11:y 11=v11:=(h 11 rfl).trans (congrArg (fun a:Act=>a.tmps.getD 11 undef) ha).symm
 have e12:y 12=v12:=(h 12 rfl).trans (congrArg (fun a:Act=>a.tmps.getD 12 undef) ha).symm
 have e13:y 13=v13:=(h 13 rfl).trans (congrArg (fun a:Act=>a.tmps.getD 13 undef) ha).symm
 have e14:y 14=v14:=(h 14 rfl).trans (congrArg (fun a:Act=>a.tmps.getD 14 undef) ha).symm
 have e15:y 15=v15:=(h 15 rfl).trans (congrArg (fun a:Act=>a.tmps.getD 15 undef) ha).symm
 have e16:y 16=v16:=(h 16 rfl).trans (congrArg (fun a:Act=>a.tmps.getD 16 undef) ha).symm
 have e17:y 17=v17:=(h 17 rfl).trans (congrArg (fun a:Act=>a.tmps.getD 17 undef) ha).symm
 have e20:y 20=v20:=(h 20 rfl).trans (congrArg (fun a:Act=>a.tmps.getD 20 undef) ha).symm
 have e21:y 21=v21:=(h 21 rfl).trans (congrArg (fun a:Act=>a.tmps.getD 21 undef) ha).symm
 have e22:y 22=v22:=(h 22 rfl).trans (congrArg (fun a:Act=>a.tmps.getD 22 undef) ha).symm
 have e23:y 23=v23:=(h 23 rfl).trans (congrArg (fun a:Act=>a.tmps.getD 23 undef) ha).symm
 have e24:y 24=v24:=(h 24 rfl).trans (congrArg (fun a:Act=>a.tmps.getD 24 undef) ha).symm
 have e25:y 25=v25:=(h 25 rfl).trans (congrArg (fun a:Act=>a.tmps.getD 25 undef) ha).symm
 have e26:y 26=v26:=(h 26 rfl).trans (congrArg (fun a:Act=>a.tmps.getD 26 undef) ha).symm
 have e27:y 27=v27:=(h 27 rfl).trans (congrArg (fun a:Act=>a.tmps.getD 27 undef) ha).symm
 have e28:y 28=v28:=(h 28 rfl).trans (congrArg (fun a:Act=>a.tmps.getD 28 undef) ha).symm
 have e29:y 29=v29:=(h 29 rfl).trans (congrArg (fun a:Act=>a.tmps.getD 29 undef) ha).symm
 have e30:y 30=v30:=(h 30 rfl).trans (congrArg (fun a:Act=>a.tmps.getD 30 undef) ha).symm
 have e31:y 31=v31:=(h 31 rfl).trans (congrArg (fun a:Act=>a.tmps.getD 31 undef) ha).symm
 have e32:y 32=v32:=(h 32 rfl).trans (congrArg (fun a:Act=>a.tmps.getD 32 undef) ha).symm
 have e33:y 33=v33:=(h 33 rfl).trans (congrArg (fun a:Act=>a.tmps.getD 33 undef) ha).symm
 have e34:y 34=v34:=(h 34 rfl).trans (congrArg (fun a:Act=>a.tmps.getD 34 undef) ha).symm
 have e35:y 35=v35:=(h 35 rfl).trans (congrArg (fun a:Act=>a.tmps.getD 35 undef) ha).symm
 have e36:y 36=v36:=(h 36 rfl).trans (congrArg (fun a:Act=>a.tmps.getD 36 undef) ha).symm
 have e37:y 37=v37:=(h 37 rfl).trans (congrArg (fun a:Act=>a.tmps.getD 37 undef) ha).symm
 have e38:y 38=v38:=(h 38 rfl).trans (congrArg (fun a:Act=>a.tmps.getD 38 undef) ha).symm
 have e39:y 39=v39:=(h 39 rfl).trans (congrArg (fun a:Act=>a.tmps.getD 39 undef) ha).symm
 have e40:y 40=v40:=(h 40 rfl).trans (congrArg (fun a:Act=>a.tmps.getD 40 undef) ha).symm
 have e41:y 41=v41:=(h 41 rfl).trans (congrArg (fun a:Act=>a.tmps.getD 41 undef) ha).symm
 have e42:y 42=v42:=(h 42 rfl).trans (congrArg (fun a:Act=>a.tmps.getD 42 undef) ha).symm
 have e43:y 43=v43:=(h 43 rfl).trans (congrArg (fun a:Act=>a.tmps.getD 43 undef) ha).symm
 have e44:y 44=v44:=(h 44 rfl).trans (congrArg (fun a:Act=>a.tmps.getD 44 undef) ha).symm
 have e45:y 45=v45:=(h 45 rfl).trans (congrArg (fun a:Act=>a.tmps.getD 45 undef) ha).symm
 have e46:y 46=v46:=(h 46 rfl).trans (congrArg (fun a:Act=>a.tmps.getD 46 undef) ha).symm
 have e47:y 47=v47:=(h 47 rfl).trans (congrArg (fun a:Act=>a.tmps.getD 47 undef) ha).symm
 have e48:y 48=v48:=(h 48 rfl).trans (congrArg (fun a:Act=>a.tmps.getD 48 undef) ha).symm
 have e49:y 49=v49:=(h 49 rfl).trans (congrArg (fun a:Act=>a.tmps.getD 49 undef) ha).symm
 have e50:y 50=v50:=(h 50 rfl).trans (congrArg (fun a:Act=>a.tmps.getD 50 undef) ha).symm
 have e51:y 51=v51:=(h 51 rfl).trans (congrArg (fun a:Act=>a.tmps.getD 51 undef) ha).symm
 have e52:y 52=v52:=(h 52 rfl).trans (congrArg (fun a:Act=>a.tmps.getD 52 undef) ha).symm
 have e53:y 53=v53:=(h 53 rfl).trans (congrArg (fun a:Act=>a.tmps.getD 53 undef) ha).symm
 have e54:y 54=v54:=(h 54 rfl).trans (congrArg (fun a:Act=>a.tmps.getD 54 undef) ha).symm
 have e55:y 55=v55:=(h 55 rfl).trans (congrArg (fun a:Act=>a.tmps.getD 55 undef) ha).symm
 have e56:y 56=v56:=(h 56 rfl).trans (congrArg (fun a:Act=>a.tmps.getD 56 undef) ha).symm
 have e57:y 57=v57:=(h 57 rfl).trans (congrArg (fun a:Act=>a.tmps.getD 57 undef) ha).symm
 have e58:y 58=v58:=(h 58 rfl).trans (congrArg (fun a:Act=>a.tmps.getD 58 undef) ha).symm
 have e59:y 59=v59:=(h 59 rfl).trans (congrArg (fun a:Act=>a.tmps.getD 59 undef) ha).symm
 have e60:y 60=v60:=(h 60 rfl).trans (congrArg (fun a:Act=>a.tmps.getD 60 undef) ha).symm
 have e61:y 61=v61:=(h 61 rfl).trans (congrArg (fun a:Act=>a.tmps.getD 61 undef) ha).symm
 have e62:y 62=v62:=(h 62 rfl).trans (congrArg (fun a:Act=>a.tmps.getD 62 undef) ha).symm
 have e63:y 63=v63:=(h 63 rfl).trans (congrArg (fun a:Act=>a.tmps.getD 63 undef) ha).symm
 have e64:y 64=v64:=(h 64 rfl).trans (congrArg (fun a:Act=>a.tmps.getD 64 undef) ha).symm
 have e65:y 65=v65:=(h 65 rfl).trans (congrArg (fun a:Act=>a.tmps.getD 65 undef) ha).symm
 have e66:y 66=v66:=(h 66 rfl).trans (congrArg (fun a:Act=>a.tmps.getD 66 undef) ha).symm
 have e67:y 67=v67:=(h 67 rfl).trans (congrArg (fun a:Act=>a.tmps.getD 67 undef) ha).symm
 have e68:y 68=v68:=(h 68 rfl).trans (congrArg (fun a:Act=>a.tmps.getD 68 undef) ha).symm
 have e69:y 69=v69:=(h 69 rfl).trans (congrArg (fun a:Act=>a.tmps.getD 69 undef) ha).symm
 have e70:y 70=v70:=(h 70 rfl).trans (congrArg (fun a:Act=>a.tmps.getD 70 undef) ha).symm
 have e71:y 71=v71:=(h 71 rfl).trans (congrArg (fun a:Act=>a.tmps.getD 71 undef) ha).symm
 have e72:y 72=v72:=(h 72 rfl).trans (congrArg (fun a:Act=>a.tmps.getD 72 undef) ha).symm
 have e73:y 73=v73:=(h 73 rfl).trans (congrArg (fun a:Act=>a.tmps.getD 73 undef) ha).symm
 have e82:y 82=v82:=(h 82 rfl).trans (congrArg (fun a:Act=>a.tmps.getD 82 undef) ha).symm
 have e83:y 83=v83:=(h 83 rfl).trans (congrArg (fun a:Act=>a.tmps.getD 83 undef) ha).symm
 have e84:y 84=v84:=(h 84 rfl).trans (congrArg (fun a:Act=>a.tmps.getD 84 undef) ha).symm
 simp only [crA,e0,e1,e2,e3,e4,e5,e6,e7,e8,e9,e10,e11,e12,e13,e14,e15,e16,e17,e20,e21,e22,e23,e24,e25,e26,e27,e28,e29,e30,e31,e32,e33,e34,e35,e36,e37,e38,e39,e40,e41,e42,e43,e44,e45,e46,e47,e48,e49,e50,e51,e52,e53,e54,e55,e56,e57,e58,e59,e60,e61,e62,e63,e64,e65,e66,e67,e68,e69,e70,e71,e72,e73,e82,e83,e84]
end Go.Proofs.YtoiakijmbghhlaaGreat
