/- simulate.Run: the steps of the region in which a copied state and a ledger are appended; its frame as a function of its slots. Written by gen/mk-smf.py. Conditi -/
import Derived.Test.YtoiakijmbghhlaaGreatS40
import Derived.Test.YtoiakijmbghhlaaGreatS36
set_option linter.unusedVariables false
set_option linter.unusedSimpArgs false
set_option maxRecDepth 100000
set_option maxHeartbeats 32000000
namespace Go.Proofs.YtoiakijmbghhlaaGreat
open Go.RowKit
section
variable {A : (Nat → Value) → Act} {B : Nat} {W0 : World} {vT vU : Value} {sts : List St} {leds : List Led} {s' sc : St} {g : Led} {y0 y : Nat → Value} {l : Array Bool} {tT tU : Value} {c1 c2 : Nat} {w : World}
theorem cj_pure (hz:l.size=11) (hM:CjM B W0 vT vU sts leds sc g (l.getD 2 false) (l.getD 3 false) (l.getD 4 false) (l.getD 7 false) (l.getD 8 false) tT tU c1 c2 w) (hy:∀ j,cjK l j->y j=y0 j) (hF:∀ j,j<11->l.getD j false=true->cjF vT vU s' g l y sc tT tU c1 c2 j)
  {i:Nat} (hi:i<11/\i≠2/\i≠3/\i≠4/\i≠7/\i≠8) (hun:l.getD i true=false) (v:Value) {a:Act} (ha:a=A (updV y (cjS i) v)) (hN:cjF vT vU s' g (l.setIfInBounds i true) (updV y (cjS i) v) sc tT tU c1 c2 i):cjI A B W0 vT vU sts leds s' g y0 (l.setIfInBounds i true) a w:=
 cj_next hz hy hF hi.1 hun v (fun _=>rfl) (fun _=>rfl) (fun _=>rfl) (fun _=>rfl) (fun _=>rfl) ha (by rw [getD_setF om,getD_setF om,getD_setF om,getD_setF om,getD_setF om];exact hM) hN
theorem cj_box1 (d2:l.getD 2 false=true) (hz:l.size=11) (hM:CjM B W0 vT vU sts leds sc g (l.getD 2 false) (l.getD 3 false) (l.getD 4 false) (l.getD 7 false) (l.getD 8 false) tT tU c1 c2 w) (hy:∀ j,cjK l j->y j=y0 j) (hF:∀ j,j<11->l.getD j false=true->cjF vT vU s' g l y sc tT tU c1 c2 j)
  (hun:l.getD 3 true=false) {a:Act} (ha:a=A (updV y 95 (.slice (some ⟨w.heap.size,0,none⟩) 1 1))):cjI A B W0 vT vU sts leds s' g y0 (l.setIfInBounds 3 true) a (w.alloc (.cells (eSt sc).toArray 31)):=
 cj_next hz hy hF (i:=3) om hun _ (fun _=>rfl) (fun _=>rfl) (fun _=>rfl) (fun h=>absurd rfl h) (fun _=>rfl) ha (by rw [getD_setF om,getD_setT om,getD_setF om,getD_setF om,getD_setF om];exact hM.box1) ⟨getD_setOf om d2,rfl⟩
theorem cj_box2 (hz:l.size=11) (hM:CjM B W0 vT vU sts leds sc g (l.getD 2 false) (l.getD 3 false) (l.getD 4 false) (l.getD 7 false) (l.getD 8 false) tT tU c1 c2 w) (hy:∀ j,cjK l j->y j=y0 j) (hF:∀ j,j<11->l.getD j false=true->cjF vT vU s' g l y sc tT tU c1 c2 j)
  (hun:l.getD 7 true=false) {a:Act} (ha:a=A (updV y 99 (.slice (some ⟨w.heap.size,0,none⟩) 1 1))):cjI A B W0 vT vU sts leds s' g y0 (l.setIfInBounds 7 true) a (w.alloc (.cells (eLed g).toArray 56)):=
 cj_next hz hy hF (i:=7) om hun _ (fun _=>rfl) (fun _=>rfl) (fun _=>rfl) (fun _=>rfl) (fun h=>absurd rfl h) ha (by rw [getD_setF om,getD_setF om,getD_setF om,getD_setT om,getD_setF om];exact hM.box2) rfl
theorem cj_app1 (h0:l.getD 0 false=true) (h3':l.getD 3 false=true) (hz:l.size=11) (hM:CjM B W0 vT vU sts leds sc g (l.getD 2 false) (l.getD 3 false) (l.getD 4 false) (l.getD 7 false) (l.getD 8 false) tT tU c1 c2 w) (hy:∀ j,cjK l j->y j=y0 j) (hF:∀ j,j<11->l.getD j false=true->cjF vT vU s' g l y sc tT tU c1 c2 j)
  (hun:l.getD 4 true=false) {new:Value} {w':World} (hR:RowStep B 31 eSt 4 w w' tT new (sts ++ [sc])) {a:Act} (ha:a=A (updV y 96 new)):cjI A B W0 vT vU sts leds s' g y0 (l.setIfInBounds 4 true) a w':=by
 have h3:l.getD 4 false=false:=by rw [<-getD_tf om];exact hun
 rw [h3] at hM
 exact cj_next hz hy hF (i:=4) om hun _ (fun _=>rfl) (fun h=>absurd rfl h) (fun _=>rfl) (fun _=>rfl) (fun _=>rfl) ha (by rw [getD_setF om,getD_setF om,getD_setT om,getD_setF om,getD_setF om];exact hM.app1 hR) ⟨⟨getD_setOf om h0,getD_setOf om h3'⟩,rfl⟩
theorem cj_app2 (h0:l.getD 5 false=true) (hz:l.size=11) (hM:CjM B W0 vT vU sts leds sc g (l.getD 2 false) (l.getD 3 false) (l.getD 4 false) (l.getD 7 false) (l.getD 8 false) tT tU c1 c2 w) (hy:∀ j,cjK l j->y j=y0 j) (hF:∀ j,j<11->l.getD j false=true->cjF vT vU s' g l y sc tT tU c1 c2 j)
  (hun:l.getD 8 true=false) {new:Value} {w':World} (hR:RowStep B 56 eLed 3 w w' tU new (leds ++ [g])) {a:Act} (ha:a=A (updV y 100 new)):cjI A B W0 vT vU sts leds s' g y0 (l.setIfInBounds 8 true) a w':=by
 have h3:l.getD 8 false=false:=by rw [<-getD_tf om];exact hun
 rw [h3] at hM
 exact cj_next hz hy hF (i:=8) om hun _ (fun _=>rfl) (fun _=>rfl) (fun h=>absurd rfl h) (fun _=>rfl) (fun _=>rfl) ha (by rw [getD_setF om,getD_setF om,getD_setF om,getD_setF om,getD_setT om];exact hM.app2 hR) ⟨getD_setOf om h0,rfl⟩
theorem cj_call (hz:l.size=11) (hM:CjM B W0 vT vU sts leds sc g (l.getD 2 false) (l.getD 3 false) (l.getD 4 false) (l.getD 7 false) (l.getD 8 false) tT tU c1 c2 w) (hy:∀ j,cjK l j->y j=y0 j) (hF:∀ j,j<11->l.getD j false=true->cjF vT vU s' g l y sc tT tU c1 c2 j)
  (hun:l.getD 2 true=false) {w':World} {sn:St} (hb:Below w.heap.size w w') (hg:gSt w' sn) (hsame:SameSt sn s')
  (hV:∀ b off,sn.V.a=some ⟨b,off,none⟩->w.heap.size<=b) (hP:∀ b off,sn.P.a=some ⟨b,off,none⟩->w.heap.size<=b) (hS:∀ b off,sn.S.a=some ⟨b,off,none⟩->w.heap.size<=b) (hO:∀ b off,sn.O.a=some ⟨b,off,none⟩->w.heap.size<=b)
  {a:Act} (ha:a=A (updV y 94 (vSt sn))):cjI A B W0 vT vU sts leds s' g y0 (l.setIfInBounds 2 true) a w':=by
 have h2:l.getD 2 false=false:=by rw [<-getD_tf om];exact hun
 have h3:l.getD 3 false=false:=by
  cases h:l.getD 3 false
  ·rfl
  ·have:=(hF 3 om h).1;rw [h2] at this;cases this
 have h4:l.getD 4 false=false:=by
  cases h:l.getD 4 false
  ·rfl
  ·have:=(hF 4 om h).1.2;rw [h3] at this;cases this
 rw [h2,h3,h4] at hM
 exact cj_next hz hy hF (i:=2) om hun _ (fun h=>absurd rfl h) (fun _=>rfl) (fun _=>rfl) (fun _=>rfl) (fun _=>rfl) ha (by rw [getD_setT om,getD_setF om,getD_setF om,getD_setF om,getD_setF om,h3,h4];exact hM.call hb hg hV hP hS hO) ⟨rfl,hsame⟩
end
theorem cj_start (A:(Nat->Value)->Act) {B:Nat} {W0:World} {vT vU:Value} {sts:List St} {leds:List Led} (s':St) (g:Led) (y0:Nat->Value) (hB:B<=W0.heap.size) (hT:Own B 31 eSt 4 W0 vT sts) (hU:Own B 56 eLed 3 W0 vU leds) (hne:∀ g,vT.ownBlock=some g->vU.ownBlock≠some g) :
  cjI A B W0 vT vU sts leds s' g y0 (Array.replicate 11 false) (A y0) { W0 with drawn:=W0.drawn+1 }:=by
 have hd:∀ j,(Array.replicate 11 false).getD j false=false:=fun j=>by simp [Array.getD]
 have hb:Below W0.heap.size W0 { W0 with drawn:=W0.drawn+1 }:=Below.drew qr
 refine ⟨by simp,y0,s',vT,vU,0,0,rfl,?_,fun _ _=>rfl,fun j hj h=>?_⟩
 ·rw [hd,hd,hd,hd,hd]
  exact ⟨⟨hB,Nat.le_refl _,hb.mono hB,fun _ _ _ _=>rfl,hT.below hb,fun _=>rfl,fun g hg=>.inl hg,hU.below hb,fun _=>rfl,fun g hg=>.inl hg,hne,fun h=>(Bool.noConfusion h),fun h=>(Bool.noConfusion h)⟩,fun h=>(Bool.noConfusion h)⟩
 ·rw [hd] at h;cases h
theorem RowAt.sl {w:World} {lo hi:Nat} {e:TypeId} {α:Type} {enc:α->List Value} {good:World->α->Prop} {v:Value} {xs:List α} (h:RowAt w lo hi e enc 1 v xs) (hk:∀ x,(enc x).length=1) (hg:∀ x∈xs,good w x):∃ r:Sl α,v=vSl r/\r.xs=xs/\gSl enc 1 good w r/\∀ b off,r.a=some ⟨b,off,none⟩->lo<=b:=by
 obtain ⟨r,h1,h2,h3⟩:=h.1.gSl hk hg
 refine ⟨r,h1,h2,h3,fun b off e=>?_⟩
 refine (h.2.2 b ?_).1
 rw [h1]
 simp [vSl,Value.ownBlock,e]
theorem copied_st {w W:World} {s:St} {uV uP uS uO:Value} {lV hV lP hP lS hS lO hO:Nat} (h:Copied w W s uV uP uS uO lV hV lP hP lS hS lO hO) (hg:gSt w s):∃ sn:St,(uV=vSl sn.V/\uP=vSl sn.P/\uS=vSl sn.S/\uO=vSl sn.O)/\SameSt sn s/\gSt W sn /\
  (∀ b off,sn.V.a=some ⟨b,off,none⟩->w.heap.size<=b)/\(∀ b off,sn.P.a=some ⟨b,off,none⟩->w.heap.size<=b)/\(∀ b off,sn.S.a=some ⟨b,off,none⟩->w.heap.size<=b)/\(∀ b off,sn.O.a=some ⟨b,off,none⟩->w.heap.size<=b):=by
 obtain ⟨r1,a1,b1,c1,d1⟩:=h.V.sl (good:=gI64) (fun _=>rfl) (fun x hx=>hg.1.2.2.2 x hx)
 obtain ⟨r2,a2,b2,c2,d2⟩:=h.P.sl (good:=gI64) (fun _=>rfl) (fun x hx=>hg.2.1.2.2.2 x hx)
 obtain ⟨r3,a3,b3,c3,d3⟩:=h.S.sl (good:=gI64) (fun _=>rfl) (fun x hx=>hg.2.2.1.2.2.2 x hx)
 obtain ⟨r4,a4,b4,c4,d4⟩:=h.O.sl (good:=gTrue) (fun _=>rfl) (fun x hx=>hg.2.2.2.2.2.2 x hx)
 have z0:=h.b0
 have z1:=h.b1
 have z2:=h.b2
 have z3:=h.b3
 have z4:=h.b4
 have z5:=h.b5
 have z6:=h.b6
 refine ⟨⟨r1,r2,r3,r4⟩,⟨a1,a2,a3,a4⟩,⟨b1,b2,b3,b4⟩,⟨c1,c2,c3,c4⟩,fun b off e=>d1 b off e |> fun k=>by omega,fun b off e=>d2 b off e |> fun k=>by omega,fun b off e=>d3 b off e |> fun k=>by omega,fun b off e=>d4 b off e |> fun k=>by omega⟩
abbrev srA (y:Nat->Value):Act:=⟨#[y 0,y 1,y 2,y 3,y 4,y 5,y 6,y 7,y 8,y 9,y 10,y 11,y 12,y 13,y 14,y 15,y 16,y 17,y 18,y 19,y 20,y 21,y 22,y 23,y 24,y 25,y 26,y 27,y 28,y 29,y 30,y 31,y 32,y 33,y 34,y 35,y 36,y 37,y 38,y 39,y 40,y 41,y 42,y 43,y 44,y 45,y 46,y 47,y 48,y 49,y 50,y 51,y 52,y 53,y 54,y 55,y 56,y 57,y 58,y 59,y 60,y 61,y 62,y 63,y 64,y 65,y 66,y 67,y 68,y 69,y 70,y 71,y 72,y 73,y 74,y 75,y 76,y 77,y 78,y 79,y 80,y 81,y 82,y 83,y 84,y 85,y 86,y 87,y 88,y 89,y 90,y 91,y 92,y 93,y 94,y 95,y 96,y 97,y 98,y 99,y 100,y 101,y 102,y 103],[]⟩
theorem wp_z0 {P:Program} {c:Code} {Q:Exit->Act->World->Prop} {a:Act} {w:World} (hz:a=srA (yOf a)) (h:∀ y0,a=srA y0->c.wp P Q (srA y0) w):c.wp P Q a w:=by
 rw [hz];exact h _ hz
theorem cj_fin {v0 v1 v2 v3 v4 v5 v6 v7 v8 v9 v10 v11 v12 v13 v14 v15 v16 v17 v18 v19 v20 v21 v22 v23 v24 v25 v26 v27 v28 v29 v30 v31 v32 v33 v34 v35 v36 v37 v38 v39 v40 v41 v42 v43 v44 v45 v46 v47 v48 v49 v50 v51 v52 v53 v54 v55 v56 v57 v58 v59 v60 v61 v62 v63 v64 v65 v66 v67 v68 v69 v70 v71 v72 v73 v74 v75 v76 v77 v78 v79 v80 v81 v82 v83 v84 v85 v86 v87 v88 v89 v90 v91 v92 v93 v94 v95 v96 v97 v98 v99 v100 v101 v102 v103:Value} {y0 y:Nat->Value} (ha:(⟨#[v0,v1,v2,v3,v4,v5,v6,v7,v8,v9,v10,v11,v12,v13,v14,v15,v16,v17,v18,v19,v20,v21,v22,v23,v24,v25,v26,v27,v28,v29,v30,v31,v32,v33,v34,v35,v36,v37,v38,v39,v40,v41,v42,v43,v44,v45,v46,v47,v48,v49,v50,v51,v52,v53,v54,v55,v56,v57,v58,v59,v60,v61,v62,v63,v64,v65,v66,v67,v68,v69,v70,v71,v72,v73,v74,v75,v76,v77,v78,v79,v80,v81,v82,v83,v84,v85,v86,v87,v88,v89,v90,v91,v92,v93,v94,v95,v96,v97,v98,v99,v100,v101,v102,v103],[]⟩:Act)=srA y0) (hy:∀ j,¬ cjT j->y j=y0 j):srA y=⟨#[v0,v1,v2,v3,v4,v5,v6,v7,v8,v9,v10,v11,v12,v13,v14,v15,v16,v17,v18,y 19,y 20,v21,v22,v23,v24,v25,v26,v27,v28,v29,v30,v31,v32,v33,v34,v35,v36,v37,v38,v39,v40,v41,v42,v43,v44,v45,v46,v47,v48,v49,v50,v51,v52,v53,v54,v55,v56,v57,v58,v59,v60,v61,v62,v63,v64,v65,v66,v67,v68,v69,v70,v71,v72,v73,v74,v75,v76,v77,v78,v79,v80,v81,v82,v83,v84,v85,v86,v87,v88,v89,v90,v91,y 92,y 93,y 94,y 95,y 96,y 97,y 98,y 99,y 100,v101,v102,v103],[]⟩:=by
 have h:∀ j,(j==19||j==20||j==92||j==93||j==94||j==95||j==96||j==97||j==98||j==99||j==100)=false->y j=y0 j:=fun j hj=>hy j (by
  intro h
  unfold cjT at h
  simp only [Bool.or_eq_false_iff,beq_eq_false_iff_ne] at hj
  omega)
 have e0:y 0=v0:=(h 0 rfl).trans (congrArg (fun a:Act=>a.tmps.getD 0 undef) ha).symm
 have e1:y 1=v1:=(h 1 rfl).trans (congrArg (fun a:Act=>a.tmps.getD 1 undef) ha).symm
 have e2:y 2=v2:=(h 2 rfl).trans (congrArg (fun a:Act=>a.tmps.getD 2 undef) ha).symm
 have e3:y 3=v3:=(h 3 rfl).trans (congrArg (fun a:Act=>a.tmps.getD 3 undef) ha).symm
 have e4:y 4=v4:=(h 4 rfl).trans (congrArg (fun a:Act=>a.tmps.getD 4 undef) ha).symm
 have e5:y 5=v5:=(h 5 rfl).trans (congrArg (fun a:Act=>a.tmps.getD 5 undef) ha).symm
 have e6:y 6=v6:=(h 6 rfl).trans (congrArg (fun a:Act=>a.tmps.getD 6 undef) ha).symm
 have e7:y 7=v7:=(h 7 rfl).trans (congrArg (fun a:Act=>a.tmps.getD 7 undef) ha).symm
 have e8:y 8=v8:=(h 8 rfl).trans (congrArg (fun a:Act=>a.tmps.getD 8 undef) ha).symm
 have e9:y 9=v9:=(h 9 rfl).trans (congrArg (fun a:Act=>a.tmps.getD 9 undef) ha).symm
 have e10:y 10=v10:=(h 10 rfl).trans (congrArg (fun a:Act=>a.tmps.getD 10 undef) ha).symm
 have e11:y 11=v11:=(h 11 rfl).trans (congrArg (fun a:Act=>a.tmps.getD 11 undef) ha).symm
 have e12:y 12=v12:=(h 12 rfl).trans (congrArg (fun a:Act=>a.tmps.getD 12 undef) ha).symm
 have e13:y 13=v13:=(h 13 rfl).trans (congrArg (fun a:Act=>a.tmps.getD 13 undef) ha).symm
 have e14:y 14=v14:=(h 14 rfl).trans (congrArg (fun a:Act=>a.tmps.getD 14 undef) ha).symm
 have e15:y 15=v15:=(h 15 rfl).trans (congrArg (fun a:Act=>a.tmps.getD 15 undef) ha).symm
 have e16:y 16=v16:=(h 16 rfl).trans (congrArg (fun a:Act=>a.tmps.getD 16 undef) ha).symm
 have e17:y 17=v17:=(h 17 rfl).trans (congrArg (fun a:Act=>a.tmps.getD 17 undef) ha).symm
 have e18:y 18=v18:=(h 18 rfl).trans (congrArg (fun a:Act=>a.tmps.getD 18 undef) ha).symm
 have e21:y 21=v21:=(h 21 rfl).trans (congrArg (fun a:Act=>a.tmps.getD 21 undef) ha).symm
 have e22:y 22=v22:=(h 22 rfl).trans (congrArg (fun a:Act=>a.tmps.getD 22 undef) ha).symm
 have e23:y 23=v23:=(h 23 rfl).trans (congrArg (fun a:Act=>a.tmps.getD 23 undef) ha).symm
 have e24:y 24=v24:=(h 24 rfl).trans (congrArg (fun a:Act=>a.tmps.getD 24 undef) ha).symm
 have e25:y 25=v25:=(h 25 rfl).trans (congrArg (fun a:Act=>a.tmps.getD 25 undef) ha).symm
 have e26:y 26=v26:=(h 26 rfl).trans (congrArg (fun a:Act=>a.tmps.getD 26 undef) ha).symm
 have e27:y 27=v27:=(h 27 rfl).trans (congrArg (fun a:Act=>a.tmps.getD 27 undef) ha).symm
 have e28:y 28=v28:=(h 28 rfl).trans (congrArg (fun a:Act=>a.tmps.getD 28 undef) ha).symm
 have e29:y 29=v29:=(h 29 rfl).trans (congrArg (fun a:Act=>a.tmps.getD 29 undef) ha).symm
 have e30:y 30=v30:=(h 30 rfl).trans (congrArg (fun a:Act=>a.tmps.getD 30 undef) ha).symm
 have e31:y 31=v31:=(h 31 rfl).trans (congrArg (fun a:Act=>a.tmps.getD 31 undef) ha).symm
 have e32:y 32=v32:=(h 32 rfl).trans (congrArg (fun a:Act=>a.tmps.getD 32 undef) ha).symm
 have e33:y 33=v33:=(h 33 rfl).trans (congrArg (fun a:Act=>a.tmps.getD 33 undef) ha).symm
 have e34:y 34=v34:=(h 34 rfl).trans (congrArg (fun a:Act=>a.tmps.getD 34 undef) ha).symm
 have e35:y 35=v35:=(h 35 rfl).trans (congrArg (fun a:Act=>a.tmps.getD 35 undef) ha).symm
 have e36:y 36=v36:=(h 36 rfl).trans (congrArg (fun a:Act=>a.tmps.getD 36 undef) ha).symm
 have e37:y 37=v37:=(h 37 rfl).trans (congrArg (fun a:Act=>a.tmps.getD 37 undef) ha).symm
 have e38:y 38=v38:=(h 38 rfl).trans (congrArg (fun a:Act=>a.tmps.getD 38 undef) ha).symm
 have e39:y 39=v39:=(h 39 rfl).trans (congrArg (fun a:Act=>a.tmps.getD 39 undef) ha).symm
 have e40:y 40=v40:=(h 40 rfl).trans (congrArg (fun a:Act=>a.tmps.getD 40 undef) ha).symm
 have e41:y 41=v41:=(h 41 rfl).trans (congrArg (fun a:Act=>a.tmps.getD 41 undef) ha).symm
 have e42:y 42=v42:=(h 42 rfl).trans (congrArg (fun a:Act=>a.tmps.getD 42 undef) ha).symm
 have e43:y 43=v43:=(h 43 rfl).trans (congrArg (fun a:Act=>a.tmps.getD 43 undef) ha).symm
 have e44:y 44=v44:=(h 44 rfl).trans (congrArg (fun a:Act=>a.tmps.getD 44 undef) ha).symm
 have e45:y 45=v45:=(h 45 rfl).trans (congrArg (fun a:Act=>a.tmps.getD 45 undef) ha).symm
 have e46:y 46=v46:=(h 46 rfl).trans (congrArg (fun a:Act=>a.tmps.getD 46 undef) ha).symm
 have e47:y 47=v47:=(h 47 rfl).trans (congrArg (fun a:Act=>a.tmps.getD 47 undef) ha).symm
 have e48:y 48=v48:=(h 48 rfl).trans (congrArg (fun a:Act=>a.tmps.getD 48 undef) ha).symm
 have e49:y 49=v49:=(h 49 rfl).trans (congrArg (fun a:Act=>a.tmps.getD 49 undef) ha).symm
 have e50:y 50=v50:=(h 50 rfl).trans (congrArg (fun a:Act=>a.tmps.getD 50 undef) ha).symm
 have e51:y 51=v51:=(h 51 rfl).trans (congrArg (fun a:Act=>a.tmps.getD 51 undef) ha).symm
 have e52:y 52=v52:=(h 52 rfl).trans (congrArg (fun a:Act=>a.tmps.getD 52 undef) ha).symm
 have e53:y 53=v53:=(h 53 rfl).trans (congrArg (fun a:Act=>a.tmps.getD 53 undef) ha).symm
 have e54:y 54=v54:=(h 54 rfl).trans (congrArg (fun a:Act=>a.tmps.getD 54 undef) ha).symm
 have e55:y 55=v55:=(h 55 rfl).trans (congrArg (fun a:Act=>a.tmps.getD 55 undef) ha).symm
 have e56:y 56=v56:=(h 56 rfl).trans (congrArg (fun a:Act=>a.tmps.getD 56 undef) ha).symm
 have e57:y 57=v57:=(h 57 rfl).trans (congrArg (fun a:Act=>a.tmps.getD 57 undef) ha).symm
 have e58:y 58=v58:=(h 58 rfl).trans (congrArg (fun a:Act=>a.tmps.getD 58 undef) ha).symm
 have e59:y 59=v59:=(h 59 rfl).trans (congrArg (fun a:Act=>a.tmps.getD 59 undef) ha).symm
 have e60:y 60=v60:=(h 60 rfl).trans (congrArg (fun a:Act=>a.tmps.getD 60 undef) ha).symm
 have e61:y 61=v61:=(h 61 rfl).trans (congrArg (fun a:Act=>a.tmps.getD 61 undef) ha).symm
 have e62:y 62=v62:=(h 62 rfl).trans (congrArg (fun a:Act=>a.tmps.getD 62 undef) ha).symm
 have e63:y 63=v63:=(h 63 rfl).trans (congrArg (fun a:Act=>a.tmps.getD 63 undef) ha).symm
 have e64:y 64=v64:=(h 64 rfl).trans (congrArg (fun a:Act=>a.tmps.getD 64 undef) ha).symm
 have e65:y 65=v65:=(h 65 rfl).trans (congrArg (fun a:Act=>a.tmps.getD 65 undef) ha).symm
 have e66:y 66=v66:=(h 66 rfl).trans (congrArg (fun a:Act=>a.tmps.getD 66 undef) ha).symm
 have e67:y 67=v67:=(h 67 rfl).trans (congrArg (fun a:Act=>a.tmps.getD 67 undef) ha).symm
 have e68:y 68=v68:=(h 68 rfl).trans (congrArg (fun a:Act=>a.tmps.getD 68 undef) ha).symm
 have e69:y 69=v69:=(h 69 rfl).trans (congrArg (fun a:Act=>a.tmps.getD 69 undef) ha).symm
 have e70:y 70=v70:=(h 70 rfl).trans (congrArg (fun a:Act=>a.tmps.getD 70 undef) ha).symm
 have e71:y 71=v71:=(h 71 rfl).trans (congrArg (fun a:Act=>a.tmps.getD 71 undef) ha).symm
 have e72:y 72=v72:=(h 72 rfl).trans (congrArg (fun a:Act=>a.tmps.getD 72 undef) ha).symm
 have e73:y 73=v73:=(h 73 rfl).trans (congrArg (fun a:Act=>a.tmps.getD 73 undef) ha).symm
 have e74:y 74=v74:=(h 74 rfl).trans (congrArg (fun a:Act=>a.tmps.getD 74 undef) ha).symm
 have e75:y 75=v75:=(h 75 rfl).trans (congrArg (fun a:Act=>a.tmps.getD 75 undef) ha).symm
 have e76:y 76=v76:=(h 76 rfl).trans (congrArg (fun a:Act=>a.tmps.getD 76 undef) ha).symm
 have e77:y 77=v77:=(h 77 rfl).trans (congrArg (fun a:Act=>a.tmps.getD 77 undef) ha).symm
 have e78:y 78=v78:=(h 78 rfl).trans (congrArg (fun a:Act=>a.tmps.getD 78 undef) ha).symm
 have e79:y 79=v79:=(h 79 rfl).trans (congrArg (fun a:Act=>a.tmps.getD 79 undef) ha).symm
 have e80:y 80=v80:=(h 80 rfl).trans (congrArg (fun a:Act=>a.tmps.getD 80 undef) ha).symm
 have e81:y 81=v81:=(h 81 rfl).trans (congrArg (fun a:Act=>a.tmps.getD 81 undef) ha).symm
 have e82:y 82=v82:=(h 82 rfl).trans (congrArg (fun a:Act=>a.tmps.getD 82 undef) ha).symm
 have e83:y 83=v83:=(h 83 rfl).trans (congrArg (fun a:Act=>a.tmps.getD 83 undef) ha).symm
 have e84:y 84=v84:=(h 84 rfl).trans (congrArg (fun a:Act=>a.tmps.getD 84 undef) ha).symm
 have e85:y 85=v85:=(h 85 rfl).trans (congrArg (fun a:Act=>a.tmps.getD 85 undef) ha).symm
 have e86:y 86=v86:=(h 86 rfl).trans (congrArg (fun a:Act=>a.tmps.getD 86 undef) ha).symm
 have e87:y 87=v87:=(h 87 rfl).trans (congrArg (fun a:Act=>a.tmps.getD 87 undef) ha).symm
 have e88:y 88=v88:=(h 88 rfl).trans (congrArg (fun a:Act=>a.tmps.getD 88 undef) ha).symm
 have e89:y 89=v89:=(h 89 rfl).trans (congrArg (fun a:Act=>a.tmps.getD 89 undef) ha).symm
 have e90:y 90=v90:=(h 90 rfl).trans (congrArg (fun a:Act=>a.tmps.getD 90 undef) ha).symm
 have e91:y 91=v91:=(h 91 rfl).trans (congrArg (fun a:Act=>a.tmps.getD 91 undef) ha).symm
 have e101:y 101=v101:=(h 101 rfl).trans (congrArg (fun a:Act=>a.tmps.getD 101 undef) ha).symm
 have e102:y 102=v102:=(h 102 rfl).trans (congrArg (fun a:Act=>a.tmps.getD 102 undef) ha).symm
 have e103:y 103=v103:=(h 103 rfl).trans (congrArg (fun a:Act=>a.tmps.getD 103 undef) ha).symm
 simp only [srA,e0,e1,e2,e3,e4,e5,e6,e7,e8,e9,e10,e11,e12,e13,e14,e15,e16,e17,e18,e21,e22,e23,e24,e25,e26,e27,e28,e29,e30,e31,e32,e33,e34,e35,e36,e37,e38,e39,e40,e41,e42,e43,e44,e45,e46,e47,e48,e49,e50,e51,e52,e53,e54,e55,e56,e57,e58,e59,e60,e61,e62,e63,e64,e65,e66,e67,e68,e69,e70,e71,e72,e73,e74,e75,e76,e77,e78,e79,e80,e81,e82,e83,e84,e85,e86,e87,e88,e89,e90,e91,e101,e102,e103]
end Go.Proofs.YtoiakijmbghhlaaGreat
