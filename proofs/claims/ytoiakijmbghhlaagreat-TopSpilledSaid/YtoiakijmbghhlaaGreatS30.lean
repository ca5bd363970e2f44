/- routing.settle. Conditions: the network is right; the state's rows and what nodes hold are the call's own. | Pairs of numbers in memory. Conditions: none. -/
import Derived.Test.YtoiakijmbghhlaaGreatS29
import Derived.Test.YtoiakijmbghhlaaGreatS26
import Derived.Test.YtoiakijmbghhlaaGreatS01
set_option linter.unusedVariables false
set_option linter.unusedSimpArgs false
set_option maxRecDepth 100000
set_option maxHeartbeats 32000000
namespace Go.Proofs.YtoiakijmbghhlaaGreat
open Go.RowKit
theorem Cloned.grow {w W W':World} {B:Nat} {uV uP uS uO:Value} {vs ps ss:List Int} {os:List Bool} (h:Cloned w W B uV uP uS uO vs ps ss os) (hb:Below W.heap.size W W'):Cloned w W' B uV uP uS uO vs ps ss os:=
 ⟨h.bel.trans (hb.mono h.bel.size),h.base,cel_lt h.c0 hb,cel_lt h.c1 hb,cel_lt h.c2 hb,cel_lt h.c3 hb,h.V.below hb,h.P.below hb,h.S.below hb,h.O.below hb,h.aV,h.aP⟩
structure Sett (w W:World) (B:Nat) (uV uP uS uO uH:Value) (vs ps ss:List Int) (os:List Bool) (hs:List Int):Prop where
 cl:Cloned w W B uV uP uS uO vs ps ss os
 H:Own w.heap.size 3 eInt 1 W uH hs
 aH:∀ g,uH.ownBlock=some g->g≠B/\uV.ownBlock≠some g/\uP.ownBlock≠some g/\uS.ownBlock≠some g/\uO.ownBlock≠some g
theorem Sett.grow {w W W':World} {B:Nat} {uV uP uS uO uH:Value} {vs ps ss:List Int} {os:List Bool} {hs:List Int} (h:Sett w W B uV uP uS uO uH vs ps ss os hs) (hb:Below W.heap.size W W'):Sett w W' B uV uP uS uO uH vs ps ss os hs:=
 ⟨h.cl.grow hb,h.H.below hb,h.aH⟩
theorem Sett.storeV {w W:World} {B g n c k:Nat} {uP uS uO uH:Value} {vs ps ss:List Int} {os:List Bool} {hs:List Int} (h:Sett w W B (.slice (some ⟨g,0,none⟩) n c) uP uS uO uH vs ps ss os hs) (hk:k<vs.length) (y:Int) :
  Sett w (W.setCell ⟨g,k,none⟩ (.int .i64 y)) B (.slice (some ⟨g,0,none⟩) n c) uP uS uO uH (vs.set k y) ps ss os hs:=
 ⟨h.cl.storeV hk y,h.H.far _ _ (fun e=>(h.aH g e).2.1 rfl),h.aH⟩
theorem Sett.storeP {w W:World} {B g n c k:Nat} {uV uS uO uH:Value} {vs ps ss:List Int} {os:List Bool} {hs:List Int} (h:Sett w W B uV (.slice (some ⟨g,0,none⟩) n c) uS uO uH vs ps ss os hs) (hk:k<ps.length) (y:Int) :
  Sett w (W.setCell ⟨g,k,none⟩ (.int .i64 y)) B uV (.slice (some ⟨g,0,none⟩) n c) uS uO uH vs (ps.set k y) ss os hs:=
 ⟨h.cl.storeP hk y,h.H.far _ _ (fun e=>(h.aH g e).2.2.1 rfl),h.aH⟩
theorem Sett.storeH {w W:World} {B g n c k:Nat} {uV uP uS uO:Value} {vs ps ss:List Int} {os:List Bool} {hs:List Int} (h:Sett w W B uV uP uS uO (.slice (some ⟨g,0,none⟩) n c) vs ps ss os hs) (hk:k<hs.length) (y:Int) :
  Sett w (W.setCell ⟨g,k,none⟩ (.int .i64 y)) B uV uP uS uO (.slice (some ⟨g,0,none⟩) n c) vs ps ss os (hs.set k y):=by
 obtain ⟨a0,a1,a2,a3,a4⟩:=h.aH g rfl
 have hg:=(h.H.lt g rfl).1
 have C:=h.cl
 exact ⟨⟨C.bel.setCell (p:=⟨g,k,none⟩) hg _,C.base,cell_far C.c0 _ _ (Ne.symm a0),cell_far C.c1 _ _ (Ne.symm a0),cell_far C.c2 _ _ (Ne.symm a0),cell_far C.c3 _ _ (Ne.symm a0),C.V.far _ _ a1,C.P.far _ _ a2,C.S.far _ _ a3,C.O.far _ _ a4,C.aV,C.aP⟩,h.H.put1 hk y,h.aH⟩
theorem rsettle_any (n:Net) (B:Nat) (uV uP uS uO uH:Value) (vs ps ss:List Int) (os:List Bool) (hs:List Int) (w0 w:World) (hg:gNet w0 n) (hn:netB n=true) (hC:Sett w0 w B uV uP uS uO uH vs ps ss os hs)
  (lV:vs.length=n.Ns.xs.length) (lP:ps.length=n.Ns.xs.length) (lH:hs.length=n.Ns.xs.length) (hbd:∀ i,i<n.Ns.xs.length->-2305843009213693952<=hs.getD i 0/\hs.getD i 0<=2305843009213693952) :
  Calls Tryz.prog 170 #[vNet n,.pointer (some ⟨B,0,none⟩),uH] w fun e w'=>∃ b vs' ps' hs',e=.returned (.bool b)/\SetR n hs vs' ps' hs' b/\Sett w0 w' B uV uP uS uO uH vs' ps' ss os hs'/\w.heap.size<=w'.heap.size/\∀ j,j<w.heap.size->uV.ownBlock≠some j->uP.ownBlock≠some j->uH.ownBlock≠some j->w'.heap[j]? = w.heap[j]?:=by
 obtain ⟨W,hW⟩:∃ W,W=allocs w [((eNet n).toArray,25)]:=⟨_,rfl⟩
 have hbw:Below w.heap.size w W:=by rw [hW];exact allocs_below _ _
 have t0:W.heap[w.heap.size]? = some (.cells (eNet n).toArray 25 (0,0)):=by rw [hW];exact allocs_at [((eNet n).toArray,25)] w 0 (by simp)
 have HW:Hid (W=w.alloc (.cells (eNet n).toArray 25)):=qh hW
 have q0:W.cell? ⟨w.heap.size,0,none⟩=some (.slice n.Ns.a n.Ns.xs.length n.Ns.cap):=(tank_blk t0 0).trans rfl
 have HG:=qh hg
 have C0:=hC.grow hbw
 have LV:Hid (∀ g,uV.ownBlock=some g->g<w.heap.size):=qh (fun g h=>(hC.cl.V.lt g h).2)
 have LP:Hid (∀ g,uP.ownBlock=some g->g<w.heap.size):=qh (fun g h=>(hC.cl.P.lt g h).2)
 have LH:Hid (∀ g,uH.ownBlock=some g->g<w.heap.size):=qh (fun g h=>(hC.H.lt g h).2)
 have HBD:=qh hbd
 have HBW:=qh hbw
 have HN:=qh hn
 obtain ⟨m,hm⟩:∃ m,m=n.Ns.xs.length:=⟨_,rfl⟩
 have HM:=qh hm
 have hm4:m<=300:=by rw [hm];exact (netB_size hn).1
 rw [<-hm] at q0 lV lP lH
 have HV0:Hid (mixL (fun i=>min (if isOut n i then 0 else hs.getD i 0) (capB (ndK n i))) (fun i=>vs.getD i 0) m 0 vs):=qh (mixL.none lV)
 have HP0:Hid (mixL (fun i=>(if isOut n i then 0 else hs.getD i 0)-min (if isOut n i then 0 else hs.getD i 0) (capB (ndK n i))) (fun i=>ps.getD i 0) m 0 ps):=qh (mixL.none lP)
 have HH0:Hid (mixL (fun i=>if isOut n i then 0 else hs.getD i 0) (fun i=>hs.getD i 0) m 0 hs):=qh (mixL.none lH)
 have HC0:=qh C0
 have HQ0:=qh q0
 clear hW t0 hg hC hbd hn hm C0 lV lP lH
 simp only [vNet,vSl]
 go_enter Tryz.func170,Tryz.ntmps170
 go_upto_region 1 with (fail)
 first|rw [HM.out,<-HW.out]|rw [<-HW.out]
 clear HW
 go_wp2_with fail
 go_loopw [7,15] (fun s7 s15 wr=>∃ (k:Nat) (b:Bool) (vs' ps' hs':List Int),k<=m/\s7=.bool b/\s15=.int .i64 k/\Hid (Sett w0 wr B uV uP uS uO uH vs' ps' ss os hs')/\wr.cell? ⟨w.heap.size,0,none⟩=some (.slice n.Ns.a m n.Ns.cap)/\W.heap.size<=wr.heap.size/\Hid (∀ j,j<w.heap.size->uV.ownBlock≠some j->uP.ownBlock≠some j->uH.ownBlock≠some j->wr.heap[j]? = w.heap[j]?) /\
  Hid (mixL (fun i=>min (if isOut n i then 0 else hs.getD i 0) (capB (ndK n i))) (fun i=>vs.getD i 0) m k vs')/\Hid (mixL (fun i=>(if isOut n i then 0 else hs.getD i 0)-min (if isOut n i then 0 else hs.getD i 0) (capB (ndK n i))) (fun i=>ps.getD i 0) m k ps') /\
  Hid (mixL (fun i=>if isOut n i then 0 else hs.getD i 0) (fun i=>hs.getD i 0) m k hs')/\Hid (b=true->∀ i,i<k->ps'.getD i 0<=1125899906842624)) (fun _ s15 _=>m-(RowKit.intOf s15).toNat)
 case atStart=>exact ⟨0,true,vs,ps,hs,Nat.zero_le _,rfl,rfl,HC0,HQ0.out,Nat.le_refl _,qh (fun j hj _ _ _=>HBW.out.block j hj),HV0,HP0,HH0,qh (fun _ i hi=>absurd hi (Nat.not_lt_zero i))⟩
 clear HC0 HQ0 HV0 HP0 HH0 q0
 case round=>
  obtain ⟨k,b,vs',ps',hs',hk,rfl,rfl,hC,q0,hsz,hFR,hV,hP,hH,hB⟩:=hrel
  obtain ⟨wo,hwo⟩:∃ wo,wo=wr:=⟨_,rfl⟩
  subst hwo
  by_cases hkm:k<m
  ·have hkn:k<n.Ns.xs.length:=by rw [<-HM.out];exact hkm
   have C1:=hC.out
   have hb0:=C1.cl.bel
   have lV:=hV.out.1
   have lP:=hP.out.1
   have lH:=hH.out.1
   obtain ⟨gV,cV,eV,hgV,hgV2,-,-⟩:=C1.cl.V.place om
   obtain ⟨gP,cP,eP,hgP,hgP2,-,-⟩:=C1.cl.P.place om
   obtain ⟨gH,cH,eH,hgH,hgH2,-,-⟩:=C1.H.place om
   rw [lV] at eV
   rw [lP] at eP
   rw [lH] at eH
   subst eV eP eH
   have hgx:=((rdNet.mono HG.out hb0).1.2.2.2 _ (List.getElem_mem hkn))
   obtain ⟨bn,off,ea,c0,c1,c2,c3,c4,c5,c6,c7,c8⟩:=((rdNet.mono HG.out hb0).1.2.2.1).nd k hkn
   have hcx:capXB (n.Ns.xs[k]'hkn)=(capB (ndK n k),0):=by
    rw [ndK_at hkn];simp [capXB,(netB_nd HN.out k hkn).1]
   have hok:isOut n k=decide ((n.Ns.xs[k]'hkn).Kind=3):=by unfold isOut;rw [ndK_at hkn]
   obtain ⟨x,hx⟩:∃ x,x=n.Ns.xs[k]'hkn:=⟨_,rfl⟩
   rw [<-hx] at c0 c1 c2 c3 c4 c5 c6 c7 c8 hgx hcx hok
   have hcap:=capB_le HN.out k hkn
   have hhk:=HBD.out k hkn
   obtain ⟨cp,hcp⟩:∃ cp,cp=capB (ndK n k):=⟨_,rfl⟩
   have i1:decide (k<m)=true:=decide_eq_true hkm
   have x7:IntKind.i64.wrap ((k:Int)+1)=k+1:=IntWalk.i64_in _ om
   have i4:(0:Int)<=k:=by omega
   have i5:(k:Int)<m:=by omega
   have hyH:hs'[k]'om=hs.getD k 0:=hH.out.here hkm om
   obtain ⟨z,hz⟩:∃ z,z=hs.getD k 0:=⟨_,rfl⟩
   rw [<-hz] at hyH hhk
   rw [<-hcp] at hcap hcx
   have hbA:Below wo.heap.size wo (wo.alloc (.cells (eNd x).toArray 48)):=qr.alloc (Nat.le_refl _) _
   have hbx:=boxNd wo (wo.alloc (.cells (eNd x).toArray 48)) 48 x _ rfl _ rfl qr
   have hsA:wo.heap.size<(wo.alloc (.cells (eNd x).toArray 48)).heap.size:=by simp
   obtain ⟨W2,hW2⟩:∃ W2,W2=wo.alloc (.cells (eNd x).toArray 48):=⟨_,rfl⟩
   have HW2:=qh hW2
   rw [<-hW2] at hbA hbx hsA
   obtain ⟨k0,k1,k2,k3,k4,k5,k6,k7,k8⟩:=hbx
   have hcall:=scapX_any x W2 (rdNd.mono hgx hbA)
   rw [hcx] at hcall
   simp only [vNd,vSl] at hcall
   rw [ea] at q0
   have EA:=qh ea
   have HX:=qh hok
   have HCP:=qh hcp
   have HZ:=qh hz
   have HKN:=qh hkn
   have C2:=C1.grow hbA
   clear hx hW2 hkn hgx hcx hok hcp hz
   go_upto_region 5 with (fail)
   rw [<-HW2.out]
   clear HW2 c0 c1 c2 c3 c4 c5 c6 c7 c8 ea
   have q0:=cel_lt q0 hbA
   go_wp2_with fail
   refine Calls.to hcall ?_
   rintro e w3 rfl hb3
   have q0:=cel_lt q0 hb3
   have k1:=cel_lt k1 hb3
   have C3:=C2.grow hb3
   have hs3:W2.heap.size<=w3.heap.size:=hb3.size
   have HFR3:Hid (∀ j,j<w.heap.size->gV≠j->gP≠j->gH≠j->w3.heap[j]? = w.heap[j]?):=qh (fun j hj h1 h2 h3=>by
    have hW:=HBW.out.size
    rw [hb3.block j om,hbA.block j om]
    exact hFR.out j hj (fun e=>h1 (by simpa [Value.ownBlock] using e)) (fun e=>h2 (by simpa [Value.ownBlock] using e)) (fun e=>h3 (by simpa [Value.ownBlock] using e)))
   clear hcall hb3 hbA C2 C1 k0 k2 k3 k4 k5 k6 k7 k8
   by_cases hk3:x.Kind=3
   ·have j1:(x.Kind==3)=true:=by rw [hk3];rfl
    have j2:decide (x.Kind=3)=true:=decide_eq_true hk3
    have HO:Hid (isOut n k=true):=qh (HX.out.trans j2)
    have f0:=C3.H.free k
    have e0:=C3.H.int1 (k:=k) om rfl
    clear hk3
    go_upto_region 8 with (fail)
    have C4:=C3.storeH (k:=k) om 0
    have q0:=cell_far q0 ⟨gH,k,none⟩ (.int .i64 0) (by have:=LH.out gH rfl;show _≠gH;omega)
    obtain ⟨w4,hw4⟩:∃ w4,w4=w3.setCell ⟨gH,k,none⟩ (.int .i64 0):=⟨_,rfl⟩
    have hs4:W2.heap.size<=w4.heap.size:=by rw [hw4];simp [World.setCell];exact hs3
    have HFR4:Hid (∀ j,j<w.heap.size->gV≠j->gP≠j->gH≠j->w4.heap[j]? = w.heap[j]?):=qh (fun j hj h1 h2 h3=>by
     rw [hw4,Below.heap_setCell _ _ _ _ (show j≠(⟨gH,k,none⟩:Addr).block from fun e=>h3 e.symm)]
     exact HFR3.out j hj h1 h2 h3)
    rw [<-hw4] at C4 q0 ⊢
    clear hw4 C3
    obtain ⟨y,hy⟩:∃ y:Int,y=0:=⟨_,rfl⟩
    rw [<-hy] at C4
    have hy1 : -2305843009213693952<=y/\y<=2305843009213693952:=by omega
    have HY:Hid ((if isOut n k then 0 else hs.getD k 0)=y):=qh (by rw [HO.out,hy];rfl)
    clear hy
    have lH4:(hs'.set k y).length=m:=by rw [List.length_set];exact lH
    have eH4:(hs'.set k y)[k]'om=y:=List.getElem_set_self om
    have e0:=C4.H.int1 (k:=k) om eH4
    have d0:=C4.cl.c0
    have d1:=C4.cl.c1
    have f0:=C4.cl.V.free k
    have eV:=C4.cl.V.int1 (k:=k) om rfl
    have HH':=qh (hH.out.set (y:=y) hkm HY.out.symm)
    go_wp2_with fail
    go_region
    have HV':=qh (hV.out.set (y:=min y cp) hkm (by show _=min (if isOut n k then 0 else hs.getD k 0) (capB (ndK n k));rw [HY.out,HCP.out]))
    have C5:=(C4.storeV (k:=k) om (min y cp)).grow (qr.drew)
    have q0:=cel_lt (cell_far q0 ⟨gV,k,none⟩ (.int .i64 (min y cp)) (by have:=LV.out gV rfl;show _≠gV;omega)) (qr.drew)
    have hs5:W2.heap.size<=(w4.setCell ⟨gV,k,none⟩ (.int .i64 (min y cp))).drew.heap.size:=by simp [World.setCell];exact hs4
    have HFR5:Hid (∀ j,j<w.heap.size->gV≠j->gP≠j->gH≠j->(w4.setCell ⟨gV,k,none⟩ (.int .i64 (min y cp))).drew.heap[j]? = w.heap[j]?):=qh (fun j hj h1 h2 h3=>(Below.heap_setCell w4 ⟨gV,k,none⟩ (.int .i64 (min y cp)) j (show j≠(⟨gV,k,none⟩:Addr).block from fun e=>h1 e.symm)).trans (HFR4.out j hj h1 h2 h3))
    clear e0 d0 d1 f0 eV
    generalize (w4.setCell ⟨gV,k,none⟩ (.int .i64 (min y cp))).drew=w5 at *
    have e0:=C5.H.int1 (k:=k) om eH4
    have d0:=C5.cl.c0
    have d1:=C5.cl.c1
    have f0:=C5.cl.P.free k
    have eV:=C5.cl.V.int1 (k:=k) (by rw [List.length_set];omega) (List.getElem_set_self (by rw [List.length_set];omega))
    have eP:=C5.cl.P.int1 (k:=k) om rfl
    have x8:IntKind.i64.wrap (y-min y cp)=y-min y cp:=IntWalk.i64_in _ om
    go_wp2_with fail
    go_region
    obtain ⟨r,hr⟩:∃ r,r=y-min y cp:=⟨_,rfl⟩
    rw [<-hr]
    have HP':=qh (hP.out.set (y:=r) hkm (by rw [hr];show _=(if isOut n k then 0 else hs.getD k 0)-min (if isOut n k then 0 else hs.getD k 0) (capB (ndK n k));rw [HY.out,HCP.out]))
    have C6:=(C5.storeP (k:=k) om r).grow (qr.drew)
    have q0:=cel_lt (cell_far q0 ⟨gP,k,none⟩ (.int .i64 r) (by have:=LP.out gP rfl;show _≠gP;omega)) (qr.drew)
    have hs6:W2.heap.size<=(w5.setCell ⟨gP,k,none⟩ (.int .i64 r)).drew.heap.size:=by simp [World.setCell];exact hs5
    have HFR6':Hid (∀ j,j<w.heap.size->gV≠j->gP≠j->gH≠j->(w5.setCell ⟨gP,k,none⟩ (.int .i64 r)).drew.heap[j]? = w.heap[j]?):=qh (fun j hj h1 h2 h3=>(Below.heap_setCell w5 ⟨gP,k,none⟩ (.int .i64 r) j (show j≠(⟨gP,k,none⟩:Addr).block from fun e=>h2 e.symm)).trans (HFR5.out j hj h1 h2 h3))
    clear e0 d0 d1 f0 eV eP x8 hr C5 C4 hs5
    generalize (w5.setCell ⟨gP,k,none⟩ (.int .i64 r)).drew=w6 at *
    have HS6:Hid (W.heap.size<=w6.heap.size):=qh om
    have HFR6:Hid (∀ j,j<w.heap.size->(Value.slice (some ⟨gV,0,none⟩) m cV).ownBlock≠some j->(Value.slice (some ⟨gP,0,none⟩) m cP).ownBlock≠some j->(Value.slice (some ⟨gH,0,none⟩) m cH).ownBlock≠some j->w6.heap[j]? = w.heap[j]?):=qh (fun j hj h1 h2 h3=>HFR6'.out j hj (fun e=>h1 (by rw [<-e];rfl)) (fun e=>h2 (by rw [<-e];rfl)) (fun e=>h3 (by rw [<-e];rfl)))
    have HKM:=qh hkm
    have HC6:=qh C6
    have HQ6:=qh q0
    clear q0
    have d1:=C6.cl.c1
    have e1:=C6.cl.P.int1 (k:=k) (by rw [List.length_set];omega) (List.getElem_set_self (by rw [List.length_set];omega))
    cases b
    ·have HB':Hid (false=true->∀ i,i<k+1->(ps'.set k r).getD i 0<=1125899906842624):=qh (fun h=>by cases h)
     go_wp2_with fail
     first|rw [<-EA.out]|skip
     go_roundw
     case measure=>have:=HKM.out;simp [RowKit.intOf,x7];omega
     case rel=>exact ⟨k+1,false,_,_,_,HKM.out,rfl,by go_num,HC6,(by rw [EA.out];exact HQ6.out),HS6.out,HFR6,HV',HP',HH',HB'⟩
    ·by_cases hr:r<=1125899906842624
     ·have i6:decide (r<=1125899906842624)=true:=decide_eq_true hr
      have HB':Hid (true=true->∀ i,i<k+1->(ps'.set k r).getD i 0<=1125899906842624):=qh (fun _ i hi=>by
       rw [getD_set _ _ _ _ om]
       split
       ·exact hr
       ·exact hB.out rfl i om)
      clear hr
      go_wp2_with fail
      first|rw [<-EA.out]|skip
      go_roundw
      case measure=>have:=HKM.out;simp [RowKit.intOf,x7];omega
      case rel=>exact ⟨k+1,true,_,_,_,HKM.out,rfl,by go_num,HC6,(by rw [EA.out];exact HQ6.out),HS6.out,HFR6,HV',HP',HH',HB'⟩
     ·have i6:decide (r<=1125899906842624)=false:=decide_eq_false hr
      have HB':Hid (false=true->∀ i,i<k+1->(ps'.set k r).getD i 0<=1125899906842624):=qh (fun h=>by cases h)
      clear hr
      go_wp2_with fail
      first|rw [<-EA.out]|skip
      go_roundw
      case measure=>have:=HKM.out;simp [RowKit.intOf,x7];omega
      case rel=>exact ⟨k+1,false,_,_,_,HKM.out,rfl,by go_num,HC6,(by rw [EA.out];exact HQ6.out),HS6.out,HFR6,HV',HP',HH',HB'⟩
   ·have j1:(x.Kind==3)=false:=by rw [beq_eq_false_iff_ne];exact hk3
    have j2:decide (x.Kind=3)=false:=decide_eq_false hk3
    have HO:Hid (isOut n k=false):=qh (HX.out.trans j2)
    have C4:=C3
    clear hk3
    obtain ⟨w4,hw4⟩:∃ w4,w4=w3:=⟨_,rfl⟩
    subst hw4
    have hs4:=hs3
    have HFR4:=HFR3
    have HZH:Hid (hs'=hs'.set k z):=qh (by rw [<-hyH];exact (List.set_getElem_self _).symm)
    have hy1:=hhk
    have HY:Hid ((if isOut n k then 0 else hs.getD k 0)=z):=qh (by rw [HO.out,HZ.out];rfl)
    have lH4:=lH
    have eH4:=hyH
    rw [HZH.out] at C4 lH4
    have eH4:(hs'.set k z)[k]'om=z:=List.getElem_set_self om
    have e0:=C4.H.int1 (k:=k) om eH4
    have d0:=C4.cl.c0
    have d1:=C4.cl.c1
    have f0:=C4.cl.V.free k
    have eV:=C4.cl.V.int1 (k:=k) om rfl
    have HH':=qh (hH.out.set (y:=z) hkm HY.out.symm)
    go_wp2_with fail
    go_region
    have HV':=qh (hV.out.set (y:=min z cp) hkm (by show _=min (if isOut n k then 0 else hs.getD k 0) (capB (ndK n k));rw [HY.out,HCP.out]))
    have C5:=(C4.storeV (k:=k) om (min z cp)).grow (qr.drew)
    have q0:=cel_lt (cell_far q0 ⟨gV,k,none⟩ (.int .i64 (min z cp)) (by have:=LV.out gV rfl;show _≠gV;omega)) (qr.drew)
    have hs5:W2.heap.size<=(w4.setCell ⟨gV,k,none⟩ (.int .i64 (min z cp))).drew.heap.size:=by simp [World.setCell];exact hs4
    have HFR5:Hid (∀ j,j<w.heap.size->gV≠j->gP≠j->gH≠j->(w4.setCell ⟨gV,k,none⟩ (.int .i64 (min z cp))).drew.heap[j]? = w.heap[j]?):=qh (fun j hj h1 h2 h3=>(Below.heap_setCell w4 ⟨gV,k,none⟩ (.int .i64 (min z cp)) j (show j≠(⟨gV,k,none⟩:Addr).block from fun e=>h1 e.symm)).trans (HFR4.out j hj h1 h2 h3))
    clear e0 d0 d1 f0 eV
    generalize (w4.setCell ⟨gV,k,none⟩ (.int .i64 (min z cp))).drew=w5 at *
    have e0:=C5.H.int1 (k:=k) om eH4
    have d0:=C5.cl.c0
    have d1:=C5.cl.c1
    have f0:=C5.cl.P.free k
    have eV:=C5.cl.V.int1 (k:=k) (by rw [List.length_set];omega) (List.getElem_set_self (by rw [List.length_set];omega))
    have eP:=C5.cl.P.int1 (k:=k) om rfl
    have x8:IntKind.i64.wrap (z-min z cp)=z-min z cp:=IntWalk.i64_in _ om
    go_wp2_with fail
    go_region
    obtain ⟨r,hr⟩:∃ r,r=z-min z cp:=⟨_,rfl⟩
    rw [<-hr]
    have HP':=qh (hP.out.set (y:=r) hkm (by rw [hr];show _=(if isOut n k then 0 else hs.getD k 0)-min (if isOut n k then 0 else hs.getD k 0) (capB (ndK n k));rw [HY.out,HCP.out]))
    have C6:=(C5.storeP (k:=k) om r).grow (qr.drew)
    have q0:=cel_lt (cell_far q0 ⟨gP,k,none⟩ (.int .i64 r) (by have:=LP.out gP rfl;show _≠gP;omega)) (qr.drew)
    have hs6:W2.heap.size<=(w5.setCell ⟨gP,k,none⟩ (.int .i64 r)).drew.heap.size:=by simp [World.setCell];exact hs5
    have HFR6':Hid (∀ j,j<w.heap.size->gV≠j->gP≠j->gH≠j->(w5.setCell ⟨gP,k,none⟩ (.int .i64 r)).drew.heap[j]? = w.heap[j]?):=qh (fun j hj h1 h2 h3=>(Below.heap_setCell w5 ⟨gP,k,none⟩ (.int .i64 r) j (show j≠(⟨gP,k,none⟩:Addr).block from fun e=>h2 e.symm)).trans (HFR5.out j hj h1 h2 h3))
    clear e0 d0 d1 f0 eV eP x8 hr C5 C4 hs5
    generalize (w5.setCell ⟨gP,k,none⟩ (.int .i64 r)).drew=w6 at *
    have HS6:Hid (W.heap.size<=w6.heap.size):=qh om
    have HFR6:Hid (∀ j,j<w.heap.size->(Value.slice (some ⟨gV,0,none⟩) m cV).ownBlock≠some j->(Value.slice (some ⟨gP,0,none⟩) m cP).ownBlock≠some j->(Value.slice (some ⟨gH,0,none⟩) m cH).ownBlock≠some j->w6.heap[j]? = w.heap[j]?):=qh (fun j hj h1 h2 h3=>HFR6'.out j hj (fun e=>h1 (by rw [<-e];rfl)) (fun e=>h2 (by rw [<-e];rfl)) (fun e=>h3 (by rw [<-e];rfl)))
    have HKM:=qh hkm
    have HC6:=qh C6
    have HQ6:=qh q0
    clear q0
    have d1:=C6.cl.c1
    have e1:=C6.cl.P.int1 (k:=k) (by rw [List.length_set];omega) (List.getElem_set_self (by rw [List.length_set];omega))
    cases b
    ·have HB':Hid (false=true->∀ i,i<k+1->(ps'.set k r).getD i 0<=1125899906842624):=qh (fun h=>by cases h)
     go_wp2_with fail
     first|rw [<-EA.out]|skip
     go_roundw
     case measure=>have:=HKM.out;simp [RowKit.intOf,x7];omega
     case rel=>exact ⟨k+1,false,_,_,_,HKM.out,rfl,by go_num,HC6,(by rw [EA.out];exact HQ6.out),HS6.out,HFR6,HV',HP',HH',HB'⟩
    ·by_cases hr:r<=1125899906842624
     ·have i6:decide (r<=1125899906842624)=true:=decide_eq_true hr
      have HB':Hid (true=true->∀ i,i<k+1->(ps'.set k r).getD i 0<=1125899906842624):=qh (fun _ i hi=>by
       rw [getD_set _ _ _ _ om]
       split
       ·exact hr
       ·exact hB.out rfl i om)
      clear hr
      go_wp2_with fail
      first|rw [<-EA.out]|skip
      go_roundw
      case measure=>have:=HKM.out;simp [RowKit.intOf,x7];omega
      case rel=>exact ⟨k+1,true,_,_,_,HKM.out,rfl,by go_num,HC6,(by rw [EA.out];exact HQ6.out),HS6.out,HFR6,HV',HP',HH',HB'⟩
     ·have i6:decide (r<=1125899906842624)=false:=decide_eq_false hr
      have HB':Hid (false=true->∀ i,i<k+1->(ps'.set k r).getD i 0<=1125899906842624):=qh (fun h=>by cases h)
      clear hr
      go_wp2_with fail
      first|rw [<-EA.out]|skip
      go_roundw
      case measure=>have:=HKM.out;simp [RowKit.intOf,x7];omega
      case rel=>exact ⟨k+1,false,_,_,_,HKM.out,rfl,by go_num,HC6,(by rw [EA.out];exact HQ6.out),HS6.out,HFR6,HV',HP',HH',HB'⟩
  ·have hkk:k=m:=by omega
   subst hkk
   have i1:decide (k<k)=false:=decide_eq_false (Nat.lt_irrefl k)
   have v1:=hV.out.all (Nat.le_refl _)
   have v2:=hP.out.all (Nat.le_refl _)
   have v3:=hH.out.all (Nat.le_refl _)
   have hR:Hid (SetR n hs vs' ps' hs' b):=qh (by
    have hM:=HM.out
    refine ⟨by rw [v1.1,hM],by rw [v2.1,hM],by rw [v3.1,hM],fun i hi=>v3.2 i om,fun i hi=>?_,fun i hi=>?_,fun hb i hi=>hB.out hb i om⟩
    ·rw [v1.2 i om,v3.2 i om]
    ·rw [v2.2 i om,v3.2 i om,v1.2 i om])
   clear v1 v2 v3 q0
   go_wp2_with fail
   go_ret
   exact ⟨b,vs',ps',hs',rfl,hR.out,hC.out,Nat.le_trans HBW.out.size hsz,hFR.out⟩
abbrev ePr (p:Int×Int):List Value:=[.int .i64 p.1,.int .i64 p.2]
theorem ePr_len (p:Int×Int):(ePr p).length=2:=rfl
theorem undPrs:Tryz.prog.underlying 179=some (.slice 183):=by kernel_rfl
theorem infPr:(Tryz.prog.info? 183).map (fun i=>(i.zero,i.size,i.bytes))=some (some (.agg #[.int .i64 0,.int .i64 0]),2,16):=by kernel_rfl
abbrev vPr (p:Int×Int):Value:=.agg #[.int .i64 p.1,.int .i64 p.2]
theorem IsC.prs {w:World} {a:Option Addr} {xs:List (Int×Int)} (h:IsC ePr 2 w a xs) (i:Nat) (hi:i<xs.length) :
  ∃ b off,a=some ⟨b,off,none⟩/\w.cell? ⟨b,off+i*2,none⟩=some (.int .i64 xs[i].1)/\w.cell? ⟨b,off+i*2+1,none⟩=some (.int .i64 xs[i].2):=by
 obtain ⟨b,off,e,hc⟩:=h i hi
 refine ⟨b,off,e,?_,?_⟩
 ·first|exact hc 0 om|simp
 ·first|exact hc 1 om|simp
end Go.Proofs.YtoiakijmbghhlaaGreat
