/- Valid of networks, the program's side. Conditions: the network reads as data. | Plain facts: when a state is right; the cause of a spill as a plain function; edges by index and by name agree in a right network. No function is named. Conditi -/
import Derived.Test.YtoiakijmbghhlaaGreatS14
import Derived.Test.YtoiakijmbghhlaaGreatS15
import Derived.Test.YtoiakijmbghhlaaGreatS03
set_option linter.unusedVariables false
set_option linter.unusedSimpArgs false
set_option maxRecDepth 100000
set_option maxHeartbeats 32000000
namespace Go.Proofs.YtoiakijmbghhlaaGreat
open Go.RowKit
theorem nvalid_any (n:Net) (w:World) (hg:gNet w n):Calls Tryz.prog 58 #[vNet n] w fun e w'=>e=.returned (.bool (netB n))/\Below w.heap.size w w':=by
 obtain ⟨⟨na,nc,nxs⟩,⟨la,lc,lxs⟩⟩:=n
 obtain ⟨hN,hL⟩:=hg
 simp only at hN hL
 have hsN:=hN.2.2.1
 have hsL:=hL.2.2.1
 have isN:IsNds w (vSl (⟨na,nc,nxs⟩:Sl Nd)) nxs:=hN.isL
 have isL:IsLks w (vSl (⟨la,lc,lxs⟩:Sl Lk)) lxs:=hL.isL
 have gN:=hN.2.2.2
 have gL:=hL.2.2.2
 clear hN hL
 simp only at hsN hsL gN gL
 simp only [vNet,vSl]
 by_cases z1:300<nxs.length
 ·have q1:decide ((300:Int)<(nxs.length:Int))=true:=decide_eq_true om
  have HS:=qh (netB_bad1 (n:=⟨⟨na,nc,nxs⟩,⟨la,lc,lxs⟩⟩) z1)
  go_enter Tryz.func58,Tryz.ntmps58
  go_wp2_with fail
  go_ret
  exact ⟨ret_bool HS.out.symm,bl⟩
 have q1:decide ((300:Int)<(nxs.length:Int))=false:=decide_eq_false om
 by_cases z2:400<lxs.length
 ·have q2:decide ((400:Int)<(lxs.length:Int))=true:=decide_eq_true om
  have HS:=qh (netB_bad2 (n:=⟨⟨na,nc,nxs⟩,⟨la,lc,lxs⟩⟩) z2)
  go_enter Tryz.func58,Tryz.ntmps58
  go_wp2_with fail
  go_ret
  exact ⟨ret_bool HS.out.symm,bl⟩
 have q2:decide ((400:Int)<(lxs.length:Int))=false:=decide_eq_false om
 have HS:=qh (netB_is (n:=⟨⟨na,nc,nxs⟩,⟨la,lc,lxs⟩⟩) z1 z2)
 simp only at HS
 go_enter Tryz.func58,Tryz.ntmps58
 go_wp2_with fail
 go_loopw [21] (fun s21 wr=>∃ k:Nat,k<=nxs.length/\s21=.int .i64 k/\Below (w.heap.size+1) (w.alloc (.cells #[.slice na nxs.length nc,.slice la lxs.length lc] 25)) wr/\Hid (allFrom (okNd nxs) 0 nxs.length=allFrom (okNd nxs) k nxs.length)) (fun i _=>nxs.length-(intOf i).toNat)
 case atStart=>exact ⟨0,Nat.zero_le _,rfl,qr,rfl⟩
 case round=>
  as_aux_lemma=>
  obtain ⟨k,hk,rfl,hb,hm⟩:=hrel
  have hbw:Below w.heap.size w wr:=(qr.alloc (Nat.le_refl _) _).trans (hb.mono om)
  obtain ⟨e0,e1⟩:=boxNet w wr 25 ⟨⟨na,nc,nxs⟩,⟨la,lc,lxs⟩⟩ _ rfl _ rfl hb
  simp only [vSl] at e0 e1
  by_cases hlt:k<nxs.length
  ·obtain ⟨b,off,rfl,c0,c1,c2,c3,c4,c5,c6,c7,c8⟩:=(hsN.mono hbw).nd k hlt
   have gx:=rdNd.mono (gN _ (List.getElem_mem hlt)) hbw
   have HO:=qh (okNd_at hlt)
   have HA:=qh (allFrom_step (okNd nxs) hlt)
   have isNr:=isN.mono hbw
   clear hsN hsL gN gL isN isL
   generalize nxs[k]=x at *
   go_wp2_with fail
   refine Calls.to (rightNode_any x _ (rdNd.mono gx (qr.alloc (Nat.le_refl _) _))) ?_
   rintro e w1 rfl hb1
   have hbx:Below (wr.heap.size+1) (wr.alloc (.cells (eNd x).toArray 48)) w1:=by simpa using hb1
   obtain ⟨d0,d1,d2,d3,d4,d5,d6,d7,d8⟩:=boxNd wr w1 48 x _ rfl _ rfl hbx
   have hb1':Below wr.heap.size wr w1:=(qr.alloc (Nat.le_refl _) _).trans (hbx.mono om)
   have e0:=box_lt e0 hb1'
   have e1:=box_lt e1 hb1'
   have hbw1:=hbw.trans (hb1'.mono hbw.size)
   have hbW:=hb.trans (hb1'.mono (by simpa using hb.size))
   have isN1:=isNr.mono hb1'
   clear hb1 hbx hb1' isNr c0 c1 c2 c3 c4 c5 c6 c7 c8
   cases hx:ndB x
   ·have HX:=qh hx
    go_wp2_with fail
    go_ret
    exact ⟨ret_bool (HS.out.trans (by rw [hm.out,HA.out,HO.out,HX.out];rfl)).symm,hbw1⟩
   have HX:=qh hx
   go_wp2_with fail
   refine Calls.to (node_any ⟨⟨some ⟨b,off,none⟩,nc,nxs⟩,⟨la,lc,lxs⟩⟩ x.Name _ isN1) ?_
   rintro e w2 rfl hb2
   simp only
   have hbw2:=hbw1.trans (hb2.mono hbw1.size)
   have hbW2:=hbW.trans (hb2.mono (by simpa using hbW.size))
   clear hb2 isN1 hbw1 hbW e0 e1 d0 d1 d2 d3 d4 d5 d6 d7 d8
   by_cases hf:findNd nxs x.Name=k
   ·have HF:=qh hf
    have u1:=bneF hf
    have u2:=beqT hf
    clear hf
    go_wp2_with fail
    go_roundw
    case rel=>exact ⟨k+1,by omega,by go_num,hbW2,hm.out.trans (by rw [HA.out,HO.out,HX.out,HF.out];simp)⟩
    case measure=>simp [intOf];omega
   ·have HF:=qh hf
    have u1:=bneT hf
    have u2:=beqF hf
    clear hf
    go_wp2_with fail
    go_ret
    exact ⟨ret_bool (HS.out.trans (by rw [hm.out,HA.out,HO.out,HX.out];simp [HF.out])).symm,hbw2⟩
  ·have HN:Hid (netB ⟨⟨na,nc,nxs⟩,⟨la,lc,lxs⟩⟩=allFrom (okLk nxs lxs) 0 lxs.length):=by
    show _=_
    rw [HS.out,hm.out,allFrom_end _ om];rfl
   clear hm HS
   go_wp2_with fail
   go_loopw [41] (fun s41 wr2=>∃ k:Nat,k<=lxs.length/\s41=.int .i64 k/\Below (w.heap.size+1) (w.alloc (.cells #[.slice na nxs.length nc,.slice la lxs.length lc] 25)) wr2/\Hid (allFrom (okLk nxs lxs) 0 lxs.length=allFrom (okLk nxs lxs) k lxs.length)) (fun i _=>lxs.length-(intOf i).toNat)
   case atStart=>exact ⟨0,Nat.zero_le _,rfl,hb,rfl⟩
   case round=>
    as_aux_lemma=>
    obtain ⟨k,hk,rfl,hb,hm⟩:=hrel
    have hbw:Below w.heap.size w wr:=(qr.alloc (Nat.le_refl _) _).trans (hb.mono om)
    obtain ⟨e0,e1⟩:=boxNet w wr 25 ⟨⟨na,nc,nxs⟩,⟨la,lc,lxs⟩⟩ _ rfl _ rfl hb
    simp only [vSl] at e0 e1
    by_cases hlt:k<lxs.length
    ·obtain ⟨b,off,rfl,c0,c1,c2,c3,c4,c5,c6,c7,c8,c9,c10⟩:=(hsL.mono hbw).lk k hlt
     have gx:=rdLk.mono (gL _ (List.getElem_mem hlt)) hbw
     have HO:=qh (okLk_at (ns:=nxs) hlt)
     have HA:=qh (allFrom_step (okLk nxs lxs) hlt)
     have isNr:=isN.mono hbw
     have isLr:=isL.mono hbw
     have hsNr:=hsN.mono hbw
     clear hsN hsL gN gL isN isL
     generalize lxs[k]=x at *
     go_wp2_with fail
     refine Calls.to (rightLink_any x _ (rdLk.mono gx (qr.alloc (Nat.le_refl _) _))) ?_
     rintro e w1 rfl hb1
     have hbx:Below (wr.heap.size+1) (wr.alloc (.cells (eLk x).toArray 61)) w1:=by simpa using hb1
     obtain ⟨d0,d1,d2,d3,d4,d5,d6,d7,d8,d9,d10⟩:=boxLk wr w1 61 x _ rfl _ rfl hbx
     have hb1':Below wr.heap.size wr w1:=(qr.alloc (Nat.le_refl _) _).trans (hbx.mono om)
     have e0:=box_lt e0 hb1'
     have e1:=box_lt e1 hb1'
     have hbw1:=hbw.trans (hb1'.mono hbw.size)
     have hbW:=hb.trans (hb1'.mono (by simpa using hb.size))
     have isN1:=isNr.mono hb1'
     have isL1:=isLr.mono hb1'
     have hsN1:=hsNr.mono hb1'
     clear hb1 hbx hb1' isNr isLr hsNr c0 c1 c2 c3 c4 c5 c6 c7 c8 c9 c10 d3 d4 d5 d6 d7 d8 d9 d10
     cases hx:lkB x
     ·have HX:=qh hx
      go_wp2_with fail
      go_ret
      exact ⟨ret_bool (HN.out.trans (by rw [hm.out,HA.out,HO.out,HX.out];rfl)).symm,hbw1⟩
     have HX:=qh hx
     go_wp2_with fail
     refine Calls.to (link_any ⟨⟨na,nc,nxs⟩,⟨some ⟨b,off,none⟩,lc,lxs⟩⟩ x.Name _ isL1) ?_
     rintro e w2 rfl hb2
     simp only
     have hbw2:=hbw1.trans (hb2.mono hbw1.size)
     have hbW2:=hbW.trans (hb2.mono (by simpa using hbW.size))
     have e0:=box_lt e0 hb2
     have e1:=box_lt e1 hb2
     have d1:=box_lt d1 hb2
     have d2:=box_lt d2 hb2
     have isN2:=isN1.mono hb2
     have hsN2:=hsN1.mono hb2
     clear hb2 isN1 isL1 hsN1 hbw1 hbW d0 hx
     by_cases hf:findLk lxs x.Name=k
     rotate_left
     ·have HF:=qh hf
      have u1:=bneT hf
      have u2:=beqF hf
      clear hf
      go_wp2_with fail
      go_ret
      exact ⟨ret_bool (HN.out.trans (by rw [hm.out,HA.out,HO.out,HX.out];simp [HF.out])).symm,hbw2⟩
     have HF:=qh hf
     have u1:=bneF hf
     have u2:=beqT hf
     clear hf
     go_wp2_with fail
     refine Calls.to (node_any ⟨⟨na,nc,nxs⟩,⟨some ⟨b,off,none⟩,lc,lxs⟩⟩ x.From _ isN2) ?_
     rintro e w3 rfl hb3
     simp only
     have hbw3:=hbw2.trans (hb3.mono hbw2.size)
     have hbW3:=hbW2.trans (hb3.mono (by simpa using hbW2.size))
     have e0:=box_lt e0 hb3
     have e1:=box_lt e1 hb3
     have d2:=box_lt d2 hb3
     have isN3:=isN2.mono hb3
     have hsN3:=hsN2.mono hb3
     have hfb:=findNd_bd nxs x.From
     clear hb3 isN2 hsN2 hbw2 hbW2 d1 u1 u2
     generalize findNd nxs x.From=f at *
     by_cases hf0:f<0
     ·have u1:decide (f<0)=true:=decide_eq_true hf0
      have HZ:Hid (decide (0<=f)=false):=decide_eq_false om
      go_wp2_with fail
      go_ret
      exact ⟨ret_bool (HN.out.trans (by rw [hm.out,HA.out,HO.out,HX.out,HZ.out];simp)).symm,hbw3⟩
     have u1:decide (f<0)=false:=decide_eq_false hf0
     have HZ:Hid (decide (0<=f)=true):=decide_eq_true om
     obtain ⟨j,rfl⟩:∃ j:Nat,f=(j:Int):=⟨f.toNat,by omega⟩
     have hj:j<nxs.length:=by omega
     have u1':decide ((j:Int)<0)=false:=decide_eq_false om
     clear hf0
     go_wp2_with fail
     refine Calls.to (node_any ⟨⟨na,nc,nxs⟩,⟨some ⟨b,off,none⟩,lc,lxs⟩⟩ x.To _ isN3) ?_
     rintro e w4 rfl hb4
     simp only
     have hbw4:=hbw3.trans (hb4.mono hbw3.size)
     have hbW4:=hbW3.trans (hb4.mono (by simpa using hbW3.size))
     have e0:=box_lt e0 hb4
     have e1:=box_lt e1 hb4
     have hsN4:=hsN3.mono hb4
     have htb:=findNd_bd nxs x.To
     clear hb4 isN3 hsN3 hbw3 hbW3 d2
     generalize findNd nxs x.To=g at *
     by_cases hg0:g<0
     ·have v1:decide (g<0)=true:=decide_eq_true hg0
      have HY:Hid (decide (0<=g)=false):=decide_eq_false om
      go_wp2_with fail
      go_ret
      exact ⟨ret_bool (HN.out.trans (by rw [hm.out,HA.out,HO.out,HX.out,HZ.out,HY.out];simp)).symm,hbw4⟩
     have v1:decide (g<0)=false:=decide_eq_false hg0
     have HY:Hid (decide (0<=g)=true):=decide_eq_true om
     obtain ⟨nb,noff,rfl,a0,a1,a2,a3,a4,a5,a6,a7,a8⟩:=hsN4.nd j hj
     have HG:Hid ((nxs.getD (j:Int).toNat default).Kind=nxs[j].Kind):=by
      show _=_
      simp only [Int.toNat_natCast,List.getD,List.getElem?_eq_getElem hj,Option.getD_some]
     clear hsN4 a0 a2 a3 a4 a5 a6 a7 a8
     generalize nxs[j]=y at *
     by_cases hk3:y.Kind=3
     ·have r1:=beqT hk3
      have HK3:=qh hk3
      clear hk3
      go_wp2_with fail
      go_ret
      exact ⟨ret_bool (HN.out.trans (by rw [hm.out,HA.out,HO.out,HX.out,HZ.out,HY.out,HG.out];simp [HK3.out])).symm,hbw4⟩
     ·have r1:=beqF hk3
      have HK3:=qh hk3
      clear hk3
      go_wp2_with fail
      go_roundw
      case rel=>exact ⟨k+1,by omega,by go_num,hbW4,hm.out.trans (by rw [HA.out,HO.out,HX.out,HZ.out,HY.out,HG.out];simp [HK3.out,HF.out])⟩
      case measure=>simp [intOf];omega
    ·go_wp2_with fail
     go_ret
     refine ⟨ret_bool ?_,hbw⟩
     rw [HN.out,hm.out,allFrom_end _ om]
def okV (ns:List Nd) (V P:List Int) (i:Nat):Bool:=
 btwB (V.getD i 0) 0 (capB (ns.getD i default))&&volB (P.getD i 0) && !(decide ((ns.getD i default).Kind=3) && !decide (P.getD i 0=0))
def okS (ls:List Lk) (S:List Int) (O:List Bool) (i:Nat):Bool:=
 btwB (S.getD i 0) 0 1000 && !(O.getD i false && !decide ((ls.getD i default).Kind=4))
def stLen (n:Net) (s:St):Bool:=decide (s.V.xs.length=n.Ns.xs.length)&&decide (s.P.xs.length=n.Ns.xs.length)&&decide (s.S.xs.length=n.Ls.xs.length)&&decide (s.O.xs.length=n.Ls.xs.length)
def stB (n:Net) (s:St):Bool:=stLen n s&&(allFrom (okV n.Ns.xs s.V.xs s.P.xs) 0 n.Ns.xs.length&&allFrom (okS n.Ls.xs s.S.xs s.O.xs) 0 n.Ls.xs.length)
theorem strB_iff {a b:ByteArray}:strB a b=true↔a.toList=b.toList:=by simp [strB]
theorem netB_parts {n:Net} (h:netB n=true):(∀ i,i<n.Ns.xs.length->okNd n.Ns.xs i=true)/\(∀ i,i<n.Ls.xs.length->okLk n.Ns.xs n.Ls.xs i=true):=by
 simp only [netB,Bool.and_eq_true,allFrom_iff] at h
 exact ⟨h.1.2,h.2⟩
theorem netB_nd {n:Net} (h:netB n=true) (i:Nat) (hi:i<n.Ns.xs.length):ndB n.Ns.xs[i]=true/\findNd n.Ns.xs n.Ns.xs[i].Name=i:=by
 have:=(netB_parts h).1 i hi
 simpa [okNd,List.getD,List.getElem?_eq_getElem hi] using this
theorem netB_lk {n:Net} (h:netB n=true) (i:Nat) (hi:i<n.Ls.xs.length):0<=findNd n.Ns.xs n.Ls.xs[i].From/\0<=findNd n.Ns.xs n.Ls.xs[i].To:=by
 have:=(netB_parts h).2 i hi
 simp [okLk,List.getD,List.getElem?_eq_getElem hi] at this
 omega
theorem ndB_knot {x:Nd} (h:ndB x=true):x.Kind=3\/1<=x.Sh.xs.length:=by
 by_cases k:x.Kind=1\/x.Kind=2
 ·right
  simp only [ndB,Bool.and_eq_true,kindNdB,if_pos k,shapeB] at h
  exact (tabB_len h.2.1.1.2.1.1.1).1
 ·left
  simp only [ndB,Bool.and_eq_true,kindNdB,if_neg k] at h
  by_cases k3:x.Kind=3
  ·exact k3
  ·rw [if_neg k3] at h;simp at h
def edgesM (ns:List Nd) (ls:List Lk):List (Int×Int):=ls.map fun l=>(findNd ns l.From,findNd ns l.To)
theorem cap_lit {x:Nd} {c:Int} (h:capB x=c) (w:World) (hg:gNd w x) (hok:x.Kind=3\/1<=x.Sh.xs.length):Calls Tryz.prog 96 #[vNd x] w fun e w'=>e=.returned (.int .i64 c)/\Below w.heap.size w w':=by
 rw [<-h];exact scap_any x w hg hok
theorem within_lit {n lo hi:Int} {b:Bool} (h:btwB n lo hi=b) (w:World):Calls Tryz.prog 95 #[.int .i64 n,.int .i64 lo,.int .i64 hi] w fun e w'=>e=.returned (.bool b)/\w'=w:=by
 rw [<-h];exact swithin_any n lo hi w
theorem holds_lit {n:Int} {b:Bool} (h:volB n=b) (w:World):Calls Tryz.prog 97 #[.int .i64 n] w fun e w'=>e=.returned (.bool b)/\w'=w:=by
 rw [<-h];exact sholds_any n w
theorem boxSt (w W:World) (T:TypeId) (s:St) (cs:Array Value) (hcs:cs=(eSt s).toArray) (B:Nat) (hB:B=w.heap.size+1) (hb:Below B (w.alloc (.cells cs T)) W) :
  W.cell? ⟨w.heap.size,0,none⟩=some (vSl s.V)/\W.cell? ⟨w.heap.size,1,none⟩=some (vSl s.P)/\W.cell? ⟨w.heap.size,2,none⟩=some (vSl s.S)/\W.cell? ⟨w.heap.size,3,none⟩=some (vSl s.O):=by
 subst hB;subst hcs
 exact ⟨(hb.cell (p:=⟨w.heap.size,0,none⟩) (by simp)).trans (by simp [go_sem]),(hb.cell (p:=⟨w.heap.size,1,none⟩) (by simp)).trans (by simp [go_sem]),(hb.cell (p:=⟨w.heap.size,2,none⟩) (by simp)).trans (by simp [go_sem]),(hb.cell (p:=⟨w.heap.size,3,none⟩) (by simp)).trans (by simp [go_sem])⟩
theorem IsC.boolAt {w:World} {a:Option Addr} {xs:List Bool} (h:IsC eBool 1 w a xs) (i:Nat) (hi:i<xs.length):∃ b off,a=some ⟨b,off,none⟩/\w.cell? ⟨b,off+i,none⟩=some (.bool xs[i]):=by
 obtain ⟨b,off,e,hc⟩:=h i hi
 exact ⟨b,off,e,by simpa using hc 0 om⟩
theorem okV_at {ns:List Nd} {V P:List Int} {i:Nat} (h1:i<ns.length) (h2:i<V.length) (h3:i<P.length):okV ns V P i=(btwB V[i] 0 (capB ns[i])&&volB P[i] && !(decide (ns[i].Kind=3) && !decide (P[i]=0))):=by
 simp only [okV,List.getD,List.getElem?_eq_getElem h1,List.getElem?_eq_getElem h2,List.getElem?_eq_getElem h3,Option.getD_some]
theorem okS_at {ls:List Lk} {S:List Int} {O:List Bool} {i:Nat} (h1:i<ls.length) (h2:i<S.length) (h3:i<O.length):okS ls S O i=(btwB S[i] 0 1000 && !(O[i] && !decide (ls[i].Kind=4))):=by
 simp only [okS,List.getD,List.getElem?_eq_getElem h1,List.getElem?_eq_getElem h2,List.getElem?_eq_getElem h3,Option.getD_some]
theorem stB_len {n:Net} {s:St} (h:stLen n s=false):stB n s=false:=by simp [stB,h]
theorem stB_is {n:Net} {s:St} (h:stLen n s=true):stB n s=(allFrom (okV n.Ns.xs s.V.xs s.P.xs) 0 n.Ns.xs.length&&allFrom (okS n.Ls.xs s.S.xs s.O.xs) 0 n.Ls.xs.length):=by simp [stB,h]
theorem svalid_any (n:Net) (s:St) (w:World) (hg:gNet w n) (hgs:gSt w s):Calls Tryz.prog 31 #[vNet n,vSt s] w fun e w'=>e=.returned (.bool (netB n&&stB n s))/\Below w.heap.size w w':=by
 obtain ⟨⟨na,nc,nxs⟩,⟨la,lc,lxs⟩⟩:=n
 obtain ⟨⟨va,vc,vs⟩,⟨pa,pc,ps⟩,⟨ea,ec,ss⟩,⟨oa,oc,os⟩⟩:=s
 obtain ⟨hV,hP,hE,hO⟩:=hgs
 simp only at hV hP hE hO
 have hgn:=hg
 obtain ⟨hN,hL⟩:=hg
 simp only at hN hL
 have hb0:Below w.heap.size w ((w.alloc (.cells #[.slice na nxs.length nc,.slice la lxs.length lc] 25)).alloc (.cells #[.slice va vs.length vc,.slice pa ps.length pc,.slice ea ss.length ec,.slice oa os.length oc] 31)):=(qr.alloc (Nat.le_refl _) _).alloc (by simp) _
 obtain ⟨res,hres⟩:∃ res,(netB ⟨⟨na,nc,nxs⟩,⟨la,lc,lxs⟩⟩&&stB ⟨⟨na,nc,nxs⟩,⟨la,lc,lxs⟩⟩ ⟨⟨va,vc,vs⟩,⟨pa,pc,ps⟩,⟨ea,ec,ss⟩,⟨oa,oc,os⟩⟩)=res:=⟨_,rfl⟩
 rw [hres]
 have HR:=qh hres
 clear hres
 simp only [vNet,vSt,vSl]
 go_enter Tryz.func31,Tryz.ntmps31
 go_wp2_with fail
 refine Calls.to (nvalid_any ⟨⟨na,nc,nxs⟩,⟨la,lc,lxs⟩⟩ _ (rdNet.mono hgn hb0)) ?_
 rintro e w1 rfl hb1
 have hb:Below (w.heap.size+2) ((w.alloc (.cells #[.slice na nxs.length nc,.slice la lxs.length lc] 25)).alloc (.cells #[.slice va vs.length vc,.slice pa ps.length pc,.slice ea ss.length ec,.slice oa os.length oc] 31)) w1:=by simpa using hb1
 have hbw:=hb0.trans (hb1.mono hb0.size)
 obtain ⟨f0,f1,f2,f3⟩:=boxSt (w.alloc (.cells #[.slice na nxs.length nc,.slice la lxs.length lc] 25)) w1 31 ⟨⟨va,vc,vs⟩,⟨pa,pc,ps⟩,⟨ea,ec,ss⟩,⟨oa,oc,os⟩⟩ _ rfl (w.heap.size+2) (by simp) hb
 obtain ⟨e0,e1⟩:=boxNet w w1 25 ⟨⟨na,nc,nxs⟩,⟨la,lc,lxs⟩⟩ _ rfl _ rfl ((qr.alloc (by simp) _).trans (hb.mono om))
 rw [show (w.alloc (.cells #[.slice na nxs.length nc,.slice la lxs.length lc] 25)).heap.size=w.heap.size+1 from by simp] at f0 f1 f2 f3
 simp only [vSl] at e0 e1 f0 f1 f2 f3
 clear hb1 hgn
 cases hnet:netB ⟨⟨na,nc,nxs⟩,⟨la,lc,lxs⟩⟩
 ·have HX:=qh hnet
  go_wp2_with fail
  go_ret
  exact ⟨ret_bool (HR.out.symm.trans (by rw [HX.out];rfl)).symm,hbw⟩
 have HX:=qh hnet
 have HS0:=qh (HR.out.symm.trans (by rw [HX.out,Bool.true_and]:_=stB ⟨⟨na,nc,nxs⟩,⟨la,lc,lxs⟩⟩ ⟨⟨va,vc,vs⟩,⟨pa,pc,ps⟩,⟨ea,ec,ss⟩,⟨oa,oc,os⟩⟩))
 clear HR
 by_cases l1:vs.length=nxs.length
 rotate_left
 ·have q:=bneT (a:=(vs.length:Int)) (b:=(nxs.length:Int)) om
  have q':(vs.length != nxs.length)=true:=by simpa using l1
  have HS:Hid (res=false):=qh (HS0.out.trans (stB_len (by simp [stLen,l1])))
  go_wp2_with fail
  go_ret
  exact ⟨ret_bool HS.out.symm,hbw⟩
 have q1:=bneF (a:=(vs.length:Int)) (b:=(nxs.length:Int)) om
 have q1':(vs.length != nxs.length)=false:=by simpa using l1
 by_cases l2:ps.length=nxs.length
 rotate_left
 ·have q:=bneT (a:=(ps.length:Int)) (b:=(nxs.length:Int)) om
  have q':(ps.length != nxs.length)=true:=by simpa using l2
  have HS:Hid (res=false):=qh (HS0.out.trans (stB_len (by simp [stLen,l2])))
  go_wp2_with fail
  go_ret
  exact ⟨ret_bool HS.out.symm,hbw⟩
 have q2:=bneF (a:=(ps.length:Int)) (b:=(nxs.length:Int)) om
 have q2':(ps.length != nxs.length)=false:=by simpa using l2
 by_cases l3:ss.length=lxs.length
 rotate_left
 ·have q:=bneT (a:=(ss.length:Int)) (b:=(lxs.length:Int)) om
  have q':(ss.length != lxs.length)=true:=by simpa using l3
  have HS:Hid (res=false):=qh (HS0.out.trans (stB_len (by simp [stLen,l3])))
  go_wp2_with fail
  go_ret
  exact ⟨ret_bool HS.out.symm,hbw⟩
 have q3:=bneF (a:=(ss.length:Int)) (b:=(lxs.length:Int)) om
 have q3':(ss.length != lxs.length)=false:=by simpa using l3
 by_cases l4:os.length=lxs.length
 rotate_left
 ·have q:=bneT (a:=(os.length:Int)) (b:=(lxs.length:Int)) om
  have q':(os.length != lxs.length)=true:=by simpa using l4
  have HS:Hid (res=false):=qh (HS0.out.trans (stB_len (by simp [stLen,l4])))
  go_wp2_with fail
  go_ret
  exact ⟨ret_bool HS.out.symm,hbw⟩
 have q4:=bneF (a:=(os.length:Int)) (b:=(lxs.length:Int)) om
 have q4':(os.length != lxs.length)=false:=by simpa using l4
 have HS:=qh (HS0.out.trans (stB_is (n:=⟨⟨na,nc,nxs⟩,⟨la,lc,lxs⟩⟩) (s:=⟨⟨va,vc,vs⟩,⟨pa,pc,ps⟩,⟨ea,ec,ss⟩,⟨oa,oc,os⟩⟩) (by simp [stLen,l1,l2,l3,l4])))
 clear HS0
 simp only at HS
 have L1:=qh l1
 have L2:=qh l2
 have L3:=qh l3
 have L4:=qh l4
 have hnd:=netB_nd hnet
 simp only at hnd
 clear l1 l2 l3 l4 hnet
 have hlx:lxs.length<=9223372036854775807:=by
  have h1:lxs.length<=lc:=hL.1
  have h2:lc<=9223372036854775807:=hL.2.1
  omega
 have hnx:nxs.length<=9223372036854775807:=by
  have h1:nxs.length<=nc:=hN.1
  have h2:nc<=9223372036854775807:=hN.2.1
  omega
 go_wp2_with fail
 go_loopw [51] (fun s51 wr=>∃ k:Nat,k<=nxs.length/\s51=.int .i64 k/\Below (w.heap.size+2) ((w.alloc (.cells #[.slice na nxs.length nc,.slice la lxs.length lc] 25)).alloc (.cells #[.slice va vs.length vc,.slice pa ps.length pc,.slice ea ss.length ec,.slice oa os.length oc] 31)) wr/\Hid (allFrom (okV nxs vs ps) 0 nxs.length=allFrom (okV nxs vs ps) k nxs.length)) (fun i _=>nxs.length-(intOf i).toNat)
 case atStart=>exact ⟨0,Nat.zero_le _,rfl,hb,rfl⟩
 clear hb hbw e0 e1 f0 f1 f2 f3
 case round=>
  as_aux_lemma=>
  obtain ⟨k,hk,rfl,hb,hm⟩:=hrel
  have hbw:Below w.heap.size w wr:=hb0.trans (hb.mono om)
  obtain ⟨f0,f1,f2,f3⟩:=boxSt (w.alloc (.cells #[.slice na nxs.length nc,.slice la lxs.length lc] 25)) wr 31 ⟨⟨va,vc,vs⟩,⟨pa,pc,ps⟩,⟨ea,ec,ss⟩,⟨oa,oc,os⟩⟩ _ rfl (w.heap.size+2) (by simp) hb
  obtain ⟨e0,e1⟩:=boxNet w wr 25 ⟨⟨na,nc,nxs⟩,⟨la,lc,lxs⟩⟩ _ rfl _ rfl ((qr.alloc (by simp) _).trans (hb.mono om))
  rw [show (w.alloc (.cells #[.slice na nxs.length nc,.slice la lxs.length lc] 25)).heap.size=w.heap.size+1 from by simp] at f0 f1 f2 f3
  simp only [vSl] at e0 e1 f0 f1 f2 f3
  by_cases hlt:k<nxs.length
  ·have kv:k<vs.length:=by have:=L1.out;omega
   have kp:k<ps.length:=by have:=L2.out;omega
   obtain ⟨b,off,rfl,c0,c1,c2,c3,c4,c5,c6,c7,c8⟩:=(hN.2.2.1.mono hbw).nd k hlt
   obtain ⟨vb,vo,rfl,cv⟩:=(hV.2.2.1.mono hbw).int k kv
   obtain ⟨pb,po,rfl,cp⟩:=(hP.2.2.1.mono hbw).int k kp
   have gx:=rdNd.mono (hN.2.2.2 _ (List.getElem_mem hlt)) hbw
   have hok:=ndB_knot (hnd k hlt).1
   have HO:=qh (okV_at hlt kv kp)
   have HA:=qh (allFrom_step (okV nxs vs ps) hlt)
   have i1:(0:Int)<=k:=by omega
   have i2:(k:Int)<vs.length:=by omega
   have i3:(k:Int)<ps.length:=by omega
   clear hN hL hV hP hE hO hnd
   simp only at cv cp
   generalize nxs[k]=x at *
   generalize vs[k]=v at *
   generalize ps[k]=p at *
   obtain ⟨c,hc⟩:∃ c,capB x=c:=⟨_,rfl⟩
   rw [hc] at HO
   have HC:=qh hc
   clear hc
   cases t1:btwB v 0 c
   ·have HW:=qh t1
    obtain ⟨vp,hvp⟩:∃ b,volB p=b:=⟨_,rfl⟩
    have HH:=qh hvp
    clear t1 hvp
    go_wp2_with fail
    refine wp_region_more_lit (by kernel_rfl) (by kernel_rfl) ?_
    repeat (go_big_quiet_step (((first|(go_at_call 96;exact Calls.more_of (cap_lit HC.out _ (rdNd.mono gx ((qr.alloc (Nat.le_refl _) _).trans ((below_more _ _).mono (by simp)))) hok))|(go_at_call 95;exact Calls.more_same (within_lit HW.out _))|(go_at_call 97;exact Calls.more_same (holds_lit HH.out _))))))
    refine wpQuiet_nil ?_
    intro _ hwq
    obtain ⟨xq,hwq⟩:=hwq
    subst hwq
    have hbx:Below wr.heap.size wr (more (wr.alloc (.cells #[.string x.Name,.int .i64 x.Kind,.int .i64 x.AX,.int .i64 x.AY,.int .i64 x.Inv,.int .i64 x.Gr,.slice x.Sh.a x.Sh.xs.length x.Sh.cap,.bool x.Pro,.int .i64 x.Res] 48)) xq):=Below.more (qr.alloc (Nat.le_refl _) _) (by simp) xq
    have hbW1:=hb.trans (hbx.mono (by simpa using hb.size))
    have hbb1:=hbw.trans (hbx.mono hbw.size)
    clear hbx
    go_wp2_with fail
    go_ret
    exact ⟨ret_bool (HS.out.trans (by rw [hm.out,HA.out,HO.out,HW.out];simp)).symm,hbb1⟩
   have HW:=qh t1
   clear t1
   cases t2:volB p
   ·have HH:=qh t2
    clear t2
    go_wp2_with fail
    refine wp_region_more_lit (by kernel_rfl) (by kernel_rfl) ?_
    repeat (go_big_quiet_step (((first|(go_at_call 96;exact Calls.more_of (cap_lit HC.out _ (rdNd.mono gx ((qr.alloc (Nat.le_refl _) _).trans ((below_more _ _).mono (by simp)))) hok))|(go_at_call 95;exact Calls.more_same (within_lit HW.out _))|(go_at_call 97;exact Calls.more_same (holds_lit HH.out _))))))
    refine wpQuiet_nil ?_
    intro _ hwq
    obtain ⟨xq,hwq⟩:=hwq
    subst hwq
    have hbx:Below wr.heap.size wr (more (wr.alloc (.cells #[.string x.Name,.int .i64 x.Kind,.int .i64 x.AX,.int .i64 x.AY,.int .i64 x.Inv,.int .i64 x.Gr,.slice x.Sh.a x.Sh.xs.length x.Sh.cap,.bool x.Pro,.int .i64 x.Res] 48)) xq):=Below.more (qr.alloc (Nat.le_refl _) _) (by simp) xq
    have hbW1:=hb.trans (hbx.mono (by simpa using hb.size))
    have hbb1:=hbw.trans (hbx.mono hbw.size)
    clear hbx
    go_wp2_with fail
    go_ret
    exact ⟨ret_bool (HS.out.trans (by rw [hm.out,HA.out,HO.out,HW.out,HH.out];simp [Bool.false_and])).symm,hbb1⟩
   have HH:=qh t2
   clear t2
   by_cases k3:x.Kind=3
   ·have u3:=beqT k3
    have K3:=qh k3
    clear k3
    by_cases p0:p=0
    ·have v0:=bneF p0
     have P0:=qh p0
     clear p0
     go_wp2_with fail
     refine wp_region_more_lit (by kernel_rfl) (by kernel_rfl) ?_
     repeat (go_big_quiet_step (((first|(go_at_call 96;exact Calls.more_of (cap_lit HC.out _ (rdNd.mono gx ((qr.alloc (Nat.le_refl _) _).trans ((below_more _ _).mono (by simp)))) hok))|(go_at_call 95;exact Calls.more_same (within_lit HW.out _))|(go_at_call 97;exact Calls.more_same (holds_lit HH.out _))))))
     refine wpQuiet_nil ?_
     intro _ hwq
     obtain ⟨xq,hwq⟩:=hwq
     subst hwq
     have hbx:Below wr.heap.size wr (more (wr.alloc (.cells #[.string x.Name,.int .i64 x.Kind,.int .i64 x.AX,.int .i64 x.AY,.int .i64 x.Inv,.int .i64 x.Gr,.slice x.Sh.a x.Sh.xs.length x.Sh.cap,.bool x.Pro,.int .i64 x.Res] 48)) xq):=Below.more (qr.alloc (Nat.le_refl _) _) (by simp) xq
     have hbW1:=hb.trans (hbx.mono (by simpa using hb.size))
     have hbb1:=hbw.trans (hbx.mono hbw.size)
     clear hbx
     go_wp2_with fail
     go_roundw
     case rel=>exact ⟨k+1,by omega,by go_num,hbW1,hm.out.trans (by rw [HA.out,HO.out,HW.out,HH.out];simp [K3.out,P0.out])⟩
     case measure=>simp [intOf];omega
    ·have v0:=bneT p0
     have P0:=qh p0
     clear p0
     go_wp2_with fail
     refine wp_region_more_lit (by kernel_rfl) (by kernel_rfl) ?_
     repeat (go_big_quiet_step (((first|(go_at_call 96;exact Calls.more_of (cap_lit HC.out _ (rdNd.mono gx ((qr.alloc (Nat.le_refl _) _).trans ((below_more _ _).mono (by simp)))) hok))|(go_at_call 95;exact Calls.more_same (within_lit HW.out _))|(go_at_call 97;exact Calls.more_same (holds_lit HH.out _))))))
     refine wpQuiet_nil ?_
     intro _ hwq
     obtain ⟨xq,hwq⟩:=hwq
     subst hwq
     have hbx:Below wr.heap.size wr (more (wr.alloc (.cells #[.string x.Name,.int .i64 x.Kind,.int .i64 x.AX,.int .i64 x.AY,.int .i64 x.Inv,.int .i64 x.Gr,.slice x.Sh.a x.Sh.xs.length x.Sh.cap,.bool x.Pro,.int .i64 x.Res] 48)) xq):=Below.more (qr.alloc (Nat.le_refl _) _) (by simp) xq
     have hbW1:=hb.trans (hbx.mono (by simpa using hb.size))
     have hbb1:=hbw.trans (hbx.mono hbw.size)
     clear hbx
     go_wp2_with fail
     go_ret
     exact ⟨ret_bool (HS.out.trans (by rw [hm.out,HA.out,HO.out,HW.out,HH.out];simp [K3.out,P0.out])).symm,hbb1⟩
   ·have u3:=beqF k3
    have K3:=qh k3
    clear k3
    go_wp2_with fail
    refine wp_region_more_lit (by kernel_rfl) (by kernel_rfl) ?_
    repeat (go_big_quiet_step (((first|(go_at_call 96;exact Calls.more_of (cap_lit HC.out _ (rdNd.mono gx ((qr.alloc (Nat.le_refl _) _).trans ((below_more _ _).mono (by simp)))) hok))|(go_at_call 95;exact Calls.more_same (within_lit HW.out _))|(go_at_call 97;exact Calls.more_same (holds_lit HH.out _))))))
    refine wpQuiet_nil ?_
    intro _ hwq
    obtain ⟨xq,hwq⟩:=hwq
    subst hwq
    have hbx:Below wr.heap.size wr (more (wr.alloc (.cells #[.string x.Name,.int .i64 x.Kind,.int .i64 x.AX,.int .i64 x.AY,.int .i64 x.Inv,.int .i64 x.Gr,.slice x.Sh.a x.Sh.xs.length x.Sh.cap,.bool x.Pro,.int .i64 x.Res] 48)) xq):=Below.more (qr.alloc (Nat.le_refl _) _) (by simp) xq
    have hbW1:=hb.trans (hbx.mono (by simpa using hb.size))
    have hbb1:=hbw.trans (hbx.mono hbw.size)
    clear hbx
    go_wp2_with fail
    go_roundw
    case rel=>exact ⟨k+1,by omega,by go_num,hbW1,hm.out.trans (by rw [HA.out,HO.out,HW.out,HH.out];simp [K3.out])⟩
    case measure=>simp [intOf];omega
  ·have HN:Hid (res=allFrom (okS lxs ss os) 0 lxs.length):=by
    show _=_
    rw [HS.out,hm.out,allFrom_end _ om];rfl
   clear hm HS
   go_wp2_with fail
   go_loopw [91] (fun s91 wr2=>∃ k:Nat,k<=lxs.length/\s91=.int .i64 k/\Below (w.heap.size+2) ((w.alloc (.cells #[.slice na nxs.length nc,.slice la lxs.length lc] 25)).alloc (.cells #[.slice va vs.length vc,.slice pa ps.length pc,.slice ea ss.length ec,.slice oa os.length oc] 31)) wr2/\Hid (allFrom (okS lxs ss os) 0 lxs.length=allFrom (okS lxs ss os) k lxs.length)) (fun i _=>lxs.length-(intOf i).toNat)
   case atStart=>exact ⟨0,Nat.zero_le _,rfl,hb,rfl⟩
   clear hb hbw e0 e1 f0 f1 f2 f3
   case round=>
    as_aux_lemma=>
    obtain ⟨k,hk,rfl,hb,hm⟩:=hrel
    have hbw:Below w.heap.size w wr:=hb0.trans (hb.mono om)
    obtain ⟨f0,f1,f2,f3⟩:=boxSt (w.alloc (.cells #[.slice na nxs.length nc,.slice la lxs.length lc] 25)) wr 31 ⟨⟨va,vc,vs⟩,⟨pa,pc,ps⟩,⟨ea,ec,ss⟩,⟨oa,oc,os⟩⟩ _ rfl (w.heap.size+2) (by simp) hb
    rw [show (w.alloc (.cells #[.slice na nxs.length nc,.slice la lxs.length lc] 25)).heap.size=w.heap.size+1 from by simp] at f0 f1 f2 f3
    simp only [vSl] at f0 f1 f2 f3
    by_cases hlt:k<lxs.length
    ·have ks:k<ss.length:=by have:=L3.out;omega
     have ko:k<os.length:=by have:=L4.out;omega
     obtain ⟨b,off,rfl,c0,c1,c2,c3,c4,c5,c6,c7,c8,c9,c10⟩:=(hL.2.2.1.mono hbw).lk k hlt
     obtain ⟨eb,eo,rfl,ce⟩:=(hE.2.2.1.mono hbw).int k ks
     obtain ⟨ob,oo,rfl,co⟩:=(hO.2.2.1.mono hbw).boolAt k ko
     have HO:=qh (okS_at hlt ks ko)
     have HA:=qh (allFrom_step (okS lxs ss os) hlt)
     have i1:(0:Int)<=k:=by omega
     have i2:(k:Int)<ss.length:=by omega
     have i3:(k:Int)<os.length:=by omega
     clear hN hL hV hP hE hO hnd
     simp only at ce co
     generalize lxs[k]=x at *
     generalize ss[k]=v at *
     generalize os[k]=o at *
     cases t1:btwB v 0 1000
     ·have HW:=qh t1
      go_wp2_with (go_at_call 95;refine (swithin_any _ _ _ _).mono ?_;rintro e w' ⟨rfl,rfl⟩)
      go_ret
      exact ⟨ret_bool (HN.out.trans (by rw [hm.out,HA.out,HO.out];simp [HW.out])).symm,bl⟩
     have HW:=qh t1
     cases o
     ·go_wp2_with (go_at_call 95;refine (swithin_any _ _ _ _).mono ?_;rintro e w' ⟨rfl,rfl⟩)
      go_roundw
      case rel=>exact ⟨k+1,by omega,by go_num,hb.alloc (by simpa using hb.size) _,hm.out.trans (by rw [HA.out,HO.out];simp [HW.out])⟩
      case measure=>simp [intOf];omega
     by_cases k4:x.Kind=4
     ·have u4:=bneF k4
      have K4:=qh k4
      clear k4
      go_wp2_with (go_at_call 95;refine (swithin_any _ _ _ _).mono ?_;rintro e w' ⟨rfl,rfl⟩)
      go_roundw
      case rel=>exact ⟨k+1,by omega,by go_num,hb.alloc (by simpa using hb.size) _,hm.out.trans (by rw [HA.out,HO.out];simp [HW.out,K4.out])⟩
      case measure=>simp [intOf];omega
     ·have u4:=bneT k4
      have K4:=qh k4
      clear k4
      go_wp2_with (go_at_call 95;refine (swithin_any _ _ _ _).mono ?_;rintro e w' ⟨rfl,rfl⟩)
      go_ret
      exact ⟨ret_bool (HN.out.trans (by rw [hm.out,HA.out,HO.out];simp [HW.out,K4.out])).symm,bl⟩
    ·go_wp2_with fail
     go_ret
     refine ⟨ret_bool ?_,hbw⟩
     rw [HN.out,hm.out,allFrom_end _ om]
end Go.Proofs.YtoiakijmbghhlaaGreat
