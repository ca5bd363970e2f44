/- Valid of networks, the program's side. Conditions: the network reads as data. -/
import Derived.Test.YtoiakijmbghhlaaGreatS14
import Derived.Test.YtoiakijmbghhlaaGreatS15
set_option linter.unusedVariables false
set_option linter.unusedSimpArgs false
set_option maxRecDepth 100000
set_option maxHeartbeats 32000000
namespace Go.Proofs.YtoiakijmbghhlaaGreat
open Go.RowKit
theorem nvalid_any (n:Net) (w:World) (hg:gNet w n):Calls Tryz.prog 58 #[vNet n] w fun e w'=>e=.returned (.bool (netB n))/\Below w.heap.size w w':=by
 obtain ⟨⟨na,nc,nxs⟩,⟨la,lc,lxs⟩⟩:=n
 obtain ⟨hN,hL⟩:=hg
 simp only at hN hL
 have hsN:=hN.2.2.1
 have hsL:=hL.2.2.1
 have isN:IsNds w (vSl (⟨na,nc,nxs⟩:Sl Nd)) nxs:=hN.isL
 have isL:IsLks w (vSl (⟨la,lc,lxs⟩:Sl Lk)) lxs:=hL.isL
 have gN:=hN.2.2.2
 have gL:=hL.2.2.2
 clear hN hL
 simp only at hsN hsL gN gL
 simp only [vNet,vSl]
 by_cases z1:300<nxs.length
 ·have q1:decide ((300:Int)<(nxs.length:Int))=true:=decide_eq_true om
  have HS:=qh (netB_bad1 (n:=⟨⟨na,nc,nxs⟩,⟨la,lc,lxs⟩⟩) z1)
  go_enter Tryz.func58,Tryz.ntmps58
  go_wp2_with fail
  go_ret
  exact ⟨ret_bool HS.out.symm,bl⟩
 have q1:decide ((300:Int)<(nxs.length:Int))=false:=decide_eq_false om
 by_cases z2:400<lxs.length
 ·have q2:decide ((400:Int)<(lxs.length:Int))=true:=decide_eq_true om
  have HS:=qh (netB_bad2 (n:=⟨⟨na,nc,nxs⟩,⟨la,lc,lxs⟩⟩) z2)
  go_enter Tryz.func58,Tryz.ntmps58
  go_wp2_with fail
  go_ret
  exact ⟨ret_bool HS.out.symm,bl⟩
 have q2:decide ((400:Int)<(lxs.length:Int))=false:=decide_eq_false om
 have HS:=qh (netB_is (n:=⟨⟨na,nc,nxs⟩,⟨la,lc,lxs⟩⟩) z1 z2)
 simp only at HS
 go_enter Tryz.func58,Tryz.ntmps58
 go_wp2_with fail
 go_loopw [21] (fun s21 wr=>∃ k:Nat,k<=nxs.length/\s21=.int .i64 k/\Below (w.heap.size+1) (w.alloc (.cells #[.slice na nxs.length nc,.slice la lxs.length lc] 25)) wr/\Hid (allFrom (okNd nxs) 0 nxs.length=allFrom (okNd nxs) k nxs.length)) (fun i _=>nxs.length-(intOf i).toNat)
 case atStart=>exact ⟨0,Nat.zero_le _,rfl,qr,rfl⟩
 case round=>
  as_aux_lemma=>
  obtain ⟨k,hk,rfl,hb,hm⟩:=hrel
  have hbw:Below w.heap.size w wr:=(qr.alloc (Nat.le_refl _) _).trans (hb.mono om)
  obtain ⟨e0,e1⟩:=boxNet w wr 25 ⟨⟨na,nc,nxs⟩,⟨la,lc,lxs⟩⟩ _ rfl _ rfl hb
  simp only [vSl] at e0 e1
  by_cases hlt:k<nxs.length
  ·obtain ⟨b,off,rfl,c0,c1,c2,c3,c4,c5,c6,c7,c8⟩:=(hsN.mono hbw).nd k hlt
   have gx:=rdNd.mono (gN _ (List.getElem_mem hlt)) hbw
   have HO:=qh (okNd_at hlt)
   have HA:=qh (allFrom_step (okNd nxs) hlt)
   have isNr:=isN.mono hbw
   clear hsN hsL gN gL isN isL
   generalize nxs[k]=x at *
   go_wp2_with fail
   refine Calls.to (rightNode_any x _ (rdNd.mono gx (qr.alloc (Nat.le_refl _) _))) ?_
   rintro e w1 rfl hb1
   have hbx:Below (wr.heap.size+1) (wr.alloc (.cells (eNd x).toArray 48)) w1:=by simpa using hb1
   obtain ⟨d0,d1,d2,d3,d4,d5,d6,d7,d8⟩:=boxNd wr w1 48 x _ rfl _ rfl hbx
   have hb1':Below wr.heap.size wr w1:=(qr.alloc (Nat.le_refl _) _).trans (hbx.mono om)
   have e0:=box_lt e0 hb1'
   have e1:=box_lt e1 hb1'
   have hbw1:=hbw.trans (hb1'.mono hbw.size)
   have hbW:=hb.trans (hb1'.mono (by simpa using hb.size))
   have isN1:=isNr.mono hb1'
   clear hb1 hbx hb1' isNr c0 c1 c2 c3 c4 c5 c6 c7 c8
   cases hx:ndB x
   ·have HX:=qh hx
    go_wp2_with fail
    go_ret
    exact ⟨ret_bool (HS.out.trans (by rw [hm.out,HA.out,HO.out,HX.out];rfl)).symm,hbw1⟩
   have HX:=qh hx
   go_wp2_with fail
   refine Calls.to (node_any ⟨⟨some ⟨b,off,none⟩,nc,nxs⟩,⟨la,lc,lxs⟩⟩ x.Name _ isN1) ?_
   rintro e w2 rfl hb2
   simp only
   have hbw2:=hbw1.trans (hb2.mono hbw1.size)
   have hbW2:=hbW.trans (hb2.mono (by simpa using hbW.size))
   clear hb2 isN1 hbw1 hbW e0 e1 d0 d1 d2 d3 d4 d5 d6 d7 d8
   by_cases hf:findNd nxs x.Name=k
   ·have HF:=qh hf
    have u1:=bneF hf
    have u2:=beqT hf
    clear hf
    go_wp2_with fail
    go_roundw
    case rel=>exact ⟨k+1,by omega,by go_num,hbW2,hm.out.trans (by rw [HA.out,HO.out,HX.out,HF.out];simp)⟩
    case measure=>simp [intOf];omega
   ·have HF:=qh hf
    have u1:=bneT hf
    have u2:=beqF hf
    clear hf
    go_wp2_with fail
    go_ret
    exact ⟨ret_bool (HS.out.trans (by rw [hm.out,HA.out,HO.out,HX.out];simp [HF.out])).symm,hbw2⟩
  ·have HN:Hid (netB ⟨⟨na,nc,nxs⟩,⟨la,lc,lxs⟩⟩=allFrom (okLk nxs lxs) 0 lxs.length):=by
    show _=_
    rw [HS.out,hm.out,allFrom_end _ om];rfl
   clear hm HS
   go_wp2_with fail
   go_loopw [41] (fun s41 wr2=>∃ k:Nat,k<=lxs.length/\s41=.int .i64 k/\Below (w.heap.size+1) (w.alloc (.cells #[.slice na nxs.length nc,.slice la lxs.length lc] 25)) wr2/\Hid (allFrom (okLk nxs lxs) 0 lxs.length=allFrom (okLk nxs lxs) k lxs.length)) (fun i _=>lxs.length-(intOf i).toNat)
   case atStart=>exact ⟨0,Nat.zero_le _,rfl,hb,rfl⟩
   case round=>
    as_aux_lemma=>
    obtain ⟨k,hk,rfl,hb,hm⟩:=hrel
    have hbw:Below w.heap.size w wr:=(qr.alloc (Nat.le_refl _) _).trans (hb.mono om)
    obtain ⟨e0,e1⟩:=boxNet w wr 25 ⟨⟨na,nc,nxs⟩,⟨la,lc,lxs⟩⟩ _ rfl _ rfl hb
    simp only [vSl] at e0 e1
    by_cases hlt:k<lxs.length
    ·obtain ⟨b,off,rfl,c0,c1,c2,c3,c4,c5,c6,c7,c8,c9,c10⟩:=(hsL.mono hbw).lk k hlt
     have gx:=rdLk.mono (gL _ (List.getElem_mem hlt)) hbw
     have HO:=qh (okLk_at (ns:=nxs) hlt)
     have HA:=qh (allFrom_step (okLk nxs lxs) hlt)
     have isNr:=isN.mono hbw
     have isLr:=isL.mono hbw
     have hsNr:=hsN.mono hbw
     clear hsN hsL gN gL isN isL
     generalize lxs[k]=x at *
     go_wp2_with fail
     refine Calls.to (rightLink_any x _ (rdLk.mono gx (qr.alloc (Nat.le_refl _) _))) ?_
     rintro e w1 rfl hb1
     have hbx:Below (wr.heap.size+1) (wr.alloc (.cells (eLk x).toArray 61)) w1:=by simpa using hb1
     obtain ⟨d0,d1,d2,d3,d4,d5,d6,d7,d8,d9,d10⟩:=boxLk wr w1 61 x _ rfl _ rfl hbx
     have hb1':Below wr.heap.size wr w1:=(qr.alloc (Nat.le_refl _) _).trans (hbx.mono om)
     have e0:=box_lt e0 hb1'
     have e1:=box_lt e1 hb1'
     have hbw1:=hbw.trans (hb1'.mono hbw.size)
     have hbW:=hb.trans (hb1'.mono (by simpa using hb.size))
     have isN1:=isNr.mono hb1'
     have isL1:=isLr.mono hb1'
     have hsN1:=hsNr.mono hb1'
     clear hb1 hbx hb1' isNr isLr hsNr c0 c1 c2 c3 c4 c5 c6 c7 c8 c9 c10 d3 d4 d5 d6 d7 d8 d9 d10
     cases hx:lkB x
     ·have HX:=qh hx
      go_wp2_with fail
      go_ret
      exact ⟨ret_bool (HN.out.trans (by rw [hm.out,HA.out,HO.out,HX.out];rfl)).symm,hbw1⟩
     have HX:=qh hx
     go_wp2_with fail
     refine Calls.to (link_any ⟨⟨na,nc,nxs⟩,⟨some ⟨b,off,none⟩,lc,lxs⟩⟩ x.Name _ isL1) ?_
     rintro e w2 rfl hb2
     simp only
     have hbw2:=hbw1.trans (hb2.mono hbw1.size)
     have hbW2:=hbW.trans (hb2.mono (by simpa using hbW.size))
     have e0:=box_lt e0 hb2
     have e1:=box_lt e1 hb2
     have d1:=box_lt d1 hb2
     have d2:=box_lt d2 hb2
     have isN2:=isN1.mono hb2
     have hsN2:=hsN1.mono hb2
     clear hb2 isN1 isL1 hsN1 hbw1 hbW d0 hx
     by_cases hf:findLk lxs x.Name=k
     rotate_left
     ·have HF:=qh hf
      have u1:=bneT hf
      have u2:=beqF hf
      clear hf
      go_wp2_with fail
      go_ret
      exact ⟨ret_bool (HN.out.trans (by rw [hm.out,HA.out,HO.out,HX.out];simp [HF.out])).symm,hbw2⟩
     have HF:=qh hf
     have u1:=bneF hf
     have u2:=beqT hf
     clear hf
     go_wp2_with fail
     refine Calls.to (node_any ⟨⟨na,nc,nxs⟩,⟨some ⟨b,off,none⟩,lc,lxs⟩⟩ x.From _ isN2) ?_
     rintro e w3 rfl hb3
     simp only
     have hbw3:=hbw2.trans (hb3.mono hbw2.size)
     have hbW3:=hbW2.trans (hb3.mono (by simpa using hbW2.size))
     have e0:=box_lt e0 hb3
     have e1:=box_lt e1 hb3
     have d2:=box_lt d2 hb3
     have isN3:=isN2.mono hb3
     have hsN3:=hsN2.mono hb3
     have hfb:=findNd_bd nxs x.From
     clear hb3 isN2 hsN2 hbw2 hbW2 d1 u1 u2
     generalize findNd nxs x.From=f at *
     by_cases hf0:f<0
     ·have u1:decide (f<0)=true:=decide_eq_true hf0
      have HZ:Hid (decide (0<=f)=false):=decide_eq_false om
      go_wp2_with fail
      go_ret
      exact ⟨ret_bool (HN.out.trans (by rw [hm.out,HA.out,HO.out,HX.out,HZ.out];simp)).symm,hbw3⟩
     have u1:decide (f<0)=false:=decide_eq_false hf0
     have HZ:Hid (decide (0<=f)=true):=decide_eq_true om
     obtain ⟨j,rfl⟩:∃ j:Nat,f=(j:Int):=⟨f.toNat,by omega⟩
     have hj:j<nxs.length:=by omega
     have u1':decide ((j:Int)<0)=false:=decide_eq_false om
     clear hf0
     go_wp2_with fail
     refine Calls.to (node_any ⟨⟨na,nc,nxs⟩,⟨some ⟨b,off,none⟩,lc,lxs⟩⟩ x.To _ isN3) ?_
     rintro e w4 rfl hb4
     simp only
     have hbw4:=hbw3.trans (hb4.mono hbw3.size)
     have hbW4:=hbW3.trans (hb4.mono (by simpa using hbW3.size))
     have e0:=box_lt e0 hb4
     have e1:=box_lt e1 hb4
     have hsN4:=hsN3.mono hb4
     have htb:=findNd_bd nxs x.To
     clear hb4 isN3 hsN3 hbw3 hbW3 d2
     generalize findNd nxs x.To=g at *
     by_cases hg0:g<0
     ·have v1:decide (g<0)=true:=decide_eq_true hg0
      have HY:Hid (decide (0<=g)=false):=decide_eq_false om
      go_wp2_with fail
      go_ret
      exact ⟨ret_bool (HN.out.trans (by rw [hm.out,HA.out,HO.out,HX.out,HZ.out,HY.out];simp)).symm,hbw4⟩
     have v1:decide (g<0)=false:=decide_eq_false hg0
     have HY:Hid (decide (0<=g)=true):=decide_eq_true om
     obtain ⟨nb,noff,rfl,a0,a1,a2,a3,a4,a5,a6,a7,a8⟩:=hsN4.nd j hj
     have HG:Hid ((nxs.getD (j:Int).toNat default).Kind=nxs[j].Kind):=by
      show _=_
      simp only [Int.toNat_natCast,List.getD,List.getElem?_eq_getElem hj,Option.getD_some]
     clear hsN4 a0 a2 a3 a4 a5 a6 a7 a8
     generalize nxs[j]=y at *
     by_cases hk3:y.Kind=3
     ·have r1:=beqT hk3
      have HK3:=qh hk3
      clear hk3
      go_wp2_with fail
      go_ret
      exact ⟨ret_bool (HN.out.trans (by rw [hm.out,HA.out,HO.out,HX.out,HZ.out,HY.out,HG.out];simp [HK3.out])).symm,hbw4⟩
     ·have r1:=beqF hk3
      have HK3:=qh hk3
      clear hk3
      go_wp2_with fail
      go_roundw
      case rel=>exact ⟨k+1,by omega,by go_num,hbW4,hm.out.trans (by rw [HA.out,HO.out,HX.out,HZ.out,HY.out,HG.out];simp [HK3.out,HF.out])⟩
      case measure=>simp [intOf];omega
    ·go_wp2_with fail
     go_ret
     refine ⟨ret_bool ?_,hbw⟩
     rw [HN.out,hm.out,allFrom_end _ om]
end Go.Proofs.YtoiakijmbghhlaaGreat
