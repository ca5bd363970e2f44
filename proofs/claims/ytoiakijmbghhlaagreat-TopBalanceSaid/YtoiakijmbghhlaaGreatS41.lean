/- balance.Sum, walked. Conditions: the network is right; the ledgers are right and few. -/
import Derived.Test.YtoiakijmbghhlaaGreatS40
set_option linter.unusedVariables false
set_option linter.unusedSimpArgs false
set_option maxRecDepth 100000
set_option maxHeartbeats 32000000
namespace Go.Proofs.YtoiakijmbghhlaaGreat
open Go.RowKit Go.Maps
inductive SumR (n:Net) (l:List Led):Value->Prop
 | big:bigK l n.Ls.xs.length l.length=true->SumR n l (.tuple #[.agg #[.int .i64 0,.int .i64 0,.slice none 0 0],.int .i64 5])
 | ok (a:Option Addr) (m c:Nat):bigK l n.Ls.xs.length l.length=false->SumR n l (.tuple #[.agg #[.int .i64 (cameL l l.length),.int .i64 (leftL l l.length),.slice a m c],.int .i64 0])
theorem SumR.form {n:Net} {l:List Led} {u:Value} (h:SumR n l u):∃ (I O:Int) (a:Option Addr) (m c:Nat) (E:Int),u=.tuple #[.agg #[.int .i64 I,.int .i64 O,.slice a m c],.int .i64 E] /\
  ((bigK l n.Ls.xs.length l.length=true/\E=5)\/(bigK l n.Ls.xs.length l.length=false/\E=0/\I=cameL l l.length/\O=leftL l l.length)):=by
 cases h with
 | big h=>exact ⟨_,_,_,_,_,_,rfl,.inl ⟨h,rfl⟩⟩
 | ok a m c h=>exact ⟨_,_,_,_,_,_,rfl,.inr ⟨h,rfl,rfl,rfl⟩⟩
theorem basum_ok (n:Net) (l:List Led) (vU:Value) (w:World) (hg:gNet w n) (hn:netB n=true) (hU:IsLeds w vU l) (hp:∀ g∈l,gInts w g.P) (hS:LedS n l) (hl12:l.length<=12) (hL:n.Ls.xs.length<=12) (hlb:∀ g∈l,ledB n g=true) :
  Calls Tryz.prog 15 #[vNet n,vU] w fun e w'=>(∃ u,e=.returned u/\SumR n l u)/\Below w.heap.size w w':=by
 obtain ⟨LB,hLL⟩:∃ L:List (Array Value×TypeId),L = [((eNet n).toArray,25),(#[.int .i64 0,.int .i64 0,.slice none 0 0],56)]:=⟨_,rfl⟩
 obtain ⟨W,hW⟩:∃ W,W=allocs w LB:=⟨_,rfl⟩
 have hbw:Below w.heap.size w W:=by rw [hW];exact allocs_below _ _
 have t0:W.heap[w.heap.size]? = some (.cells (eNet n).toArray 25 (0,0)):=by rw [hW,hLL];exact allocs_at _ w 0 (by simp)
 have t1:W.heap[w.heap.size+1]? = some (.cells #[.int .i64 0,.int .i64 0,.slice none 0 0] 56 (0,0)):=by rw [hW,hLL];exact allocs_at _ w 1 (by simp)
 have HW:Hid (W=(w.alloc (.cells (eNet n).toArray 25)).alloc (.cells #[.int .i64 0,.int .i64 0,.slice none 0 0] 56)):=qh (by rw [hW,hLL];rfl)
 have hsz:w.heap.size+1<W.heap.size:=(Array.getElem?_eq_some_iff.1 t1).1
 obtain ⟨M,hM⟩:∃ M,M=n.Ls.xs.length:=⟨_,rfl⟩
 have HM:=qh hM
 obtain ⟨K,hK⟩:∃ K,K=l.length:=⟨_,rfl⟩
 have HK:=qh hK
 have q0:W.cell? ⟨w.heap.size,0,none⟩=some (.slice n.Ns.a n.Ns.xs.length n.Ns.cap):=(tank_blk t0 0).trans rfl
 have q1:W.cell? ⟨w.heap.size,1,none⟩=some (.slice n.Ls.a M n.Ls.cap):=by rw [hM];exact (tank_blk t0 1).trans rfl
 have hli:=balisted_ok n l vU W (rdNet.mono hg hbw) hn (IsL.mono hU hbw) (fun g hgm=>rdInts.mono (hp g hgm) hbw) hlb om
 obtain ⟨aU,cU,rfl,hU1,hU2,hU3⟩:=hU
 have HU:=qh hU3
 have HG:=qh hg
 have HP:=qh hp
 have HS:=qh hS
 have HNB:=qh hn
 have HL12:Hid (K<=12/\M<=12):=qh ⟨by omega,by omega⟩
 have hK12:K<=12:=by omega
 have hM12:M<=12:=by omega
 have T0:=qh t0
 have T1:=qh t1
 have HSZ:=qh hsz
 simp only [vNet,vSl] at hli ⊢
 rw [<-hM,<-hK] at hli
 rw [show SumR n l=fun u=>SumR n l u from rfl]
 obtain ⟨PR,hPR⟩:∃ PR,PR=SumR n l:=⟨_,rfl⟩
 have HPR:=qh hPR
 rw [<-hPR,<-hM,<-hK]
 clear hW hLL t0 t1 hg hn hU1 hU2 hU3 hp hS hl12 hL hlb hM hK hsz hPR
 go_enter Tryz.func15,Tryz.ntmps15
 go_upto_region 1 with (fail)
 try simp only [Nat.add_assoc,Nat.reduceAdd]
 first|rw [HM.out,<-HW.out,<-HM.out]|rw [<-HW.out]|fail "W"
 clear HW
 go_wp2_with fail
 refine Calls.to hli ?_
 rintro e w1 rfl hb1
 replace q0:=cel_lt q0 hb1
 replace q1:=cel_lt q1 hb1
 have hll:M<2147483648:=by omega
 clear hli
 obtain ⟨b2,hb2⟩:∃ b,b=w.heap.size:=⟨_,rfl⟩
 obtain ⟨b4,hb4⟩:∃ b,b=w.heap.size+1:=⟨_,rfl⟩
 obtain ⟨r,hr⟩:∃ b,b=w1.heap.size:=⟨_,rfl⟩
 go_upto_region 5 with (refine wpList_mk _ rfl _ _ 28 rfl w.heap.size 3 _ 8 undInts infInt eInt 0 rfl rfl _ _ M rfl rfl rfl rfl hll om (by have:=hbw.size;have:=hb1.size;omega) ?_;intro w2 hown hbm hlt2)
 obtain ⟨b7,hb7⟩:∃ b,b=w2.heap.size:=⟨_,rfl⟩
 obtain ⟨W7,hW7⟩:∃ W7,W7=w2.alloc (.cells #[.int .i64 0,.int .i64 0,.slice (some ⟨w1.heap.size,0,none⟩) M M] 56):=⟨_,rfl⟩
 first|rw [<-hW7]|fail "W7"
 have hbA:Below w2.heap.size w2 W7:=by rw [hW7];exact alloc_below _ _
 have HB:Hid (b2=w.heap.size/\b4=w.heap.size+1/\w.heap.size+1<r/\r<b7):=qh ⟨hb2,hb4,by have:=HSZ.out;have:=hb1.size;omega,by omega⟩
 have HI0:Hid (SmI w W7 b2 b4 b7 r n M (cameL l 0) (leftL l 0) (List.replicate M 0)):=qh (by
  have h12:=hb1.trans (hbm.mono hb1.size)
  have h17:=h12.trans (hbA.mono h12.size)
  refine ⟨hbw.trans (h17.mono hbw.size),?_,?_,?_,?_⟩
  ·rw [hb2];exact blk_mono T0.out h17
  ·rw [hb4];exact blk_mono T1.out h17
  ·rw [hb7,hr,hW7];exact heap_alloc_new w2 _
  ·rw [hr];exact hown.below hbA)
 have HPS0:Hid (psI l M 0 0 (List.replicate M 0)):=qh (psI.zero l M)
 rw [<-hr,<-hb7,<-hb4,<-hb2]
 clear hW7 hbA hown hbm hlt2 hb7 hb2 hb4 hr q0 q1 hb1 hbw hll
 go_upto_region 6 with (fail)
 go_loopw [26] (fun s26 wr=>∃ (k:Nat) (ps:List Int),k<=K/\s26=.int .i64 k/\Hid (SmI w wr b2 b4 b7 r n M (cameL l k) (leftL l k) ps)/\Hid (psI l M k 0 ps)/\Hid (bigK l M k=false)) (fun s26 _=>K-(RowKit.intOf s26).toNat)
 case atStart=>exact ⟨0,_,Nat.zero_le _,rfl,HI0,HPS0,qh rfl⟩
 clear HI0 HPS0
 case round=>
  obtain ⟨k,ps,hk,rfl,HI,HPS,HBG⟩:=hrel
  obtain ⟨wo,hwo⟩:∃ wo,wo=wr:=⟨_,rfl⟩
  subst hwo
  by_cases hkK:k<K
  ·have hkl:k<l.length:=by rw [<-HK.out];exact hkK
   have hbo:=HI.out.bel
   obtain ⟨bU,oU,ea,d0,d1,d2⟩:=(HU.out.mono hbo).led k hkl
   obtain ⟨g,hgx⟩:∃ g,g=l[k]'hkl:=⟨_,rfl⟩
   have hgm:g∈l:=by rw [hgx];exact List.getElem_mem hkl
   have hga:g=ledAt l k:=by rw [ledAt_at hkl,hgx]
   rw [<-hgx] at d0 d1 d2
   have hgP:=HP.out g hgm
   have hgl:g.P.xs.length=M:=by rw [HM.out];exact HS.out.pl g hgm
   obtain ⟨w3,hw3⟩:∃ w3,w3=wo.alloc (.cells (eLed g).toArray 56):=⟨_,rfl⟩
   have hbA:Below wo.heap.size wo w3:=by rw [hw3];exact alloc_below _ _
   obtain ⟨k0,k1,k2⟩:=boxLed wo w3 56 g _ rfl _ rfl (by rw [hw3];exact qr)
   rw [hgl] at d2 k2
   have HW3:Hid (w3=wo.alloc (.cells #[.int .i64 g.I,.int .i64 g.O,.slice g.P.a M g.P.cap] 56)):=qh (by rw [hw3,<-hgl])
   have HI3:=HI.out.grow hbA
   have hlt7:b7<wo.heap.size:=(Array.getElem?_eq_some_iff.1 HI.out.k7).1
   have bc:=HS.out.came (by have:=HL12.out.1;have:=HK.out;omega) (k:=k+1) om
   have bl:=HS.out.left (by have:=HL12.out.1;have:=HK.out;omega) (k:=k+1) om
   have ec:=cameL_succ l k
   have el:=leftL_succ l k
   rw [<-hga] at ec el
   obtain ⟨I,hI⟩:∃ I,I=cameL l k:=⟨_,rfl⟩
   obtain ⟨O,hO⟩:∃ O,O=leftL l k:=⟨_,rfl⟩
   rw [<-hI,<-hO] at HI3
   rw [<-hI] at ec
   rw [<-hO] at el
   have y1:IntKind.i64.wrap (I+g.I)=I+g.I:=IntWalk.i64_in _ om
   have y2:IntKind.i64.wrap (O+g.O)=O+g.O:=IntWalk.i64_in _ om
   have k7:=HI3.k7
   have g0:w3.cell? ⟨b7,0,none⟩=some (.int .i64 I):=(tank_blk k7 0).trans rfl
   have gf0:w3.frozen? ⟨b7,0,none⟩=false:=tank_free k7 0
   obtain ⟨w4,hw4⟩:∃ w4,w4=w3.setCell ⟨b7,0,none⟩ (.int .i64 (I+g.I)):=⟨_,rfl⟩
   have HI4:SmI w w4 b2 b4 b7 r n M (I+g.I) O ps:=by rw [hw4];exact HI3.setI (by have:=HB.out;omega) (by have:=HB.out;omega) (by have:=HB.out;omega) (by have:=HB.out;omega) _
   have hne7:wo.heap.size≠b7:=by omega
   have k1':w4.cell? ⟨wo.heap.size,1,none⟩=some (.int .i64 g.O):=by rw [hw4];exact (World.cell?_of_block (w:=w3) (w':=w3.setCell ⟨b7,0,none⟩ (.int .i64 (I+g.I))) (Below.heap_setCell _ _ _ _ hne7)).trans k1
   have k2':w4.cell? ⟨wo.heap.size,2,none⟩=some (.slice g.P.a M g.P.cap):=by rw [hw4];exact (World.cell?_of_block (w:=w3) (w':=w3.setCell ⟨b7,0,none⟩ (.int .i64 (I+g.I))) (Below.heap_setCell _ _ _ _ hne7)).trans k2
   have g1:w4.cell? ⟨b7,1,none⟩=some (.int .i64 O):=(tank_blk HI4.k7 1).trans rfl
   have gf1:w4.frozen? ⟨b7,1,none⟩=false:=tank_free HI4.k7 1
   obtain ⟨w5,hw5⟩:∃ w5,w5=w4.setCell ⟨b7,1,none⟩ (.int .i64 (O+g.O)):=⟨_,rfl⟩
   have HI5:Hid (SmI w w5 b2 b4 b7 r n M (cameL l (k+1)) (leftL l (k+1)) ps):=qh (by rw [hw5,ec,el];exact HI4.setO (by have:=HB.out;omega) (by have:=HB.out;omega) (by have:=HB.out;omega) (by have:=HB.out;omega) _)
   have k2'':w5.cell? ⟨wo.heap.size,2,none⟩=some (.slice g.P.a M g.P.cap):=by rw [hw5];exact (World.cell?_of_block (w:=w4) (w':=w4.setCell ⟨b7,1,none⟩ (.int .i64 (O+g.O))) (Below.heap_setCell _ _ _ _ hne7)).trans k2'
   have HW4:=qh hw4
   have HW5:=qh hw5
   have i1:decide (k<K)=true:=decide_eq_true hkK
   have x7:IntKind.i64.wrap ((k:Int)+1)=k+1:=IntWalk.i64_in _ om
   have i4:(0:Int)<=k:=by omega
   have i5:(k:Int)<K:=by omega
   have EA:=qh ea
   have HKK:=qh hkK
   have HKL:=qh hkl
   have HGP:=qh hgP
   have HGL:=qh hgl
   have HGA:=qh hga
   clear hgx hgm hga hgP hgl hw3 hbA HI3 HI4 hw4 hw5 hI hO ec el bc bl hlt7 hkK hkl hbo HI k7
   go_upto_region 8 with (fail)
   first|rw [<-HW3.out]|fail "w3"
   clear d0 d1 d2 HW3
   go_upto_region 9 with (fail)
   first|rw [<-HW4.out]|fail "w4"
   clear g0 gf0 k0 k1 k2 HW4
   go_upto_region 10 with (fail)
   first|rw [<-HW5.out]|fail "w5"
   clear g1 gf1 k1' k2' HW5 y1 y2 hne7
   go_upto_region 11 with (fail)
   clear k2''
   go_loopw [45] (fun s45 wx=>∃ (i:Nat) (ps:List Int),i<=M/\s45=.int .i64 i/\Hid (SmI w wx b2 b4 b7 r n M (cameL l (k+1)) (leftL l (k+1)) ps)/\Hid (psI l M k i ps)) (fun s45 _=>M-(RowKit.intOf s45).toNat)
   case atStart=>exact ⟨0,ps,Nat.zero_le _,rfl,HI5,HPS⟩
   clear HI5 HPS
   case round=>
    obtain ⟨i,qs,hi,rfl,HI,HPS⟩:=hrel
    obtain ⟨wx,hwx⟩:∃ wx,wx=wr:=⟨_,rfl⟩
    subst hwx
    by_cases hiM:i<M
    ·have hbo:=HI.out.bel
     have hip:i<g.P.xs.length:=by rw [HGL.out];exact hiM
     obtain ⟨bp,op,ep,v0⟩:=((rdInts.mono HGP.out hbo).2.2.1).int i hip
     rw [show g.P.xs[i]'hip=g.P.xs.getD i 0 from by simp [List.getD,hip]] at v0
     have hpl:=passL_succ l i k
     rw [<-HGA.out] at hpl
     obtain ⟨p,hp⟩:∃ p,p=g.P.xs.getD i 0:=⟨_,rfl⟩
     rw [<-hp] at v0 hpl
     have bp1:=HS.out.pass (by have:=HL12.out.1;have:=HK.out;omega) (k:=k+1) (by have:=HKL.out;omega) (i:=i) (by rw [<-HM.out];exact hiM)
     have hq:=HPS.out.here hiM
     have hiq:i<qs.length:=by rw [HPS.out.1];exact hiM
     obtain ⟨P,hP⟩:∃ P,P=passL l i k:=⟨_,rfl⟩
     rw [<-hP] at hq hpl
     have v1:wx.cell? ⟨r,i,none⟩=some (.int .i64 P):=HI.out.own.int1 (k:=i) hiq (by rw [<-hq];simp [List.getD,hiq])
     have f1:=HI.out.own.free i
     have k7:wx.cell? ⟨b7,2,none⟩=some (.slice (some ⟨r,0,none⟩) M M):=(tank_blk HI.out.k7 2).trans rfl
     have y1:IntKind.i64.wrap (P+p)=P+p:=IntWalk.i64_in _ om
     have HPS2:Hid (psI l M k (i+1) (qs.set i (P+p))):=qh (HPS.out.put hiM hpl.symm)
     have HI2:Hid (SmI w (wx.setCell ⟨r,i,none⟩ (.int .i64 (P+p))) b2 b4 b7 r n M (cameL l (k+1)) (leftL l (k+1)) (qs.set i (P+p))):=qh (HI.out.setP (by have:=HB.out;omega) (by have:=HB.out;omega) (by have:=HB.out;omega) (by have:=HB.out;omega) hiq _)
     have i1:decide (i<M)=true:=decide_eq_true hiM
     have x8:IntKind.i64.wrap ((i:Int)+1)=i+1:=IntWalk.i64_in _ om
     have j4:(0:Int)<=i:=by omega
     have j5:(i:Int)<M:=by omega
     have EP:=qh ep
     have HIM:=qh hiM
     clear hip hp bp1 hq hiq hP hiM hpl hbo HI
     go_wp2_with fail
     clear ep
     first|rw [<-EP.out]|skip
     go_roundw
     case measure=>have:=HIM.out;simp [RowKit.intOf,x8];omega
     case rel=>exact ⟨i+1,_,HIM.out,by go_num,HI2,HPS2⟩
    ·have hie:M=i:=by omega
     subst hie
     have i1:decide (M<M)=false:=decide_eq_false (Nat.lt_irrefl M)
     have hbo:=HI.out.bel
     have hlb:=led_big HS.out (by have:=HL12.out.1;have:=HK.out;omega) HKL.out (ps:=qs) (by rw [<-HM.out];exact HPS.out) (some ⟨r,0,none⟩) M
     rw [<-HM.out] at hlb
     have hIs:IsInts wx (.slice (some ⟨r,0,none⟩) qs.length M) qs:=by
      have h:=HI.out.own.isL (enc:=eInt) (fun _=>rfl)
      rw [HPS.out.1];exact h
     have hva:=bavalid_any n ⟨cameL l (k+1),leftL l (k+1),⟨some ⟨r,0,none⟩,M,qs⟩⟩ wx hIs
     rw [hlb] at hva
     simp only [vNet,vLed,vSl] at hva
     rw [HPS.out.1,<-HM.out] at hva
     obtain ⟨CI,hCI⟩:∃ c,c=cameL l (k+1):=⟨_,rfl⟩
     obtain ⟨CO,hCO⟩:∃ c,c=leftL l (k+1):=⟨_,rfl⟩
     have HI':=HI.out
     rw [<-hCI,<-hCO] at hva HI'
     have m0:wx.cell? ⟨b7,0,none⟩=some (.int .i64 CI):=(tank_blk HI'.k7 0).trans rfl
     have m1:wx.cell? ⟨b7,1,none⟩=some (.int .i64 CO):=(tank_blk HI'.k7 1).trans rfl
     have m2:wx.cell? ⟨b7,2,none⟩=some (.slice (some ⟨r,0,none⟩) M M):=(tank_blk HI'.k7 2).trans rfl
     have q0:wx.cell? ⟨b2,0,none⟩=some (.slice n.Ns.a n.Ns.xs.length n.Ns.cap):=(tank_blk HI'.k2 0).trans rfl
     have q1:wx.cell? ⟨b2,1,none⟩=some (.slice n.Ls.a M n.Ls.cap):=by rw [HM.out];exact (tank_blk HI'.k2 1).trans rfl
     obtain ⟨bb,hbb⟩:∃ bb,bb=bigI l k M:=⟨_,rfl⟩
     rw [<-hbb] at hva
     have HBB:=qh hbb
     clear hbo hlb hIs hCI hCO HI' hi hbb
     go_wp2_with fail
     refine Calls.to hva ?_
     rintro e w6 rfl hb6
     have HI6:=HI.out.grow hb6
     clear hva m0 m1 m2 q0 q1 HI hb6
     cases bb
     ·have HPS2:Hid (psI l M (k+1) 0 qs):=qh HPS.out.over
      have HBG2:Hid (bigK l M (k+1)=false):=qh (by rw [bigK_succ,HBG.out,<-HBB.out];rfl)
      have HI7:=qh HI6
      clear HI6
      go_wp2_with fail
      clear ea
      first|rw [<-EA.out]|skip
      go_roundw
      case measure=>have:=HKK.out;simp [RowKit.intOf,x7];omega
      case rel=>exact ⟨k+1,qs,HKK.out,by go_num,HI7,HPS2,HBG2⟩
     ·have hbig:bigK l M K=true:=bigK_iff.2 ⟨k,HKK.out,HBB.out.symm⟩
      have HBIG:Hid (PR (.tuple #[.agg #[.int .i64 0,.int .i64 0,.slice none 0 0],.int .i64 5])):=qh (by
       rw [HPR.out]
       rw [HM.out,HK.out] at hbig
       exact .big hbig)
      have h0:w6.cell? ⟨b4,0,none⟩=some (.int .i64 0):=(tank_blk HI6.k4 0).trans rfl
      have h1:w6.cell? ⟨b4,1,none⟩=some (.int .i64 0):=(tank_blk HI6.k4 1).trans rfl
      have h2:w6.cell? ⟨b4,2,none⟩=some (.slice none 0 0):=(tank_blk HI6.k4 2).trans rfl
      have hf0:w6.frozen? ⟨b4,0,none⟩=false:=tank_free HI6.k4 0
      have hf1:w6.frozen? ⟨b4,1,none⟩=false:=tank_free HI6.k4 1
      have hf2:w6.frozen? ⟨b4,2,none⟩=false:=tank_free HI6.k4 2
      have e0:w6.setCell ⟨b4,0,none⟩ (.int .i64 0)=w6:=setCell_id HI6.k4 rfl
      have e1:w6.setCell ⟨b4,1,none⟩ (.int .i64 0)=w6:=setCell_id HI6.k4 rfl
      have e2:w6.setCell ⟨b4,2,none⟩ (.slice none 0 0)=w6:=setCell_id HI6.k4 rfl
      have hbf:=HI6.bel
      clear HI6 hbig
      go_wp2_with fail
      exact bodyPost_ret (v:=.tuple #[.agg #[.int .i64 0,.int .i64 0,.slice none 0 0],.int .i64 5]) (by simp (maxDischargeDepth:=9) [results,Tryz.results15,go_sem,h0,h1,h2]) rfl ⟨⟨_,rfl,HBIG.out⟩,hbf⟩
  ·have hke:K=k:=by omega
   subst hke
   have i1:decide (K<K)=false:=decide_eq_false (Nat.lt_irrefl K)
   obtain ⟨CI,hCI⟩:∃ c,c=cameL l K:=⟨_,rfl⟩
   obtain ⟨CO,hCO⟩:∃ c,c=leftL l K:=⟨_,rfl⟩
   have HOK:Hid (PR (.tuple #[.agg #[.int .i64 CI,.int .i64 CO,.slice (some ⟨r,0,none⟩) M M],.int .i64 0])):=qh (by
    have hB:=HBG.out
    rw [HPR.out,hCI,hCO]
    rw [HM.out,HK.out] at hB
    rw [HK.out]
    exact .ok _ _ _ hB)
   have HI':=HI.out
   rw [<-hCI,<-hCO] at HI'
   have m0:wo.cell? ⟨b7,0,none⟩=some (.int .i64 CI):=(tank_blk HI'.k7 0).trans rfl
   have m1:wo.cell? ⟨b7,1,none⟩=some (.int .i64 CO):=(tank_blk HI'.k7 1).trans rfl
   have m2:wo.cell? ⟨b7,2,none⟩=some (.slice (some ⟨r,0,none⟩) M M):=(tank_blk HI'.k7 2).trans rfl
   have h0:wo.cell? ⟨b4,0,none⟩=some (.int .i64 0):=(tank_blk HI'.k4 0).trans rfl
   have h1:wo.cell? ⟨b4,1,none⟩=some (.int .i64 0):=(tank_blk HI'.k4 1).trans rfl
   have h2:wo.cell? ⟨b4,2,none⟩=some (.slice none 0 0):=(tank_blk HI'.k4 2).trans rfl
   have hf0:wo.frozen? ⟨b4,0,none⟩=false:=tank_free HI'.k4 0
   have hf1:wo.frozen? ⟨b4,1,none⟩=false:=tank_free HI'.k4 1
   have hf2:wo.frozen? ⟨b4,2,none⟩=false:=tank_free HI'.k4 2
   have hwb:w.heap.size<=b4:=by have:=HB.out;omega
   have HBE:=qh HI'.bel
   clear hCI hCO HI' HI hkK
   go_wp2_with fail
   have hbf:=((HBE.out.setCell (p:=⟨b4,0,none⟩) hwb (.int .i64 CI)).setCell (p:=⟨b4,1,none⟩) hwb (.int .i64 CO)).setCell (p:=⟨b4,2,none⟩) hwb (.slice (some ⟨r,0,none⟩) M M)
   have z0:(((wo.setCell ⟨b4,0,none⟩ (.int .i64 CI)).setCell ⟨b4,1,none⟩ (.int .i64 CO)).setCell ⟨b4,2,none⟩ (.slice (some ⟨r,0,none⟩) M M)).cell? ⟨b4,0,none⟩=some (.int .i64 CI):=by simp [go_sem,h0]
   have z1:(((wo.setCell ⟨b4,0,none⟩ (.int .i64 CI)).setCell ⟨b4,1,none⟩ (.int .i64 CO)).setCell ⟨b4,2,none⟩ (.slice (some ⟨r,0,none⟩) M M)).cell? ⟨b4,1,none⟩=some (.int .i64 CO):=by simp [go_sem,h1]
   have z2:(((wo.setCell ⟨b4,0,none⟩ (.int .i64 CI)).setCell ⟨b4,1,none⟩ (.int .i64 CO)).setCell ⟨b4,2,none⟩ (.slice (some ⟨r,0,none⟩) M M)).cell? ⟨b4,2,none⟩=some (.slice (some ⟨r,0,none⟩) M M):=by simp [go_sem,h2]
   exact bodyPost_ret (v:=.tuple #[.agg #[.int .i64 CI,.int .i64 CO,.slice (some ⟨r,0,none⟩) M M],.int .i64 0]) (by simp (maxDischargeDepth:=9) [results,Tryz.results15,go_sem,z0,z1,z2]) rfl ⟨⟨_,rfl,HOK.out⟩,hbf⟩
end Go.Proofs.YtoiakijmbghhlaaGreat
