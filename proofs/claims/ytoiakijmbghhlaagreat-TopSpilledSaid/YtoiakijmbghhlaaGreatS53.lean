/- The walk of the law TopSpilled. Conditions: the arguments read as data. -/
import Derived.Test.YtoiakijmbghhlaaGreatS45
import Derived.Test.YtoiakijmbghhlaaGreatS49
import Derived.Test.YtoiakijmbghhlaaGreatS52
import Derived.Test.YtoiakijmbghhlaaGreatS42
set_option linter.unusedVariables false
set_option linter.unusedSimpArgs false
set_option maxRecDepth 100000
set_option maxHeartbeats 32000000
namespace Go.Proofs.YtoiakijmbghhlaaGreat
open Go.RowKit Go.Maps
theorem ent35:∀ args w,(callFunc 35 args).run Tryz.prog w=.ok (.enter 35 args) w:=by
 intro args w
 simp [go_sem]
theorem tspi1_any (x:Nd) (nm:ByteArray) (B:Nat) (w:World) (hc:w.cell? ⟨B,0,none⟩=some (.string nm)) :
  Calls Tryz.prog 35 #[vNd x,.pointer (some ⟨B,0,none⟩)] w fun e w'=>e=.returned (.bool (strB x.Name nm))/\Below w.heap.size w w':=by
 have H:Hid (strB x.Name nm=(x.Name.toList==nm.toList)):=rfl
 obtain ⟨xn,kd,ax,ay,iv,gr,⟨sa,scap,sxs⟩,pr,rs⟩:=x
 simp only at H
 simp only [vNd]
 generalize strB xn nm=r at *
 cases h:(xn.toList==nm.toList)
 all_goals
  have HH:=qh (H.out.trans h)
  clear H
  go_enter Tryz.func35,Tryz.ntmps35
  go_wp2_with fail
  go_ret
  exact ⟨ret_bool HH.out.symm,bl⟩
theorem capX_ok {n:Net} (hn:netB n=true) {i:Nat} (hi:i<n.Ns.xs.length):capXB (ndK n i)=(capB (ndK n i),0):=by
 have h:=(netB_nd hn i hi).1
 rw [ndK_at hi]
 simp only [capXB,h,if_true]
theorem pond_at {sts:List St} {k i:Nat} (hk:k<sts.length) (hi:i<(sts[k]).P.xs.length):(pondL sts i).drop k=(sts[k]).P.xs[i] :: (pondL sts i).drop (k+1):=by
 have hl:k<(pondL sts i).length:=by simp [pondL];exact hk
 rw [List.drop_eq_getElem_cons hl]
 congr 1
 simp [pondL,List.getD,hi]
theorem tspi_walk (v0:Value) (n:Net) (v1:Value) (ss:Sl SecD) (v2:Value) (x:St) (v3:Value) (ins:Sl InD) (sec steps:Int) (w:World) (w0:v0=vNet n/\gNet w n) (w1:v1=vSl ss/\gSecs w ss) (w2:v2=vSt x/\gSt w x) (w3:v3=vSl ins/\gIns w ins)
  (w4:(Lit.int .i64 sec).wf=true) (w5:(Lit.int .i64 steps).wf=true) :
  Calls Tryz.prog 5 #[v0,v1,v2,v3,.int .i64 sec,.int .i64 steps] w fun e w'=>e=.returned (.bool true)/\Below w.heap.size w w':=by
 obtain ⟨rfl,hg⟩:=w0
 obtain ⟨rfl,hss⟩:=w1
 obtain ⟨rfl,hx⟩:=w2
 obtain ⟨rfl,hin⟩:=w3
 obtain ⟨LB,hLL⟩:∃ L:List (Array Value×TypeId),L = [((eNet n).toArray,25),((eSt x).toArray,31)]:=⟨_,rfl⟩
 obtain ⟨W,hW⟩:∃ W,W=allocs w LB:=⟨_,rfl⟩
 have hbw:Below w.heap.size w W:=by rw [hW];exact allocs_below _ _
 have t0:W.heap[w.heap.size]? = some (.cells (eNet n).toArray 25 (0,0)):=by rw [hW,hLL];exact allocs_at _ w 0 (by simp)
 have t1:W.heap[w.heap.size+1]? = some (.cells (eSt x).toArray 31 (0,0)):=by rw [hW,hLL];exact allocs_at _ w 1 (by simp)
 have HW:Hid (W=(w.alloc (.cells (eNet n).toArray 25)).alloc (.cells (eSt x).toArray 31)):=qh (by rw [hW,hLL];rfl)
 obtain ⟨N,hN⟩:∃ N,N=n.Ns.xs.length:=⟨_,rfl⟩
 obtain ⟨M,hM⟩:∃ M,M=n.Ls.xs.length:=⟨_,rfl⟩
 have HN:=qh hN
 have HM:=qh hM
 have HG:=qh hg
 have HSS:=qh hss
 have HX:=qh hx
 have HINS:=qh hin
 have q0:W.cell? ⟨w.heap.size,0,none⟩=some (.slice n.Ns.a N n.Ns.cap):=by rw [hN];exact (tank_blk t0 0).trans rfl
 have q1:W.cell? ⟨w.heap.size,1,none⟩=some (.slice n.Ls.a M n.Ls.cap):=by rw [hM];exact (tank_blk t0 1).trans rfl
 have s0:W.cell? ⟨w.heap.size+1,0,none⟩=some (.slice x.V.a x.V.xs.length x.V.cap):=(tank_blk t1 0).trans rfl
 have s1:W.cell? ⟨w.heap.size+1,1,none⟩=some (.slice x.P.a x.P.xs.length x.P.cap):=(tank_blk t1 1).trans rfl
 have s2:W.cell? ⟨w.heap.size+1,2,none⟩=some (.slice x.S.a x.S.xs.length x.S.cap):=(tank_blk t1 2).trans rfl
 have s3:W.cell? ⟨w.heap.size+1,3,none⟩=some (.slice x.O.a x.O.xs.length x.O.cap):=(tank_blk t1 3).trans rfl
 clear hW hLL t0 t1 hg hss hx hin w4 w5 hN hM
 simp only [vNet,vSt,vSl]
 rw [<-HN.out,<-HM.out]
 go_enter Tryz.func5,Tryz.ntmps5
 go_upto_region 1 with (fail)
 try simp only [Nat.add_assoc,Nat.reduceAdd]
 first|(rw [HN.out,HM.out,<-HW.out,<-HN.out,<-HM.out])|rw [<-HW.out]|fail "W"
 clear HW
 go_wp2_with fail
 refine Calls.to (hawake_any _) ?_
 rintro e y1 rfl hb1
 have hbr:=hbw.trans (hb1.mono hbw.size)
 replace q0:=cel_lt q0 hb1
 replace q1:=cel_lt q1 hb1
 replace s0:=cel_lt s0 hb1
 replace s1:=cel_lt s1 hb1
 replace s2:=cel_lt s2 hb1
 replace s3:=cel_lt s3 hb1
 have hpl:=plarge_any n y1 (rdNet.mono HG.out hbr)
 simp only [vNet,vSl] at hpl
 rw [<-HN.out,<-HM.out] at hpl
 clear hb1 hbw
 go_wp2_with fail
 refine Calls.to hpl ?_
 rintro e y2 ⟨b1,rfl,hsm⟩ hb1
 have HSM:=qh hsm
 have hbr:=hbr.trans (hb1.mono hbr.size)
 replace q0:=cel_lt q0 hb1
 replace q1:=cel_lt q1 hb1
 replace s0:=cel_lt s0 hb1
 replace s1:=cel_lt s1 hb1
 replace s2:=cel_lt s2 hb1
 replace s3:=cel_lt s3 hb1
 clear hb1 hpl hsm
 cases b1
 rotate_left
 ·go_wp2_with fail
  go_ret
  exact ⟨rfl,hbr⟩
 have hNM:N<=12/\M<=12:=HSM.out rfl
 have HNM:=qh hNM
 have hpm:=pmany_any ss.xs _ [] _ ins.xs _ y2 (HSS.out.isL.mono hbr) (IsL.nil _ _ _) (HINS.out.isL.mono hbr)
 simp only [vSl] at hpm
 go_wp2_with fail
 refine Calls.to hpm ?_
 rintro e y3 ⟨b2,rfl⟩ hb1
 have hbr:=hbr.trans (hb1.mono hbr.size)
 replace q0:=cel_lt q0 hb1
 replace q1:=cel_lt q1 hb1
 replace s0:=cel_lt s0 hb1
 replace s1:=cel_lt s1 hb1
 replace s2:=cel_lt s2 hb1
 replace s3:=cel_lt s3 hb1
 clear hb1 hpm
 cases b2
 rotate_left
 ·go_wp2_with fail
  go_ret
  exact ⟨rfl,hbr⟩
 by_cases hst:12<steps
 ·have i1:decide (12<steps)=true:=decide_eq_true hst
  clear hst
  go_wp2_with fail
  go_ret
  exact ⟨rfl,hbr⟩
 have i1:decide (12<steps)=false:=decide_eq_false hst
 have hrun:=smrun_any n ss.xs (vSl ss) x ins.xs (vSl ins) sec steps y3 (rdNet.mono HG.out hbr) (gSecs.is (rdSecs.mono HSS.out hbr)) (rdSt.mono HX.out hbr) (HINS.out.isL.mono hbr) (fun y hy=>rdIn.mono (HINS.out.2.2.2 y hy) hbr)
 simp only [vNet,vSt,vSl] at hrun
 rw [<-HN.out,<-HM.out] at hrun
 have HSTP:=qh hst
 clear hst
 go_wp2_with fail
 refine Calls.to hrun ?_
 rintro e y4 ⟨u,rfl,hro⟩ hb1
 have hbr:=hbr.trans (hb1.mono hbr.size)
 replace q0:=cel_lt q0 hb1
 replace q1:=cel_lt q1 hb1
 clear hb1 hrun i1 s0 s1 s2 s3
 cases hro with
 | no e he=>
  have z1:(e != 0)=true:=by simpa using he
  clear he
  go_wp2_with fail
  go_ret
  exact ⟨rfl,hbr⟩
 | ok sts leds vT vU hNB hLS hLL hT hU hGS=>
 cases sts with
 | nil=>
  have hv0:∃ a c,vT=.slice a 0 c:=by
   obtain ⟨a,c,e,-⟩:=hT
   exact ⟨a,c,e⟩
  obtain ⟨a,c,rfl⟩:=hv0
  clear hT hU hLS
  go_wp2_with fail
  go_ret
  exact ⟨rfl,hbr⟩
 | cons sfst srest=>
 obtain ⟨sts,hsts⟩:∃ sts,sts=sfst :: srest:=⟨_,rfl⟩
 rw [<-hsts] at hLS hLL hT hGS
 have hK0:0<sts.length:=by rw [hsts];simp
 obtain ⟨aT,cT,rfl,hT1,hT2,hT3⟩:=hT
 obtain ⟨K,hK⟩:∃ K,K=sts.length:=⟨_,rfl⟩
 rw [<-hK] at hK0 hT1 ⊢
 have hK12:K<=12:=by have:=HSTP.out;omega
 have HK:=qh hK
 have HNB:=qh hNB
 have HT:=qh hT3
 have HTC:Hid (K<=cT/\cT<=9223372036854775807):=qh ⟨hT1,hT2⟩
 have HGS:=qh hGS
 have HSG:Hid (∀ s∈sts,SGood n s):=qh (fun s hs=>(hGS s hs).2)
 have Y0:=qh hbr
 have Q0:=qh (And.intro q0 q1)
 have HKK:=qh (And.intro hK0 hK12)
 have j1:((K:Int)==0)=false:=by rw [beq_eq_false_iff_ne];omega
 have j2:(K==0)=false:=by rw [beq_eq_false_iff_ne];omega
 have HT0:Hid (totalM sts=totalGo (-1) 0 0 (sts.drop 0)):=qh (totalM_short HSG.out om (by have:=HN.out;omega))
 clear hsts hLS hLL hU hT1 hT2 hT3 hK hNB hGS hbr
 go_wp2_with fail
 clear j1 j2
 go_loopw [16,17,79] (fun s16 s17 s79 wr=>∃ (k:Nat) (mo wi:Int),k<=K/\s16=.int .i64 mo/\s17=.int .i64 wi/\s79=.int .i64 k/\Below y4.heap.size y4 wr/\Hid (totalM sts=totalGo mo wi k (sts.drop k))/\Hid (0<k->0<=mo)) (fun _ _ s79 _=>K-(RowKit.intOf s79).toNat)
 case atStart=>exact ⟨0,-1,0,Nat.zero_le _,rfl,rfl,rfl,qr,HT0,qh (fun h=>absurd h (Nat.lt_irrefl 0))⟩
 clear q0 q1 HT0
 case round=>
  as_aux_lemma=>
  obtain ⟨k,mo,wi,hk,rfl,rfl,rfl,hb,HTG,HM0⟩:=hrel
  obtain ⟨wo,hwo⟩:∃ wo,wo=wr:=⟨_,rfl⟩
  subst hwo
  have hbr:=Y0.out.trans (hb.mono Y0.out.size)
  by_cases hkK:k<K
  ·
   have hks:k<sts.length:=by rw [<-HK.out];exact hkK
   obtain ⟨bt,ot,eT,c0,c1,c2,c3⟩:=(HT.out.mono hb).st k hks
   obtain ⟨s,hsx⟩:∃ s,s=sts[k]'hks:=⟨_,rfl⟩
   have hgs:gSt wo s:=by rw [hsx];exact rdSt.mono (HGS.out _ (List.getElem_mem hks)).1 hb
   have HSS':Hid (SGood n s):=qh (by rw [hsx];exact HSG.out _ (List.getElem_mem hks))
   have HDR:Hid (sts.drop k=s :: sts.drop (k+1)):=qh (by rw [hsx];exact List.drop_eq_getElem_cons hks)
   rw [<-hsx] at c0 c1 c2 c3
   obtain ⟨W2,hW2⟩:∃ W2,W2=wo.alloc (.cells (eSt s).toArray 31):=⟨_,rfl⟩
   have hbA:Below wo.heap.size wo W2:=by rw [hW2];exact alloc_below _ _
   have k19:W2.heap[wo.heap.size]? = some (.cells (eSt s).toArray 31 (0,0)):=by rw [hW2];exact heap_alloc_new _ _
   have HW2:=qh hW2
   have hb2:=hb.trans (hbA.mono hb.size)
   have hbr2:=hbr.trans (hbA.mono hbr.size)
   have HGS2:=qh (rdSt.mono hgs hbA)
   obtain ⟨b19,hb19⟩:∃ b,b=wo.heap.size:=⟨_,rfl⟩
   rw [<-hb19] at k19
   have q0:=cel_lt Q0.out.1 hb2
   have q1:=cel_lt Q0.out.2 hb2
   have s0:W2.cell? ⟨b19,0,none⟩=some (.slice s.V.a s.V.xs.length s.V.cap):=(tank_blk k19 0).trans rfl
   have s1:W2.cell? ⟨b19,1,none⟩=some (.slice s.P.a s.P.xs.length s.P.cap):=(tank_blk k19 1).trans rfl
   have s2:W2.cell? ⟨b19,2,none⟩=some (.slice s.S.a s.S.xs.length s.S.cap):=(tank_blk k19 2).trans rfl
   have s3:W2.cell? ⟨b19,3,none⟩=some (.slice s.O.a s.O.xs.length s.O.cap):=(tank_blk k19 3).trans rfl
   have i1:decide (k<K)=true:=decide_eq_true hkK
   have x9:IntKind.i64.wrap ((k:Int)+1)=k+1:=IntWalk.i64_in _ om
   have i4:(0:Int)<=k:=by omega
   have i5:(k:Int)<K:=by omega
   have HKM:=qh hkK
   have ET:=qh eT
   have hsv:=svalid_any n s W2 (rdNet.mono HG.out hbr2) HGS2.out
   rw [HNB.out,HSS'.out.1] at hsv
   simp only [vNet,vSt,vSl,Bool.and_self] at hsv
   rw [<-HN.out,<-HM.out] at hsv
   clear hsx hgs hW2 hbA hks hkK hb hbr hk
   go_upto_region 12 with (fail)
   rw [<-hb19]
   clear hb19
   first|rw [<-HW2.out]|fail "W2"
   clear c0 c1 c2 c3 HW2 eT
   first|rw [<-ET.out]|skip
   go_wp2_with fail
   refine Calls.to hsv ?_
   rintro e w3 rfl hb3
   have hbX:=hb2.trans (hb3.mono hb2.size)
   have K19':=qh (blk_mono k19 hb3)
   have HGS3:=qh (rdSt.mono HGS2.out hb3)
   have HBR3:=qh (hbr2.trans (hb3.mono hbr2.size))
   have Q3:Hid (w3.cell? ⟨w.heap.size,0,none⟩=some (.slice n.Ns.a N n.Ns.cap)/\w3.cell? ⟨w.heap.size,1,none⟩=some (.slice n.Ls.a M n.Ls.cap)):=qh ⟨cel_lt q0 hb3,cel_lt q1 hb3⟩
   replace q0:=cel_lt q0 hb3
   have HSL:=qh (HSS'.out.len)
   have hl2:s.P.xs.length=N:=by rw [HSL.out.2,<-HN.out]
   have hl1:s.V.xs.length=N:=by rw [HSL.out.1,<-HN.out]
   have HLN:=qh (And.intro hl1 hl2)
   clear hsv hb3 hb2 hbr2 k19 q1 s0 s1 s2 s3 HGS2 hl1 hl2
   go_wp2_with fail
   go_loopw [20,91] (fun s20 s91 wr=>∃ (i:Nat) (sm:Int),i<=N/\s20=.int .i64 sm/\s91=.int .i64 i/\Below w3.heap.size w3 wr/\Hid (wsum 0 s.P.xs=wsum sm (s.P.xs.drop i))) (fun _ s91 _=>N-(RowKit.intOf s91).toNat)
   case atStart=>exact ⟨0,0,Nat.zero_le _,rfl,rfl,qr,qh (by simp)⟩
   clear q0
   case round=>
    as_aux_lemma=>
    obtain ⟨i,sm,hi,rfl,rfl,hb,HWS⟩:=hrel
    obtain ⟨wj,hwj⟩:∃ wj,wj=wr:=⟨_,rfl⟩
    subst hwj
    by_cases hiN:i<N
    ·
     have hin:i<n.Ns.xs.length:=by rw [<-HN.out];exact hiN
     have hip:i<s.P.xs.length:=by rw [HLN.out.2];exact hiN
     have hiv:i<s.V.xs.length:=by rw [HLN.out.1];exact hiN
     have hbrj:=HBR3.out.trans (hb.mono HBR3.out.size)
     obtain ⟨bn,on,ea,c0,c1,c2,c3,c4,c5,c6,c7,c8⟩:=((rdNet.mono HG.out hbrj).1.2.2.1).nd i hin
     obtain ⟨z,hz⟩:∃ z,z=n.Ns.xs[i]'hin:=⟨_,rfl⟩
     have HZ:Hid (z=ndK n i):=qh (by rw [ndK_at hin,hz])
     rw [<-hz] at c0 c1 c2 c3 c4 c5 c6 c7 c8
     have hgz:gNd wj z:=by rw [hz];exact (rdNet.mono HG.out hbrj).1.2.2.2 _ (List.getElem_mem hin)
     obtain ⟨W5,hW5⟩:∃ W5,W5=wj.alloc (.cells (eNd z).toArray 48):=⟨_,rfl⟩
     have hbA:Below wj.heap.size wj W5:=by rw [hW5];exact alloc_below _ _
     have k22:W5.heap[wj.heap.size]? = some (.cells (eNd z).toArray 48 (0,0)):=by rw [hW5];exact heap_alloc_new _ _
     have HW5:=qh hW5
     have hb5:=hb.trans (hbA.mono hb.size)
     obtain ⟨b22,hb22⟩:∃ b,b=wj.heap.size:=⟨_,rfl⟩
     rw [<-hb22] at k22
     have K22:=qh k22
     have K19:=qh (blk_mono K19'.out hb5)
     have QQ:Hid (W5.cell? ⟨w.heap.size,0,none⟩=some (.slice n.Ns.a N n.Ns.cap)/\W5.cell? ⟨w.heap.size,1,none⟩=some (.slice n.Ls.a M n.Ls.cap)):=qh ⟨cel_lt Q3.out.1 hb5,cel_lt Q3.out.2 hb5⟩
     have HG5:Hid (gNet W5 n/\gSt W5 s/\gNd W5 z):=qh ⟨rdNet.mono HG.out (hbrj.trans (hbA.mono hbrj.size)),rdSt.mono HGS3.out hb5,rdNd.mono hgz hbA⟩
     obtain ⟨bp,op,ep,d0⟩:=HG5.out.2.1.2.1.2.2.1.int i hip
     obtain ⟨p,hp⟩:∃ p,p=s.P.xs[i]'hip:=⟨_,rfl⟩
     rw [<-hp] at d0
     have HWN:Hid (wsum 0 s.P.xs=wsum (wrap64 (sm+p)) (s.P.xs.drop (i+1))):=qh (by rw [HWS.out,List.drop_eq_getElem_cons hip,hp,wsum])
     have HPG:Hid (s.P.xs.getD i 0=p):=qh (by rw [hp];simp [List.getD,hip])
     have i1:decide (i<N)=true:=decide_eq_true hiN
     have x7:IntKind.i64.wrap ((i:Int)+1)=i+1:=IntWalk.i64_in _ (by have:=HNM.out;omega)
     have i4:(0:Int)<=i:=by omega
     have i5:(i:Int)<N:=by omega
     have HIN:=qh hiN
     have EA:=qh ea
     have EP:=qh ep
     have l1:=HLN.out.1
     have l2:=HLN.out.2
     have s1:W5.cell? ⟨b19,1,none⟩=some (.slice s.P.a N s.P.cap):=by rw [<-l2];exact (tank_blk K19.out 1).trans rfl
     clear hz hgz hW5 hbA hb k22 hp hin hip hbrj hiN hi l1 l2
     go_upto_region 18 with (fail)
     rw [<-hb22]
     clear hb22
     first|rw [<-HW5.out]|fail "W5"
     clear c0 c1 c2 c3 c4 c5 c6 c7 c8 HW5 ea
     first|rw [<-EA.out]|skip
     by_cases hp0:p=0
     ·have j1:(p==0)=true:=by rw [beq_iff_eq];exact hp0
      clear hiv hp0
      go_wp2_with fail
      clear ep
      first|rw [<-EP.out]|skip
      go_roundw
      case measure=>have:=HIN.out;simp [RowKit.intOf,x7];omega
      case rel=>exact ⟨i+1,_,HIN.out,rfl,by go_num,hb5,HWN⟩
     ·
      have j1:(p==0)=false:=by rw [beq_eq_false_iff_ne];exact hp0
      have HCA:Hid ((ndK n i).Kind≠3/\s.V.xs.getD i 0=capB (ndK n i)/\(causeP n s i).2=0/\∃ c,CauseOk n s (causeP n s i).1 c):=qh (HSS'.out.cause HNB.out i (by rw [<-HN.out];exact HIN.out) (by rw [HPG.out];exact hp0))
      clear hp0
      go_upto_region 20 with (fail)
      clear ep d0 j1 s1
      first|rw [<-EP.out]|skip
      obtain ⟨C,hC⟩:∃ C,C=capB z:=⟨_,rfl⟩
      have hvc:s.V.xs.getD i 0=C:=by rw [hC,HZ.out];exact HCA.out.2.1
      have hcap:=scapX_any z W5 HG5.out.2.2
      rw [show capXB z=(C,0) from by rw [hC,HZ.out];exact capX_ok HNB.out (by rw [<-HN.out];exact HIN.out)] at hcap
      simp only [vNd,vSl] at hcap
      have hkd:(z.Kind==3)=false:=by rw [beq_eq_false_iff_ne,HZ.out];exact HCA.out.1
      have HKD:=qh hkd
      have HVC:=qh hvc
      clear hC hvc hkd
      have b55:=Below.refl W5.heap.size W5
      have q0:=cel_lt QQ.out.1 b55
      have q1:=cel_lt QQ.out.2 b55
      have s0:(W5).cell? ⟨b19,0,none⟩=some (.slice s.V.a N s.V.cap):=by rw [<-HLN.out.1];exact (tank_blk (blk_mono K19.out b55) 0).trans rfl
      have s1:(W5).cell? ⟨b19,1,none⟩=some (.slice s.P.a N s.P.cap):=by rw [<-HLN.out.2];exact (tank_blk (blk_mono K19.out b55) 1).trans rfl
      have s2:(W5).cell? ⟨b19,2,none⟩=some (.slice s.S.a s.S.xs.length s.S.cap):=(tank_blk (blk_mono K19.out b55) 2).trans rfl
      have s3:(W5).cell? ⟨b19,3,none⟩=some (.slice s.O.a s.O.xs.length s.O.cap):=(tank_blk (blk_mono K19.out b55) 3).trans rfl
      have z0:(W5).cell? ⟨b22,0,none⟩=some (.string z.Name):=(tank_blk (blk_mono K22.out b55) 0).trans rfl
      have z1:(W5).cell? ⟨b22,1,none⟩=some (.int .i64 z.Kind):=(tank_blk (blk_mono K22.out b55) 1).trans rfl
      have z2:(W5).cell? ⟨b22,2,none⟩=some (.int .i64 z.AX):=(tank_blk (blk_mono K22.out b55) 2).trans rfl
      have z3:(W5).cell? ⟨b22,3,none⟩=some (.int .i64 z.AY):=(tank_blk (blk_mono K22.out b55) 3).trans rfl
      have z4:(W5).cell? ⟨b22,4,none⟩=some (.int .i64 z.Inv):=(tank_blk (blk_mono K22.out b55) 4).trans rfl
      have z5:(W5).cell? ⟨b22,5,none⟩=some (.int .i64 z.Gr):=(tank_blk (blk_mono K22.out b55) 5).trans rfl
      have z6:(W5).cell? ⟨b22,6,none⟩=some (.slice z.Sh.a z.Sh.xs.length z.Sh.cap):=(tank_blk (blk_mono K22.out b55) 6).trans rfl
      have z7:(W5).cell? ⟨b22,7,none⟩=some (.bool z.Pro):=(tank_blk (blk_mono K22.out b55) 7).trans rfl
      have z8:(W5).cell? ⟨b22,8,none⟩=some (.int .i64 z.Res):=(tank_blk (blk_mono K22.out b55) 8).trans rfl
      go_wp2_with fail
      refine Calls.to hcap ?_
      rintro e w6 rfl hb6
      clear q0 q1 s0 s1 s2 s3 z0 z1 z2 z3 z4 z5 z6 z7 z8
      clear hcap b55
      have q0:=cel_lt QQ.out.1 hb6
      have q1:=cel_lt QQ.out.2 hb6
      have s0:(w6).cell? ⟨b19,0,none⟩=some (.slice s.V.a N s.V.cap):=by rw [<-HLN.out.1];exact (tank_blk (blk_mono K19.out hb6) 0).trans rfl
      have s1:(w6).cell? ⟨b19,1,none⟩=some (.slice s.P.a N s.P.cap):=by rw [<-HLN.out.2];exact (tank_blk (blk_mono K19.out hb6) 1).trans rfl
      have s2:(w6).cell? ⟨b19,2,none⟩=some (.slice s.S.a s.S.xs.length s.S.cap):=(tank_blk (blk_mono K19.out hb6) 2).trans rfl
      have s3:(w6).cell? ⟨b19,3,none⟩=some (.slice s.O.a s.O.xs.length s.O.cap):=(tank_blk (blk_mono K19.out hb6) 3).trans rfl
      have z0:(w6).cell? ⟨b22,0,none⟩=some (.string z.Name):=(tank_blk (blk_mono K22.out hb6) 0).trans rfl
      have z1:(w6).cell? ⟨b22,1,none⟩=some (.int .i64 z.Kind):=(tank_blk (blk_mono K22.out hb6) 1).trans rfl
      have z2:(w6).cell? ⟨b22,2,none⟩=some (.int .i64 z.AX):=(tank_blk (blk_mono K22.out hb6) 2).trans rfl
      have z3:(w6).cell? ⟨b22,3,none⟩=some (.int .i64 z.AY):=(tank_blk (blk_mono K22.out hb6) 3).trans rfl
      have z4:(w6).cell? ⟨b22,4,none⟩=some (.int .i64 z.Inv):=(tank_blk (blk_mono K22.out hb6) 4).trans rfl
      have z5:(w6).cell? ⟨b22,5,none⟩=some (.int .i64 z.Gr):=(tank_blk (blk_mono K22.out hb6) 5).trans rfl
      have z6:(w6).cell? ⟨b22,6,none⟩=some (.slice z.Sh.a z.Sh.xs.length z.Sh.cap):=(tank_blk (blk_mono K22.out hb6) 6).trans rfl
      have z7:(w6).cell? ⟨b22,7,none⟩=some (.bool z.Pro):=(tank_blk (blk_mono K22.out hb6) 7).trans rfl
      have z8:(w6).cell? ⟨b22,8,none⟩=some (.int .i64 z.Res):=(tank_blk (blk_mono K22.out hb6) 8).trans rfl
      have hca:=cause_any n s i w6 (rdNet.mono HG5.out.1 hb6) (rdSt.mono HG5.out.2.1 hb6)
      obtain ⟨nm,hnm⟩:∃ nm,nm=(causeP n s i).1:=⟨_,rfl⟩
      obtain ⟨c,hck⟩:=HCA.out.2.2.2
      rw [HCA.out.2.2.1,<-hnm] at hca
      rw [<-hnm] at hck
      have HCK:=qh hck
      simp only [vNet,vSt,vSl] at hca
      rw [<-HN.out,<-HM.out,HLN.out.1,HLN.out.2] at hca
      clear hnm hck
      go_wp2_with fail
      refine Calls.to hca ?_
      rintro e w7 rfl hb7
      clear q0 q1 s0 s1 s2 s3 z0 z1 z2 z3 z4 z5 z6 z7 z8
      obtain ⟨W8,hW8⟩:∃ W8,W8=w7.alloc (.cells #[.string nm] 9):=⟨_,rfl⟩
      have hbC:Below w7.heap.size w7 W8:=by rw [hW8];exact alloc_below _ _
      have k25:W8.heap[w7.heap.size]? = some (.cells #[.string nm] 9 (0,0)):=by rw [hW8];exact heap_alloc_new _ _
      have HW8:=qh hW8
      have hb57:=hb6.trans (hb7.mono hb6.size)
      have hb58:=hb57.trans (hbC.mono hb57.size)
      obtain ⟨b25,hb25⟩:∃ b,b=w7.heap.size:=⟨_,rfl⟩
      rw [<-hb25] at k25
      clear hca hb6 hb7 hW8 hbC hb57
      go_upto_region 22 with (fail)
      rw [<-hb25]
      clear hb25
      first|rw [<-HW8.out]|fail "W8"
      clear HW8
      have q0:=cel_lt QQ.out.1 hb58
      have q1:=cel_lt QQ.out.2 hb58
      have s0:(W8).cell? ⟨b19,0,none⟩=some (.slice s.V.a N s.V.cap):=by rw [<-HLN.out.1];exact (tank_blk (blk_mono K19.out hb58) 0).trans rfl
      have s1:(W8).cell? ⟨b19,1,none⟩=some (.slice s.P.a N s.P.cap):=by rw [<-HLN.out.2];exact (tank_blk (blk_mono K19.out hb58) 1).trans rfl
      have s2:(W8).cell? ⟨b19,2,none⟩=some (.slice s.S.a s.S.xs.length s.S.cap):=(tank_blk (blk_mono K19.out hb58) 2).trans rfl
      have s3:(W8).cell? ⟨b19,3,none⟩=some (.slice s.O.a s.O.xs.length s.O.cap):=(tank_blk (blk_mono K19.out hb58) 3).trans rfl
      have z0:(W8).cell? ⟨b22,0,none⟩=some (.string z.Name):=(tank_blk (blk_mono K22.out hb58) 0).trans rfl
      have z1:(W8).cell? ⟨b22,1,none⟩=some (.int .i64 z.Kind):=(tank_blk (blk_mono K22.out hb58) 1).trans rfl
      have z2:(W8).cell? ⟨b22,2,none⟩=some (.int .i64 z.AX):=(tank_blk (blk_mono K22.out hb58) 2).trans rfl
      have z3:(W8).cell? ⟨b22,3,none⟩=some (.int .i64 z.AY):=(tank_blk (blk_mono K22.out hb58) 3).trans rfl
      have z4:(W8).cell? ⟨b22,4,none⟩=some (.int .i64 z.Inv):=(tank_blk (blk_mono K22.out hb58) 4).trans rfl
      have z5:(W8).cell? ⟨b22,5,none⟩=some (.int .i64 z.Gr):=(tank_blk (blk_mono K22.out hb58) 5).trans rfl
      have z6:(W8).cell? ⟨b22,6,none⟩=some (.slice z.Sh.a z.Sh.xs.length z.Sh.cap):=(tank_blk (blk_mono K22.out hb58) 6).trans rfl
      have z7:(W8).cell? ⟨b22,7,none⟩=some (.bool z.Pro):=(tank_blk (blk_mono K22.out hb58) 7).trans rfl
      have z8:(W8).cell? ⟨b22,8,none⟩=some (.int .i64 z.Res):=(tank_blk (blk_mono K22.out hb58) 8).trans rfl
      have cn:W8.cell? ⟨b25,0,none⟩=some (.string nm):=tank_blk k25 0
      have hix:=indexNd 35 #[.pointer (some ⟨b25,0,none⟩)] ent35 (fun y=>strB y.Name nm) n.Ns.xs (vSl n.Ns) W8 (rdNet.mono HG5.out.1 hb58).1.isL (fun V hV y _=>tspi1_any y nm b25 V (cel_lt cn hV))
      rw [show idxFrom (fun y:Nd=>strB y.Name nm) n.Ns.xs 0=(c:Int) from HCK.out.2.1] at hix
      simp only [vSl] at hix
      rw [<-HN.out] at hix
      clear cn k25
      go_wp2_with fail
      refine Calls.to hix ?_
      rintro e w9 rfl hb9
      have hb59:=hb58.trans (hb9.mono hb58.size)
      clear q0 q1 s0 s1 s2 s3 z0 z1 z2 z3 z4 z5 z6 z7 z8
      clear hix hb58 hb9
      have q0:=cel_lt QQ.out.1 hb59
      have q1:=cel_lt QQ.out.2 hb59
      have s0:(w9).cell? ⟨b19,0,none⟩=some (.slice s.V.a N s.V.cap):=by rw [<-HLN.out.1];exact (tank_blk (blk_mono K19.out hb59) 0).trans rfl
      have s1:(w9).cell? ⟨b19,1,none⟩=some (.slice s.P.a N s.P.cap):=by rw [<-HLN.out.2];exact (tank_blk (blk_mono K19.out hb59) 1).trans rfl
      have s2:(w9).cell? ⟨b19,2,none⟩=some (.slice s.S.a s.S.xs.length s.S.cap):=(tank_blk (blk_mono K19.out hb59) 2).trans rfl
      have s3:(w9).cell? ⟨b19,3,none⟩=some (.slice s.O.a s.O.xs.length s.O.cap):=(tank_blk (blk_mono K19.out hb59) 3).trans rfl
      have z0:(w9).cell? ⟨b22,0,none⟩=some (.string z.Name):=(tank_blk (blk_mono K22.out hb59) 0).trans rfl
      have z1:(w9).cell? ⟨b22,1,none⟩=some (.int .i64 z.Kind):=(tank_blk (blk_mono K22.out hb59) 1).trans rfl
      have z2:(w9).cell? ⟨b22,2,none⟩=some (.int .i64 z.AX):=(tank_blk (blk_mono K22.out hb59) 2).trans rfl
      have z3:(w9).cell? ⟨b22,3,none⟩=some (.int .i64 z.AY):=(tank_blk (blk_mono K22.out hb59) 3).trans rfl
      have z4:(w9).cell? ⟨b22,4,none⟩=some (.int .i64 z.Inv):=(tank_blk (blk_mono K22.out hb59) 4).trans rfl
      have z5:(w9).cell? ⟨b22,5,none⟩=some (.int .i64 z.Gr):=(tank_blk (blk_mono K22.out hb59) 5).trans rfl
      have z6:(w9).cell? ⟨b22,6,none⟩=some (.slice z.Sh.a z.Sh.xs.length z.Sh.cap):=(tank_blk (blk_mono K22.out hb59) 6).trans rfl
      have z7:(w9).cell? ⟨b22,7,none⟩=some (.bool z.Pro):=(tank_blk (blk_mono K22.out hb59) 7).trans rfl
      have z8:(w9).cell? ⟨b22,8,none⟩=some (.int .i64 z.Res):=(tank_blk (blk_mono K22.out hb59) 8).trans rfl
      have hcl:=HCK.out.1
      have hcv:c<s.V.xs.length:=by rw [HLN.out.1,HN.out];exact hcl
      obtain ⟨bv,ov,ev,e0⟩:=(rdSt.mono HG5.out.2.1 hb59).1.2.2.1.int i hiv
      obtain ⟨bv2,ov2,ev2,e2⟩:=(rdSt.mono HG5.out.2.1 hb59).1.2.2.1.int c hcv
      rw [show s.V.xs[i]'hiv=C from by have:=HVC.out;simpa [List.getD,hiv] using this] at e0
      obtain ⟨C2,hC2⟩:∃ C2,C2=capB (ndK n c):=⟨_,rfl⟩
      rw [show s.V.xs[c]'hcv=C2 from by have:=HCK.out.2.2.1;rw [hC2];simpa [List.getD,hcv] using this] at e2
      have e9:some (⟨bv,ov,none⟩:Addr)=some ⟨bv2,ov2,none⟩:=ev.symm.trans ev2
      simp only [Option.some.injEq,Addr.mk.injEq,and_true] at e9
      obtain ⟨rfl,rfl⟩:=e9
      have E2:=qh e2
      have EV:=qh ev
      have hkd:=HKD.out
      have i6:decide ((c:Int)<0)=false:=decide_eq_false om
      have i7:(0:Int)<=c:=by omega
      have i8:(c:Int)<N:=by have:=HN.out;omega
      clear ev2 e2
      go_upto_region 25 with (fail)
      clear ev e0 i6 hkd
      first|rw [<-EV.out]|skip
      obtain ⟨bm,om,em,c0,c1,c2,c3,c4,c5,c6,c7,c8⟩:=((rdNet.mono HG5.out.1 hb59).1.2.2.1).nd c hcl
      obtain ⟨y,hy⟩:∃ y,y=n.Ns.xs[c]'hcl:=⟨_,rfl⟩
      have HY:Hid (y=ndK n c):=qh (by rw [ndK_at hcl,hy])
      have hgy:gNd w9 y:=by rw [hy];exact (rdNet.mono HG5.out.1 hb59).1.2.2.2 _ (List.getElem_mem hcl)
      rw [<-hy] at c0 c1 c2 c3 c4 c5 c6 c7 c8
      have hcap:=scapX_any y w9 hgy
      rw [show capXB y=(C2,0) from by rw [hC2,HY.out];exact capX_ok HNB.out hcl] at hcap
      simp only [vNd,vSl] at hcap
      have C1:=qh c1
      have EM:=qh em
      clear hy hgy hC2
      go_wp2_with fail
      refine Calls.to hcap ?_
      rintro e w10 rfl hb10
      have hb50:=hb59.trans (hb10.mono hb59.size)
      have c1:=cel_lt C1.out hb10
      have e2:=cel_lt E2.out hb10
      have ev:=EV.out
      have hky:(y.Kind==3)=false:=by rw [beq_eq_false_iff_ne,HY.out];exact HCK.out.2.2.2
      clear q0 q1 s0 s1 s2 s3 z0 z1 z2 z3 z4 z5 z6 z7 z8
      clear hcap c0 c2 c3 c4 c5 c6 c7 c8
      have q0:=cel_lt QQ.out.1 hb50
      have q1:=cel_lt QQ.out.2 hb50
      have s0:(w10).cell? ⟨b19,0,none⟩=some (.slice s.V.a N s.V.cap):=by rw [<-HLN.out.1];exact (tank_blk (blk_mono K19.out hb50) 0).trans rfl
      have s1:(w10).cell? ⟨b19,1,none⟩=some (.slice s.P.a N s.P.cap):=by rw [<-HLN.out.2];exact (tank_blk (blk_mono K19.out hb50) 1).trans rfl
      have s2:(w10).cell? ⟨b19,2,none⟩=some (.slice s.S.a s.S.xs.length s.S.cap):=(tank_blk (blk_mono K19.out hb50) 2).trans rfl
      have s3:(w10).cell? ⟨b19,3,none⟩=some (.slice s.O.a s.O.xs.length s.O.cap):=(tank_blk (blk_mono K19.out hb50) 3).trans rfl
      have z0:(w10).cell? ⟨b22,0,none⟩=some (.string z.Name):=(tank_blk (blk_mono K22.out hb50) 0).trans rfl
      have z1:(w10).cell? ⟨b22,1,none⟩=some (.int .i64 z.Kind):=(tank_blk (blk_mono K22.out hb50) 1).trans rfl
      have z2:(w10).cell? ⟨b22,2,none⟩=some (.int .i64 z.AX):=(tank_blk (blk_mono K22.out hb50) 2).trans rfl
      have z3:(w10).cell? ⟨b22,3,none⟩=some (.int .i64 z.AY):=(tank_blk (blk_mono K22.out hb50) 3).trans rfl
      have z4:(w10).cell? ⟨b22,4,none⟩=some (.int .i64 z.Inv):=(tank_blk (blk_mono K22.out hb50) 4).trans rfl
      have z5:(w10).cell? ⟨b22,5,none⟩=some (.int .i64 z.Gr):=(tank_blk (blk_mono K22.out hb50) 5).trans rfl
      have z6:(w10).cell? ⟨b22,6,none⟩=some (.slice z.Sh.a z.Sh.xs.length z.Sh.cap):=(tank_blk (blk_mono K22.out hb50) 6).trans rfl
      have z7:(w10).cell? ⟨b22,7,none⟩=some (.bool z.Pro):=(tank_blk (blk_mono K22.out hb50) 7).trans rfl
      have z8:(w10).cell? ⟨b22,8,none⟩=some (.int .i64 z.Res):=(tank_blk (blk_mono K22.out hb50) 8).trans rfl
      have hbF:=hb5.trans (hb50.mono hb5.size)
      clear hb59 hb10 hb50 hiv hcl hcv
      go_wp2_with fail
      clear ev em
      first|rw [<-EV.out]|skip
      first|rw [<-EM.out]|skip
      go_roundw
      case measure=>have:=HIN.out;simp [RowKit.intOf,x7];omega
      case rel=>exact ⟨i+1,_,HIN.out,rfl,by go_num,hbF,HWN⟩
    ·
     have hie:N=i:=by omega
     subst hie
     have i1:decide (N<N)=false:=decide_eq_false (Nat.lt_irrefl N)
     have HSM:Hid (wsum 0 s.P.xs=sm):=qh (by rw [HWS.out,List.drop_eq_nil_of_le (by rw [HLN.out.2];exact Nat.le_refl _)];rfl)
     have HNX:Hid (totalM sts=if mo<sm then totalGo sm k (k+1) (sts.drop (k+1)) else totalGo mo wi (k+1) (sts.drop (k+1))):=qh (by rw [HTG.out,HDR.out,totalGo_step HSS'.out,HSM.out])
     have HS0:Hid (0<=sm):=qh (by rw [<-HSM.out];exact wsum_pond HSS'.out (by rw [<-HN.out];exact HNM.out.1))
     have hbF:=hbX.trans (hb.mono hbX.size)
     by_cases hgt:mo<sm
     ·have j1:decide (mo<sm)=true:=decide_eq_true hgt
      have HN2:Hid (totalM sts=totalGo sm k (k+1) (sts.drop (k+1))):=qh (by rw [HNX.out,if_pos hgt])
      clear hgt hb
      go_wp2_with fail
      go_roundw
      case measure=>have:=HKM.out;simp [RowKit.intOf,x9];omega
      case rel=>exact ⟨k+1,sm,k,HKM.out,rfl,rfl,by go_num,hbF,HN2,qh (fun _=>HS0.out)⟩
     ·have j1:decide (mo<sm)=false:=decide_eq_false hgt
      have HN2:Hid (totalM sts=totalGo mo wi (k+1) (sts.drop (k+1))):=qh (by rw [HNX.out,if_neg hgt])
      have HM2:Hid (0<=mo):=qh (by have:=HS0.out;omega)
      clear hgt hb
      go_wp2_with fail
      go_roundw
      case measure=>have:=HKM.out;simp [RowKit.intOf,x9];omega
      case rel=>exact ⟨k+1,mo,wi,HKM.out,rfl,rfl,by go_num,hbF,HN2,qh (fun _=>HM2.out)⟩
  ·
   have hke:K=k:=by omega
   subst hke
   have i1:decide (K<K)=false:=decide_eq_false (Nat.lt_irrefl K)
   have HM2:Hid (0<=mo):=qh (HM0.out HKK.out.1)
   have HTT:Hid (totalM sts=(mo,wi,0)):=qh (by
    rw [HTG.out,List.drop_eq_nil_of_le (by rw [<-HK.out];exact Nat.le_refl _),totalGo,if_neg (by have:=HM2.out;omega)])
   have isT:IsSts wo (.slice aT K cT) sts:=⟨aT,cT,by rw [HK.out],by rw [<-HK.out];exact HTC.out.1,HTC.out.2,HT.out.mono hb⟩
   have hgT:∀ s∈sts,gSt wo s:=fun s hs=>rdSt.mono (HGS.out s hs).1 hb
   have htt:=total_any sts (.slice aT K cT) wo isT hgT
   rw [HTT.out] at htt
   unfold TotIs at htt
   dsimp only at htt
   clear isT hgT hkK hk
   go_wp2_with fail
   refine Calls.to htt ?_
   rintro e y5 rfl hb5
   have hb6:=hb.trans (hb5.mono hb.size)
   have q0:=cel_lt Q0.out.1 hb6
   clear htt hb hbr hb5 i1
   go_wp2_with fail
   go_loopw [206] (fun s206 wr=>∃ i:Nat,i<=N/\s206=.int .i64 i/\Below y4.heap.size y4 wr) (fun s206 _=>N-(RowKit.intOf s206).toNat)
   case atStart=>exact ⟨0,Nat.zero_le _,rfl,hb6⟩
   clear q0 hb6
   case round=>
    as_aux_lemma=>
    obtain ⟨i,hi,rfl,hb⟩:=hrel
    obtain ⟨wj,hwj⟩:∃ wj,wj=wr:=⟨_,rfl⟩
    subst hwj
    by_cases hiN:i<N
    ·
     have i1:decide (i<N)=true:=decide_eq_true hiN
     have x7:IntKind.i64.wrap ((i:Int)+1)=i+1:=IntWalk.i64_in _ (by have:=HNM.out;omega)
     have i4:(0:Int)<=i:=by omega
     have i5:(i:Int)<N:=by omega
     have HIN:=qh hiN
     clear hiN hi
     go_wp2_with fail
     go_loopw [34,211] (fun s34 s211 wr=>∃ (k:Nat) (sm:Int),k<=K/\s34=.int .i64 sm/\s211=.int .i64 k/\Below y4.heap.size y4 wr/\Hid (wsum 0 (pondL sts i)=wsum sm ((pondL sts i).drop k))) (fun _ s211 _=>K-(RowKit.intOf s211).toNat)
     case atStart=>exact ⟨0,0,Nat.zero_le _,rfl,rfl,hb,qh (by simp)⟩
     clear hb
     case round=>
      obtain ⟨k,sm,hk,rfl,rfl,hb,HWS⟩:=hrel
      obtain ⟨wk,hwk⟩:∃ wk,wk=wr:=⟨_,rfl⟩
      subst hwk
      by_cases hkK:k<K
      ·have hks:k<sts.length:=by rw [<-HK.out];exact hkK
       obtain ⟨bt,ot,eT,c0,c1,c2,c3⟩:=(HT.out.mono hb).st k hks
       have hln:=(HSG.out _ (List.getElem_mem hks)).len
       have hip:i<(sts[k]'hks).P.xs.length:=by rw [hln.2,<-HN.out];exact HIN.out
       have HPA:=qh (pond_at hks hip)
       obtain ⟨bp,op,ep,d0⟩:=(rdSt.mono (HGS.out _ (List.getElem_mem hks)).1 hb).2.1.2.2.1.int i hip
       obtain ⟨p,hp⟩:∃ p,p=(sts[k]'hks).P.xs[i]'hip:=⟨_,rfl⟩
       rw [<-hp] at d0
       have HWN:Hid (wsum 0 (pondL sts i)=wsum (wrap64 (sm+p)) ((pondL sts i).drop (k+1))):=qh (by rw [HWS.out,HPA.out,hp,wsum])
       obtain ⟨s,hsx⟩:∃ s,s=sts[k]'hks:=⟨_,rfl⟩
       rw [<-hsx] at c0 c1 c2 c3 ep
       have hl2:s.P.xs.length=N:=by rw [hsx,hln.2,<-HN.out]
       rw [hl2] at c1
       have j1:decide (k<K)=true:=decide_eq_true hkK
       have x9:IntKind.i64.wrap ((k:Int)+1)=k+1:=IntWalk.i64_in _ (by have:=HKK.out;omega)
       have j4:(0:Int)<=k:=by omega
       have j5:(k:Int)<K:=by omega
       have HKM:=qh hkK
       have ET:=qh eT
       have EP:=qh ep
       have hbA:=hb.alloc hb.size (.cells #[.slice s.V.a s.V.xs.length s.V.cap,.slice s.P.a N s.P.cap,.slice s.S.a s.S.xs.length s.S.cap,.slice s.O.a s.O.xs.length s.O.cap] 31)
       clear hln hip hp hsx hks hkK hl2 hk HPA
       go_wp2_with fail
       clear eT ep
       first|rw [<-ET.out]|skip
       first|rw [<-EP.out]|skip
       go_roundw
       case measure=>have:=HKM.out;simp [RowKit.intOf,x9];omega
       case rel=>exact ⟨k+1,_,HKM.out,rfl,by go_num,hbA,HWN⟩
      ·have hke:K=k:=by omega
       subst hke
       have j1:decide (K<K)=false:=decide_eq_false (Nat.lt_irrefl K)
       have HSM:Hid (wsum 0 (pondL sts i)=sm):=qh (by rw [HWS.out,List.drop_eq_nil_of_le (by simp [pondL,HK.out])];rfl)
       have isT:IsSts wk (.slice aT K cT) sts:=⟨aT,cT,by rw [HK.out],by rw [<-HK.out];exact HTC.out.1,HTC.out.2,HT.out.mono hb⟩
       have hgT:∀ s∈sts,gSt wk s:=fun s hs=>rdSt.mono (HGS.out s hs).1 hb
       have hof:=of_any sts (.slice aT K cT) i wk isT hgT
       obtain ⟨ho1,ho2⟩:=of_short HSG.out (by rw [<-HK.out];exact HKK.out.2) i (by rw [<-HN.out];exact HIN.out)
       rw [ho1] at hof
       have HO2:=qh ho2
       clear isT hgT hkK hk ho1 ho2
       go_wp2_with fail
       refine Calls.to hof ?_
       rintro e w6 ⟨v',rfl,hO⟩ hb6
       have hcn:=count_any (ofM sts i).1 v' w6 (hO.isL (fun _=>rfl))
       obtain ⟨a6,c6,rfl⟩:=hO.isSlice
       have hb7:=hb.trans (hb6.mono hb.size)
       obtain ⟨L6,hL6⟩:∃ L,L=(ofM sts i).1.length:=⟨_,rfl⟩
       rw [<-hL6] at hcn ⊢
       clear hof hO hb hb6 hL6
       go_wp2_with fail
       refine Calls.to hcn ?_
       rintro e w7 hci hb8
       obtain ⟨m,g,rfl⟩:=HO2.out e hci
       rw [HSM.out]
       have hb9:=hb7.trans (hb8.mono hb7.size)
       clear hcn hci hb8 hb7 j1
       go_wp2_with fail
       go_roundw
       case measure=>have:=HIN.out;simp [RowKit.intOf,x7];omega
       case rel=>exact ⟨i+1,HIN.out,by go_num,hb9⟩
    ·have hie:N=i:=by omega
     subst hie
     have i1:decide (N<N)=false:=decide_eq_false (Nat.lt_irrefl N)
     go_wp2_with fail
     go_ret
     exact ⟨rfl,Y0.out.trans (hb.mono Y0.out.size)⟩
end Go.Proofs.YtoiakijmbghhlaaGreat
