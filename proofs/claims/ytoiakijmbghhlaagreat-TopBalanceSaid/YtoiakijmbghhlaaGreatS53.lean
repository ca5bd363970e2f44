/- The walk of the law TopBalance. Conditions: the arguments read as data. -/
import Derived.Test.YtoiakijmbghhlaaGreatS52
set_option linter.unusedVariables false
set_option linter.unusedSimpArgs false
set_option maxRecDepth 100000
set_option maxHeartbeats 32000000
namespace Go.Proofs.YtoiakijmbghhlaaGreat
open Go.RowKit Go.Maps
theorem goneF_bd {n:Net} {ins:Nat->Bool} {q p:List Int} (hL:n.Ls.xs.length<=12) (hN:n.Ns.xs.length<=12) (hq:∀ i,i<n.Ns.xs.length->0<=q.getD i 0/\q.getD i 0<=1125899906842624) (hp:∀ k,k<n.Ls.xs.length->0<=p.getD k 0/\p.getD k 0<=4503599627370496) :
  (∀ i j,j<=n.Ls.xs.length->0<=sg (fun k=>if toN n k=i then p.getD k 0 else 0) j/\sg (fun k=>if toN n k=i then p.getD k 0 else 0) j<=54043195528445952) /\
  (∀ i,i<=n.Ns.xs.length->0<=sg (goneF n ins q p) i/\sg (goneF n ins q p) i<=662029145223462912):=by
 have a:∀ i j,j<=n.Ls.xs.length->0<=sg (fun k=>if toN n k=i then p.getD k 0 else 0) j/\sg (fun k=>if toN n k=i then p.getD k 0 else 0) j<=54043195528445952:=fun i j hj=>by
  have h:=sg_bd (n:=j) (f:=fun k=>if toN n k=i then p.getD k 0 else 0) (b:=4503599627370496) (fun k hk=>by
   have:=hp k om
   show 0<=(if toN n k=i then p.getD k 0 else 0)/\(if toN n k=i then p.getD k 0 else 0)<=_
   split <;> omega)
  have e:((j:Nat):Int)<=12:=by omega
  omega
 refine ⟨a,fun i hi=>?_⟩
 have h:=sg_bd (n:=i) (f:=goneF n ins q p) (b:=55169095435288576) (fun k hk=>by
  have h1:=hq k om
  have h2:=a k n.Ls.xs.length (Nat.le_refl _)
  unfold goneF
  split <;> omega)
 have e:((i:Nat):Int)<=12:=by omega
 omega
theorem goneB_bd {n:Net} {l:List Led} (h:LedS n l) (hl:l.length<=12) (hM:n.Ls.xs.length<=12):∀ k,k<=l.length->(0<=cameL l k/\cameL l k<=162129586585337856)/\(0<=leftL l k/\leftL l k<=810647932926689280)/\∀ i,i<n.Ls.xs.length->0<=passL l i k/\passL l i k<=54043195528445952:=
 fun _ hk=>⟨h.came hl hk,h.left hl hk,fun _ hi=>h.pass hl hk hi⟩
theorem tbal_walk (v0:Value) (n:Net) (v1:Value) (ss:Sl SecD) (v2:Value) (rs:Sl RuD) (v3:Value) (x:St) (v4:Value) (ins:Sl InD) (sec steps sb:Int) (w:World) (w0:v0=vNet n/\gNet w n) (w1:v1=vSl ss/\gSecs w ss) (w2:v2=vSl rs/\gRus w rs) (w3:v3=vSt x/\gSt w x) (w4:v4=vSl ins/\gIns w ins)
  (w5:(Lit.int .i64 sec).wf=true) (w6:(Lit.int .i64 steps).wf=true) (w7:(Lit.int .u16 sb).wf=true) :
  Calls Tryz.prog 3 #[v0,v1,v2,v3,v4,.int .i64 sec,.int .i64 steps,.int .u16 sb] w fun e w'=>e=.returned (.bool true)/\Below w.heap.size w w':=by
 obtain ⟨rfl,hg⟩:=w0
 obtain ⟨rfl,hss⟩:=w1
 obtain ⟨rfl,hrs⟩:=w2
 obtain ⟨rfl,hx⟩:=w3
 obtain ⟨rfl,hin⟩:=w4
 obtain ⟨LB,hLL⟩:∃ L:List (Array Value×TypeId),L = [((eNet n).toArray,25),((eSt x).toArray,31)]:=⟨_,rfl⟩
 obtain ⟨W,hW⟩:∃ W,W=allocs w LB:=⟨_,rfl⟩
 have hbw:Below w.heap.size w W:=by rw [hW];exact allocs_below _ _
 have t0:W.heap[w.heap.size]? = some (.cells (eNet n).toArray 25 (0,0)):=by rw [hW,hLL];exact allocs_at _ w 0 (by simp)
 have t1:W.heap[w.heap.size+1]? = some (.cells (eSt x).toArray 31 (0,0)):=by rw [hW,hLL];exact allocs_at _ w 1 (by simp)
 have HW:Hid (W=(w.alloc (.cells (eNet n).toArray 25)).alloc (.cells (eSt x).toArray 31)):=qh (by rw [hW,hLL];rfl)
 have T0:=qh t0
 have T1:=qh t1
 have HSZ:Hid (w.heap.size+2<=W.heap.size):=qh ((Array.getElem?_eq_some_iff.1 t1).1)
 obtain ⟨N,hN⟩:∃ N,N=n.Ns.xs.length:=⟨_,rfl⟩
 obtain ⟨M,hM⟩:∃ M,M=n.Ls.xs.length:=⟨_,rfl⟩
 have HN:=qh hN
 have HM:=qh hM
 have HG:=qh hg
 have HSS:=qh hss
 have HRS:=qh hrs
 have HX:=qh hx
 have HINS:=qh hin
 have HST:=qh w6
 have HU16:=qh w7
 have q0:W.cell? ⟨w.heap.size,0,none⟩=some (.slice n.Ns.a N n.Ns.cap):=by rw [hN];exact (tank_blk t0 0).trans rfl
 have q1:W.cell? ⟨w.heap.size,1,none⟩=some (.slice n.Ls.a M n.Ls.cap):=by rw [hM];exact (tank_blk t0 1).trans rfl
 have s0:W.cell? ⟨w.heap.size+1,0,none⟩=some (.slice x.V.a x.V.xs.length x.V.cap):=(tank_blk t1 0).trans rfl
 have s1:W.cell? ⟨w.heap.size+1,1,none⟩=some (.slice x.P.a x.P.xs.length x.P.cap):=(tank_blk t1 1).trans rfl
 have s2:W.cell? ⟨w.heap.size+1,2,none⟩=some (.slice x.S.a x.S.xs.length x.S.cap):=(tank_blk t1 2).trans rfl
 have s3:W.cell? ⟨w.heap.size+1,3,none⟩=some (.slice x.O.a x.O.xs.length x.O.cap):=(tank_blk t1 3).trans rfl
 clear hW hLL t0 t1 hg hss hrs hx hin w5 w6 w7 hN hM
 simp only [vNet,vSt,vSl]
 rw [<-HN.out,<-HM.out]
 go_enter Tryz.func3,Tryz.ntmps3
 go_upto_region 1 with (fail)
 try simp only [Nat.add_assoc,Nat.reduceAdd]
 first|(rw [HN.out,HM.out,<-HW.out,<-HN.out,<-HM.out])|rw [<-HW.out]|fail "W"
 clear HW
 go_wp2_with fail
 refine Calls.to (planAwake_any _) ?_
 rintro e y1 rfl hb1
 replace q0:=cel_lt q0 hb1
 replace q1:=cel_lt q1 hb1
 have hbr:=hbw.trans (hb1.mono hbw.size)
 have hpl:=plarge_any n y1 (rdNet.mono HG.out hbr)
 simp only [vNet,vSl] at hpl
 rw [<-HN.out,<-HM.out] at hpl
 replace s0:=cel_lt s0 hb1
 replace s1:=cel_lt s1 hb1
 replace s2:=cel_lt s2 hb1
 replace s3:=cel_lt s3 hb1
 have HWY:Hid (W.heap.size<=y1.heap.size):=qh hb1.size
 clear hb1 hbw
 go_wp2_with fail
 refine Calls.to hpl ?_
 rintro e y2 ⟨b1,rfl,hsm⟩ hb1
 have HSM:=qh hsm
 have hbr:=hbr.trans (hb1.mono hbr.size)
 replace q0:=cel_lt q0 hb1
 replace q1:=cel_lt q1 hb1
 replace s0:=cel_lt s0 hb1
 replace s1:=cel_lt s1 hb1
 replace s2:=cel_lt s2 hb1
 replace s3:=cel_lt s3 hb1
 replace HWY:Hid (W.heap.size<=y2.heap.size):=qh (Nat.le_trans HWY.out hb1.size)
 clear hb1 hpl hsm
 cases b1
 rotate_left
 ·go_wp2_with fail
  go_ret
  exact ⟨rfl,hbr⟩
 have hNM:N<=12/\M<=12:=HSM.out rfl
 have HNM:=qh hNM
 have hpm:=pmany_any ss.xs _ rs.xs _ ins.xs _ y2 (HSS.out.isL.mono hbr) (HRS.out.isL.mono hbr) (HINS.out.isL.mono hbr)
 simp only [vSl] at hpm
 go_wp2_with fail
 refine Calls.to hpm ?_
 rintro e y3 ⟨b2,rfl⟩ hb1
 have hbr:=hbr.trans (hb1.mono hbr.size)
 replace q0:=cel_lt q0 hb1
 replace q1:=cel_lt q1 hb1
 replace s0:=cel_lt s0 hb1
 replace s1:=cel_lt s1 hb1
 replace s2:=cel_lt s2 hb1
 replace s3:=cel_lt s3 hb1
 replace HWY:Hid (W.heap.size<=y3.heap.size):=qh (Nat.le_trans HWY.out hb1.size)
 clear hb1 hpm
 cases b2
 rotate_left
 ·go_wp2_with fail
  go_ret
  exact ⟨rfl,hbr⟩
 by_cases hst:12<steps
 ·have i1:decide (12<steps)=true:=decide_eq_true hst
  clear hst
  go_wp2_with fail
  go_ret
  exact ⟨rfl,hbr⟩
 have i1:decide (12<steps)=false:=decide_eq_false hst
 have hrun:=ctrun_any n ss.xs (vSl ss) rs x ins sec steps y3 (rdNet.mono HG.out hbr) (gSecs.is (rdSecs.mono HSS.out hbr)) (rdRus.mono HRS.out hbr) (rdSt.mono HX.out hbr) (rdIns.mono HINS.out hbr) HST.out
 simp only [vNet,vSt,vSl] at hrun
 rw [<-HN.out,<-HM.out] at hrun
 have HSTP:=qh hst
 clear hst
 go_wp2_with fail
 refine Calls.to hrun ?_
 rintro e y4 ⟨u,rfl,hro⟩ hb1
 have hbr:=hbr.trans (hb1.mono hbr.size)
 replace q0:=cel_lt q0 hb1
 replace q1:=cel_lt q1 hb1
 replace s0:=cel_lt s0 hb1
 replace s1:=cel_lt s1 hb1
 replace s2:=cel_lt s2 hb1
 replace s3:=cel_lt s3 hb1
 replace HWY:Hid (W.heap.size<=y4.heap.size):=qh (Nat.le_trans HWY.out hb1.size)
 clear hb1 hrun i1
 cases hro with
 | no e he=>
  have z1:(e != 0)=true:=by simpa using he
  clear he
  go_wp2_with fail
  go_ret
  exact ⟨rfl,hbr⟩
 | ok sts leds vT vU hGD hNB hSB hLS hLL hCH hT hU hGS hGP=>
 obtain ⟨aT,cT,rfl,hT1,hT2,hT3⟩:=hT
 obtain ⟨aU,cU,rfl,hU1,hU2,hU3⟩:=hU
 obtain ⟨K,hK⟩:∃ K,K=sts.length:=⟨_,rfl⟩
 have hK12:K<=12:=by have:=HSTP.out;omega
 have hUl:leds.length=K:=by omega
 have HK:Hid (K=sts.length/\leds.length=K):=qh ⟨hK,hUl⟩
 subst hLS
 rw [<-hK,hUl]
 have HCH:=qh hCH
 have HGD:=qh hGD
 have HNB:=qh hNB
 have HSB:=qh hSB
 have HLS:=qh (hCH.leds hLL (by rw [<-HN.out];exact hNM.1) (by rw [<-HM.out];exact hNM.2))
 have HT:=qh hT3
 have HU:=qh hU3
 have HGS:=qh hGS
 have HGP:=qh hGP
 have HTU:Hid (sts.length<=cT/\cT<=9223372036854775807/\leds.length<=cU/\cU<=9223372036854775807):=qh ⟨hT1,hT2,hU1,hU2⟩
 have Y0:=qh hbr
 have Q0:=qh q0
 have Q1:=qh q1
 have S0:=qh (And.intro s0 (And.intro s1 (And.intro s2 s3)))
 have HBY:Hid (w.heap.size+2<=y4.heap.size):=qh (by have h1:=HSZ.out;have h2:=HWY.out;omega)
 clear hK hUl hCH hGD hNB hSB hLL hT1 hT2 hT3 hU1 hU2 hU3 hGS hGP hbr s0 s1 s2 s3 HSTP
 obtain ⟨c,hc⟩:∃ c:Nat->Bool,c=fun i:Nat=>(bits BinOp.and IntKind.u16 (sb / 2 ^ ((i:Int) % 16).toNat) 1==1):=⟨_,rfl⟩
 have HC:=qh hc
 clear hc
 go_upto_region 12 with (fail)
 go_loopw [20,21,109] (fun s20 s21 s109 wr=>∃ i:Nat,i<=N/\s109=.int .i64 i/\Below y4.heap.size y4 wr/\Hid (Own y4.heap.size 9 eTx 1 wr s20 (pkL n c i))/\Hid (Own y4.heap.size 9 eTx 1 wr s21 (pkL n (fun i=>!c i) i))/\Hid (∀ g,s20.ownBlock=some g->s21.ownBlock≠some g)) (fun _ _ s109 _=>N-(RowKit.intOf s109).toNat)
 case atStart=>exact ⟨0,Nat.zero_le _,rfl,qr,qh (World.ownsRow_nil _ _ _ _),qh (World.ownsRow_nil _ _ _ _),qh (fun g h=>by cases h)⟩
 clear q0 q1
 case round=>
  as_aux_lemma=>
  obtain ⟨i,hile,rfl,hb,HA,HB,HNE⟩:=hrel
  obtain ⟨wo,hwo⟩:∃ wo,wo=wr:=⟨_,rfl⟩
  subst hwo
  by_cases hiN:i<N
  ·
   have hin:i<n.Ns.xs.length:=by rw [<-HN.out];exact hiN
   have gN:=rdNet.mono HG.out (Y0.out.trans (hb.mono Y0.out.size))
   obtain ⟨bn,on,ea,c0,c1,c2,c3,c4,c5,c6,c7,c8⟩:=(gN.1.2.2.1).nd i hin
   obtain ⟨z,hz⟩:∃ z,z=n.Ns.xs[i]'hin:=⟨_,rfl⟩
   have HZ:Hid (z=ndK n i):=qh (by rw [ndK_at hin,hz])
   rw [<-hz] at c0 c1 c2 c3 c4 c5 c6 c7 c8
   obtain ⟨W2,hW2⟩:∃ W2,W2=wo.alloc (.cells (eNd z).toArray 48):=⟨_,rfl⟩
   have hbA:Below wo.heap.size wo W2:=by rw [hW2];exact alloc_below _ _
   obtain ⟨z0,-⟩:=boxNd wo W2 48 z _ rfl _ rfl (by rw [hW2];exact qr)
   have HW2:=qh hW2
   have hO1:=HA.out.below hbA
   have hO2:=HB.out.below hbA
   have hb2:=hb.trans (hbA.mono hb.size)
   have q0:=cel_lt Q0.out hb
   have i1:decide (i<N)=true:=decide_eq_true hiN
   have x7:IntKind.i64.wrap ((i:Int)+1)=i+1:=IntWalk.i64_in _ om
   have r1:(i:Int).tmod 16=((i % 16:Nat):Int):=rfl
   have x1:IntKind.i64.wrap ((i % 16:Nat):Int)=((i % 16:Nat):Int):=IntWalk.i64_in _ om
   have x2:IntKind.u64.wrap ((i % 16:Nat):Int)=((i % 16:Nat):Int):=IntWalk.u64_in _ om
   have i4:(0:Int)<=i:=by omega
   have i5:(i:Int)<N:=by omega
   have i6:decide (((i % 16:Nat):Int)<0)=false:=decide_eq_false om
   have hu:0<=sb/\sb<=65535:=by
    have h:=HU16.out
    simp only [Lit.wf,Bool.and_eq_true,decide_eq_true_eq] at h
    exact h
   obtain ⟨S,hS⟩:∃ S,sb / 2 ^ ((i:Int) % 16).toNat=S:=⟨_,rfl⟩
   obtain ⟨A,hA⟩:∃ A,bits BinOp.and IntKind.u16 S 1=A:=⟨_,rfl⟩
   obtain ⟨t,ht⟩:∃ t,(A==1)=t:=⟨_,rfl⟩
   have HCI:Hid (c i=t):=qh (by rw [HC.out];simp only [hS,hA,ht])
   have EA:=qh ea
   have HIN:=qh hiN
   clear hz hW2 hin hiN HA HB hbA gN hb
   go_upto_region 14 with (fail)
   rw [<-HW2.out]
   clear c0 c1 c2 c3 c4 c5 c6 c7 c8 HW2 q0
   have h1c:∀ u∈eTx z.Name,u.oneCell'=true:=by simp [Value.oneCell']
   have hp1:(pkL n c i).length<2147483648:=by have:=pkL_len n c i;have:=HNM.out;omega
   have hp2:(pkL n (fun i=>!c i) i).length<2147483648:=by have:=pkL_len n (fun i=>!c i) i;have:=HNM.out;omega
   have hsz2:=hb2.size
   have HNE1:=HNE.out
   have hnS:∀ k,pkL n c (k+1)=if c k then pkL n c k ++ [(ndK n k).Name] else pkL n c k:=fun _=>rfl
   have hnR:∀ k,pkL n (fun i=>!c i) (k+1)=if !c k then pkL n (fun i=>!c i) k ++ [(ndK n k).Name] else pkL n (fun i=>!c i) k:=fun _=>rfl
   have HPS:Hid ((t=false->pkL n c (i+1)=pkL n c i/\pkL n (fun i=>!c i) (i+1)=pkL n (fun i=>!c i) i ++ [z.Name])/\(t=true->pkL n c (i+1)=pkL n c i ++ [z.Name]/\pkL n (fun i=>!c i) (i+1)=pkL n (fun i=>!c i) i)):=qh (by
    rw [hnS,hnR,HCI.out,HZ.out]
    constructor
    ·rintro rfl;simp
    ·rintro rfl;simp)
   clear hnS hnR
   obtain ⟨a20,c20,e20⟩:=hO1.isSlice
   obtain ⟨a21,c21,e21⟩:=hO2.isSlice
   subst e20 e21
   cases t
   ·go_wp2_with (at_builtin;go_must (refine wpList_pushR rfl _ _ 42 rfl 9 _ 1 16 undStr infStr rfl (by decide) z.Name (fun _=>rfl) h1c (.slice a21 (pkL n (fun i=>!c i) i).length c21) (pkL n (fun i=>!c i) i) rfl hO2 W2.heap.size rfl rfl hp2 (by decide) hsz2 _ rfl ?_);intro g8 k8 w8 hR8)
    have hb9:=hb2.trans (hR8.below hO2 hsz2)
    have HA9:Hid (Own y4.heap.size 9 eTx 1 w8 (.slice a20 (pkL n c i).length c20) (pkL n c (i+1))):=qh (by rw [(HPS.out.1 (by first|rfl|trivial)).1];exact hR8.other hO1 HNE1)
    have HB9:Hid (Own y4.heap.size 9 eTx 1 w8 (.slice (some ⟨g8,0,none⟩) ((pkL n (fun i=>!c i) i).length+1) k8) (pkL n (fun i=>!c i) (i+1))):=qh (by rw [(HPS.out.1 (by first|rfl|trivial)).2];exact hR8.own)
    have HNE9:=qh (hR8.apart hO1 HNE1)
    clear hR8 hO1 hO2 h1c hp1 hp2 hsz2 HNE1 hb2 z0 ht
    go_wp2_with fail
    clear ea
    first|rw [<-EA.out]|skip
    go_roundw
    case measure=>have:=HIN.out;simp [RowKit.intOf,x7];omega
    case rel=>exact ⟨_,_,_,_,_,⟨i+1,HIN.out,by go_num,hb9,HA9,HB9,HNE9⟩,rfl,rfl,rfl,rfl,rfl⟩
   ·go_wp2_with (at_builtin;go_must (refine wpList_pushR rfl _ _ 42 rfl 9 _ 1 16 undStr infStr rfl (by decide) z.Name (fun _=>rfl) h1c (.slice a20 (pkL n c i).length c20) (pkL n c i) rfl hO1 W2.heap.size rfl rfl hp1 (by decide) hsz2 _ rfl ?_);intro g8 k8 w8 hR8)
    have hb9:=hb2.trans (hR8.below hO1 hsz2)
    have hne2:∀ g,(Value.slice a21 (pkL n (fun i=>!c i) i).length c21).ownBlock=some g->(Value.slice a20 (pkL n c i).length c20).ownBlock≠some g:=fun g h1 h2=>HNE1 g h2 h1
    have HB9:Hid (Own y4.heap.size 9 eTx 1 w8 (.slice a21 (pkL n (fun i=>!c i) i).length c21) (pkL n (fun i=>!c i) (i+1))):=qh (by rw [(HPS.out.2 (by first|rfl|trivial)).2];exact hR8.other hO2 hne2)
    have HA9:Hid (Own y4.heap.size 9 eTx 1 w8 (.slice (some ⟨g8,0,none⟩) ((pkL n c i).length+1) k8) (pkL n c (i+1))):=qh (by rw [(HPS.out.2 (by first|rfl|trivial)).1];exact hR8.own)
    have HNE9:Hid (∀ g,(Value.slice (some ⟨g8,0,none⟩) ((pkL n c i).length+1) k8).ownBlock=some g->(Value.slice a21 (pkL n (fun i=>!c i) i).length c21).ownBlock≠some g):=qh (fun g h1 h2=>hR8.apart hO2 hne2 g h2 h1)
    clear hR8 hO1 hO2 h1c hp1 hp2 hsz2 HNE1 hb2 z0 ht hne2
    go_wp2_with fail
    clear ea
    first|rw [<-EA.out]|skip
    go_roundw
    case measure=>have:=HIN.out;simp [RowKit.intOf,x7];omega
    case rel=>exact ⟨_,_,_,_,_,⟨i+1,HIN.out,by go_num,hb9,HA9,HB9,HNE9⟩,rfl,rfl,rfl,rfl,rfl⟩
  ·have hie:N=i:=by omega
   subst hie
   have i1:decide (N<N)=false:=decide_eq_false (Nat.lt_irrefl N)
   have hbr:=Y0.out.trans (hb.mono Y0.out.size)
   obtain ⟨a20,c20,e20⟩:=HA.out.isSlice
   obtain ⟨a21,c21,e21⟩:=HB.out.isSlice
   subst e20 e21
   have isP:IsTxs wo (.slice a20 (pkL n c N).length c20) (pkL n c N):=HA.out.isL (fun _=>rfl)
   have isR:IsTxs wo (.slice a21 (pkL n (fun i=>!c i) N).length c21) (pkL n (fun i=>!c i) N):=HB.out.isL (fun _=>rfl)
   have hp1:(pkL n c N).length<=12:=by have:=pkL_len n c N;have:=HNM.out;omega
   have hp2:(pkL n (fun i=>!c i) N).length<=12:=by have:=pkL_len n (fun i=>!c i) N;have:=HNM.out;omega
   have hkn:∀ (d:Nat->Bool) z,z∈pkL n d N->∃ j,j<n.Ns.xs.length/\findNd n.Ns.xs z=(j:Int):=fun d z hz=>pkL_known HNB.out (Nat.le_of_eq HN.out) hz
   have hhas:∀ (d:Nat->Bool) k,k<n.Ls.xs.length->hasT (pkL n d N) (lkK n k).From=d (frmN n k)/\hasT (pkL n d N) (lkK n k).To=d (toN n k):=fun d k hk=>by
    rw [HN.out,(lk_from HNB.out hk).1,(lk_from HNB.out hk).2]
    exact ⟨pkL_has HNB.out d (ends_lt HNB.out hk).1,pkL_has HNB.out d (ends_lt HNB.out hk).2⟩
   have hnd:(pkL n c N).Nodup:=pkL_nodup HNB.out c N (Nat.le_of_eq HN.out)
   have hch:∀ j,j<N->hasT (pkL n c N) (ndK n j).Name=c j:=fun j hj=>by
    rw [HN.out];exact pkL_has HNB.out c (by rw [<-HN.out];exact hj)
   have HKN:=qh (hkn c)
   have HND:=qh hnd
   have HCHS:=qh hch
   have hc1:=fun V (hV:Below wo.heap.size wo V)=>bacut_ok n (pkL n (fun i=>!c i) N) (pkL n c N) _ _ (fun i=>!c i) c V (rdNet.mono HG.out (hbr.trans (hV.mono hbr.size))) HNB.out (isR.mono hV) (isP.mono hV) om (fun z hz=>by
    rcases List.mem_append.1 hz with h|h
    ·exact hkn _ z h
    ·exact hkn _ z h) (fun k hk=>(hhas _ k hk).1) (fun k hk=>(hhas _ k hk).2)
   have hc2:=fun V (hV:Below wo.heap.size wo V)=>bacut_ok n (pkL n c N) (pkL n (fun i=>!c i) N) _ _ c (fun i=>!c i) V (rdNet.mono HG.out (hbr.trans (hV.mono hbr.size))) HNB.out (isP.mono hV) (isR.mono hV) om (fun z hz=>by
    rcases List.mem_append.1 hz with h|h
    ·exact hkn _ z h
    ·exact hkn _ z h) (fun k hk=>(hhas _ k hk).1) (fun k hk=>(hhas _ k hk).2)
   obtain ⟨LP,hLP⟩:∃ L,L=pkL n c N:=⟨_,rfl⟩
   obtain ⟨LR,hLR⟩:∃ L,L=pkL n (fun i=>!c i) N:=⟨_,rfl⟩
   rw [<-hLP] at isP hc1 hc2 hp1 HKN HND HCHS ⊢
   rw [<-hLR] at isR hc1 hc2 hp2 ⊢
   simp only [vNet,vSl] at hc1 hc2
   rw [<-HN.out,<-HM.out] at hc1 hc2
   have ISP:=qh isP
   have ISR:=qh isR
   have HC2:=qh hc2
   have hc1:=hc1 wo qr
   have q0:=cel_lt Q0.out hb
   have q1:=cel_lt Q1.out hb
   clear hLP hLR hkn hhas hnd hch hc2 isP isR HA HB HNE hiN hp1 hp2
   go_wp2_with fail
   refine Calls.to hc1 ?_
   rintro e y5 ⟨vI,rfl,hOI⟩ hb5
   have hc2:=HC2.out y5 hb5
   obtain ⟨aI,cI,eI⟩:=hOI.isSlice
   subst eI
   have isI:IsTxs y5 (.slice aI (ckL n (fun i=>!c i) c M).length cI) (ckL n (fun i=>!c i) c M):=hOI.isL (fun _=>rfl)
   replace q0:=cel_lt q0 hb5
   replace q1:=cel_lt q1 hb5
   clear hc1 HC2 hOI
   go_wp2_with fail
   refine Calls.to hc2 ?_
   rintro e y6 ⟨vO,rfl,hOO⟩ hb6
   obtain ⟨aO,cO,eO⟩:=hOO.isSlice
   subst eO
   have isO:IsTxs y6 (.slice aO (ckL n c (fun i=>!c i) M).length cO) (ckL n c (fun i=>!c i) M):=hOO.isL (fun _=>rfl)
   have hb46:Below wo.heap.size wo y6:=hb5.trans (hb6.mono hb5.size)
   have hbr6:=hbr.trans (hb46.mono hbr.size)
   have hy46:=hb.trans (hb46.mono hb.size)
   have HIP:=qh (ISP.out.mono hb46)
   have HII:=qh (isI.mono hb6)
   have HIO:=qh isO
   have hcI:∀ j,j<M->hasT (ckL n (fun i=>!c i) c M) (lkK n j).Name=(!c (frmN n j)&&c (toN n j)):=fun j hj=>by
    rw [HM.out];exact ckL_has HNB.out _ _ (by rw [<-HM.out];exact hj)
   have hcO:∀ j,j<M->hasT (ckL n c (fun i=>!c i) M) (lkK n j).Name=(c (frmN n j) && !c (toN n j)):=fun j hj=>by
    rw [HM.out];exact ckL_has HNB.out _ _ (by rw [<-HM.out];exact hj)
   have HCI:=qh hcI
   have HCO:=qh hcO
   obtain ⟨LI,hLI⟩:∃ L,L=ckL n (fun i=>!c i) c M:=⟨_,rfl⟩
   obtain ⟨LO,hLO⟩:∃ L,L=ckL n c (fun i=>!c i) M:=⟨_,rfl⟩
   rw [<-hLI] at HII HCI ⊢
   rw [<-hLO] at HIO HCO ⊢
   have Q0':=qh (cel_lt q0 hb6)
   have Q1':=qh (cel_lt q1 hb6)
   have YY:=qh hy46
   have Y6:=qh hbr6
   have z0:((0:Int) != 0)=false:=rfl
   have s0:=cel_lt S0.out.1 hy46
   have s1:=cel_lt S0.out.2.1 hy46
   have s2:=cel_lt S0.out.2.2.1 hy46
   have s3:=cel_lt S0.out.2.2.2 hy46
   obtain ⟨W0,hW0⟩:∃ W0,W0=y6.alloc (.cells (eSt x).toArray 31):=⟨_,rfl⟩
   have hbA:Below y6.heap.size y6 W0:=by rw [hW0];exact alloc_below _ _
   have hk28:W0.heap[y6.heap.size]? = some (.cells (eSt x).toArray 31 (0,0)):=by rw [hW0];exact heap_alloc_new _ _
   have HW0:=qh hW0
   clear hLI hLO hcI hcO hc2 isI isO hOO q0 q1 hb5 hb6 hb46 hbr6 hy46 hW0 hbr hb ISP ISR
   go_upto_region 23 with (fail)
   first|rw [<-HW0.out]|fail "W0"
   clear s0 s1 s2 s3 HW0 z0 i1
   have HSTK:Hid (∀ k,k<=K->gSt y4 ((x :: sts).getD k x)):=qh (fun k hk=>by
    cases k with
    | zero=>exact rdSt.mono HX.out Y0.out
    | succ k=>
     have hk2:k<sts.length:=by have:=HK.out.1;omega
     have e:(x :: sts).getD (k+1) x=sts[k]:=by simp [List.getD,hk2]
     rw [e]
     exact HGS.out _ (List.getElem_mem hk2))
   obtain ⟨b28,hb28⟩:∃ b,b=y6.heap.size:=⟨_,rfl⟩
   have HB28:=qh hb28
   rw [<-hb28] at hk28 ⊢
   have HK28:Hid (W0.heap[b28]? = some (.cells (eSt ((x :: sts).getD 0 x)).toArray 31 (0,0))):=qh (by simpa using hk28)
   clear hb28 hk28
   go_upto_region 24 with (fail)
   go_loopw [155] (fun s155 wr=>∃ k:Nat,k<=K/\s155=.int .i64 k/\Below y6.heap.size y6 wr/\Hid (wr.heap[b28]? = some (.cells (eSt ((x :: sts).getD k x)).toArray 31 (0,0)))) (fun s155 _=>K-(RowKit.intOf s155).toNat)
   case atStart=>exact ⟨0,Nat.zero_le _,rfl,hbA,HK28⟩
   clear HK28 hbA
   case round=>
    as_aux_lemma=>
    obtain ⟨k,hk,rfl,hb,HK28⟩:=hrel
    obtain ⟨wp,hwp⟩:∃ wp,wp=wr:=⟨_,rfl⟩
    subst hwp
    by_cases hkK:k<K
    ·
     have hks:k<sts.length:=by rw [<-HK.out.1];exact hkK
     have hkl:k<leds.length:=by rw [HK.out.2];exact hkK
     have hyw:Below y4.heap.size y4 wp:=YY.out.trans (hb.mono YY.out.size)
     have hbr:=Y0.out.trans (hyw.mono Y0.out.size)
     obtain ⟨bt,ot,eT,c0,c1,c2,c3⟩:=(HT.out.mono hyw).st k hks
     obtain ⟨bu,ou,eU,d0,d1,d2⟩:=(HU.out.mono hyw).led k hkl
     obtain ⟨s,hsx⟩:∃ s,s=(x :: sts).getD k x:=⟨_,rfl⟩
     obtain ⟨s',hsy⟩:∃ s',s'=sts[k]'hks:=⟨_,rfl⟩
     obtain ⟨g,hgx⟩:∃ g,g=leds[k]'hkl:=⟨_,rfl⟩
     have hgs:gSt y4 s:=by rw [hsx];exact HSTK.out k hk
     have hgs':gSt y4 s':=by rw [hsy];exact HGS.out _ (List.getElem_mem hks)
     have hgp:gInts y4 g.P:=by rw [hgx];exact HGP.out _ (List.getElem_mem hkl)
     have hgl:g.P.xs.length=M:=by rw [HM.out,hgx];exact HLS.out.pl _ (List.getElem_mem hkl)
     have hnx:(x :: sts).getD (k+1) x=s':=by rw [hsy];simp [List.getD,hks]
     obtain ⟨q,hql,hqa,hcs⟩:=HCH.out k hks hkl
     rw [<-hsx,<-hsy,<-hgx] at hcs
     rw [<-hsx] at HK28
     rw [<-hsy] at c0 c1 c2 c3
     rw [<-hgx] at d0 d1 d2
     rw [hgl] at d2
     have HCS:=qh hcs
     have HQA:=qh (And.intro hql hqa)
     have HS:=qh hgs
     have HS':=qh hgs'
     have HP:=qh hgp
     have HGL:=qh hgl
     have HNX:=qh hnx
     have HLA:Hid (g=ledAt leds k):=qh (by rw [hgx,ledAt_at hkl])
     obtain ⟨W2,hW2⟩:∃ W2,W2=wp.alloc (.cells (eSt s').toArray 31):=⟨_,rfl⟩
     have hbA:Below wp.heap.size wp W2:=by rw [hW2];exact alloc_below _ _
     have hk30:W2.heap[wp.heap.size]? = some (.cells (eSt s').toArray 31 (0,0)):=by rw [hW2];exact heap_alloc_new _ _
     have HW2:=qh hW2
     have hb2:=hb.trans (hbA.mono hb.size)
     have HBR2:=qh (hbr.trans (hbA.mono hbr.size))
     have HYW2:=qh (hyw.trans (hbA.mono hyw.size))
     have K28:=qh (blk_mono HK28.out hbA)
     obtain ⟨b30,hb30⟩:∃ b,b=wp.heap.size:=⟨_,rfl⟩
     have HB30:Hid (b30=wp.heap.size/\b28<b30):=qh ⟨hb30,by rw [hb30];exact (Array.getElem?_eq_some_iff.1 HK28.out).1⟩
     rw [<-hb30] at hk30
     have K30:=qh hk30
     have q0:=cel_lt Q0'.out hb2
     have q1:=cel_lt Q1'.out hb2
     have i1:decide (k<K)=true:=decide_eq_true hkK
     have x7:IntKind.i64.wrap ((k:Int)+1)=k+1:=IntWalk.i64_in _ om
     have i4:(0:Int)<=k:=by omega
     have i5:(k:Int)<K:=by omega
     have HKK:=qh hkK
     have ET:=qh eT
     have EU:=qh eU
     have D:=qh (And.intro (cel_lt d0 hbA) (And.intro (cel_lt d1 hbA) (cel_lt d2 hbA)))
     have hpi:=pinfl_any n ins k W2 (rdNet.mono HG.out HBR2.out) HNB.out (rdIns.mono HINS.out HBR2.out) HGD.out om
     simp only [vNet,vSl] at hpi
     rw [<-HN.out,<-HM.out] at hpi
     clear hsx hsy hgx hgs hgs' hgp hgl hnx hql hqa hcs hW2 hbA hk30 hkK hks hkl d0 d1 d2 hyw hbr HK28 eU hb
     go_upto_region 26 with (fail)
     rw [<-hb30]
     clear hb30
     first|rw [<-HW2.out]|fail "W2"
     clear c0 c1 c2 c3 HW2 eT
     first|rw [<-ET.out]|skip
     go_wp2_with fail
     refine Calls.to hpi ?_
     rintro e y7 ⟨vq,qs,rfl,hOQ,hqsl,hqsa⟩ hb7
     obtain ⟨aq,cq,eq⟩:=hOQ.isSlice
     subst eq
     have hqq:qs=q:=by
      refine List.ext_getElem (by rw [hqsl,HQA.out.1,HN.out]) (fun i h1 h2=>?_)
      have e1:=hqsa i (by rw [<-hqsl];exact h1)
      have e2:=HQA.out.2 i (by rw [<-HQA.out.1];exact h2)
      simp only [List.getD,List.getElem?_eq_getElem h1,List.getElem?_eq_getElem h2,Option.getD_some] at e1 e2
      rw [e1,e2]
     subst hqq
     rw [hqsl]
     have isQ:IsInts y7 (.slice aq N cq) qs:=by
      have h:=hOQ.isL (enc:=eInt) (fun _=>rfl)
      rw [hqsl] at h;exact h
     have HQ7:=qh isQ
     have hb27:=hb2.trans (hb7.mono hb2.size)
     have HB27:=qh hb27
     have HBR7:=qh (HBR2.out.trans (hb7.mono HBR2.out.size))
     have HYW7:=qh (HYW2.out.trans (hb7.mono HYW2.out.size))
     replace K28:=qh (blk_mono K28.out hb7)
     replace K30:=qh (blk_mono K30.out hb7)
     have QQ:=qh (And.intro (cel_lt q0 hb7) (cel_lt q1 hb7))
     replace D:=qh (And.intro (cel_lt D.out.1 hb7) (And.intro (cel_lt D.out.2.1 hb7) (cel_lt D.out.2.2 hb7)))
     have H27:Hid (∀ V,Below y7.heap.size y7 V->∀ xw,Calls Tryz.prog 12 #[.agg #[.slice n.Ns.a N n.Ns.cap,.slice n.Ls.a M n.Ls.cap],.agg #[.slice s.V.a s.V.xs.length s.V.cap,.slice s.P.a s.P.xs.length s.P.cap,.slice s.S.a s.S.xs.length s.S.cap,.slice s.O.a s.O.xs.length s.O.cap],.agg #[.slice s'.V.a s'.V.xs.length s'.V.cap,.slice s'.P.a s'.P.xs.length s'.P.cap,.slice s'.S.a s'.S.xs.length s'.S.cap,.slice s'.O.a s'.O.xs.length s'.O.cap],.slice aq N cq,.agg #[.int .i64 g.I,.int .i64 g.O,.slice g.P.a M g.P.cap]] (more V xw) fun e w'=>e=.returned (.tuple #[.bool true,.int .i64 0,.int .i64 0])/\Below (more V xw).heap.size (more V xw) w'):=qh (fun V hV xw=>by
      have hm:=hV.trans ((below_more V xw).mono hV.size)
      have h:=bastep_ok n s s' qs _ g (more V xw) (rdNet.mono HG.out (HBR7.out.trans (hm.mono HBR7.out.size))) (rdSt.mono HS.out (HYW7.out.trans (hm.mono HYW7.out.size))) (rdSt.mono HS'.out (HYW7.out.trans (hm.mono HYW7.out.size))) (HQ7.out.mono hm) (rdInts.mono HP.out (HYW7.out.trans (hm.mono HYW7.out.size))) HCS.out (by rw [<-HN.out];exact HNM.out.1) (by rw [<-HM.out];exact HNM.out.2)
      simp only [vNet,vSt,vLed,vSl] at h
      rw [HGL.out,<-HN.out,<-HM.out] at h
      exact h)
     have H28:Hid (∀ V,Below y7.heap.size y7 V->∀ xw,Calls Tryz.prog 13 #[.agg #[.slice n.Ns.a N n.Ns.cap,.slice n.Ls.a M n.Ls.cap],.slice a20 LP.length c20,.agg #[.slice s.V.a s.V.xs.length s.V.cap,.slice s.P.a s.P.xs.length s.P.cap,.slice s.S.a s.S.xs.length s.S.cap,.slice s.O.a s.O.xs.length s.O.cap],.agg #[.slice s'.V.a s'.V.xs.length s'.V.cap,.slice s'.P.a s'.P.xs.length s'.P.cap,.slice s'.S.a s'.S.xs.length s'.S.cap,.slice s'.O.a s'.O.xs.length s'.O.cap],.slice aq N cq,.agg #[.int .i64 g.I,.int .i64 g.O,.slice g.P.a M g.P.cap]] (more V xw) fun e w'=>e=.returned (.tuple #[.int .i64 0,.int .i64 0])/\Below (more V xw).heap.size (more V xw) w'):=qh (fun V hV xw=>by
      have hm:=hV.trans ((below_more V xw).mono hV.size)
      have h:=bapart_ok n s s' qs _ g LP _ (more V xw) (rdNet.mono HG.out (HBR7.out.trans (hm.mono HBR7.out.size))) (rdSt.mono HS.out (HYW7.out.trans (hm.mono HYW7.out.size))) (rdSt.mono HS'.out (HYW7.out.trans (hm.mono HYW7.out.size))) (HQ7.out.mono hm) (rdInts.mono HP.out (HYW7.out.trans (hm.mono HYW7.out.size))) HCS.out (by rw [<-HN.out];exact HNM.out.1) (by rw [<-HM.out];exact HNM.out.2) (HIP.out.mono (HB27.out.trans (hm.mono HB27.out.size))) HKN.out HND.out
      simp only [vNet,vSt,vLed,vSl] at h
      rw [HGL.out,<-HN.out,<-HM.out] at h
      exact h)
     have hy7:=Below.refl y7.heap.size y7
     have q0:=cel_lt QQ.out.1 hy7
     have q1:=cel_lt QQ.out.2 hy7
     have s0:(y7).cell? ⟨b28,0,none⟩=some (.slice s.V.a s.V.xs.length s.V.cap):=(tank_blk (blk_mono K28.out hy7) 0).trans rfl
     have s1:(y7).cell? ⟨b28,1,none⟩=some (.slice s.P.a s.P.xs.length s.P.cap):=(tank_blk (blk_mono K28.out hy7) 1).trans rfl
     have s2:(y7).cell? ⟨b28,2,none⟩=some (.slice s.S.a s.S.xs.length s.S.cap):=(tank_blk (blk_mono K28.out hy7) 2).trans rfl
     have s3:(y7).cell? ⟨b28,3,none⟩=some (.slice s.O.a s.O.xs.length s.O.cap):=(tank_blk (blk_mono K28.out hy7) 3).trans rfl
     have r0:(y7).cell? ⟨b30,0,none⟩=some (.slice s'.V.a s'.V.xs.length s'.V.cap):=(tank_blk (blk_mono K30.out hy7) 0).trans rfl
     have r1:(y7).cell? ⟨b30,1,none⟩=some (.slice s'.P.a s'.P.xs.length s'.P.cap):=(tank_blk (blk_mono K30.out hy7) 1).trans rfl
     have r2:(y7).cell? ⟨b30,2,none⟩=some (.slice s'.S.a s'.S.xs.length s'.S.cap):=(tank_blk (blk_mono K30.out hy7) 2).trans rfl
     have r3:(y7).cell? ⟨b30,3,none⟩=some (.slice s'.O.a s'.O.xs.length s'.O.cap):=(tank_blk (blk_mono K30.out hy7) 3).trans rfl
     have g0:=cel_lt D.out.1 hy7
     have g1:=cel_lt D.out.2.1 hy7
     have g2:=cel_lt D.out.2.2 hy7
     have eU:=EU.out
     clear isQ hOQ hqsl hqsa hpi hb2 hb7 hb27
     go_upto_region 27 with (fail)
     refine wp_region_more_lit (by kernel_rfl) (by kernel_rfl) ?_
     repeat (go_big_quiet_step ((go_at_call 12;with_reducible exact Calls.more_of (H27.out _ hy7 _))))
     refine wpQuiet_nil ?_
     intro _ hwq
     obtain ⟨xq,hwq⟩:=hwq
     subst hwq
     have hy8:=below_more y7 xq
     generalize more y7 xq=y8 at *
     clear q0 q1 s0 s1 s2 s3 r0 r1 r2 r3 g0 g1 g2 hy7
     have q0:=cel_lt QQ.out.1 hy8
     have q1:=cel_lt QQ.out.2 hy8
     have s0:(y8).cell? ⟨b28,0,none⟩=some (.slice s.V.a s.V.xs.length s.V.cap):=(tank_blk (blk_mono K28.out hy8) 0).trans rfl
     have s1:(y8).cell? ⟨b28,1,none⟩=some (.slice s.P.a s.P.xs.length s.P.cap):=(tank_blk (blk_mono K28.out hy8) 1).trans rfl
     have s2:(y8).cell? ⟨b28,2,none⟩=some (.slice s.S.a s.S.xs.length s.S.cap):=(tank_blk (blk_mono K28.out hy8) 2).trans rfl
     have s3:(y8).cell? ⟨b28,3,none⟩=some (.slice s.O.a s.O.xs.length s.O.cap):=(tank_blk (blk_mono K28.out hy8) 3).trans rfl
     have r0:(y8).cell? ⟨b30,0,none⟩=some (.slice s'.V.a s'.V.xs.length s'.V.cap):=(tank_blk (blk_mono K30.out hy8) 0).trans rfl
     have r1:(y8).cell? ⟨b30,1,none⟩=some (.slice s'.P.a s'.P.xs.length s'.P.cap):=(tank_blk (blk_mono K30.out hy8) 1).trans rfl
     have r2:(y8).cell? ⟨b30,2,none⟩=some (.slice s'.S.a s'.S.xs.length s'.S.cap):=(tank_blk (blk_mono K30.out hy8) 2).trans rfl
     have r3:(y8).cell? ⟨b30,3,none⟩=some (.slice s'.O.a s'.O.xs.length s'.O.cap):=(tank_blk (blk_mono K30.out hy8) 3).trans rfl
     have g0:=cel_lt D.out.1 hy8
     have g1:=cel_lt D.out.2.1 hy8
     have g2:=cel_lt D.out.2.2 hy8
     go_upto_region 28 with (fail)
     refine wp_region_more_lit (by kernel_rfl) (by kernel_rfl) ?_
     repeat (go_big_quiet_step ((go_at_call 13;with_reducible exact Calls.more_of (H28.out _ hy8 _))))
     refine wpQuiet_nil ?_
     intro _ hwq
     obtain ⟨xq,hwq⟩:=hwq
     subst hwq
     have hy9:Below y7.heap.size y7 (more y8 xq):=hy8.trans ((below_more y8 xq).mono hy8.size)
     generalize more y8 xq=y9 at *
     clear q0 q1 s0 s1 s2 s3 r0 r1 r2 r3 g0 g1 g2 hy8 H27 H28
     have q0:=cel_lt QQ.out.1 hy9
     have q1:=cel_lt QQ.out.2 hy9
     have s0:(y9).cell? ⟨b28,0,none⟩=some (.slice s.V.a s.V.xs.length s.V.cap):=(tank_blk (blk_mono K28.out hy9) 0).trans rfl
     have s1:(y9).cell? ⟨b28,1,none⟩=some (.slice s.P.a s.P.xs.length s.P.cap):=(tank_blk (blk_mono K28.out hy9) 1).trans rfl
     have s2:(y9).cell? ⟨b28,2,none⟩=some (.slice s.S.a s.S.xs.length s.S.cap):=(tank_blk (blk_mono K28.out hy9) 2).trans rfl
     have s3:(y9).cell? ⟨b28,3,none⟩=some (.slice s.O.a s.O.xs.length s.O.cap):=(tank_blk (blk_mono K28.out hy9) 3).trans rfl
     have r0:(y9).cell? ⟨b30,0,none⟩=some (.slice s'.V.a s'.V.xs.length s'.V.cap):=(tank_blk (blk_mono K30.out hy9) 0).trans rfl
     have r1:(y9).cell? ⟨b30,1,none⟩=some (.slice s'.P.a s'.P.xs.length s'.P.cap):=(tank_blk (blk_mono K30.out hy9) 1).trans rfl
     have r2:(y9).cell? ⟨b30,2,none⟩=some (.slice s'.S.a s'.S.xs.length s'.S.cap):=(tank_blk (blk_mono K30.out hy9) 2).trans rfl
     have r3:(y9).cell? ⟨b30,3,none⟩=some (.slice s'.O.a s'.O.xs.length s'.O.cap):=(tank_blk (blk_mono K30.out hy9) 3).trans rfl
     have g0:=cel_lt D.out.1 hy9
     have g1:=cel_lt D.out.2.1 hy9
     have g2:=cel_lt D.out.2.2 hy9
     have z0:((0:Int) != 0)=false:=rfl
     have zM:(M != M)=false:=by simp
     have zM2:((M:Int) != (M:Int))=false:=by simp
     go_upto_region 29 with (fail)
     refine wp_region_more_lit (by kernel_rfl) (by kernel_rfl) ?_
     repeat (go_big_quiet_step (fail))
     refine wpQuiet_nil ?_
     intro _ hwq
     obtain ⟨xq,hwq⟩:=hwq
     subst hwq
     have hy10:Below y7.heap.size y7 (more y9 xq):=hy9.trans ((below_more y9 xq).mono hy9.size)
     generalize more y9 xq=y10 at *
     clear q0 q1 s0 s1 s2 s3 r0 r1 r2 r3 g0 g1 g2 hy9
     have HYA:=qh hy10
     clear eU z0 zM zM2 hy10
     first|rw [<-EU.out]|fail "EU"
     have q0:=cel_lt QQ.out.1 HYA.out
     go_upto_region 33 with (fail)
     clear q0
     go_loopw [37,219] (fun s37 s219 wr=>∃ i:Nat,i<=N/\s219=.int .i64 i/\s37=.int .i64 (accR n c s s' qs i)/\Below y7.heap.size y7 wr) (fun _ s219 _=>N-(RowKit.intOf s219).toNat)
     case atStart=>exact ⟨0,Nat.zero_le _,rfl,rfl,HYA.out⟩
     case round=>
      as_aux_lemma=>
      obtain ⟨i,hile,rfl,rfl,hb⟩:=hrel
      obtain ⟨wx,hwx⟩:∃ wx,wx=wr:=⟨_,rfl⟩
      subst hwx
      by_cases hiN:i<N
      ·
       have hin:i<n.Ns.xs.length:=by rw [<-HN.out];exact hiN
       have hyx:=HYW7.out.trans (hb.mono HYW7.out.size)
       have hbx:=HBR7.out.trans (hb.mono HBR7.out.size)
       obtain ⟨bn,on,en,c0,c1,c2,c3,c4,c5,c6,c7,c8⟩:=((rdNet.mono HG.out hbx).1.2.2.1).nd i hin
       obtain ⟨z,hz⟩:∃ z,z=n.Ns.xs[i]'hin:=⟨_,rfl⟩
       have hzk:z=ndK n i:=by rw [ndK_at hin,hz]
       rw [<-hz] at c0 c1 c2 c3 c4 c5 c6 c7 c8
       obtain ⟨W3,hW3⟩:∃ W3,W3=wx.alloc (.cells (eNd z).toArray 48):=⟨_,rfl⟩
       have hbA:Below wx.heap.size wx W3:=by rw [hW3];exact alloc_below _ _
       obtain ⟨z0,-⟩:=boxNd wx W3 48 z _ rfl _ rfl (by rw [hW3];exact qr)
       have HW3:=qh hW3
       have hb3:=hb.trans (hbA.mono hb.size)
       have hct:=containsT_any LP z.Name _ W3 (HIP.out.mono (HB27.out.trans (hb3.mono HB27.out.size)))
       rw [show hasT LP z.Name=c i from by rw [hzk];exact HCHS.out i hiN] at hct
       have q0:=cel_lt QQ.out.1 hb
       have i1:decide (i<N)=true:=decide_eq_true hiN
       have x8:IntKind.i64.wrap ((i:Int)+1)=i+1:=IntWalk.i64_in _ (by have:=HNM.out;omega)
       have j4:(0:Int)<=i:=by omega
       have j5:(i:Int)<N:=by omega
       have EN:=qh en
       have HIN:=qh hiN
       clear hz hzk hW3 hbA hb hiN hyx hbx
       go_upto_region 35 with (fail)
       first|rw [<-HW3.out]|fail "W3"
       clear c0 c1 c2 c3 c4 c5 c6 c7 c8 HW3 q0
       go_wp2_with fail
       refine Calls.to hct ?_
       rintro e y11 rfl hb11
       have hb4:=hb3.trans (hb11.mono hb3.size)
       clear hct hb11 hb3 z0
       cases hci:c i
       ·have HS1:Hid (accR n c s s' qs (i+1)=accR n c s s' qs i):=qh (by unfold accR;rw [sg_succ,hci];simp)
        clear hci
        go_wp2_with fail
        clear en
        first|rw [<-EN.out]|skip
        go_roundw
        case measure=>have:=HIN.out;simp [RowKit.intOf,x8];omega
        case rel=>exact ⟨i+1,HIN.out,by go_num,by rw [HS1.out],hb4⟩
       ·
        have hin:i<n.Ns.xs.length:=by rw [<-HN.out];exact HIN.out
        have hyx:=HYW7.out.trans (hb4.mono HYW7.out.size)
        have ac:=HCS.out.acc
        obtain ⟨a1,o1,f1,v1⟩:=((rdSt.mono HS.out hyx).1.2.2.1).int i (by rw [ac.xv];exact hin)
        obtain ⟨a2,o2,f2,v2⟩:=((rdSt.mono HS.out hyx).2.1.2.2.1).int i (by rw [ac.xp];exact hin)
        obtain ⟨a3,o3,f3,v3⟩:=((rdSt.mono HS'.out hyx).1.2.2.1).int i (by rw [ac.yv];exact hin)
        obtain ⟨a4,o4,f4,v4⟩:=((rdSt.mono HS'.out hyx).2.1.2.2.1).int i (by rw [ac.yp];exact hin)
        have isq:=HQ7.out.mono hb4
        obtain ⟨aq',cq',eq',_,_,hq3⟩:=isq
        simp only [Value.slice.injEq] at eq'
        obtain ⟨rfl,hnq,rfl⟩:=eq'
        clear hnq
        obtain ⟨a5,o5,f5,v5⟩:=hq3.int i (by rw [ac.ql];exact hin)
        rw [show s.V.xs[i]'(by rw [ac.xv];exact hin)=s.V.xs.getD i 0 from by simp [List.getD,ac.xv,hin]] at v1
        rw [show s.P.xs[i]'(by rw [ac.xp];exact hin)=s.P.xs.getD i 0 from by simp [List.getD,ac.xp,hin]] at v2
        rw [show s'.V.xs[i]'(by rw [ac.yv];exact hin)=s'.V.xs.getD i 0 from by simp [List.getD,ac.yv,hin]] at v3
        rw [show s'.P.xs[i]'(by rw [ac.yp];exact hin)=s'.P.xs.getD i 0 from by simp [List.getD,ac.yp,hin]] at v4
        rw [show qs[i]'(by rw [ac.ql];exact hin)=qs.getD i 0 from by simp [List.getD,ac.ql,hin]] at v5
        have bd:=ac.bd i hin
        have bR:=accR_bd (ins:=c) ac (k:=i) om
        have hRs:accR n c s s' qs (i+1)=accR n c s s' qs i+(s.V.xs.getD i 0+s.P.xs.getD i 0+qs.getD i 0-s'.V.xs.getD i 0-s'.P.xs.getD i 0):=by
         unfold accR
         rw [sg_succ,hci]
         rfl
        have k28:=blk_mono K28.out hb4
        have k30:=blk_mono K30.out hb4
        have s0:y11.cell? ⟨b28,0,none⟩=some (.slice s.V.a N s.V.cap):=by rw [HN.out,<-ac.xv];exact (tank_blk k28 0).trans rfl
        have s1:y11.cell? ⟨b28,1,none⟩=some (.slice s.P.a N s.P.cap):=by rw [HN.out,<-ac.xp];exact (tank_blk k28 1).trans rfl
        have r0:y11.cell? ⟨b30,0,none⟩=some (.slice s'.V.a N s'.V.cap):=by rw [HN.out,<-ac.yv];exact (tank_blk k30 0).trans rfl
        have r1:y11.cell? ⟨b30,1,none⟩=some (.slice s'.P.a N s'.P.cap):=by rw [HN.out,<-ac.yp];exact (tank_blk k30 1).trans rfl
        rw [f1] at s0
        rw [f2] at s1
        rw [f3] at r0
        rw [f4] at r1
        obtain ⟨R,hR⟩:∃ R,R=accR n c s s' qs i:=⟨_,rfl⟩
        obtain ⟨e1,he1⟩:∃ e,e=s.V.xs.getD i 0:=⟨_,rfl⟩
        obtain ⟨e2,he2⟩:∃ e,e=s.P.xs.getD i 0:=⟨_,rfl⟩
        obtain ⟨e3,he3⟩:∃ e,e=s'.V.xs.getD i 0:=⟨_,rfl⟩
        obtain ⟨e4,he4⟩:∃ e,e=s'.P.xs.getD i 0:=⟨_,rfl⟩
        obtain ⟨e5,he5⟩:∃ e,e=qs.getD i 0:=⟨_,rfl⟩
        rw [<-hR] at bR hRs ⊢
        rw [<-he1,<-he2,<-he3,<-he4,<-he5] at bd hRs
        rw [<-he1] at v1
        rw [<-he2] at v2
        rw [<-he3] at v3
        rw [<-he4] at v4
        rw [<-he5] at v5
        have t1:IntKind.i64.wrap (e1+e2)=e1+e2:=IntWalk.i64_in _ om
        have t2:IntKind.i64.wrap (e1+e2+e5)=e1+e2+e5:=IntWalk.i64_in _ om
        have t3:IntKind.i64.wrap (e1+e2+e5-e3)=e1+e2+e5-e3:=IntWalk.i64_in _ om
        have t4:IntKind.i64.wrap (e1+e2+e5-e3-e4)=e1+e2+e5-e3-e4:=IntWalk.i64_in _ om
        have t5:IntKind.i64.wrap (R+(e1+e2+e5-e3-e4))=R+(e1+e2+e5-e3-e4):=IntWalk.i64_in _ om
        have HRS:=qh hRs
        have F5:=qh f5
        clear hR he1 he2 he3 he4 he5 hRs bd bR hci hin hyx ac hq3 k28 k30 f1 f2 f3 f4
        go_upto_region 36 with (fail)
        go_quiet (fail)
        have hb5:=hb4.trans ((below_drewN (Below.refl _ y11) nq).mono hb4.size)
        generalize y11.drewN nq=y12 at *
        clear s0 s1 r0 r1 v1 v2 v3 v4 v5 t1 t2 t3 t4 t5 hb4 f5
        go_wp2_with fail
        clear en
        first|rw [<-F5.out]|skip
        first|rw [<-EN.out]|skip
        go_roundw
        case measure=>have:=HIN.out;simp [RowKit.intOf,x8];omega
        case rel=>exact ⟨i+1,HIN.out,by go_num,by rw [HRS.out],hb5⟩
      ·have hie:N=i:=by omega
       subst hie
       have i1:decide (N<N)=false:=decide_eq_false (Nat.lt_irrefl N)
       have q1:=cel_lt QQ.out.2 hb
       go_upto_region 39 with (fail)
       clear i1 q1 hiN
       have bR:=accR_bd (ins:=c) HCS.out.acc (k:=N) (by rw [HN.out];exact Nat.le_refl _)
       obtain ⟨RN,hRN⟩:∃ R,R=accR n c s s' qs N:=⟨_,rfl⟩
       have HRN:=qh hRN
       rw [<-hRN] at bR ⊢
       have HBRN:=qh bR
       clear hRN bR
       go_loopw [37,262] (fun s37 s262 wr=>∃ j:Nat,j<=M/\s262=.int .i64 j/\s37=.int .i64 (RN+sg (linkF n c g.P.xs) j)/\Below y7.heap.size y7 wr) (fun _ s262 _=>M-(RowKit.intOf s262).toNat)
       case atStart=>exact ⟨0,Nat.zero_le _,rfl,by simp [sg],hb⟩
       clear hb
       case round=>
        as_aux_lemma=>
        obtain ⟨j,hjle,rfl,rfl,hb⟩:=hrel
        obtain ⟨wv,hwv⟩:∃ wv,wv=wr:=⟨_,rfl⟩
        subst hwv
        by_cases hjM:j<M
        ·
         have hjl:j<n.Ls.xs.length:=by rw [<-HM.out];exact hjM
         have hbx:=HBR7.out.trans (hb.mono HBR7.out.size)
         obtain ⟨bl,ol,el,c0,c1,c2,c3,c4,c5,c6,c7,c8,c9,c10⟩:=((rdNet.mono HG.out hbx).2.2.2.1).lk j hjl
         obtain ⟨z,hz⟩:∃ z,z=n.Ls.xs[j]'hjl:=⟨_,rfl⟩
         have hzk:z=lkK n j:=by rw [hz,lkK_at hjl]
         rw [<-hz] at c0 c1 c2 c3 c4 c5 c6 c7 c8 c9 c10
         obtain ⟨W3,hW3⟩:∃ W3,W3=wv.alloc (.cells (eLk z).toArray 61):=⟨_,rfl⟩
         have hbA:Below wv.heap.size wv W3:=by rw [hW3];exact alloc_below _ _
         obtain ⟨z0,-⟩:=boxLk wv W3 61 z _ rfl _ rfl (by rw [hW3];exact qr)
         have HW3:=qh hW3
         have hb3:=hb.trans (hbA.mono hb.size)
         have hct1:=containsT_any LI z.Name _ W3 (HII.out.mono (HB27.out.trans (hb3.mono HB27.out.size)))
         have hct2:=fun V (hV:Below W3.heap.size W3 V)=>containsT_any LO z.Name _ V (HIO.out.mono (HB27.out.trans ((hb3.trans (hV.mono hb3.size)).mono HB27.out.size)))
         rw [show hasT LI z.Name=(!c (frmN n j)&&c (toN n j)) from by rw [hzk];exact HCI.out j hjM] at hct1
         rw [show hasT LO z.Name=(c (frmN n j) && !c (toN n j)) from by rw [hzk];exact HCO.out j hjM] at hct2
         have hjp:j<g.P.xs.length:=by rw [HGL.out];exact hjM
         obtain ⟨bp,op,ep,v0⟩:=((rdInts.mono HP.out (HYW7.out.trans (hb3.mono HYW7.out.size))).2.2.1).int j hjp
         rw [show g.P.xs[j]'hjp=g.P.xs.getD j 0 from by simp [List.getD,hjp]] at v0
         have bd:=HCS.out.pb j hjl
         have bP:=(accP_bd (ins:=c) HCS.out.acc (j:=j) om)
         have bN:=HBRN.out
         have hls:RN+sg (linkF n c g.P.xs) (j+1)=RN+sg (linkF n c g.P.xs) j+((if !c (frmN n j)&&c (toN n j) then g.P.xs.getD j 0 else 0)-(if c (frmN n j) && !c (toN n j) then g.P.xs.getD j 0 else 0)):=by
          rw [sg_succ,linkF_is];omega
         obtain ⟨p,hp⟩:∃ p,p=g.P.xs.getD j 0:=⟨_,rfl⟩
         obtain ⟨RJ,hRJ⟩:∃ R,R=RN+sg (linkF n c g.P.xs) j:=⟨_,rfl⟩
         rw [<-hp] at v0 bd hls
         rw [<-hRJ] at hls ⊢
         have t1:IntKind.i64.wrap (RJ+p)=RJ+p:=IntWalk.i64_in _ om
         have t2:IntKind.i64.wrap (RJ-p)=RJ-p:=IntWalk.i64_in _ om
         have g2:=cel_lt D.out.2.2 hb3
         have q1:=cel_lt QQ.out.2 hb
         have i1:decide (j<M)=true:=decide_eq_true hjM
         have x8:IntKind.i64.wrap ((j:Int)+1)=j+1:=IntWalk.i64_in _ (by have:=HNM.out;omega)
         have j4:(0:Int)<=j:=by omega
         have j5:(j:Int)<M:=by omega
         have eU:=EU.out
         have EL:=qh el
         have EP:=qh ep
         have HJM:=qh hjM
         clear hz hzk hW3 hbA hb hjM hjl hbx hjp bd bP bN hp hRJ
         go_upto_region 41 with (fail)
         first|rw [<-HW3.out]|fail "W3"
         clear c0 c1 c2 c3 c4 c5 c6 c7 c8 c9 c10 HW3 q1
         cases hcf:c (frmN n j)
         ·cases hct:c (toN n j)
          ·rw [hcf,hct,show (!false&&false)=false from rfl] at hct1
           rw [hcf,hct,show (false && !false)=false from rfl] at hct2
           rw [hcf,hct] at hls
           have HLS2:Hid (RN+sg (linkF n c g.P.xs) (j+1)=RJ):=qh (by rw [hls];simp [Int.sub_eq_add_neg])
           clear hcf hct hls
           go_wp2_with fail
           refine Calls.to hct1 ?_
           rintro e y11 rfl hb11
           have hct2:=hct2 y11 hb11
           have hb4:=hb3.trans (hb11.mono hb3.size)
           replace z0:=cel_lt z0 hb11
           clear hct1 hb11 hb3 v0 g2
           go_wp2_with fail
           refine Calls.to hct2 ?_
           rintro e y12 rfl hb12
           have hb5:=hb4.trans (hb12.mono hb4.size)
           clear hct2 hb12 hb4 z0
           go_wp2_with fail
           clear el ep eU
           first|rw [<-EP.out]|skip
           first|rw [<-EL.out]|skip
           first|rw [<-EU.out]|skip
           go_roundw
           case measure=>have:=HJM.out;simp [RowKit.intOf,x8];omega
           case rel=>exact ⟨j+1,HJM.out,by go_num,by rw [HLS2.out],hb5⟩
          ·rw [hcf,hct,show (!false&&true)=true from rfl] at hct1
           rw [hcf,hct,show (false && !true)=false from rfl] at hct2
           rw [hcf,hct] at hls
           have HLS2:Hid (RN+sg (linkF n c g.P.xs) (j+1)=RJ+p):=qh (by rw [hls];simp [Int.sub_eq_add_neg])
           clear hcf hct hls
           go_wp2_with fail
           refine Calls.to hct1 ?_
           rintro e y11 rfl hb11
           have hct2:=hct2 y11 hb11
           have hb4:=hb3.trans (hb11.mono hb3.size)
           replace z0:=cel_lt z0 hb11
           clear hct1 hb11 hb3 v0 g2
           go_wp2_with fail
           refine Calls.to hct2 ?_
           rintro e y12 rfl hb12
           have hb5:=hb4.trans (hb12.mono hb4.size)
           clear hct2 hb12 hb4 z0
           go_wp2_with fail
           clear el ep eU
           first|rw [<-EP.out]|skip
           first|rw [<-EL.out]|skip
           first|rw [<-EU.out]|skip
           go_roundw
           case measure=>have:=HJM.out;simp [RowKit.intOf,x8];omega
           case rel=>exact ⟨j+1,HJM.out,by go_num,by rw [HLS2.out],hb5⟩
         ·cases hct:c (toN n j)
          ·rw [hcf,hct,show (!true&&false)=false from rfl] at hct1
           rw [hcf,hct,show (true && !false)=true from rfl] at hct2
           rw [hcf,hct] at hls
           have HLS2:Hid (RN+sg (linkF n c g.P.xs) (j+1)=RJ-p):=qh (by rw [hls];simp [Int.sub_eq_add_neg])
           clear hcf hct hls
           go_wp2_with fail
           refine Calls.to hct1 ?_
           rintro e y11 rfl hb11
           have hct2:=hct2 y11 hb11
           have hb4:=hb3.trans (hb11.mono hb3.size)
           replace z0:=cel_lt z0 hb11
           clear hct1 hb11 hb3 v0 g2
           go_wp2_with fail
           refine Calls.to hct2 ?_
           rintro e y12 rfl hb12
           have hb5:=hb4.trans (hb12.mono hb4.size)
           clear hct2 hb12 hb4 z0
           go_wp2_with fail
           clear el ep eU
           first|rw [<-EP.out]|skip
           first|rw [<-EL.out]|skip
           first|rw [<-EU.out]|skip
           go_roundw
           case measure=>have:=HJM.out;simp [RowKit.intOf,x8];omega
           case rel=>exact ⟨j+1,HJM.out,by go_num,by rw [HLS2.out],hb5⟩
          ·rw [hcf,hct,show (!true&&true)=false from rfl] at hct1
           rw [hcf,hct,show (true && !true)=false from rfl] at hct2
           rw [hcf,hct] at hls
           have HLS2:Hid (RN+sg (linkF n c g.P.xs) (j+1)=RJ):=qh (by rw [hls];simp [Int.sub_eq_add_neg])
           clear hcf hct hls
           go_wp2_with fail
           refine Calls.to hct1 ?_
           rintro e y11 rfl hb11
           have hct2:=hct2 y11 hb11
           have hb4:=hb3.trans (hb11.mono hb3.size)
           replace z0:=cel_lt z0 hb11
           clear hct1 hb11 hb3 v0 g2
           go_wp2_with fail
           refine Calls.to hct2 ?_
           rintro e y12 rfl hb12
           have hb5:=hb4.trans (hb12.mono hb4.size)
           clear hct2 hb12 hb4 z0
           go_wp2_with fail
           clear el ep eU
           first|rw [<-EP.out]|skip
           first|rw [<-EL.out]|skip
           first|rw [<-EU.out]|skip
           go_roundw
           case measure=>have:=HJM.out;simp [RowKit.intOf,x8];omega
           case rel=>exact ⟨j+1,HJM.out,by go_num,by rw [HLS2.out],hb5⟩
        ·have hje:M=j:=by omega
         subst hje
         have i1:decide (M<M)=false:=decide_eq_false (Nat.lt_irrefl M)
         have q0:=cel_lt QQ.out.1 hb
         have hgl2:=HCS.out.byHand c
         rw [<-HN.out,<-HM.out,<-HRN.out] at hgl2
         obtain ⟨SS,hSS⟩:∃ R,R=RN+sg (linkF n c g.P.xs) M:=⟨_,rfl⟩
         rw [<-hSS] at hgl2 ⊢
         have HGG:=qh hgl2
         have HBG:=qh (goneF_bd (n:=n) (ins:=c) (q:=qs) (p:=g.P.xs) (by rw [<-HM.out];exact HNM.out.2) (by rw [<-HN.out];exact HNM.out.1) HCS.out.qb HCS.out.pb)
         clear hSS hgl2
         go_upto_region 49 with (fail)
         clear i1 q0 hjM
         go_loopw [43,293] (fun s43 s293 wr=>∃ i:Nat,i<=N/\s293=.int .i64 i/\s43=.int .i64 (sg (goneF n c qs g.P.xs) i)/\Below y7.heap.size y7 wr) (fun _ s293 _=>N-(RowKit.intOf s293).toNat)
         case atStart=>exact ⟨0,Nat.zero_le _,rfl,rfl,hb⟩
         clear hb
         case round=>
          as_aux_lemma=>
          obtain ⟨i,hile,rfl,rfl,hb⟩:=hrel
          obtain ⟨wu,hwu⟩:∃ wu,wu=wr:=⟨_,rfl⟩
          subst hwu
          by_cases hiN:i<N
          ·
           have hin:i<n.Ns.xs.length:=by rw [<-HN.out];exact hiN
           have hbx:=HBR7.out.trans (hb.mono HBR7.out.size)
           obtain ⟨bn,on,en,c0,c1,c2,c3,c4,c5,c6,c7,c8⟩:=((rdNet.mono HG.out hbx).1.2.2.1).nd i hin
           obtain ⟨z,hz⟩:∃ z,z=n.Ns.xs[i]'hin:=⟨_,rfl⟩
           have hzk:z=ndK n i:=by rw [ndK_at hin,hz]
           have hiso:isOut n i=(z.Kind==3):=by unfold isOut;rw [<-hzk];rfl
           rw [<-hz] at c0 c1 c2 c3 c4 c5 c6 c7 c8
           obtain ⟨W3,hW3⟩:∃ W3,W3=wu.alloc (.cells (eNd z).toArray 48):=⟨_,rfl⟩
           have hbA:Below wu.heap.size wu W3:=by rw [hW3];exact alloc_below _ _
           obtain ⟨z0,z1,-⟩:=boxNd wu W3 48 z _ rfl _ rfl (by rw [hW3];exact qr)
           have HW3:=qh hW3
           have hb3:=hb.trans (hbA.mono hb.size)
           have hct:=containsT_any LP z.Name _ W3 (HIP.out.mono (HB27.out.trans (hb3.mono HB27.out.size)))
           rw [show hasT LP z.Name=c i from by rw [hzk];exact HCHS.out i hiN] at hct
           have hgs:sg (goneF n c qs g.P.xs) (i+1)=sg (goneF n c qs g.P.xs) i+(if isOut n i&&c i then qs.getD i 0+sg (fun k=>if toN n k=i then g.P.xs.getD k 0 else 0) n.Ls.xs.length else 0):=rfl
           rw [hiso] at hgs
           have HZK:=qh hzk
           have q0:=cel_lt QQ.out.1 hb
           have i1:decide (i<N)=true:=decide_eq_true hiN
           have x8:IntKind.i64.wrap ((i:Int)+1)=i+1:=IntWalk.i64_in _ (by have:=HNM.out;omega)
           have j4:(0:Int)<=i:=by omega
           have j5:(i:Int)<N:=by omega
           have EN:=qh en
           have HIN:=qh hiN
           clear hz hzk hW3 hbA hb hiN hbx hin hiso
           go_upto_region 51 with (fail)
           first|rw [<-HW3.out]|fail "W3"
           clear c0 c1 c2 c3 c4 c5 c6 c7 c8 HW3 q0
           cases hk3:(z.Kind==3)
           ·have HS1:Hid (sg (goneF n c qs g.P.xs) (i+1)=sg (goneF n c qs g.P.xs) i):=qh (by rw [hgs,hk3];simp)
            clear hct hgs
            go_wp2_with fail
            clear en
            first|rw [<-EN.out]|skip
            go_roundw
            case measure=>have:=HIN.out;simp [RowKit.intOf,x8];omega
            case rel=>exact ⟨i+1,HIN.out,by go_num,by rw [HS1.out],hb3⟩
           ·rw [hk3,Bool.true_and] at hgs
            go_wp2_with fail
            refine Calls.to hct ?_
            rintro e y11 rfl hb11
            have hb4:=hb3.trans (hb11.mono hb3.size)
            replace z0:=cel_lt z0 hb11
            clear hct hb11 hb3 z1
            cases hci:c i
            ·have HS1:Hid (sg (goneF n c qs g.P.xs) (i+1)=sg (goneF n c qs g.P.xs) i):=qh (by rw [hgs,hci];simp)
             clear hgs hci
             go_wp2_with fail
             clear en
             first|rw [<-EN.out]|skip
             go_roundw
             case measure=>have:=HIN.out;simp [RowKit.intOf,x8];omega
             case rel=>exact ⟨i+1,HIN.out,by go_num,by rw [HS1.out],hb4⟩
            ·rw [hci] at hgs
             simp only [if_true] at hgs
             have hin:i<n.Ns.xs.length:=by rw [<-HN.out];exact HIN.out
             have hiq:i<qs.length:=by rw [HCS.out.ql];exact hin
             have isq:=HQ7.out.mono hb4
             obtain ⟨aq',cq',eq',_,_,hq3⟩:=isq
             simp only [Value.slice.injEq] at eq'
             obtain ⟨rfl,hnq,rfl⟩:=eq'
             clear hnq
             obtain ⟨a5,o5,f5,v5⟩:=hq3.int i hiq
             rw [show qs[i]'hiq=qs.getD i 0 from by simp [List.getD,hiq]] at v5
             have bq:=HCS.out.qb i hin
             have bG:=HBG.out.2 i om
             have bI:=HBG.out.1 i
             obtain ⟨G0,hG0⟩:∃ G,G=sg (goneF n c qs g.P.xs) i:=⟨_,rfl⟩
             obtain ⟨qi,hqi⟩:∃ e,e=qs.getD i 0:=⟨_,rfl⟩
             rw [<-hG0] at hgs bG ⊢
             rw [<-hqi] at v5 bq hgs
             have t1:IntKind.i64.wrap (G0+qi)=G0+qi:=IntWalk.i64_in _ om
             have HB5:=qh (And.intro bG bq)
             have HBI:=qh bI
             have HGS2:=qh hgs
             have F5:=qh f5
             have q1:=cel_lt QQ.out.2 hb4
             obtain ⟨b45,hb45⟩:∃ b,b=wu.heap.size:=⟨_,rfl⟩
             rw [<-hb45] at z0 ⊢
             clear hgs hci hin hiq hq3 bq bG bI hG0 hqi hb45
             go_upto_region 54 with (fail)
             clear f5 v5 t1 q1 en
             first|rw [<-F5.out]|skip
             first|rw [<-EN.out]|skip
             go_loopw [43,316] (fun s43 s316 wr=>∃ j:Nat,j<=M/\s316=.int .i64 j/\s43=.int .i64 (G0+qi+sg (fun k=>if toN n k=i then g.P.xs.getD k 0 else 0) j)/\wr.cell? ⟨b45,0,none⟩=some (.string z.Name)/\Below y7.heap.size y7 wr) (fun _ s316 _=>M-(RowKit.intOf s316).toNat)
             case atStart=>exact ⟨0,Nat.zero_le _,rfl,by simp [sg],z0,hb4⟩
             clear z0 hb4
             case round=>
              as_aux_lemma=>
              obtain ⟨j,hjle,rfl,rfl,z0,hb⟩:=hrel
              obtain ⟨wv,hwv⟩:∃ wv,wv=wr:=⟨_,rfl⟩
              subst hwv
              by_cases hjM:j<M
              ·have hjl:j<n.Ls.xs.length:=by rw [<-HM.out];exact hjM
               have hbx:=HBR7.out.trans (hb.mono HBR7.out.size)
               obtain ⟨bl,ol,el,c0,c1,c2,c3,c4,c5,c6,c7,c8,c9,c10⟩:=((rdNet.mono HG.out hbx).2.2.2.1).lk j hjl
               obtain ⟨m,hm⟩:∃ m,m=n.Ls.xs[j]'hjl:=⟨_,rfl⟩
               have hmk:m=lkK n j:=by rw [hm,lkK_at hjl]
               rw [<-hm] at c0 c1 c2 c3 c4 c5 c6 c7 c8 c9 c10
               obtain ⟨W3,hW3⟩:∃ W3,W3=wv.alloc (.cells (eLk m).toArray 61):=⟨_,rfl⟩
               have hbA:Below wv.heap.size wv W3:=by rw [hW3];exact alloc_below _ _
               obtain ⟨-,-,m2,-⟩:=boxLk wv W3 61 m _ rfl _ rfl (by rw [hW3];exact qr)
               have HW3:=qh hW3
               have hb3:=hb.trans (hbA.mono hb.size)
               have z3:=cel_lt z0 hbA
               have hto:(m.To.toList==z.Name.toList)=decide (toN n j=i):=by
                have h:=to_is HNB.out (i:=i) (by rw [<-HN.out];exact HIN.out) hjl
                rw [<-hmk,<-HZK.out] at h
                exact h
               have hjp:j<g.P.xs.length:=by rw [HGL.out];exact hjM
               obtain ⟨bp,op,ep,v0⟩:=((rdInts.mono HP.out (HYW7.out.trans (hb3.mono HYW7.out.size))).2.2.1).int j hjp
               rw [show g.P.xs[j]'hjp=g.P.xs.getD j 0 from by simp [List.getD,hjp]] at v0
               have bd:=HCS.out.pb j hjl
               have bS:=HBI.out j om
               have b5:=HB5.out
               have hls:G0+qi+sg (fun k=>if toN n k=i then g.P.xs.getD k 0 else 0) (j+1)=G0+qi+sg (fun k=>if toN n k=i then g.P.xs.getD k 0 else 0) j+(if toN n j=i then g.P.xs.getD j 0 else 0):=by
                rw [sg_succ];omega
               obtain ⟨p,hp⟩:∃ p,p=g.P.xs.getD j 0:=⟨_,rfl⟩
               obtain ⟨RJ,hRJ⟩:∃ R,R=G0+qi+sg (fun k=>if toN n k=i then g.P.xs.getD k 0 else 0) j:=⟨_,rfl⟩
               rw [<-hp] at v0 bd hls
               rw [<-hRJ] at hls ⊢
               have t1:IntKind.i64.wrap (RJ+p)=RJ+p:=IntWalk.i64_in _ om
               have g2:=cel_lt D.out.2.2 hb3
               have q1:=cel_lt QQ.out.2 hb
               have i1:decide (j<M)=true:=decide_eq_true hjM
               have x9:IntKind.i64.wrap ((j:Int)+1)=j+1:=IntWalk.i64_in _ (by have:=HNM.out;omega)
               have k4:(0:Int)<=j:=by omega
               have k5:(j:Int)<M:=by omega
               have eU:=EU.out
               have EL:=qh el
               have EP:=qh ep
               have HJM:=qh hjM
               clear hm hmk hW3 hbA hb hjM hjl hbx hjp bd bS b5 hp hRJ z0
               go_upto_region 56 with (fail)
               first|rw [<-HW3.out]|fail "W3"
               clear c0 c1 c2 c3 c4 c5 c6 c7 c8 c9 c10 HW3 q1
               cases hti:decide (toN n j=i)
               ·have hni:=of_decide_eq_false hti
                rw [hti] at hto
                rw [if_neg hni,Int.add_zero] at hls
                have HLS2:=qh hls
                clear hls hti hni
                go_wp2_with fail
                clear el ep eU
                first|rw [<-EL.out]|skip
                first|rw [<-EU.out]|skip
                go_roundw
                case measure=>have:=HJM.out;simp [RowKit.intOf,x9];omega
                case rel=>exact ⟨j+1,HJM.out,by go_num,by rw [HLS2.out],z3,hb3⟩
               ·have hni:=of_decide_eq_true hti
                rw [hti] at hto
                rw [if_pos hni] at hls
                have HLS2:=qh hls
                clear hls hti hni
                go_wp2_with fail
                clear el ep eU
                first|rw [<-EP.out]|skip
                first|rw [<-EL.out]|skip
                first|rw [<-EU.out]|skip
                go_roundw
                case measure=>have:=HJM.out;simp [RowKit.intOf,x9];omega
                case rel=>exact ⟨j+1,HJM.out,by go_num,by rw [HLS2.out],z3,hb3⟩
              ·have hje:M=j:=by omega
               subst hje
               have i1:decide (M<M)=false:=decide_eq_false (Nat.lt_irrefl M)
               have HS1:Hid (sg (goneF n c qs g.P.xs) (i+1)=G0+qi+sg (fun k=>if toN n k=i then g.P.xs.getD k 0 else 0) M):=qh (by rw [HGS2.out,HM.out];omega)
               clear hjM z0
               go_wp2_with fail
               go_roundw
               case measure=>have:=HIN.out;simp [RowKit.intOf,x8];omega
               case rel=>exact ⟨i+1,HIN.out,by go_num,by rw [HS1.out],hb⟩
          ·have hie:N=i:=by omega
           subst hie
           have i1:decide (N<N)=false:=decide_eq_false (Nat.lt_irrefl N)
           have zS:(SS != SS)=false:=by simp
           rw [<-HGG.out]
           have k28:=blk_mono K28.out hb
           have k30:=blk_mono K30.out hb
           have s0:wu.cell? ⟨b28,0,none⟩=some (.slice s.V.a s.V.xs.length s.V.cap):=(tank_blk k28 0).trans rfl
           have s1:wu.cell? ⟨b28,1,none⟩=some (.slice s.P.a s.P.xs.length s.P.cap):=(tank_blk k28 1).trans rfl
           have s2:wu.cell? ⟨b28,2,none⟩=some (.slice s.S.a s.S.xs.length s.S.cap):=(tank_blk k28 2).trans rfl
           have s3:wu.cell? ⟨b28,3,none⟩=some (.slice s.O.a s.O.xs.length s.O.cap):=(tank_blk k28 3).trans rfl
           have f0:wu.frozen? ⟨b28,0,none⟩=false:=tank_free k28 0
           have f1:wu.frozen? ⟨b28,1,none⟩=false:=tank_free k28 1
           have f2:wu.frozen? ⟨b28,2,none⟩=false:=tank_free k28 2
           have f3:wu.frozen? ⟨b28,3,none⟩=false:=tank_free k28 3
           have r0:wu.cell? ⟨b30,0,none⟩=some (.slice s'.V.a s'.V.xs.length s'.V.cap):=(tank_blk k30 0).trans rfl
           have r1:wu.cell? ⟨b30,1,none⟩=some (.slice s'.P.a s'.P.xs.length s'.P.cap):=(tank_blk k30 1).trans rfl
           have r2:wu.cell? ⟨b30,2,none⟩=some (.slice s'.S.a s'.S.xs.length s'.S.cap):=(tank_blk k30 2).trans rfl
           have r3:wu.cell? ⟨b30,3,none⟩=some (.slice s'.O.a s'.O.xs.length s'.O.cap):=(tank_blk k30 3).trans rfl
           obtain ⟨WF,hWF⟩:∃ WF,WF=(((wu.setCell ⟨b28,0,none⟩ (.slice s'.V.a s'.V.xs.length s'.V.cap)).setCell ⟨b28,1,none⟩ (.slice s'.P.a s'.P.xs.length s'.P.cap)).setCell ⟨b28,2,none⟩ (.slice s'.S.a s'.S.xs.length s'.S.cap)).setCell ⟨b28,3,none⟩ (.slice s'.O.a s'.O.xs.length s'.O.cap):=⟨_,rfl⟩
           have hbu:=HB27.out.trans (hb.mono HB27.out.size)
           have hle28:y6.heap.size<=b28:=Nat.le_of_eq HB28.out.symm
           have hbF:Below y6.heap.size y6 WF:=by
            rw [hWF]
            exact (((hbu.setCell (p:=⟨b28,0,none⟩) hle28 _).setCell (p:=⟨b28,1,none⟩) hle28 _).setCell (p:=⟨b28,2,none⟩) hle28 _).setCell (p:=⟨b28,3,none⟩) hle28 _
           have hkF:Hid (WF.heap[b28]? = some (.cells (eSt ((x :: sts).getD (k+1) x)).toArray 31 (0,0))):=qh (by
            rw [HNX.out,hWF]
            exact blk_set (blk_set (blk_set (blk_set k28 0 _) 1 _) 2 _) 3 _)
           have HWF:=qh hWF
           clear k28 k30 hWF hbu hle28 hb hiN
           go_upto_region 63 with (fail)
           first|rw [<-HWF.out]|fail "WF"
           clear HWF s0 s1 s2 s3 f0 f1 f2 f3 r0 r1 r2 r3
           go_wp2_with fail
           first|rw [<-ET.out]|skip
           go_roundw
           case measure=>have:=HKK.out;simp [RowKit.intOf,x7];omega
           case rel=>exact ⟨k+1,HKK.out,by go_num,hbF,hkF⟩
    ·have hke:K=k:=by omega
     subst hke
     have i1:decide (K<K)=false:=decide_eq_false (Nat.lt_irrefl K)
     have hbr:=Y6.out.trans (hb.mono Y6.out.size)
     have hyw:=YY.out.trans (hb.mono YY.out.size)
     have hN12:n.Ns.xs.length<=12:=by rw [<-HN.out];exact HNM.out.1
     have hM12:n.Ls.xs.length<=12:=by rw [<-HM.out];exact HNM.out.2
     have hll:leds.length=sts.length:=by rw [HK.out.2];exact HK.out.1
     have hsu:=basum_ok n leds (.slice aU leds.length cU) wp (rdNet.mono HG.out hbr) HNB.out (IsL.mono ⟨aU,cU,rfl,HTU.out.2.2.1,HTU.out.2.2.2,HU.out⟩ hyw) (fun g hg=>rdInts.mono (HGP.out g hg) hyw) HLS.out (by rw [HK.out.2];exact hK12) hM12 (HCH.out.ledB hll hN12 hM12)
     have hstf:stB n ((x :: sts).getD K x)=true:=HCH.out.stB hll HSB.out K (by rw [HK.out.1];exact Nat.le_refl _)
     have hhe:=HCH.out.held hll K (by rw [HK.out.1];exact Nat.le_refl _)
     have hgf:gSt y4 ((x :: sts).getD K x):=HSTK.out K (Nat.le_refl _)
     obtain ⟨sf,hsf⟩:∃ sf,sf=(x :: sts).getD K x:=⟨_,rfl⟩
     rw [<-hsf] at hstf hhe hgf HK28
     simp only [vNet,vSl] at hsu
     rw [HK.out.2,<-HN.out,<-HM.out] at hsu
     have q0:=cel_lt Q0'.out hb
     have q1:=cel_lt Q1'.out hb
     have hbF:=goneB_bd HLS.out (by rw [HK.out.2];exact hK12) hM12
     rw [<-HM.out,HK.out.2] at hbF
     have HBF:=qh hbF
     have hB1:=heldL_bd HNB.out HSB.out hN12 (Nat.le_refl _)
     have hB2:=heldL_bd HNB.out hstf hN12 (Nat.le_refl _)
     have HHE:Hid (heldL n sf+leftL leds K=heldL n x+cameL leds K):=qh hhe
     have HB12:Hid ((0<=heldL n x/\heldL n x<=27021597764222976)/\0<=heldL n sf/\heldL n sf<=27021597764222976):=qh ⟨hB1,hB2⟩
     have HSTF:=qh hstf
     have HGF:=qh hgf
     have HN12:=qh hN12
     have HYW:=qh hyw
     clear hstf hhe hgf hsf hll hM12 hbF hB1 hB2 hyw hN12 hkK
     go_wp2_with fail
     refine Calls.to hsu ?_
     rintro e v1 ⟨u,rfl,hsr⟩ hb1
     obtain ⟨I,O,aS,mS,cS,E,rfl,hform⟩:=hsr.form
     rw [<-HM.out,HK.out.2] at hform
     have HF:=qh hform
     obtain ⟨v2,hv2⟩:∃ v2,v2=v1.alloc (.cells #[.int .i64 I,.int .i64 O,.slice aS mS cS] 56):=⟨_,rfl⟩
     have hbA:Below v1.heap.size v1 v2:=by rw [hv2];exact alloc_below _ _
     have l0:v2.cell? ⟨v1.heap.size,0,none⟩=some (.int .i64 I):=by rw [hv2];simp [go_sem]
     have l1:v2.cell? ⟨v1.heap.size,1,none⟩=some (.int .i64 O):=by rw [hv2];simp [go_sem]
     have HV2:=qh hv2
     have hb12:Below wp.heap.size wp v2:=hb1.trans (hbA.mono hb1.size)
     have hbr2:=hbr.trans (hb12.mono hbr.size)
     have hyw2:=HYW.out.trans (hb12.mono HYW.out.size)
     have hh1:=held_any n x v2 (rdNet.mono HG.out hbr2) (rdSt.mono HX.out hbr2)
     rw [held_ok HNB.out HSB.out HN12.out] at hh1
     simp only [vNet,vSt,vSl] at hh1
     rw [<-HN.out,<-HM.out] at hh1
     have hh2:=fun V (hV:Below v2.heap.size v2 V)=>held_any n sf V (rdNet.mono HG.out (hbr2.trans (hV.mono hbr2.size))) (rdSt.mono HGF.out (hyw2.trans (hV.mono hyw2.size)))
     rw [held_ok HNB.out HSTF.out HN12.out] at hh2
     simp only [vNet,vSt,vSl] at hh2
     rw [<-HN.out,<-HM.out] at hh2
     have hy62:=hb.trans (hb12.mono hb.size)
     have hk28:=blk_mono HK28.out hb12
     replace q0:=cel_lt q0 hb12
     replace q1:=cel_lt q1 hb12
     have sx:=S0.out
     have s0:=cel_lt sx.1 hyw2
     have s1:=cel_lt sx.2.1 hyw2
     have s2:=cel_lt sx.2.2.1 hyw2
     have s3:=cel_lt sx.2.2.2 hyw2
     have r0:v2.cell? ⟨b28,0,none⟩=some (.slice sf.V.a sf.V.xs.length sf.V.cap):=(tank_blk hk28 0).trans rfl
     have r1:v2.cell? ⟨b28,1,none⟩=some (.slice sf.P.a sf.P.xs.length sf.P.cap):=(tank_blk hk28 1).trans rfl
     have r2:v2.cell? ⟨b28,2,none⟩=some (.slice sf.S.a sf.S.xs.length sf.S.cap):=(tank_blk hk28 2).trans rfl
     have r3:v2.cell? ⟨b28,3,none⟩=some (.slice sf.O.a sf.O.xs.length sf.O.cap):=(tank_blk hk28 3).trans rfl
     obtain ⟨HX1,hHX1⟩:∃ h,h=heldL n x:=⟨_,rfl⟩
     obtain ⟨HS1,hHS1⟩:∃ h,h=heldL n sf:=⟨_,rfl⟩
     rw [<-hHX1] at hh1 HHE HB12
     rw [<-hHS1] at hh2 HHE HB12
     obtain ⟨b48,hb48⟩:∃ b,b=v1.heap.size:=⟨_,rfl⟩
     rw [<-hb48] at l0 l1
     have HH2:=qh hh2
     clear hsu hsr hform hv2 hbA hb1 sx hk28 hHX1 hHS1 hh2 i1
     go_upto_region 65 with (fail)
     rw [<-hb48]
     first|rw [<-HV2.out]|fail "v2"
     clear HV2 hb48
     go_wp2_with fail
     refine Calls.to hh1 ?_
     rintro e v3 rfl hb3
     have hh2:=HH2.out v3 hb3
     replace q0:=cel_lt q0 hb3
     replace q1:=cel_lt q1 hb3
     replace l0:=cel_lt l0 hb3
     replace l1:=cel_lt l1 hb3
     replace r0:=cel_lt r0 hb3
     replace r1:=cel_lt r1 hb3
     replace r2:=cel_lt r2 hb3
     replace r3:=cel_lt r3 hb3
     clear hh1 HH2 s0 s1 s2 s3
     go_wp2_with fail
     refine Calls.to hh2 ?_
     rintro e v4 rfl hb4
     have hb24:=hb3.trans (hb4.mono hb3.size)
     have hbr4:=hbr2.trans (hb24.mono hbr2.size)
     have hyw4:=hyw2.trans (hb24.mono hyw2.size)
     replace l0:=cel_lt l0 hb4
     replace l1:=cel_lt l1 hb4
     have hmm:=@run_makeMap Tryz.prog
     obtain ⟨v5,hv5⟩:∃ v5,v5=v4.alloc (.map #[] 0):=⟨_,rfl⟩
     obtain ⟨bm,hbm⟩:∃ b,b=v4.heap.size:=⟨_,rfl⟩
     have hMP:Hid (MapP v5 bm leds M 0 0):=qh (by rw [hv5,hbm];exact MapP.made v4 leds M)
     have hbB:Below v4.heap.size v4 v5:=by rw [hv5];exact alloc_below _ _
     have HV5:=qh hv5
     have L0:=qh l0
     have L1:=qh l1
     have HBR4:=qh hbr4
     have HYW4:=qh hyw4
     have HBM:=qh hbm
     clear hh2 hb3 hb4 hb24 q0 q1 r0 r1 r2 r3 l0 l1 hv5 hbr2 hyw2 hy62 hb12 hbr4 hyw4 hbr hb HK28
     go_upto_region 69 with (fail)
     first|rw [<-HV5.out]|fail "v5"
     rw [<-hbm]
     clear hbm hmm HV5
     go_loopw [52,53,54,364] (fun s52 s53 s54 s364 wr=>∃ k:Nat,k<=K/\s364=.int .i64 k/\s52=.int .i64 (cameL leds k)/\s53=.int .i64 (leftL leds k)/\s54=.bool (bigK leds M k)/\Hid (MapP wr bm leds M k 0)/\Below v4.heap.size v4 wr) (fun _ _ _ s364 _=>K-(RowKit.intOf s364).toNat)
     case atStart=>exact ⟨0,Nat.zero_le _,rfl,rfl,rfl,rfl,hMP,hbB⟩
     clear hMP hbB
     case round=>
      as_aux_lemma=>
      obtain ⟨k,hk,rfl,rfl,rfl,rfl,HMP,hb⟩:=hrel
      obtain ⟨wo2,hwo2⟩:∃ wo2,wo2=wr:=⟨_,rfl⟩
      subst hwo2
      by_cases hkK:k<K
      ·have hkl:k<leds.length:=by rw [HK.out.2];exact hkK
       have hyx:=HYW4.out.trans (hb.mono HYW4.out.size)
       obtain ⟨bU,oU,ea,d0,d1,d2⟩:=(HU.out.mono hyx).led k hkl
       obtain ⟨g,hgx⟩:∃ g,g=leds[k]'hkl:=⟨_,rfl⟩
       have hgm:g∈leds:=by rw [hgx];exact List.getElem_mem hkl
       have hga:g=ledAt leds k:=by rw [ledAt_at hkl,hgx]
       rw [<-hgx] at d0 d1 d2
       have hgP:=HGP.out g hgm
       have hgl:g.P.xs.length=M:=by rw [HM.out];exact HLS.out.pl g hgm
       obtain ⟨w3,hw3⟩:∃ w3,w3=wo2.alloc (.cells (eLed g).toArray 56):=⟨_,rfl⟩
       have hbA:Below wo2.heap.size wo2 w3:=by rw [hw3];exact alloc_below _ _
       obtain ⟨k0,k1,k2⟩:=boxLed wo2 w3 56 g _ rfl _ rfl (by rw [hw3];exact qr)
       rw [hgl] at d2 k2
       have HW3:Hid (w3=wo2.alloc (.cells #[.int .i64 g.I,.int .i64 g.O,.slice g.P.a M g.P.cap] 56)):=qh (by rw [hw3,<-hgl])
       have hb3:=hb.trans (hbA.mono hb.size)
       have HM3:=qh (HMP.out.below hbA)
       have bC:=HBF.out (k+1) om
       have ec:=cameL_succ leds k
       have el:=leftL_succ leds k
       rw [<-hga] at ec el
       obtain ⟨I1,hI⟩:∃ I,I=cameL leds k:=⟨_,rfl⟩
       obtain ⟨O1,hO⟩:∃ O,O=leftL leds k:=⟨_,rfl⟩
       rw [<-hI] at ec
       rw [<-hO] at el
       rw [<-hI,<-hO]
       have t1:IntKind.i64.wrap (I1+g.I)=I1+g.I:=IntWalk.i64_in _ om
       have t2:IntKind.i64.wrap (O1+g.O)=O1+g.O:=IntWalk.i64_in _ om
       have HEC:=qh (And.intro ec el)
       have i1:decide (k<K)=true:=decide_eq_true hkK
       have x7:IntKind.i64.wrap ((k:Int)+1)=k+1:=IntWalk.i64_in _ om
       have i4:(0:Int)<=k:=by omega
       have i5:(k:Int)<K:=by omega
       have EA:=qh ea
       have HKK:=qh hkK
       have HGPP:=qh hgP
       have HGL:=qh hgl
       have HGA:=qh hga
       clear hgx hgm hga hgP hgl hw3 hbA hI hO ec el bC hkK hkl HMP hyx hb
       go_upto_region 71 with (fail)
       first|rw [<-HW3.out]|fail "w3"
       clear d0 d1 d2 HW3
       refine wp_region_more_lit (by kernel_rfl) (by kernel_rfl) ?_
       repeat (go_big_quiet_step (fail))
       refine wpQuiet_nil ?_
       intro _ hwq
       obtain ⟨xq,hwq⟩:=hwq
       subst hwq
       have hbx:=below_more w3 xq
       have hb4:=hb3.trans (hbx.mono hb3.size)
       have HM4:=qh (HM3.out.below hbx)
       replace k2:=cel_lt k2 hbx
       generalize more w3 xq=w4 at *
       clear k0 k1 hb3 HM3 hbx t1 t2
       go_upto_region 73 with (fail)
       clear k2 ea
       first|rw [<-EA.out]|skip
       obtain ⟨fk,hfk⟩:∃ f,f=bigK leds M k:=⟨_,rfl⟩
       have HFK:=qh hfk
       rw [<-hfk]
       clear hfk
       go_loopw [54,379] (fun s54 s379 wr=>∃ i:Nat,i<=M/\s379=.int .i64 i/\s54=.bool (fk||bigI leds k i)/\Hid (MapP wr bm leds M k i)/\Below v4.heap.size v4 wr) (fun _ s379 _=>M-(RowKit.intOf s379).toNat)
       case atStart=>exact ⟨0,Nat.zero_le _,rfl,by simp [bigI],HM4,hb4⟩
       clear HM4 hb4
       case round=>
        as_aux_lemma=>
        obtain ⟨i,hi,rfl,rfl,HMP,hb⟩:=hrel
        obtain ⟨wx,hwx⟩:∃ wx,wx=wr:=⟨_,rfl⟩
        subst hwx
        by_cases hiM:i<M
        ·have hip:i<g.P.xs.length:=by rw [HGL.out];exact hiM
         have hyx:=HYW4.out.trans (hb.mono HYW4.out.size)
         obtain ⟨bp,op,ep,v0⟩:=((rdInts.mono HGPP.out hyx).2.2.1).int i hip
         rw [show g.P.xs[i]'hip=g.P.xs.getD i 0 from by simp [List.getD,hip]] at v0
         have hpl:=passL_succ leds i k
         rw [<-HGA.out] at hpl
         have bp1:=(HBF.out (k+1) (by have:=HKK.out;omega)).2.2 i hiM
         have bp0:=(HBF.out k (by have:=HKK.out;omega)).2.2 i hiM
         have hlk:=HMP.out.look hiM HNM.out.2
         rw [if_neg (Nat.lt_irrefl i)] at hlk
         obtain ⟨p,hp⟩:∃ p,p=g.P.xs.getD i 0:=⟨_,rfl⟩
         obtain ⟨P,hP⟩:∃ P,P=passL leds i k:=⟨_,rfl⟩
         rw [<-hp] at v0 hpl
         rw [<-hP] at hpl hlk bp0
         have t1:IntKind.i64.wrap (P+p)=P+p:=IntWalk.i64_in _ om
         obtain ⟨w7,hup,hM7,hg7⟩:=HMP.out.upd hiM HNM.out.2 (by have:=HKK.out;omega) hpl.symm om
         have hlk2:=hM7.look hiM HNM.out.2
         rw [if_pos (Nat.lt_succ_self i),hpl] at hlk2
         have hbs:=bigI_succ leds k i
         rw [hpl] at hbs
         have hb7:Below v4.heap.size v4 w7:=hb.grown hg7 hb.size (fun q hq=>by cases hq;exact Nat.le_of_eq HBM.out.symm)
         have HM7:=qh hM7
         have i1:decide (i<M)=true:=decide_eq_true hiM
         have x8:IntKind.i64.wrap ((i:Int)+1)=i+1:=IntWalk.i64_in _ (by have:=HNM.out;omega)
         have j4:(0:Int)<=i:=by omega
         have j5:(i:Int)<M:=by omega
         have EP:=qh ep
         have HIM:=qh hiM
         obtain ⟨fi,hfi⟩:∃ f,f=(fk||bigI leds k i):=⟨_,rfl⟩
         obtain ⟨fb,hfb⟩:∃ f,decide (9007199254740992<P+p)=f:=⟨_,rfl⟩
         have HBS:Hid ((fk||bigI leds k (i+1))=(fi||fb)):=qh (by rw [hbs,hfi,hfb,Bool.or_assoc])
         rw [<-hfi]
         clear hip hyx hpl bp1 bp0 hp hP hiM hM7 hg7 hb HMP hbs hfi
         go_upto_region 76 with (fail)
         clear v0 t1 hup hlk
         cases fi
         ·cases fb
          ·go_wp2_with fail
           clear ep
           first|rw [<-EP.out]|skip
           go_roundw
           case measure=>have:=HIM.out;simp [RowKit.intOf,x8];omega
           case rel=>exact ⟨i+1,HIM.out,by go_num,by rw [HBS.out];rfl,HM7,hb7⟩
          ·go_wp2_with fail
           clear ep
           first|rw [<-EP.out]|skip
           go_roundw
           case measure=>have:=HIM.out;simp [RowKit.intOf,x8];omega
           case rel=>exact ⟨i+1,HIM.out,by go_num,by rw [HBS.out];rfl,HM7,hb7⟩
         ·go_wp2_with fail
          clear ep
          first|rw [<-EP.out]|skip
          go_roundw
          case measure=>have:=HIM.out;simp [RowKit.intOf,x8];omega
          case rel=>exact ⟨i+1,HIM.out,by go_num,by rw [HBS.out];rfl,HM7,hb7⟩
        ·have hie:M=i:=by omega
         subst hie
         have i1:decide (M<M)=false:=decide_eq_false (Nat.lt_irrefl M)
         have hBK:Hid (bigK leds M (k+1)=(fk||bigI leds k M)):=qh (by rw [bigK_succ,HFK.out])
         have HM8:Hid (MapP wx bm leds M (k+1) 0):=qh (HMP.out.over HNM.out.2)
         clear HMP hiM
         go_wp2_with fail
         first|rw [<-EA.out]|skip
         go_roundw
         case measure=>have:=HKK.out;simp [RowKit.intOf,x7];omega
         case rel=>exact ⟨k+1,HKK.out,by go_num,by rw [HEC.out.1],by rw [HEC.out.2],by rw [hBK.out],HM8,hb⟩
      ·have hke:K=k:=by omega
       subst hke
       have i1:decide (K<K)=false:=decide_eq_false (Nat.lt_irrefl K)
       have l0:=cel_lt L0.out hb
       have l1:=cel_lt L1.out hb
       have hbf:=HBR4.out.trans (hb.mono HBR4.out.size)
       have bC:=HBF.out K (Nat.le_refl _)
       have bH:=HB12.out
       have hhe:=HHE.out
       have hform:=HF.out
       obtain ⟨CC,hCC⟩:∃ c,c=cameL leds K:=⟨_,rfl⟩
       obtain ⟨CO,hCO⟩:∃ c,c=leftL leds K:=⟨_,rfl⟩
       rw [<-hCC] at bC hhe hform ⊢
       rw [<-hCO] at bC hhe hform ⊢
       have t1:IntKind.i64.wrap (HS1+CO)=HS1+CO:=IntWalk.i64_in _ om
       have t2:IntKind.i64.wrap (HX1+CC)=HS1+CO:=by rw [<-hhe];exact t1
       have zE:(HS1+CO != HS1+CO)=false:=by simp
       have z0:((0:Int) != 0)=false:=rfl
       clear hCC hCO bC bH hhe hb hkK HMP
       rcases hform with ⟨hB,rfl⟩|⟨hB,rfl,rfl,rfl⟩
       ·rw [hB]
        clear hB
        go_wp2_with fail
        go_ret
        exact ⟨rfl,hbf⟩
       ·rw [hB]
        clear hB
        have zI:(I==I)=true:=by simp
        have zO:(O==O)=true:=by simp
        go_wp2_with fail
        go_ret
        exact ⟨rfl,hbf⟩
end Go.Proofs.YtoiakijmbghhlaaGreat
