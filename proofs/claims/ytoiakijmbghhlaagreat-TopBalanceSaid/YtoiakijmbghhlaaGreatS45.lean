/- balance.Part at what a step hands back: zero. Conditions: the arguments read as data and come of a step; the names are nodes, and differ. | balance.Cut between two sets of nodes. Conditions: the network is right; the lists name nodes. -/
import Derived.Test.YtoiakijmbghhlaaGreatS44
import Derived.Test.YtoiakijmbghhlaaGreatS33
import Derived.Test.YtoiakijmbghhlaaGreatS40
import Derived.Test.YtoiakijmbghhlaaGreatS39
import Derived.Test.YtoiakijmbghhlaaGreatS16
set_option linter.unusedVariables false
set_option linter.unusedSimpArgs false
set_option maxRecDepth 100000
set_option maxHeartbeats 32000000
namespace Go.Proofs.YtoiakijmbghhlaaGreat
open Go.RowKit Go.Maps
theorem part_zero {n:Net} {x y:St} {q:List Int} {g:Led} (h:CStep n x q y g) (ins:Nat->Bool) :
  accR n ins x y q n.Ns.xs.length+sg (linkF n ins g.P.xs) n.Ls.xs.length-(accL n ins q n.Ns.xs.length+sg (lostP n ins g.P.xs) n.Ls.xs.length)=0:=by
 have a:accR n ins x y q n.Ns.xs.length+sg (linkF n ins g.P.xs) n.Ls.xs.length=accL n ins q n.Ns.xs.length+sg (lostP n ins g.P.xs) n.Ls.xs.length:=h.dif ins
 omega
theorem Own.boolB {w:World} {base g N:Nat} {e:TypeId} {bs:List Bool} (h:Own base e eBool 1 w (.slice (some ⟨g,0,none⟩) N N) bs) {j:Nat} (hj:j<bs.length):w.cell? ⟨g,j,none⟩=some (.bool (bs.getD j false)):=by
 have:=Own.cellAt' (k:=1) (enc:=eBool) (fun _=>rfl) h j 0 hj Nat.zero_lt_one
 simpa [List.getD,hj] using this
theorem getD_setB (bs:List Bool) (k j:Nat) (y:Bool) (h:k<bs.length):(bs.set k y).getD j false=if j=k then y else bs.getD j false:=by
 simp only [List.getD,List.getElem?_set]
 by_cases hj:j=k
 ·subst hj;simp [h]
 ·rw [if_neg hj,if_neg (fun e=>hj e.symm)]
theorem bapart_ok (n:Net) (x y:St) (q:List Int) (vq:Value) (g:Led) (L:List ByteArray) (vL:Value) (w:World) (hg:gNet w n) (hx:gSt w x) (hy:gSt w y) (hq:IsInts w vq q) (hp:gInts w g.P) (hc:CStep n x q y g) (hN:n.Ns.xs.length<=12) (hL:n.Ls.xs.length<=12) (hT:IsTxs w vL L) (hTk:∀ z∈L,∃ j,j<n.Ns.xs.length/\findNd n.Ns.xs z=(j:Int)) (hTn:L.Nodup) :
  Calls Tryz.prog 13 #[vNet n,vL,vSt x,vSt y,vq,vLed g] w fun e w'=>e=.returned (.tuple #[.int .i64 0,.int .i64 0])/\Below w.heap.size w w':=by
 obtain ⟨LB,hLL⟩:∃ L:List (Array Value×TypeId),L = [((eNet n).toArray,25),((eSt x).toArray,31),((eSt y).toArray,31),((eLed g).toArray,56)]:=⟨_,rfl⟩
 obtain ⟨W,hW⟩:∃ W,W=allocs w LB:=⟨_,rfl⟩
 have hbw:Below w.heap.size w W:=by rw [hW];exact allocs_below _ _
 have t0:W.heap[w.heap.size]? = some (.cells (eNet n).toArray 25 (0,0)):=by rw [hW,hLL];exact allocs_at _ w 0 (by simp)
 have t1:W.heap[w.heap.size+1]? = some (.cells (eSt x).toArray 31 (0,0)):=by rw [hW,hLL];exact allocs_at _ w 1 (by simp)
 have t2:W.heap[w.heap.size+2]? = some (.cells (eSt y).toArray 31 (0,0)):=by rw [hW,hLL];exact allocs_at _ w 2 (by simp)
 have t3:W.heap[w.heap.size+3]? = some (.cells (eLed g).toArray 56 (0,0)):=by rw [hW,hLL];exact allocs_at _ w 3 (by simp)
 have HW:Hid (W=(((w.alloc (.cells (eNet n).toArray 25)).alloc (.cells (eSt x).toArray 31)).alloc (.cells (eSt y).toArray 31)).alloc (.cells (eLed g).toArray 56)):=qh (by rw [hW,hLL];rfl)
 have hsz:w.heap.size+3<W.heap.size:=(Array.getElem?_eq_some_iff.1 t3).1
 obtain ⟨aq,cq,rfl,hq1,hq2,hq3⟩:=hq
 obtain ⟨aL,cL,rfl,hL1,hL2,hL3⟩:=hT
 have HT:=qh hL3
 have HTK:=qh hTk
 have HTN:=qh hTn
 obtain ⟨nl,hnl⟩:∃ nl,nl=L.length:=⟨_,rfl⟩
 have HNLL:=qh hnl
 have hnlb:nl<=9223372036854775807:=by omega
 have HG:=qh hg
 have HX:=qh hx
 have HY:=qh hy
 have HQ:Hid (IsInts w (.slice aq q.length cq) q):=qh ⟨aq,cq,rfl,hq1,hq2,hq3⟩
 have HP:=qh hp
 have HC:=qh hc
 have HNL:=qh (And.intro hN hL)
 obtain ⟨N,hNN⟩:∃ N,N=n.Ns.xs.length:=⟨_,rfl⟩
 have HNN:=qh hNN
 have q0:W.cell? ⟨w.heap.size,0,none⟩=some (.slice n.Ns.a n.Ns.xs.length n.Ns.cap):=(tank_blk t0 0).trans rfl
 have q1:W.cell? ⟨w.heap.size,1,none⟩=some (.slice n.Ls.a n.Ls.xs.length n.Ls.cap):=(tank_blk t0 1).trans rfl
 have s0:W.cell? ⟨w.heap.size+1,0,none⟩=some (.slice x.V.a x.V.xs.length x.V.cap):=(tank_blk t1 0).trans rfl
 have s1:W.cell? ⟨w.heap.size+1,1,none⟩=some (.slice x.P.a x.P.xs.length x.P.cap):=(tank_blk t1 1).trans rfl
 have s2:W.cell? ⟨w.heap.size+1,2,none⟩=some (.slice x.S.a x.S.xs.length x.S.cap):=(tank_blk t1 2).trans rfl
 have s3:W.cell? ⟨w.heap.size+1,3,none⟩=some (.slice x.O.a x.O.xs.length x.O.cap):=(tank_blk t1 3).trans rfl
 have r0:W.cell? ⟨w.heap.size+2,0,none⟩=some (.slice y.V.a y.V.xs.length y.V.cap):=(tank_blk t2 0).trans rfl
 have r1:W.cell? ⟨w.heap.size+2,1,none⟩=some (.slice y.P.a y.P.xs.length y.P.cap):=(tank_blk t2 1).trans rfl
 have r2:W.cell? ⟨w.heap.size+2,2,none⟩=some (.slice y.S.a y.S.xs.length y.S.cap):=(tank_blk t2 2).trans rfl
 have r3:W.cell? ⟨w.heap.size+2,3,none⟩=some (.slice y.O.a y.O.xs.length y.O.cap):=(tank_blk t2 3).trans rfl
 have g0:W.cell? ⟨w.heap.size+3,0,none⟩=some (.int .i64 g.I):=(tank_blk t3 0).trans rfl
 have g1:W.cell? ⟨w.heap.size+3,1,none⟩=some (.int .i64 g.O):=(tank_blk t3 1).trans rfl
 have g2:W.cell? ⟨w.heap.size+3,2,none⟩=some (.slice g.P.a g.P.xs.length g.P.cap):=(tank_blk t3 2).trans rfl
 rw [<-hnl]
 clear hL1 hL2 hL3 hTk hTn hnl
 clear hW hLL t0 t1 t2 t3 hg hx hy hp hc hN hL hq1 hq2 hq3 hNN
 simp only [vNet,vSt,vLed,vSl]
 go_enter Tryz.func13,Tryz.ntmps13
 go_upto_region 1 with (fail)
 simp only [Nat.add_assoc,Nat.reduceAdd]
 rw [<-HW.out]
 clear HW
 have k1:=bagiven_ok n x y q _ g W (rdNet.mono HG.out hbw) (rdSt.mono HX.out hbw) (rdSt.mono HY.out hbw) (HQ.out.mono hbw) (rdInts.mono HP.out hbw) HC.out HNL.out.1 HNL.out.2
 simp only [vNet,vSt,vLed,vSl] at k1
 go_wp2_with fail
 refine Calls.to k1 ?_
 rintro e w1 rfl hb1
 replace q0:=cel_lt q0 hb1
 replace q1:=cel_lt q1 hb1
 replace s0:=cel_lt s0 hb1
 replace s1:=cel_lt s1 hb1
 replace s2:=cel_lt s2 hb1
 replace s3:=cel_lt s3 hb1
 replace r0:=cel_lt r0 hb1
 replace r1:=cel_lt r1 hb1
 replace r2:=cel_lt r2 hb1
 replace r3:=cel_lt r3 hb1
 replace g0:=cel_lt g0 hb1
 replace g1:=cel_lt g1 hb1
 replace g2:=cel_lt g2 hb1
 have hb0:=hbw.trans (hb1.mono hbw.size)
 have HSZ:Hid (w.heap.size+4<=w1.heap.size):=qh (by have:=hb1.size;omega)
 clear k1 hb1 hbw hsz
 have hll:n.Ns.xs.length<2147483648:=by have:=HNL.out.1;omega
 go_upto_region 5 with (refine wpList_mk _ rfl _ _ 29 rfl w1.heap.size 4 _ 1 undBools infBool eBool false rfl rfl _ _ n.Ns.xs.length rfl rfl rfl rfl hll om (Nat.le_refl _) ?_;intro w2 hown hb2 hlt2)
 have HO:=qh hown
 have HBS:Hid ((List.replicate n.Ns.xs.length false).length=n.Ns.xs.length/\∀ j,j<n.Ns.xs.length->(List.replicate n.Ns.xs.length false).getD j false=hasT (L.take 0) (ndK n j).Name):=qh ⟨by simp,fun j hj=>by simp [List.getD,hj,hasT]⟩
 obtain ⟨r,hr⟩:∃ r,r=w1.heap.size:=⟨_,rfl⟩
 have HR:=qh hr
 have Q0:=qh q0
 have Q1:=qh q1
 have HB0:=qh hb0
 rw [<-hr] at HO hlt2 ⊢
 clear hown q0 q1 hb0 hr hll hlt2
 go_upto_region 7 with (fail)
 go_loopw [16,36] (fun s16 s36 wr=>∃ (k:Nat) (bs:List Bool),k<=nl/\s16=.bool false/\s36=.int .i64 k/\Below w1.heap.size w1 wr/\Hid (Own w1.heap.size 4 eBool 1 wr (.slice (some ⟨r,0,none⟩) n.Ns.xs.length n.Ns.xs.length) bs)/\Hid (bs.length=n.Ns.xs.length/\∀ j,j<n.Ns.xs.length->bs.getD j false=hasT (L.take k) (ndK n j).Name)) (fun _ s36 _=>nl-(RowKit.intOf s36).toNat)
 case atStart=>exact ⟨0,_,Nat.zero_le _,rfl,rfl,hb2,by rw [HR.out];rw [HR.out] at HO;exact HO,HBS⟩
 clear HBS HO hb2
 case round=>
  obtain ⟨k,bs,hk,rfl,rfl,hb,HO,HM⟩:=hrel
  obtain ⟨wo,hwo⟩:∃ wo,wo=wr:=⟨_,rfl⟩
  subst hwo
  have hbr:=HB0.out.trans (hb.mono HB0.out.size)
  by_cases hkn:k<nl
  ·have hkL:k<L.length:=by rw [<-HNLL.out];exact hkn
   obtain ⟨bz,oz,ea,d0⟩:=(HT.out.mono hbr).tx k hkL
   obtain ⟨j,hjN,hjf⟩:=HTK.out _ (List.getElem_mem hkL)
   have htw:=nodup_take HTN.out hkL
   have HSU:Hid (∀ z,hasT (L.take (k+1)) z=(hasT (L.take k) z||strB z L[k])):=qh (fun z=>hasT_succ L hkL z)
   obtain ⟨z,hz⟩:∃ z,z=L[k]'hkL:=⟨_,rfl⟩
   rw [<-hz] at d0 hjf htw HSU
   have hzn:z=(ndK n j).Name:=by
    obtain ⟨h1,h2⟩:=name_of hjf
    rw [ndK_at h1];exact h2.symm
   have hnd:=fun W (hW:Below wo.heap.size wo W)=>nodeX_any n z W (rdNet.mono HG.out (hbr.trans (hW.mono hbr.size))) HC.out.net
   rw [show nodeX n z=((j:Int),0) from by unfold nodeX;rw [hjf,if_neg om]] at hnd
   simp only [vNet,vSl] at hnd
   have q0:=cel_lt Q0.out hb
   have q1:=cel_lt Q1.out hb
   have hjb:j<bs.length:=by rw [HM.out.1];exact hjN
   have hdj:bs.getD j false=false:=by rw [HM.out.2 j hjN,<-hzn];exact htw
   have i1:decide (k<nl)=true:=decide_eq_true hkn
   have x7:IntKind.i64.wrap ((k:Int)+1)=k+1:=IntWalk.i64_in _ om
   have i4:(0:Int)<=k:=by omega
   have i5:(k:Int)<nl:=by omega
   have EA:=qh ea
   have HKN:=qh hkn
   have HJN:=qh hjN
   have HJB:=qh hjb
   have HDJ:=qh hdj
   have HZN:=qh hzn
   clear hz hkL hkn hjN hjf htw hzn hjb hdj
   go_upto_region 9 with (fail)
   clear d0
   have hnd:=hnd wo qr
   go_wp2_with fail
   refine Calls.to hnd ?_
   rintro e w3 rfl hb3
   have hO3:=HO.out.below hb3
   have hb4:=hb.trans (hb3.mono hb.size)
   have dj:=hO3.boolB HJB.out
   rw [HDJ.out] at dj
   have fj:=hO3.free j
   have j4:(0:Int)<=j:=by omega
   have j5:(j:Int)<n.Ns.xs.length:=by have:=HJN.out;omega
   have hst:=Own.store (enc:=eBool) (fun _=>rfl) hO3 j 0 HJB.out (by simp) (.bool true) true rfl
   rw [Nat.mul_one,Nat.add_zero] at hst
   have HO5:=qh hst
   have hb5:=hb4.setCell (p:=⟨r,j,none⟩) (by rw [HR.out];exact Nat.le_refl _) (.bool true)
   have HM5:Hid ((bs.set j true).length=n.Ns.xs.length/\∀ i,i<n.Ns.xs.length->(bs.set j true).getD i false=hasT (L.take (k+1)) (ndK n i).Name):=qh ⟨by rw [List.length_set];exact HM.out.1,fun i hi=>by
    rw [getD_setB bs j i true HJB.out,HSU.out,HZN.out]
    by_cases e:i=j
    ·subst e
     rw [if_pos rfl]
     simp [strB]
    ·rw [if_neg e,HM.out.2 i hi]
     have:strB (ndK n i).Name (ndK n j).Name=false:=by
      cases h:strB (ndK n i).Name (ndK n j).Name with
      | false=>rfl
      | true=>exact absurd (nd_inj HC.out.net hi HJN.out (strB_eq.1 h)) e
     rw [this,Bool.or_false]⟩
   have z0:((0:Int) != 0)=false:=rfl
   clear hnd hb3 hst hO3 q0 q1 HO hb4 hb hbr
   go_wp2_with fail
   clear ea
   first|rw [<-EA.out]|skip
   go_roundw
   case measure=>have:=HKN.out;simp [RowKit.intOf,x7];omega
   case rel=>exact ⟨k+1,bs.set j true,HKN.out,rfl,by go_num,hb5,HO5,HM5⟩
  ·have hke:nl=k:=by omega
   subst hke
   have i1:decide (nl<nl)=false:=decide_eq_false (Nat.lt_irrefl nl)
   have hIs:IsBools wo (.slice (some ⟨r,0,none⟩) n.Ns.xs.length n.Ns.xs.length) bs:=HO.out.isL (fun _=>rfl)
   have hof:=baof_any n bs _ x y q _ g.P.xs _ wo (rdNet.mono HG.out hbr) hIs (rdSt.mono HX.out hbr) (rdSt.mono HY.out hbr) (HQ.out.mono hbr) (rdInts.mono HP.out hbr).isL HC.out.acc HM.out.1
   rw [part_zero HC.out] at hof
   generalize accL n (fun i=>bs.getD i false) q n.Ns.xs.length+sg (lostP n (fun i=>bs.getD i false) g.P.xs) n.Ls.xs.length=lo at hof
   simp only [vNet,vSt,vSl] at hof
   have q0:=cel_lt Q0.out hb
   have q1:=cel_lt Q1.out hb
   replace s0:=cel_lt s0 hb
   replace s1:=cel_lt s1 hb
   replace s2:=cel_lt s2 hb
   replace s3:=cel_lt s3 hb
   replace r0:=cel_lt r0 hb
   replace r1:=cel_lt r1 hb
   replace r2:=cel_lt r2 hb
   replace r3:=cel_lt r3 hb
   replace g2:=cel_lt g2 hb
   clear g0 g1 hIs HO hkn
   have hfd:∀ (a b:Int) (w:World),(Instr.field 132 (.agg #[.int .i64 a,.int .i64 b]) 0).run Tryz.prog w=.ok (.int .i64 a) w:=fun _ _ _=>by kernel_rfl
   go_wp2_with fail
   refine Calls.to hof ?_
   rintro e w3 rfl hb3
   have hb4:=hbr.trans (hb3.mono hbr.size)
   clear hof hb3 hb hbr
   go_wp2_with fail
   go_ret2
   exact ⟨rfl,hb4⟩
theorem bacut_ok (n:Net) (F T:List ByteArray) (vF vT:Value) (c d:Nat->Bool) (w:World) (hg:gNet w n) (hn:netB n=true) (hF:IsTxs w vF F) (hT:IsTxs w vT T) (hlen:F.length+T.length<=1000000)
  (hk:∀ z∈F ++ T,∃ j,j<n.Ns.xs.length/\findNd n.Ns.xs z=(j:Int)) (hc:∀ k,k<n.Ls.xs.length->hasT F (lkK n k).From=c (frmN n k)) (hd:∀ k,k<n.Ls.xs.length->hasT T (lkK n k).To=d (toN n k)) :
  Calls Tryz.prog 10 #[vNet n,vF,vT] w fun e w'=>(∃ v,e=.returned (.tuple #[v,.int .i64 0])/\Own w.heap.size 9 eTx 1 w' v (ckL n c d n.Ls.xs.length))/\Below w.heap.size w w':=by
 obtain ⟨W,hW⟩:∃ W,W=allocs w [((eNet n).toArray,25)]:=⟨_,rfl⟩
 have hbw:Below w.heap.size w W:=by rw [hW];exact allocs_below _ _
 have t0:W.heap[w.heap.size]? = some (.cells (eNet n).toArray 25 (0,0)):=by rw [hW];exact allocs_at _ w 0 (by simp)
 have HW:Hid (W=w.alloc (.cells (eNet n).toArray 25)):=qh hW
 obtain ⟨M,hM⟩:∃ M,M=n.Ls.xs.length:=⟨_,rfl⟩
 have HM:=qh hM
 have q0:W.cell? ⟨w.heap.size,0,none⟩=some (.slice n.Ns.a n.Ns.xs.length n.Ns.cap):=(tank_blk t0 0).trans rfl
 have q1:W.cell? ⟨w.heap.size,1,none⟩=some (.slice n.Ls.a M n.Ls.cap):=by rw [hM];exact (tank_blk t0 1).trans rfl
 have HG:=qh (rdNet.mono hg hbw)
 have HNB:=qh hn
 obtain ⟨aF,cF,rfl,hF1,hF2,hF3⟩:=hF
 obtain ⟨aT,cT,rfl,hT1,hT2,hT3⟩:=hT
 have HF:Hid (IsTxs W (.slice aF F.length cF) F):=qh (IsL.mono ⟨aF,cF,rfl,hF1,hF2,hF3⟩ hbw)
 have HT:Hid (IsTxs W (.slice aT T.length cT) T):=qh (IsL.mono ⟨aT,cT,rfl,hT1,hT2,hT3⟩ hbw)
 have HK:=qh hk
 have HC:=qh hc
 have HD:=qh hd
 have HLEN:=qh hlen
 have hM3:M<=400:=by rw [hM];exact (netB_size hn).2
 have hva:=fun V hV=>nvalid_any n V (rdNet.mono HG.out hV)
 rw [hn] at hva
 obtain ⟨nl,hnl⟩:∃ nl,nl=(F ++ T).length:=⟨_,rfl⟩
 have hnlb:nl<=1000000:=by rw [hnl,List.length_append];exact hlen
 have HNL:=qh hnl
 simp only [vNet,vSl] at hva ⊢
 rw [<-hM] at hva ⊢
 clear hW t0 hg hn hF1 hF2 hF3 hT1 hT2 hT3 hk hc hd hlen hM hnl
 go_enter Tryz.func10,Tryz.ntmps10
 go_upto_region 1 with (fail)
 first|rw [HM.out,<-HW.out,<-HM.out]|rw [<-HW.out]
 clear HW
 go_wp2_with fail
 refine Calls.to (hva W qr) ?_
 rintro e w1 rfl hb1
 replace q0:=cel_lt q0 hb1
 replace q1:=cel_lt q1 hb1
 clear hva
 obtain ⟨w2,hw2⟩:∃ w2,w2=w1.alloc (.cells #[.slice aF F.length cF,.slice aT T.length cT] 42):=⟨_,rfl⟩
 have hb2:Below w1.heap.size w1 w2:=by rw [hw2];exact alloc_below _ _
 have hb12:=hb1.trans (hb2.mono hb1.size)
 have f0:w2.cell? ⟨w1.heap.size,0,none⟩=some (.slice aF F.length cF):=by rw [hw2];simp [go_sem]
 have f1:w2.cell? ⟨w1.heap.size,1,none⟩=some (.slice aT T.length cT):=by rw [hw2];simp [go_sem]
 have hco:=concatT_any F T _ _ w1.heap.size w2 (IsL.mono HF.out hb12) (IsL.mono HT.out hb12) f0 f1 HLEN.out
 replace q0:=cel_lt q0 hb2
 replace q1:=cel_lt q1 hb2
 have HW2:=qh hw2
 clear hw2 f0 f1 hb1 hb2
 go_wp2_with fail
 first|rw [<-HW2.out]|fail "w2"
 refine Calls.to hco ?_
 rintro e w3 ⟨v3,rfl,hO3⟩ hb3
 obtain ⟨aL,cL,rfl⟩:=hO3.isSlice
 rw [<-HNL.out]
 have hb13:=hb12.trans (hb3.mono hb12.size)
 replace q0:=cel_lt q0 hb3
 replace q1:=cel_lt q1 hb3
 obtain ⟨_,_,he3,-,-,hL3⟩:=hO3.isL (enc:=eTx) (fun _=>rfl)
 simp only [Value.slice.injEq] at he3
 obtain ⟨rfl,-,rfl⟩:=he3
 have HL3:=qh hL3
 have HB13:=qh hb13
 have Q0:=qh q0
 have Q1:=qh q1
 clear hco HW2 hO3 hb3 hb12 hL3 hb13 q0 q1
 go_upto_region 4 with (fail)
 go_loopw [23] (fun s23 wr=>∃ k:Nat,k<=nl/\s23=.int .i64 k/\Below w3.heap.size w3 wr) (fun s23 _=>nl-(RowKit.intOf s23).toNat)
 case atStart=>exact ⟨0,Nat.zero_le _,rfl,qr⟩
 case round=>
  obtain ⟨k,hk,rfl,hb⟩:=hrel
  obtain ⟨wo,hwo⟩:∃ wo,wo=wr:=⟨_,rfl⟩
  subst hwo
  have hbr:=HB13.out.trans (hb.mono HB13.out.size)
  by_cases hkn:k<nl
  ·have hkL:k<(F ++ T).length:=by rw [<-HNL.out];exact hkn
   obtain ⟨bz,oz,ea,d0⟩:=(HL3.out.mono hb).tx k hkL
   obtain ⟨j,hjN,hjf⟩:=HK.out _ (List.getElem_mem hkL)
   obtain ⟨z,hz⟩:∃ z,z=(F ++ T)[k]'hkL:=⟨_,rfl⟩
   rw [<-hz] at d0 hjf
   have hnd:=nodeX_any n z wo (rdNet.mono HG.out hbr) HNB.out
   rw [show nodeX n z=((j:Int),0) from by unfold nodeX;rw [hjf,if_neg om]] at hnd
   simp only [vNet,vSl] at hnd
   rw [<-HM.out] at hnd
   have q0:=cel_lt Q0.out hb
   have q1:=cel_lt Q1.out hb
   have i1:decide (k<nl)=true:=decide_eq_true hkn
   have x7:IntKind.i64.wrap ((k:Int)+1)=k+1:=IntWalk.i64_in _ om
   have i4:(0:Int)<=k:=by omega
   have i5:(k:Int)<nl:=by omega
   have EA:=qh ea
   have HKN:=qh hkn
   clear hz hkL hkn hjN hjf
   go_upto_region 6 with (fail)
   clear d0
   go_wp2_with fail
   refine Calls.to hnd ?_
   rintro e w4 rfl hb4
   have hb5:=hb.trans (hb4.mono hb.size)
   have z0:((0:Int) != 0)=false:=rfl
   clear hnd hb4 q0 q1 hb hbr
   go_wp2_with fail
   clear ea
   first|rw [<-EA.out]|skip
   go_roundw
   case measure=>have:=HKN.out;simp [RowKit.intOf,x7];omega
   case rel=>exact ⟨k+1,HKN.out,by go_num,hb5⟩
  ·have hke:nl=k:=by omega
   subst hke
   have i1:decide (nl<nl)=false:=decide_eq_false (Nat.lt_irrefl nl)
   have q1:=cel_lt Q1.out hb
   go_upto_region 12 with (fail)
   clear i1 hkn
   have HBR:=qh hbr
   go_loopw [12,40] (fun s12 s40 wx=>∃ j:Nat,j<=M/\s40=.int .i64 j/\Hid (Own wo.heap.size 9 eTx 1 wx s12 (ckL n c d j))/\Below wo.heap.size wo wx) (fun _ s40 _=>M-(RowKit.intOf s40).toNat)
   case atStart=>exact ⟨0,Nat.zero_le _,rfl,qh (World.ownsRow_nil _ _ _ _),qr⟩
   have Q1:=qh q1
   clear hb hbr q1
   case round=>
    obtain ⟨j,hj,rfl,HO,hb⟩:=hrel
    obtain ⟨wx,hwx⟩:∃ wx,wx=wr:=⟨_,rfl⟩
    subst hwx
    have hbr:=HBR.out.trans (hb.mono HBR.out.size)
    by_cases hjM:j<M
    ·have hjl:j<n.Ls.xs.length:=by rw [<-HM.out];exact hjM
     have gN:=rdNet.mono HG.out hbr
     obtain ⟨bl,ol,el,c0,c1,c2,c3,c4,c5,c6,c7,c8,c9,c10⟩:=(gN.2.2.2.1).lk j hjl
     obtain ⟨z,hz⟩:∃ z,z=n.Ls.xs[j]'hjl:=⟨_,rfl⟩
     have hzk:z=lkK n j:=by rw [hz,lkK_at hjl]
     rw [<-hz] at c0 c1 c2 c3 c4 c5 c6 c7 c8 c9 c10
     obtain ⟨w5,hw5⟩:∃ w5,w5=wx.alloc (.cells (eLk z).toArray 61):=⟨_,rfl⟩
     have hbA:Below wx.heap.size wx w5:=by rw [hw5];exact alloc_below _ _
     obtain ⟨k0,k1,k2,-⟩:=boxLk wx w5 61 z _ rfl _ rfl (by rw [hw5];exact qr)
     have hbr5:=hbr.trans (hbA.mono hbr.size)
     have hc1:=containsT_any F z.From _ w5 (IsL.mono HF.out hbr5)
     have hc2:=fun V (hV:Below w5.heap.size w5 V)=>containsT_any T z.To _ V (IsL.mono HT.out (hbr5.trans (hV.mono hbr5.size)))
     rw [show hasT F z.From=c (frmN n j) from by rw [hzk];exact HC.out j hjl] at hc1
     rw [show hasT T z.To=d (toN n j) from by rw [hzk];exact HD.out j hjl] at hc2
     have hck:ckL n c d (j+1)=if c (frmN n j)&&d (toN n j) then ckL n c d j ++ [z.Name] else ckL n c d j:=by rw [hzk];rfl
     obtain ⟨bc,hbc⟩:∃ b,b=c (frmN n j):=⟨_,rfl⟩
     obtain ⟨bd,hbd⟩:∃ b,b=d (toN n j):=⟨_,rfl⟩
     rw [<-hbc] at hc1 hck
     rw [<-hbd] at hc2 hck
     have HCK:=qh hck
     have q1:=cel_lt Q1.out hb
     have i1:decide (j<M)=true:=decide_eq_true hjM
     have x7:IntKind.i64.wrap ((j:Int)+1)=j+1:=IntWalk.i64_in _ om
     have i4:(0:Int)<=j:=by omega
     have i5:(j:Int)<M:=by omega
     have EL:=qh el
     have HJM:=qh hjM
     have HW5:=qh hw5
     have hO5:=HO.out.below hbA
     have hb5:=hb.trans (hbA.mono hb.size)
     have hcl:(ckL n c d j).length<2147483648:=by have:=ckL_len n c d j;omega
     clear hz hzk hw5 hjl hjM gN hbc hbd hck hbA hbr5 HO hb hbr
     go_upto_region 14 with (fail)
     first|rw [<-HW5.out]|fail "w5"
     clear c0 c1 c2 c3 c4 c5 c6 c7 c8 c9 c10 HW5 q1
     go_wp2_with fail
     refine Calls.to hc1 ?_
     rintro e w6 rfl hb6
     replace k0:=cel_lt k0 hb6
     replace k2:=cel_lt k2 hb6
     replace hO5:=hO5.below hb6
     have hb7:=hb5.trans (hb6.mono hb5.size)
     clear hc1 k1 hb5
     replace hc2:=hc2 w6 hb6
     clear hb6
     cases bc
     ·have HO6:Hid (Own wo.heap.size 9 eTx 1 w6 _ (ckL n c d (j+1))):=qh (by rw [HCK.out];exact hO5)
      clear hO5 hc2 k0 k2 hcl
      go_wp2_with fail
      clear el
      first|rw [<-EL.out]|skip
      go_roundw
      case measure=>have:=HJM.out;simp [RowKit.intOf,x7];omega
      case rel=>exact ⟨j+1,HJM.out,by go_num,HO6,hb7⟩
     go_wp2_with fail
     refine Calls.to hc2 ?_
     rintro e w7 rfl hb8
     replace k0:=cel_lt k0 hb8
     replace hO5:=hO5.below hb8
     have hb9:=hb7.trans (hb8.mono hb7.size)
     clear hc2 k2 hb7 hb8
     cases bd
     ·have HO6:Hid (Own wo.heap.size 9 eTx 1 w7 _ (ckL n c d (j+1))):=qh (by rw [HCK.out];exact hO5)
      clear hO5 k0 hcl
      go_wp2_with fail
      clear el
      first|rw [<-EL.out]|skip
      go_roundw
      case measure=>have:=HJM.out;simp [RowKit.intOf,x7];omega
      case rel=>exact ⟨j+1,HJM.out,by go_num,HO6,hb9⟩
     have h1c:∀ u∈eTx z.Name,u.oneCell'=true:=by simp [Value.oneCell']
     have hsz7:=hb9.size
     go_wp2_with (at_builtin;go_must (refine wpList_pushR rfl _ _ 42 rfl 9 _ 1 16 undStr infStr rfl (by decide) z.Name (fun _=>rfl) h1c _ (ckL n c d j) rfl hO5 w7.heap.size rfl rfl hcl (by decide) hsz7 _ rfl ?_);intro g8 k8 w8 hR8)
     have hb10:=hb9.trans (hR8.below hO5 hsz7)
     have HO8:Hid (Own wo.heap.size 9 eTx 1 w8 _ (ckL n c d (j+1))):=qh (by rw [HCK.out];exact hR8.own)
     clear hR8 hO5 h1c hsz7 hb9 k0 hcl
     go_wp2_with fail
     clear el
     first|rw [<-EL.out]|skip
     go_roundw
     case measure=>have:=HJM.out;simp [RowKit.intOf,x7];omega
     case rel=>exact ⟨j+1,HJM.out,by go_num,HO8,hb10⟩
    ·have hjM2:M=j:=by omega
     subst hjM2
     have i1:decide (M<M)=false:=decide_eq_false (Nat.lt_irrefl M)
     have hbf:=hbw.trans (hbr.mono hbw.size)
     have hsz:=HBR.out.size
     have hsw:=hbw.size
     have HOF:=qh (HO.out.base (base':=w.heap.size) om)
     clear hjM hbr hb HO hsz hsw
     go_wp2_with fail
     go_ret2
     exact ⟨⟨_,rfl,HOF.out⟩,hbf⟩
end Go.Proofs.YtoiakijmbghhlaaGreat
