/- control.at. Conditions: the network is right; the inflows read as data. -/
import Derived.Test.YtoiakijmbghhlaaGreatS33
set_option linter.unusedVariables false
set_option linter.unusedSimpArgs false
set_option maxRecDepth 100000
set_option maxHeartbeats 32000000
namespace Go.Proofs.YtoiakijmbghhlaaGreat
open Go.RowKit Go.Maps
def stepQ (n:Net) (k:Nat) (i:Nat) (acc:Int) (x:InD):Int:=if findNd n.Ns.xs x.N=i/\k<x.V.xs.length then x.V.xs.getD k 0 else acc
def atQ (n:Net) (ins:List InD) (k i:Nat):Int:=ins.foldl (stepQ n k i) 0
theorem atQ_succ (n:Net) (ins:List InD) (k i a:Nat) (h:a<ins.length):atQ n (ins.take (a+1)) k i=stepQ n k i (atQ n (ins.take a) k i) ins[a]:=by
 unfold atQ
 rw [List.take_succ_eq_append_getElem h,List.foldl_append]
 rfl
theorem ctat_any (n:Net) (ins:Sl InD) (k:Nat) (w:World) (hg:gNet w n) (hn:netB n=true) (hi:gIns w ins) (hk:k<9223372036854775808) :
  Calls Tryz.prog 57 #[vNet n,vSl ins,.int .i64 k] w fun e w'=>(∃ u qs,e=.returned u/\Own w.heap.size 3 eInt 1 w' u qs/\qs.length=n.Ns.xs.length/\(∀ i,i<n.Ns.xs.length->qs.getD i 0=atQ n ins.xs k i)/\∀ x∈qs,(Lit.int .i64 x).wf=true)/\Below w.heap.size w w':=by
 obtain ⟨W,hW⟩:∃ W,W=allocs w [((eNet n).toArray,25)]:=⟨_,rfl⟩
 have hbw:Below w.heap.size w W:=by rw [hW];exact allocs_below _ _
 have t0:W.heap[w.heap.size]? = some (.cells (eNet n).toArray 25 (0,0)):=by rw [hW];exact allocs_at _ w 0 (by simp)
 have HW:Hid (W=w.alloc (.cells (eNet n).toArray 25)):=qh hW
 have q0:W.cell? ⟨w.heap.size,0,none⟩=some (.slice n.Ns.a n.Ns.xs.length n.Ns.cap):=(tank_blk t0 0).trans rfl
 have q1:W.cell? ⟨w.heap.size,1,none⟩=some (.slice n.Ls.a n.Ls.xs.length n.Ls.cap):=(tank_blk t0 1).trans rfl
 have q0W:=q0
 have q1W:=q1
 have HG:=qh (rdNet.mono hg hbw)
 have HI:=qh (rdIns.mono hi hbw)
 have HNB:=qh hn
 have hsz:=netB_size hn
 obtain ⟨N,hN⟩:∃ N,N=n.Ns.xs.length:=⟨_,rfl⟩
 have HN:=qh hN
 obtain ⟨ni,hni⟩:∃ ni,ni=ins.xs.length:=⟨_,rfl⟩
 have HNI:=qh hni
 have hnib:ni<=9223372036854775807:=by have h1:=hi.1;have h2:=hi.2.1;omega
 simp only [vNet,vSl]
 rw [<-hni,<-hN]
 rw [<-hN] at q0 hsz q0W
 have hll:N<2147483648:=by omega
 clear hW t0 hg hn hi hni hN
 go_enter Tryz.func57,Tryz.ntmps57
 go_upto_region 1 with (fail)
 first|rw [HN.out,<-HW.out,<-HN.out]|rw [<-HW.out]
 clear HW
 go_upto_region 2 with (refine wpList_mk _ rfl _ _ 28 rfl W.heap.size 3 _ 8 undInts infInt eInt 0 rfl rfl _ _ N rfl rfl rfl rfl hll om (Nat.le_refl _) ?_;intro w1 hown1 hb1 hlt1)
 have HO1:=qh hown1
 have HM0:Hid ((List.replicate N (0:Int)).length=N/\∀ i,i<N->(List.replicate N (0:Int)).getD i 0=atQ n (ins.xs.take 0) k i):=qh ⟨by simp,fun i hi=>by simp [atQ,List.getD,hi]⟩
 clear hown1 hlt1
 replace q0:=cel_lt q0 hb1
 replace q1:=cel_lt q1 hb1
 go_wp2_with fail
 go_loopw [18] (fun s18 wr=>∃ (a:Nat) (qs:List Int),a<=ni/\s18=.int .i64 a/\Below W.heap.size W wr/\Hid (Own W.heap.size 3 eInt 1 wr (.slice (some ⟨W.heap.size,0,none⟩) N N) qs)/\Hid (qs.length=N/\∀ i,i<N->qs.getD i 0=atQ n (ins.xs.take a) k i)/\Hid (∀ x∈qs,(Lit.int .i64 x).wf=true)) (fun s18 _=>ni-(intOf s18).toNat)
 case atStart=>exact ⟨0,_,Nat.zero_le _,rfl,hb1,HO1,HM0,qh (fun x hx=>by rw [List.mem_replicate] at hx;rw [hx.2];decide)⟩
 have Q0:=qh q0W
 have Q1:=qh q1W
 clear HO1 HM0 q0 q1 hb1 q0W q1W
 case round=>
  obtain ⟨a,qs,ha,rfl,hb,HO,HM,HQG⟩:=hrel
  obtain ⟨wo,hwo⟩:∃ wo,wo=wr:=⟨_,rfl⟩
  subst hwo
  have hbr:=hbw.trans (hb.mono hbw.size)
  by_cases han:a<ni
  ·have hai:a<ins.xs.length:=by rw [<-HNI.out];exact han
   have gI:=rdIns.mono HI.out hb
   obtain ⟨bn,on,ea,d0,d1⟩:=(gI.2.2.1).inf a hai
   have gx:=gI.2.2.2 _ (List.getElem_mem hai)
   have HSU0:=atQ_succ n ins.xs k
   obtain ⟨x,hx⟩:∃ x,x=ins.xs[a]'hai:=⟨_,rfl⟩
   have HSU:Hid (∀ i,atQ n (ins.xs.take (a+1)) k i=stepQ n k i (atQ n (ins.xs.take a) k i) x):=qh (fun i=>by rw [HSU0 i a hai,hx])
   rw [<-hx] at d0 d1 gx
   obtain ⟨W2,hW2⟩:∃ W2,W2=wo.alloc (.cells (eIn x).toArray 121):=⟨_,rfl⟩
   have hbA:Below wo.heap.size wo W2:=by rw [hW2];exact alloc_below _ _
   obtain ⟨k0,k1⟩:=bxIn wo W2 121 x _ rfl _ rfl (by rw [hW2];exact qr)
   simp only [vSl] at k1
   have HW2:=qh hW2
   have HGX:=qh (rdIn.mono gx hbA)
   have q0:wo.cell? ⟨w.heap.size,0,none⟩=some (.slice n.Ns.a N n.Ns.cap):=cel_lt Q0.out hb
   have q1:wo.cell? ⟨w.heap.size,1,none⟩=some (.slice n.Ls.a n.Ls.xs.length n.Ls.cap):=cel_lt Q1.out hb
   have i1:decide (a<ni)=true:=decide_eq_true han
   have x7:IntKind.i64.wrap ((a:Int)+1)=a+1:=IntWalk.i64_in _ om
   have i4:(0:Int)<=a:=by omega
   have i5:(a:Int)<ni:=by omega
   have EA:=qh ea
   have HAN:=qh han
   clear hx hW2 gx gI hai han HSU0
   go_upto_region 5 with (fail)
   rw [<-HW2.out]
   clear d0 d1 HW2
   replace hb:=hb.trans (hbA.mono hb.size)
   have hO:=HO.out.below hbA
   replace q0:=cel_lt q0 hbA
   replace q1:=cel_lt q1 hbA
   clear hbA HO
   have hnd:=nodeX_any n x.N W2 (rdNet.mono HG.out hb) HNB.out
   simp only [vNet,vSl] at hnd
   rw [<-HN.out] at hnd
   obtain ⟨f,hf⟩:∃ f,findNd n.Ns.xs x.N=f:=⟨_,rfl⟩
   have hfb:=findNd_bd n.Ns.xs x.N
   rw [hf,<-HN.out] at hfb
   have HF:=qh hf
   by_cases hfn:f<0
   ·rw [show nodeX n x.N=(0,9) from by unfold nodeX;rw [hf,if_pos hfn]] at hnd
    have HNF:Hid (∀ i:Nat,¬ (findNd n.Ns.xs x.N=i/\k<x.V.xs.length)):=qh (fun i h=>by have h1:=h.1;rw [hf] at h1;omega)
    clear hfn hf hfb
    go_wp2_with fail
    refine Calls.to hnd ?_
    rintro e w3 rfl hb3
    replace hb:=hb.trans (hb3.mono hb.size)
    replace hO:=hO.below hb3
    have z9:((9:Int)==0)=false:=rfl
    clear hnd hb3 q0 q1
    have HM2:Hid (qs.length=N/\∀ i,i<N->qs.getD i 0=atQ n (ins.xs.take (a+1)) k i):=qh ⟨HM.out.1,fun i hi=>by
     rw [HSU.out i,HM.out.2 i hi]
     unfold stepQ
     rw [if_neg (HNF.out i)]⟩
    have hO':=qh hO
    clear hO
    go_wp2_with fail
    clear ea
    first|rw [<-EA.out]|skip
    go_roundw
    case measure=>have:=HAN.out;simp [intOf,x7];omega
    case rel=>exact ⟨a+1,qs,HAN.out,by go_num,hb,hO',HM2,HQG⟩
   ·rw [show nodeX n x.N=(f,0) from by unfold nodeX;rw [hf,if_neg hfn]] at hnd
    obtain ⟨fn,rfl⟩:=Int.eq_ofNat_of_zero_le (show 0<=f by omega)
    have hfN:fn<N:=by omega
    clear hfn hf hfb
    go_wp2_with fail
    refine Calls.to hnd ?_
    rintro e w3 rfl hb3
    replace hb:=hb.trans (hb3.mono hb.size)
    replace hO:=hO.below hb3
    replace k1:=cel_lt k1 hb3
    have HGX3:=qh (rdIn.mono HGX.out hb3)
    clear hnd hb3 q0 q1 k0
    have z9:((0:Int)==0)=true:=rfl
    by_cases hkl:k<x.V.xs.length
    ·have i8:decide (k<x.V.xs.length)=true:=decide_eq_true hkl
     obtain ⟨bv,ov,eav,e0⟩:=(HGX3.out.v.2.2.1).int k hkl
     have hyw:=HGX3.out.v.2.2.2 _ (List.getElem_mem hkl)
     have hyd:x.V.xs[k]'hkl=x.V.xs.getD k 0:=by simp [List.getD,hkl]
     rw [hyd] at e0 hyw
     obtain ⟨y,hy⟩:∃ y,y=x.V.xs.getD k 0:=⟨_,rfl⟩
     rw [<-hy] at e0 hyw
     have hql:=HM.out.1
     have hfx:fn<qs.length:=by omega
     obtain ⟨z,hz⟩:∃ z,w3.cell? ⟨W.heap.size,fn,none⟩=some (.int .i64 z):=⟨_,hO.int1 (k:=fn) hfx rfl⟩
     have f0:=hO.free fn
     have hO2:=qh (hO.put1 (k:=fn) hfx y)
     have hb2:=hb.setCell (p:=⟨W.heap.size,fn,none⟩) (Nat.le_refl _) (.int .i64 y)
     have HM2:Hid ((qs.set fn y).length=N/\∀ i,i<N->(qs.set fn y).getD i 0=atQ n (ins.xs.take (a+1)) k i):=qh ⟨by rw [List.length_set];exact hql,fun i hi=>by
      rw [getD_set _ _ _ _ hfx,HSU.out i]
      unfold stepQ
      rw [HF.out]
      by_cases e:i=fn
      ·subst e
       rw [if_pos rfl,if_pos ⟨rfl,hkl⟩,hy]
      ·rw [if_neg e,if_neg (fun h=>e om)]
       exact HM.out.2 i hi⟩
     have HQG2:Hid (∀ x∈qs.set fn y,(Lit.int .i64 x).wf=true):=qh (fun x hx=>by
      rcases List.mem_or_eq_of_mem_set hx with h|h
      ·exact HQG.out x h
      ·rw [h];exact hyw)
     have k4:(0:Int)<=k:=by omega
     have k5:(k:Int)<x.V.xs.length:=by omega
     have k6:(0:Int)<=fn:=by omega
     have k7:(fn:Int)<N:=by omega
     have EAV:=qh eav
     rw [eav] at k1
     clear hy hyd hyw hql hfx hO hkl
     go_wp2_with fail
     clear ea eav
     first|rw [<-EAV.out]|skip
     first|rw [<-EA.out]|skip
     go_roundw
     case measure=>have:=HAN.out;simp [intOf,x7];omega
     case rel=>exact ⟨a+1,_,HAN.out,by go_num,hb2,hO2,HM2,HQG2⟩
    ·have i8:decide (k<x.V.xs.length)=false:=decide_eq_false hkl
     have HKL:=qh hkl
     clear hkl
     have HM2:Hid (qs.length=N/\∀ i,i<N->qs.getD i 0=atQ n (ins.xs.take (a+1)) k i):=qh ⟨HM.out.1,fun i hi=>by
      rw [HSU.out i,HM.out.2 i hi]
      unfold stepQ
      rw [if_neg (fun h=>HKL.out h.2)]⟩
     have hO':=qh hO
     clear hO
     go_wp2_with fail
     clear ea
     first|rw [<-EA.out]|skip
     go_roundw
     case measure=>have:=HAN.out;simp [intOf,x7];omega
     case rel=>exact ⟨a+1,qs,HAN.out,by go_num,hb,hO',HM2,HQG⟩
  ·have hae:a=ni:=by omega
   subst hae
   have i1:decide (a<a)=false:=decide_eq_false (Nat.lt_irrefl a)
   have HQ:=qh (HO.out.base hbw.size)
   have HFI:Hid (∀ i,i<N->qs.getD i 0=atQ n ins.xs k i):=qh (fun i hi=>by
    have:=HM.out.2 i hi
    rwa [List.take_of_length_le (by rw [HNI.out];exact Nat.le_refl _)] at this)
   go_wp2_with fail
   go_ret
   exact ⟨⟨_,qs,rfl,HQ.out,HM.out.1,HFI.out,HQG.out⟩,hbr⟩
end Go.Proofs.YtoiakijmbghhlaaGreat
