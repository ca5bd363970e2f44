/- links: between, at. Conditions: network, catalogue and link read as data; a pipe's section is known; the link's ends are nodes. | links: at, Wish. Conditions: network, catalogue, levels and link read as data; a pipe's section is known; the link's ends are nodes. -/
import Derived.Test.YtoiakijmbghhlaaGreatS21
import Derived.Test.YtoiakijmbghhlaaGreatS20
import Derived.Test.YtoiakijmbghhlaaGreatS11
set_option linter.unusedVariables false
set_option linter.unusedSimpArgs false
set_option maxRecDepth 100000
set_option maxHeartbeats 32000000
namespace Go.Proofs.YtoiakijmbghhlaaGreat
open Go.RowKit
theorem any_idx {α:Type} {p:α->Bool}:∀ (xs:List α) (i:Nat),xs.any p=true->∃ j,j<xs.length/\idxFrom p xs i=((i+j:Nat):Int)
 | x :: r,i,h=>by
  by_cases hx:p x=true
  ·exact ⟨0,by simp,by simp [idxFrom,hx]⟩
  ·rw [List.any_cons,Bool.or_eq_true] at h
   obtain ⟨j,h1,h2⟩:=any_idx r (i+1) (h.resolve_left hx)
   refine ⟨j+1,by simpa using h1,?_⟩
   rw [idxFrom,if_neg hx,h2]
   congr 1
   omega
theorem lbetween_any (n:Net) (ss:List SecD) (v:Value) (x:Lk) (up down set:Int) (on:Bool) (w:World) (hN:IsNds w (vSl n.Ns) n.Ns.xs) (hg:gLk w x) (hv:IsSecs w v ss) (hk:knownB ss x=true) (hf:0<=findNd n.Ns.xs x.From/\findNd n.Ns.xs x.From<n.Ns.xs.length) :
  Calls Tryz.prog 315 #[vNet n,v,vLk x,.int .i64 up,.int .i64 down,.int .i64 set,.bool on] w fun e w'=>(∃ u,e=.returned u/\FlowR u)/\Below w.heap.size w w':=by
 have hb0:Below w.heap.size w (w.alloc (.cells (eNet n).toArray 25)):=qr.alloc (Nat.le_refl _) _
 have hbn:=boxNet w (w.alloc (.cells (eNet n).toArray 25)) 25 n _ rfl _ rfl qr
 obtain ⟨W0,hW0⟩:∃ W0,W0=w.alloc (.cells (eNet n).toArray 25):=⟨_,rfl⟩
 have HW0:=qh hW0
 rw [<-hW0] at hb0 hbn
 have hs0:W0.heap.size=w.heap.size+1:=by rw [hW0];simp
 have hb1:Below W0.heap.size W0 (W0.alloc (.cells (eLk x).toArray 61)):=qr.alloc (Nat.le_refl _) _
 have hbx:=bxLk W0 (W0.alloc (.cells (eLk x).toArray 61)) 61 x _ rfl _ rfl qr
 obtain ⟨W,hW⟩:∃ W,W=W0.alloc (.cells (eLk x).toArray 61):=⟨_,rfl⟩
 have HW:=qh hW
 rw [<-hW] at hb1 hbx
 rw [hs0] at hbx
 obtain ⟨⟨k0,k1,k2⟩,⟨k3,k4,k5,k6⟩,k7,k8,k9,k10⟩:=hbx
 obtain ⟨q0,q1⟩:=hbn
 have q0:=cel_lt q0 hb1
 have q1:=cel_lt q1 hb1
 have hbw:=hb0.trans (hb1.mono hb0.size)
 have HN:=qh (hN.mono hbw)
 have HG:=qh (rdLk.mono hg hbw)
 have HV:=qh (hv.mono hbw)
 have HF:=qh hf
 have HK:=qh hk
 have hv1:=hv
 obtain ⟨⟨sa,sc,rfl,-,-,-⟩,-⟩:=hv1
 clear hW hW0 hb0 hb1 hN hg hv hf hk hs0
 by_cases e1:x.Kind=1
 ·have j1:(x.Kind==1)=true:=by rw [e1];rfl
  have hany:ss.any (fun s=>strB s.N x.Sec)=true:=by
   have h:=HK.out
   rw [knownB,decide_eq_true e1] at h
   simpa using h
  obtain ⟨j,hj,hidx⟩:=any_idx ss 0 hany
  rw [Nat.zero_add] at hidx
  have hix:=indexSec 335 #[.pointer (some ⟨w.heap.size+1,0,none⟩)] ent335 (fun s=>strB s.N x.Sec) ss _ W HV.out.1 (fun V hV s _=>between1_any s x.Sec _ V (cel_lt k7 hV))
  rw [hidx] at hix
  have HJ:=qh hj
  obtain ⟨sn,hsn⟩:∃ sn,sn=ss.length:=⟨_,rfl⟩
  have hjn:(j:Int)<sn:=by omega
  have hj0:(0:Int)<=j:=by omega
  have HSN:=qh hsn
  rw [<-hsn] at hix ⊢
  simp only [vNet,vLk,vSl] at hix ⊢
  clear hj hany hidx e1 hsn
  go_enter Tryz.func315,Tryz.ntmps315
  go_upto_region 1 with (fail)
  rw [<-HW0.out]
  rw [<-HW.out]
  clear HW HW0
  go_wp2_with fail
  refine Calls.to hix ?_
  rintro e w1 rfl hb1
  have hbw:=hbw.trans (hb1.mono hbw.size)
  have k0:=cel_lt k0 hb1
  have k1:=cel_lt k1 hb1
  have k2:=cel_lt k2 hb1
  have k3:=cel_lt k3 hb1
  have k4:=cel_lt k4 hb1
  have k5:=cel_lt k5 hb1
  have k6:=cel_lt k6 hb1
  have k7:=cel_lt k7 hb1
  have k8:=cel_lt k8 hb1
  have k9:=cel_lt k9 hb1
  have k10:=cel_lt k10 hb1
  obtain ⟨_,_,he,-,-,hC⟩:=(HV.out.mono hb1).1
  simp only [Value.slice.injEq] at he
  obtain ⟨rfl,-,-⟩:=he
  obtain ⟨b,off,rfl,d0,d1,d2,d3,d4⟩:=hC.sec j HJ.out
  have hsj:=(HV.out.mono hb1).2 _ (List.getElem_mem HJ.out)
  obtain ⟨s,hs⟩:∃ s,s=ss[j]'HJ.out:=⟨_,rfl⟩
  rw [<-hs] at d0 d1 d2 d3 d4 hsj
  have hpp:=fun y=>lpipe_any x s up down (more w1 y) (hsj.mono (below_more w1 y))
  simp only [vLk,vSec,vSl] at hpp
  clear hix hb1 hs hC hsj
  go_upto_region 4 with (fail)
  refine wp_region_more_tail 7 (by kernel_rfl) (by kernel_rfl) ?_
  simp only [List.take_succ_cons,List.take_zero]
  repeat (go_big_quiet_step (fail))
  refine wpQuiet_nil ?_
  intro _ hwq
  obtain ⟨xq,hwq⟩:=hwq
  subst hwq
  refine wpAny_ready (rs:=[7]) (by kernel_rfl) (by simp) ?_
  refine AllReady.cons rfl (fun K hK=>?_) AllReady.nil
  go_simp
  go_at_call 336
  refine (hpp _).mono ?_
  rintro e w2 ⟨⟨u,rfl,hu⟩,hb2⟩
  have hbw:=hbw.trans (((below_more w1 xq).trans (hb2.mono (below_more w1 xq).size)).mono hbw.size)
  cases hu
  refine hK _ _ ?_
  clear hK K k0 k1 k2 k3 k4 k5 k6 k7 k8 k9 k10 d0 d1 d2 d3 d4
  refine wpAny_take (i:=8) (v:=?_) rfl (by kernel_rfl) (by kernel_rfl) (by kernel_rfl) (fun _ _ _ h=>h) (Or.inl ⟨by rfl,?_⟩) ?_
  case refine_2=>(intro w;go_simp;try (with_reducible rfl))
  refine wpAny_take (i:=9) (v:=?_) rfl (by kernel_rfl) (by kernel_rfl) (by kernel_rfl) (fun _ _ _ h=>h) (Or.inl ⟨by rfl,?_⟩) ?_
  case refine_2=>(intro w;go_simp;try (with_reducible rfl))
  refine wpAny_ready (rs:=[10]) (by kernel_rfl) (by simp) ?_
  refine AllReady.cons rfl (fun K hK=>?_) AllReady.nil
  go_simp
  refine hK _ _ ?_
  clear hK K
  refine wpAny_ready (rs:=[11]) (by kernel_rfl) (by simp) ?_
  refine AllReady.cons rfl (fun K hK=>?_) AllReady.nil
  go_simp
  refine hK _ _ ?_
  clear hK K
  refine wpAny_done (by kernel_rfl) ?_ _
  go_wp2_with fail
  go_ret2
  exact ⟨⟨_,rfl,.mk _ _⟩,hbw⟩
 have j1:(x.Kind==1)=false:=by rw [beq_eq_false_iff_ne];exact e1
 clear e1
 by_cases e2:x.Kind=2
 ·have j2:(x.Kind==2)=true:=by rw [e2];rfl
  have hov:=fun V=>oover_link x up down V
  simp only [vNet,vLk,vSl] at hov ⊢
  clear e2 q0 q1
  go_enter Tryz.func315,Tryz.ntmps315
  go_upto_region 1 with (fail)
  rw [<-HW0.out]
  rw [<-HW.out]
  clear HW HW0
  go_wp2_with fail
  refine Calls.to (hov _) ?_
  rintro e w1 ⟨u,rfl,hu⟩ hb1
  have hbw:=hbw.trans (hb1.mono hbw.size)
  cases hu with
  | mk q e=>
   clear k0 k1 k2 k3 k4 k5 k6 k7 k8 k9 k10
   go_wp2_with fail
   refine (llimited_any q e _).mono ?_
   rintro e w' ⟨⟨u,rfl,hu⟩,rfl⟩
   cases hu
   go_wp2_with fail
   go_ret2
   exact ⟨⟨_,rfl,.mk _ _⟩,hbw⟩
 have j2:(x.Kind==2)=false:=by rw [beq_eq_false_iff_ne];exact e2
 clear e2
 by_cases e3:x.Kind=3
 ·have j3:(x.Kind==3)=true:=by rw [e3];rfl
  have hov:=fun V=>ogate_link x set up down V
  simp only [vNet,vLk,vSl] at hov ⊢
  clear e3 q0 q1
  go_enter Tryz.func315,Tryz.ntmps315
  go_upto_region 1 with (fail)
  rw [<-HW0.out]
  rw [<-HW.out]
  clear HW HW0
  go_wp2_with fail
  refine Calls.to (hov _) ?_
  rintro e w1 ⟨u,rfl,hu⟩ hb1
  have hbw:=hbw.trans (hb1.mono hbw.size)
  cases hu with
  | mk q e=>
   clear k0 k1 k2 k3 k4 k5 k6 k7 k8 k9 k10
   go_wp2_with fail
   refine (llimited_any q e _).mono ?_
   rintro e w' ⟨⟨u,rfl,hu⟩,rfl⟩
   cases hu
   go_wp2_with fail
   go_ret2
   exact ⟨⟨_,rfl,.mk _ _⟩,hbw⟩
 have j3:(x.Kind==3)=false:=by rw [beq_eq_false_iff_ne];exact e3
 clear e3
 have hen:=lends_any n x W HN.out
 obtain ⟨fr,hfr⟩:∃ fr,fr=findNd n.Ns.xs x.From:=⟨_,rfl⟩
 obtain ⟨ft,hft⟩:∃ ft,ft=findNd n.Ns.xs x.To:=⟨_,rfl⟩
 have hff:=HF.out
 rw [<-hfr] at hff
 rw [<-hfr,<-hft] at hen
 obtain ⟨f,rfl⟩:=Int.eq_ofNat_of_zero_le hff.1
 have hfl:f<n.Ns.xs.length:=by omega
 have HFL:=qh hfl
 obtain ⟨nn,hnn⟩:∃ nn,nn=n.Ns.xs.length:=⟨_,rfl⟩
 have i2:(0:Int)<=f:=by omega
 have i3:(f:Int)<nn:=by omega
 have HNN:=qh hnn
 simp only [vNet,vLk,vSl] at hen q0 q1 ⊢
 rw [<-hnn] at hen q0 ⊢
 clear hff hfr hft hfl hnn
 go_enter Tryz.func315,Tryz.ntmps315
 go_upto_region 1 with (fail)
 rw [HNN.out]
 rw [<-HW0.out]
 rw [<-HW.out]
 rw [<-HNN.out]
 clear HW HW0
 cases on
 ·clear k0 k1 k2 k4 k5 k6 k7 k8 k9 k10 q0 q1 hen
  go_wp2_with fail
  go_ret2
  exact ⟨⟨_,rfl,.mk _ _⟩,hbw⟩
 go_wp2_with fail
 refine Calls.to hen ?_
 rintro e w1 rfl hb1
 have hbw:=hbw.trans (hb1.mono hbw.size)
 have k0:=cel_lt k0 hb1
 have k1:=cel_lt k1 hb1
 have k2:=cel_lt k2 hb1
 have k3:=cel_lt k3 hb1
 have k4:=cel_lt k4 hb1
 have k5:=cel_lt k5 hb1
 have k6:=cel_lt k6 hb1
 have k7:=cel_lt k7 hb1
 have k8:=cel_lt k8 hb1
 have k9:=cel_lt k9 hb1
 have k10:=cel_lt k10 hb1
 have q0:=cel_lt q0 hb1
 have q1:=cel_lt q1 hb1
 obtain ⟨_,_,he,-,-,hC⟩:=HN.out.mono hb1
 simp only [vSl,Value.slice.injEq] at he
 obtain ⟨hea,-,-⟩:=he
 obtain ⟨b,off,ea,d0,d1,d2,d3,d4,-,-,-,-⟩:=hC.nd f HFL.out
 rw [<-hea] at ea
 rw [ea] at q0
 obtain ⟨iv,hiv⟩:∃ iv,iv=(n.Ns.xs[f]'HFL.out).Inv:=⟨_,rfl⟩
 rw [<-hiv] at d4
 have hpf:=fun d y=>pflow_any x set d (more w1 y) (rdLk.mono HG.out (hb1.trans ((below_more w1 y).mono hb1.size)))
 simp only [vLk,vSl] at hpf
 have HPF:=qh hpf
 clear hen hC hea hiv d0 d1 d2 d3 hpf
 go_upto_region 12 with (fail)
 refine wp_region_more_tail 11 (by kernel_rfl) (by kernel_rfl) ?_
 simp only [List.take_succ_cons,List.take_zero]
 repeat (go_big_quiet_step (fail))
 refine wpQuiet_nil ?_
 intro _ hwq
 obtain ⟨xq,hwq⟩:=hwq
 subst hwq
 refine wpAny_ready (rs:=[11]) (by kernel_rfl) (by simp) ?_
 refine AllReady.cons rfl (fun K hK=>?_) AllReady.nil
 go_simp
 go_at_call 340
 refine (HPF.out _ _).mono ?_
 rintro e w2 ⟨rfl,hb2⟩
 have hbw:=hbw.trans (((below_more w1 xq).trans (hb2.mono (below_more w1 xq).size)).mono hbw.size)
 refine hK _ _ ?_
 clear hK K k0 k1 k2 k3 k4 k5 k6 k7 k8 k9 k10 d4 q0 q1
 refine wpAny_take (i:=12) (v:=?_) rfl (by kernel_rfl) (by kernel_rfl) (by kernel_rfl) (fun _ _ _ h=>h) (Or.inl ⟨by rfl,?_⟩) ?_
 case refine_2=>(intro w;go_simp;try (with_reducible rfl))
 refine wpAny_take (i:=13) (v:=?_) rfl (by kernel_rfl) (by kernel_rfl) (by kernel_rfl) (fun _ _ _ h=>h) (Or.inl ⟨by rfl,?_⟩) ?_
 case refine_2=>(intro w;go_simp;try (with_reducible rfl))
 refine wpAny_ready (rs:=[14]) (by kernel_rfl) (by simp) ?_
 refine AllReady.cons rfl (fun K hK=>?_) AllReady.nil
 go_simp
 refine hK _ _ ?_
 clear hK K
 refine wpAny_ready (rs:=[15]) (by kernel_rfl) (by simp) ?_
 refine AllReady.cons rfl (fun K hK=>?_) AllReady.nil
 go_simp
 refine hK _ _ ?_
 clear hK K
 refine wpAny_done (by kernel_rfl) ?_ _
 go_wp2_with fail
 go_ret2
 exact ⟨⟨_,rfl,.mk _ _⟩,hbw⟩
theorem lat_any (n:Net) (ss:List SecD) (v:Value) (x:Lk) (ls:List Int) (lv:Value) (set:Int) (on:Bool) (w:World) (hN:IsNds w (vSl n.Ns) n.Ns.xs) (hg:gLk w x) (hv:IsSecs w v ss) (hls:IsInts w lv ls) (hll:ls.length=n.Ns.xs.length) (hk:knownB ss x=true)
  (hf:0<=findNd n.Ns.xs x.From/\findNd n.Ns.xs x.From<n.Ns.xs.length) (ht:0<=findNd n.Ns.xs x.To/\findNd n.Ns.xs x.To<n.Ns.xs.length) :
  Calls Tryz.prog 276 #[vNet n,v,vLk x,lv,.int .i64 set,.bool on] w fun e w'=>(∃ u,e=.returned u/\FlowR u)/\Below w.heap.size w w':=by
 have hb0:Below w.heap.size w (w.alloc (.cells (eNet n).toArray 25)):=qr.alloc (Nat.le_refl _) _
 have hbn:=boxNet w (w.alloc (.cells (eNet n).toArray 25)) 25 n _ rfl _ rfl qr
 obtain ⟨W0,hW0⟩:∃ W0,W0=w.alloc (.cells (eNet n).toArray 25):=⟨_,rfl⟩
 have HW0:=qh hW0
 rw [<-hW0] at hb0 hbn
 have hs0:W0.heap.size=w.heap.size+1:=by rw [hW0];simp
 have hb1:Below W0.heap.size W0 (W0.alloc (.cells (eLk x).toArray 61)):=qr.alloc (Nat.le_refl _) _
 have hbx:=bxLk W0 (W0.alloc (.cells (eLk x).toArray 61)) 61 x _ rfl _ rfl qr
 obtain ⟨W,hW⟩:∃ W,W=W0.alloc (.cells (eLk x).toArray 61):=⟨_,rfl⟩
 have HW:=qh hW
 rw [<-hW] at hb1 hbx
 rw [hs0] at hbx
 obtain ⟨⟨k0,k1,k2⟩,⟨k3,k4,k5,k6⟩,k7,k8,k9,k10⟩:=hbx
 obtain ⟨q0,q1⟩:=hbn
 have q0:=cel_lt q0 hb1
 have q1:=cel_lt q1 hb1
 have hbw:=hb0.trans (hb1.mono hb0.size)
 have HN:=qh (hN.mono hbw)
 have hen:=lends_any n x W HN.out
 obtain ⟨va,vc,rfl,-,-,hD⟩:=hls.mono hbw
 have HD:=qh hD
 obtain ⟨fr,hfr⟩:∃ fr,fr=findNd n.Ns.xs x.From:=⟨_,rfl⟩
 obtain ⟨ft,hft⟩:∃ ft,ft=findNd n.Ns.xs x.To:=⟨_,rfl⟩
 have HF:=qh hf
 have hbt:=fun up down y (V:World) (hV:Below W.heap.size W V)=>lbetween_any n ss v x up down set on (more V y) (HN.out.mono (hV.trans ((below_more V y).mono hV.size))) (rdLk.mono hg (hbw.trans ((hV.trans ((below_more V y).mono hV.size)).mono hbw.size))) (hv.mono (hbw.trans ((hV.trans ((below_more V y).mono hV.size)).mono hbw.size))) hk HF.out
 obtain ⟨⟨sa,sc,rfl,-,-,-⟩,-⟩:=hv
 rw [<-hfr] at hen hf
 rw [<-hft] at hen ht
 obtain ⟨f,rfl⟩:=Int.eq_ofNat_of_zero_le hf.1
 obtain ⟨t,rfl⟩:=Int.eq_ofNat_of_zero_le ht.1
 obtain ⟨nn,hnn⟩:∃ nn,nn=ls.length:=⟨_,rfl⟩
 have hfl:f<ls.length:=by omega
 have htl:t<ls.length:=by omega
 have HFL:=qh (And.intro hfl htl)
 have i2:(0:Int)<=f:=by omega
 have i3:(f:Int)<nn:=by omega
 have i4:(0:Int)<=t:=by omega
 have i5:(t:Int)<nn:=by omega
 simp only [vNet,vLk,vSl] at hen hbt q0 q1 ⊢
 have HBT:=qh hbt
 rw [<-hnn]
 clear hW hW0 hb0 hb1 hN hg hls hll hk hf ht hs0 hD hfr hft hfl htl hnn hbt
 go_enter Tryz.func276,Tryz.ntmps276
 go_upto_region 1 with (fail)
 rw [<-HW0.out]
 rw [<-HW.out]
 clear HW HW0
 go_wp2_with fail
 refine Calls.to hen ?_
 rintro e w1 rfl hb1
 have hbw:=hbw.trans (hb1.mono hbw.size)
 have k0:=cel_lt k0 hb1
 have k1:=cel_lt k1 hb1
 have k2:=cel_lt k2 hb1
 have k3:=cel_lt k3 hb1
 have k4:=cel_lt k4 hb1
 have k5:=cel_lt k5 hb1
 have k6:=cel_lt k6 hb1
 have k7:=cel_lt k7 hb1
 have k8:=cel_lt k8 hb1
 have k9:=cel_lt k9 hb1
 have k10:=cel_lt k10 hb1
 have q0:=cel_lt q0 hb1
 have q1:=cel_lt q1 hb1
 obtain ⟨b,off,rfl,d0⟩:=(HD.out.mono hb1).int f HFL.out.1
 obtain ⟨b',off',he,d1⟩:=(HD.out.mono hb1).int t HFL.out.2
 simp only [Option.some.injEq,Addr.mk.injEq] at he
 obtain ⟨rfl,rfl,-⟩:=he
 obtain ⟨lf,hlf⟩:∃ lf,lf=ls[f]'HFL.out.1:=⟨_,rfl⟩
 obtain ⟨lt,hlt⟩:∃ lt,lt=ls[t]'HFL.out.2:=⟨_,rfl⟩
 rw [<-hlf] at d0
 rw [<-hlt] at d1
 have HB1:=qh hb1
 clear hen hlf hlt hb1
 go_upto_region 2 with (fail)
 refine wp_region_more_tail 13 (by kernel_rfl) (by kernel_rfl) ?_
 simp only [List.take_succ_cons,List.take_zero]
 repeat (go_big_quiet_step (fail))
 refine wpQuiet_nil ?_
 intro _ hwq
 obtain ⟨xq,hwq⟩:=hwq
 subst hwq
 refine wpAny_ready (rs:=[13]) (by kernel_rfl) (by simp) ?_
 refine AllReady.cons rfl (fun K hK=>?_) AllReady.nil
 go_simp
 go_at_call 315
 refine (HBT.out _ _ _ _ HB1.out).mono ?_
 rintro e w2 ⟨⟨u,rfl,hu⟩,hb2⟩
 have hbw:=hbw.trans (((below_more w1 xq).trans (hb2.mono (below_more w1 xq).size)).mono hbw.size)
 cases hu
 refine hK _ _ ?_
 clear hK K k0 k1 k2 k3 k4 k5 k6 k7 k8 k9 k10 d0 d1 q0 q1
 refine wpAny_take (i:=14) (v:=?_) rfl (by kernel_rfl) (by kernel_rfl) (by kernel_rfl) (fun _ _ _ h=>h) (Or.inl ⟨by rfl,?_⟩) ?_
 case refine_2=>(intro w;go_simp;try (with_reducible rfl))
 refine wpAny_take (i:=15) (v:=?_) rfl (by kernel_rfl) (by kernel_rfl) (by kernel_rfl) (fun _ _ _ h=>h) (Or.inl ⟨by rfl,?_⟩) ?_
 case refine_2=>(intro w;go_simp;try (with_reducible rfl))
 refine wpAny_ready (rs:=[16]) (by kernel_rfl) (by simp) ?_
 refine AllReady.cons rfl (fun K hK=>?_) AllReady.nil
 go_simp
 refine hK _ _ ?_
 clear hK K
 refine wpAny_ready (rs:=[17]) (by kernel_rfl) (by simp) ?_
 refine AllReady.cons rfl (fun K hK=>?_) AllReady.nil
 go_simp
 refine hK _ _ ?_
 clear hK K
 refine wpAny_done (by kernel_rfl) ?_ _
 go_wp2_with fail
 go_ret2
 exact ⟨⟨_,rfl,.mk _ _⟩,hbw⟩
inductive WishR:Value->Prop
 | no:WishR (.tuple #[.int .i64 0,.int .i64 2])
 | ok (q:Int):0<=q/\q<=1125899906842624->WishR (.tuple #[.int .i64 q,.int .i64 0])
theorem lwish_any (q s:Int) (w:World):Calls Tryz.prog 231 #[.int .i64 q,.int .i64 s] w fun e w'=>(∃ u,e=.returned u/\WishR u)/\w'=w:=by
 cases h1:decide (q<0)
 rotate_left
 ·go_enter Tryz.func231,Tryz.ntmps231
  go_wp2_with fail
  go_ret2
  exact ⟨⟨_,rfl,.no⟩,rfl⟩
 cases h2:decide (1099511627776<q)
 rotate_left
 ·go_enter Tryz.func231,Tryz.ntmps231
  go_wp2_with fail
  go_ret2
  exact ⟨⟨_,rfl,.no⟩,rfl⟩
 cases h3:decide (s<1)
 rotate_left
 ·go_enter Tryz.func231,Tryz.ntmps231
  go_wp2_with fail
  go_ret2
  exact ⟨⟨_,rfl,.no⟩,rfl⟩
 cases h4:decide (86400<s)
 rotate_left
 ·go_enter Tryz.func231,Tryz.ntmps231
  go_wp2_with fail
  go_ret2
  exact ⟨⟨_,rfl,.no⟩,rfl⟩
 have a1:0<=q:=by simpa using h1
 have a2:q<=1099511627776:=by simpa using h2
 have a3:1<=s:=by have:=of_decide_eq_false h3;omega
 have a4:s<=86400:=by simpa using h4
 have m1:0<=q*s:=Int.mul_nonneg a1 om
 have m2:q*s<=1099511627776*86400:=Int.mul_le_mul a2 a4 om (by decide)
 have x1:IntKind.i64.wrap (q*s)=q*s:=IntWalk.i64_in _ om
 obtain ⟨p,hp⟩:∃ p,p=q*s:=⟨_,rfl⟩
 rw [<-hp] at x1 m1
 have HB:Hid (0<=min p 1125899906842624/\min p 1125899906842624<=1125899906842624):=qh om
 rw [hp] at x1
 rw [<-hp] at x1
 have x2:IntKind.i64.wrap (q*s)=p:=by rw [hp];rw [hp] at x1;exact x1
 clear a1 a2 a3 a4 m1 m2 hp x1
 go_enter Tryz.func231,Tryz.ntmps231
 go_wp2_with fail
 go_ret2
 exact ⟨⟨_,rfl,.ok _ HB.out⟩,rfl⟩
end Go.Proofs.YtoiakijmbghhlaaGreat
