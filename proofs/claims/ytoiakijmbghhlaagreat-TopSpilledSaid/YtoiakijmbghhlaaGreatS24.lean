/- links: On. Conditions: network, levels and state read as data. -/
import Derived.Test.YtoiakijmbghhlaaGreatS23
set_option linter.unusedVariables false
set_option linter.unusedSimpArgs false
set_option maxRecDepth 100000
set_option maxHeartbeats 32000000
namespace Go.Proofs.YtoiakijmbghhlaaGreat
open Go.RowKit
theorem undBo:Tryz.prog.underlying 29=some (.slice 4):=by kernel_rfl
theorem infBo:(Tryz.prog.info? 4).map (fun i=>(i.zero,i.size,i.bytes))=some (some (.bool false),1,1):=by kernel_rfl
inductive OnsR (base:Nat) (w:World) (ls:List Lk):Value->Prop
 | no (e:Int):e≠0->OnsR base w ls (.tuple #[.slice none 0 0,.int .i64 e])
 | ok (u:Value) (bs:List Bool):bs.length=ls.length->(∀ k,bs.getD k false=true->(ls.getD k default).Kind=4)->Own base 4 eBool 1 w u bs->OnsR base w ls (.tuple #[u,.int .i64 0])
theorem getD_snoc (bs:List Bool) (b:Bool) (k:Nat):(bs ++ [b]).getD k false=if k=bs.length then b else bs.getD k false:=by
 by_cases h:k<bs.length
 ·rw [if_neg om]
  simp [List.getD,List.getElem?_append_left h]
 ·by_cases h2:k=bs.length
  ·subst h2;simp [List.getD]
  ·rw [if_neg h2]
   simp [List.getD,List.getElem?_eq_none (show (bs ++ [b]).length<=k by simp;omega),List.getElem?_eq_none (show bs.length<=k by omega)]
theorem lon_any (n:Net) (ls:List Int) (lv:Value) (s:St) (w:World) (hg:gNet w n) (hls:IsInts w lv ls) (hgs:gSt w s) :
  Calls Tryz.prog 229 #[vNet n,vSt s,lv] w fun e w'=>(∃ u,e=.returned u/\OnsR w.heap.size w' n.Ls.xs u)/\Below w.heap.size w w':=by
 obtain ⟨W,hW⟩:∃ W,W=allocs w [((eNet n).toArray,25),((eSt s).toArray,31)]:=⟨_,rfl⟩
 have hbw:Below w.heap.size w W:=by rw [hW];exact allocs_below _ _
 have t0:W.heap[w.heap.size]? = some (.cells (eNet n).toArray 25 (0,0)):=by rw [hW];exact allocs_at [((eNet n).toArray,25),((eSt s).toArray,31)] w 0 (by simp)
 have t2:W.heap[w.heap.size+1]? = some (.cells (eSt s).toArray 31 (0,0)):=by rw [hW];exact allocs_at [((eNet n).toArray,25),((eSt s).toArray,31)] w 1 (by simp)
 have HW:Hid (W=(w.alloc (.cells (eNet n).toArray 25)).alloc (.cells (eSt s).toArray 31)):=qh hW
 have q0:W.cell? ⟨w.heap.size,0,none⟩=some (.slice n.Ns.a n.Ns.xs.length n.Ns.cap):=(tank_blk t0 0).trans rfl
 have q1:W.cell? ⟨w.heap.size,1,none⟩=some (.slice n.Ls.a n.Ls.xs.length n.Ls.cap):=(tank_blk t0 1).trans rfl
 have s0:W.cell? ⟨w.heap.size+1,0,none⟩=some (.slice s.V.a s.V.xs.length s.V.cap):=(tank_blk t2 0).trans rfl
 have s1:W.cell? ⟨w.heap.size+1,1,none⟩=some (.slice s.P.a s.P.xs.length s.P.cap):=(tank_blk t2 1).trans rfl
 have s2:W.cell? ⟨w.heap.size+1,2,none⟩=some (.slice s.S.a s.S.xs.length s.S.cap):=(tank_blk t2 2).trans rfl
 have s3:W.cell? ⟨w.heap.size+1,3,none⟩=some (.slice s.O.a s.O.xs.length s.O.cap):=(tank_blk t2 3).trans rfl
 have HG:=qh (rdNet.mono hg hbw)
 have HS:=qh (rdSt.mono hgs hbw)
 have HL:=qh (hls.mono hbw)
 have hsv:=svalid_any n s W HG.out HS.out
 obtain ⟨y1,h1⟩:∃ y,(netB n&&stB n s)=y:=⟨_,rfl⟩
 rw [h1] at hsv
 have HY:=qh h1
 obtain ⟨la,lc,rfl,-,-,-⟩:=hls
 clear hW t0 t2 hg hgs h1
 simp only [vNet,vSt,vSl] at hsv ⊢
 go_enter Tryz.func229,Tryz.ntmps229
 go_upto_region 1 with (fail)
 rw [<-HW.out]
 clear HW
 go_wp2_with fail
 refine Calls.to hsv ?_
 rintro e w2 rfl hb1
 have hbr:=hbw.trans (hb1.mono hbw.size)
 have hbW:=hb1
 have q0:=cel_lt q0 hb1
 have q1:=cel_lt q1 hb1
 have s0:=cel_lt s0 hb1
 have s1:=cel_lt s1 hb1
 have s2:=cel_lt s2 hb1
 have s3:=cel_lt s3 hb1
 clear hsv hb1
 cases y1
 ·clear q0 q1 s0 s1 s2 s3
  go_wp2_with fail
  go_ret2
  exact ⟨⟨_,rfl,.no _ (by decide)⟩,hbr⟩
 have hyy:=HY.out
 rw [Bool.and_eq_true] at hyy
 have hnl:=(netB_lens hyy.1).1
 have hll:=llevelled_any n ls _ w2 ((rdNet.mono HG.out hbW).1.isL) (HL.out.mono hbW) om
 obtain ⟨le,hle⟩:∃ le,le=levelE n.Ns.xs ls:=⟨_,rfl⟩
 rw [<-hle] at hll
 have HLE:=qh hle
 simp only [vNet,vSl] at hll
 clear hle hnl hyy
 go_wp2_with fail
 refine Calls.to hll ?_
 rintro e w4 rfl hb1
 have hbr:=hbr.trans (hb1.mono hbr.size)
 have hbW:=hbW.trans (hb1.mono hbW.size)
 have q0:=cel_lt q0 hb1
 have q1:=cel_lt q1 hb1
 have s0:=cel_lt s0 hb1
 have s1:=cel_lt s1 hb1
 have s2:=cel_lt s2 hb1
 have s3:=cel_lt s3 hb1
 clear hll hb1
 by_cases hl0:le=0
 rotate_left
 ·have k1:(le != 0)=true:=by simpa using hl0
  have k2:decide (le=0)=false:=decide_eq_false hl0
  have HNE:=qh hl0
  clear q0 q1 s0 s1 s2 s3 hl0
  go_wp2_with fail
  go_ret2
  exact ⟨⟨_,rfl,.no _ HNE.out⟩,hbr⟩
 have k1:(le != 0)=false:=by simpa using hl0
 have HLL:Hid (ls.length=n.Ns.xs.length):=qh (levelE_ok (by rw [<-HLE.out];exact hl0))
 clear hl0 HLE
 obtain ⟨m,hm⟩:∃ m,m=n.Ls.xs.length:=⟨_,rfl⟩
 have HM:=qh hm
 have hyy:=HY.out
 rw [Bool.and_eq_true] at hyy
 have hm4:m<2147483648:=by have:=(netB_lens hyy.1).2;omega
 have hSl:s.O.xs.length=m:=by
  have h:=hyy.2
  unfold stB stLen at h
  simp only [Bool.and_eq_true,decide_eq_true_eq] at h
  omega
 rw [hSl] at s3
 have HSL:=qh hSl
 have HE:Hid (∀ k (h:k<n.Ls.xs.length),0<=findNd n.Ns.xs n.Ls.xs[k].From/\findNd n.Ns.xs n.Ls.xs[k].From<n.Ns.xs.length):=qh (fun k h=>⟨(netB_lk hyy.1 k h).1,(findNd_bd _ _).2⟩)
 rw [<-hm] at q1
 clear hm hyy hSl
 go_wp2_with fail
 have HS4:=qh hbr.size
 go_loopw [9,29] (fun s9 s29 wr=>∃ (k:Nat) (bs:List Bool),k<=m/\s29=.int .i64 k/\Below w4.heap.size w4 wr/\Own w4.heap.size 4 eBool 1 wr s9 bs/\Hid (bs.length=k)/\Hid (∀ i,bs.getD i false=true->(n.Ls.xs.getD i default).Kind=4)) (fun _ s29 _=>m-(RowKit.intOf s29).toNat)
 case atStart=>exact ⟨0,[],Nat.zero_le _,rfl,qr,World.ownsRow_nil _ _ _ _,qh rfl,qh (fun i h=>by simp at h)⟩
 case round=>
  obtain ⟨k,bs,hk,rfl,hb,hO,hql,hqp⟩:=hrel
  obtain ⟨wo,hwo⟩:∃ wo,wo=wr:=⟨_,rfl⟩
  subst hwo
  have hbr:=hbr.trans (hb.mono hbr.size)
  have hbW:=hbW.trans (hb.mono hbW.size)
  have hyl:bs.length<2147483648:=by have:=hql.out;omega
  obtain ⟨oa,oc,rfl⟩:=hO.isSlice
  by_cases hkm:k<m
  ·have q0:=cel_lt q0 hb
   have q1:=cel_lt q1 hb
   have s0:=cel_lt s0 hb
   have s1:=cel_lt s1 hb
   have s2:=cel_lt s2 hb
   have s3:=cel_lt s3 hb
   have hkn:k<n.Ls.xs.length:=by rw [<-HM.out];exact hkm
   obtain ⟨b,off,ea,c0,c1,c2,c3,c4,c5,c6,c7,c8,c9,c10⟩:=((rdNet.mono HG.out hbW).2.2.2.1).lk k hkn
   have gS:=rdSt.mono HS.out hbW
   obtain ⟨b2,o2,ea1,e1⟩:=gS.2.2.2.2.2.1.boolAt k (by rw [HSL.out];exact hkm)
   obtain ⟨so,hso⟩:∃ so,so=s.O.xs[k]'(by rw [HSL.out];exact hkm):=⟨_,rfl⟩
   rw [<-hso] at e1
   rw [ea1] at s3
   have gx:=((rdNet.mono HG.out hbW).2.2.2.2 _ (List.getElem_mem hkn))
   have hke:=HE.out k hkn
   have hgd:n.Ls.xs.getD k default=n.Ls.xs[k]'hkn:=by simp [List.getD,List.getElem?_eq_getElem hkn]
   obtain ⟨x,hx⟩:∃ x,x=n.Ls.xs[k]'hkn:=⟨_,rfl⟩
   rw [<-hx] at c0 c1 c2 c3 c4 c5 c6 c7 c8 c9 c10 gx hke hgd
   have HX:=qh hgd
   have i1:decide (k<m)=true:=decide_eq_true hkm
   have x7:IntKind.i64.wrap ((k:Int)+1)=k+1:=IntWalk.i64_in _ om
   have i4:(0:Int)<=k:=by omega
   have i5:(k:Int)<m:=by omega
   have hbA:Below wo.heap.size wo (wo.alloc (.cells (eLk x).toArray 61)):=qr.alloc (Nat.le_refl _) _
   have hbx:=bxLk wo (wo.alloc (.cells (eLk x).toArray 61)) 61 x _ rfl _ rfl qr
   obtain ⟨W2,hW2⟩:∃ W2,W2=wo.alloc (.cells (eLk x).toArray 61):=⟨_,rfl⟩
   have HW2:=qh hW2
   rw [<-hW2] at hbA hbx
   obtain ⟨⟨k0,k1,k2⟩,⟨k3,k4,k5,k6⟩,k7,k8,k9,k10⟩:=hbx
   have HGX:=qh gx
   have HKE:=qh hke
   rw [ea] at q1
   have HKM:=qh hkm
   have EA:=qh ea
   have EA1:=qh ea1
   clear hx hso hW2 hkn hke gx gS hgd hkm
   go_upto_region 10 with (fail)
   rw [<-HW2.out]
   clear HW2 c0 c1 c2 c3 c4 c5 c6 c7 c8 c9 c10
   have q0:=cel_lt q0 hbA
   have q1:=cel_lt q1 hbA
   have s0:=cel_lt s0 hbA
   have s1:=cel_lt s1 hbA
   have s2:=cel_lt s2 hbA
   have s3:=cel_lt s3 hbA
   have e1:=cel_lt e1 hbA
   by_cases h4:x.Kind=4
   rotate_left
   ·have j4:(x.Kind==4)=false:=by rw [beq_eq_false_iff_ne];exact h4
    have j5:decide (x.Kind=4)=false:=decide_eq_false h4
    clear h4
    have hb8:=hb.trans (hbA.mono hb.size)
    have hO7:=hO.below hbA
    have hs7:w4.heap.size<=W2.heap.size:=hb8.size
    have h1c:∀ u∈eBool false,u.oneCell'=true:=by simp [Value.oneCell']
    clear hO hb hbr
    go_wp2_with (at_builtin;go_must (refine wpList_pushR rfl _ _ 29 rfl 4 _ 1 1 undBo infBo rfl (by decide) false (fun _=>rfl) h1c _ bs rfl hO7 W2.heap.size rfl rfl hyl (by decide) hs7 _ rfl ?_);intro g8 k8 w8 hR8)
    have hb9:=hb8.trans (hR8.below hO7 hs7)
    have hO8:=hR8.own
    clear hR8 hO7 h1c ea ea1
    first|rw [<-EA1.out]|skip
    first|rw [<-EA.out]|skip
    go_roundw
    case measure=>
     have:=HKM.out
     simp [RowKit.intOf,x7];omega
    case rel=>exact ⟨k+1,bs ++ [false],HKM.out,by go_num,hb9,hO8,qh (by rw [List.length_append,hql.out];rfl),qh (fun i hi=>by
     rw [getD_snoc] at hi
     by_cases h:i=bs.length
     ·rw [if_pos h] at hi
      rw [h,hql.out,HX.out]
      cases hi
     ·rw [if_neg h] at hi
      exact hqp.out i hi)⟩
   have j4:(x.Kind==4)=true:=by rw [h4];rfl
   have HK4:=qh h4
   have hen:=lends_any n x W2 ((rdNet.mono HG.out (hbW.trans (hbA.mono hbW.size))).1.isL)
   obtain ⟨fr,hfr⟩:∃ fr,fr=findNd n.Ns.xs x.From:=⟨_,rfl⟩
   obtain ⟨ft,hft⟩:∃ ft,ft=findNd n.Ns.xs x.To:=⟨_,rfl⟩
   have hke:=HKE.out
   rw [<-hfr] at hke hen
   rw [<-hft] at hen
   obtain ⟨f,rfl⟩:=Int.eq_ofNat_of_zero_le hke.1
   have hfl:f<ls.length:=by have:=HLL.out;omega
   have HFL:=qh hfl
   obtain ⟨ln,hln⟩:∃ ln,ln=ls.length:=⟨_,rfl⟩
   have i6:(0:Int)<=f:=by omega
   have i7:(f:Int)<ls.length:=by omega
   simp only [vNet,vLk,vSl] at hen
   simp only [<-HM.out,ea] at hen
   clear hke hfr hft hfl hln h4
   go_wp2_with fail
   refine Calls.to hen ?_
   rintro e w5 rfl hb5
   have hbB:=hbA.trans (hb5.mono hbA.size)
   have q0:=cel_lt q0 hb5
   have q1:=cel_lt q1 hb5
   have s0:=cel_lt s0 hb5
   have s1:=cel_lt s1 hb5
   have s2:=cel_lt s2 hb5
   have s3:=cel_lt s3 hb5
   have k0:=cel_lt k0 hb5
   have k1:=cel_lt k1 hb5
   have k2:=cel_lt k2 hb5
   have k3:=cel_lt k3 hb5
   have k4:=cel_lt k4 hb5
   have k5:=cel_lt k5 hb5
   have k6:=cel_lt k6 hb5
   have k7:=cel_lt k7 hb5
   have k8:=cel_lt k8 hb5
   have k9:=cel_lt k9 hb5
   have k10:=cel_lt k10 hb5
   have e1:=cel_lt e1 hb5
   obtain ⟨_,_,he,-,-,hD⟩:=HL.out.mono (hbW.trans (hbB.mono hbW.size))
   simp only [Value.slice.injEq] at he
   obtain ⟨hla,-,-⟩:=he
   subst hla
   obtain ⟨b3,o3,rfl,d0⟩:=hD.int f HFL.out
   obtain ⟨lvl,hlvl⟩:∃ lvl,lvl=ls[f]'HFL.out:=⟨_,rfl⟩
   rw [<-hlvl] at d0
   have hpu:=fun y=>ponx_any x so lvl (more w5 y) (rdLk.mono HGX.out (hbB.trans ((below_more w5 y).mono hbB.size)))
   obtain ⟨rb,hrb⟩:∃ rb,rb=(onM x so lvl).1:=⟨_,rfl⟩
   obtain ⟨re,hre⟩:∃ re,re=(onM x so lvl).2:=⟨_,rfl⟩
   simp only [vLk,vSl,<-hrb,<-hre] at hpu
   have HPU:=qh hpu
   have HRB:=qh hrb
   clear hen hb5 hbA hD hlvl hpu hrb hre
   go_upto_region 14 with (fail)
   refine wp_region_more_lit (by kernel_rfl) (by kernel_rfl) ?_
   repeat (go_big_quiet_step ((go_at_call 273;exact Calls.more_of (HPU.out _))))
   refine wpQuiet_nil ?_
   intro _ hwq
   obtain ⟨xq,hwq⟩:=hwq
   subst hwq
   have hbC:=hbB.trans ((below_more w5 xq).mono hbB.size)
   clear q0 q1 s0 s1 s2 s3 k0 k1 k2 k3 k4 k5 k6 k7 k8 k9 k10 e1 d0 HPU hbB
   generalize more w5 xq=w6 at *
   have hbr7:=hbr.trans (hbC.mono hbr.size)
   by_cases he0:re=0
   rotate_left
   ·have z1:(re != 0)=true:=by simpa using he0
    have HNE:=qh he0
    clear he0
    go_wp2_with fail
    go_ret2
    exact ⟨⟨_,rfl,.no _ HNE.out⟩,hbr7⟩
   have z1:(re != 0)=false:=by simpa using he0
   clear he0 hbr7
   have hb8:=hb.trans (hbC.mono hb.size)
   have hO7:=hO.below hbC
   have hs7:w4.heap.size<=w6.heap.size:=hb8.size
   have h1c:∀ u∈eBool rb,u.oneCell'=true:=by simp [Value.oneCell']
   clear hO hb hbr
   go_wp2_with (at_builtin;go_must (refine wpList_pushR rfl _ _ 29 rfl 4 _ 1 1 undBo infBo rfl (by decide) rb (fun _=>rfl) h1c _ bs rfl hO7 w6.heap.size rfl rfl hyl (by decide) hs7 _ rfl ?_);intro g8 k8 w8 hR8)
   have hb9:=hb8.trans (hR8.below hO7 hs7)
   have hO8:=hR8.own
   clear hR8 hO7 h1c ea ea1
   first|rw [<-EA1.out]|skip
   first|rw [<-EA.out]|skip
   go_roundw
   case measure=>
    have:=HKM.out
    simp [RowKit.intOf,x7];omega
   case rel=>exact ⟨k+1,bs ++ [rb],HKM.out,by go_num,hb9,hO8,qh (by rw [List.length_append,hql.out];rfl),qh (fun i hi=>by
    rw [getD_snoc] at hi
    by_cases h:i=bs.length
    ·rw [if_pos h] at hi
     rw [h,hql.out,HX.out]
     exact HK4.out
    ·rw [if_neg h] at hi
     exact hqp.out i hi)⟩
  ·have i1:decide (k<m)=false:=decide_eq_false hkm
   have hqm:bs.length=n.Ls.xs.length:=by have:=hql.out;have:=HM.out;omega
   have hIs:=hO.base HS4.out
   have HQ:=qh (And.intro hqm hIs)
   clear hqm hIs hO q0 q1 s0 s1 s2 s3
   go_wp2_with fail
   go_ret2
   exact ⟨⟨_,rfl,.ok _ bs HQ.out.1 hqp.out HQ.out.2⟩,hbr⟩
end Go.Proofs.YtoiakijmbghhlaaGreat
