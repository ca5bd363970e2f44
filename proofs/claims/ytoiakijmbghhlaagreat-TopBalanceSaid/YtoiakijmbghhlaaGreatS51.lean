/- control.Run, walked. Conditions: the arguments read as data. -/
import Derived.Test.YtoiakijmbghhlaaGreatS38
import Derived.Test.YtoiakijmbghhlaaGreatS50
set_option linter.unusedVariables false
set_option linter.unusedSimpArgs false
set_option maxRecDepth 100000
set_option maxHeartbeats 32000000
namespace Go.Proofs.YtoiakijmbghhlaaGreat
open Go.RowKit Go.Maps
theorem undSts:Tryz.prog.underlying 37=some (.slice 31):=by kernel_rfl
theorem infSt:(Tryz.prog.info? 31).map (fun i=>(i.zero,i.size,i.bytes))=some (some (.agg #[.slice none 0 0,.slice none 0 0,.slice none 0 0,.slice none 0 0]),4,96):=by kernel_rfl
theorem undLeds:Tryz.prog.underlying 38=some (.slice 56):=by kernel_rfl
theorem infLed:(Tryz.prog.info? 56).map (fun i=>(i.zero,i.size,i.bytes))=some (some (.agg #[.int .i64 0,.int .i64 0,.slice none 0 0]),3,40):=by kernel_rfl
theorem ctrun_any (n:Net) (ss:List SecD) (vS:Value) (rs:Sl RuD) (x:St) (ins:Sl InD) (sec steps:Int) (w:World) (hg:gNet w n) (hs:IsSecs w vS ss) (hr:gRus w rs) (hgs:gSt w x) (hi:gIns w ins) (hst:(Lit.int .i64 steps).wf=true) :
  Calls Tryz.prog 9 #[vNet n,vS,vSl rs,vSt x,vSl ins,.int .i64 sec,.int .i64 steps] w fun e w'=>(∃ u,e=.returned u/\RunOut w' n x ins.xs steps u)/\Below w.heap.size w w':=by
 obtain ⟨L,hL⟩:∃ L:List (Array Value×TypeId),L = [((eNet n).toArray,25),((eSt x).toArray,31)]:=⟨_,rfl⟩
 obtain ⟨W,hW⟩:∃ W,W=allocs w L:=⟨_,rfl⟩
 have hbw:Below w.heap.size w W:=by rw [hW];exact allocs_below _ _
 have t7:W.heap[w.heap.size]? = some (.cells (eNet n).toArray 25 (0,0)):=by rw [hW,hL];exact allocs_at _ w 0 (by simp)
 have t10:W.heap[w.heap.size+1]? = some (.cells (eSt x).toArray 31 (0,0)):=by rw [hW,hL];exact allocs_at _ w 1 (by simp)
 have HW:Hid (W=((w.alloc (.cells (eNet n).toArray 25)).alloc (.cells (eSt x).toArray 31))):=qh (by rw [hW,hL];rfl)
 have hsz:w.heap.size+1<W.heap.size:=(Array.getElem?_eq_some_iff.1 t10).1
 clear hW hL
 have HG:=qh hg
 have HS:=qh hs
 have HR:=qh hr
 have HGS:=qh hgs
 have HI:=qh hi
 obtain ⟨b7,h7⟩:∃ b,b=w.heap.size:=⟨_,rfl⟩
 obtain ⟨b10,h10⟩:∃ b,b=w.heap.size+1:=⟨_,rfl⟩
 have HB:Hid (b7=w.heap.size/\b10=w.heap.size+1/\b10<W.heap.size):=qh ⟨h7,h10,by omega⟩
 have hva:=catvalid_any ss vS W (hs.mono hbw)
 obtain ⟨c1,hc1⟩:∃ b,catB ss=b:=⟨_,rfl⟩
 rw [hc1] at hva
 have hwf : -9223372036854775808<=steps/\steps<9223372036854775808:=by
  have h:IntKind.i64.min<=steps/\steps<=9223372036854775807:=by simpa [Lit.wf] using hst
  rw [show IntKind.i64.min = -9223372036854775808 from rfl] at h
  omega
 clear hg hs hr hgs hc1 hi hst
 simp only [vNet,vSt,vSl]
 go_enter Tryz.func9,Tryz.ntmps9
 go_upto_region 1 with (fail)
 try simp only [Nat.add_assoc,Nat.reduceAdd]
 rw [<-HW.out]
 rw [<-h10] at t10 ⊢
 rw [<-h7] at t7 ⊢
 clear HW h7 h10
 have T7:=qh t7
 have T10:=qh t10
 clear t7 t10
 have hbr:=hbw
 have hbW:Below W.heap.size W W:=qr
 have q0:W.cell? ⟨b7,0,none⟩=some (.slice n.Ns.a n.Ns.xs.length n.Ns.cap):=(tank_blk T7.out 0).trans rfl
 have q1:W.cell? ⟨b7,1,none⟩=some (.slice n.Ls.a n.Ls.xs.length n.Ls.cap):=(tank_blk T7.out 1).trans rfl
 have s0:W.cell? ⟨b10,0,none⟩=some (.slice x.V.a x.V.xs.length x.V.cap):=(tank_blk T10.out 0).trans rfl
 have s1:W.cell? ⟨b10,1,none⟩=some (.slice x.P.a x.P.xs.length x.P.cap):=(tank_blk T10.out 1).trans rfl
 have s2:W.cell? ⟨b10,2,none⟩=some (.slice x.S.a x.S.xs.length x.S.cap):=(tank_blk T10.out 2).trans rfl
 have s3:W.cell? ⟨b10,3,none⟩=some (.slice x.O.a x.O.xs.length x.O.cap):=(tank_blk T10.out 3).trans rfl
 go_wp2_with fail
 refine Calls.to hva ?_
 rintro e w1 rfl hb1
 replace q0:=cel_lt q0 hb1
 replace q1:=cel_lt q1 hb1
 replace s0:=cel_lt s0 hb1
 replace s1:=cel_lt s1 hb1
 replace s2:=cel_lt s2 hb1
 replace s3:=cel_lt s3 hb1
 replace hbr:=hbr.trans ((hb1).mono hbr.size)
 replace hbW:=hbW.trans ((hb1).mono hbW.size)
 clear hva hb1
 cases c1
 ·go_upto_region 2 with (fail)
  go_wp2_with fail
  go_ret3
  exact ⟨⟨_,rfl,.no _ (by decide)⟩,hbr⟩
 have hrv:=ruvalid_any rs w1 (rdRus.mono HR.out hbr)
 simp only [vSl] at hrv
 go_wp2_with fail
 refine Calls.to hrv ?_
 rintro e w2 ⟨c2,rfl⟩ hb1
 replace q0:=cel_lt q0 hb1
 replace q1:=cel_lt q1 hb1
 replace s0:=cel_lt s0 hb1
 replace s1:=cel_lt s1 hb1
 replace s2:=cel_lt s2 hb1
 replace s3:=cel_lt s3 hb1
 replace hbr:=hbr.trans ((hb1).mono hbr.size)
 replace hbW:=hbW.trans ((hb1).mono hbW.size)
 clear hrv hb1
 cases c2
 ·go_upto_region 2 with (fail)
  go_wp2_with fail
  go_ret3
  exact ⟨⟨_,rfl,.no _ (by decide)⟩,hbr⟩
 have hsv:=svalid_any n x w2 (rdNet.mono HG.out hbr) (rdSt.mono HGS.out hbr)
 obtain ⟨c3,hc3⟩:∃ b,(netB n&&stB n x)=b:=⟨_,rfl⟩
 rw [hc3] at hsv
 have HC3:=qh hc3
 clear hc3
 simp only [vNet,vSt,vSl] at hsv
 go_wp2_with fail
 refine Calls.to hsv ?_
 rintro e w3 rfl hb1
 replace q0:=cel_lt q0 hb1
 replace q1:=cel_lt q1 hb1
 replace s0:=cel_lt s0 hb1
 replace s1:=cel_lt s1 hb1
 replace s2:=cel_lt s2 hb1
 replace s3:=cel_lt s3 hb1
 replace hbr:=hbr.trans ((hb1).mono hbr.size)
 replace hbW:=hbW.trans ((hb1).mono hbW.size)
 clear hsv hb1
 cases c3
 ·go_upto_region 2 with (fail)
  go_wp2_with fail
  go_ret3
  exact ⟨⟨_,rfl,.no _ (by decide)⟩,hbr⟩
 have HNB:Hid (netB n=true/\stB n x=true):=qh (by have:=HC3.out;rwa [Bool.and_eq_true] at this)
 clear HC3
 by_cases h0:steps<0
 ·have d0:decide (steps<0)=true:=decide_eq_true h0
  clear h0
  go_upto_region 4 with (fail)
  go_wp2_with fail
  go_ret3
  exact ⟨⟨_,rfl,.no _ (by decide)⟩,hbr⟩
 obtain ⟨K,rfl⟩:=Int.eq_ofNat_of_zero_le (show 0<=steps by omega)
 by_cases h1:10000<K
 ·have d0:decide ((K:Int)<0)=false:=decide_eq_false om
  have d1:decide ((10000:Int)<K)=true:=decide_eq_true om
  have d2:decide (10000<K)=true:=decide_eq_true h1
  clear h0 h1
  go_upto_region 4 with (fail)
  go_wp2_with fail
  go_ret3
  exact ⟨⟨_,rfl,.no _ (by decide)⟩,hbr⟩
 have d0:decide ((K:Int)<0)=false:=decide_eq_false om
 have d1:decide ((10000:Int)<K)=false:=decide_eq_false om
 have d2:decide (10000<K)=false:=decide_eq_false h1
 have HK:Hid (K<=10000):=qh om
 clear h0 h1 hwf
 have hwr:=ctwrong_any n ins w3 (rdNet.mono HG.out hbr) HNB.out.1 (rdIns.mono HI.out hbr)
 simp only [vNet,vSl] at hwr
 go_wp2_with fail
 refine Calls.to hwr ?_
 rintro e w4 ⟨er,rfl,hgood⟩ hb1
 replace q0:=cel_lt q0 hb1
 replace q1:=cel_lt q1 hb1
 replace s0:=cel_lt s0 hb1
 replace s1:=cel_lt s1 hb1
 replace s2:=cel_lt s2 hb1
 replace s3:=cel_lt s3 hb1
 replace hbr:=hbr.trans ((hb1).mono hbr.size)
 replace hbW:=hbW.trans ((hb1).mono hbW.size)
 clear hwr hb1 d0 d1 d2
 by_cases hz:er=0
 rotate_left
 ·have z1:(er != 0)=true:=by simpa using hz
  have HNE:=qh hz
  clear hz hgood
  go_upto_region 7 with (fail)
  go_wp2_with fail
  go_ret3
  exact ⟨⟨_,rfl,.no _ HNE.out⟩,hbr⟩
 have z1:(er != 0)=false:=by simpa using hz
 have HGO:=qh (hgood hz)
 subst hz
 clear hgood
 have hR0:Hid (RunI W.heap.size b7 b10 w4 (.slice none 0 0) (.slice none 0 0) n x ins.xs [] [] x 0):=qh
  ⟨World.ownsRow_nil _ _ _ _,World.ownsRow_nil _ _ _ _,fun g h=>(by simp [Value.ownBlock] at h),fun s h=>absurd h List.not_mem_nil,fun s h=>absurd h List.not_mem_nil,rdSt.mono HGS.out hbr,rfl,rfl,RunCh.nil _ _ _,rfl,blk_mono T7.out hbW,blk_mono T10.out hbW⟩
 clear q0 q1 s0 s1 s2 s3
 go_upto_region 11 with (fail)
 have HBR:=qh (And.intro hbr hbW.size)
 clear hbr hbW z1
 go_loopw [18,19,53] (fun s18 s19 s53 wr=>∃ (k:Nat) (sts:List St) (leds:List Led) (xk:St),k<=K/\s53=.int .i64 k/\Hid (Below w.heap.size w wr/\W.heap.size<=wr.heap.size)/\Hid (RunI W.heap.size b7 b10 wr s18 s19 n x ins.xs sts leds xk k)) (fun _ _ s53 _=>K-(RowKit.intOf s53).toNat)
 case atStart=>exact ⟨0,[],[],x,Nat.zero_le _,rfl,HBR,hR0⟩
 clear HBR hR0
 case round=>
  obtain ⟨k,sts,leds,xk,hk,rfl,HBR,HI0⟩:=hrel
  obtain ⟨wo,hwo⟩:∃ wo,wo=wr:=⟨_,rfl⟩
  subst hwo
  by_cases hkK:k<K
  ·have i1:decide (k<K)=true:=decide_eq_true hkK
   have HKK:=qh hkK
   clear hkK hk
   go_upto_region 13 with (fail)
   refine wp_y0 rfl (fun y0 hy0=>?_)
   have e1:y0 1=vS:=(congrArg (fun a:Act=>a.tmps.getD 1 undef) hy0).symm
   have e2:y0 2=vSl rs:=(congrArg (fun a:Act=>a.tmps.getD 2 undef) hy0).symm
   have e4:y0 4=vSl ins:=(congrArg (fun a:Act=>a.tmps.getD 4 undef) hy0).symm
   have e5:y0 5=.int .i64 sec:=(congrArg (fun a:Act=>a.tmps.getD 5 undef) hy0).symm
   have e7:y0 7=.pointer (some ⟨b7,0,none⟩):=(congrArg (fun a:Act=>a.tmps.getD 7 undef) hy0).symm
   have e10:y0 10=.pointer (some ⟨b10,0,none⟩):=(congrArg (fun a:Act=>a.tmps.getD 10 undef) hy0).symm
   have e20:y0 20=.int .i64 k:=(congrArg (fun a:Act=>a.tmps.getD 20 undef) hy0).symm
   have HY0:=qh hy0
   clear hy0
   obtain ⟨C,hC⟩:∃ C:CrC,C=⟨n,vS,vSl rs,xk,vSl ins,k,sec,fun q=>q.length=n.Ns.xs.length/\∀ i,i<n.Ns.xs.length->q.getD i 0=atQ n ins.xs k i⟩:=⟨_,rfl⟩
   refine wp_region_rk (crI C wo y0) (by kernel_rfl) [0,1,2,3,4,5,6,7,8,9,10,11,12,13,14,15,16,17,18] (by kernel_rfl) (fun l a W h=>h.1) ?step ?fin ?start
   case start=>
    refine ⟨by simp,y0,⟨[],⟨xk,⟨0,0,⟨none,0,[]⟩⟩,0⟩,0,0⟩,rfl,Below.drew qr,fun _ _=>rfl,fun j hj h=>?_⟩
    exfalso
    simp [Array.getD] at h
   case step=>
    intro l a W' i o hI ho hun hdeps
    obtain ⟨hz,y,E,rfl,hb,hy,hF⟩:=hI
    have hi19:i<19:=(Array.getElem?_eq_some_iff.1 ho).1
    have v7:=(hb.block b7 (by have:=HB.out;have:=HBR.out.2;omega)).trans HI0.out.k7
    have v10:=(hb.block b10 (by have:=HB.out;have:=HBR.out.2;omega)).trans HI0.out.k10
    have c0:W'.cell? ⟨b7,0,none⟩=some (.slice n.Ns.a n.Ns.xs.length n.Ns.cap):=(tank_blk v7 0).trans rfl
    have c1:W'.cell? ⟨b7,1,none⟩=some (.slice n.Ls.a n.Ls.xs.length n.Ls.cap):=(tank_blk v7 1).trans rfl
    have s0:W'.cell? ⟨b10,0,none⟩=some (.slice xk.V.a xk.V.xs.length xk.V.cap):=(tank_blk v10 0).trans rfl
    have s1:W'.cell? ⟨b10,1,none⟩=some (.slice xk.P.a xk.P.xs.length xk.P.cap):=(tank_blk v10 1).trans rfl
    have s2:W'.cell? ⟨b10,2,none⟩=some (.slice xk.S.a xk.S.xs.length xk.S.cap):=(tank_blk v10 2).trans rfl
    have s3:W'.cell? ⟨b10,3,none⟩=some (.slice xk.O.a xk.O.xs.length xk.O.cap):=(tank_blk v10 3).trans rfl
    have hbw':=HBR.out.1.trans (hb.mono HBR.out.1.size)
    rcases (show i=0\/i=1\/i=2\/i=3\/i=4\/i=5\/i=6\/i=7\/i=8\/i=9\/i=10\/i=11\/i=12\/i=13\/i=14\/i=15\/i=16\/i=17\/i=18 by omega) with rfl|rfl|rfl|rfl|rfl|rfl|rfl|rfl|rfl|rfl|rfl|rfl|rfl|rfl|rfl|rfl|rfl|rfl|rfl
    ·have e:y 7=_:=(hy 7 (by unfold crT;omega)).trans e7
     skip
     refine wpOp_step rfl (fun K hK=>?_)
     rw [if_pos (by rfl)]
     go_simp
     refine hK _ _ (cr_pure hz hb hy hF (i:=0) om (vNet n) ?_ (by rw [hC];rfl))
     first|rfl|simp [crA,updV,crS,e]
    ·have e:y 1=_:=(hy 1 (by unfold crT;omega)).trans e1
     skip
     refine wpOp_step rfl (fun K hK=>?_)
     rw [if_pos (by rfl)]
     go_simp
     refine hK _ _ (cr_pure hz hb hy hF (i:=1) om (vS) ?_ (by rw [hC];rfl))
     first|rfl|simp [crA,updV,crS,e]
    ·have e:y 2=_:=(hy 2 (by unfold crT;omega)).trans e2
     skip
     refine wpOp_step rfl (fun K hK=>?_)
     rw [if_pos (by rfl)]
     go_simp
     refine hK _ _ (cr_pure hz hb hy hF (i:=2) om (vSl rs) ?_ (by rw [hC];rfl))
     first|rfl|simp [crA,updV,crS,e]
    ·have e:y 10=_:=(hy 10 (by unfold crT;omega)).trans e10
     skip
     refine wpOp_step rfl (fun K hK=>?_)
     rw [if_pos (by rfl)]
     go_simp
     refine hK _ _ (cr_pure hz hb hy hF (i:=3) om (vSt xk) ?_ (by rw [hC];rfl))
     first|rfl|simp [crA,updV,crS,e]
    ·have e:y 7=_:=(hy 7 (by unfold crT;omega)).trans e7
     skip
     refine wpOp_step rfl (fun K hK=>?_)
     rw [if_pos (by rfl)]
     go_simp
     refine hK _ _ (cr_pure hz hb hy hF (i:=4) om (vNet n) ?_ (by rw [hC];rfl))
     first|rfl|simp [crA,updV,crS,e]
    ·have e:y 4=_:=(hy 4 (by unfold crT;omega)).trans e4
     skip
     refine wpOp_step rfl (fun K hK=>?_)
     rw [if_pos (by rfl)]
     go_simp
     refine hK _ _ (cr_pure hz hb hy hF (i:=5) om (vSl ins) ?_ (by rw [hC];rfl))
     first|rfl|simp [crA,updV,crS,e]
    ·have e:y 20=_:=(hy 20 (by unfold crT;omega)).trans e20
     skip
     refine wpOp_step rfl (fun K hK=>?_)
     rw [if_pos (by rfl)]
     go_simp
     refine hK _ _ (cr_pure hz hb hy hF (i:=6) om (.int .i64 k) ?_ (by rw [hC];rfl))
     first|rfl|simp [crA,updV,crS,e]
    ·obtain rfl:=Option.some.inj (show some _=some o from ho)
     have e61:y 61=vNet n:=(hF 4 om (hdeps ⟨4,.data⟩ (by simp) rfl)).trans (by rw [hC])
     have e62:y 62=vSl ins:=(hF 5 om (hdeps ⟨5,.data⟩ (by simp) rfl)).trans (by rw [hC])
     have e63:y 63=.int .i64 k:=(hF 6 om (hdeps ⟨6,.data⟩ (by simp) rfl)).trans (by rw [hC])
     have hat:=ctat_any n ins k W' (rdNet.mono HG.out hbw') HNB.out.1 (rdIns.mono HI.out hbw') (by have:=HKK.out;have:=HK.out;omega)
     simp only [vNet,vSl] at e61 e62 hat
     refine wpOp_step rfl (fun K hK=>?_)
     rw [if_pos (by rfl)]
     go_simp
     go_at_call 57
     refine hat.mono ?_
     rintro e' w' ⟨⟨u,qs,rfl,hown,hq1,hq2,hq3⟩,hbel⟩
     refine hK _ _ (cr_mem hz hb hy hF (i:=7) (.inl rfl) hun u (E':=⟨qs,E.R,E.b1,E.b2⟩) hbel (fun h=>absurd rfl h) (fun _=>rfl) (fun _=>rfl) (fun _=>rfl) (fun h=>absurd h (by decide)) (fun h=>absurd h (by decide)) ?_ ⟨by rw [hC];exact ⟨hq1,hq2⟩,fun _=>?_⟩)
     ·first|rfl|simp [crA,updV,crS,e61,e62,e63]
     ·exact hown.isL (fun _=>rfl)
    ·have e:y 5=_:=(hy 5 (by unfold crT;omega)).trans e5
     skip
     refine wpOp_step rfl (fun K hK=>?_)
     rw [if_pos (by rfl)]
     go_simp
     refine hK _ _ (cr_pure hz hb hy hF (i:=8) om (.int .i64 sec) ?_ (by rw [hC];rfl))
     first|rfl|simp [crA,updV,crS,e]
    ·obtain rfl:=Option.some.inj (show some _=some o from ho)
     have e57:y 57=vNet n:=(hF 0 om (hdeps ⟨0,.data⟩ (by simp) rfl)).trans (by rw [hC])
     have e58:y 58=vS:=(hF 1 om (hdeps ⟨1,.data⟩ (by simp) rfl)).trans (by rw [hC])
     have e59:y 59=vSl rs:=(hF 2 om (hdeps ⟨2,.data⟩ (by simp) rfl)).trans (by rw [hC])
     have e60:y 60=vSt xk:=(hF 3 om (hdeps ⟨3,.data⟩ (by simp) rfl)).trans (by rw [hC])
     have f7:=hF 7 om (hdeps ⟨7,.data⟩ (by simp) rfl)
     have e65:y 65=.int .i64 sec:=(hF 8 om (hdeps ⟨8,.data⟩ (by simp) rfl)).trans (by rw [hC])
     have d7:l.getD 7 false=true:=(hdeps ⟨7,.data⟩ (by simp) rfl)
     have hct:=ctstep_any n ss vS rs xk E.q (y 64) sec W' (rdNet.mono HG.out hbw') (HS.out.mono hbw') (rdRus.mono HR.out hbw') (rdSt.mono HI0.out.cur hb) (f7.2 (by rw [<-getD_tf om];exact hun))
     simp only [vNet,vSt,vSl] at e57 e59 e60 hct
     refine wpOp_step rfl (fun K hK=>?_)
     rw [if_pos (by rfl)]
     go_simp
     go_at_call 56
     refine hct.mono ?_
     rintro e' w' ⟨⟨u,rfl,hu⟩,hbel⟩
     obtain ⟨R,rfl,hR⟩:=hu.res
     refine hK _ _ (cr_mem hz hb hy hF (i:=9) (.inr (.inl rfl)) hun R.V (E':=⟨E.q,R,E.b1,E.b2⟩) hbel (fun _=>rfl) (fun h=>absurd rfl h) (fun _=>rfl) (fun _=>rfl) (fun h=>absurd h (by decide)) (fun h=>absurd h (by decide)) ?_ ⟨getD_setOf om d7,rfl,W',w',hb.size,Nat.le_refl _,by rw [hC];exact hR,fun _ _ _=>rfl,fun h=>.inl ?_,fun h=>.inl ?_⟩)
     ·first|rfl|simp [crA,updV,crS,e57,e58,e59,e60,e65]
     ·rw [getD_setF om] at h
      exact (hF 14 om h).2.2.1
     ·rw [getD_setF om] at h
      exact (hF 15 om h).2.2.1
    ·have f:=hF 9 om (hdeps ⟨9,.data⟩ (by obtain rfl:=Option.some.inj (show some _=some o from ho);simp) rfl)
     have e:=f.2.1
     refine wpOp_step rfl (fun K hK=>?_)
     rw [if_pos (by rfl)]
     go_simp
     refine hK _ _ (cr_pure hz hb hy hF (i:=10) om (E.R.V) ?_ ⟨getD_setOf om (hdeps ⟨9,.data⟩ (by obtain rfl:=Option.some.inj (show some _=some o from ho);simp) rfl),rfl⟩)
     first|rfl|simp [crA,updV,crS,e]
    ·have f:=hF 10 om (hdeps ⟨10,.data⟩ (by obtain rfl:=Option.some.inj (show some _=some o from ho);simp) rfl)
     have e:=f.2
     refine wpOp_step rfl (fun K hK=>?_)
     rw [if_pos (by rfl)]
     go_simp
     refine hK _ _ (cr_pure hz hb hy hF (i:=11) om (E.R.A) ?_ ⟨getD_setOf om f.1,rfl⟩)
     first|rfl|simp [crA,updV,crS,e]
    ·have f:=hF 10 om (hdeps ⟨10,.data⟩ (by obtain rfl:=Option.some.inj (show some _=some o from ho);simp) rfl)
     have e:=f.2
     refine wpOp_step rfl (fun K hK=>?_)
     rw [if_pos (by rfl)]
     go_simp
     refine hK _ _ (cr_pure hz hb hy hF (i:=12) om (E.R.L) ?_ ⟨getD_setOf om f.1,rfl⟩)
     first|rfl|simp [crA,updV,crS,e]
    ·have f:=hF 10 om (hdeps ⟨10,.data⟩ (by obtain rfl:=Option.some.inj (show some _=some o from ho);simp) rfl)
     have e:=f.2
     refine wpOp_step rfl (fun K hK=>?_)
     rw [if_pos (by rfl)]
     go_simp
     refine hK _ _ (cr_pure hz hb hy hF (i:=13) om (.int .i64 E.R.e) ?_ ⟨getD_setOf om f.1,rfl⟩)
     first|rfl|simp [crA,updV,crS,e]
    ·refine wpOp_step rfl (fun K hK=>?_)
     rw [if_pos (by rfl)]
     go_simp
     refine hK _ _ (cr_box14 hz hb hy hF hun ?_)
     first|rfl|simp [crA,updV,crS]
    ·refine wpOp_step rfl (fun K hK=>?_)
     rw [if_pos (by rfl)]
     go_simp
     refine hK _ _ (cr_box15 hz hb hy hF hun ?_)
     first|rfl|simp [crA,updV,crS]
    ·obtain rfl:=Option.some.inj (show some _=some o from ho)
     have f11:=hF 11 om (hdeps ⟨11,.data⟩ (by simp) rfl)
     have d14:l.getD 14 false=true:=(hdeps ⟨14,.data⟩ (by simp) rfl)
     have f14:=hF 14 om d14
     have e67:=f11.2
     have e21:=f14.1
     have hbk:=f14.2.2.2.1
     rw [show l.getD 16 false=false from by rw [<-getD_tf om];exact hun] at hbk
     have k0:=(tank_blk hbk 0).trans rfl
     have g0:=tank_free hbk 0
     have g1:=tank_free hbk 1
     have g2:=tank_free hbk 2
     have g3:=tank_free hbk 3
     have v0:W'.cell? ⟨E.b1,0,none⟩=some (.slice none 0 0):=(tank_blk hbk 0).trans rfl
     have v1:W'.cell? ⟨E.b1,1,none⟩=some (.slice none 0 0):=(tank_blk hbk 1).trans rfl
     have v2:W'.cell? ⟨E.b1,2,none⟩=some (.slice none 0 0):=(tank_blk hbk 2).trans rfl
     have v3:W'.cell? ⟨E.b1,3,none⟩=some (.slice none 0 0):=(tank_blk hbk 3).trans rfl
     have hfin:=cr_set16 (a:=crA y) hz hb hy hF hun f11.1 d14 rfl
     unfold set4 at hfin
     refine wpOp_step rfl (fun K hK=>?_)
     rw [if_pos (by rfl)]
     go_simp
     exact hK _ _ hfin
    ·obtain rfl:=Option.some.inj (show some _=some o from ho)
     have f11:=hF 12 om (hdeps ⟨12,.data⟩ (by simp) rfl)
     have d14:l.getD 15 false=true:=(hdeps ⟨15,.data⟩ (by simp) rfl)
     have f14:=hF 15 om d14
     have e67:=f11.2
     have e21:=f14.1
     have hbk:=f14.2.2.2.1
     rw [show l.getD 17 false=false from by rw [<-getD_tf om];exact hun] at hbk
     have g0:=tank_free hbk 0
     have g1:=tank_free hbk 1
     have g2:=tank_free hbk 2
     have v0:W'.cell? ⟨E.b2,0,none⟩=some (.int .i64 0):=(tank_blk hbk 0).trans rfl
     have v1:W'.cell? ⟨E.b2,1,none⟩=some (.int .i64 0):=(tank_blk hbk 1).trans rfl
     have v2:W'.cell? ⟨E.b2,2,none⟩=some (.slice none 0 0):=(tank_blk hbk 2).trans rfl
     have hfin:=cr_set17 (a:=crA y) hz hb hy hF hun f11.1 d14 rfl
     unfold set3 at hfin
     refine wpOp_step rfl (fun K hK=>?_)
     rw [if_pos (by rfl)]
     go_simp
     exact hK _ _ hfin
    ·have f:=hF 13 om (hdeps ⟨13,.data⟩ (by obtain rfl:=Option.some.inj (show some _=some o from ho);simp) rfl)
     have e:=f.2
     refine wpOp_step rfl (fun K hK=>?_)
     rw [if_pos (by rfl)]
     go_simp
     refine hK _ _ (cr_pure hz hb hy hF (i:=18) om (.int .i64 E.R.e) ?_ ⟨getD_setOf om f.1,rfl⟩)
     first|rfl|simp [crA,updV,crS,e]
   case fin=>
    intro l a W' hI hall
    obtain ⟨hz,y,E,rfl,hb,hy,hF⟩:=hI
    obtain ⟨q,⟨s',g,er⟩,b21,b22⟩:=E
    have f7:=hF 7 om (hall 7 (by decide))
    have f9:=hF 9 om (hall 9 (by decide))
    have f14:=hF 14 om (hall 14 (by decide))
    have f15:=hF 15 om (hall 15 (by decide))
    have f18:=hF 18 om (hall 18 (by decide))
    obtain ⟨-,-,w8,w9,k3,k4,k5,k6,-,-⟩:=f9
    have hok:StR.ok ⟨s',g,er⟩ wo.heap.size W' C.n C.x q:=k5.near k3 k6
    obtain ⟨e21,m1,m2,m3,m4,-⟩:=f14
    obtain ⟨e22,n1,n2,n3,-,-⟩:=f15
    have e23:=f18.2
    rw [show l.getD 16 false=true from hall 16 (by decide)] at m3
    rw [show l.getD 17 false=true from hall 17 (by decide)] at n3
    have m5:=m4 (hall 15 (by decide))
    dsimp only [cond_true] at e21 e22 e23 m1 m2 m3 m5 n1 n2 n3 f7
    have hq:=f7.1
    subst hC
    dsimp only at hq hok
    have hbr:=HBR.out.1.trans (hb.mono HBR.out.1.size)
    have hwo:=HBR.out.2
    have hlt10:b10<wo.heap.size:=by have:=HB.out;omega
    have v10:=(hb.block b10 hlt10).trans HI0.out.k10
    have hne:b21≠b10:=by omega
    have hact:=cr_fin HY0.out hy
    rw [e21,e22,e23] at hact
    dsimp only at hact
    rw [hact]
    clear hact e21 e22 e23 f18 f7 hF hall hy HY0 e1 e2 e4 e5 e7 e10 e20 k3 k4 k5 k6 m4
    generalize y 56=z56
    generalize y 57=z57
    generalize y 58=z58
    generalize y 59=z59
    generalize y 60=z60
    generalize y 61=z61
    generalize y 62=z62
    generalize y 63=z63
    generalize y 64=z64
    generalize y 65=z65
    generalize y 66=z66
    generalize y 67=z67
    generalize y 68=z68
    generalize y 69=z69
    clear y y0
    have v0:W'.cell? ⟨b21,0,none⟩=some (.slice s'.V.a s'.V.xs.length s'.V.cap):=(tank_blk m3 0).trans rfl
    have v1:W'.cell? ⟨b21,1,none⟩=some (.slice s'.P.a s'.P.xs.length s'.P.cap):=(tank_blk m3 1).trans rfl
    have v2:W'.cell? ⟨b21,2,none⟩=some (.slice s'.S.a s'.S.xs.length s'.S.cap):=(tank_blk m3 2).trans rfl
    have v3:W'.cell? ⟨b21,3,none⟩=some (.slice s'.O.a s'.O.xs.length s'.O.cap):=(tank_blk m3 3).trans rfl
    have HM:=qh (And.intro m3 (And.intro n3 (And.intro m1 (And.intro n1 (And.intro m2 n2)))))
    clear m1 m2 m3 n1 n2 n3
    by_cases hz:er=0
    rotate_left
    ·have z1:(er != 0)=true:=by simpa using hz
     have HNE:=qh hz
     clear hz
     go_upto_region 15 with (fail)
     go_wp2_with fail
     go_ret3
     exact ⟨⟨_,rfl,.no _ HNE.out⟩,hbr⟩
    have z1:(er != 0)=false:=by simpa using hz
    subst hz
    have hok2:CStep n xk q s' g/\gSt W' s'/\gInts W' g.P/\FarS wo.heap.size s' g:=by
     rcases hok with h|h
     ·exact absurd rfl h
     ·exact h.2
    clear hok
    have HOK:=qh (And.intro hq hok2)
    clear hq hok2
    have o0:W'.cell? ⟨b10,0,none⟩=some (.slice xk.V.a xk.V.xs.length xk.V.cap):=(tank_blk v10 0).trans rfl
    have o1:W'.cell? ⟨b10,1,none⟩=some (.slice xk.P.a xk.P.xs.length xk.P.cap):=(tank_blk v10 1).trans rfl
    have o2:W'.cell? ⟨b10,2,none⟩=some (.slice xk.S.a xk.S.xs.length xk.S.cap):=(tank_blk v10 2).trans rfl
    have o3:W'.cell? ⟨b10,3,none⟩=some (.slice xk.O.a xk.O.xs.length xk.O.cap):=(tank_blk v10 3).trans rfl
    have p0:W'.frozen? ⟨b10,0,none⟩=false:=tank_free v10 0
    have p1:W'.frozen? ⟨b10,1,none⟩=false:=tank_free v10 1
    have p2:W'.frozen? ⟨b10,2,none⟩=false:=tank_free v10 2
    have p3:W'.frozen? ⟨b10,3,none⟩=false:=tank_free v10 3
    have V10:=qh v10
    clear v10
    go_upto_region 17 with (fail)
    show Code.wp _ _ _ _ (set4 W' b10 (.slice s'.V.a s'.V.xs.length s'.V.cap) (.slice s'.P.a s'.P.xs.length s'.P.cap) (.slice s'.S.a s'.S.xs.length s'.S.cap) (.slice s'.O.a s'.O.xs.length s'.O.cap))
    have r10:=set4_cells V10.out (.slice s'.V.a s'.V.xs.length s'.V.cap) (.slice s'.P.a s'.P.xs.length s'.P.cap) (.slice s'.S.a s'.S.xs.length s'.S.cap) (.slice s'.O.a s'.O.xs.length s'.O.cap)
    have rfar:∀ b,b≠b10->_:=fun b h=>set4_far W' (b:=b10) (c:=b) h (.slice s'.V.a s'.V.xs.length s'.V.cap) (.slice s'.P.a s'.P.xs.length s'.P.cap) (.slice s'.S.a s'.S.xs.length s'.S.cap) (.slice s'.O.a s'.O.xs.length s'.O.cap)
    have rsz:=set4_size W' b10 (.slice s'.V.a s'.V.xs.length s'.V.cap) (.slice s'.P.a s'.P.xs.length s'.P.cap) (.slice s'.S.a s'.S.xs.length s'.S.cap) (.slice s'.O.a s'.O.xs.length s'.O.cap)
    have hBs:W.heap.size<=W'.heap.size:=Nat.le_trans hwo hb.size
    have hoT:∀ {α:Type} {e:TypeId} {enc:α->List Value} {kk:Nat} {v:Value} {xs:List α},Own W.heap.size e enc kk W' v xs->v.ownBlock≠some b10:=fun h e=>by
     have h1:=(h.lt _ e).1;have:=HB.out;omega
    have rT:=(HI0.out.T.below hb).set4' (hoT (HI0.out.T.below hb)) (.slice s'.V.a s'.V.xs.length s'.V.cap) (.slice s'.P.a s'.P.xs.length s'.P.cap) (.slice s'.S.a s'.S.xs.length s'.S.cap) (.slice s'.O.a s'.O.xs.length s'.O.cap)
    have rU:=(HI0.out.U.below hb).set4' (hoT (HI0.out.U.below hb)) (.slice s'.V.a s'.V.xs.length s'.V.cap) (.slice s'.P.a s'.P.xs.length s'.P.cap) (.slice s'.S.a s'.S.xs.length s'.S.cap) (.slice s'.O.a s'.O.xs.length s'.O.cap)
    have rbr:=set4_below hbr (b:=b10) (by have:=HB.out;omega) (.slice s'.V.a s'.V.xs.length s'.V.cap) (.slice s'.P.a s'.P.xs.length s'.P.cap) (.slice s'.S.a s'.S.xs.length s'.S.cap) (.slice s'.O.a s'.O.xs.length s'.O.cap)
    clear o0 o1 o2 o3 p0 p1 p2 p3 v0 v1 v2 v3 hoT
    generalize set4 W' b10 (.slice s'.V.a s'.V.xs.length s'.V.cap) (.slice s'.P.a s'.P.xs.length s'.P.cap) (.slice s'.S.a s'.S.xs.length s'.S.cap) (.slice s'.O.a s'.O.xs.length s'.O.cap)=W2 at *
    have m3:W2.heap[b21]? = some (.cells (eSt s').toArray 31 (0,0)):=(rfar b21 hne).trans HM.out.1
    have n3:W2.heap[b22]? = some (.cells (eLed g).toArray 56 (0,0)):=(rfar b22 (by have:=HM.out.2.2.2.1;omega)).trans HM.out.2.1
    have lt21:b21<W2.heap.size:=(Array.getElem?_eq_some_iff.1 m3).1
    have lt22:b22<W2.heap.size:=(Array.getElem?_eq_some_iff.1 n3).1
    have hTn:u18.ownBlock≠some b21/\u19.ownBlock≠some b21/\u18.ownBlock≠some b22/\u19.ownBlock≠some b22:=by
     have h1:=HM.out.2.2.1
     have h2:=HM.out.2.2.2.1
     refine ⟨fun e=>?_,fun e=>?_,fun e=>?_,fun e=>?_⟩
     ·have:=(HI0.out.T.lt _ e).2;omega
     ·have:=(HI0.out.U.lt _ e).2;omega
     ·have:=(HI0.out.T.lt _ e).2;omega
     ·have:=(HI0.out.U.lt _ e).2;omega
    have RW:=qh (And.intro r10 (And.intro rfar (And.intro rsz rbr)))
    clear r10 rfar hbr
    have hlen:sts.length=k/\leds.length=k:=⟨HI0.out.ls,HI0.out.ll⟩
    have hkb:k<2147483648:=by have:=HKK.out;have:=HK.out;omega
    refine wp_y0 rfl (fun y0 hy0=>?_)
    have e18:y0 18=u18:=(congrArg (fun a:Act=>a.tmps.getD 18 undef) hy0).symm
    have e19:y0 19=u19:=(congrArg (fun a:Act=>a.tmps.getD 19 undef) hy0).symm
    have e21:y0 21=.pointer (some ⟨b21,0,none⟩):=(congrArg (fun a:Act=>a.tmps.getD 21 undef) hy0).symm
    have e22:y0 22=.pointer (some ⟨b22,0,none⟩):=(congrArg (fun a:Act=>a.tmps.getD 22 undef) hy0).symm
    have HY0:=qh hy0
    clear hy0
    refine wp_region_rk (ciI W.heap.size W2 u18 u19 sts leds s' g y0) (by kernel_rfl) [0,1,2,3,4,5,6,7,8,9] (by kernel_rfl) (fun l a W h=>h.1) ?step2 ?fin2 (ci_start s' g y0 om rT rU HI0.out.ne)
    case step2=>
     intro l a W3 i o hI ho hun hdeps
     obtain ⟨hz,y,tT,tU,c1,c2,rfl,hM,hy,hF⟩:=hI
     have hi10:i<10:=(Array.getElem?_eq_some_iff.1 ho).1
     have v21:=(hM.kept b21 lt21 hTn.1 hTn.2.1).trans m3
     have v22:=(hM.kept b22 lt22 hTn.2.2.1 hTn.2.2.2).trans n3
     have s0:W3.cell? ⟨b21,0,none⟩=some (.slice s'.V.a s'.V.xs.length s'.V.cap):=(tank_blk v21 0).trans rfl
     have s1:W3.cell? ⟨b21,1,none⟩=some (.slice s'.P.a s'.P.xs.length s'.P.cap):=(tank_blk v21 1).trans rfl
     have s2:W3.cell? ⟨b21,2,none⟩=some (.slice s'.S.a s'.S.xs.length s'.S.cap):=(tank_blk v21 2).trans rfl
     have s3:W3.cell? ⟨b21,3,none⟩=some (.slice s'.O.a s'.O.xs.length s'.O.cap):=(tank_blk v21 3).trans rfl
     have l0:W3.cell? ⟨b22,0,none⟩=some (.int .i64 g.I):=(tank_blk v22 0).trans rfl
     have l1:W3.cell? ⟨b22,1,none⟩=some (.int .i64 g.O):=(tank_blk v22 1).trans rfl
     have l2:W3.cell? ⟨b22,2,none⟩=some (.slice g.P.a g.P.xs.length g.P.cap):=(tank_blk v22 2).trans rfl
     have hBz:W.heap.size<=W3.heap.size:=Nat.le_trans hM.hB hM.sz
     have hgd:l.getD i false=false:=by rw [<-getD_tf (by rw [hz];exact hi10)];exact hun
     have hno8:l.getD 0 false=false->l.getD 8 false=false:=fun h0=>by
      cases h8:l.getD 8 false
      ·rfl
      ·have:=(hF 3 om (hF 8 om h8).1).1;rw [h0] at this;cases this
     have hno9:l.getD 4 false=false->l.getD 9 false=false:=fun h0=>by
      cases h8:l.getD 9 false
      ·rfl
      ·have:=(hF 7 om (hF 9 om h8).1).1;rw [h0] at this;cases this
     rcases (show i=0\/i=1\/i=2\/i=3\/i=4\/i=5\/i=6\/i=7\/i=8\/i=9 by omega) with rfl|rfl|rfl|rfl|rfl|rfl|rfl|rfl|rfl|rfl
     ·have e:y 18=_:=(hy 18 (.inr (.inl ⟨rfl,hno8 hgd⟩))).trans e18
      refine wpOp_step rfl (fun K hK=>?_)
      rw [if_pos (by rfl)]
      go_simp
      refine hK _ _ (ci_pure hz hM hy hF (i:=0) om hun (u18) ?_ rfl)
      first|rfl|simp [crA,updV,ciS,e]
     ·have e:y 21=_:=(hy 21 (.inl (by unfold ciT;omega))).trans e21
      refine wpOp_step rfl (fun K hK=>?_)
      rw [if_pos (by rfl)]
      go_simp
      refine hK _ _ (ci_pure hz hM hy hF (i:=1) om hun (vSt s') ?_ rfl)
      first|rfl|simp [crA,updV,ciS,e]
     ·obtain rfl:=Option.some.inj (show some _=some o from ho)
      have e75:y 75=vSt s':=hF 1 om (hdeps ⟨1,.data⟩ (by simp) rfl)
      simp only [vSt,vSl] at e75
      refine wpOp_step rfl (fun K hK=>?_)
      rw [if_pos (by rfl)]
      go_simp
      refine hK _ _ (ci_box1 hz hM hy hF hun ?_)
      first|rfl|simp [crA,updV,ciS,e75]
     ·obtain rfl:=Option.some.inj (show some _=some o from ho)
      have e74:y 74=u18:=hF 0 om (hdeps ⟨0,.data⟩ (by simp) rfl)
      have d2:l.getD 2 false=true:=(hdeps ⟨2,.data⟩ (by simp) rfl)
      have e76:y 76=_:=hF 2 om d2
      have h3:l.getD 3 false=false:=hgd
      have hk1:=hM.k1 d2 h3
      have hown:=hM.T
      have hT0:=hM.T0 h3
      rw [h3] at hown
      refine wpOp_step rfl (fun K hK=>?_)
      rw [if_pos (by rfl)]
      refine wp_pushR _ _ 37 rfl 31 _ 4 96 undSts infSt rfl (by decide) s' (fun _=>rfl) (by simp [Value.oneCell',vSl]) tT sts (by rw [hT0];exact e74) hown c1 (by exact e76) om (by decide) hBz hk1.2.2.1 ?_
      intro g7 c7 w7 hR7
      exact hK _ _ (ci_app1 (hdeps ⟨0,.data⟩ (by simp) rfl) hz hM hy hF hun hR7 rfl)
     ·have e:y 19=_:=(hy 19 (.inr (.inr ⟨rfl,hno9 hgd⟩))).trans e19
      refine wpOp_step rfl (fun K hK=>?_)
      rw [if_pos (by rfl)]
      go_simp
      refine hK _ _ (ci_pure hz hM hy hF (i:=4) om hun (u19) ?_ rfl)
      first|rfl|simp [crA,updV,ciS,e]
     ·have e:y 22=_:=(hy 22 (.inl (by unfold ciT;omega))).trans e22
      refine wpOp_step rfl (fun K hK=>?_)
      rw [if_pos (by rfl)]
      go_simp
      refine hK _ _ (ci_pure hz hM hy hF (i:=5) om hun (vLed g) ?_ rfl)
      first|rfl|simp [crA,updV,ciS,e]
     ·obtain rfl:=Option.some.inj (show some _=some o from ho)
      have e75:y 79=vLed g:=hF 5 om (hdeps ⟨5,.data⟩ (by simp) rfl)
      refine wpOp_step rfl (fun K hK=>?_)
      rw [if_pos (by rfl)]
      go_simp
      refine hK _ _ (ci_box2 hz hM hy hF hun ?_)
      first|rfl|simp [crA,updV,ciS,e75]
     ·obtain rfl:=Option.some.inj (show some _=some o from ho)
      have e74:y 78=u19:=hF 4 om (hdeps ⟨4,.data⟩ (by simp) rfl)
      have d2:l.getD 6 false=true:=(hdeps ⟨6,.data⟩ (by simp) rfl)
      have e76:y 80=_:=hF 6 om d2
      have h3:l.getD 7 false=false:=hgd
      have hk1:=hM.k2 d2 h3
      have hown:=hM.U
      have hT0:=hM.U0 h3
      rw [h3] at hown
      refine wpOp_step rfl (fun K hK=>?_)
      rw [if_pos (by rfl)]
      refine wp_pushR _ _ 38 rfl 56 _ 3 40 undLeds infLed rfl (by decide) g (fun _=>rfl) (by simp [Value.oneCell',vSl]) tU leds (by rw [hT0];exact e74) hown c2 (by exact e76) om (by decide) hBz hk1.2.2.1 ?_
      intro g7 c7 w7 hR7
      exact hK _ _ (ci_app2 (hdeps ⟨4,.data⟩ (by simp) rfl) hz hM hy hF hun hR7 rfl)
     ·obtain rfl:=Option.some.inj (show some _=some o from ho)
      have d3:l.getD 3 false=true:=(hdeps ⟨3,.data⟩ (by simp) rfl)
      have e:y 77=tT:=(hF 3 om d3).2
      refine wpOp_step rfl (fun K hK=>?_)
      rw [if_pos (by rfl)]
      go_simp
      refine hK _ _ (ci_pure hz hM hy hF (i:=8) om hun tT ?_ ⟨getD_setOf om d3,rfl⟩)
      first|rfl|simp [crA,updV,ciS,e]
     ·obtain rfl:=Option.some.inj (show some _=some o from ho)
      have d3:l.getD 7 false=true:=(hdeps ⟨7,.data⟩ (by simp) rfl)
      have e:y 81=tU:=(hF 7 om d3).2
      refine wpOp_step rfl (fun K hK=>?_)
      rw [if_pos (by rfl)]
      go_simp
      refine hK _ _ (ci_pure hz hM hy hF (i:=9) om hun tU ?_ ⟨getD_setOf om d3,rfl⟩)
      first|rfl|simp [crA,updV,ciS,e]
    case fin2=>
     intro l a W3 hI hall
     obtain ⟨hz,y,tT,tU,c1,c2,rfl,hM,hy,hF⟩:=hI
     have g18:=(hF 8 om (hall 8 (by decide))).2
     have g19:=(hF 9 om (hall 9 (by decide))).2
     have h2:l.getD 2 false=true:=hall 2 (by decide)
     have h3:l.getD 3 false=true:=hall 3 (by decide)
     have h6:l.getD 6 false=true:=hall 6 (by decide)
     have h7:l.getD 7 false=true:=hall 7 (by decide)
     rw [h2,h3,h6,h7] at hM
     have hbe:Below W.heap.size W2 W3:=hM.bel
     have hnx:=HI0.out.next hb hwo (by have:=HB.out;omega) (by have:=HB.out;omega) (by have:=HB.out;omega) HOK.out.1.1 HOK.out.1.2 HOK.out.2.1 HOK.out.2.2.1 HOK.out.2.2.2.1 HOK.out.2.2.2.2 RW.out.2.2.1 RW.out.2.1 RW.out.1 hM
     have hbrF:Below w.heap.size w W3:=RW.out.2.2.2.trans (hbe.mono hbw.size)
     have hact:=ci_fin HY0.out (fun j h=>hy j (.inl h))
     rw [g18,g19] at hact
     dsimp only at hact
     rw [hact]
     have hszF:W.heap.size<=W3.heap.size:=Nat.le_trans hM.hB hM.sz
     have HF:=qh (And.intro (And.intro hbrF hszF) hnx)
     clear hact g18 g19 h2 h3 h6 h7 hM hbe hnx hbrF hszF hF hall hy HY0 e18 e19 e21 e22 rT rU m3 n3 lt21 lt22 hTn
     generalize y 74=z74
     generalize y 75=z75
     generalize y 76=z76
     generalize y 77=z77
     generalize y 78=z78
     generalize y 79=z79
     generalize y 80=z80
     generalize y 81=z81
     clear y y0
     have x7:IntKind.i64.wrap ((k:Int)+1)=k+1:=IntWalk.i64_in _ om
     have i4:(0:Int)<=k:=by omega
     go_wp2_with fail
     go_roundw
     case measure=>
      have:=HKK.out
      simp [RowKit.intOf,x7]
      omega
     case rel=>exact ⟨k+1,sts ++ [s'],leds ++ [g],s',HKK.out,by go_num,qh HF.out.1,qh HF.out.2⟩
  ·have hkk:k=K:=by omega
   subst hkk
   have i1:decide (k<k)=false:=decide_eq_false (Nat.lt_irrefl k)
   have HO:Hid (RunOut wo n x ins.xs k (.tuple #[u18,u19,.int .i64 0])):=qh (.ok sts leds u18 u19 HGO.out HNB.out.1 HNB.out.2 (by rw [HI0.out.ls]) (by rw [HI0.out.ls,HI0.out.ll]) HI0.out.ch (HI0.out.T.isL (fun _=>rfl)) (HI0.out.U.isL (fun _=>rfl)) (fun s hs=>(HI0.out.st s hs).1) (fun g hg=>(HI0.out.le g hg).1))
   go_wp2_with fail
   go_ret3
   exact ⟨⟨_,rfl,HO.out⟩,HBR.out.1⟩
end Go.Proofs.YtoiakijmbghhlaaGreat
