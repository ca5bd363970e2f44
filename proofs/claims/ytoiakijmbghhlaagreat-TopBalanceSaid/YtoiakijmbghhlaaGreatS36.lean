/- control.Step. Conditions: the arguments read as data. -/
import Derived.Test.YtoiakijmbghhlaaGreatS34
import Derived.Test.YtoiakijmbghhlaaGreatS35
set_option linter.unusedVariables false
set_option linter.unusedSimpArgs false
set_option maxRecDepth 100000
set_option maxHeartbeats 32000000
namespace Go.Proofs.YtoiakijmbghhlaaGreat
open Go.RowKit Go.Maps
theorem levs_wf (w:World) {n:Net} {x:St} (h:(netB n&&stB n x)=true) {y:Int} (hy:y∈(levsM n x.V.xs).1):(Lit.int .i64 y).wf=true:=by
 rw [Bool.and_eq_true] at h
 unfold levsM eachM at hy
 split at hy
 ·cases hy
 ·split at hy
  ·cases hy
  ·split at hy
   ·cases hy
   ·rename_i h1 h2 h3
    simp only at hy
    obtain ⟨i,hi,rfl⟩:=List.mem_iff_getElem.1 hy
    rw [List.length_zipWith] at hi
    rw [List.getElem_zipWith]
    have hnd:=(netB_nd h.1 i om).1
    have hf:=fitGo_at (by simpa using h3) i om om
    simp only [volB,btwB,Bool.and_eq_true,decide_eq_true_eq] at hf
    have a:=levV_bd hnd hf.1
    have b:=ndB_lv hnd
    exact gI64_of (w:=w) om om
inductive CtOut (base:Nat) (w:World) (n:Net) (s:St) (q:List Int):Value->Prop
 | no (e:Int):e≠0->CtOut base w n s q (.tuple #[.agg #[.slice none 0 0,.slice none 0 0,.slice none 0 0,.slice none 0 0],.agg #[.int .i64 0,.int .i64 0,.slice none 0 0],.int .i64 e])
 | ok (s':St) (g:Led):CStep n s q s' g->gSt w s'->gInts w g.P->FarS base s' g->CtOut base w n s q (.tuple #[vSt s',vLed g,.int .i64 0])
theorem IsC.set7 {α:Type} {enc:α->List Value} {k:Nat} {w:World} {a:Option Addr} {xs:List α} (h:IsC enc k w a xs) {base b10 b11:Nat} (ha:∀ b off,a=some ⟨b,off,none⟩->base<=b) (h1:b10<base) (h2:b11<base) (u0 u1 u2 u3 l0 l1 l2:Value):IsC enc k (set7 w b10 b11 u0 u1 u2 u3 l0 l1 l2) a xs:=
 h.near (fun b off e=>by
  have:=ha b off e
  exact set7_heap w om om _ _ _ _ _ _ _)
theorem gSt.set7 {w:World} {s:St} {g:Led} (h:gSt w s) {base b10 b11:Nat} (hf:FarS base s g) (h1:b10<base) (h2:b11<base) (u0 u1 u2 u3 l0 l1 l2:Value):gSt (set7 w b10 b11 u0 u1 u2 u3 l0 l1 l2) s:=
 ⟨⟨h.1.1,h.1.2.1,h.1.2.2.1.set7 hf.V h1 h2 _ _ _ _ _ _ _,h.1.2.2.2⟩,⟨h.2.1.1,h.2.1.2.1,h.2.1.2.2.1.set7 hf.P h1 h2 _ _ _ _ _ _ _,h.2.1.2.2.2⟩,⟨h.2.2.1.1,h.2.2.1.2.1,h.2.2.1.2.2.1.set7 hf.S h1 h2 _ _ _ _ _ _ _,h.2.2.1.2.2.2⟩,⟨h.2.2.2.1,h.2.2.2.2.1,h.2.2.2.2.2.1.set7 hf.O h1 h2 _ _ _ _ _ _ _,h.2.2.2.2.2.2⟩⟩
theorem gInts.set7 {w:World} {s:St} {g:Led} (h:gInts w g.P) {base b10 b11:Nat} (hf:FarS base s g) (h1:b10<base) (h2:b11<base) (u0 u1 u2 u3 l0 l1 l2:Value):gInts (set7 w b10 b11 u0 u1 u2 u3 l0 l1 l2) g.P:=
 ⟨h.1,h.2.1,h.2.2.1.set7 hf.G h1 h2 _ _ _ _ _ _ _,h.2.2.2⟩
theorem ctstep_any (n:Net) (ss:List SecD) (vS:Value) (rs:Sl RuD) (x:St) (q:List Int) (vq:Value) (sec:Int) (w:World) (hg:gNet w n) (hs:IsSecs w vS ss) (hr:gRus w rs) (hgs:gSt w x) (hq:IsInts w vq q) :
  Calls Tryz.prog 56 #[vNet n,vS,vSl rs,vSt x,vq,.int .i64 sec] w fun e w'=>(∃ u,e=.returned u/\CtOut w.heap.size w' n x q u)/\Below w.heap.size w w':=by
 obtain ⟨L,hL⟩:∃ L:List (Array Value×TypeId),L = [((eNet n).toArray,25),((eSt x).toArray,31),(#[.slice none 0 0,.slice none 0 0,.slice none 0 0,.slice none 0 0],31),(#[.int .i64 0,.int .i64 0,.slice none 0 0],56)]:=⟨_,rfl⟩
 obtain ⟨W,hW⟩:∃ W,W=allocs w L:=⟨_,rfl⟩
 have hbw:Below w.heap.size w W:=by rw [hW];exact allocs_below _ _
 have t6:W.heap[w.heap.size]? = some (.cells (eNet n).toArray 25 (0,0)):=by rw [hW,hL];exact allocs_at _ w 0 (by simp)
 have t9:W.heap[w.heap.size+1]? = some (.cells (eSt x).toArray 31 (0,0)):=by rw [hW,hL];exact allocs_at _ w 1 (by simp)
 have t12:W.heap[w.heap.size+2]? = some (.cells #[.slice none 0 0,.slice none 0 0,.slice none 0 0,.slice none 0 0] 31 (0,0)):=by rw [hW,hL];exact allocs_at _ w 2 (by simp)
 have t13:W.heap[w.heap.size+3]? = some (.cells #[.int .i64 0,.int .i64 0,.slice none 0 0] 56 (0,0)):=by rw [hW,hL];exact allocs_at _ w 3 (by simp)
 have HW:Hid (W=(((w.alloc (.cells (eNet n).toArray 25)).alloc (.cells (eSt x).toArray 31)).alloc (.cells #[.slice none 0 0,.slice none 0 0,.slice none 0 0,.slice none 0 0] 31)).alloc (.cells #[.int .i64 0,.int .i64 0,.slice none 0 0] 56)):=qh (by rw [hW,hL];rfl)
 have hsz:w.heap.size+3<W.heap.size:=(Array.getElem?_eq_some_iff.1 t13).1
 clear hW hL
 have HG:=qh hg
 have HS:=qh hs
 have HR:=qh hr
 have HGS:=qh hgs
 have HQ:=qh hq
 obtain ⟨b6,h6⟩:∃ b,b=w.heap.size:=⟨_,rfl⟩
 obtain ⟨b9,h9⟩:∃ b,b=w.heap.size+1:=⟨_,rfl⟩
 obtain ⟨b12,h12⟩:∃ b,b=w.heap.size+2:=⟨_,rfl⟩
 obtain ⟨b13,h13⟩:∃ b,b=w.heap.size+3:=⟨_,rfl⟩
 have HB:Hid (b6=w.heap.size/\b9=w.heap.size+1/\b12=w.heap.size+2/\b13=w.heap.size+3/\b13<W.heap.size):=qh ⟨h6,h9,h12,h13,by omega⟩
 have hva:=catvalid_any ss vS W (hs.mono hbw)
 obtain ⟨c1,hc1⟩:∃ b,catB ss=b:=⟨_,rfl⟩
 rw [hc1] at hva
 clear hg hs hr hgs hc1 hq
 simp only [vNet,vSt,vSl]
 go_enter Tryz.func56,Tryz.ntmps56
 go_upto_region 1 with (fail)
 simp only [Nat.add_assoc,Nat.reduceAdd]
 rw [<-HW.out]
 rw [<-h9] at t9 ⊢
 rw [<-h12] at t12 ⊢
 rw [<-h13] at t13 ⊢
 rw [<-h6] at t6 ⊢
 clear HW h6 h9 h12 h13
 have T6:=qh t6
 have T9:=qh t9
 have T12:=qh (And.intro t12 t13)
 clear t6 t9 t12 t13
 have q0:W.cell? ⟨b6,0,none⟩=some (.slice n.Ns.a n.Ns.xs.length n.Ns.cap):=(tank_blk T6.out 0).trans rfl
 have q1:W.cell? ⟨b6,1,none⟩=some (.slice n.Ls.a n.Ls.xs.length n.Ls.cap):=(tank_blk T6.out 1).trans rfl
 have s0:W.cell? ⟨b9,0,none⟩=some (.slice x.V.a x.V.xs.length x.V.cap):=(tank_blk T9.out 0).trans rfl
 have s1:W.cell? ⟨b9,1,none⟩=some (.slice x.P.a x.P.xs.length x.P.cap):=(tank_blk T9.out 1).trans rfl
 have s2:W.cell? ⟨b9,2,none⟩=some (.slice x.S.a x.S.xs.length x.S.cap):=(tank_blk T9.out 2).trans rfl
 have s3:W.cell? ⟨b9,3,none⟩=some (.slice x.O.a x.O.xs.length x.O.cap):=(tank_blk T9.out 3).trans rfl
 have HBM:Hid (∀ wx,Below W.heap.size W wx->wx.heap[b12]? = some (.cells #[.slice none 0 0,.slice none 0 0,.slice none 0 0,.slice none 0 0] 31 (0,0))/\wx.heap[b13]? = some (.cells #[.int .i64 0,.int .i64 0,.slice none 0 0] 56 (0,0))):=qh (fun wx h=>⟨blk_mono T12.out.1 h,blk_mono T12.out.2 h⟩)
 have hbr:=hbw
 have hbW:Below W.heap.size W W:=qr
 go_wp2_with fail
 refine Calls.to hva ?_
 rintro e w1 rfl hb1
 replace q0:=cel_lt q0 hb1
 replace q1:=cel_lt q1 hb1
 replace s0:=cel_lt s0 hb1
 replace s1:=cel_lt s1 hb1
 replace s2:=cel_lt s2 hb1
 replace s3:=cel_lt s3 hb1
 replace hbr:=hbr.trans ((hb1).mono hbr.size)
 replace hbW:=hbW.trans ((hb1).mono hbW.size)
 clear hva hb1
 cases c1
 ·go_upto_region 2 with (fail)
  have y12:=(HBM.out _ hbW).1
  have y13:=(HBM.out _ hbW).2
  have v0:w1.cell? ⟨b12,0,none⟩=some (.slice none 0 0):=(tank_blk y12 0).trans rfl
  have v1:w1.cell? ⟨b12,1,none⟩=some (.slice none 0 0):=(tank_blk y12 1).trans rfl
  have v2:w1.cell? ⟨b12,2,none⟩=some (.slice none 0 0):=(tank_blk y12 2).trans rfl
  have v3:w1.cell? ⟨b12,3,none⟩=some (.slice none 0 0):=(tank_blk y12 3).trans rfl
  have l0:w1.cell? ⟨b13,0,none⟩=some (.int .i64 0):=(tank_blk y13 0).trans rfl
  have l1:w1.cell? ⟨b13,1,none⟩=some (.int .i64 0):=(tank_blk y13 1).trans rfl
  have l2:w1.cell? ⟨b13,2,none⟩=some (.slice none 0 0):=(tank_blk y13 2).trans rfl
  have vf0:w1.frozen? ⟨b12,0,none⟩=false:=tank_free y12 0
  have vf1:w1.frozen? ⟨b12,1,none⟩=false:=tank_free y12 1
  have vf2:w1.frozen? ⟨b12,2,none⟩=false:=tank_free y12 2
  have vf3:w1.frozen? ⟨b12,3,none⟩=false:=tank_free y12 3
  have lf0:w1.frozen? ⟨b13,0,none⟩=false:=tank_free y13 0
  have lf1:w1.frozen? ⟨b13,1,none⟩=false:=tank_free y13 1
  have lf2:w1.frozen? ⟨b13,2,none⟩=false:=tank_free y13 2
  have hne:b12≠b13:=by have:=HB.out;omega
  have Y12:=qh y12
  have Y13:=qh y13
  have HB2:=qh hbr
  clear q0 q1 s0 s1 s2 s3 y12 y13
  go_wp2_with fail
  rw [setCell_id (i:=0) (v:=.slice none 0 0) Y12.out rfl,setCell_id (i:=1) (v:=.slice none 0 0) Y12.out rfl,setCell_id (i:=2) (v:=.slice none 0 0) Y12.out rfl,setCell_id (i:=3) (v:=.slice none 0 0) Y12.out rfl,setCell_id (i:=0) (v:=.int .i64 0) Y13.out rfl,setCell_id (i:=1) (v:=.int .i64 0) Y13.out rfl,setCell_id (i:=2) (v:=.slice none 0 0) Y13.out rfl]
  exact bodyPost_ret (v:=.tuple #[.agg #[.slice none 0 0,.slice none 0 0,.slice none 0 0,.slice none 0 0],.agg #[.int .i64 0,.int .i64 0,.slice none 0 0],.int .i64 (1)]) (by simp (maxDischargeDepth:=9) [results,Tryz.results56,go_sem,v0,v1,v2,v3,l0,l1,l2]) rfl ⟨⟨_,rfl,.no _ (by decide)⟩,HB2.out⟩
 have hrv:=ruvalid_any rs w1 (rdRus.mono HR.out hbr)
 simp only [vSl] at hrv
 go_wp2_with fail
 refine Calls.to hrv ?_
 rintro e w2 ⟨c2,rfl⟩ hb1
 replace q0:=cel_lt q0 hb1
 replace q1:=cel_lt q1 hb1
 replace s0:=cel_lt s0 hb1
 replace s1:=cel_lt s1 hb1
 replace s2:=cel_lt s2 hb1
 replace s3:=cel_lt s3 hb1
 replace hbr:=hbr.trans ((hb1).mono hbr.size)
 replace hbW:=hbW.trans ((hb1).mono hbW.size)
 clear hrv hb1
 cases c2
 ·go_upto_region 2 with (fail)
  have y12:=(HBM.out _ hbW).1
  have y13:=(HBM.out _ hbW).2
  have v0:w2.cell? ⟨b12,0,none⟩=some (.slice none 0 0):=(tank_blk y12 0).trans rfl
  have v1:w2.cell? ⟨b12,1,none⟩=some (.slice none 0 0):=(tank_blk y12 1).trans rfl
  have v2:w2.cell? ⟨b12,2,none⟩=some (.slice none 0 0):=(tank_blk y12 2).trans rfl
  have v3:w2.cell? ⟨b12,3,none⟩=some (.slice none 0 0):=(tank_blk y12 3).trans rfl
  have l0:w2.cell? ⟨b13,0,none⟩=some (.int .i64 0):=(tank_blk y13 0).trans rfl
  have l1:w2.cell? ⟨b13,1,none⟩=some (.int .i64 0):=(tank_blk y13 1).trans rfl
  have l2:w2.cell? ⟨b13,2,none⟩=some (.slice none 0 0):=(tank_blk y13 2).trans rfl
  have vf0:w2.frozen? ⟨b12,0,none⟩=false:=tank_free y12 0
  have vf1:w2.frozen? ⟨b12,1,none⟩=false:=tank_free y12 1
  have vf2:w2.frozen? ⟨b12,2,none⟩=false:=tank_free y12 2
  have vf3:w2.frozen? ⟨b12,3,none⟩=false:=tank_free y12 3
  have lf0:w2.frozen? ⟨b13,0,none⟩=false:=tank_free y13 0
  have lf1:w2.frozen? ⟨b13,1,none⟩=false:=tank_free y13 1
  have lf2:w2.frozen? ⟨b13,2,none⟩=false:=tank_free y13 2
  have hne:b12≠b13:=by have:=HB.out;omega
  have Y12:=qh y12
  have Y13:=qh y13
  have HB2:=qh hbr
  clear q0 q1 s0 s1 s2 s3 y12 y13
  go_wp2_with fail
  rw [setCell_id (i:=0) (v:=.slice none 0 0) Y12.out rfl,setCell_id (i:=1) (v:=.slice none 0 0) Y12.out rfl,setCell_id (i:=2) (v:=.slice none 0 0) Y12.out rfl,setCell_id (i:=3) (v:=.slice none 0 0) Y12.out rfl,setCell_id (i:=0) (v:=.int .i64 0) Y13.out rfl,setCell_id (i:=1) (v:=.int .i64 0) Y13.out rfl,setCell_id (i:=2) (v:=.slice none 0 0) Y13.out rfl]
  exact bodyPost_ret (v:=.tuple #[.agg #[.slice none 0 0,.slice none 0 0,.slice none 0 0,.slice none 0 0],.agg #[.int .i64 0,.int .i64 0,.slice none 0 0],.int .i64 (1)]) (by simp (maxDischargeDepth:=9) [results,Tryz.results56,go_sem,v0,v1,v2,v3,l0,l1,l2]) rfl ⟨⟨_,rfl,.no _ (by decide)⟩,HB2.out⟩
 have hsv:=svalid_any n x w2 (rdNet.mono HG.out hbr) (rdSt.mono HGS.out hbr)
 obtain ⟨c3,hc3⟩:∃ b,(netB n&&stB n x)=b:=⟨_,rfl⟩
 rw [hc3] at hsv
 have HC3:=qh hc3
 clear hc3
 simp only [vNet,vSt,vSl] at hsv
 go_wp2_with fail
 refine Calls.to hsv ?_
 rintro e w3 rfl hb1
 replace q0:=cel_lt q0 hb1
 replace q1:=cel_lt q1 hb1
 replace s0:=cel_lt s0 hb1
 replace s1:=cel_lt s1 hb1
 replace s2:=cel_lt s2 hb1
 replace s3:=cel_lt s3 hb1
 replace hbr:=hbr.trans ((hb1).mono hbr.size)
 replace hbW:=hbW.trans ((hb1).mono hbW.size)
 clear hsv hb1
 cases c3
 ·go_upto_region 2 with (fail)
  have y12:=(HBM.out _ hbW).1
  have y13:=(HBM.out _ hbW).2
  have v0:w3.cell? ⟨b12,0,none⟩=some (.slice none 0 0):=(tank_blk y12 0).trans rfl
  have v1:w3.cell? ⟨b12,1,none⟩=some (.slice none 0 0):=(tank_blk y12 1).trans rfl
  have v2:w3.cell? ⟨b12,2,none⟩=some (.slice none 0 0):=(tank_blk y12 2).trans rfl
  have v3:w3.cell? ⟨b12,3,none⟩=some (.slice none 0 0):=(tank_blk y12 3).trans rfl
  have l0:w3.cell? ⟨b13,0,none⟩=some (.int .i64 0):=(tank_blk y13 0).trans rfl
  have l1:w3.cell? ⟨b13,1,none⟩=some (.int .i64 0):=(tank_blk y13 1).trans rfl
  have l2:w3.cell? ⟨b13,2,none⟩=some (.slice none 0 0):=(tank_blk y13 2).trans rfl
  have vf0:w3.frozen? ⟨b12,0,none⟩=false:=tank_free y12 0
  have vf1:w3.frozen? ⟨b12,1,none⟩=false:=tank_free y12 1
  have vf2:w3.frozen? ⟨b12,2,none⟩=false:=tank_free y12 2
  have vf3:w3.frozen? ⟨b12,3,none⟩=false:=tank_free y12 3
  have lf0:w3.frozen? ⟨b13,0,none⟩=false:=tank_free y13 0
  have lf1:w3.frozen? ⟨b13,1,none⟩=false:=tank_free y13 1
  have lf2:w3.frozen? ⟨b13,2,none⟩=false:=tank_free y13 2
  have hne:b12≠b13:=by have:=HB.out;omega
  have Y12:=qh y12
  have Y13:=qh y13
  have HB2:=qh hbr
  clear q0 q1 s0 s1 s2 s3 y12 y13
  go_wp2_with fail
  rw [setCell_id (i:=0) (v:=.slice none 0 0) Y12.out rfl,setCell_id (i:=1) (v:=.slice none 0 0) Y12.out rfl,setCell_id (i:=2) (v:=.slice none 0 0) Y12.out rfl,setCell_id (i:=3) (v:=.slice none 0 0) Y12.out rfl,setCell_id (i:=0) (v:=.int .i64 0) Y13.out rfl,setCell_id (i:=1) (v:=.int .i64 0) Y13.out rfl,setCell_id (i:=2) (v:=.slice none 0 0) Y13.out rfl]
  exact bodyPost_ret (v:=.tuple #[.agg #[.slice none 0 0,.slice none 0 0,.slice none 0 0,.slice none 0 0],.agg #[.int .i64 0,.int .i64 0,.slice none 0 0],.int .i64 (1)]) (by simp (maxDischargeDepth:=9) [results,Tryz.results56,go_sem,v0,v1,v2,v3,l0,l1,l2]) rfl ⟨⟨_,rfl,.no _ (by decide)⟩,HB2.out⟩
 have hlv:=slevs_any n x.V w3 (rdNet.mono HG.out hbr) (rdSt.mono HGS.out hbr).1
 obtain ⟨ls,hls⟩:∃ l,l=(levsM n x.V.xs).1:=⟨_,rfl⟩
 obtain ⟨e1,he1⟩:∃ l,l=(levsM n x.V.xs).2:=⟨_,rfl⟩
 have hlg:∀ y∈ls,(Lit.int .i64 y).wf=true:=fun y hy=>by
  rw [hls] at hy
  exact levs_wf w HC3.out hy
 rw [<-hls,<-he1] at hlv
 simp only [vNet,vSl] at hlv
 clear hls he1
 go_wp2_with fail
 refine Calls.to hlv ?_
 rintro e w4 ⟨lv,rfl,hO4⟩ hb1
 replace q0:=cel_lt q0 hb1
 replace q1:=cel_lt q1 hb1
 replace s0:=cel_lt s0 hb1
 replace s1:=cel_lt s1 hb1
 replace s2:=cel_lt s2 hb1
 replace s3:=cel_lt s3 hb1
 replace hbr:=hbr.trans ((hb1).mono hbr.size)
 replace hbW:=hbW.trans ((hb1).mono hbW.size)
 clear hlv hb1
 by_cases hz:e1=0
 rotate_left
 ·have z1:(e1 != 0)=true:=by simpa using hz
  have HNE:=qh hz
  clear hz
  go_upto_region 5 with (fail)
  have y12:=(HBM.out _ hbW).1
  have y13:=(HBM.out _ hbW).2
  have v0:w4.cell? ⟨b12,0,none⟩=some (.slice none 0 0):=(tank_blk y12 0).trans rfl
  have v1:w4.cell? ⟨b12,1,none⟩=some (.slice none 0 0):=(tank_blk y12 1).trans rfl
  have v2:w4.cell? ⟨b12,2,none⟩=some (.slice none 0 0):=(tank_blk y12 2).trans rfl
  have v3:w4.cell? ⟨b12,3,none⟩=some (.slice none 0 0):=(tank_blk y12 3).trans rfl
  have l0:w4.cell? ⟨b13,0,none⟩=some (.int .i64 0):=(tank_blk y13 0).trans rfl
  have l1:w4.cell? ⟨b13,1,none⟩=some (.int .i64 0):=(tank_blk y13 1).trans rfl
  have l2:w4.cell? ⟨b13,2,none⟩=some (.slice none 0 0):=(tank_blk y13 2).trans rfl
  have vf0:w4.frozen? ⟨b12,0,none⟩=false:=tank_free y12 0
  have vf1:w4.frozen? ⟨b12,1,none⟩=false:=tank_free y12 1
  have vf2:w4.frozen? ⟨b12,2,none⟩=false:=tank_free y12 2
  have vf3:w4.frozen? ⟨b12,3,none⟩=false:=tank_free y12 3
  have lf0:w4.frozen? ⟨b13,0,none⟩=false:=tank_free y13 0
  have lf1:w4.frozen? ⟨b13,1,none⟩=false:=tank_free y13 1
  have lf2:w4.frozen? ⟨b13,2,none⟩=false:=tank_free y13 2
  have hne:b12≠b13:=by have:=HB.out;omega
  have Y12:=qh y12
  have Y13:=qh y13
  have HB2:=qh hbr
  clear q0 q1 s0 s1 s2 s3 y12 y13
  go_wp2_with fail
  rw [setCell_id (i:=0) (v:=.slice none 0 0) Y12.out rfl,setCell_id (i:=1) (v:=.slice none 0 0) Y12.out rfl,setCell_id (i:=2) (v:=.slice none 0 0) Y12.out rfl,setCell_id (i:=3) (v:=.slice none 0 0) Y12.out rfl,setCell_id (i:=0) (v:=.int .i64 0) Y13.out rfl,setCell_id (i:=1) (v:=.int .i64 0) Y13.out rfl,setCell_id (i:=2) (v:=.slice none 0 0) Y13.out rfl]
  exact bodyPost_ret (v:=.tuple #[.agg #[.slice none 0 0,.slice none 0 0,.slice none 0 0,.slice none 0 0],.agg #[.int .i64 0,.int .i64 0,.slice none 0 0],.int .i64 (e1)]) (by simp (maxDischargeDepth:=9) [results,Tryz.results56,go_sem,v0,v1,v2,v3,l0,l1,l2]) rfl ⟨⟨_,rfl,.no _ HNE.out⟩,HB2.out⟩
 have z1:(e1 != 0)=false:=by simpa using hz
 subst hz
 have hse:=ruset_any rs n ls x.S.xs lv (vSl x.S) w4 (rdRus.mono HR.out hbr) (rdNet.mono HG.out hbr) (hO4.isL (fun _=>rfl)) hlg (rdSt.mono HGS.out hbr).2.2.1.isL (HGS.out.2.2.1.2.2.2)
 simp only [vNet,vSl] at hse
 go_wp2_with fail
 refine Calls.to hse ?_
 rintro e w5 ⟨u,rfl,hu⟩ hb1
 have hs34:=hbW.size
 replace q0:=cel_lt q0 hb1
 replace q1:=cel_lt q1 hb1
 replace s0:=cel_lt s0 hb1
 replace s1:=cel_lt s1 hb1
 replace s2:=cel_lt s2 hb1
 replace s3:=cel_lt s3 hb1
 replace hbr:=hbr.trans ((hb1).mono hbr.size)
 replace hbW:=hbW.trans ((hb1).mono hbW.size)
 clear hse hb1 hO4 z1
 cases hu with
 | no e2 he2=>
  have z1:(e2 != 0)=true:=by simpa using he2
  have HNE:=qh he2
  clear he2
  go_upto_region 8 with (fail)
  have y12:=(HBM.out _ hbW).1
  have y13:=(HBM.out _ hbW).2
  have v0:w5.cell? ⟨b12,0,none⟩=some (.slice none 0 0):=(tank_blk y12 0).trans rfl
  have v1:w5.cell? ⟨b12,1,none⟩=some (.slice none 0 0):=(tank_blk y12 1).trans rfl
  have v2:w5.cell? ⟨b12,2,none⟩=some (.slice none 0 0):=(tank_blk y12 2).trans rfl
  have v3:w5.cell? ⟨b12,3,none⟩=some (.slice none 0 0):=(tank_blk y12 3).trans rfl
  have l0:w5.cell? ⟨b13,0,none⟩=some (.int .i64 0):=(tank_blk y13 0).trans rfl
  have l1:w5.cell? ⟨b13,1,none⟩=some (.int .i64 0):=(tank_blk y13 1).trans rfl
  have l2:w5.cell? ⟨b13,2,none⟩=some (.slice none 0 0):=(tank_blk y13 2).trans rfl
  have vf0:w5.frozen? ⟨b12,0,none⟩=false:=tank_free y12 0
  have vf1:w5.frozen? ⟨b12,1,none⟩=false:=tank_free y12 1
  have vf2:w5.frozen? ⟨b12,2,none⟩=false:=tank_free y12 2
  have vf3:w5.frozen? ⟨b12,3,none⟩=false:=tank_free y12 3
  have lf0:w5.frozen? ⟨b13,0,none⟩=false:=tank_free y13 0
  have lf1:w5.frozen? ⟨b13,1,none⟩=false:=tank_free y13 1
  have lf2:w5.frozen? ⟨b13,2,none⟩=false:=tank_free y13 2
  have hne:b12≠b13:=by have:=HB.out;omega
  have Y12:=qh y12
  have Y13:=qh y13
  have HB2:=qh hbr
  clear q0 q1 s0 s1 s2 s3 y12 y13
  go_wp2_with fail
  rw [setCell_id (i:=0) (v:=.slice none 0 0) Y12.out rfl,setCell_id (i:=1) (v:=.slice none 0 0) Y12.out rfl,setCell_id (i:=2) (v:=.slice none 0 0) Y12.out rfl,setCell_id (i:=3) (v:=.slice none 0 0) Y12.out rfl,setCell_id (i:=0) (v:=.int .i64 0) Y13.out rfl,setCell_id (i:=1) (v:=.int .i64 0) Y13.out rfl,setCell_id (i:=2) (v:=.slice none 0 0) Y13.out rfl]
  exact bodyPost_ret (v:=.tuple #[.agg #[.slice none 0 0,.slice none 0 0,.slice none 0 0,.slice none 0 0],.agg #[.int .i64 0,.int .i64 0,.slice none 0 0],.int .i64 (e2)]) (by simp (maxDischargeDepth:=9) [results,Tryz.results56,go_sem,v0,v1,v2,v3,l0,l1,l2]) rfl ⟨⟨_,rfl,.no _ HNE.out⟩,HB2.out⟩
 | ok uS xs hOS hxg=>
 obtain ⟨aS,cS,hus⟩:=hOS.isSlice
 subst hus
 have z1:((0:Int) != 0)=false:=rfl
 have y9:=blk_mono T9.out hbW
 have f9:w5.frozen? ⟨b9,2,none⟩=false:=tank_free y9 2
 go_upto_region 10 with (fail)
 have hbr6:=hbr.setCell (p:=⟨b9,2,none⟩) (by have:=HB.out;show w.heap.size<=b9;omega) (.slice aS xs.length cS)
 have hS6:=hOS.under (a:=⟨b9,2,none⟩) (by have:=HB.out;show b9<w4.heap.size;omega) (.slice aS xs.length cS)
 have y9':=blk_set y9 2 (.slice aS xs.length cS)
 have y12:=blk_far (HBM.out _ hbW).1 ⟨b9,2,none⟩ (.slice aS xs.length cS) (by have:=HB.out;show b12≠b9;omega)
 have y13:=blk_far (HBM.out _ hbW).2 ⟨b9,2,none⟩ (.slice aS xs.length cS) (by have:=HB.out;show b13≠b9;omega)
 replace q0:=cell_far q0 ⟨b9,2,none⟩ (.slice aS xs.length cS) (by have:=HB.out;show b6≠b9;omega)
 replace q1:=cell_far q1 ⟨b9,2,none⟩ (.slice aS xs.length cS) (by have:=HB.out;show b6≠b9;omega)
 have hs6:w.heap.size+3<(w5.setCell ⟨b9,2,none⟩ (.slice aS xs.length cS)).heap.size:=by have:=hbW.size;simp [World.setCell];omega
 clear s0 s1 s2 s3 f9 y9 hOS
 generalize w5.setCell ⟨b9,2,none⟩ (.slice aS xs.length cS)=w6 at *
 have s0:w6.cell? ⟨b9,0,none⟩=some (.slice x.V.a x.V.xs.length x.V.cap):=(tank_blk y9' 0).trans rfl
 have s1:w6.cell? ⟨b9,1,none⟩=some (.slice x.P.a x.P.xs.length x.P.cap):=(tank_blk y9' 1).trans rfl
 have s2:w6.cell? ⟨b9,2,none⟩=some (.slice aS xs.length cS):=(tank_blk y9' 2).trans rfl
 have s3:w6.cell? ⟨b9,3,none⟩=some (.slice x.O.a x.O.xs.length x.O.cap):=(tank_blk y9' 3).trans rfl
 obtain ⟨x2,hx2⟩:∃ x2:St,x2=⟨x.V,x.P,⟨aS,cS,xs⟩,x.O⟩:=⟨_,rfl⟩
 have hg2:gSt w6 x2:=by
  have h:=rdSt.mono HGS.out hbr6
  obtain ⟨a',c',he,h1,h2,h3⟩:=hS6.isL (fun _=>rfl)
  cases he
  rw [hx2]
  exact ⟨h.1,h.2.1,⟨h1,h2,h3,hxg⟩,h.2.2.2⟩
 have hst:=rstep_any n ss vS x2 q vq sec w6 (rdNet.mono HG.out hbr6) (HS.out.mono hbr6) hg2 (HQ.out.mono hbr6)
 have HX2:=qh hx2
 rw [show vSt x2=.agg #[.slice x.V.a x.V.xs.length x.V.cap,.slice x.P.a x.P.xs.length x.P.cap,.slice aS xs.length cS,.slice x.O.a x.O.xs.length x.O.cap] from by rw [hx2]] at hst
 simp only [vNet,vSl] at hst
 clear hx2 hg2 hS6 y9' z1 hxg
 go_wp2_with fail
 refine Calls.to hst ?_
 rintro e w7 ⟨u,rfl,hu⟩ hb7
 have hbr7:=hbr6.trans (hb7.mono hbr6.size)
 have y12:=blk_mono y12 hb7
 have y13:=blk_mono y13 hb7
 clear hst
 cases hu with
 | no e3 he3=>
  have HNE:=qh he3
  clear he3
  have y12:=(And.intro y12 y13).1
  have y13:=(And.intro y12 y13).2
  have v0:w7.cell? ⟨b12,0,none⟩=some (.slice none 0 0):=(tank_blk y12 0).trans rfl
  have v1:w7.cell? ⟨b12,1,none⟩=some (.slice none 0 0):=(tank_blk y12 1).trans rfl
  have v2:w7.cell? ⟨b12,2,none⟩=some (.slice none 0 0):=(tank_blk y12 2).trans rfl
  have v3:w7.cell? ⟨b12,3,none⟩=some (.slice none 0 0):=(tank_blk y12 3).trans rfl
  have l0:w7.cell? ⟨b13,0,none⟩=some (.int .i64 0):=(tank_blk y13 0).trans rfl
  have l1:w7.cell? ⟨b13,1,none⟩=some (.int .i64 0):=(tank_blk y13 1).trans rfl
  have l2:w7.cell? ⟨b13,2,none⟩=some (.slice none 0 0):=(tank_blk y13 2).trans rfl
  have vf0:w7.frozen? ⟨b12,0,none⟩=false:=tank_free y12 0
  have vf1:w7.frozen? ⟨b12,1,none⟩=false:=tank_free y12 1
  have vf2:w7.frozen? ⟨b12,2,none⟩=false:=tank_free y12 2
  have vf3:w7.frozen? ⟨b12,3,none⟩=false:=tank_free y12 3
  have lf0:w7.frozen? ⟨b13,0,none⟩=false:=tank_free y13 0
  have lf1:w7.frozen? ⟨b13,1,none⟩=false:=tank_free y13 1
  have lf2:w7.frozen? ⟨b13,2,none⟩=false:=tank_free y13 2
  have hne:b12≠b13:=by have:=HB.out;omega
  have Y12:=qh y12
  have Y13:=qh y13
  have HB2:=qh hbr7
  clear q0 q1 s0 s1 s2 s3 y12 y13
  go_wp2_with fail
  rw [setCell_id (i:=0) (v:=.slice none 0 0) Y12.out rfl,setCell_id (i:=1) (v:=.slice none 0 0) Y12.out rfl,setCell_id (i:=2) (v:=.slice none 0 0) Y12.out rfl,setCell_id (i:=3) (v:=.slice none 0 0) Y12.out rfl,setCell_id (i:=0) (v:=.int .i64 0) Y13.out rfl,setCell_id (i:=1) (v:=.int .i64 0) Y13.out rfl,setCell_id (i:=2) (v:=.slice none 0 0) Y13.out rfl]
  exact bodyPost_ret (v:=.tuple #[.agg #[.slice none 0 0,.slice none 0 0,.slice none 0 0,.slice none 0 0],.agg #[.int .i64 0,.int .i64 0,.slice none 0 0],.int .i64 (e3)]) (by simp (maxDischargeDepth:=9) [results,Tryz.results56,go_sem,v0,v1,v2,v3,l0,l1,l2]) rfl ⟨⟨_,rfl,.no _ HNE.out⟩,HB2.out⟩
 | ok s' g hstep hgs hgp hfar=>
  have hne:b12≠b13:=by have:=HB.out;omega
  have hq12:b12<w6.heap.size:=by have:=HB.out;omega
  have hq13:b13<w6.heap.size:=by have:=HB.out;omega
  obtain ⟨y12',y13'⟩:=set7_cells hne y12 y13 (vSl s'.V) (vSl s'.P) (vSl s'.S) (vSl s'.O) (.int .i64 g.I) (.int .i64 g.O) (vSl g.P)
  have hgs':=gSt.set7 hgs hfar hq12 hq13 (vSl s'.V) (vSl s'.P) (vSl s'.S) (vSl s'.O) (.int .i64 g.I) (.int .i64 g.O) (vSl g.P)
  have hgp':=gInts.set7 hgp hfar hq12 hq13 (vSl s'.V) (vSl s'.P) (vSl s'.S) (vSl s'.O) (.int .i64 g.I) (.int .i64 g.O) (vSl g.P)
  have hbf:=Below.set7 hbr7 (b10:=b12) (b11:=b13) (by have:=HB.out;omega) (by have:=HB.out;omega) (vSl s'.V) (vSl s'.P) (vSl s'.S) (vSl s'.O) (.int .i64 g.I) (.int .i64 g.O) (vSl g.P)
  have hcs:CStep n x q s' g:=by
   have h:=HC3.out
   rw [Bool.and_eq_true] at h
   exact ⟨h.2,x2,by rw [HX2.out],by rw [HX2.out],hstep⟩
  have hfar':FarS w.heap.size s' g:=by
   have h:=hbr6.size
   exact ⟨fun b off e=>Nat.le_trans h (hfar.V b off e),fun b off e=>Nat.le_trans h (hfar.P b off e),fun b off e=>Nat.le_trans h (hfar.S b off e),fun b off e=>Nat.le_trans h (hfar.O b off e),fun b off e=>Nat.le_trans h (hfar.G b off e)⟩
  have v0:w7.cell? ⟨b12,0,none⟩=some (.slice none 0 0):=(tank_blk y12 0).trans rfl
  have v1:w7.cell? ⟨b12,1,none⟩=some (.slice none 0 0):=(tank_blk y12 1).trans rfl
  have v2:w7.cell? ⟨b12,2,none⟩=some (.slice none 0 0):=(tank_blk y12 2).trans rfl
  have v3:w7.cell? ⟨b12,3,none⟩=some (.slice none 0 0):=(tank_blk y12 3).trans rfl
  have l0:w7.cell? ⟨b13,0,none⟩=some (.int .i64 0):=(tank_blk y13 0).trans rfl
  have l1:w7.cell? ⟨b13,1,none⟩=some (.int .i64 0):=(tank_blk y13 1).trans rfl
  have l2:w7.cell? ⟨b13,2,none⟩=some (.slice none 0 0):=(tank_blk y13 2).trans rfl
  have vf0:w7.frozen? ⟨b12,0,none⟩=false:=tank_free y12 0
  have vf1:w7.frozen? ⟨b12,1,none⟩=false:=tank_free y12 1
  have vf2:w7.frozen? ⟨b12,2,none⟩=false:=tank_free y12 2
  have vf3:w7.frozen? ⟨b12,3,none⟩=false:=tank_free y12 3
  have lf0:w7.frozen? ⟨b13,0,none⟩=false:=tank_free y13 0
  have lf1:w7.frozen? ⟨b13,1,none⟩=false:=tank_free y13 1
  have lf2:w7.frozen? ⟨b13,2,none⟩=false:=tank_free y13 2
  have hne:b12≠b13:=by have:=HB.out;omega
  have HF:=qh (And.intro y12' (And.intro y13' (And.intro hgs' (And.intro hgp' (And.intro hbf (And.intro hcs hfar'))))))
  clear y12' y13' hgs' hgp' hbf hcs hfar' hfar hgs hgp hstep q0 q1 s0 s1 s2 s3 hq12 hq13
  go_wp2_with fail
  show bodyPost _ _ _ _ _ (set7 w7 b12 b13 (vSl s'.V) (vSl s'.P) (vSl s'.S) (vSl s'.O) (.int .i64 g.I) (.int .i64 g.O) (vSl g.P))
  obtain ⟨y12',y13',hgs',hgp',hbf,hcs,hfar'⟩:=HF.out
  clear HF
  generalize set7 w7 b12 b13 (vSl s'.V) (vSl s'.P) (vSl s'.S) (vSl s'.O) (.int .i64 g.I) (.int .i64 g.O) (vSl g.P)=wF at *
  have hout:CtOut w.heap.size wF n x q (.tuple #[vSt s',vLed g,.int .i64 0]):=.ok s' g hcs hgs' hgp' hfar'
  have z0:wF.cell? ⟨b12,0,none⟩=some (.slice s'.V.a s'.V.xs.length s'.V.cap):=(tank_blk y12' 0).trans rfl
  have z1:wF.cell? ⟨b12,1,none⟩=some (.slice s'.P.a s'.P.xs.length s'.P.cap):=(tank_blk y12' 1).trans rfl
  have z2:wF.cell? ⟨b12,2,none⟩=some (.slice s'.S.a s'.S.xs.length s'.S.cap):=(tank_blk y12' 2).trans rfl
  have z3:wF.cell? ⟨b12,3,none⟩=some (.slice s'.O.a s'.O.xs.length s'.O.cap):=(tank_blk y12' 3).trans rfl
  have z4:wF.cell? ⟨b13,0,none⟩=some (.int .i64 g.I):=(tank_blk y13' 0).trans rfl
  have z5:wF.cell? ⟨b13,1,none⟩=some (.int .i64 g.O):=(tank_blk y13' 1).trans rfl
  have z6:wF.cell? ⟨b13,2,none⟩=some (.slice g.P.a g.P.xs.length g.P.cap):=(tank_blk y13' 2).trans rfl
  exact bodyPost_ret (v:=.tuple #[vSt s',vLed g,.int .i64 0]) (by simp (maxDischargeDepth:=9) [results,Tryz.results56,go_sem,z0,z1,z2,z3,z4,z5,z6]) rfl ⟨⟨_,rfl,hout⟩,hbf⟩
end Go.Proofs.YtoiakijmbghhlaaGreat
