/- routing.Step. Conditions: network, sections, state and inflows read as data. -/
import Derived.Test.YtoiakijmbghhlaaGreatS37
set_option linter.unusedVariables false
set_option linter.unusedSimpArgs false
set_option maxRecDepth 100000
set_option maxHeartbeats 32000000
namespace Go.Proofs.YtoiakijmbghhlaaGreat
open Go.RowKit
theorem ent165:∀ args w,(callFunc 165 args).run Tryz.prog w=.ok (.enter 165 args) w:=by
 intro args w
 simp [go_sem]
def inflB (v:Int):Bool:=!(decide (0<=v)&&decide (v<=1125899906842624))
theorem rstep_any (n:Net) (ss:List SecD) (vS:Value) (s:St) (q:List Int) (vq:Value) (sec:Int) (w:World) (hg:gNet w n) (hs:IsSecs w vS ss) (hgs:gSt w s) (hq:IsInts w vq q) :
  Calls Tryz.prog 94 #[vNet n,vS,vSt s,vq,.int .i64 sec] w fun e w'=>(∃ u,e=.returned u/\StepOut w.heap.size w' n s q u)/\Below w.heap.size w w':=by
 obtain ⟨L,hL⟩:∃ L:List (Array Value×TypeId),L = [((eNet n).toArray,25),((eSt s).toArray,31),(#[.slice none 0 0,.slice none 0 0,.slice none 0 0,.slice none 0 0],31),(#[.int .i64 0,.int .i64 0,.slice none 0 0],56)]:=⟨_,rfl⟩
 obtain ⟨W,hW⟩:∃ W,W=allocs w L:=⟨_,rfl⟩
 have hbw:Below w.heap.size w W:=by rw [hW];exact allocs_below _ _
 have t5:W.heap[w.heap.size]? = some (.cells (eNet n).toArray 25 (0,0)):=by rw [hW,hL];exact allocs_at _ w 0 (by simp)
 have t7:W.heap[w.heap.size+1]? = some (.cells (eSt s).toArray 31 (0,0)):=by rw [hW,hL];exact allocs_at _ w 1 (by simp)
 have t10:W.heap[w.heap.size+2]? = some (.cells #[.slice none 0 0,.slice none 0 0,.slice none 0 0,.slice none 0 0] 31 (0,0)):=by rw [hW,hL];exact allocs_at _ w 2 (by simp)
 have t11:W.heap[w.heap.size+3]? = some (.cells #[.int .i64 0,.int .i64 0,.slice none 0 0] 56 (0,0)):=by rw [hW,hL];exact allocs_at _ w 3 (by simp)
 have HW:Hid (W=(((w.alloc (.cells (eNet n).toArray 25)).alloc (.cells (eSt s).toArray 31)).alloc (.cells #[.slice none 0 0,.slice none 0 0,.slice none 0 0,.slice none 0 0] 31)).alloc (.cells #[.int .i64 0,.int .i64 0,.slice none 0 0] 56)):=qh (by rw [hW,hL];rfl)
 have hsz:w.heap.size+3<W.heap.size:=(Array.getElem?_eq_some_iff.1 t11).1
 clear hW hL
 have HG:=qh hg
 have HS:=qh hs
 have HGS:=qh hgs
 have HQ:=qh hq
 have hva:=rvalid_any n ss vS s W (rdNet.mono hg hbw) (hs.mono hbw) (rdSt.mono hgs hbw)
 obtain ⟨vb,hvb⟩:∃ b,(netB n&&stB n s&&catB ss)=b:=⟨_,rfl⟩
 rw [hvb] at hva
 have HVB:=qh hvb
 obtain ⟨aq,cq,rfl,hq1,hq2,hqC⟩:=hq
 have HQC:=qh hqC
 clear hqC
 obtain ⟨b5,h5⟩:∃ b,b=w.heap.size:=⟨_,rfl⟩
 obtain ⟨b7,h7⟩:∃ b,b=w.heap.size+1:=⟨_,rfl⟩
 obtain ⟨b10,h10⟩:∃ b,b=w.heap.size+2:=⟨_,rfl⟩
 obtain ⟨b11,h11⟩:∃ b,b=w.heap.size+3:=⟨_,rfl⟩
 have HB:Hid (b5=w.heap.size/\b7=w.heap.size+1/\b10=w.heap.size+2/\b11=w.heap.size+3/\b11<W.heap.size):=qh ⟨h5,h7,h10,h11,by omega⟩
 clear hg hs hgs hvb
 simp only [vNet,vSt,vSl] at hva ⊢
 go_enter Tryz.func94,Tryz.ntmps94
 go_upto_region 1 with (fail)
 simp only [Nat.add_assoc,Nat.reduceAdd]
 rw [<-HW.out]
 rw [<-h7] at t7 ⊢
 rw [<-h10] at t10 ⊢
 rw [<-h11] at t11 ⊢
 rw [<-h5] at t5 ⊢
 clear HW h5 h7 h10 h11
 have T5:=qh t5
 have T7:=qh t7
 have T10:=qh t10
 have T11:=qh t11
 clear t5 t7 t10 t11
 have q0:W.cell? ⟨b5,0,none⟩=some (.slice n.Ns.a n.Ns.xs.length n.Ns.cap):=(tank_blk T5.out 0).trans rfl
 have q1:W.cell? ⟨b5,1,none⟩=some (.slice n.Ls.a n.Ls.xs.length n.Ls.cap):=(tank_blk T5.out 1).trans rfl
 have s0:W.cell? ⟨b7,0,none⟩=some (.slice s.V.a s.V.xs.length s.V.cap):=(tank_blk T7.out 0).trans rfl
 have s1:W.cell? ⟨b7,1,none⟩=some (.slice s.P.a s.P.xs.length s.P.cap):=(tank_blk T7.out 1).trans rfl
 have s2:W.cell? ⟨b7,2,none⟩=some (.slice s.S.a s.S.xs.length s.S.cap):=(tank_blk T7.out 2).trans rfl
 have s3:W.cell? ⟨b7,3,none⟩=some (.slice s.O.a s.O.xs.length s.O.cap):=(tank_blk T7.out 3).trans rfl
 go_wp2_with fail
 refine Calls.to hva ?_
 rintro e w2 rfl hb2
 have hbr:=hbw.trans (hb2.mono hbw.size)
 have hbW:=hb2
 have q0:=cel_lt q0 hb2
 have q1:=cel_lt q1 hb2
 have s0:=cel_lt s0 hb2
 have s1:=cel_lt s1 hb2
 have s2:=cel_lt s2 hb2
 have s3:=cel_lt s3 hb2
 clear hva hb2
 cases vb
 ·clear q0 q1 s0 s1 s2 s3
  go_wp2_with fail
  refine Calls.to (rstep1_any 1 _) ?_
  rintro e wz rfl hbz
  have y10:=blk_mono (blk_mono T10.out hbW) hbz
  have y11:=blk_mono (blk_mono T11.out hbW) hbz
  have hbz:=(hbr).trans (hbz.mono (hbr).size)
  have v0:wz.cell? ⟨b10,0,none⟩=some (.slice none 0 0):=(tank_blk y10 0).trans rfl
  have v1:wz.cell? ⟨b10,1,none⟩=some (.slice none 0 0):=(tank_blk y10 1).trans rfl
  have v2:wz.cell? ⟨b10,2,none⟩=some (.slice none 0 0):=(tank_blk y10 2).trans rfl
  have v3:wz.cell? ⟨b10,3,none⟩=some (.slice none 0 0):=(tank_blk y10 3).trans rfl
  have l0:wz.cell? ⟨b11,0,none⟩=some (.int .i64 0):=(tank_blk y11 0).trans rfl
  have l1:wz.cell? ⟨b11,1,none⟩=some (.int .i64 0):=(tank_blk y11 1).trans rfl
  have l2:wz.cell? ⟨b11,2,none⟩=some (.slice none 0 0):=(tank_blk y11 2).trans rfl
  have vf0:wz.frozen? ⟨b10,0,none⟩=false:=tank_free y10 0
  have vf1:wz.frozen? ⟨b10,1,none⟩=false:=tank_free y10 1
  have vf2:wz.frozen? ⟨b10,2,none⟩=false:=tank_free y10 2
  have vf3:wz.frozen? ⟨b10,3,none⟩=false:=tank_free y10 3
  have lf0:wz.frozen? ⟨b11,0,none⟩=false:=tank_free y11 0
  have lf1:wz.frozen? ⟨b11,1,none⟩=false:=tank_free y11 1
  have lf2:wz.frozen? ⟨b11,2,none⟩=false:=tank_free y11 2
  have hne:b10≠b11:=by have:=HB.out;omega
  have HB2:=qh hbz
  clear hbz
  go_wp2_with fail
  rw [setCell_id (i:=0) (v:=.slice none 0 0) y10 rfl,setCell_id (i:=1) (v:=.slice none 0 0) y10 rfl,setCell_id (i:=2) (v:=.slice none 0 0) y10 rfl,setCell_id (i:=3) (v:=.slice none 0 0) y10 rfl,setCell_id (i:=0) (v:=.int .i64 0) y11 rfl,setCell_id (i:=1) (v:=.int .i64 0) y11 rfl,setCell_id (i:=2) (v:=.slice none 0 0) y11 rfl]
  exact bodyPost_ret (v:=.tuple #[.agg #[.slice none 0 0,.slice none 0 0,.slice none 0 0,.slice none 0 0],.agg #[.int .i64 0,.int .i64 0,.slice none 0 0],.int .i64 (1)]) (by simp (maxDischargeDepth:=9) [results,Tryz.results94,go_sem,v0,v1,v2,v3,l0,l1,l2]) rfl ⟨⟨_,rfl,.no _ (by decide)⟩,HB2.out⟩
 have hvv:=HVB.out
 simp only [Bool.and_eq_true] at hvv
 have HN:=qh hvv.1.1
 have HST:=qh hvv.1.2
 have hl3:=(netB_size hvv.1.1).1
 have hlm:=(netB_size hvv.1.1).2
 clear hvv
 by_cases hlq:q.length=n.Ns.xs.length
 rotate_left
 ·have z1:(q.length != n.Ns.xs.length)=true:=by simpa using hlq
  have z2:((q.length:Int) != (n.Ns.xs.length:Int))=true:=bneT om
  clear hlq
  go_upto_region 5 with (fail)
  clear q0 q1 s0 s1 s2 s3
  go_wp2_with fail
  refine Calls.to (rstep1_any 3 _) ?_
  rintro e wz rfl hbz
  have y10:=blk_mono (blk_mono T10.out hbW) hbz
  have y11:=blk_mono (blk_mono T11.out hbW) hbz
  have hbz:=(hbr).trans (hbz.mono (hbr).size)
  have v0:wz.cell? ⟨b10,0,none⟩=some (.slice none 0 0):=(tank_blk y10 0).trans rfl
  have v1:wz.cell? ⟨b10,1,none⟩=some (.slice none 0 0):=(tank_blk y10 1).trans rfl
  have v2:wz.cell? ⟨b10,2,none⟩=some (.slice none 0 0):=(tank_blk y10 2).trans rfl
  have v3:wz.cell? ⟨b10,3,none⟩=some (.slice none 0 0):=(tank_blk y10 3).trans rfl
  have l0:wz.cell? ⟨b11,0,none⟩=some (.int .i64 0):=(tank_blk y11 0).trans rfl
  have l1:wz.cell? ⟨b11,1,none⟩=some (.int .i64 0):=(tank_blk y11 1).trans rfl
  have l2:wz.cell? ⟨b11,2,none⟩=some (.slice none 0 0):=(tank_blk y11 2).trans rfl
  have vf0:wz.frozen? ⟨b10,0,none⟩=false:=tank_free y10 0
  have vf1:wz.frozen? ⟨b10,1,none⟩=false:=tank_free y10 1
  have vf2:wz.frozen? ⟨b10,2,none⟩=false:=tank_free y10 2
  have vf3:wz.frozen? ⟨b10,3,none⟩=false:=tank_free y10 3
  have lf0:wz.frozen? ⟨b11,0,none⟩=false:=tank_free y11 0
  have lf1:wz.frozen? ⟨b11,1,none⟩=false:=tank_free y11 1
  have lf2:wz.frozen? ⟨b11,2,none⟩=false:=tank_free y11 2
  have hne:b10≠b11:=by have:=HB.out;omega
  have HB2:=qh hbz
  clear hbz
  go_wp2_with fail
  rw [setCell_id (i:=0) (v:=.slice none 0 0) y10 rfl,setCell_id (i:=1) (v:=.slice none 0 0) y10 rfl,setCell_id (i:=2) (v:=.slice none 0 0) y10 rfl,setCell_id (i:=3) (v:=.slice none 0 0) y10 rfl,setCell_id (i:=0) (v:=.int .i64 0) y11 rfl,setCell_id (i:=1) (v:=.int .i64 0) y11 rfl,setCell_id (i:=2) (v:=.slice none 0 0) y11 rfl]
  exact bodyPost_ret (v:=.tuple #[.agg #[.slice none 0 0,.slice none 0 0,.slice none 0 0,.slice none 0 0],.agg #[.int .i64 0,.int .i64 0,.slice none 0 0],.int .i64 (3)]) (by simp (maxDischargeDepth:=9) [results,Tryz.results94,go_sem,v0,v1,v2,v3,l0,l1,l2]) rfl ⟨⟨_,rfl,.no _ (by decide)⟩,HB2.out⟩
 have z1:(q.length != n.Ns.xs.length)=false:=by simpa using hlq
 have z2:((q.length:Int) != (n.Ns.xs.length:Int))=false:=bneF om
 have HLQ:=qh hlq
 clear hlq
 have hco:=containsInts 165 #[] ent165 inflB q _ w2 (HQ.out.mono hbr) (fun W _ x _=>rstep2_any x W)
 obtain ⟨cb,hcb⟩:∃ b,q.any inflB=b:=⟨_,rfl⟩
 rw [hcb] at hco
 have HCB:=qh hcb
 clear hcb
 go_wp2_with fail
 refine Calls.to hco ?_
 rintro e w3 rfl hb3
 have hbr:=hbr.trans (hb3.mono hbr.size)
 have hbW:=hbW.trans (hb3.mono hbW.size)
 replace q0:=cel_lt q0 hb3
 replace q1:=cel_lt q1 hb3
 replace s0:=cel_lt s0 hb3
 replace s1:=cel_lt s1 hb3
 replace s2:=cel_lt s2 hb3
 replace s3:=cel_lt s3 hb3
 clear hco hb3 z1 z2
 cases cb
 rotate_left
 ·clear q0 q1 s0 s1 s2 s3
  go_wp2_with fail
  refine Calls.to (rstep1_any 2 _) ?_
  rintro e wz rfl hbz
  have y10:=blk_mono (blk_mono T10.out hbW) hbz
  have y11:=blk_mono (blk_mono T11.out hbW) hbz
  have hbz:=(hbr).trans (hbz.mono (hbr).size)
  have v0:wz.cell? ⟨b10,0,none⟩=some (.slice none 0 0):=(tank_blk y10 0).trans rfl
  have v1:wz.cell? ⟨b10,1,none⟩=some (.slice none 0 0):=(tank_blk y10 1).trans rfl
  have v2:wz.cell? ⟨b10,2,none⟩=some (.slice none 0 0):=(tank_blk y10 2).trans rfl
  have v3:wz.cell? ⟨b10,3,none⟩=some (.slice none 0 0):=(tank_blk y10 3).trans rfl
  have l0:wz.cell? ⟨b11,0,none⟩=some (.int .i64 0):=(tank_blk y11 0).trans rfl
  have l1:wz.cell? ⟨b11,1,none⟩=some (.int .i64 0):=(tank_blk y11 1).trans rfl
  have l2:wz.cell? ⟨b11,2,none⟩=some (.slice none 0 0):=(tank_blk y11 2).trans rfl
  have vf0:wz.frozen? ⟨b10,0,none⟩=false:=tank_free y10 0
  have vf1:wz.frozen? ⟨b10,1,none⟩=false:=tank_free y10 1
  have vf2:wz.frozen? ⟨b10,2,none⟩=false:=tank_free y10 2
  have vf3:wz.frozen? ⟨b10,3,none⟩=false:=tank_free y10 3
  have lf0:wz.frozen? ⟨b11,0,none⟩=false:=tank_free y11 0
  have lf1:wz.frozen? ⟨b11,1,none⟩=false:=tank_free y11 1
  have lf2:wz.frozen? ⟨b11,2,none⟩=false:=tank_free y11 2
  have hne:b10≠b11:=by have:=HB.out;omega
  have HB2:=qh hbz
  clear hbz
  go_wp2_with fail
  rw [setCell_id (i:=0) (v:=.slice none 0 0) y10 rfl,setCell_id (i:=1) (v:=.slice none 0 0) y10 rfl,setCell_id (i:=2) (v:=.slice none 0 0) y10 rfl,setCell_id (i:=3) (v:=.slice none 0 0) y10 rfl,setCell_id (i:=0) (v:=.int .i64 0) y11 rfl,setCell_id (i:=1) (v:=.int .i64 0) y11 rfl,setCell_id (i:=2) (v:=.slice none 0 0) y11 rfl]
  exact bodyPost_ret (v:=.tuple #[.agg #[.slice none 0 0,.slice none 0 0,.slice none 0 0,.slice none 0 0],.agg #[.int .i64 0,.int .i64 0,.slice none 0 0],.int .i64 (2)]) (by simp (maxDischargeDepth:=9) [results,Tryz.results94,go_sem,v0,v1,v2,v3,l0,l1,l2]) rfl ⟨⟨_,rfl,.no _ (by decide)⟩,HB2.out⟩
 by_cases hsl:sec<1
 ·have i1:decide (sec<1)=true:=decide_eq_true hsl
  clear hsl
  clear q0 q1 s0 s1 s2 s3
  go_wp2_with fail
  refine Calls.to (rstep1_any 2 _) ?_
  rintro e wz rfl hbz
  have y10:=blk_mono (blk_mono T10.out hbW) hbz
  have y11:=blk_mono (blk_mono T11.out hbW) hbz
  have hbz:=(hbr).trans (hbz.mono (hbr).size)
  have v0:wz.cell? ⟨b10,0,none⟩=some (.slice none 0 0):=(tank_blk y10 0).trans rfl
  have v1:wz.cell? ⟨b10,1,none⟩=some (.slice none 0 0):=(tank_blk y10 1).trans rfl
  have v2:wz.cell? ⟨b10,2,none⟩=some (.slice none 0 0):=(tank_blk y10 2).trans rfl
  have v3:wz.cell? ⟨b10,3,none⟩=some (.slice none 0 0):=(tank_blk y10 3).trans rfl
  have l0:wz.cell? ⟨b11,0,none⟩=some (.int .i64 0):=(tank_blk y11 0).trans rfl
  have l1:wz.cell? ⟨b11,1,none⟩=some (.int .i64 0):=(tank_blk y11 1).trans rfl
  have l2:wz.cell? ⟨b11,2,none⟩=some (.slice none 0 0):=(tank_blk y11 2).trans rfl
  have vf0:wz.frozen? ⟨b10,0,none⟩=false:=tank_free y10 0
  have vf1:wz.frozen? ⟨b10,1,none⟩=false:=tank_free y10 1
  have vf2:wz.frozen? ⟨b10,2,none⟩=false:=tank_free y10 2
  have vf3:wz.frozen? ⟨b10,3,none⟩=false:=tank_free y10 3
  have lf0:wz.frozen? ⟨b11,0,none⟩=false:=tank_free y11 0
  have lf1:wz.frozen? ⟨b11,1,none⟩=false:=tank_free y11 1
  have lf2:wz.frozen? ⟨b11,2,none⟩=false:=tank_free y11 2
  have hne:b10≠b11:=by have:=HB.out;omega
  have HB2:=qh hbz
  clear hbz
  go_wp2_with fail
  rw [setCell_id (i:=0) (v:=.slice none 0 0) y10 rfl,setCell_id (i:=1) (v:=.slice none 0 0) y10 rfl,setCell_id (i:=2) (v:=.slice none 0 0) y10 rfl,setCell_id (i:=3) (v:=.slice none 0 0) y10 rfl,setCell_id (i:=0) (v:=.int .i64 0) y11 rfl,setCell_id (i:=1) (v:=.int .i64 0) y11 rfl,setCell_id (i:=2) (v:=.slice none 0 0) y11 rfl]
  exact bodyPost_ret (v:=.tuple #[.agg #[.slice none 0 0,.slice none 0 0,.slice none 0 0,.slice none 0 0],.agg #[.int .i64 0,.int .i64 0,.slice none 0 0],.int .i64 (2)]) (by simp (maxDischargeDepth:=9) [results,Tryz.results94,go_sem,v0,v1,v2,v3,l0,l1,l2]) rfl ⟨⟨_,rfl,.no _ (by decide)⟩,HB2.out⟩
 have i1:decide (sec<1)=false:=decide_eq_false hsl
 by_cases hsh:86400<sec
 ·have i2:decide (86400<sec)=true:=decide_eq_true hsh
  clear hsl hsh
  clear q0 q1 s0 s1 s2 s3
  go_wp2_with fail
  refine Calls.to (rstep1_any 2 _) ?_
  rintro e wz rfl hbz
  have y10:=blk_mono (blk_mono T10.out hbW) hbz
  have y11:=blk_mono (blk_mono T11.out hbW) hbz
  have hbz:=(hbr).trans (hbz.mono (hbr).size)
  have v0:wz.cell? ⟨b10,0,none⟩=some (.slice none 0 0):=(tank_blk y10 0).trans rfl
  have v1:wz.cell? ⟨b10,1,none⟩=some (.slice none 0 0):=(tank_blk y10 1).trans rfl
  have v2:wz.cell? ⟨b10,2,none⟩=some (.slice none 0 0):=(tank_blk y10 2).trans rfl
  have v3:wz.cell? ⟨b10,3,none⟩=some (.slice none 0 0):=(tank_blk y10 3).trans rfl
  have l0:wz.cell? ⟨b11,0,none⟩=some (.int .i64 0):=(tank_blk y11 0).trans rfl
  have l1:wz.cell? ⟨b11,1,none⟩=some (.int .i64 0):=(tank_blk y11 1).trans rfl
  have l2:wz.cell? ⟨b11,2,none⟩=some (.slice none 0 0):=(tank_blk y11 2).trans rfl
  have vf0:wz.frozen? ⟨b10,0,none⟩=false:=tank_free y10 0
  have vf1:wz.frozen? ⟨b10,1,none⟩=false:=tank_free y10 1
  have vf2:wz.frozen? ⟨b10,2,none⟩=false:=tank_free y10 2
  have vf3:wz.frozen? ⟨b10,3,none⟩=false:=tank_free y10 3
  have lf0:wz.frozen? ⟨b11,0,none⟩=false:=tank_free y11 0
  have lf1:wz.frozen? ⟨b11,1,none⟩=false:=tank_free y11 1
  have lf2:wz.frozen? ⟨b11,2,none⟩=false:=tank_free y11 2
  have hne:b10≠b11:=by have:=HB.out;omega
  have HB2:=qh hbz
  clear hbz
  go_wp2_with fail
  rw [setCell_id (i:=0) (v:=.slice none 0 0) y10 rfl,setCell_id (i:=1) (v:=.slice none 0 0) y10 rfl,setCell_id (i:=2) (v:=.slice none 0 0) y10 rfl,setCell_id (i:=3) (v:=.slice none 0 0) y10 rfl,setCell_id (i:=0) (v:=.int .i64 0) y11 rfl,setCell_id (i:=1) (v:=.int .i64 0) y11 rfl,setCell_id (i:=2) (v:=.slice none 0 0) y11 rfl]
  exact bodyPost_ret (v:=.tuple #[.agg #[.slice none 0 0,.slice none 0 0,.slice none 0 0,.slice none 0 0],.agg #[.int .i64 0,.int .i64 0,.slice none 0 0],.int .i64 (2)]) (by simp (maxDischargeDepth:=9) [results,Tryz.results94,go_sem,v0,v1,v2,v3,l0,l1,l2]) rfl ⟨⟨_,rfl,.no _ (by decide)⟩,HB2.out⟩
 have i2:decide (86400<sec)=false:=decide_eq_false hsh
 clear hsl hsh
 have hna:=rnamed_any n ss vS w3 (rdNet.mono HG.out hbr) (HS.out.mono hbr) hlm
 simp only [vNet,vSl] at hna
 go_wp2_with fail
 refine Calls.to hna ?_
 rintro e w4 ⟨nb,rfl⟩ hb4
 have hbr:=hbr.trans (hb4.mono hbr.size)
 have hbW:=hbW.trans (hb4.mono hbW.size)
 replace q0:=cel_lt q0 hb4
 replace q1:=cel_lt q1 hb4
 replace s0:=cel_lt s0 hb4
 replace s1:=cel_lt s1 hb4
 replace s2:=cel_lt s2 hb4
 replace s3:=cel_lt s3 hb4
 clear hna hb4 i1 i2
 cases nb
 ·clear q0 q1 s0 s1 s2 s3
  go_wp2_with fail
  refine Calls.to (rstep1_any 9 _) ?_
  rintro e wz rfl hbz
  have y10:=blk_mono (blk_mono T10.out hbW) hbz
  have y11:=blk_mono (blk_mono T11.out hbW) hbz
  have hbz:=(hbr).trans (hbz.mono (hbr).size)
  have v0:wz.cell? ⟨b10,0,none⟩=some (.slice none 0 0):=(tank_blk y10 0).trans rfl
  have v1:wz.cell? ⟨b10,1,none⟩=some (.slice none 0 0):=(tank_blk y10 1).trans rfl
  have v2:wz.cell? ⟨b10,2,none⟩=some (.slice none 0 0):=(tank_blk y10 2).trans rfl
  have v3:wz.cell? ⟨b10,3,none⟩=some (.slice none 0 0):=(tank_blk y10 3).trans rfl
  have l0:wz.cell? ⟨b11,0,none⟩=some (.int .i64 0):=(tank_blk y11 0).trans rfl
  have l1:wz.cell? ⟨b11,1,none⟩=some (.int .i64 0):=(tank_blk y11 1).trans rfl
  have l2:wz.cell? ⟨b11,2,none⟩=some (.slice none 0 0):=(tank_blk y11 2).trans rfl
  have vf0:wz.frozen? ⟨b10,0,none⟩=false:=tank_free y10 0
  have vf1:wz.frozen? ⟨b10,1,none⟩=false:=tank_free y10 1
  have vf2:wz.frozen? ⟨b10,2,none⟩=false:=tank_free y10 2
  have vf3:wz.frozen? ⟨b10,3,none⟩=false:=tank_free y10 3
  have lf0:wz.frozen? ⟨b11,0,none⟩=false:=tank_free y11 0
  have lf1:wz.frozen? ⟨b11,1,none⟩=false:=tank_free y11 1
  have lf2:wz.frozen? ⟨b11,2,none⟩=false:=tank_free y11 2
  have hne:b10≠b11:=by have:=HB.out;omega
  have HB2:=qh hbz
  clear hbz
  go_wp2_with fail
  rw [setCell_id (i:=0) (v:=.slice none 0 0) y10 rfl,setCell_id (i:=1) (v:=.slice none 0 0) y10 rfl,setCell_id (i:=2) (v:=.slice none 0 0) y10 rfl,setCell_id (i:=3) (v:=.slice none 0 0) y10 rfl,setCell_id (i:=0) (v:=.int .i64 0) y11 rfl,setCell_id (i:=1) (v:=.int .i64 0) y11 rfl,setCell_id (i:=2) (v:=.slice none 0 0) y11 rfl]
  exact bodyPost_ret (v:=.tuple #[.agg #[.slice none 0 0,.slice none 0 0,.slice none 0 0,.slice none 0 0],.agg #[.int .i64 0,.int .i64 0,.slice none 0 0],.int .i64 (9)]) (by simp (maxDischargeDepth:=9) [results,Tryz.results94,go_sem,v0,v1,v2,v3,l0,l1,l2]) rfl ⟨⟨_,rfl,.no _ (by decide)⟩,HB2.out⟩
 obtain ⟨lnV,lnP,lnS,lnO,hnV,hnS⟩:=stB_parts HST.out
 have HBR4:=qh hbr
 have HBW4:=qh hbW
 have hcp:=rcopied_any s w4 (rdSt.mono HGS.out hbr) om om om om
 have HLN:=qh (And.intro lnV (And.intro lnP (And.intro lnS lnO)))
 have HNV:=qh hnV
 have HNS:=qh hnS
 clear lnV lnP lnS lnO hnV hnS
 simp only [vSt,vSl] at hcp
 go_wp2_with fail
 refine Calls.to hcp ?_
 rintro e w5 ⟨uV,uP,uS,uO,lV,hV,lP,hP,lS,hS,lO,hO,rfl,hc⟩ hb5
 obtain ⟨aV,cV,hu1⟩:=hc.V.1.isSlice
 obtain ⟨aP,cP,hu2⟩:=hc.P.1.isSlice
 obtain ⟨aS,cS,hu3⟩:=hc.S.1.isSlice
 obtain ⟨aO,cO,hu4⟩:=hc.O.1.isSlice
 subst hu1 hu2 hu3 hu4
 have HC:=qh hc
 have hbr:=hbr.trans (hb5.mono hbr.size)
 have hbW5:=hbW.trans (hb5.mono hbW.size)
 replace q0:=cel_lt q0 hb5
 replace q1:=cel_lt q1 hb5
 replace s0:=cel_lt s0 hb5
 replace s1:=cel_lt s1 hb5
 replace s2:=cel_lt s2 hb5
 replace s3:=cel_lt s3 hb5
 clear hcp hc
 go_upto_region 11 with (fail)
 obtain ⟨w6,hw6⟩:∃ w6,w6=w5.alloc (.cells #[.slice aV s.V.xs.length cV,.slice aP s.P.xs.length cP,.slice aS s.S.xs.length cS,.slice aO s.O.xs.length cO] 31):=⟨_,rfl⟩
 rw [<-hw6]
 have hb6:Below w5.heap.size w5 w6:=by rw [hw6];exact alloc_below _ _
 have hz6:w6.heap.size=w5.heap.size+1:=by rw [hw6];simp
 obtain ⟨b14,h14⟩:∃ b,b=w5.heap.size:=⟨_,rfl⟩
 have hcl6:Cloned w4 w6 b14 (.slice aV s.V.xs.length cV) (.slice aP s.P.xs.length cP) (.slice aS s.S.xs.length cS) (.slice aO s.O.xs.length cO) s.V.xs s.P.xs s.S.xs s.O.xs:=by
  have c:=HC.out
  have k0:=c.b8
  have k1:=c.b0
  have k2:=c.b1
  have k3:=c.b2
  have k4:=c.b3
  have k5:=c.b4
  have k6:=c.b5
  have k7:=c.b6
  have k8:=c.b7
  subst h14
  have hh:∀ j,w6.cell? ⟨w5.heap.size,j,none⟩=(#[Value.slice aV s.V.xs.length cV,.slice aP s.P.xs.length cP,.slice aS s.S.xs.length cS,.slice aO s.O.xs.length cO]:Array Value)[j]?:=fun j=>by rw [hw6];simp [go_sem]
  exact Cloned.of (hb5.trans (hb6.mono hb5.size)) om ((hh 0).trans rfl) ((hh 1).trans rfl) ((hh 2).trans rfl) ((hh 3).trans rfl) (hw6 ▸ c.V.alloc _) (hw6 ▸ c.P.alloc _) (hw6 ▸ c.S.alloc _) (hw6 ▸ c.O.alloc _) k1 k3 k5 k7 k2 k4 k6 (.inr om) (.inr om)
 have hlo:∀ g,((Value.slice aV s.V.xs.length cV).ownBlock=some g\/(Value.slice aP s.P.xs.length cP).ownBlock=some g\/(Value.slice aS s.S.xs.length cS).ownBlock=some g\/(Value.slice aO s.O.xs.length cO).ownBlock=some g)->w4.heap.size<=g/\g<b14:=by
  have c:=HC.out
  intro g hg
  rw [h14]
  rcases hg with h|h|h|h
  ·exact ⟨(c.V.1.base c.b0).lt g h |>.1,(c.V.1.lt g h).2⟩
  ·exact ⟨(c.P.1.base (by have:=c.b0;have:=c.b1;have:=c.b2;omega)).lt g h |>.1,(c.P.1.lt g h).2⟩
  ·exact ⟨(c.S.1.base (by have:=c.b0;have:=c.b1;have:=c.b2;have:=c.b3;have:=c.b4;omega)).lt g h |>.1,(c.S.1.lt g h).2⟩
  ·exact ⟨(c.O.1.base (by have:=c.b0;have:=c.b1;have:=c.b2;have:=c.b3;have:=c.b4;have:=c.b5;have:=c.b6;omega)).lt g h |>.1,(c.O.1.lt g h).2⟩
 have HLO:=qh hlo
 have hbr6:=hbr.trans (hb6.mono hbr.size)
 have hbW6:=hbW5.trans (hb6.mono hbW5.size)
 have hho:=rholds_any s w6 (rdSt.mono HGS.out hbr6) (by have:=HLN.out;omega) (by have:=HLN.out;omega) (fun k hk hk2=>by
  have hk3:k<n.Ns.xs.length:=by have:=HLN.out;omega
  have a:=HNV.out k hk3
  have b:=capB_le HN.out k hk3
  have e1:s.V.xs.getD k 0=s.V.xs[k]:=by simp [List.getD,hk]
  have e2:s.P.xs.getD k 0=s.P.xs[k]:=by simp [List.getD,hk2]
  omega)
 simp only [vSt,vSl] at hho
 replace q0:=cel_lt q0 hb6
 replace q1:=cel_lt q1 hb6
 replace s0:=cel_lt s0 hb6
 replace s1:=cel_lt s1 hb6
 replace s2:=cel_lt s2 hb6
 replace s3:=cel_lt s3 hb6
 rw [<-h14]
 have hb46:=hb5.trans (hb6.mono hb5.size)
 have hk14:w6.heap[b14]? = some (.cells #[.slice aV s.V.xs.length cV,.slice aP s.P.xs.length cP,.slice aS s.S.xs.length cS,.slice aO s.O.xs.length cO] 31 (0,0)):=by rw [hw6,h14];exact heap_alloc_new w5 _
 have H6:Hid (w5.heap.size+1=w6.heap.size/\b14=w5.heap.size/\w4.heap.size<=w5.heap.size/\W.heap.size<=w4.heap.size):=qh ⟨hz6.symm,h14,hb5.size,hbW.size⟩
 clear hw6 hz6 h14 hlo
 go_wp2_with fail
 refine Calls.to hho ?_
 rintro e w7 ⟨uH,rfl,hO7⟩ hb7
 have hcl7:=hcl6.grow hb7
 have hbr7:=hbr6.trans (hb7.mono hbr6.size)
 have hbW7:=hbW6.trans (hb7.mono hbW6.size)
 replace q0:=cel_lt q0 hb7
 replace q1:=cel_lt q1 hb7
 replace s0:=cel_lt s0 hb7
 replace s1:=cel_lt s1 hb7
 replace s2:=cel_lt s2 hb7
 replace s3:=cel_lt s3 hb7
 clear hho hcl6 hbr6 hbW6 hbW5 hb6 hbr
 go_upto_region 13 with (fail)
 have hLH:∀ g,uH.ownBlock=some g->w6.heap.size<=g/\g<w7.heap.size:=hO7.lt
 obtain ⟨w8,hw8⟩:∃ w8,w8=w7.alloc (.cells #[.int .i64 0,.int .i64 0,.slice none 0 0] 56):=⟨_,rfl⟩
 have hb8:Below w7.heap.size w7 w8:=by rw [hw8];exact alloc_below _ _
 have k16:w8.heap[w7.heap.size]? = some (.cells #[.int .i64 0,.int .i64 0,.slice none 0 0] 56 (0,0)):=by rw [hw8];exact heap_alloc_new w7 _
 rw [<-hw8]
 obtain ⟨b16,h16⟩:∃ b,b=w7.heap.size:=⟨_,rfl⟩
 rw [<-h16] at k16 ⊢
 have hS7:=hb7.size
 have HL:Hid (∀ g,((Value.slice aV s.V.xs.length cV).ownBlock=some g\/(Value.slice aP s.P.xs.length cP).ownBlock=some g\/(Value.slice aS s.S.xs.length cS).ownBlock=some g\/(Value.slice aO s.O.xs.length cO).ownBlock=some g\/uH.ownBlock=some g)->w4.heap.size<=g/\g<b16/\g≠b14):=qh (fun g hg=>by
  have h6:=H6.out
  rcases hg with h|h|h|h|h
  ·have:=HLO.out g (.inl h);omega
  ·have:=HLO.out g (.inr (.inl h));omega
  ·have:=HLO.out g (.inr (.inr (.inl h)));omega
  ·have:=HLO.out g (.inr (.inr (.inr h)));omega
  ·have:=hLH g h;omega)
 have HBB:Hid (b11<w4.heap.size/\w4.heap.size<=b14/\b14<b16/\w.heap.size<=w4.heap.size/\b16<w8.heap.size):=qh (by
  have h6:=H6.out
  have hb:=HB.out
  have:=(Array.getElem?_eq_some_iff.1 k16).1
  omega)
 have hsb:SB w8 b5 b10 b11 b16 n #[.int .i64 0,.int .i64 0,.slice none 0 0]:=by
  have hbW8:=hbW7.trans (hb8.mono hbW7.size)
  have hb:=HB.out
  have hbb:=HBB.out
  exact ⟨blk_mono T5.out hbW8,blk_mono T10.out hbW8,blk_mono T11.out hbW8,k16,by omega,by omega,by omega⟩
 have hst:Sett w4 w8 b14 (.slice aV s.V.xs.length cV) (.slice aP s.P.xs.length cP) (.slice aS s.S.xs.length cS) (.slice aO s.O.xs.length cO) uH s.V.xs s.P.xs s.S.xs s.O.xs (List.zipWith (· + ·) s.V.xs s.P.xs):=by
  have h6:=H6.out
  refine ⟨hcl7.grow hb8,(hO7.below hb8).base om,fun g hg=>?_⟩
  have a:=hLH g hg
  refine ⟨by omega,fun e=>?_,fun e=>?_,fun e=>?_,fun e=>?_⟩
  ·have:=HLO.out g (.inl e);omega
  ·have:=HLO.out g (.inr (.inl e));omega
  ·have:=HLO.out g (.inr (.inr (.inl e)));omega
  ·have:=HLO.out g (.inr (.inr (.inr e)));omega
 have HK14:Hid (∃ cs,w8.heap[b14]? = some (.cells cs 31 (0,0))):=qh ⟨_,blk_mono (blk_mono hk14 hb7) hb8⟩
 clear HC HLO hk14
 generalize Value.slice aV s.V.xs.length cV=uV at hst HL
 generalize Value.slice aP s.P.xs.length cP=uP at hst HL
 generalize Value.slice aS s.S.xs.length cS=uS at hst HL
 generalize Value.slice aO s.O.xs.length cO=uO at hst HL
 have HQB:Hid (∀ i,i<n.Ns.xs.length->0<=q.getD i 0/\q.getD i 0<=1125899906842624):=qh (fun i hi=>by
  have h:=HCB.out
  rw [List.any_eq_false] at h
  have hiq:i<q.length:=by rw [HLQ.out];exact hi
  have:=h _ (List.getElem_mem hiq)
  simp [inflB] at this
  simp [List.getD,hiq];omega)
 have hM0:mixL (fun i=>s.V.xs.getD i 0+s.P.xs.getD i 0+if isOut n i then 0 else q.getD i 0) (fun i=>s.V.xs.getD i 0+s.P.xs.getD i 0) n.Ns.xs.length 0 (List.zipWith (· + ·) s.V.xs s.P.xs):=by
  have hl:=HLN.out
  refine ⟨by rw [List.length_zipWith];omega,fun i hi=>?_⟩
  rw [if_neg (Nat.not_lt_zero i)]
  have e1:i<s.V.xs.length:=by omega
  have e2:i<s.P.xs.length:=by omega
  have e3:i<(List.zipWith (· + ·) s.V.xs s.P.xs).length:=by rw [List.length_zipWith];omega
  simp only [List.getD,List.getElem?_eq_getElem e1,List.getElem?_eq_getElem e2,List.getElem?_eq_getElem e3,Option.getD_some,List.getElem_zipWith]
 obtain ⟨hs0,hh0⟩:∃ hs0,hs0=List.zipWith (· + ·) s.V.xs s.P.xs:=⟨_,rfl⟩
 rw [<-hh0] at hst hM0
 have HSt:=qh hst
 have HSb:=qh hsb
 have HM0:=qh hM0
 clear hst hsb hM0 hh0 k16 hw8 h16 hb8 hS7 hO7 hb7 hcl7 hbr7 hbW7 hLH hb46 q0 q1 s0 s1 s2 s3 hb5
 obtain ⟨N,hNN⟩:∃ N,N=n.Ns.xs.length:=⟨_,rfl⟩
 have HNN:=qh hNN
 have HQN:Hid (q.length=N):=qh (by rw [HLQ.out,hNN])
 rw [<-hNN] at HM0 hl3
 clear hNN
 go_wp2_with fail
 go_loopw [82] (fun s82 wr=>∃ (k:Nat) (hs:List Int),k<=N/\s82=.int .i64 k/\Hid (Sett w4 wr b14 uV uP uS uO uH s.V.xs s.P.xs s.S.xs s.O.xs hs) /\
  Hid (mixL (fun i=>s.V.xs.getD i 0+s.P.xs.getD i 0+if isOut n i then 0 else q.getD i 0) (fun i=>s.V.xs.getD i 0+s.P.xs.getD i 0) N k hs) /\
  Hid (SB wr b5 b10 b11 b16 n #[.int .i64 (sg (fun i=>q.getD i 0) k),.int .i64 (sg (fun i=>if isOut n i then q.getD i 0 else 0) k),.slice none 0 0])/\Hid (∃ cs,wr.heap[b14]? = some (.cells cs 31 (0,0)))) (fun s82 _=>N-(RowKit.intOf s82).toNat)
 case atStart=>exact ⟨0,hs0,Nat.zero_le _,rfl,HSt,HM0,HSb,HK14⟩
 clear HSt HM0 HSb HK14
 case round=>
  obtain ⟨k,hs,hk,rfl,HT,HM,HSB,HK14⟩:=hrel
  obtain ⟨wo,hwo⟩:∃ wo,wo=wr:=⟨_,rfl⟩
  subst hwo
  by_cases hkN:k<N
  ·have hb:=HT.out.cl.bel
   have hbw0:=HBR4.out.trans (hb.mono HBR4.out.size)
   have hkn:k<n.Ns.xs.length:=by rw [<-HNN.out];exact hkN
   have hkq:k<q.length:=by rw [HQN.out];exact hkN
   obtain ⟨bq,oq,eaq,e0⟩:=(HQC.out.mono hbw0).int k hkq
   have eqd:q[k]'hkq=q.getD k 0:=by simp [List.getD,hkq]
   rw [eqd] at e0
   have hqb:=HQB.out k hkn
   have hs1:=sg_bd (f:=fun i=>q.getD i 0) (b:=1125899906842624) (n:=k) (fun i hi=>HQB.out i om)
   have hs2:=sg_bd (f:=fun i=>if isOut n i then q.getD i 0 else 0) (b:=1125899906842624) (n:=k) (fun i hi=>by
    have:=HQB.out i om
    split
    ·exact this
    ·omega)
   have p1:sg (fun i=>q.getD i 0) (k+1)=sg (fun i=>q.getD i 0) k+q.getD k 0:=rfl
   have p2:sg (fun i=>if isOut n i then q.getD i 0 else 0) (k+1)=sg (fun i=>if isOut n i then q.getD i 0 else 0) k+if isOut n k then q.getD k 0 else 0:=rfl
   have hlh:=HM.out.1
   have hz:hs.getD k 0=s.V.xs.getD k 0+s.P.xs.getD k 0:=by
    have h:=HM.out.2 k hkN
    rw [if_neg (Nat.lt_irrefl k)] at h
    exact h
   have hnv:=HNV.out k hkn
   have hcb:=capB_le HN.out k hkn
   have hgx:=((rdNet.mono HG.out hbw0).1.2.2.2 _ (List.getElem_mem hkn))
   obtain ⟨bn,on,ean,c0,c1,c2,c3,c4,c5,c6,c7,c8⟩:=((rdNet.mono HG.out hbw0).1.2.2.1).nd k hkn
   have hok:isOut n k=decide ((n.Ns.xs[k]'hkn).Kind=3):=by unfold isOut;rw [ndK_at hkn]
   obtain ⟨x,hx⟩:∃ x,x=n.Ns.xs[k]'hkn:=⟨_,rfl⟩
   rw [<-hx] at c1 hok
   have HXX:Hid (x=ndK n k):=qh (by rw [hx,ndK_at hkn])
   obtain ⟨gH,cH,hu,hgH,hgH2,-,-⟩:=HT.out.H.place om
   rw [hlh] at hu
   subst hu
   have hbb:=HBB.out
   have hgh:=HL.out gH (.inr (.inr (.inr (.inr rfl))))
   obtain ⟨S1,hS1⟩:∃ S,S=sg (fun i=>q.getD i 0) k:=⟨_,rfl⟩
   obtain ⟨S2,hS2⟩:∃ S,S=sg (fun i=>if isOut n i then q.getD i 0 else 0) k:=⟨_,rfl⟩
   obtain ⟨y,hy⟩:∃ y,y=q.getD k 0:=⟨_,rfl⟩
   obtain ⟨z,hzz⟩:∃ z,z=s.V.xs.getD k 0+s.P.xs.getD k 0:=⟨_,rfl⟩
   rw [<-hS1,<-hS2] at HSB
   rw [<-hS1] at hs1 p1
   rw [<-hS2] at hs2 p2
   rw [<-hy] at e0 hqb p1 p2
   have hzb:0<=z/\z<=2251799813685248:=by omega
   rw [<-hzz] at hz
   have HZD:=qh hz
   clear hz
   have P1:=qh p1
   have P2:=qh p2
   have HY:=qh hy
   have HZ:=qh hzz
   have HX:=qh hok
   have EA:=qh ean
   have q0:wo.cell? ⟨b5,0,none⟩=some (.slice n.Ns.a n.Ns.xs.length n.Ns.cap):=(tank_blk HSB.out.k5 0).trans rfl
   rw [ean,<-HNN.out] at q0
   have g0:wo.cell? ⟨b16,0,none⟩=some (.int .i64 S1):=(tank_blk HSB.out.k16 0).trans rfl
   have f0:wo.frozen? ⟨b16,0,none⟩=false:=tank_free HSB.out.k16 0
   have i1:decide (k<N)=true:=decide_eq_true hkN
   have x7:IntKind.i64.wrap ((k:Int)+1)=k+1:=IntWalk.i64_in _ om
   have x8:IntKind.i64.wrap (S1+y)=S1+y:=IntWalk.i64_in _ om
   have x9:IntKind.i64.wrap (S2+y)=S2+y:=IntWalk.i64_in _ om
   have x10:IntKind.i64.wrap (z+y)=z+y:=IntWalk.i64_in _ om
   have i4:(0:Int)<=k:=by omega
   have i5:(k:Int)<N:=by omega
   have i1q:decide (k<q.length)=true:=decide_eq_true hkq
   have i5q:(k:Int)<q.length:=by omega
   have HKN:=qh hkN
   subst eaq
   clear c0 c2 c3 c4 c5 c6 c7 c8 p1 p2 hy hzz hok hS1 hS2 hx hgx hcb hnv hkn hkq eqd hb hbw0 hgH hgH2
   go_upto_region 17 with (fail)
   have hT1:=HT.out.set w4 _ ⟨b16,0,none⟩ (.int .i64 (S1+y)) (by show w4.heap.size<=b16;omega) (by show b16≠b14;omega) (fun e=>by have:=HL.out b16 (.inl e);omega) (fun e=>by have:=HL.out b16 (.inr (.inl e));omega) (fun e=>by have:=HL.out b16 (.inr (.inr (.inl e)));omega) (fun e=>by have:=HL.out b16 (.inr (.inr (.inr (.inl e))));omega) (fun e=>by have:=HL.out b16 (.inr (.inr (.inr (.inr e))));omega)
   have hSB1:SB (wo.setCell ⟨b16,0,none⟩ (.int .i64 (S1+y))) b5 b10 b11 b16 n #[.int .i64 (S1+y),.int .i64 S2,.slice none 0 0]:=HSB.out.set 0 _
   replace q0:=cell_far q0 ⟨b16,0,none⟩ (.int .i64 (S1+y)) (by have:=hSB1.d1;have:=hSB1.d2;have:=hSB1.d3;show b5≠b16;omega)
   have c1':(wo.setCell ⟨b16,0,none⟩ (.int .i64 (S1+y))).cell? ⟨bn,on+k*9+1,none⟩=some (.int .i64 x.Kind):=by
    have hbz:=HBR4.out.trans (hT1.cl.bel.mono HBR4.out.size)
    have hkn:k<n.Ns.xs.length:=by rw [<-HNN.out];exact HKN.out
    obtain ⟨bn',on',ean',-,c1',-⟩:=((rdNet.mono HG.out hbz).1.2.2.1).nd k hkn
    rw [EA.out] at ean'
    simp only [Option.some.injEq,Addr.mk.injEq] at ean'
    obtain ⟨rfl,rfl,-⟩:=ean'
    rw [HXX.out,ndK_at hkn]
    exact c1'
   clear c1 g0 f0
   have hK1:∃ cs,(wo.setCell ⟨b16,0,none⟩ (.int .i64 (S1+y))).heap[b14]? = some (.cells cs 31 (0,0)):=by
    obtain ⟨cs,h⟩:=HK14.out
    exact ⟨cs,blk_far h _ _ (by show b14≠b16;omega)⟩
   generalize wo.setCell ⟨b16,0,none⟩ (.int .i64 (S1+y))=wa at *
   by_cases hk3:x.Kind=3
   ·have j1:(x.Kind==3)=true:=by rw [hk3];rfl
    have j2:decide (x.Kind=3)=true:=decide_eq_true hk3
    have HO:Hid (isOut n k=true):=qh (HX.out.trans j2)
    have g1:wa.cell? ⟨b16,1,none⟩=some (.int .i64 S2):=(tank_blk hSB1.k16 1).trans rfl
    have f1:wa.frozen? ⟨b16,1,none⟩=false:=tank_free hSB1.k16 1
    have hT2:=qh (hT1.set w4 _ ⟨b16,1,none⟩ (.int .i64 (S2+y)) (by show w4.heap.size<=b16;omega) (by show b16≠b14;omega) (fun e=>by have:=HL.out b16 (.inl e);omega) (fun e=>by have:=HL.out b16 (.inr (.inl e));omega) (fun e=>by have:=HL.out b16 (.inr (.inr (.inl e)));omega) (fun e=>by have:=HL.out b16 (.inr (.inr (.inr (.inl e))));omega) (fun e=>by have:=HL.out b16 (.inr (.inr (.inr (.inr e))));omega))
    have hSB2:Hid (SB (wa.setCell ⟨b16,1,none⟩ (.int .i64 (S2+y))) b5 b10 b11 b16 n #[.int .i64 (sg (fun i=>q.getD i 0) (k+1)),.int .i64 (sg (fun i=>if isOut n i then q.getD i 0 else 0) (k+1)),.slice none 0 0]):=qh (by
     rw [P1.out,P2.out,HO.out]
     exact hSB1.set 1 _)
    have hM2:=qh (HM.out.skip HKN.out (by rw [HO.out];simp))
    have hK2:Hid (∃ cs,(wa.setCell ⟨b16,1,none⟩ (.int .i64 (S2+y))).heap[b14]? = some (.cells cs 31 (0,0))):=qh (by
     obtain ⟨cs,h⟩:=hK1
     exact ⟨cs,blk_far h _ _ (by show b14≠b16;omega)⟩)
    clear hk3 hT1 hSB1 hK1
    go_wp2_with fail
    clear ean
    first|rw [<-EA.out]|skip
    go_roundw
    case measure=>have:=HKN.out;simp [RowKit.intOf,x7];omega
    case rel=>exact ⟨k+1,hs,HKN.out,by go_num,hT2,hM2,hSB2,hK2⟩
   ·have j1:(x.Kind==3)=false:=by rw [beq_eq_false_iff_ne];exact hk3
    have j2:decide (x.Kind=3)=false:=decide_eq_false hk3
    have HO:Hid (isOut n k=false):=qh (HX.out.trans j2)
    have hkl:k<hs.length:=by have:=HKN.out;omega
    have eH:hs[k]'hkl=z:=by have:=HZD.out;simpa [List.getD,hkl] using this
    have f0:=hT1.H.free k
    have e1:=hT1.H.int1 (k:=k) hkl eH
    have hT2:=qh (hT1.storeH (k:=k) hkl (z+y))
    have hSB2:Hid (SB (wa.setCell ⟨gH,k,none⟩ (.int .i64 (z+y))) b5 b10 b11 b16 n #[.int .i64 (sg (fun i=>q.getD i 0) (k+1)),.int .i64 (sg (fun i=>if isOut n i then q.getD i 0 else 0) (k+1)),.slice none 0 0]):=qh (by
     rw [P1.out,P2.out,HO.out]
     have:=hSB1.far ⟨gH,k,none⟩ (.int .i64 (z+y)) (by show b11<gH;omega) (by show b16≠gH;omega)
     simpa using this)
    have hM2:=qh (HM.out.set (y:=z+y) HKN.out (by show z+y=s.V.xs.getD k 0+s.P.xs.getD k 0+if isOut n k then 0 else q.getD k 0;rw [HO.out,HZ.out,HY.out];rfl))
    have hK2:Hid (∃ cs,(wa.setCell ⟨gH,k,none⟩ (.int .i64 (z+y))).heap[b14]? = some (.cells cs 31 (0,0))):=qh (by
     obtain ⟨cs,h⟩:=hK1
     exact ⟨cs,blk_far h _ _ (by show b14≠gH;omega)⟩)
    clear hk3 hT1 hSB1 eH hkl hK1
    go_wp2_with fail
    clear ean
    first|rw [<-EA.out]|skip
    go_roundw
    case measure=>have:=HKN.out;simp [RowKit.intOf,x7];omega
    case rel=>exact ⟨k+1,_,HKN.out,by go_num,hT2,hM2,hSB2,hK2⟩
  ·have hkE:k=N:=by omega
   subst hkE
   have hkq:¬ k<q.length:=by rw [HQN.out];exact Nat.lt_irrefl k
   have i1:decide (k<q.length)=false:=decide_eq_false hkq
   have hM1:=HM.out.all (Nat.le_refl _)
   have q0:wo.cell? ⟨b5,0,none⟩=some (.slice n.Ns.a n.Ns.xs.length n.Ns.cap):=(tank_blk HSB.out.k5 0).trans rfl
   have q1:wo.cell? ⟨b5,1,none⟩=some (.slice n.Ls.a n.Ls.xs.length n.Ls.cap):=(tank_blk HSB.out.k5 1).trans rfl
   have hset:=rsettle_any n b14 uV uP uS uO uH s.V.xs s.P.xs s.S.xs s.O.xs hs w4 wo (rdNet.mono HG.out HBR4.out) HN.out HT.out HLN.out.1 HLN.out.2.1 (by rw [hM1.1,HNN.out]) (fun i hi=>by
    have a:=hM1.2 i (by rw [HNN.out];exact hi)
    have b:=HNV.out i hi
    have c:=capB_le HN.out i hi
    have d:=HQB.out i hi
    rw [a]
    split <;> omega)
   obtain ⟨hs0',hh0'⟩:∃ l,l=hs:=⟨_,rfl⟩
   rw [<-hh0'] at hM1
   have HM1:=qh hM1
   have HSE:=qh hh0'
   simp only [vNet,vSl] at hset
   clear hkq hM1
   go_wp2_with fail
   refine hset.mono ?_
   rintro e w9 ⟨sb,v1,p1,h1,rfl,hSR,hT1,hsz9,hfr⟩
   have hbb:=HBB.out
   have hne:∀ j,j<=b11\/j=b16\/j=b14->uV.ownBlock≠some j/\uP.ownBlock≠some j/\uH.ownBlock≠some j:=fun j hj=>by
    refine ⟨fun e=>?_,fun e=>?_,fun e=>?_⟩
    ·have:=HL.out j (.inl e);omega
    ·have:=HL.out j (.inr (.inl e));omega
    ·have:=HL.out j (.inr (.inr (.inr (.inr e))));omega
   have hSB9:=HSB.out.kept (w':=w9) (fun j hj hjs=>by
    have h:=hne j (by rcases hj with h|h <;> simp [h])
    exact hfr j hjs h.1 h.2.1 h.2.2)
   have hK9:∃ cs,w9.heap[b14]? = some (.cells cs 31 (0,0)):=by
    obtain ⟨cs,h⟩:=HK14.out
    have hx:=hne b14 (.inr (.inr rfl))
    exact ⟨cs,(hfr b14 (Array.getElem?_eq_some_iff.1 h).1 hx.1 hx.2.1 hx.2.2).trans h⟩
   have hb9:=HBR4.out.trans (hT1.cl.bel.mono HBR4.out.size)
   have hs16:b16<w9.heap.size:=(Array.getElem?_eq_some_iff.1 hSB9.k16).1
   clear hset hfr HK14 HT HSB hsz9
   cases sb
   ·go_wp2_with fail
    refine Calls.to (rstep1_any 5 _) ?_
    rintro e wz rfl hbz
    have y10:=blk_mono ((hSB9).k10) hbz
    have y11:=blk_mono ((hSB9).k11) hbz
    have hbz:=(hb9).trans (hbz.mono (hb9).size)
    have v0:wz.cell? ⟨b10,0,none⟩=some (.slice none 0 0):=(tank_blk y10 0).trans rfl
    have v1:wz.cell? ⟨b10,1,none⟩=some (.slice none 0 0):=(tank_blk y10 1).trans rfl
    have v2:wz.cell? ⟨b10,2,none⟩=some (.slice none 0 0):=(tank_blk y10 2).trans rfl
    have v3:wz.cell? ⟨b10,3,none⟩=some (.slice none 0 0):=(tank_blk y10 3).trans rfl
    have l0:wz.cell? ⟨b11,0,none⟩=some (.int .i64 0):=(tank_blk y11 0).trans rfl
    have l1:wz.cell? ⟨b11,1,none⟩=some (.int .i64 0):=(tank_blk y11 1).trans rfl
    have l2:wz.cell? ⟨b11,2,none⟩=some (.slice none 0 0):=(tank_blk y11 2).trans rfl
    have vf0:wz.frozen? ⟨b10,0,none⟩=false:=tank_free y10 0
    have vf1:wz.frozen? ⟨b10,1,none⟩=false:=tank_free y10 1
    have vf2:wz.frozen? ⟨b10,2,none⟩=false:=tank_free y10 2
    have vf3:wz.frozen? ⟨b10,3,none⟩=false:=tank_free y10 3
    have lf0:wz.frozen? ⟨b11,0,none⟩=false:=tank_free y11 0
    have lf1:wz.frozen? ⟨b11,1,none⟩=false:=tank_free y11 1
    have lf2:wz.frozen? ⟨b11,2,none⟩=false:=tank_free y11 2
    have hne:b10≠b11:=by have:=HB.out;omega
    have HB2:=qh hbz
    clear hbz
    go_wp2_with fail
    rw [setCell_id (i:=0) (v:=.slice none 0 0) y10 rfl,setCell_id (i:=1) (v:=.slice none 0 0) y10 rfl,setCell_id (i:=2) (v:=.slice none 0 0) y10 rfl,setCell_id (i:=3) (v:=.slice none 0 0) y10 rfl,setCell_id (i:=0) (v:=.int .i64 0) y11 rfl,setCell_id (i:=1) (v:=.int .i64 0) y11 rfl,setCell_id (i:=2) (v:=.slice none 0 0) y11 rfl]
    exact bodyPost_ret (v:=.tuple #[.agg #[.slice none 0 0,.slice none 0 0,.slice none 0 0,.slice none 0 0],.agg #[.int .i64 0,.int .i64 0,.slice none 0 0],.int .i64 (5)]) (by simp (maxDischargeDepth:=9) [results,Tryz.results94,go_sem,v0,v1,v2,v3,l0,l1,l2]) rfl ⟨⟨_,rfl,.no _ (by decide)⟩,HB2.out⟩
   have hrb:∀ i,i<n.Ns.xs.length->0<=h1.getD i 0/\h1.getD i 0<=3377699720527872/\-1125899906842624<=v1.getD i 0/\v1.getD i 0<=1125899906842624/\p1.getD i 0<=1125899906842624:=fun i hi=>by
    have a:=hSR.h i hi
    have b:=HM1.out.2 i (by rw [HNN.out];exact hi)
    rw [HSE.out] at b
    have c:=hSR.v i hi
    have d:=HNV.out i hi
    have e:=capB_le HN.out i hi
    have f:=HQB.out i hi
    have g:=hSR.p i hi
    have g2:=hSR.b rfl i hi
    rw [b] at a
    cases ho:isOut n i
    ·simp only [ho,Bool.false_eq_true,if_false] at a
     omega
    ·simp only [ho,if_true] at a
     omega
   have HRB:=qh hrb
   obtain ⟨sx,hsv,hsg,hx1,hx2,hx3,hx4⟩:=gSt_of hT1.cl.V hT1.cl.P hT1.cl.S hT1.cl.O (fun x hx=>by
    obtain ⟨i,hi,rfl⟩:=mem_getD hx
    have:=hrb i (by rw [<-hSR.lv];exact hi)
    exact gI64_of (w:=w9) om om) (fun x hx=>by
    obtain ⟨i,hi,rfl⟩:=mem_getD hx
    have hi2:i<n.Ns.xs.length:=by rw [<-hSR.lp];exact hi
    have:=hrb i hi2
    have g:=hSR.p i hi2
    exact gI64_of (w:=w9) om om) (fun x hx=>HGS.out.2.2.1.2.2.2 x hx)
   have hwi:=rwishes_any n ss vS sx sec w9 (rdNet.mono HG.out hb9) HN.out (HS.out.mono hb9) hsg
   rw [hsv] at hwi
   simp only [vNet,vSl] at hwi
   have HSR:=qh hSR
   replace q0:w9.cell? ⟨b5,0,none⟩=some (.slice n.Ns.a n.Ns.xs.length n.Ns.cap):=(tank_blk hSB9.k5 0).trans rfl
   replace q1:w9.cell? ⟨b5,1,none⟩=some (.slice n.Ls.a n.Ls.xs.length n.Ls.cap):=(tank_blk hSB9.k5 1).trans rfl
   have d0:=hT1.cl.c0
   have d1:=hT1.cl.c1
   have d2:=hT1.cl.c2
   have d3:=hT1.cl.c3
   clear hsv hsg hx1 hx2 hx3 hx4 hrb hSR hne
   go_wp2_with fail
   refine Calls.to hwi ?_
   rintro e w10 ⟨u,rfl,hu⟩ hb10
   have hT10:=hT1.grow hb10
   have hSB10:=hSB9.mono hb10
   have hb10w:=hb9.trans (hb10.mono hb9.size)
   have hK10:∃ cs,w10.heap[b14]? = some (.cells cs 31 (0,0)):=by
    obtain ⟨cs,h⟩:=hK9
    exact ⟨cs,blk_mono h hb10⟩
   have hs10:=hb10.size
   clear hwi hT1 hSB9 hK9 hb10 d0 d1 d2 d3 q0 q1
   cases hu with
   | no e1 he1=>
    have z1:(e1 != 0)=true:=by simpa using he1
    have HNE:=qh he1
    clear he1
    go_wp2_with fail
    refine Calls.to (rstep1_any e1 _) ?_
    rintro e wz rfl hbz
    have y10:=blk_mono ((hSB10).k10) hbz
    have y11:=blk_mono ((hSB10).k11) hbz
    have hbz:=(hb10w).trans (hbz.mono (hb10w).size)
    have v0:wz.cell? ⟨b10,0,none⟩=some (.slice none 0 0):=(tank_blk y10 0).trans rfl
    have v1:wz.cell? ⟨b10,1,none⟩=some (.slice none 0 0):=(tank_blk y10 1).trans rfl
    have v2:wz.cell? ⟨b10,2,none⟩=some (.slice none 0 0):=(tank_blk y10 2).trans rfl
    have v3:wz.cell? ⟨b10,3,none⟩=some (.slice none 0 0):=(tank_blk y10 3).trans rfl
    have l0:wz.cell? ⟨b11,0,none⟩=some (.int .i64 0):=(tank_blk y11 0).trans rfl
    have l1:wz.cell? ⟨b11,1,none⟩=some (.int .i64 0):=(tank_blk y11 1).trans rfl
    have l2:wz.cell? ⟨b11,2,none⟩=some (.slice none 0 0):=(tank_blk y11 2).trans rfl
    have vf0:wz.frozen? ⟨b10,0,none⟩=false:=tank_free y10 0
    have vf1:wz.frozen? ⟨b10,1,none⟩=false:=tank_free y10 1
    have vf2:wz.frozen? ⟨b10,2,none⟩=false:=tank_free y10 2
    have vf3:wz.frozen? ⟨b10,3,none⟩=false:=tank_free y10 3
    have lf0:wz.frozen? ⟨b11,0,none⟩=false:=tank_free y11 0
    have lf1:wz.frozen? ⟨b11,1,none⟩=false:=tank_free y11 1
    have lf2:wz.frozen? ⟨b11,2,none⟩=false:=tank_free y11 2
    have hne:b10≠b11:=by have:=HB.out;omega
    have HB2:=qh hbz
    clear hbz
    go_wp2_with fail
    rw [setCell_id (i:=0) (v:=.slice none 0 0) y10 rfl,setCell_id (i:=1) (v:=.slice none 0 0) y10 rfl,setCell_id (i:=2) (v:=.slice none 0 0) y10 rfl,setCell_id (i:=3) (v:=.slice none 0 0) y10 rfl,setCell_id (i:=0) (v:=.int .i64 0) y11 rfl,setCell_id (i:=1) (v:=.int .i64 0) y11 rfl,setCell_id (i:=2) (v:=.slice none 0 0) y11 rfl]
    exact bodyPost_ret (v:=.tuple #[.agg #[.slice none 0 0,.slice none 0 0,.slice none 0 0,.slice none 0 0],.agg #[.int .i64 0,.int .i64 0,.slice none 0 0],.int .i64 (e1)]) (by simp (maxDischargeDepth:=9) [results,Tryz.results94,go_sem,v0,v1,v2,v3,l0,l1,l2]) rfl ⟨⟨_,rfl,.no _ HNE.out⟩,HB2.out⟩
   | ok uw uo ws bs hwl hwb hwo hbl hbk hbo=>
   obtain ⟨aX,cX,hxo⟩:=hbo.isSlice
   subst hxo
   obtain ⟨aU,cU,hxu⟩:=hwo.isSlice
   subst hxu
   have HBL:=qh hbl
   have HWL:=qh hwl
   clear hbl hwl
   have z1:((0:Int) != 0)=false:=rfl
   have d3:=hT10.cl.c3
   have f3:w10.frozen? ⟨b14,3,none⟩=false:=by
    obtain ⟨cs,h⟩:=hK10
    exact tank_free h 3
   go_upto_region 27 with (fail)
   have hT11:=hT10.setO (hbo.base om) (fun e=>by have:=HL.out b14 (.inr (.inr (.inl e)));omega) (fun g hg=>by
    have h1:=(hbo.lt g hg).1
    refine ⟨by omega,fun e=>?_,fun e=>?_,fun e=>?_⟩
    ·have:=HL.out g (.inl e);omega
    ·have:=HL.out g (.inr (.inl e));omega
    ·have:=HL.out g (.inr (.inr (.inr (.inr e))));omega)
   have hSB11:=hSB10.far ⟨b14,3,none⟩ (.slice aX bs.length cX) (by show b11<b14;omega) (by show b16≠b14;omega)
   have hW11:=hwo.under (a:=⟨b14,3,none⟩) (by show b14<w9.heap.size;omega) (.slice aX bs.length cX)
   have hX11:Own w9.heap.size 4 eBool 1 (w10.setCell ⟨b14,3,none⟩ (.slice aX bs.length cX)) (.slice aX bs.length cX) bs:=hbo.under (a:=⟨b14,3,none⟩) (by show b14<w9.heap.size;omega) (.slice aX bs.length cX)
   have hz11:(w10.setCell ⟨b14,3,none⟩ (.slice aX bs.length cX)).heap.size=w10.heap.size:=by simp [World.setCell]
   clear d3 f3 hT10 hSB10 hwo hbo hK10 z1
   generalize w10.setCell ⟨b14,3,none⟩ (.slice aX bs.length cX)=w11 at *
   have hb11w:=HBR4.out.trans (hT11.cl.bel.mono HBR4.out.size)
   have hli:=rlimited_any n h1 ws uH (.slice aU ws.length cU) w11 (rdNet.mono HG.out hb11w) HN.out (hT11.H.isL (fun _=>rfl)) HSR.out.lh (fun i hi=>by have:=HRB.out i hi;omega) (hW11.isL (fun _=>rfl)) HWL.out (fun k hk=>by
    have hkw:k<ws.length:=by rw [HWL.out];exact hk
    have:=hwb _ (List.getElem_mem hkw)
    simp [List.getD,hkw];omega)
   simp only [vNet,vSl] at hli
   have q0:w11.cell? ⟨b5,0,none⟩=some (.slice n.Ns.a n.Ns.xs.length n.Ns.cap):=(tank_blk hSB11.k5 0).trans rfl
   have q1:w11.cell? ⟨b5,1,none⟩=some (.slice n.Ls.a n.Ls.xs.length n.Ls.cap):=(tank_blk hSB11.k5 1).trans rfl
   go_wp2_with fail
   refine Calls.to hli ?_
   rintro e w12 ⟨up,ps,rfl,hO12,hlim⟩ hb12
   have HLIM:=qh hlim
   obtain ⟨aY,cY,hxy⟩:=hO12.isSlice
   subst hxy
   have hT12:=hT11.grow hb12
   have hSB12:=hSB11.mono hb12
   have hX12:=hX11.below hb12
   have hs12:=hb12.size
   have q0:=cel_lt q0 hb12
   have q1:=cel_lt q1 hb12
   have g2:w12.cell? ⟨b16,2,none⟩=some (.slice none 0 0):=(tank_blk hSB12.k16 2).trans rfl
   have f2:w12.frozen? ⟨b16,2,none⟩=false:=tank_free hSB12.k16 2
   clear hli hT11 hSB11 hX11 hb12 hlim hW11
   go_upto_region 28 with (fail)
   have hxb:∀ g,(Value.slice aX bs.length cX).ownBlock=some g->w9.heap.size<=g:=fun g hg=>(hX12.lt g hg).1
   have hT13:=hT12.set w4 _ ⟨b16,2,none⟩ (.slice aY ps.length cY) (by show w4.heap.size<=b16;omega) (by show b16≠b14;omega) (fun e=>by have:=HL.out b16 (.inl e);omega) (fun e=>by have:=HL.out b16 (.inr (.inl e));omega) (fun e=>by have:=HL.out b16 (.inr (.inr (.inl e)));omega) (fun e=>by have:=hxb b16 e;omega) (fun e=>by have:=HL.out b16 (.inr (.inr (.inr (.inr e))));omega)
   have hSB13:=hSB12.set 2 (.slice aY ps.length cY)
   have hO13:=hO12.under (a:=⟨b16,2,none⟩) (by show b16<w11.heap.size;omega) (.slice aY ps.length cY)
   have hz13:(w12.setCell ⟨b16,2,none⟩ (.slice aY ps.length cY)).heap.size=w12.heap.size:=by simp [World.setCell]
   clear g2 f2 q0 q1 hT12 hSB12 hO12 hX12
   generalize w12.setCell ⟨b16,2,none⟩ (.slice aY ps.length cY)=w13 at *
   have hb13w:=HBR4.out.trans (hT13.cl.bel.mono HBR4.out.size)
   have hou:=routs_any n w13 (rdNet.mono HG.out hb13w) HN.out
   simp only [vNet,vSl] at hou
   have q0:w13.cell? ⟨b5,0,none⟩=some (.slice n.Ns.a n.Ns.xs.length n.Ns.cap):=(tank_blk hSB13.k5 0).trans rfl
   have q1:w13.cell? ⟨b5,1,none⟩=some (.slice n.Ls.a n.Ls.xs.length n.Ls.cap):=(tank_blk hSB13.k5 1).trans rfl
   go_wp2_with fail
   refine Calls.to hou ?_
   rintro e w14 ⟨ur,vr,v2,rfl,-,hpr,hpb⟩ hb14
   obtain ⟨a2,c2,rfl,-,-,hprc⟩:=hpr
   have hel:(edgesM n.Ns.xs n.Ls.xs).length=n.Ls.xs.length:=edges_len _ _
   have hpl:=HLIM.out.len
   obtain ⟨M,hMM⟩:∃ M,M=n.Ls.xs.length:=⟨_,rfl⟩
   rw [<-hMM] at hel hpl
   have HMM:=qh hMM
   have HEL:=qh hel
   have HPL:=qh hpl
   have HPRC:=qh hprc
   have HPB:Hid (∀ b off,a2=some ⟨b,off,none⟩->w9.heap.size<=b):=qh (fun b off e=>by
    have:=hpb b off _ c2 (by rw [e])
    omega)
   have hT14:=hT13.grow hb14
   have hSB14:=hSB13.mono hb14
   have hO14:=hO13.below hb14
   have hs14:=hb14.size
   have HO14:=qh (hO14.isL (fun _=>rfl))
   have HOB:Hid (∀ b off,aY=some ⟨b,off,none⟩->w9.heap.size<=b/\b<w14.heap.size):=qh (fun b off e=>by have:=hO14.blk b off e;omega)
   have HXB:=qh hxb
   rw [hel]
   clear hou hT13 hSB13 hO13 hb14 hpb hprc hxb q0 q1 hel hMM
   have g2:w14.cell? ⟨b16,2,none⟩=some (.slice aY ps.length cY):=(tank_blk hSB14.k16 2).trans rfl
   rw [hpl] at g2 ⊢
   have HT14:=qh hT14
   have HSB14:=qh hSB14
   have HH0:Hid (h1.length=n.Ns.xs.length/\∀ i,i<n.Ns.xs.length->h1.getD i 0=heldF n h1 ps 0 i):=qh ⟨HSR.out.lh,fun i _=>(heldF_zero n h1 ps i).symm⟩
   clear hT14 hSB14 hpl hO14
   obtain ⟨T1,hT1⟩:∃ T,T=sg (fun i=>q.getD i 0) k:=⟨_,rfl⟩
   obtain ⟨T2,hT2⟩:∃ T,T=sg (fun i=>if isOut n i then q.getD i 0 else 0) k:=⟨_,rfl⟩
   rw [<-hT1,<-hT2] at HSB14
   have HT1:=qh hT1
   have HT2:=qh hT2
   have ht2:0<=T2/\T2<=337769972052787200:=by
    have:=sg_bd (f:=fun i=>if isOut n i then q.getD i 0 else 0) (b:=1125899906842624) (n:=k) (fun i hi=>by
     have:=HQB.out i (by rw [<-HNN.out];exact hi)
     split
     ·exact this
     ·omega)
    omega
   clear hT1 hT2
   go_wp2_with fail
   go_loopw [153] (fun s153 wr=>∃ (j:Nat) (hs:List Int),j<=M/\s153=.int .i64 j/\Hid (Sett w4 wr b14 uV uP uS (.slice aX bs.length cX) uH v1 p1 s.S.xs bs hs)/\Hid (hs.length=n.Ns.xs.length/\∀ i,i<n.Ns.xs.length->hs.getD i 0=heldF n h1 ps j i) /\
    Hid (SB wr b5 b10 b11 b16 n #[.int .i64 T1,.int .i64 (T2+sg (fun k=>if isOut n (toN n k) then ps.getD k 0 else 0) j),.slice aY M cY])/\Hid (∀ b,w9.heap.size<=b->wr.heap[b]? = w14.heap[b]?)) (fun s153 _=>M-(RowKit.intOf s153).toNat)
   case atStart=>exact ⟨0,h1,Nat.zero_le _,rfl,HT14,HH0,qh (by have h:=HSB14.out;rw [HPL.out] at h;simpa [sg] using h),qh (fun _ _=>rfl)⟩
   clear HT14 HH0 HSB14 g2
   case round=>
    obtain ⟨j,hs,hj,rfl,HT,HHS,HSB,HNR⟩:=hrel
    obtain ⟨wx,hwx⟩:∃ wx,wx=wr:=⟨_,rfl⟩
    subst hwx
    by_cases hjM:j<M
    ·have hjm:j<n.Ls.xs.length:=by rw [<-HMM.out];exact hjM
     have hbwx:=HBR4.out.trans (HT.out.cl.bel.mono HBR4.out.size)
     have hjp:j<ps.length:=by rw [HPL.out];exact hjM
     obtain ⟨a',c',he,-,-,hC0⟩:=HO14.out
     simp only [Value.slice.injEq] at he
     obtain ⟨hea,-,-⟩:=he
     subst hea
     obtain ⟨bp,op,eap,e0⟩:=(hC0.near (w':=wx) (fun b off e=>HNR.out b (HOB.out b off e).1)).int j hjp
     have hpd:ps[j]'hjp=ps.getD j 0:=by simp [List.getD,hjp]
     rw [hpd] at e0
     have hje:j<(edgesM n.Ns.xs n.Ls.xs).length:=by rw [HEL.out];exact hjM
     obtain ⟨be,oe,eae,e1,e2⟩:=(HPRC.out.near (w':=wx) (fun b off e=>HNR.out b (HPB.out b off e))).prs j hje
     rw [ends_edge HN.out hjm hje] at e1 e2
     have hbe:=HPB.out be oe eae
     have hfl:=(ends_lt HN.out hjm).1
     have htl:=(ends_lt HN.out hjm).2
     have hbo:=fun i (hi:i<n.Ns.xs.length)=>heldF_bd (n:=n) (h1:=h1) (ps:=ps) (k:=j) (i:=i) (m:=n.Ls.xs.length) om hlm (by have:=HRB.out i hi;omega) (fun k hk=>HLIM.out.bd k hk)
     have hpb:=HLIM.out.bd j hjm
     have hsp:=sg_bd (f:=fun k=>if isOut n (toN n k) then ps.getD k 0 else 0) (b:=4503599627370496) (n:=j) (fun i hi=>by
      have:=HLIM.out.bd i om
      split
      ·exact this
      ·omega)
     have hzf:=HHS.out.2 _ hfl
     have hbf:=hbo _ hfl
     have hzt:=HHS.out.2 _ htl
     have hbt:=hbo _ htl
     rw [<-hzf] at hbf
     rw [<-hzt] at hbt
     have HFI:=qh (fun (ho:isOut n (toN n j)=true)=>heldF_out HHS.out.1 hfl ho HHS.out.2)
     have HFO:=qh (fun (ho:isOut n (toN n j)=false)=>heldF_in HHS.out.1 hfl htl ho HHS.out.2)
     have hlh:=HHS.out.1
     obtain ⟨gH,cH,hu,hgH,hgH2,-,-⟩:=HT.out.H.place om
     rw [hlh] at hu
     subst hu
     have hgh:=HL.out gH (.inr (.inr (.inr (.inr rfl))))
     have htx:=fun wz (hz:Below w.heap.size w wz)=>((rdNet.mono HG.out hz).1.2.2.1).nd (toN n j) htl
     obtain ⟨bn,on,ean,-,c1,-⟩:=htx wx hbwx
     have hok:isOut n (toN n j)=decide ((n.Ns.xs[toN n j]'htl).Kind=3):=by unfold isOut;rw [ndK_at htl]
     obtain ⟨x,hx⟩:∃ x,x=n.Ns.xs[toN n j]'htl:=⟨_,rfl⟩
     simp only [<-hx] at hok
     have HTX:Hid (∀ wz,Below w.heap.size w wz->wz.cell? ⟨bn,on+toN n j*9+1,none⟩=some (.int .i64 x.Kind)):=qh (fun wz hz=>by
      obtain ⟨bn',on',ean',-,c1',-⟩:=htx wz hz
      rw [ean] at ean'
      simp only [Option.some.injEq,Addr.mk.injEq] at ean'
      obtain ⟨rfl,rfl,-⟩:=ean'
      rw [hx]
      exact c1')
     obtain ⟨f,hfe⟩:∃ f,frmN n j=f:=⟨_,rfl⟩
     obtain ⟨t,hte⟩:∃ t,toN n j=t:=⟨_,rfl⟩
     simp only [hfe,hte] at e1 e2 hfl htl hbf hbt HFI HFO HTX hok
     obtain ⟨z1,hz1⟩:∃ z,z=hs.getD f 0:=⟨_,rfl⟩
     obtain ⟨y,hy⟩:∃ y,y=ps.getD j 0:=⟨_,rfl⟩
     simp only [<-hz1,<-hy] at e0 hpb hbf HFI HFO
     have hsp2:sg (fun k=>if isOut n (toN n k) then ps.getD k 0 else 0) (j+1)=sg (fun k=>if isOut n (toN n k) then ps.getD k 0 else 0) j+if isOut n t then y else 0:=by rw [sg_succ,hte,<-hy]
     obtain ⟨R2,hR2⟩:∃ R,R=T2+sg (fun k=>if isOut n (toN n k) then ps.getD k 0 else 0) j:=⟨_,rfl⟩
     rw [<-hR2] at HSB
     have HR2:Hid (T2+sg (fun k=>if isOut n (toN n k) then ps.getD k 0 else 0) (j+1)=R2+if isOut n t then y else 0):=qh (by rw [hsp2,hR2];omega)
     have hr2:0<=R2/\R2<=2251799813685248000:=by omega
     have hNL:n.Ns.xs.length=k:=HNN.out.symm
     have EA:=qh ean
     have i1:decide (j<M)=true:=decide_eq_true hjM
     have x7:IntKind.i64.wrap ((j:Int)+1)=j+1:=IntWalk.i64_in _ om
     have x8:IntKind.i64.wrap (z1-y)=z1-y:=IntWalk.i64_in _ om
     have x9:IntKind.i64.wrap (R2+y)=R2+y:=IntWalk.i64_in _ om
     have i4:(0:Int)<=j:=by omega
     have i5:(j:Int)<M:=by omega
     have j4:(0:Int)<=f:=by omega
     have j5:(f:Int)<n.Ns.xs.length:=by omega
     have t4:(0:Int)<=t:=by omega
     have t5:(t:Int)<n.Ns.xs.length:=by omega
     have f0:=HT.out.H.free f
     have c0:wx.cell? ⟨gH,f,none⟩=some (.int .i64 z1):=HT.out.H.int1 (k:=f) om (by rw [hz1];simp [List.getD,show f<hs.length from by omega])
     have HJM:=qh hjM
     subst eap
     subst eae
     have hz2b : -1810000000000000000<=(hs.set f (z1-y)).getD t 0/\(hs.set f (z1-y)).getD t 0<=1810000000000000000:=by
      rw [getD_set _ _ _ _ om]
      split <;> omega
     have hyb:0<=y/\y<=4503599627370496:=hpb
     have HX:=qh hok
     have HLH:=qh hlh
     have HZ1:=qh hz1
     have HFT:=qh (And.intro hfl htl)
     have HBW:=qh hbwx
     clear hfl htl hpd hlh hzf hzt hbo hz1 hy hsp2 hR2 hsp hfe hte hx hok htx hbwx hjp hje hjm hNL hbf hbt hpb hr2 hjM hgH hgH2 hC0
     go_upto_region 33 with (fail)
     have hfx:f<hs.length:=by rw [HLH.out];exact HFT.out.1
     have hTb:=HT.out.storeH (k:=f) hfx (z1-y)
     have hSBb:=HSB.out.far ⟨gH,f,none⟩ (.int .i64 (z1-y)) (by show b11<gH;omega) (by show b16≠gH;omega)
     have HNb:Hid (∀ b,w9.heap.size<=b->(wx.setCell ⟨gH,f,none⟩ (.int .i64 (z1-y))).heap[b]? = w14.heap[b]?):=qh (fun b hb=>(Below.heap_setCell wx ⟨gH,f,none⟩ (.int .i64 (z1-y)) b (by show b≠gH;omega)).trans (HNR.out b hb))
     replace e2:=cell_far e2 ⟨gH,f,none⟩ (.int .i64 (z1-y)) (by show be≠gH;omega)
     have c1:=HTX.out _ (HBR4.out.trans (hTb.cl.bel.mono HBR4.out.size))
     have q0:(wx.setCell ⟨gH,f,none⟩ (.int .i64 (z1-y))).cell? ⟨b5,0,none⟩=some (.slice n.Ns.a n.Ns.xs.length n.Ns.cap):=(tank_blk hSBb.k5 0).trans rfl
     rw [ean] at q0
     clear e0 e1 c0 f0
     generalize wx.setCell ⟨gH,f,none⟩ (.int .i64 (z1-y))=wb at *
     by_cases hk3:x.Kind=3
     ·have j1:(x.Kind==3)=true:=by rw [hk3];rfl
      have j2:decide (x.Kind=3)=true:=decide_eq_true hk3
      have HO:Hid (isOut n t=true):=qh (HX.out.trans j2)
      have g1:wb.cell? ⟨b16,1,none⟩=some (.int .i64 R2):=(tank_blk hSBb.k16 1).trans rfl
      have f1:wb.frozen? ⟨b16,1,none⟩=false:=tank_free hSBb.k16 1
      have hT2:=qh (hTb.set w4 _ ⟨b16,1,none⟩ (.int .i64 (R2+y)) (by show w4.heap.size<=b16;omega) (by show b16≠b14;omega) (fun e=>by have:=HL.out b16 (.inl e);omega) (fun e=>by have:=HL.out b16 (.inr (.inl e));omega) (fun e=>by have:=HL.out b16 (.inr (.inr (.inl e)));omega) (fun e=>by have:=HXB.out b16 e;omega) (fun e=>by have:=HL.out b16 (.inr (.inr (.inr (.inr e))));omega))
      have hSB2:Hid (SB (wb.setCell ⟨b16,1,none⟩ (.int .i64 (R2+y))) b5 b10 b11 b16 n #[.int .i64 T1,.int .i64 (T2+sg (fun k=>if isOut n (toN n k) then ps.getD k 0 else 0) (j+1)),.slice (some ⟨bp,op,none⟩) M cY]):=qh (by
       rw [HR2.out,HO.out]
       exact hSBb.set 1 _)
      have HNc:Hid (∀ b,w9.heap.size<=b->(wb.setCell ⟨b16,1,none⟩ (.int .i64 (R2+y))).heap[b]? = w14.heap[b]?):=qh (fun b hb=>(Below.heap_setCell wb ⟨b16,1,none⟩ (.int .i64 (R2+y)) b (by show b≠b16;omega)).trans (HNb.out b hb))
      have HH2:Hid ((hs.set f (z1-y)).length=n.Ns.xs.length/\∀ i,i<n.Ns.xs.length->(hs.set f (z1-y)).getD i 0=heldF n h1 ps (j+1) i):=qh ⟨by rw [List.length_set];exact HLH.out,HFI.out HO.out⟩
      clear hk3 hTb hSBb hz2b hyb
      go_wp2_with fail
      clear ean
      first|rw [<-EA.out]|skip
      go_roundw
      case measure=>have:=HJM.out;simp [RowKit.intOf,x7];omega
      case rel=>exact ⟨j+1,_,HJM.out,by go_num,hT2,HH2,hSB2,HNc⟩
     ·have j1:(x.Kind==3)=false:=by rw [beq_eq_false_iff_ne];exact hk3
      have j2:decide (x.Kind=3)=false:=decide_eq_false hk3
      have HO:Hid (isOut n t=false):=qh (HX.out.trans j2)
      obtain ⟨z2,hz2⟩:∃ z,z=(hs.set f (z1-y)).getD t 0:=⟨_,rfl⟩
      have htx:t<(hs.set f (z1-y)).length:=by rw [List.length_set,HLH.out];exact HFT.out.2
      have f0:=hTb.H.free t
      have c0:wb.cell? ⟨gH,t,none⟩=some (.int .i64 z2):=hTb.H.int1 (k:=t) htx (by rw [hz2];simp only [List.getD,List.getElem?_eq_getElem htx,Option.getD_some])
      rw [<-hz2] at hz2b
      have x10:IntKind.i64.wrap (z2+y)=z2+y:=IntWalk.i64_in _ om
      have hT2:=qh (hTb.storeH (k:=t) htx (z2+y))
      have hSB2:Hid (SB (wb.setCell ⟨gH,t,none⟩ (.int .i64 (z2+y))) b5 b10 b11 b16 n #[.int .i64 T1,.int .i64 (T2+sg (fun k=>if isOut n (toN n k) then ps.getD k 0 else 0) (j+1)),.slice (some ⟨bp,op,none⟩) M cY]):=qh (by
       rw [HR2.out,HO.out]
       have:=hSBb.far ⟨gH,t,none⟩ (.int .i64 (z2+y)) (by show b11<gH;omega) (by show b16≠gH;omega)
       simpa using this)
      have HNc:Hid (∀ b,w9.heap.size<=b->(wb.setCell ⟨gH,t,none⟩ (.int .i64 (z2+y))).heap[b]? = w14.heap[b]?):=qh (fun b hb=>(Below.heap_setCell wb ⟨gH,t,none⟩ (.int .i64 (z2+y)) b (by show b≠gH;omega)).trans (HNb.out b hb))
      have HH2:Hid (((hs.set f (z1-y)).set t (z2+y)).length=n.Ns.xs.length/\∀ i,i<n.Ns.xs.length->((hs.set f (z1-y)).set t (z2+y)).getD i 0=heldF n h1 ps (j+1) i):=qh ⟨by rw [List.length_set,List.length_set];exact HLH.out,by rw [hz2];exact HFO.out HO.out⟩
      clear hk3 hTb hSBb hz2b hyb hz2 htx
      go_wp2_with fail
      clear ean
      first|rw [<-EA.out]|skip
      go_roundw
      case measure=>have:=HJM.out;simp [RowKit.intOf,x7];omega
      case rel=>exact ⟨j+1,_,HJM.out,by go_num,hT2,HH2,hSB2,HNc⟩
    ·have hjE:j=M:=by omega
     subst hjE
     have i1:decide (j<j)=false:=decide_eq_false (Nat.lt_irrefl j)
     have hbo:∀ i,i<n.Ns.xs.length->-2305843009213693952<=hs.getD i 0/\hs.getD i 0<=2305843009213693952:=fun i hi=>by
      rw [HHS.out.2 i hi]
      have:=heldF_bd (n:=n) (h1:=h1) (ps:=ps) (k:=j) (i:=i) (m:=n.Ls.xs.length) (by rw [<-HMM.out];exact Nat.le_refl _) hlm (by have:=HRB.out i hi;omega) (fun k hk=>HLIM.out.bd k hk)
      omega
     have HBO:=qh hbo
     have hset:=rsettle_any n b14 uV uP uS (.slice aX bs.length cX) uH v1 p1 s.S.xs bs hs w4 wx (rdNet.mono HG.out HBR4.out) HN.out HT.out HSR.out.lv HSR.out.lp HHS.out.1 hbo
     simp only [vNet,vSl] at hset
     have q0:wx.cell? ⟨b5,0,none⟩=some (.slice n.Ns.a n.Ns.xs.length n.Ns.cap):=(tank_blk HSB.out.k5 0).trans rfl
     have q1:wx.cell? ⟨b5,1,none⟩=some (.slice n.Ls.a n.Ls.xs.length n.Ls.cap):=(tank_blk HSB.out.k5 1).trans rfl
     clear hbo
     go_wp2_with fail
     refine hset.mono ?_
     rintro e w15 ⟨sb,v2,p2,h2,rfl,hSR2,hT15,hsz15,hfr⟩
     have hne:∀ j,j<=b11\/b16<=j->uV.ownBlock≠some j/\uP.ownBlock≠some j/\uH.ownBlock≠some j:=fun j hj=>by
      refine ⟨fun e=>?_,fun e=>?_,fun e=>?_⟩
      ·have:=HL.out j (.inl e);omega
      ·have:=HL.out j (.inr (.inl e));omega
      ·have:=HL.out j (.inr (.inr (.inr (.inr e))));omega
     have hSB15:=HSB.out.kept (w':=w15) (fun j hj hjs=>by
      have h:=hne j (by rcases hj with h|h;exact .inl h;exact .inr (Nat.le_of_eq h.symm))
      exact hfr j hjs h.1 h.2.1 h.2.2)
     have HPF:Hid (∀ b,w9.heap.size<=b->b<w14.heap.size->w15.heap[b]? = w14.heap[b]?):=qh (fun b h1 h2=>by
      have h:=hne b (.inr om)
      have e:=HNR.out b h1
      have hlt:b<wx.heap.size:=by
       rw [Array.getElem?_eq_getElem h2] at e
       exact (Array.getElem?_eq_some_iff.1 e).1
      exact (hfr b hlt h.1 h.2.1 h.2.2).trans e)
     have hb15:=HBR4.out.trans (hT15.cl.bel.mono HBR4.out.size)
     clear hset hfr hne q0 q1 HT HSB HNR
     cases sb
     ·go_wp2_with fail
      refine Calls.to (rstep1_any 5 _) ?_
      rintro e wz rfl hbz
      have y10:=blk_mono ((hSB15).k10) hbz
      have y11:=blk_mono ((hSB15).k11) hbz
      have hbz:=(hb15).trans (hbz.mono (hb15).size)
      have v0:wz.cell? ⟨b10,0,none⟩=some (.slice none 0 0):=(tank_blk y10 0).trans rfl
      have v1:wz.cell? ⟨b10,1,none⟩=some (.slice none 0 0):=(tank_blk y10 1).trans rfl
      have v2:wz.cell? ⟨b10,2,none⟩=some (.slice none 0 0):=(tank_blk y10 2).trans rfl
      have v3:wz.cell? ⟨b10,3,none⟩=some (.slice none 0 0):=(tank_blk y10 3).trans rfl
      have l0:wz.cell? ⟨b11,0,none⟩=some (.int .i64 0):=(tank_blk y11 0).trans rfl
      have l1:wz.cell? ⟨b11,1,none⟩=some (.int .i64 0):=(tank_blk y11 1).trans rfl
      have l2:wz.cell? ⟨b11,2,none⟩=some (.slice none 0 0):=(tank_blk y11 2).trans rfl
      have vf0:wz.frozen? ⟨b10,0,none⟩=false:=tank_free y10 0
      have vf1:wz.frozen? ⟨b10,1,none⟩=false:=tank_free y10 1
      have vf2:wz.frozen? ⟨b10,2,none⟩=false:=tank_free y10 2
      have vf3:wz.frozen? ⟨b10,3,none⟩=false:=tank_free y10 3
      have lf0:wz.frozen? ⟨b11,0,none⟩=false:=tank_free y11 0
      have lf1:wz.frozen? ⟨b11,1,none⟩=false:=tank_free y11 1
      have lf2:wz.frozen? ⟨b11,2,none⟩=false:=tank_free y11 2
      have hne:b10≠b11:=by have:=HB.out;omega
      have HB2:=qh hbz
      clear hbz
      go_wp2_with fail
      rw [setCell_id (i:=0) (v:=.slice none 0 0) y10 rfl,setCell_id (i:=1) (v:=.slice none 0 0) y10 rfl,setCell_id (i:=2) (v:=.slice none 0 0) y10 rfl,setCell_id (i:=3) (v:=.slice none 0 0) y10 rfl,setCell_id (i:=0) (v:=.int .i64 0) y11 rfl,setCell_id (i:=1) (v:=.int .i64 0) y11 rfl,setCell_id (i:=2) (v:=.slice none 0 0) y11 rfl]
      exact bodyPost_ret (v:=.tuple #[.agg #[.slice none 0 0,.slice none 0 0,.slice none 0 0,.slice none 0 0],.agg #[.int .i64 0,.int .i64 0,.slice none 0 0],.int .i64 (5)]) (by simp (maxDischargeDepth:=9) [results,Tryz.results94,go_sem,v0,v1,v2,v3,l0,l1,l2]) rfl ⟨⟨_,rfl,.no _ (by decide)⟩,HB2.out⟩
     have HSR2:=qh hSR2
     have HT15:=qh hT15
     have HSB15:=qh hSB15
     have d0:=hT15.cl.c0
     have d1:=hT15.cl.c1
     have d2:=hT15.cl.c2
     have d3:=hT15.cl.c3
     have g0:w15.cell? ⟨b16,0,none⟩=some (.int .i64 T1):=(tank_blk hSB15.k16 0).trans rfl
     have g1:w15.cell? ⟨b16,1,none⟩=some (.int .i64 (T2+sg (fun k=>if isOut n (toN n k) then ps.getD k 0 else 0) j)):=(tank_blk hSB15.k16 1).trans rfl
     have g2:w15.cell? ⟨b16,2,none⟩=some (.slice aY j cY):=(tank_blk hSB15.k16 2).trans rfl
     obtain ⟨aV2,cV2,hv2⟩:=hT15.cl.V.isSlice
     obtain ⟨aP2,cP2,hp2⟩:=hT15.cl.P.isSlice
     obtain ⟨aS2,cS2,hss2⟩:=hT15.cl.S.isSlice
     subst hv2 hp2 hss2
     have y10:=hSB15.k10
     have y11:=hSB15.k11
     have v0:w15.cell? ⟨b10,0,none⟩=some (.slice none 0 0):=(tank_blk y10 0).trans rfl
     have v1':w15.cell? ⟨b10,1,none⟩=some (.slice none 0 0):=(tank_blk y10 1).trans rfl
     have v2':w15.cell? ⟨b10,2,none⟩=some (.slice none 0 0):=(tank_blk y10 2).trans rfl
     have v3:w15.cell? ⟨b10,3,none⟩=some (.slice none 0 0):=(tank_blk y10 3).trans rfl
     have l0:w15.cell? ⟨b11,0,none⟩=some (.int .i64 0):=(tank_blk y11 0).trans rfl
     have l1:w15.cell? ⟨b11,1,none⟩=some (.int .i64 0):=(tank_blk y11 1).trans rfl
     have l2:w15.cell? ⟨b11,2,none⟩=some (.slice none 0 0):=(tank_blk y11 2).trans rfl
     have vf0:w15.frozen? ⟨b10,0,none⟩=false:=tank_free y10 0
     have vf1:w15.frozen? ⟨b10,1,none⟩=false:=tank_free y10 1
     have vf2:w15.frozen? ⟨b10,2,none⟩=false:=tank_free y10 2
     have vf3:w15.frozen? ⟨b10,3,none⟩=false:=tank_free y10 3
     have lf0:w15.frozen? ⟨b11,0,none⟩=false:=tank_free y11 0
     have lf1:w15.frozen? ⟨b11,1,none⟩=false:=tank_free y11 1
     have lf2:w15.frozen? ⟨b11,2,none⟩=false:=tank_free y11 2
     have hne:b10≠b11:=by have:=HB.out;omega
     have hn1:b14≠b10:=by have:=HB.out;omega
     have hn2:b14≠b11:=by omega
     have hn3:b16≠b10:=by have:=HB.out;omega
     have hn4:b16≠b11:=by omega
     obtain ⟨R,hR⟩:∃ R,R=T2+sg (fun k=>if isOut n (toN n k) then ps.getD k 0 else 0) j:=⟨_,rfl⟩
     rw [<-hR] at g1
     have HR:=qh hR
     have Y10:=qh y10
     have Y11:=qh y11
     clear hR hSR2 hT15 hSB15 y10 y11
     go_wp2_with fail
     go_region
     obtain ⟨hq10,hq11,hr10,hr11,hq9,hq8⟩:=fiveB HB.out HBB.out hs16
     obtain ⟨sx,hsv,hsg,hx1,hx2,hx3,hx4⟩:=gSt_of (HT15.out.cl.V.under7 hq10 hq11 (.slice aV2 v2.length cV2) (.slice aP2 p2.length cP2) (.slice aS2 s.S.xs.length cS2) (.slice aX bs.length cX) (.int .i64 T1) (.int .i64 R) (.slice aY j cY))
      (HT15.out.cl.P.under7 hq10 hq11 (.slice aV2 v2.length cV2) (.slice aP2 p2.length cP2) (.slice aS2 s.S.xs.length cS2) (.slice aX bs.length cX) (.int .i64 T1) (.int .i64 R) (.slice aY j cY))
      (HT15.out.cl.S.under7 hq10 hq11 (.slice aV2 v2.length cV2) (.slice aP2 p2.length cP2) (.slice aS2 s.S.xs.length cS2) (.slice aX bs.length cX) (.int .i64 T1) (.int .i64 R) (.slice aY j cY))
      (HT15.out.cl.O.under7 hq10 hq11 (.slice aV2 v2.length cV2) (.slice aP2 p2.length cP2) (.slice aS2 s.S.xs.length cS2) (.slice aX bs.length cX) (.int .i64 T1) (.int .i64 R) (.slice aY j cY))
      (HSR2.out.i64 HN.out HBO.out).1 (HSR2.out.i64 HN.out HBO.out).2 (fun x hx=>HGS.out.2.2.1.2.2.2 x hx)
     have hpr:gInts (set7 w15 b10 b11 (.slice aV2 v2.length cV2) (.slice aP2 p2.length cP2) (.slice aS2 s.S.xs.length cS2) (.slice aX bs.length cX) (.int .i64 T1) (.int .i64 R) (.slice aY j cY)) ⟨aY,cY,ps⟩:=by
      obtain ⟨a',c',he,k1,k2,hC0⟩:=HO14.out
      simp only [Value.slice.injEq] at he
      obtain ⟨rfl,-,rfl⟩:=he
      refine ⟨k1,k2,hC0.near (fun b off e=>?_),fun x hx=>?_⟩
      ·have h:=HOB.out b off e
       refine Eq.trans ?_ (HPF.out b h.1 h.2)
       have e1:b≠b10:=Nat.ne_of_gt (Nat.lt_of_lt_of_le hq8 h.1)
       have e2:b≠b11:=Nat.ne_of_gt (Nat.lt_of_lt_of_le hq9 h.1)
       exact set7_heap w15 e1 e2 _ _ _ _ _ _ _
      ·exact HLIM.out.i64 x hx
     have hbf:=Below.set7 hb15 hr10 hr11 (.slice aV2 v2.length cV2) (.slice aP2 p2.length cP2) (.slice aS2 s.S.xs.length cS2) (.slice aX bs.length cX) (.int .i64 T1) (.int .i64 R) (.slice aY j cY)
     have hstep:StepR n s q sx T1 R ps:=by
      have hk:=HNN.out
      have hM:=HMM.out
      refine stepR_of (h1:=hs0') (h2:=h1) (h3:=hs) (h4:=h2) (v1:=v1) (p1:=p1) (w:=fun k=>ws.getD k 0) HN.out HST.out HLQ.out HQB.out (fun i hi=>HM1.out.2 i (by rw [hk];exact hi)) (by rw [HSE.out];exact HSR.out) HLIM.out (fun i hi=>?_) (by rw [hx1,hx2];exact HSR2.out) (by rw [HT1.out,hk]) (by rw [HR.out,HT2.out,hk,hM]) hx3 (by rw [hx4];exact HBL.out) (by rw [hx4];exact hbk)
      rw [HHS.out.2 i hi,hM]
      rfl
     obtain ⟨y10',y11'⟩:=set7_cells hne Y10.out Y11.out (.slice aV2 v2.length cV2) (.slice aP2 p2.length cP2) (.slice aS2 s.S.xs.length cS2) (.slice aX bs.length cX) (.int .i64 T1) (.int .i64 R) (.slice aY j cY)
     have hbd:Below (set7 w15 b10 b11 (.slice aV2 v2.length cV2) (.slice aP2 p2.length cP2) (.slice aS2 s.S.xs.length cS2) (.slice aX bs.length cX) (.int .i64 T1) (.int .i64 R) (.slice aY j cY)).heap.size (set7 w15 b10 b11 (.slice aV2 v2.length cV2) (.slice aP2 p2.length cP2) (.slice aS2 s.S.xs.length cS2) (.slice aX bs.length cX) (.int .i64 T1) (.int .i64 R) (.slice aY j cY)) (set7 w15 b10 b11 (.slice aV2 v2.length cV2) (.slice aP2 p2.length cP2) (.slice aS2 s.S.xs.length cS2) (.slice aX bs.length cX) (.int .i64 T1) (.int .i64 R) (.slice aY j cY)).drew:=qr.drew
     have hsg:=rdSt.mono hsg hbd
     have hpr:=rdInts.mono hpr hbd
     have hbf:=hbf.drew
     have y10':=blk_mono y10' hbd
     have y11':=blk_mono y11' hbd
     have hsa:sx.V.a=aV2/\sx.P.a=aP2/\sx.S.a=aS2/\sx.O.a=aX:=by
      have h:=hsv
      simp at h
      exact ⟨h.1.1,h.2.1.1,h.2.2.1.1,h.2.2.2.1⟩
     have hfar:FarS w.heap.size sx ⟨T1,R,⟨aY,cY,ps⟩⟩:=
      ⟨fun b off e=>Nat.le_trans HBB.out.2.2.2.1 (HT15.out.cl.V.blk b off (hsa.1 ▸ e)).1,fun b off e=>Nat.le_trans HBB.out.2.2.2.1 (HT15.out.cl.P.blk b off (hsa.2.1 ▸ e)).1,fun b off e=>Nat.le_trans HBB.out.2.2.2.1 (HT15.out.cl.S.blk b off (hsa.2.2.1 ▸ e)).1,fun b off e=>Nat.le_trans HBB.out.2.2.2.1 (HT15.out.cl.O.blk b off (hsa.2.2.2 ▸ e)).1,fun b off e=>Nat.le_trans (far9 HBB.out hs16) (HOB.out b off e).1⟩
     have hvv:Value.tuple #[.agg #[.slice aV2 v2.length cV2,.slice aP2 p2.length cP2,.slice aS2 s.S.xs.length cS2,.slice aX bs.length cX],.agg #[.int .i64 T1,.int .i64 R,.slice aY j cY],.int .i64 0]=.tuple #[vSt sx,vLed ⟨T1,R,⟨aY,cY,ps⟩⟩,.int .i64 0]:=by
      rw [hsv,<-HPL.out]
     show Exit.then _ _ _ _ (set7 w15 b10 b11 (.slice aV2 v2.length cV2) (.slice aP2 p2.length cP2) (.slice aS2 s.S.xs.length cS2) (.slice aX bs.length cX) (.int .i64 T1) (.int .i64 R) (.slice aY j cY)).drew
     generalize (set7 w15 b10 b11 (.slice aV2 v2.length cV2) (.slice aP2 p2.length cP2) (.slice aS2 s.S.xs.length cS2) (.slice aX bs.length cX) (.int .i64 T1) (.int .i64 R) (.slice aY j cY)).drew=wF at *
     have hout:StepOut w.heap.size wF n s q (.tuple #[.agg #[.slice aV2 v2.length cV2,.slice aP2 p2.length cP2,.slice aS2 s.S.xs.length cS2,.slice aX bs.length cX],.agg #[.int .i64 T1,.int .i64 R,.slice aY j cY],.int .i64 0]):=by
      rw [hvv]
      exact .ok sx ⟨T1,R,⟨aY,cY,ps⟩⟩ hstep hsg hpr hfar
     have HOUT:=qh (And.intro hout hbf)
     have z0:wF.cell? ⟨b10,0,none⟩=some (.slice aV2 v2.length cV2):=(tank_blk y10' 0).trans rfl
     have z1:wF.cell? ⟨b10,1,none⟩=some (.slice aP2 p2.length cP2):=(tank_blk y10' 1).trans rfl
     have z2:wF.cell? ⟨b10,2,none⟩=some (.slice aS2 s.S.xs.length cS2):=(tank_blk y10' 2).trans rfl
     have z3:wF.cell? ⟨b10,3,none⟩=some (.slice aX bs.length cX):=(tank_blk y10' 3).trans rfl
     have z4:wF.cell? ⟨b11,0,none⟩=some (.int .i64 T1):=(tank_blk y11' 0).trans rfl
     have z5:wF.cell? ⟨b11,1,none⟩=some (.int .i64 R):=(tank_blk y11' 1).trans rfl
     have z6:wF.cell? ⟨b11,2,none⟩=some (.slice aY j cY):=(tank_blk y11' 2).trans rfl
     clear hsa hfar hsv hvv hsg hpr hbf hstep hout hx1 hx2 hx3 hx4 hbd y10' y11' d0 d1 d2 d3 g0 g1 g2 v0 v1' v2' v3 l0 l1 l2 vf0 vf1 vf2 vf3 lf0 lf1 lf2
     go_wp2_with fail
     exact bodyPost_ret (v:=.tuple #[.agg #[.slice aV2 v2.length cV2,.slice aP2 p2.length cP2,.slice aS2 s.S.xs.length cS2,.slice aX bs.length cX],.agg #[.int .i64 T1,.int .i64 R,.slice aY j cY],.int .i64 0]) (by simp (maxDischargeDepth:=9) [results,Tryz.results94,go_sem,z0,z1,z2,z3,z4,z5,z6]) rfl ⟨⟨_,rfl,HOUT.out.1⟩,HOUT.out.2⟩
end Go.Proofs.YtoiakijmbghhlaaGreat
