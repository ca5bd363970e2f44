/- recorder.Append at an empty disk, and holdAwake. Conditions: none. -/
import Derived.Test.YtoiakijmbghhlaaGreatS50
import Derived.Test.YtoiakijmbghhlaaGreatS51
import Derived.Test.YtoiakijmbghhlaaGreatS37
import Derived.Test.YtoiakijmbghhlaaGreatS46
set_option linter.unusedVariables false
set_option linter.unusedSimpArgs false
set_option maxRecDepth 100000
set_option maxHeartbeats 32000000
namespace Go.Proofs.YtoiakijmbghhlaaGreat
open Go.RowKit
theorem rcappend0 (w:World):Calls Tryz.prog 84 #[.agg #[.slice none 0 0,.int .i64 0,.int .i64 (-1)],.agg #[.int .i64 4,.int .i64 0,.slice none 0 0,.string ⟨#[]⟩,.int .i64 0,.string ⟨#[]⟩,.int .i64 0,.int .i64 0,.int .i64 0,.int .i64 0,.string ⟨#[120]⟩]] w fun e w'=>(∃ a c,e=.returned (.tuple #[.agg #[.slice a 12 c,.int .i64 0,.int .i64 (-1)],.int .i64 0]))/\Below w.heap.size w w':=by
 obtain ⟨L,hL⟩:∃ L:List (Array Value×TypeId),L = [(#[.slice none 0 0,.int .i64 0,.int .i64 (-1)],160),(#[.int .i64 4,.int .i64 0,.slice none 0 0,.string ⟨#[]⟩,.int .i64 0,.string ⟨#[]⟩,.int .i64 0,.int .i64 0,.int .i64 0,.int .i64 0,.string ⟨#[120]⟩],166),(#[.slice none 0 0,.int .i64 0,.int .i64 0],160)]:=⟨_,rfl⟩
 obtain ⟨W,hW⟩:∃ W,W=allocs w L:=⟨_,rfl⟩
 have hbw:Below w.heap.size w W:=by rw [hW];exact allocs_below _ _
 have t0:W.heap[w.heap.size]? = some (.cells #[.slice none 0 0,.int .i64 0,.int .i64 (-1)] 160 (0,0)):=by rw [hW,hL];exact allocs_at _ w 0 (by simp)
 have t1:W.heap[w.heap.size+1]? = some (.cells #[.int .i64 4,.int .i64 0,.slice none 0 0,.string ⟨#[]⟩,.int .i64 0,.string ⟨#[]⟩,.int .i64 0,.int .i64 0,.int .i64 0,.int .i64 0,.string ⟨#[120]⟩] 166 (0,0)):=by rw [hW,hL];exact allocs_at _ w 1 (by simp)
 have t2:W.heap[w.heap.size+2]? = some (.cells #[.slice none 0 0,.int .i64 0,.int .i64 0] 160 (0,0)):=by rw [hW,hL];exact allocs_at _ w 2 (by simp)
 have HW:Hid (W=(((w.alloc (.cells #[.slice none 0 0,.int .i64 0,.int .i64 (-1)] 160)).alloc (.cells #[.int .i64 4,.int .i64 0,.slice none 0 0,.string ⟨#[]⟩,.int .i64 0,.string ⟨#[]⟩,.int .i64 0,.int .i64 0,.int .i64 0,.int .i64 0,.string ⟨#[120]⟩] 166)).alloc (.cells #[.slice none 0 0,.int .i64 0,.int .i64 0] 160))):=qh (by rw [hW,hL];rfl)
 have HSZ:Hid (w.heap.size+2<W.heap.size):=qh (Array.getElem?_eq_some_iff.1 t2).1
 clear hW hL
 have a0:(W).cell? ⟨(w.heap.size+1),0,none⟩=some (.int .i64 4):=tank_blk t1 0
 have a1:(W).cell? ⟨(w.heap.size+1),1,none⟩=some (.int .i64 0):=tank_blk t1 1
 have a2:(W).cell? ⟨(w.heap.size+1),2,none⟩=some (.slice none 0 0):=tank_blk t1 2
 have a3:(W).cell? ⟨(w.heap.size+1),3,none⟩=some (.string ⟨#[]⟩):=tank_blk t1 3
 have a4:(W).cell? ⟨(w.heap.size+1),4,none⟩=some (.int .i64 0):=tank_blk t1 4
 have a5:(W).cell? ⟨(w.heap.size+1),5,none⟩=some (.string ⟨#[]⟩):=tank_blk t1 5
 have a6:(W).cell? ⟨(w.heap.size+1),6,none⟩=some (.int .i64 0):=tank_blk t1 6
 have a7:(W).cell? ⟨(w.heap.size+1),7,none⟩=some (.int .i64 0):=tank_blk t1 7
 have a8:(W).cell? ⟨(w.heap.size+1),8,none⟩=some (.int .i64 0):=tank_blk t1 8
 have a9:(W).cell? ⟨(w.heap.size+1),9,none⟩=some (.int .i64 0):=tank_blk t1 9
 have a10:(W).cell? ⟨(w.heap.size+1),10,none⟩=some (.string ⟨#[120]⟩):=tank_blk t1 10
 have T0:=qh t0
 have T2:=qh t2
 clear t0 t1 t2
 go_enter Tryz.func84,Tryz.ntmps84
 go_upto_region 1 with (fail)
 try simp only [Nat.add_assoc,Nat.reduceAdd]
 rw [<-HW.out]
 clear HW
 go_wp2_with fail
 refine Calls.to (rcenc0 _) ?_
 rintro e w1 ⟨u,ys,rfl,hy,hyl⟩ hb1
 obtain ⟨aE,cE,e1,hy1,hy2,hy3⟩:=hy
 subst e1
 have HY:=qh (And.intro hy3 (And.intro hyl (And.intro hy1 hy2)))
 rw [hyl]
 have t0:=(hb1.block w.heap.size (by have:=HSZ.out;omega)).trans T0.out
 have t2:=(hb1.block (w.heap.size+2) (by have:=HSZ.out;omega)).trans T2.out
 have hbr:=hbw.trans (hb1.mono hbw.size)
 have HS1:Hid (w.heap.size+2<w1.heap.size):=qh (Nat.lt_of_lt_of_le HSZ.out hb1.size)
 clear T0 T2 hb1 hbw hy1 hy2 hy3 hyl a0 a1 a2 a3 a4 a5 a6 a7 a8 a9 a10 HSZ
 have d0:(w1).cell? ⟨w.heap.size,0,none⟩=some (.slice none 0 0):=tank_blk t0 0
 have d1:(w1).cell? ⟨w.heap.size,1,none⟩=some (.int .i64 0):=tank_blk t0 1
 have d2:(w1).cell? ⟨w.heap.size,2,none⟩=some (.int .i64 (-1)):=tank_blk t0 2
 go_wp2_with fail
 refine Calls.to (rcvalidd0 _) ?_
 rintro e w2 rfl hb2
 replace t0:=blk_mono t0 hb2
 replace t2:=blk_mono t2 hb2
 have hbr2:=hbr.trans (hb2.mono hbr.size)
 have isF:IsBys w2 (.slice aE 4 cE) ys:=⟨aE,cE,by rw [HY.out.2.1],HY.out.2.2.1,HY.out.2.2.2,HY.out.1.mono hb2⟩
 have HYL:Hid (ys.length=4):=qh HY.out.2.1
 have HS2:Hid (w.heap.size+2<w2.heap.size):=qh (Nat.lt_of_lt_of_le HS1.out hb2.size)
 clear d0 d1 d2 hb2 HY hbr HS1
 have d0:(w2).cell? ⟨w.heap.size,0,none⟩=some (.slice none 0 0):=tank_blk t0 0
 have d1:(w2).cell? ⟨w.heap.size,1,none⟩=some (.int .i64 0):=tank_blk t0 1
 have d2:(w2).cell? ⟨w.heap.size,2,none⟩=some (.int .i64 (-1)):=tank_blk t0 2
 go_wp2_with fail
 refine Calls.to (rcframe_any ys _ w2 isF (by rw [HYL.out];decide)) ?_
 rintro e w3 ⟨u3,zs,rfl,hO3,hz3⟩ hb3
 obtain ⟨a3,c3,e3⟩:=hO3.isSlice
 subst e3
 have hz:zs.length=12:=by rw [hz3,HYL.out]
 rw [hz]
 have isZ:=hO3.isL (enc:=eBy) (fun _=>rfl)
 replace t0:=blk_mono t0 hb3
 replace t2:=blk_mono t2 hb3
 have hbr3:=hbr2.trans (hb3.mono hbr2.size)
 have HS3:Hid (w.heap.size+2<w3.heap.size):=qh (Nat.lt_of_lt_of_le HS2.out hb3.size)
 have HZ:=qh (And.intro isZ hz)
 clear d0 d1 d2 hb3 hO3 hz3 hz isZ isF hbr2 HS2 HYL
 have d0:(w3).cell? ⟨w.heap.size,0,none⟩=some (.slice none 0 0):=tank_blk t0 0
 have d1:(w3).cell? ⟨w.heap.size,1,none⟩=some (.int .i64 0):=tank_blk t0 1
 have d2:(w3).cell? ⟨w.heap.size,2,none⟩=some (.int .i64 (-1)):=tank_blk t0 2
 go_upto_region 7 with (fail)
 refine wp_region_more_lit (by kernel_rfl) (by kernel_rfl) ?_
 repeat (go_big_quiet_step ((go_at_call 148;with_reducible exact Calls.more_of (rcwhole0 _))))
 refine wpQuiet_nil ?_
 intro _ hwq
 obtain ⟨xq,hwq⟩:=hwq
 subst hwq
 have hbm:=below_more w3 xq
 replace t0:=blk_mono t0 hbm
 replace t2:=blk_mono t2 hbm
 have hbr4:=hbr3.trans (hbm.mono hbr3.size)
 have HZ4:Hid (IsBys (more w3 xq) (.slice a3 zs.length c3) zs/\zs.length=12/\w.heap.size+2<(more w3 xq).heap.size):=qh ⟨HZ.out.1.mono hbm,HZ.out.2,Nat.lt_of_lt_of_le HS3.out hbm.size⟩
 clear d0 d1 d2 hbm HZ HS3 hbr3
 generalize more w3 xq=w4 at *
 have d0:(w4).cell? ⟨w.heap.size,0,none⟩=some (.slice none 0 0):=tank_blk t0 0
 have d1:(w4).cell? ⟨w.heap.size,1,none⟩=some (.int .i64 0):=tank_blk t0 1
 have d2:(w4).cell? ⟨w.heap.size,2,none⟩=some (.int .i64 (-1)):=tank_blk t0 2
 go_wp2_with fail
 refine Calls.to (rccopied0 _) ?_
 rintro e w5 rfl hb5
 replace t0:=blk_mono t0 hb5
 replace t2:=blk_mono t2 hb5
 have hbr5:=hbr4.trans (hb5.mono hbr4.size)
 have isZ:=HZ4.out.1.mono hb5
 have hzl:=HZ4.out.2.1
 have HS5:Hid (w.heap.size+2<w5.heap.size):=qh (Nat.lt_of_lt_of_le HZ4.out.2.2 hb5.size)
 have f0:w5.frozen? ⟨w.heap.size,0,none⟩=false:=tank_free t0 0
 have f1:w5.frozen? ⟨w.heap.size,1,none⟩=false:=tank_free t0 1
 have f2:w5.frozen? ⟨w.heap.size,2,none⟩=false:=tank_free t0 2
 have k0:w5.setCell ⟨w.heap.size,0,none⟩ (.slice none 0 0)=w5:=setCell_id t0 rfl
 have k1:w5.setCell ⟨w.heap.size,1,none⟩ (.int .i64 0)=w5:=setCell_id t0 rfl
 have k2:w5.setCell ⟨w.heap.size,2,none⟩ (.int .i64 (-1))=w5:=setCell_id t0 rfl
 clear d0 d1 d2 hb5 hbr4 HZ4
 have d0:(w5).cell? ⟨w.heap.size,0,none⟩=some (.slice none 0 0):=tank_blk t0 0
 have d1:(w5).cell? ⟨w.heap.size,1,none⟩=some (.int .i64 0):=tank_blk t0 1
 have d2:(w5).cell? ⟨w.heap.size,2,none⟩=some (.int .i64 (-1)):=tank_blk t0 2
 go_upto_region 15 with (fail)
 have hON:Own w5.heap.size 5 eBy 1 w5 (.slice none 0 0) []:=World.ownsRow_nil _ _ _ _
 obtain ⟨az,cz,ez,isz1,isz2,isz3⟩:=isZ
 simp only [Value.slice.injEq] at ez
 obtain ⟨rfl,-,rfl⟩:=ez
 rw [<-hzl]
 go_wp2_with (at_builtin;go_must (refine wpList_appR rfl _ _ 69 rfl 5 _ 1 1 undByt infByH rfl (by decide) (fun _=>rfl) (by simp [Value.oneCell']) (.slice none 0 0) [] zs rfl hON a3 c3 rfl isz3 (by decide) (by rw [hzl];decide) (by decide) (Nat.le_refl _) ?_);intro v2 w6 hR2;have hb6:=hR2.below hON (Nat.le_refl _);rw [List.nil_append] at hR2;obtain ⟨a6,c6,e6⟩:=hR2.own.isSlice;subst e6;rw [hzl] at hR2 ⊢;have g0:=tank_free (blk_mono t0 hb6) 0;have x0:w6.cell? ⟨w.heap.size,0,none⟩=some (.slice none 0 0):=tank_blk (blk_mono t0 hb6) 0;have x1:w6.cell? ⟨w.heap.size,1,none⟩=some (.int .i64 0):=tank_blk (blk_mono t0 hb6) 1;have x2:w6.cell? ⟨w.heap.size,2,none⟩=some (.int .i64 (-1)):=tank_blk (blk_mono t0 hb6) 2;have h0:=tank_free (blk_mono t2 hb6) 0;have h1:=tank_free (blk_mono t2 hb6) 1;have h2:=tank_free (blk_mono t2 hb6) 2;have y0:w6.cell? ⟨w.heap.size+2,0,none⟩=some (.slice none 0 0):=tank_blk (blk_mono t2 hb6) 0;have y1:w6.cell? ⟨w.heap.size+2,1,none⟩=some (.int .i64 0):=tank_blk (blk_mono t2 hb6) 1;have y2:w6.cell? ⟨w.heap.size+2,2,none⟩=some (.int .i64 0):=tank_blk (blk_mono t2 hb6) 2;have hbF:=qh (hbr5.trans (hb6.mono hbr5.size));clear f0 f1 f2 k0 k1 k2 d0 d1 d2 hR2)
 exact bodyPost_ret (v:=.tuple #[.agg #[.slice a6 12 c6,.int .i64 0,.int .i64 (-1)],.int .i64 0]) (by simp (maxDischargeDepth:=9) [results,Tryz.results84,go_sem,x0,x1,x2,y0,y1,y2]) rfl ⟨⟨_,_,rfl⟩,(((hbF.out.setCell (p:=⟨w.heap.size,0,none⟩) (Nat.le_refl _) _).setCell (p:=⟨w.heap.size+2,0,none⟩) (Nat.le_add_right _ _) _).setCell (p:=⟨w.heap.size+2,1,none⟩) (Nat.le_add_right _ _) _).setCell (p:=⟨w.heap.size+2,2,none⟩) (Nat.le_add_right _ _) _⟩
theorem hawake_any (w:World):Calls Tryz.prog 29 #[] w fun e w'=>e=.returned (.bool true)/\Below w.heap.size w w':=by
 go_enter Tryz.func29,Tryz.ntmps29
 go_wp2_with fail
 refine Calls.to (rcappend0 w) ?_
 rintro e w1 ⟨a1,c1,rfl⟩ hb1
 obtain ⟨W2,hW2⟩:∃ W2,W2=w1.alloc (.cells #[.slice a1 12 c1,.int .i64 0,.int .i64 (-1)] 160):=⟨_,rfl⟩
 have hbA:Below w1.heap.size w1 W2:=by rw [hW2];exact alloc_below _ _
 have k1:W2.heap[w1.heap.size]? = some (.cells #[.slice a1 12 c1,.int .i64 0,.int .i64 (-1)] 160 (0,0)):=by rw [hW2];exact heap_alloc_new _ _
 have HW2:=qh hW2
 have hb2:=hb1.trans (hbA.mono hb1.size)
 clear hW2 hbA hb1
 go_upto_region 2 with (fail)
 rw [<-HW2.out]
 clear HW2
 have hsp:=spillsX_any [0,3] (.slice (some ⟨W2.heap.size,0,none⟩) 2 2) 1 (W2.alloc (.cells #[.int .i64 0,.int .i64 3] 3)) (isL_blk (enc:=eInt) (xs:=[0,3]) (fun _=>rfl) rfl (heap_alloc_new _ _) (show (2:Nat)<=9223372036854775807 by decide))
 rw [show spillsM [0,3] 1=([⟨1,2,3,3⟩],0) from by first|kernel_rfl|decide|(simp [spillsM,volBad,bigGo,spillsGo,List.getD,IntWalk.wrap64_in])] at hsp
 dsimp only at hsp
 have hbB:Below W2.heap.size W2 (W2.alloc (.cells #[.int .i64 0,.int .i64 3] 3)):=alloc_below _ _
 go_wp2_with fail
 refine Calls.to hsp ?_
 rintro e w3 ⟨v',rfl,hO⟩ hb3
 obtain ⟨a3,c3,e3⟩:=hO.isSlice
 subst e3
 have hb4:=hbB.trans (hb3.mono hbB.size)
 have k3:=blk_mono k1 hb4
 have hbr:=hb2.trans (hb4.mono hb2.size)
 clear hsp hO hbB hb3 hb4 k1 hb2
 rw [show ([⟨1,2,3,3⟩]:List Ev).length=1 from rfl]
 go_wp2_with fail
 refine Calls.to (arenc0 w3) ?_
 rintro e w4 ⟨a4,c4,rfl⟩ hb4
 have k4:=blk_mono k3 hb4
 have d0:w4.cell? ⟨w1.heap.size,0,none⟩=some (.slice a1 12 c1):=tank_blk k4 0
 have hbr:=hbr.trans (hb4.mono hbr.size)
 clear k3 hb4 k4
 go_wp2_with fail
 refine Calls.to (cfacc0 w4) ?_
 rintro e w5 rfl hb5
 have hbr:=hbr.trans (hb5.mono hbr.size)
 go_wp2_with fail
 refine Calls.to (sttree0 w5) ?_
 rintro e w6 rfl hb6
 go_wp2_with fail
 go_ret
 exact ⟨rfl,hbr.trans (hb6.mono hbr.size)⟩
end Go.Proofs.YtoiakijmbghhlaaGreat
