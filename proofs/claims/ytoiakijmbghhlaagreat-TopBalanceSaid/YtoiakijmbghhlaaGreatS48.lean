/- sizing at one pipe: treeOf. Conditions: the pipe lies in memory, its section is right. -/
import Derived.Deep.OwnRows
import Derived.Test.YtoiakijmbghhlaaGreatS47
import Derived.Test.YtoiakijmbghhlaaGreatS25
set_option linter.unusedVariables false
set_option linter.unusedSimpArgs false
set_option maxRecDepth 100000
set_option maxHeartbeats 32000000
namespace Go.Proofs.YtoiakijmbghhlaaGreat
open Go.RowKit
theorem undBls:Tryz.prog.underlying 29=some (.slice 4):=by kernel_rfl
theorem infBl:(Tryz.prog.info? 4).map (fun i=>(i.zero,i.size,i.bytes))=some (some (.bool false),1,1):=by kernel_rfl
theorem undBlr:Tryz.prog.underlying 261=some (.slice 29):=by kernel_rfl
theorem infBlr:(Tryz.prog.info? 29).map (fun i=>(i.zero,i.size,i.bytes))=some (some (.slice none 0 0),1,24):=by kernel_rfl
theorem mkBlr (w:World):(Instr.makeSlice 261 (.int .i64 1) (.int .i64 1)).run Tryz.prog w=.ok (.slice (some ⟨w.heap.size,0,none⟩) 1 1) (w.alloc (.cells #[.slice none 0 0] 29)):=by
 have h:=run_make_row' (P:=Tryz.prog) 261 29 (.slice none 0 0) 24 undBlr infBlr rfl .i64 .i64 1 (by decide) (by decide) w
 rw [show madeCells #[Value.slice none 0 0] 1=#[.slice none 0 0] from by unfold madeCells;rw [show Array.range 1=#[0] from by decide];simp] at h
 exact h
theorem mkRws (w:World):(Instr.makeSlice 70 (.int .i64 1) (.int .i64 1)).run Tryz.prog w=.ok (.slice (some ⟨w.heap.size,0,none⟩) 1 1) (w.alloc (.cells #[.slice none 0 0] 28)):=by
 have h:=run_make_row' (P:=Tryz.prog) 70 28 (.slice none 0 0) 24 undRws infRw rfl .i64 .i64 1 (by decide) (by decide) w
 rw [show madeCells #[Value.slice none 0 0] 1=#[.slice none 0 0] from by unfold madeCells;rw [show Array.range 1=#[0] from by decide];simp] at h
 exact h
theorem tri3 (W W3:World) (A B C:Array Value) (ta tb tc:TypeId) (h:W3=(((W.alloc (.cells A ta)).alloc (.cells B tb)).alloc (.cells C tc)).drew) :
  W3.heap[W.heap.size]? = some (.cells A ta (0,0))/\W3.heap[W.heap.size+1]? = some (.cells B tb (0,0))/\W3.heap[W.heap.size+1+1]? = some (.cells C tc (0,0))/\Below W.heap.size W W3:=by
 subst h
 have h0:Below W.heap.size W ((((W.alloc (.cells A ta)).alloc (.cells B tb)).alloc (.cells C tc)).drew):=(((qr.alloc (Nat.le_refl _) _).alloc (by simp) _).alloc (by simp;omega) _).drew
 have h1:Below (W.heap.size+1) (W.alloc (.cells A ta)) ((((W.alloc (.cells A ta)).alloc (.cells B tb)).alloc (.cells C tc)).drew):=((qr.alloc (by simp) _).alloc (by simp) _).drew
 have h2:Below (W.heap.size+1+1) ((W.alloc (.cells A ta)).alloc (.cells B tb)) ((((W.alloc (.cells A ta)).alloc (.cells B tb)).alloc (.cells C tc)).drew):=(qr.alloc (by simp) _).drew
 refine ⟨(h1.block W.heap.size om).trans (heap_alloc_new W _),(h2.block (W.heap.size+1) om).trans ?_,?_,h0⟩
 ·have h:=heap_alloc_new (W.alloc (.cells A ta)) (.cells B tb)
  rw [show (W.alloc (.cells A ta)).heap.size=W.heap.size+1 from by simp] at h
  exact h
 ·have h:=heap_alloc_new ((W.alloc (.cells A ta)).alloc (.cells B tb)) (.cells C tc)
  rw [show ((W.alloc (.cells A ta)).alloc (.cells B tb)).heap.size=W.heap.size+1+1 from by simp] at h
  exact h
theorem cfull_zero (s:SecD) (b:Int) (w:World) (hs:IsSec w s) (hB:secB s=true) (hb:1<=b/\b<=16777216) :
  Calls Tryz.prog 179 #[vSec s,.int .i64 0,.int .i64 b] w fun e w'=>e=.returned (.tuple #[.int .i64 0,.int .i64 0])/\Below w.heap.size w w':=
 (cfull_any s 0 b w hs hB (by simp [slopeB];omega)).mono fun e w' h=>by
  obtain ⟨⟨u,rfl,_,hz⟩,hb⟩:=h
  exact ⟨by rw [hz rfl],hb⟩
theorem sztree_one {a0 a1 a2 a3 a4 a5:Nat} {s:SecD} (w:World) (h:Pip w a0 a1 a2 a3 a4 a5 s) (hs:secB s=true) (hH:s.Ht=100) :
  Calls Tryz.prog 108 #[vPip a0 a1 a2 a3 a4 a5] w fun e w'=>(∃ g,e=.returned (.pointer (some ⟨g,0,none⟩))/\OneT w' g a0 a1 a2 a3 a4 a5 s)/\Below w.heap.size w w':=by
 have hb0:Below w.heap.size w (w.alloc (.cells #[one a0,one a1,one a2,one a3,one a4,one a5] 105)):=qr.alloc (Nat.le_refl _) _
 obtain ⟨b0,b1,b2,b3,b4,b5⟩:=boxPip w (w.alloc (.cells #[one a0,one a1,one a2,one a3,one a4,one a5] 105)) 105 a0 a1 a2 a3 a4 a5 _ rfl qr
 obtain ⟨W,hW⟩:∃ W,W=w.alloc (.cells #[one a0,one a1,one a2,one a3,one a4,one a5] 105):=⟨_,rfl⟩
 have HW:=qh hW
 rw [<-hW] at hb0 b0 b1 b2 b3 b4 b5
 have HP:=qh (h.mono hb0)
 clear hW h
 go_enter Tryz.func108,Tryz.ntmps108
 go_upto_region 1 with (fail)
 rw [<-HW.out]
 clear HW
 have iH:decide (s.Ht<=100)=true:=by rw [hH];rfl
 clear hH
 have hk1:=mkBlr
 have hk2:=mkRws
 go_region
 ·clear hk1 hk2
  obtain ⟨W3,hW3⟩:∃ W3,W3=(((W.alloc (.cells #[.slice none 0 0] 29)).alloc (.cells #[.slice none 0 0] 28)).alloc (.cells #[one a0,one a1,one a2,one a3,one a4,one a5,one W.heap.size,one (W.heap.size+1)] 263)).drew:=⟨_,rfl⟩
  rw [<-hW3]
  obtain ⟨t1,t2,t3,hbT⟩:=tri3 W W3 _ _ _ _ _ _ hW3
  have hbw:=hb0.trans (hbT.mono hb0.size)
  have hPT:=qh (HP.out.mono hbT)
  have b0:=cel_lt b0 hbT
  have b1:=cel_lt b1 hbT
  have b2:=cel_lt b2 hbT
  have b3:=cel_lt b3 hbT
  have b4:=cel_lt b4 hbT
  have b5:=cel_lt b5 hbT
  have HBT:=qh hbT
  clear hW3 hbT
  obtain ⟨c0,c1,c2,c3,c4,d0,d1,d2,d3,d4,hsc⟩:=hPT.out
  have T1:=qh t1
  have T2:=qh t2
  have T3:=qh t3
  have hlT:W.heap.size+1+1<W3.heap.size:=(Array.getElem?_eq_some_iff.1 t3).1
  have hbA:Below W3.heap.size W3 (W3.alloc (.cells (eSec s).toArray 102)):=qr.alloc (Nat.le_refl _) _
  obtain ⟨f0,f1,f2,f3,f4⟩:=boxSec W3 (W3.alloc (.cells (eSec s).toArray 102)) 102 s _ rfl _ rfl qr
  obtain ⟨W5,hW5⟩:∃ W5,W5=W3.alloc (.cells (eSec s).toArray 102):=⟨_,rfl⟩
  have HW5:=qh hW5
  rw [<-hW5] at hbA f0 f1 f2 f3 f4
  have hcf:=fun x=>cfull_zero s 7 (more W5 x) ((hsc.mono hbA).mono (below_more W5 x)) hs (by decide)
  simp only [vSec,vSl] at hcf
  have HCF:=qh hcf
  clear hW5 hsc hcf t1 t2 t3
  go_wp2_with fail
  refine wp_loop_rounds 2 ?_
  rw [rounds_succ]
  go_wp2_with fail
  refine wp_loop_rounds 2 ?_
  rw [rounds_succ]
  go_upto_region 10 with (fail)
  rw [<-HW5.out]
  clear HW5 d0 d1 d2 d3 d4
  have c1:=cel_lt c1 hbA
  have c2:=cel_lt c2 hbA
  have c3:=cel_lt c3 hbA
  have c4:=cel_lt c4 hbA
  have b0:=cel_lt b0 hbA
  have b1:=cel_lt b1 hbA
  have b2:=cel_lt b2 hbA
  have b3:=cel_lt b3 hbA
  have b4:=cel_lt b4 hbA
  refine wp_region_more_lit (by kernel_rfl) (by kernel_rfl) ?_
  repeat (go_big_quiet_step ((go_at_call 179;exact Calls.more_of (HCF.out _))))
  refine wpQuiet_nil ?_
  intro _ hwq
  obtain ⟨xq,hwq⟩:=hwq
  subst hwq
  have hm:=below_more W5 xq
  have c2:=cel_lt c2 hm
  have c4:=cel_lt c4 hm
  have b2:=cel_lt b2 hm
  have b4:=cel_lt b4 hm
  have f1:=cel_lt f1 hm
  have hWx:=hbA.trans (hm.mono hbA.size)
  have t1:(more W5 xq).heap[W.heap.size]? = _:=(hWx.block _ om).trans T1.out
  have t2:(more W5 xq).heap[W.heap.size+1]? = _:=(hWx.block _ om).trans T2.out
  have t3:(more W5 xq).heap[W.heap.size+1+1]? = _:=(hWx.block _ om).trans T3.out
  have hlx:W.heap.size+1+1<(more W5 xq).heap.size:=Nat.lt_of_lt_of_le hlT hWx.size
  have hbX:Below W.heap.size W (more W5 xq):=HBT.out.trans (hWx.mono HBT.out.size)
  clear hm c1 c3 b0 b1 b3 f0 f2 f3 f4 HCF hWx hbA T1 T2 T3 hlT
  generalize more W5 xq=W6 at *
  have g6:W6.cell? ⟨W.heap.size+1+1,6,none⟩=some (one (W.heap.size)):=(tank_blk t3 6).trans rfl
  have p0:W6.cell? ⟨W.heap.size,0,none⟩=some (.slice none 0 0):=(tank_blk t1 0).trans rfl
  have fp0:W6.frozen? ⟨W.heap.size,0,none⟩=false:=tank_free t1 0
  have T1:=qh t1
  have T2:=qh t2
  have T3:=qh t3
  have HBX:=qh hbX
  have hlz:W.heap.size<W6.heap.size:=by omega
  have fpa:∀ w',Below W6.heap.size W6 w'->w'.frozen? ⟨W.heap.size,0,none⟩=false:=fun w' h=>(Below.frozen (B:=W6.heap.size) (w:=W6) h (p:=⟨W.heap.size,0,none⟩) hlz).trans fp0
  clear t1 t2 t3 hbX
  go_upto_region 11 with (fail)
  obtain ⟨fr,hfr⟩:∃ fr:(Nat->Value)->Act,fr=(fun y:Nat->Value=>(⟨#[vPip a0 a1 a2 a3 a4 a5,.pointer (some ⟨w.heap.size,0,none⟩),.pointer none,.pointer (some ⟨W.heap.size+1+1,0,none⟩),.int .i64 0,.int .i64 (-1),undef,.pointer (some ⟨W3.heap.size,0,none⟩),.int .i64 0,.int .i64 0,.agg #[one a0,one a1,one a2,one a3,one a4,one a5],.pointer (some ⟨w.heap.size,0,none⟩),one a0,.int .i64 1,.slice (some ⟨W.heap.size,0,none⟩) 1 1,.pointer (some ⟨w.heap.size,0,none⟩),one a0,.int .i64 1,.slice (some ⟨W.heap.size+1,0,none⟩) 1 1,.agg #[one a0,one a1,one a2,one a3,one a4,one a5,.slice (some ⟨W.heap.size,0,none⟩) 1 1,.slice (some ⟨W.heap.size+1,0,none⟩) 1 1],.pointer (some ⟨W.heap.size+1+1,0,none⟩),.pointer (some ⟨w.heap.size,0,none⟩),one a0,.int .i64 1,.int .i64 0,.bool true,.int .i64 0,.pointer (some ⟨a0,0,none⟩),.int .i64 (-1),.int .i64 (-1),.bool false,undef,undef,undef,undef,undef,undef,undef,undef,undef,undef,undef,undef,undef,undef,undef,undef,.pointer (some ⟨w.heap.size,5,none⟩),one a5,.int .i64 1,.int .i64 0,.bool true,.pointer (some ⟨a5,0,none⟩),.agg #[.string s.N,.int .i64 s.Ht,.int .i64 s.Pr,.slice s.A.a s.A.xs.length s.A.cap,.slice s.B.a s.B.xs.length s.B.cap],.tuple #[.int .i64 0,.int .i64 0],.agg #[.string s.N,.int .i64 s.Ht,.int .i64 s.Pr,.slice s.A.a s.A.xs.length s.A.cap,.slice s.B.a s.B.xs.length s.B.cap],.pointer (some ⟨w.heap.size,3,none⟩),one a3,.int .i64 0,.pointer (some ⟨a3,0,none⟩),.int .i64 0,.pointer (some ⟨w.heap.size,1,none⟩),one a1,.int .i64 0,.pointer (some ⟨a1,0,none⟩),.int .i64 7,.tuple #[.int .i64 0,.int .i64 0],.int .i64 0,.int .i64 0,y 0,y 1,y 2,y 3,y 4,y 5,y 6,y 7,y 8,y 9,y 10,y 11,y 12,y 13,y 14,y 15,y 16,y 17,y 18,y 19,y 20,y 21,y 22,y 23,y 24,y 25,y 26,y 27,y 28,y 29,y 30,y 31,y 32,y 33,y 34,y 35,y 36,y 37,y 38,y 39,undef,undef,undef],[]⟩:Act)):=⟨_,rfl⟩
  obtain ⟨cc,hcc⟩:∃ cc:Nat->Value,cc=(fun j:Nat=>(match j with|0=>(.pointer (some ⟨W.heap.size+1+1,0,none⟩):Value)|1=>(.pointer (some ⟨W.heap.size+1+1,0,none⟩):Value)|2=>(.pointer (some ⟨W.heap.size+1+1,6,none⟩):Value)|3=>(.slice (some ⟨W.heap.size,0,none⟩) 1 1:Value)|4=>(.int .i64 0:Value)|5=>(.pointer (some ⟨W.heap.size+1+1,0,none⟩):Value)|6=>(.pointer (some ⟨W.heap.size+1+1,0,none⟩):Value)|7=>(.pointer (some ⟨W.heap.size+1+1,6,none⟩):Value)|8=>(.slice (some ⟨W.heap.size,0,none⟩) 1 1:Value)|9=>(.int .i64 0:Value)|10=>(.pointer (some ⟨W.heap.size,0,none⟩):Value)|11=>(.slice none 0 0:Value)|12=>(.int .i64 0:Value)|13=>(.bool false:Value)|14=>(.bool false:Value)|15=>(.int .i64 0:Value)|16=>(.bool true:Value)|17=>(.bool true:Value)|18=>(.int .i64 0:Value)|19=>(.pointer (some ⟨w.heap.size,2,none⟩):Value)|20=>(.slice (some ⟨a2,0,none⟩) 1 1:Value)|21=>(.int .i64 0:Value)|22=>(.pointer (some ⟨a2,0,none⟩):Value)|23=>(.int .i64 0:Value)|24=>(.bool true:Value)|25=>(.bool true:Value)|26=>(.bool true:Value)|27=>(.bool true:Value)|28=>(.pointer (some ⟨W3.heap.size,1,none⟩):Value)|29=>(.int .i64 s.Ht:Value)|30=>(.pointer (some ⟨w.heap.size,4,none⟩):Value)|31=>(.slice (some ⟨a4,0,none⟩) 1 1:Value)|32=>(.int .i64 0:Value)|33=>(.pointer (some ⟨a4,0,none⟩):Value)|34=>(.int .i64 100:Value)|35=>(.bool true:Value)|36=>(.bool true:Value)|37=>(.slice (some ⟨W6.heap.size,0,none⟩) 1 1:Value)|39=>(.pointer (some ⟨W.heap.size,0,none⟩):Value)|_=>undef)):=⟨_,rfl⟩
  refine wp_region_inv (pJ 40 37 38 fr cc (.bool true) 4 W6 ⟨W.heap.size,0,none⟩) (by kernel_rfl) (by kernel_rfl) (fun l a W h=>h.1) ?step ?fin ?start
  case start=>
   have h:=pJ_start (n:=40) (b:=37) (k:=38) (c:=cc) (enc:=.bool true) (T:=4) (p:=⟨W.heap.size,0,none⟩) (W:=W6.drew) fr W6 qr.drew rfl (fun _=>undef)
   rw [hfr] at h ⊢
   exact h
  case fin=>
   intro l a Wr hI hall
   obtain ⟨hz,y,rfl,hV,hph⟩:=hI
   rcases hph with ⟨h40,_⟩|⟨_,_,V,rfl,hbV,g7,c7,e38,hg7,hc7⟩
   ·rw [hall 40 (by decide)] at h40;cases h40
   subst hfr
   clear hV hz hall hcc cc
   rw [e38]
   simp only [e38]
   have hbZ:=(HBX.out.trans (hbV.mono HBX.out.size)).setCell (p:=⟨W.heap.size,0,none⟩) (show W.heap.size<=W.heap.size by omega) (.slice (some ⟨g7,0,none⟩) 1 c7)
   have hZ3:(V.setCell ⟨W.heap.size,0,none⟩ (.slice (some ⟨g7,0,none⟩) 1 c7)).heap[W.heap.size+1+1]? = _:=(Below.heap_setCell V ⟨W.heap.size,0,none⟩ (.slice (some ⟨g7,0,none⟩) 1 c7) (W.heap.size+1+1) (show W.heap.size+1+1≠W.heap.size by omega)).trans ((hbV.block _ hlx).trans T3.out)
   have hZ2:(V.setCell ⟨W.heap.size,0,none⟩ (.slice (some ⟨g7,0,none⟩) 1 c7)).heap[W.heap.size+1]? = _:=(Below.heap_setCell V ⟨W.heap.size,0,none⟩ (.slice (some ⟨g7,0,none⟩) 1 c7) (W.heap.size+1) (show W.heap.size+1≠W.heap.size by omega)).trans ((hbV.block _ om).trans T2.out)
   have hZp:=World.cell?_setCell_same V ⟨W.heap.size,0,none⟩ (.slice (some ⟨g7,0,none⟩) 1 c7) (cel_lt p0 hbV)
   have hZr:(V.setCell ⟨W.heap.size,0,none⟩ (.slice (some ⟨g7,0,none⟩) 1 c7)).cell? ⟨g7,0,none⟩=some (.bool true):=by
    rw [<-hc7];exact World.cell?_of_block (Below.heap_setCell _ _ _ _ (show g7≠W.heap.size by omega))
   have HT:Hid (OneT (V.setCell ⟨W.heap.size,0,none⟩ (.slice (some ⟨g7,0,none⟩) 1 c7)) (W.heap.size+1+1) a0 a1 a2 a3 a4 a5 s):=qh ⟨(tank_blk hZ3 0).trans rfl,(tank_blk hZ3 1).trans rfl,(tank_blk hZ3 2).trans rfl,(tank_blk hZ3 3).trans rfl,(tank_blk hZ3 4).trans rfl,(tank_blk hZ3 5).trans rfl,⟨W.heap.size,g7,c7,(tank_blk hZ3 6).trans rfl,hZp,hZr⟩,⟨W.heap.size+1,(tank_blk hZ3 7).trans rfl,(tank_blk hZ2 0).trans rfl⟩,HP.out.mono hbZ⟩
   have HF:=qh (hb0.trans (hbZ.mono hb0.size))
   clear hbZ hZ3 hZ2 hZp hZr hc7 hbV c2 c4 b2 b4 f1 g6 p0 fp0 fpa
   go_wp2_with fail
   rw [rounds_succ]
   go_wp2_with fail
   rw [rounds_succ]
   go_wp2_with fail
   go_ret
   exact ⟨⟨_,rfl,HT.out⟩,HF.out⟩
  case step=>
   intro l a Wr i o hI ho hun hdeps
   subst hfr
   subst hcc
   obtain ⟨hz,y,rfl,hV,hph⟩:=hI
   have hi41:i<41:=(Array.getElem?_eq_some_iff.1 ho).1
   have hun':l.getD i false=false:=by rw [<-gD_tf om];exact hun
   have hph2:l.getD 40 false=false/\Below W6.heap.size W6 Wr/\(l.getD 37 false=false->Wr.heap.size=W6.heap.size)/\(l.getD 37 false=true->l.getD 38 false=false->Wr.heap[W6.heap.size]? = some (.cells #[.bool true] 4 (0,0)))/\(l.getD 38 false=true->PApp (.bool true) W6 Wr (y 38)):=by
    rcases hph with h|⟨h40,h2,_⟩
    ·exact h
    ·exfalso
     by_cases h:i=40
     ·subst h;rw [h40] at hun';cases hun'
     ·rw [h2 i om] at hun';cases hun'
   obtain ⟨h40,hb,h1,h2,h3⟩:=hph2
   clear hph
   have k2:=cel_lt c2 hb
   have k4:=cel_lt c4 hb
   have l2:=cel_lt b2 hb
   have l4:=cel_lt b4 hb
   have m1:=cel_lt f1 hb
   have m6:=cel_lt g6 hb
   have m0:=cel_lt p0 hb
   have mf:=fpa _ hb
   rcases (show i=0\/i=1\/i=2\/i=3\/i=4\/i=5\/i=6\/i=7\/i=8\/i=9\/i=10\/i=11\/i=12\/i=13\/i=14\/i=15\/i=16\/i=17\/i=18\/i=19\/i=20\/i=21\/i=22\/i=23\/i=24\/i=25\/i=26\/i=27\/i=28\/i=29\/i=30\/i=31\/i=32\/i=33\/i=34\/i=35\/i=36\/i=37\/i=38\/i=39\/i=40 by omega) with rfl|rfl|rfl|rfl|rfl|rfl|rfl|rfl|rfl|rfl|rfl|rfl|rfl|rfl|rfl|rfl|rfl|rfl|rfl|rfl|rfl|rfl|rfl|rfl|rfl|rfl|rfl|rfl|rfl|rfl|rfl|rfl|rfl|rfl|rfl|rfl|rfl|rfl|rfl|rfl|rfl
   ·obtain rfl:=Option.some.inj (show some _=some o from ho)
    refine wpOp_step rfl (fun K hK=>?_)
    rw [if_pos (by rfl)]
    go_simp
    refine hK _ _ (pJ_quiet hz hV h40 hb h1 h2 h3 om om om ?_)
    first|rfl|simp [upY]
   ·obtain rfl:=Option.some.inj (show some _=some o from ho)
    have e0:y 0=.pointer (some ⟨W.heap.size+1+1,0,none⟩):=hV 0 om om (hdeps ⟨0,.data⟩ (by simp) rfl)
    refine wpOp_step rfl (fun K hK=>?_)
    rw [if_pos (by rfl)]
    go_simp
    refine hK _ _ (pJ_quiet hz hV h40 hb h1 h2 h3 om om om ?_)
    first|rfl|simp [upY,e0]
   ·obtain rfl:=Option.some.inj (show some _=some o from ho)
    have e1:y 1=.pointer (some ⟨W.heap.size+1+1,0,none⟩):=hV 1 om om (hdeps ⟨1,.data⟩ (by simp) rfl)
    refine wpOp_step rfl (fun K hK=>?_)
    rw [if_pos (by rfl)]
    go_simp
    refine hK _ _ (pJ_quiet hz hV h40 hb h1 h2 h3 om om om ?_)
    first|rfl|simp [upY,e1]
   ·obtain rfl:=Option.some.inj (show some _=some o from ho)
    have e2:y 2=.pointer (some ⟨W.heap.size+1+1,6,none⟩):=hV 2 om om (hdeps ⟨2,.data⟩ (by simp) rfl)
    refine wpOp_step rfl (fun K hK=>?_)
    rw [if_pos (by rfl)]
    go_simp
    refine hK _ _ (pJ_quiet hz hV h40 hb h1 h2 h3 om om om ?_)
    first|rfl|simp [upY,e2]
   ·obtain rfl:=Option.some.inj (show some _=some o from ho)
    refine wpOp_step rfl (fun K hK=>?_)
    rw [if_pos (by rfl)]
    go_simp
    refine hK _ _ (pJ_quiet hz hV h40 hb h1 h2 h3 om om om ?_)
    first|rfl|simp [upY]
   ·obtain rfl:=Option.some.inj (show some _=some o from ho)
    refine wpOp_step rfl (fun K hK=>?_)
    rw [if_pos (by rfl)]
    go_simp
    refine hK _ _ (pJ_quiet hz hV h40 hb h1 h2 h3 om om om ?_)
    first|rfl|simp [upY]
   ·obtain rfl:=Option.some.inj (show some _=some o from ho)
    have e5:y 5=.pointer (some ⟨W.heap.size+1+1,0,none⟩):=hV 5 om om (hdeps ⟨5,.data⟩ (by simp) rfl)
    refine wpOp_step rfl (fun K hK=>?_)
    rw [if_pos (by rfl)]
    go_simp
    refine hK _ _ (pJ_quiet hz hV h40 hb h1 h2 h3 om om om ?_)
    first|rfl|simp [upY,e5]
   ·obtain rfl:=Option.some.inj (show some _=some o from ho)
    have e6:y 6=.pointer (some ⟨W.heap.size+1+1,0,none⟩):=hV 6 om om (hdeps ⟨6,.data⟩ (by simp) rfl)
    refine wpOp_step rfl (fun K hK=>?_)
    rw [if_pos (by rfl)]
    go_simp
    refine hK _ _ (pJ_quiet hz hV h40 hb h1 h2 h3 om om om ?_)
    first|rfl|simp [upY,e6]
   ·obtain rfl:=Option.some.inj (show some _=some o from ho)
    have e7:y 7=.pointer (some ⟨W.heap.size+1+1,6,none⟩):=hV 7 om om (hdeps ⟨7,.data⟩ (by simp) rfl)
    refine wpOp_step rfl (fun K hK=>?_)
    rw [if_pos (by rfl)]
    go_simp
    refine hK _ _ (pJ_quiet hz hV h40 hb h1 h2 h3 om om om ?_)
    first|rfl|simp [upY,e7]
   ·obtain rfl:=Option.some.inj (show some _=some o from ho)
    refine wpOp_step rfl (fun K hK=>?_)
    rw [if_pos (by rfl)]
    go_simp
    refine hK _ _ (pJ_quiet hz hV h40 hb h1 h2 h3 om om om ?_)
    first|rfl|simp [upY]
   ·obtain rfl:=Option.some.inj (show some _=some o from ho)
    have e8:y 8=.slice (some ⟨W.heap.size,0,none⟩) 1 1:=hV 8 om om (hdeps ⟨8,.data⟩ (by simp) rfl)
    have e9:y 9=.int .i64 0:=hV 9 om om (hdeps ⟨9,.data⟩ (by simp) rfl)
    refine wpOp_step rfl (fun K hK=>?_)
    rw [if_pos (by rfl)]
    go_simp
    refine hK _ _ (pJ_quiet hz hV h40 hb h1 h2 h3 om om om ?_)
    first|rfl|simp [upY,e8,e9]
   ·obtain rfl:=Option.some.inj (show some _=some o from ho)
    have e10:y 10=.pointer (some ⟨W.heap.size,0,none⟩):=hV 10 om om (hdeps ⟨10,.data⟩ (by simp) rfl)
    refine wpOp_step rfl (fun K hK=>?_)
    rw [if_pos (by rfl)]
    go_simp
    refine hK _ _ (pJ_quiet hz hV h40 hb h1 h2 h3 om om om ?_)
    first|rfl|simp [upY,e10]
   ·obtain rfl:=Option.some.inj (show some _=some o from ho)
    refine wpOp_step rfl (fun K hK=>?_)
    rw [if_pos (by rfl)]
    go_simp
    refine hK _ _ (pJ_quiet hz hV h40 hb h1 h2 h3 om om om ?_)
    first|rfl|simp [upY]
   ·obtain rfl:=Option.some.inj (show some _=some o from ho)
    have e12:y 12=.int .i64 0:=hV 12 om om (hdeps ⟨12,.data⟩ (by simp) rfl)
    refine wpOp_step rfl (fun K hK=>?_)
    rw [if_pos (by rfl)]
    go_simp
    refine hK _ _ (pJ_quiet hz hV h40 hb h1 h2 h3 om om om ?_)
    first|rfl|simp [upY,e12]
   ·obtain rfl:=Option.some.inj (show some _=some o from ho)
    have e13:y 13=.bool false:=hV 13 om om (hdeps ⟨13,.data⟩ (by simp) rfl)
    refine wpOp_step rfl (fun K hK=>?_)
    rw [if_pos (by rfl)]
    go_simp
    refine hK _ _ (pJ_quiet hz hV h40 hb h1 h2 h3 om om om ?_)
    first|rfl|simp [upY,e13]
   ·obtain rfl:=Option.some.inj (show some _=some o from ho)
    have eg:y 14=.bool false:=hV 14 om om (hdeps ⟨14,.guard⟩ (by simp) rfl)
    refine wpOp_step rfl (fun K hK=>?_)
    rw [if_pos]
    rotate_left
    ·exact wanted_of (d:=14) (b:=false) rfl (yielded_of (t:=83) rfl (congrArg some eg))
    go_simp
    refine hK _ _ (pJ_quiet hz hV h40 hb h1 h2 h3 om om om ?_)
    first|rfl|simp [upY,eg]
   ·obtain rfl:=Option.some.inj (show some _=some o from ho)
    have e15:y 15=.int .i64 0:=hV 15 om om (hdeps ⟨15,.data⟩ (by simp) rfl)
    have eg:y 14=.bool false:=hV 14 om om (hdeps ⟨14,.guard⟩ (by simp) rfl)
    refine wpOp_step rfl (fun K hK=>?_)
    rw [if_pos]
    rotate_left
    ·exact wanted_of (d:=14) (b:=false) rfl (yielded_of (t:=83) rfl (congrArg some eg))
    go_simp
    refine hK _ _ (pJ_quiet hz hV h40 hb h1 h2 h3 om om om ?_)
    first|rfl|simp [upY,eg,e15]
   ·obtain rfl:=Option.some.inj (show some _=some o from ho)
    have e16:y 16=.bool true:=hV 16 om om (hdeps ⟨16,.data⟩ (by simp) rfl)
    have eg:y 14=.bool false:=hV 14 om om (hdeps ⟨14,.guard⟩ (by simp) rfl)
    refine wpOp_step rfl (fun K hK=>?_)
    rw [if_pos]
    rotate_left
    ·exact wanted_of (d:=14) (b:=false) rfl (yielded_of (t:=83) rfl (congrArg some eg))
    go_simp
    refine hK _ _ (pJ_quiet hz hV h40 hb h1 h2 h3 om om om ?_)
    first|rfl|simp [upY,eg,e16]
   ·obtain rfl:=Option.some.inj (show some _=some o from ho)
    have eg:y 17=.bool true:=hV 17 om om (hdeps ⟨17,.guard⟩ (by simp) rfl)
    refine wpOp_step rfl (fun K hK=>?_)
    rw [if_pos]
    rotate_left
    ·exact wanted_of (d:=17) (b:=true) rfl (yielded_of (t:=86) rfl (congrArg some eg))
    go_simp
    refine hK _ _ (pJ_quiet hz hV h40 hb h1 h2 h3 om om om ?_)
    first|rfl|simp [upY,eg]
   ·obtain rfl:=Option.some.inj (show some _=some o from ho)
    have eg:y 17=.bool true:=hV 17 om om (hdeps ⟨17,.guard⟩ (by simp) rfl)
    refine wpOp_step rfl (fun K hK=>?_)
    rw [if_pos]
    rotate_left
    ·exact wanted_of (d:=17) (b:=true) rfl (yielded_of (t:=86) rfl (congrArg some eg))
    go_simp
    refine hK _ _ (pJ_quiet hz hV h40 hb h1 h2 h3 om om om ?_)
    first|rfl|simp [upY,eg]
   ·obtain rfl:=Option.some.inj (show some _=some o from ho)
    have e19:y 19=.pointer (some ⟨w.heap.size,2,none⟩):=hV 19 om om (hdeps ⟨19,.data⟩ (by simp) rfl)
    have eg:y 17=.bool true:=hV 17 om om (hdeps ⟨17,.guard⟩ (by simp) rfl)
    refine wpOp_step rfl (fun K hK=>?_)
    rw [if_pos]
    rotate_left
    ·exact wanted_of (d:=17) (b:=true) rfl (yielded_of (t:=86) rfl (congrArg some eg))
    go_simp
    refine hK _ _ (pJ_quiet hz hV h40 hb h1 h2 h3 om om om ?_)
    first|rfl|simp [upY,eg,e19]
   ·obtain rfl:=Option.some.inj (show some _=some o from ho)
    have eg:y 17=.bool true:=hV 17 om om (hdeps ⟨17,.guard⟩ (by simp) rfl)
    refine wpOp_step rfl (fun K hK=>?_)
    rw [if_pos]
    rotate_left
    ·exact wanted_of (d:=17) (b:=true) rfl (yielded_of (t:=86) rfl (congrArg some eg))
    go_simp
    refine hK _ _ (pJ_quiet hz hV h40 hb h1 h2 h3 om om om ?_)
    first|rfl|simp [upY,eg]
   ·obtain rfl:=Option.some.inj (show some _=some o from ho)
    have e20:y 20=.slice (some ⟨a2,0,none⟩) 1 1:=hV 20 om om (hdeps ⟨20,.data⟩ (by simp) rfl)
    have e21:y 21=.int .i64 0:=hV 21 om om (hdeps ⟨21,.data⟩ (by simp) rfl)
    have eg:y 17=.bool true:=hV 17 om om (hdeps ⟨17,.guard⟩ (by simp) rfl)
    refine wpOp_step rfl (fun K hK=>?_)
    rw [if_pos]
    rotate_left
    ·exact wanted_of (d:=17) (b:=true) rfl (yielded_of (t:=86) rfl (congrArg some eg))
    go_simp
    refine hK _ _ (pJ_quiet hz hV h40 hb h1 h2 h3 om om om ?_)
    first|rfl|simp [upY,eg,e20,e21]
   ·obtain rfl:=Option.some.inj (show some _=some o from ho)
    have e22:y 22=.pointer (some ⟨a2,0,none⟩):=hV 22 om om (hdeps ⟨22,.data⟩ (by simp) rfl)
    have eg:y 17=.bool true:=hV 17 om om (hdeps ⟨17,.guard⟩ (by simp) rfl)
    refine wpOp_step rfl (fun K hK=>?_)
    rw [if_pos]
    rotate_left
    ·exact wanted_of (d:=17) (b:=true) rfl (yielded_of (t:=86) rfl (congrArg some eg))
    go_simp
    refine hK _ _ (pJ_quiet hz hV h40 hb h1 h2 h3 om om om ?_)
    first|rfl|simp [upY,eg,e22]
   ·obtain rfl:=Option.some.inj (show some _=some o from ho)
    have e18:y 18=.int .i64 0:=hV 18 om om (hdeps ⟨18,.data⟩ (by simp) rfl)
    have e23:y 23=.int .i64 0:=hV 23 om om (hdeps ⟨23,.data⟩ (by simp) rfl)
    have eg:y 17=.bool true:=hV 17 om om (hdeps ⟨17,.guard⟩ (by simp) rfl)
    refine wpOp_step rfl (fun K hK=>?_)
    rw [if_pos]
    rotate_left
    ·exact wanted_of (d:=17) (b:=true) rfl (yielded_of (t:=86) rfl (congrArg some eg))
    go_simp
    refine hK _ _ (pJ_quiet hz hV h40 hb h1 h2 h3 om om om ?_)
    first|rfl|simp [upY,eg,e18,e23]
   ·obtain rfl:=Option.some.inj (show some _=some o from ho)
    have e17:y 17=.bool true:=hV 17 om om (hdeps ⟨17,.data⟩ (by simp) rfl)
    have e24:y 24=.bool true:=hV 24 om om (hdeps ⟨24,.data⟩ (by simp) rfl)
    have eg:y 14=.bool false:=hV 14 om om (hdeps ⟨14,.guard⟩ (by simp) rfl)
    refine wpOp_step rfl (fun K hK=>?_)
    rw [if_pos]
    rotate_left
    ·exact wanted_of (d:=14) (b:=false) rfl (yielded_of (t:=83) rfl (congrArg some eg))
    go_simp
    refine hK _ _ (pJ_quiet hz hV h40 hb h1 h2 h3 om om om ?_)
    first|rfl|simp [upY,eg,e17,e24]
   ·obtain rfl:=Option.some.inj (show some _=some o from ho)
    have e14:y 14=.bool false:=hV 14 om om (hdeps ⟨14,.data⟩ (by simp) rfl)
    have e25:y 25=.bool true:=hV 25 om om (hdeps ⟨25,.data⟩ (by simp) rfl)
    refine wpOp_step rfl (fun K hK=>?_)
    rw [if_pos (by rfl)]
    go_simp
    refine hK _ _ (pJ_quiet hz hV h40 hb h1 h2 h3 om om om ?_)
    first|rfl|simp [upY,e14,e25]
   ·obtain rfl:=Option.some.inj (show some _=some o from ho)
    have e26:y 26=.bool true:=hV 26 om om (hdeps ⟨26,.data⟩ (by simp) rfl)
    refine wpOp_step rfl (fun K hK=>?_)
    rw [if_pos (by rfl)]
    go_simp
    refine hK _ _ (pJ_quiet hz hV h40 hb h1 h2 h3 om om om ?_)
    first|rfl|simp [upY,e26]
   ·obtain rfl:=Option.some.inj (show some _=some o from ho)
    have eg:y 27=.bool true:=hV 27 om om (hdeps ⟨27,.guard⟩ (by simp) rfl)
    refine wpOp_step rfl (fun K hK=>?_)
    rw [if_pos]
    rotate_left
    ·exact wanted_of (d:=27) (b:=true) rfl (yielded_of (t:=96) rfl (congrArg some eg))
    go_simp
    refine hK _ _ (pJ_quiet hz hV h40 hb h1 h2 h3 om om om ?_)
    first|rfl|simp [upY,eg]
   ·obtain rfl:=Option.some.inj (show some _=some o from ho)
    have e28:y 28=.pointer (some ⟨W3.heap.size,1,none⟩):=hV 28 om om (hdeps ⟨28,.data⟩ (by simp) rfl)
    have eg:y 27=.bool true:=hV 27 om om (hdeps ⟨27,.guard⟩ (by simp) rfl)
    refine wpOp_step rfl (fun K hK=>?_)
    rw [if_pos]
    rotate_left
    ·exact wanted_of (d:=27) (b:=true) rfl (yielded_of (t:=96) rfl (congrArg some eg))
    go_simp
    refine hK _ _ (pJ_quiet hz hV h40 hb h1 h2 h3 om om om ?_)
    first|rfl|simp [upY,eg,e28]
   ·obtain rfl:=Option.some.inj (show some _=some o from ho)
    have eg:y 27=.bool true:=hV 27 om om (hdeps ⟨27,.guard⟩ (by simp) rfl)
    refine wpOp_step rfl (fun K hK=>?_)
    rw [if_pos]
    rotate_left
    ·exact wanted_of (d:=27) (b:=true) rfl (yielded_of (t:=96) rfl (congrArg some eg))
    go_simp
    refine hK _ _ (pJ_quiet hz hV h40 hb h1 h2 h3 om om om ?_)
    first|rfl|simp [upY,eg]
   ·obtain rfl:=Option.some.inj (show some _=some o from ho)
    have e30:y 30=.pointer (some ⟨w.heap.size,4,none⟩):=hV 30 om om (hdeps ⟨30,.data⟩ (by simp) rfl)
    have eg:y 27=.bool true:=hV 27 om om (hdeps ⟨27,.guard⟩ (by simp) rfl)
    refine wpOp_step rfl (fun K hK=>?_)
    rw [if_pos]
    rotate_left
    ·exact wanted_of (d:=27) (b:=true) rfl (yielded_of (t:=96) rfl (congrArg some eg))
    go_simp
    refine hK _ _ (pJ_quiet hz hV h40 hb h1 h2 h3 om om om ?_)
    first|rfl|simp [upY,eg,e30]
   ·obtain rfl:=Option.some.inj (show some _=some o from ho)
    have eg:y 27=.bool true:=hV 27 om om (hdeps ⟨27,.guard⟩ (by simp) rfl)
    refine wpOp_step rfl (fun K hK=>?_)
    rw [if_pos]
    rotate_left
    ·exact wanted_of (d:=27) (b:=true) rfl (yielded_of (t:=96) rfl (congrArg some eg))
    go_simp
    refine hK _ _ (pJ_quiet hz hV h40 hb h1 h2 h3 om om om ?_)
    first|rfl|simp [upY,eg]
   ·obtain rfl:=Option.some.inj (show some _=some o from ho)
    have e31:y 31=.slice (some ⟨a4,0,none⟩) 1 1:=hV 31 om om (hdeps ⟨31,.data⟩ (by simp) rfl)
    have e32:y 32=.int .i64 0:=hV 32 om om (hdeps ⟨32,.data⟩ (by simp) rfl)
    have eg:y 27=.bool true:=hV 27 om om (hdeps ⟨27,.guard⟩ (by simp) rfl)
    refine wpOp_step rfl (fun K hK=>?_)
    rw [if_pos]
    rotate_left
    ·exact wanted_of (d:=27) (b:=true) rfl (yielded_of (t:=96) rfl (congrArg some eg))
    go_simp
    refine hK _ _ (pJ_quiet hz hV h40 hb h1 h2 h3 om om om ?_)
    first|rfl|simp [upY,eg,e31,e32]
   ·obtain rfl:=Option.some.inj (show some _=some o from ho)
    have e33:y 33=.pointer (some ⟨a4,0,none⟩):=hV 33 om om (hdeps ⟨33,.data⟩ (by simp) rfl)
    have eg:y 27=.bool true:=hV 27 om om (hdeps ⟨27,.guard⟩ (by simp) rfl)
    refine wpOp_step rfl (fun K hK=>?_)
    rw [if_pos]
    rotate_left
    ·exact wanted_of (d:=27) (b:=true) rfl (yielded_of (t:=96) rfl (congrArg some eg))
    go_simp
    refine hK _ _ (pJ_quiet hz hV h40 hb h1 h2 h3 om om om ?_)
    first|rfl|simp [upY,eg,e33]
   ·obtain rfl:=Option.some.inj (show some _=some o from ho)
    have e29:y 29=.int .i64 s.Ht:=hV 29 om om (hdeps ⟨29,.data⟩ (by simp) rfl)
    have e34:y 34=.int .i64 100:=hV 34 om om (hdeps ⟨34,.data⟩ (by simp) rfl)
    have eg:y 27=.bool true:=hV 27 om om (hdeps ⟨27,.guard⟩ (by simp) rfl)
    refine wpOp_step rfl (fun K hK=>?_)
    rw [if_pos]
    rotate_left
    ·exact wanted_of (d:=27) (b:=true) rfl (yielded_of (t:=96) rfl (congrArg some eg))
    go_simp
    refine hK _ _ (pJ_quiet hz hV h40 hb h1 h2 h3 om om om ?_)
    first|rfl|simp [upY,eg,e29,e34]
   ·obtain rfl:=Option.some.inj (show some _=some o from ho)
    have e27:y 27=.bool true:=hV 27 om om (hdeps ⟨27,.data⟩ (by simp) rfl)
    have e35:y 35=.bool true:=hV 35 om om (hdeps ⟨35,.data⟩ (by simp) rfl)
    refine wpOp_step rfl (fun K hK=>?_)
    rw [if_pos (by rfl)]
    go_simp
    refine hK _ _ (pJ_quiet hz hV h40 hb h1 h2 h3 om om om ?_)
    first|rfl|simp [upY,e27,e35]
   ·obtain rfl:=Option.some.inj (show some _=some o from ho)
    have e36:y 36=.bool true:=hV 36 om om (hdeps ⟨36,.data⟩ (by simp) rfl)
    have hk38:l.getD 38 false=false:=by
     cases h:l.getD 38 false with
     | false=>rfl
     | true=>
      obtain ⟨g,c,_,hg,hc⟩:=h3 h
      have q1:=World.block_lt_of_cell? _ _ hc
      have q2:=h1 hun'
      simp only at q1
      omega
    refine wpOp_step rfl (fun K hK=>?_)
    rw [if_pos (by rfl)]
    go_simp
    refine hK _ _ (pJ_build hz hV h40 hb (h1 hun') hk38 om (by decide) rfl ?_)
    first|rfl|simp [upY,e36,h1 hun']
   ·obtain rfl:=Option.some.inj (show some _=some o from ho)
    have e11:y 11=.slice none 0 0:=hV 11 om om (hdeps ⟨11,.data⟩ (by simp) rfl)
    have e37:y 37=.slice (some ⟨W6.heap.size,0,none⟩) 1 1:=hV 37 om om (hdeps ⟨37,.data⟩ (by simp) rfl)
    have hbl:l.getD 37 false=true:=hdeps ⟨37,.data⟩ (by simp) rfl
    have hbx:=h2 hbl hun'
    have hon:Own W6.heap.size 4 eBool 1 Wr (.slice none 0 0) ([]:List Bool):=World.ownsRow_nil _ _ _ _
    refine wpOp_step rfl (fun K hK=>?_)
    rw [if_pos (by rfl)]
    refine wp_pushR _ _ 29 rfl 4 _ 1 1 undBls infBl rfl (by decide) true (fun _=>rfl) (by simp [Value.oneCell']) (.slice none 0 0) ([]:List Bool) (by exact e11) hon W6.heap.size (by exact e37) (by decide) (by decide) hb.size hbx ?_
    intro g7 c7 w7 hR7
    have hv7:w7.cell? ⟨g7,0,none⟩=some (.bool true):=by
     have:=Own.cellAt' (enc:=eBool) (fun _=>rfl) hR7.own 0 0 (by simp) (by simp)
     simpa using this
    exact hK _ _ (pJ_app hz hV h40 hb hbl om (by decide) (hR7.below hon hb.size) ⟨g7,c7,rfl,(hR7.own.lt g7 rfl).1,hv7⟩ rfl)
   ·obtain rfl:=Option.some.inj (show some _=some o from ho)
    have e3:y 3=.slice (some ⟨W.heap.size,0,none⟩) 1 1:=hV 3 om om (hdeps ⟨3,.data⟩ (by simp) rfl)
    have e4:y 4=.int .i64 0:=hV 4 om om (hdeps ⟨4,.data⟩ (by simp) rfl)
    refine wpOp_step rfl (fun K hK=>?_)
    rw [if_pos (by rfl)]
    go_simp
    refine hK _ _ (pJ_quiet hz hV h40 hb h1 h2 h3 om om om ?_)
    first|rfl|simp [upY,e3,e4]
   ·obtain rfl:=Option.some.inj (show some _=some o from ho)
    have hall:∀ j,j<40->l.getD j false=true:=by
     intro j hj
     by_cases h39:j=39
     ·subst h39;exact hdeps ⟨39,.data⟩ (by simp) rfl
     ·rcases (show j=0\/j=1\/j=2\/j=3\/j=4\/j=5\/j=6\/j=7\/j=8\/j=9\/j=10\/j=11\/j=12\/j=13\/j=14\/j=15\/j=16\/j=17\/j=18\/j=19\/j=20\/j=21\/j=22\/j=23\/j=24\/j=25\/j=26\/j=27\/j=28\/j=29\/j=30\/j=31\/j=32\/j=33\/j=34\/j=35\/j=36\/j=37\/j=38 by omega) with rfl|rfl|rfl|rfl|rfl|rfl|rfl|rfl|rfl|rfl|rfl|rfl|rfl|rfl|rfl|rfl|rfl|rfl|rfl|rfl|rfl|rfl|rfl|rfl|rfl|rfl|rfl|rfl|rfl|rfl|rfl|rfl|rfl|rfl|rfl|rfl|rfl|rfl|rfl
      all_goals exact hdeps ⟨_,.phase⟩ (by simp) rfl
    have e39:y 39=.pointer (some ⟨W.heap.size,0,none⟩):=hV 39 om om (hall 39 om)
    have hu:=h3 (hall 38 om)
    have hu2:=hu
    obtain ⟨g7,c7,e38,hg7,hc7⟩:=hu2
    have HVV:=qh hV
    have HAL:=qh hall
    clear hV hall
    refine wpOp_step rfl (fun K hK=>?_)
    rw [if_pos (by rfl)]
    go_simp
    rw [<-e38]
    refine hK _ _ (pJ_store hz HVV.out hb hu HAL.out ?_)
    first|rfl|simp [e38,e39]
 ·clear hk1 hk2
  obtain ⟨W3,hW3⟩:∃ W3,W3=(((W.alloc (.cells #[.slice none 0 0] 28)).alloc (.cells #[.slice none 0 0] 29)).alloc (.cells #[one a0,one a1,one a2,one a3,one a4,one a5,one (W.heap.size+1),one W.heap.size] 263)).drew:=⟨_,rfl⟩
  rw [<-hW3]
  obtain ⟨t1,t2,t3,hbT⟩:=tri3 W W3 _ _ _ _ _ _ hW3
  have hbw:=hb0.trans (hbT.mono hb0.size)
  have hPT:=qh (HP.out.mono hbT)
  have b0:=cel_lt b0 hbT
  have b1:=cel_lt b1 hbT
  have b2:=cel_lt b2 hbT
  have b3:=cel_lt b3 hbT
  have b4:=cel_lt b4 hbT
  have b5:=cel_lt b5 hbT
  have HBT:=qh hbT
  clear hW3 hbT
  obtain ⟨c0,c1,c2,c3,c4,d0,d1,d2,d3,d4,hsc⟩:=hPT.out
  have T1:=qh t1
  have T2:=qh t2
  have T3:=qh t3
  have hlT:W.heap.size+1+1<W3.heap.size:=(Array.getElem?_eq_some_iff.1 t3).1
  have hbA:Below W3.heap.size W3 (W3.alloc (.cells (eSec s).toArray 102)):=qr.alloc (Nat.le_refl _) _
  obtain ⟨f0,f1,f2,f3,f4⟩:=boxSec W3 (W3.alloc (.cells (eSec s).toArray 102)) 102 s _ rfl _ rfl qr
  obtain ⟨W5,hW5⟩:∃ W5,W5=W3.alloc (.cells (eSec s).toArray 102):=⟨_,rfl⟩
  have HW5:=qh hW5
  rw [<-hW5] at hbA f0 f1 f2 f3 f4
  have hcf:=fun x=>cfull_zero s 7 (more W5 x) ((hsc.mono hbA).mono (below_more W5 x)) hs (by decide)
  simp only [vSec,vSl] at hcf
  have HCF:=qh hcf
  clear hW5 hsc hcf t1 t2 t3
  go_wp2_with fail
  refine wp_loop_rounds 2 ?_
  rw [rounds_succ]
  go_wp2_with fail
  refine wp_loop_rounds 2 ?_
  rw [rounds_succ]
  go_upto_region 10 with (fail)
  rw [<-HW5.out]
  clear HW5 d0 d1 d2 d3 d4
  have c1:=cel_lt c1 hbA
  have c2:=cel_lt c2 hbA
  have c3:=cel_lt c3 hbA
  have c4:=cel_lt c4 hbA
  have b0:=cel_lt b0 hbA
  have b1:=cel_lt b1 hbA
  have b2:=cel_lt b2 hbA
  have b3:=cel_lt b3 hbA
  have b4:=cel_lt b4 hbA
  refine wp_region_more_lit (by kernel_rfl) (by kernel_rfl) ?_
  repeat (go_big_quiet_step ((go_at_call 179;exact Calls.more_of (HCF.out _))))
  refine wpQuiet_nil ?_
  intro _ hwq
  obtain ⟨xq,hwq⟩:=hwq
  subst hwq
  have hm:=below_more W5 xq
  have c2:=cel_lt c2 hm
  have c4:=cel_lt c4 hm
  have b2:=cel_lt b2 hm
  have b4:=cel_lt b4 hm
  have f1:=cel_lt f1 hm
  have hWx:=hbA.trans (hm.mono hbA.size)
  have t1:(more W5 xq).heap[W.heap.size]? = _:=(hWx.block _ om).trans T1.out
  have t2:(more W5 xq).heap[W.heap.size+1]? = _:=(hWx.block _ om).trans T2.out
  have t3:(more W5 xq).heap[W.heap.size+1+1]? = _:=(hWx.block _ om).trans T3.out
  have hlx:W.heap.size+1+1<(more W5 xq).heap.size:=Nat.lt_of_lt_of_le hlT hWx.size
  have hbX:Below W.heap.size W (more W5 xq):=HBT.out.trans (hWx.mono HBT.out.size)
  clear hm c1 c3 b0 b1 b3 f0 f2 f3 f4 HCF hWx hbA T1 T2 T3 hlT
  generalize more W5 xq=W6 at *
  have g6:W6.cell? ⟨W.heap.size+1+1,6,none⟩=some (one (W.heap.size+1)):=(tank_blk t3 6).trans rfl
  have p0:W6.cell? ⟨W.heap.size+1,0,none⟩=some (.slice none 0 0):=(tank_blk t2 0).trans rfl
  have fp0:W6.frozen? ⟨W.heap.size+1,0,none⟩=false:=tank_free t2 0
  have T1:=qh t1
  have T2:=qh t2
  have T3:=qh t3
  have HBX:=qh hbX
  have hlz:W.heap.size+1<W6.heap.size:=by omega
  have fpa:∀ w',Below W6.heap.size W6 w'->w'.frozen? ⟨W.heap.size+1,0,none⟩=false:=fun w' h=>(Below.frozen (B:=W6.heap.size) (w:=W6) h (p:=⟨W.heap.size+1,0,none⟩) hlz).trans fp0
  clear t1 t2 t3 hbX
  go_upto_region 11 with (fail)
  obtain ⟨fr,hfr⟩:∃ fr:(Nat->Value)->Act,fr=(fun y:Nat->Value=>(⟨#[vPip a0 a1 a2 a3 a4 a5,.pointer (some ⟨w.heap.size,0,none⟩),.pointer none,.pointer (some ⟨W.heap.size+1+1,0,none⟩),.int .i64 0,.int .i64 (-1),undef,.pointer (some ⟨W3.heap.size,0,none⟩),.int .i64 0,.int .i64 0,.agg #[one a0,one a1,one a2,one a3,one a4,one a5],.pointer (some ⟨w.heap.size,0,none⟩),one a0,.int .i64 1,.slice (some ⟨W.heap.size+1,0,none⟩) 1 1,.pointer (some ⟨w.heap.size,0,none⟩),one a0,.int .i64 1,.slice (some ⟨W.heap.size,0,none⟩) 1 1,.agg #[one a0,one a1,one a2,one a3,one a4,one a5,.slice (some ⟨W.heap.size+1,0,none⟩) 1 1,.slice (some ⟨W.heap.size,0,none⟩) 1 1],.pointer (some ⟨W.heap.size+1+1,0,none⟩),.pointer (some ⟨w.heap.size,0,none⟩),one a0,.int .i64 1,.int .i64 0,.bool true,.int .i64 0,.pointer (some ⟨a0,0,none⟩),.int .i64 (-1),.int .i64 (-1),.bool false,undef,undef,undef,undef,undef,undef,undef,undef,undef,undef,undef,undef,undef,undef,undef,undef,.pointer (some ⟨w.heap.size,5,none⟩),one a5,.int .i64 1,.int .i64 0,.bool true,.pointer (some ⟨a5,0,none⟩),.agg #[.string s.N,.int .i64 s.Ht,.int .i64 s.Pr,.slice s.A.a s.A.xs.length s.A.cap,.slice s.B.a s.B.xs.length s.B.cap],.tuple #[.int .i64 0,.int .i64 0],.agg #[.string s.N,.int .i64 s.Ht,.int .i64 s.Pr,.slice s.A.a s.A.xs.length s.A.cap,.slice s.B.a s.B.xs.length s.B.cap],.pointer (some ⟨w.heap.size,3,none⟩),one a3,.int .i64 0,.pointer (some ⟨a3,0,none⟩),.int .i64 0,.pointer (some ⟨w.heap.size,1,none⟩),one a1,.int .i64 0,.pointer (some ⟨a1,0,none⟩),.int .i64 7,.tuple #[.int .i64 0,.int .i64 0],.int .i64 0,.int .i64 0,y 0,y 1,y 2,y 3,y 4,y 5,y 6,y 7,y 8,y 9,y 10,y 11,y 12,y 13,y 14,y 15,y 16,y 17,y 18,y 19,y 20,y 21,y 22,y 23,y 24,y 25,y 26,y 27,y 28,y 29,y 30,y 31,y 32,y 33,y 34,y 35,y 36,y 37,y 38,y 39,undef,undef,undef],[]⟩:Act)):=⟨_,rfl⟩
  obtain ⟨cc,hcc⟩:∃ cc:Nat->Value,cc=(fun j:Nat=>(match j with|0=>(.pointer (some ⟨W.heap.size+1+1,0,none⟩):Value)|1=>(.pointer (some ⟨W.heap.size+1+1,0,none⟩):Value)|2=>(.pointer (some ⟨W.heap.size+1+1,6,none⟩):Value)|3=>(.slice (some ⟨W.heap.size+1,0,none⟩) 1 1:Value)|4=>(.int .i64 0:Value)|5=>(.pointer (some ⟨W.heap.size+1+1,0,none⟩):Value)|6=>(.pointer (some ⟨W.heap.size+1+1,0,none⟩):Value)|7=>(.pointer (some ⟨W.heap.size+1+1,6,none⟩):Value)|8=>(.slice (some ⟨W.heap.size+1,0,none⟩) 1 1:Value)|9=>(.int .i64 0:Value)|10=>(.pointer (some ⟨W.heap.size+1,0,none⟩):Value)|11=>(.slice none 0 0:Value)|12=>(.int .i64 0:Value)|13=>(.bool false:Value)|14=>(.bool false:Value)|15=>(.int .i64 0:Value)|16=>(.bool true:Value)|17=>(.bool true:Value)|18=>(.int .i64 0:Value)|19=>(.pointer (some ⟨w.heap.size,2,none⟩):Value)|20=>(.slice (some ⟨a2,0,none⟩) 1 1:Value)|21=>(.int .i64 0:Value)|22=>(.pointer (some ⟨a2,0,none⟩):Value)|23=>(.int .i64 0:Value)|24=>(.bool true:Value)|25=>(.bool true:Value)|26=>(.bool true:Value)|27=>(.bool true:Value)|28=>(.pointer (some ⟨W3.heap.size,1,none⟩):Value)|29=>(.int .i64 s.Ht:Value)|30=>(.pointer (some ⟨w.heap.size,4,none⟩):Value)|31=>(.slice (some ⟨a4,0,none⟩) 1 1:Value)|32=>(.int .i64 0:Value)|33=>(.pointer (some ⟨a4,0,none⟩):Value)|34=>(.int .i64 100:Value)|35=>(.bool true:Value)|36=>(.bool true:Value)|37=>(.slice (some ⟨W6.heap.size,0,none⟩) 1 1:Value)|39=>(.pointer (some ⟨W.heap.size+1,0,none⟩):Value)|_=>undef)):=⟨_,rfl⟩
  refine wp_region_inv (pJ 40 37 38 fr cc (.bool true) 4 W6 ⟨W.heap.size+1,0,none⟩) (by kernel_rfl) (by kernel_rfl) (fun l a W h=>h.1) ?step ?fin ?start
  case start=>
   have h:=pJ_start (n:=40) (b:=37) (k:=38) (c:=cc) (enc:=.bool true) (T:=4) (p:=⟨W.heap.size+1,0,none⟩) (W:=W6.drew) fr W6 qr.drew rfl (fun _=>undef)
   rw [hfr] at h ⊢
   exact h
  case fin=>
   intro l a Wr hI hall
   obtain ⟨hz,y,rfl,hV,hph⟩:=hI
   rcases hph with ⟨h40,_⟩|⟨_,_,V,rfl,hbV,g7,c7,e38,hg7,hc7⟩
   ·rw [hall 40 (by decide)] at h40;cases h40
   subst hfr
   clear hV hz hall hcc cc
   rw [e38]
   simp only [e38]
   have hbZ:=(HBX.out.trans (hbV.mono HBX.out.size)).setCell (p:=⟨W.heap.size+1,0,none⟩) (show W.heap.size<=W.heap.size+1 by omega) (.slice (some ⟨g7,0,none⟩) 1 c7)
   have hZ3:(V.setCell ⟨W.heap.size+1,0,none⟩ (.slice (some ⟨g7,0,none⟩) 1 c7)).heap[W.heap.size+1+1]? = _:=(Below.heap_setCell V ⟨W.heap.size+1,0,none⟩ (.slice (some ⟨g7,0,none⟩) 1 c7) (W.heap.size+1+1) (show W.heap.size+1+1≠W.heap.size+1 by omega)).trans ((hbV.block _ hlx).trans T3.out)
   have hZ2:(V.setCell ⟨W.heap.size+1,0,none⟩ (.slice (some ⟨g7,0,none⟩) 1 c7)).heap[W.heap.size]? = _:=(Below.heap_setCell V ⟨W.heap.size+1,0,none⟩ (.slice (some ⟨g7,0,none⟩) 1 c7) (W.heap.size) (show W.heap.size≠W.heap.size+1 by omega)).trans ((hbV.block _ om).trans T1.out)
   have hZp:=World.cell?_setCell_same V ⟨W.heap.size+1,0,none⟩ (.slice (some ⟨g7,0,none⟩) 1 c7) (cel_lt p0 hbV)
   have hZr:(V.setCell ⟨W.heap.size+1,0,none⟩ (.slice (some ⟨g7,0,none⟩) 1 c7)).cell? ⟨g7,0,none⟩=some (.bool true):=by
    rw [<-hc7];exact World.cell?_of_block (Below.heap_setCell _ _ _ _ (show g7≠W.heap.size+1 by omega))
   have HT:Hid (OneT (V.setCell ⟨W.heap.size+1,0,none⟩ (.slice (some ⟨g7,0,none⟩) 1 c7)) (W.heap.size+1+1) a0 a1 a2 a3 a4 a5 s):=qh ⟨(tank_blk hZ3 0).trans rfl,(tank_blk hZ3 1).trans rfl,(tank_blk hZ3 2).trans rfl,(tank_blk hZ3 3).trans rfl,(tank_blk hZ3 4).trans rfl,(tank_blk hZ3 5).trans rfl,⟨W.heap.size+1,g7,c7,(tank_blk hZ3 6).trans rfl,hZp,hZr⟩,⟨W.heap.size,(tank_blk hZ3 7).trans rfl,(tank_blk hZ2 0).trans rfl⟩,HP.out.mono hbZ⟩
   have HF:=qh (hb0.trans (hbZ.mono hb0.size))
   clear hbZ hZ3 hZ2 hZp hZr hc7 hbV c2 c4 b2 b4 f1 g6 p0 fp0 fpa
   go_wp2_with fail
   rw [rounds_succ]
   go_wp2_with fail
   rw [rounds_succ]
   go_wp2_with fail
   go_ret
   exact ⟨⟨_,rfl,HT.out⟩,HF.out⟩
  case step=>
   intro l a Wr i o hI ho hun hdeps
   subst hfr
   subst hcc
   obtain ⟨hz,y,rfl,hV,hph⟩:=hI
   have hi41:i<41:=(Array.getElem?_eq_some_iff.1 ho).1
   have hun':l.getD i false=false:=by rw [<-gD_tf om];exact hun
   have hph2:l.getD 40 false=false/\Below W6.heap.size W6 Wr/\(l.getD 37 false=false->Wr.heap.size=W6.heap.size)/\(l.getD 37 false=true->l.getD 38 false=false->Wr.heap[W6.heap.size]? = some (.cells #[.bool true] 4 (0,0)))/\(l.getD 38 false=true->PApp (.bool true) W6 Wr (y 38)):=by
    rcases hph with h|⟨h40,h2,_⟩
    ·exact h
    ·exfalso
     by_cases h:i=40
     ·subst h;rw [h40] at hun';cases hun'
     ·rw [h2 i om] at hun';cases hun'
   obtain ⟨h40,hb,h1,h2,h3⟩:=hph2
   clear hph
   have k2:=cel_lt c2 hb
   have k4:=cel_lt c4 hb
   have l2:=cel_lt b2 hb
   have l4:=cel_lt b4 hb
   have m1:=cel_lt f1 hb
   have m6:=cel_lt g6 hb
   have m0:=cel_lt p0 hb
   have mf:=fpa _ hb
   rcases (show i=0\/i=1\/i=2\/i=3\/i=4\/i=5\/i=6\/i=7\/i=8\/i=9\/i=10\/i=11\/i=12\/i=13\/i=14\/i=15\/i=16\/i=17\/i=18\/i=19\/i=20\/i=21\/i=22\/i=23\/i=24\/i=25\/i=26\/i=27\/i=28\/i=29\/i=30\/i=31\/i=32\/i=33\/i=34\/i=35\/i=36\/i=37\/i=38\/i=39\/i=40 by omega) with rfl|rfl|rfl|rfl|rfl|rfl|rfl|rfl|rfl|rfl|rfl|rfl|rfl|rfl|rfl|rfl|rfl|rfl|rfl|rfl|rfl|rfl|rfl|rfl|rfl|rfl|rfl|rfl|rfl|rfl|rfl|rfl|rfl|rfl|rfl|rfl|rfl|rfl|rfl|rfl|rfl
   ·obtain rfl:=Option.some.inj (show some _=some o from ho)
    refine wpOp_step rfl (fun K hK=>?_)
    rw [if_pos (by rfl)]
    go_simp
    refine hK _ _ (pJ_quiet hz hV h40 hb h1 h2 h3 om om om ?_)
    first|rfl|simp [upY]
   ·obtain rfl:=Option.some.inj (show some _=some o from ho)
    have e0:y 0=.pointer (some ⟨W.heap.size+1+1,0,none⟩):=hV 0 om om (hdeps ⟨0,.data⟩ (by simp) rfl)
    refine wpOp_step rfl (fun K hK=>?_)
    rw [if_pos (by rfl)]
    go_simp
    refine hK _ _ (pJ_quiet hz hV h40 hb h1 h2 h3 om om om ?_)
    first|rfl|simp [upY,e0]
   ·obtain rfl:=Option.some.inj (show some _=some o from ho)
    have e1:y 1=.pointer (some ⟨W.heap.size+1+1,0,none⟩):=hV 1 om om (hdeps ⟨1,.data⟩ (by simp) rfl)
    refine wpOp_step rfl (fun K hK=>?_)
    rw [if_pos (by rfl)]
    go_simp
    refine hK _ _ (pJ_quiet hz hV h40 hb h1 h2 h3 om om om ?_)
    first|rfl|simp [upY,e1]
   ·obtain rfl:=Option.some.inj (show some _=some o from ho)
    have e2:y 2=.pointer (some ⟨W.heap.size+1+1,6,none⟩):=hV 2 om om (hdeps ⟨2,.data⟩ (by simp) rfl)
    refine wpOp_step rfl (fun K hK=>?_)
    rw [if_pos (by rfl)]
    go_simp
    refine hK _ _ (pJ_quiet hz hV h40 hb h1 h2 h3 om om om ?_)
    first|rfl|simp [upY,e2]
   ·obtain rfl:=Option.some.inj (show some _=some o from ho)
    refine wpOp_step rfl (fun K hK=>?_)
    rw [if_pos (by rfl)]
    go_simp
    refine hK _ _ (pJ_quiet hz hV h40 hb h1 h2 h3 om om om ?_)
    first|rfl|simp [upY]
   ·obtain rfl:=Option.some.inj (show some _=some o from ho)
    refine wpOp_step rfl (fun K hK=>?_)
    rw [if_pos (by rfl)]
    go_simp
    refine hK _ _ (pJ_quiet hz hV h40 hb h1 h2 h3 om om om ?_)
    first|rfl|simp [upY]
   ·obtain rfl:=Option.some.inj (show some _=some o from ho)
    have e5:y 5=.pointer (some ⟨W.heap.size+1+1,0,none⟩):=hV 5 om om (hdeps ⟨5,.data⟩ (by simp) rfl)
    refine wpOp_step rfl (fun K hK=>?_)
    rw [if_pos (by rfl)]
    go_simp
    refine hK _ _ (pJ_quiet hz hV h40 hb h1 h2 h3 om om om ?_)
    first|rfl|simp [upY,e5]
   ·obtain rfl:=Option.some.inj (show some _=some o from ho)
    have e6:y 6=.pointer (some ⟨W.heap.size+1+1,0,none⟩):=hV 6 om om (hdeps ⟨6,.data⟩ (by simp) rfl)
    refine wpOp_step rfl (fun K hK=>?_)
    rw [if_pos (by rfl)]
    go_simp
    refine hK _ _ (pJ_quiet hz hV h40 hb h1 h2 h3 om om om ?_)
    first|rfl|simp [upY,e6]
   ·obtain rfl:=Option.some.inj (show some _=some o from ho)
    have e7:y 7=.pointer (some ⟨W.heap.size+1+1,6,none⟩):=hV 7 om om (hdeps ⟨7,.data⟩ (by simp) rfl)
    refine wpOp_step rfl (fun K hK=>?_)
    rw [if_pos (by rfl)]
    go_simp
    refine hK _ _ (pJ_quiet hz hV h40 hb h1 h2 h3 om om om ?_)
    first|rfl|simp [upY,e7]
   ·obtain rfl:=Option.some.inj (show some _=some o from ho)
    refine wpOp_step rfl (fun K hK=>?_)
    rw [if_pos (by rfl)]
    go_simp
    refine hK _ _ (pJ_quiet hz hV h40 hb h1 h2 h3 om om om ?_)
    first|rfl|simp [upY]
   ·obtain rfl:=Option.some.inj (show some _=some o from ho)
    have e8:y 8=.slice (some ⟨W.heap.size+1,0,none⟩) 1 1:=hV 8 om om (hdeps ⟨8,.data⟩ (by simp) rfl)
    have e9:y 9=.int .i64 0:=hV 9 om om (hdeps ⟨9,.data⟩ (by simp) rfl)
    refine wpOp_step rfl (fun K hK=>?_)
    rw [if_pos (by rfl)]
    go_simp
    refine hK _ _ (pJ_quiet hz hV h40 hb h1 h2 h3 om om om ?_)
    first|rfl|simp [upY,e8,e9]
   ·obtain rfl:=Option.some.inj (show some _=some o from ho)
    have e10:y 10=.pointer (some ⟨W.heap.size+1,0,none⟩):=hV 10 om om (hdeps ⟨10,.data⟩ (by simp) rfl)
    refine wpOp_step rfl (fun K hK=>?_)
    rw [if_pos (by rfl)]
    go_simp
    refine hK _ _ (pJ_quiet hz hV h40 hb h1 h2 h3 om om om ?_)
    first|rfl|simp [upY,e10]
   ·obtain rfl:=Option.some.inj (show some _=some o from ho)
    refine wpOp_step rfl (fun K hK=>?_)
    rw [if_pos (by rfl)]
    go_simp
    refine hK _ _ (pJ_quiet hz hV h40 hb h1 h2 h3 om om om ?_)
    first|rfl|simp [upY]
   ·obtain rfl:=Option.some.inj (show some _=some o from ho)
    have e12:y 12=.int .i64 0:=hV 12 om om (hdeps ⟨12,.data⟩ (by simp) rfl)
    refine wpOp_step rfl (fun K hK=>?_)
    rw [if_pos (by rfl)]
    go_simp
    refine hK _ _ (pJ_quiet hz hV h40 hb h1 h2 h3 om om om ?_)
    first|rfl|simp [upY,e12]
   ·obtain rfl:=Option.some.inj (show some _=some o from ho)
    have e13:y 13=.bool false:=hV 13 om om (hdeps ⟨13,.data⟩ (by simp) rfl)
    refine wpOp_step rfl (fun K hK=>?_)
    rw [if_pos (by rfl)]
    go_simp
    refine hK _ _ (pJ_quiet hz hV h40 hb h1 h2 h3 om om om ?_)
    first|rfl|simp [upY,e13]
   ·obtain rfl:=Option.some.inj (show some _=some o from ho)
    have eg:y 14=.bool false:=hV 14 om om (hdeps ⟨14,.guard⟩ (by simp) rfl)
    refine wpOp_step rfl (fun K hK=>?_)
    rw [if_pos]
    rotate_left
    ·exact wanted_of (d:=14) (b:=false) rfl (yielded_of (t:=83) rfl (congrArg some eg))
    go_simp
    refine hK _ _ (pJ_quiet hz hV h40 hb h1 h2 h3 om om om ?_)
    first|rfl|simp [upY,eg]
   ·obtain rfl:=Option.some.inj (show some _=some o from ho)
    have e15:y 15=.int .i64 0:=hV 15 om om (hdeps ⟨15,.data⟩ (by simp) rfl)
    have eg:y 14=.bool false:=hV 14 om om (hdeps ⟨14,.guard⟩ (by simp) rfl)
    refine wpOp_step rfl (fun K hK=>?_)
    rw [if_pos]
    rotate_left
    ·exact wanted_of (d:=14) (b:=false) rfl (yielded_of (t:=83) rfl (congrArg some eg))
    go_simp
    refine hK _ _ (pJ_quiet hz hV h40 hb h1 h2 h3 om om om ?_)
    first|rfl|simp [upY,eg,e15]
   ·obtain rfl:=Option.some.inj (show some _=some o from ho)
    have e16:y 16=.bool true:=hV 16 om om (hdeps ⟨16,.data⟩ (by simp) rfl)
    have eg:y 14=.bool false:=hV 14 om om (hdeps ⟨14,.guard⟩ (by simp) rfl)
    refine wpOp_step rfl (fun K hK=>?_)
    rw [if_pos]
    rotate_left
    ·exact wanted_of (d:=14) (b:=false) rfl (yielded_of (t:=83) rfl (congrArg some eg))
    go_simp
    refine hK _ _ (pJ_quiet hz hV h40 hb h1 h2 h3 om om om ?_)
    first|rfl|simp [upY,eg,e16]
   ·obtain rfl:=Option.some.inj (show some _=some o from ho)
    have eg:y 17=.bool true:=hV 17 om om (hdeps ⟨17,.guard⟩ (by simp) rfl)
    refine wpOp_step rfl (fun K hK=>?_)
    rw [if_pos]
    rotate_left
    ·exact wanted_of (d:=17) (b:=true) rfl (yielded_of (t:=86) rfl (congrArg some eg))
    go_simp
    refine hK _ _ (pJ_quiet hz hV h40 hb h1 h2 h3 om om om ?_)
    first|rfl|simp [upY,eg]
   ·obtain rfl:=Option.some.inj (show some _=some o from ho)
    have eg:y 17=.bool true:=hV 17 om om (hdeps ⟨17,.guard⟩ (by simp) rfl)
    refine wpOp_step rfl (fun K hK=>?_)
    rw [if_pos]
    rotate_left
    ·exact wanted_of (d:=17) (b:=true) rfl (yielded_of (t:=86) rfl (congrArg some eg))
    go_simp
    refine hK _ _ (pJ_quiet hz hV h40 hb h1 h2 h3 om om om ?_)
    first|rfl|simp [upY,eg]
   ·obtain rfl:=Option.some.inj (show some _=some o from ho)
    have e19:y 19=.pointer (some ⟨w.heap.size,2,none⟩):=hV 19 om om (hdeps ⟨19,.data⟩ (by simp) rfl)
    have eg:y 17=.bool true:=hV 17 om om (hdeps ⟨17,.guard⟩ (by simp) rfl)
    refine wpOp_step rfl (fun K hK=>?_)
    rw [if_pos]
    rotate_left
    ·exact wanted_of (d:=17) (b:=true) rfl (yielded_of (t:=86) rfl (congrArg some eg))
    go_simp
    refine hK _ _ (pJ_quiet hz hV h40 hb h1 h2 h3 om om om ?_)
    first|rfl|simp [upY,eg,e19]
   ·obtain rfl:=Option.some.inj (show some _=some o from ho)
    have eg:y 17=.bool true:=hV 17 om om (hdeps ⟨17,.guard⟩ (by simp) rfl)
    refine wpOp_step rfl (fun K hK=>?_)
    rw [if_pos]
    rotate_left
    ·exact wanted_of (d:=17) (b:=true) rfl (yielded_of (t:=86) rfl (congrArg some eg))
    go_simp
    refine hK _ _ (pJ_quiet hz hV h40 hb h1 h2 h3 om om om ?_)
    first|rfl|simp [upY,eg]
   ·obtain rfl:=Option.some.inj (show some _=some o from ho)
    have e20:y 20=.slice (some ⟨a2,0,none⟩) 1 1:=hV 20 om om (hdeps ⟨20,.data⟩ (by simp) rfl)
    have e21:y 21=.int .i64 0:=hV 21 om om (hdeps ⟨21,.data⟩ (by simp) rfl)
    have eg:y 17=.bool true:=hV 17 om om (hdeps ⟨17,.guard⟩ (by simp) rfl)
    refine wpOp_step rfl (fun K hK=>?_)
    rw [if_pos]
    rotate_left
    ·exact wanted_of (d:=17) (b:=true) rfl (yielded_of (t:=86) rfl (congrArg some eg))
    go_simp
    refine hK _ _ (pJ_quiet hz hV h40 hb h1 h2 h3 om om om ?_)
    first|rfl|simp [upY,eg,e20,e21]
   ·obtain rfl:=Option.some.inj (show some _=some o from ho)
    have e22:y 22=.pointer (some ⟨a2,0,none⟩):=hV 22 om om (hdeps ⟨22,.data⟩ (by simp) rfl)
    have eg:y 17=.bool true:=hV 17 om om (hdeps ⟨17,.guard⟩ (by simp) rfl)
    refine wpOp_step rfl (fun K hK=>?_)
    rw [if_pos]
    rotate_left
    ·exact wanted_of (d:=17) (b:=true) rfl (yielded_of (t:=86) rfl (congrArg some eg))
    go_simp
    refine hK _ _ (pJ_quiet hz hV h40 hb h1 h2 h3 om om om ?_)
    first|rfl|simp [upY,eg,e22]
   ·obtain rfl:=Option.some.inj (show some _=some o from ho)
    have e18:y 18=.int .i64 0:=hV 18 om om (hdeps ⟨18,.data⟩ (by simp) rfl)
    have e23:y 23=.int .i64 0:=hV 23 om om (hdeps ⟨23,.data⟩ (by simp) rfl)
    have eg:y 17=.bool true:=hV 17 om om (hdeps ⟨17,.guard⟩ (by simp) rfl)
    refine wpOp_step rfl (fun K hK=>?_)
    rw [if_pos]
    rotate_left
    ·exact wanted_of (d:=17) (b:=true) rfl (yielded_of (t:=86) rfl (congrArg some eg))
    go_simp
    refine hK _ _ (pJ_quiet hz hV h40 hb h1 h2 h3 om om om ?_)
    first|rfl|simp [upY,eg,e18,e23]
   ·obtain rfl:=Option.some.inj (show some _=some o from ho)
    have e17:y 17=.bool true:=hV 17 om om (hdeps ⟨17,.data⟩ (by simp) rfl)
    have e24:y 24=.bool true:=hV 24 om om (hdeps ⟨24,.data⟩ (by simp) rfl)
    have eg:y 14=.bool false:=hV 14 om om (hdeps ⟨14,.guard⟩ (by simp) rfl)
    refine wpOp_step rfl (fun K hK=>?_)
    rw [if_pos]
    rotate_left
    ·exact wanted_of (d:=14) (b:=false) rfl (yielded_of (t:=83) rfl (congrArg some eg))
    go_simp
    refine hK _ _ (pJ_quiet hz hV h40 hb h1 h2 h3 om om om ?_)
    first|rfl|simp [upY,eg,e17,e24]
   ·obtain rfl:=Option.some.inj (show some _=some o from ho)
    have e14:y 14=.bool false:=hV 14 om om (hdeps ⟨14,.data⟩ (by simp) rfl)
    have e25:y 25=.bool true:=hV 25 om om (hdeps ⟨25,.data⟩ (by simp) rfl)
    refine wpOp_step rfl (fun K hK=>?_)
    rw [if_pos (by rfl)]
    go_simp
    refine hK _ _ (pJ_quiet hz hV h40 hb h1 h2 h3 om om om ?_)
    first|rfl|simp [upY,e14,e25]
   ·obtain rfl:=Option.some.inj (show some _=some o from ho)
    have e26:y 26=.bool true:=hV 26 om om (hdeps ⟨26,.data⟩ (by simp) rfl)
    refine wpOp_step rfl (fun K hK=>?_)
    rw [if_pos (by rfl)]
    go_simp
    refine hK _ _ (pJ_quiet hz hV h40 hb h1 h2 h3 om om om ?_)
    first|rfl|simp [upY,e26]
   ·obtain rfl:=Option.some.inj (show some _=some o from ho)
    have eg:y 27=.bool true:=hV 27 om om (hdeps ⟨27,.guard⟩ (by simp) rfl)
    refine wpOp_step rfl (fun K hK=>?_)
    rw [if_pos]
    rotate_left
    ·exact wanted_of (d:=27) (b:=true) rfl (yielded_of (t:=96) rfl (congrArg some eg))
    go_simp
    refine hK _ _ (pJ_quiet hz hV h40 hb h1 h2 h3 om om om ?_)
    first|rfl|simp [upY,eg]
   ·obtain rfl:=Option.some.inj (show some _=some o from ho)
    have e28:y 28=.pointer (some ⟨W3.heap.size,1,none⟩):=hV 28 om om (hdeps ⟨28,.data⟩ (by simp) rfl)
    have eg:y 27=.bool true:=hV 27 om om (hdeps ⟨27,.guard⟩ (by simp) rfl)
    refine wpOp_step rfl (fun K hK=>?_)
    rw [if_pos]
    rotate_left
    ·exact wanted_of (d:=27) (b:=true) rfl (yielded_of (t:=96) rfl (congrArg some eg))
    go_simp
    refine hK _ _ (pJ_quiet hz hV h40 hb h1 h2 h3 om om om ?_)
    first|rfl|simp [upY,eg,e28]
   ·obtain rfl:=Option.some.inj (show some _=some o from ho)
    have eg:y 27=.bool true:=hV 27 om om (hdeps ⟨27,.guard⟩ (by simp) rfl)
    refine wpOp_step rfl (fun K hK=>?_)
    rw [if_pos]
    rotate_left
    ·exact wanted_of (d:=27) (b:=true) rfl (yielded_of (t:=96) rfl (congrArg some eg))
    go_simp
    refine hK _ _ (pJ_quiet hz hV h40 hb h1 h2 h3 om om om ?_)
    first|rfl|simp [upY,eg]
   ·obtain rfl:=Option.some.inj (show some _=some o from ho)
    have e30:y 30=.pointer (some ⟨w.heap.size,4,none⟩):=hV 30 om om (hdeps ⟨30,.data⟩ (by simp) rfl)
    have eg:y 27=.bool true:=hV 27 om om (hdeps ⟨27,.guard⟩ (by simp) rfl)
    refine wpOp_step rfl (fun K hK=>?_)
    rw [if_pos]
    rotate_left
    ·exact wanted_of (d:=27) (b:=true) rfl (yielded_of (t:=96) rfl (congrArg some eg))
    go_simp
    refine hK _ _ (pJ_quiet hz hV h40 hb h1 h2 h3 om om om ?_)
    first|rfl|simp [upY,eg,e30]
   ·obtain rfl:=Option.some.inj (show some _=some o from ho)
    have eg:y 27=.bool true:=hV 27 om om (hdeps ⟨27,.guard⟩ (by simp) rfl)
    refine wpOp_step rfl (fun K hK=>?_)
    rw [if_pos]
    rotate_left
    ·exact wanted_of (d:=27) (b:=true) rfl (yielded_of (t:=96) rfl (congrArg some eg))
    go_simp
    refine hK _ _ (pJ_quiet hz hV h40 hb h1 h2 h3 om om om ?_)
    first|rfl|simp [upY,eg]
   ·obtain rfl:=Option.some.inj (show some _=some o from ho)
    have e31:y 31=.slice (some ⟨a4,0,none⟩) 1 1:=hV 31 om om (hdeps ⟨31,.data⟩ (by simp) rfl)
    have e32:y 32=.int .i64 0:=hV 32 om om (hdeps ⟨32,.data⟩ (by simp) rfl)
    have eg:y 27=.bool true:=hV 27 om om (hdeps ⟨27,.guard⟩ (by simp) rfl)
    refine wpOp_step rfl (fun K hK=>?_)
    rw [if_pos]
    rotate_left
    ·exact wanted_of (d:=27) (b:=true) rfl (yielded_of (t:=96) rfl (congrArg some eg))
    go_simp
    refine hK _ _ (pJ_quiet hz hV h40 hb h1 h2 h3 om om om ?_)
    first|rfl|simp [upY,eg,e31,e32]
   ·obtain rfl:=Option.some.inj (show some _=some o from ho)
    have e33:y 33=.pointer (some ⟨a4,0,none⟩):=hV 33 om om (hdeps ⟨33,.data⟩ (by simp) rfl)
    have eg:y 27=.bool true:=hV 27 om om (hdeps ⟨27,.guard⟩ (by simp) rfl)
    refine wpOp_step rfl (fun K hK=>?_)
    rw [if_pos]
    rotate_left
    ·exact wanted_of (d:=27) (b:=true) rfl (yielded_of (t:=96) rfl (congrArg some eg))
    go_simp
    refine hK _ _ (pJ_quiet hz hV h40 hb h1 h2 h3 om om om ?_)
    first|rfl|simp [upY,eg,e33]
   ·obtain rfl:=Option.some.inj (show some _=some o from ho)
    have e29:y 29=.int .i64 s.Ht:=hV 29 om om (hdeps ⟨29,.data⟩ (by simp) rfl)
    have e34:y 34=.int .i64 100:=hV 34 om om (hdeps ⟨34,.data⟩ (by simp) rfl)
    have eg:y 27=.bool true:=hV 27 om om (hdeps ⟨27,.guard⟩ (by simp) rfl)
    refine wpOp_step rfl (fun K hK=>?_)
    rw [if_pos]
    rotate_left
    ·exact wanted_of (d:=27) (b:=true) rfl (yielded_of (t:=96) rfl (congrArg some eg))
    go_simp
    refine hK _ _ (pJ_quiet hz hV h40 hb h1 h2 h3 om om om ?_)
    first|rfl|simp [upY,eg,e29,e34]
   ·obtain rfl:=Option.some.inj (show some _=some o from ho)
    have e27:y 27=.bool true:=hV 27 om om (hdeps ⟨27,.data⟩ (by simp) rfl)
    have e35:y 35=.bool true:=hV 35 om om (hdeps ⟨35,.data⟩ (by simp) rfl)
    refine wpOp_step rfl (fun K hK=>?_)
    rw [if_pos (by rfl)]
    go_simp
    refine hK _ _ (pJ_quiet hz hV h40 hb h1 h2 h3 om om om ?_)
    first|rfl|simp [upY,e27,e35]
   ·obtain rfl:=Option.some.inj (show some _=some o from ho)
    have e36:y 36=.bool true:=hV 36 om om (hdeps ⟨36,.data⟩ (by simp) rfl)
    have hk38:l.getD 38 false=false:=by
     cases h:l.getD 38 false with
     | false=>rfl
     | true=>
      obtain ⟨g,c,_,hg,hc⟩:=h3 h
      have q1:=World.block_lt_of_cell? _ _ hc
      have q2:=h1 hun'
      simp only at q1
      omega
    refine wpOp_step rfl (fun K hK=>?_)
    rw [if_pos (by rfl)]
    go_simp
    refine hK _ _ (pJ_build hz hV h40 hb (h1 hun') hk38 om (by decide) rfl ?_)
    first|rfl|simp [upY,e36,h1 hun']
   ·obtain rfl:=Option.some.inj (show some _=some o from ho)
    have e11:y 11=.slice none 0 0:=hV 11 om om (hdeps ⟨11,.data⟩ (by simp) rfl)
    have e37:y 37=.slice (some ⟨W6.heap.size,0,none⟩) 1 1:=hV 37 om om (hdeps ⟨37,.data⟩ (by simp) rfl)
    have hbl:l.getD 37 false=true:=hdeps ⟨37,.data⟩ (by simp) rfl
    have hbx:=h2 hbl hun'
    have hon:Own W6.heap.size 4 eBool 1 Wr (.slice none 0 0) ([]:List Bool):=World.ownsRow_nil _ _ _ _
    refine wpOp_step rfl (fun K hK=>?_)
    rw [if_pos (by rfl)]
    refine wp_pushR _ _ 29 rfl 4 _ 1 1 undBls infBl rfl (by decide) true (fun _=>rfl) (by simp [Value.oneCell']) (.slice none 0 0) ([]:List Bool) (by exact e11) hon W6.heap.size (by exact e37) (by decide) (by decide) hb.size hbx ?_
    intro g7 c7 w7 hR7
    have hv7:w7.cell? ⟨g7,0,none⟩=some (.bool true):=by
     have:=Own.cellAt' (enc:=eBool) (fun _=>rfl) hR7.own 0 0 (by simp) (by simp)
     simpa using this
    exact hK _ _ (pJ_app hz hV h40 hb hbl om (by decide) (hR7.below hon hb.size) ⟨g7,c7,rfl,(hR7.own.lt g7 rfl).1,hv7⟩ rfl)
   ·obtain rfl:=Option.some.inj (show some _=some o from ho)
    have e3:y 3=.slice (some ⟨W.heap.size+1,0,none⟩) 1 1:=hV 3 om om (hdeps ⟨3,.data⟩ (by simp) rfl)
    have e4:y 4=.int .i64 0:=hV 4 om om (hdeps ⟨4,.data⟩ (by simp) rfl)
    refine wpOp_step rfl (fun K hK=>?_)
    rw [if_pos (by rfl)]
    go_simp
    refine hK _ _ (pJ_quiet hz hV h40 hb h1 h2 h3 om om om ?_)
    first|rfl|simp [upY,e3,e4]
   ·obtain rfl:=Option.some.inj (show some _=some o from ho)
    have hall:∀ j,j<40->l.getD j false=true:=by
     intro j hj
     by_cases h39:j=39
     ·subst h39;exact hdeps ⟨39,.data⟩ (by simp) rfl
     ·rcases (show j=0\/j=1\/j=2\/j=3\/j=4\/j=5\/j=6\/j=7\/j=8\/j=9\/j=10\/j=11\/j=12\/j=13\/j=14\/j=15\/j=16\/j=17\/j=18\/j=19\/j=20\/j=21\/j=22\/j=23\/j=24\/j=25\/j=26\/j=27\/j=28\/j=29\/j=30\/j=31\/j=32\/j=33\/j=34\/j=35\/j=36\/j=37\/j=38 by omega) with rfl|rfl|rfl|rfl|rfl|rfl|rfl|rfl|rfl|rfl|rfl|rfl|rfl|rfl|rfl|rfl|rfl|rfl|rfl|rfl|rfl|rfl|rfl|rfl|rfl|rfl|rfl|rfl|rfl|rfl|rfl|rfl|rfl|rfl|rfl|rfl|rfl|rfl|rfl
      all_goals exact hdeps ⟨_,.phase⟩ (by simp) rfl
    have e39:y 39=.pointer (some ⟨W.heap.size+1,0,none⟩):=hV 39 om om (hall 39 om)
    have hu:=h3 (hall 38 om)
    have hu2:=hu
    obtain ⟨g7,c7,e38,hg7,hc7⟩:=hu2
    have HVV:=qh hV
    have HAL:=qh hall
    clear hV hall
    refine wpOp_step rfl (fun K hK=>?_)
    rw [if_pos (by rfl)]
    go_simp
    rw [<-e38]
    refine hK _ _ (pJ_store hz HVV.out hb hu HAL.out ?_)
    first|rfl|simp [e38,e39]
end Go.Proofs.YtoiakijmbghhlaaGreat
