/- recorder: put, frame, the frames of no bytes; archive.Sum. Only lengths are told. Conditions: the arguments read as data. -/
import Derived.Lib.AppendStr
import Derived.Test.YtoiakijmbghhlaaGreatS43
import Derived.Test.YtoiakijmbghhlaaGreatS12
import Derived.Test.YtoiakijmbghhlaaGreatS46
import Derived.Test.YtoiakijmbghhlaaGreatS18
set_option linter.unusedVariables false
set_option linter.unusedSimpArgs false
set_option maxRecDepth 100000
set_option maxHeartbeats 32000000
namespace Go.Proofs.YtoiakijmbghhlaaGreat
open Go.RowKit
theorem infByH:(Tryz.prog.info? 5).map (fun i=>(i.zero,i.size,i.bytes))=some (some (.int .u8 0),1,1):=by kernel_rfl
theorem rcput_any (xs:List Int) (v:Value) (n:Int) (sz:Nat) (base:Nat) (w:World) (hv:Own base 5 eBy 1 w v xs) (hx:xs.length<=1000) (hs:sz<=4) (hb:base<=w.heap.size) :
  Calls Tryz.prog 211 #[v,.int .i64 n,.int .i64 sz] w fun e w'=>(∃ u ys,e=.returned u/\Own base 5 eBy 1 w' u ys/\ys.length=xs.length+sz)/\Below base w w':=by
 have HV:=qh hv
 have HX:=qh hx
 have HS:=qh hs
 have x0:IntKind.i64.wrap ((sz:Int)-1)=sz-1:=IntWalk.i64_in _ om
 clear hv hx hs
 go_enter Tryz.func211,Tryz.ntmps211
 go_wp2_with fail
 go_loopw [0,7] (fun s0 s7 wr=>∃ (k:Nat) (j:Int) (ys:List Int),s7=.int .i64 j/\Hid (k<=sz/\j=(k:Int)-1/\ys.length+k=xs.length+sz)/\Hid (Own base 5 eBy 1 wr s0 ys)/\Below base w wr/\base<=wr.heap.size) (fun _ s7 _=>(RowKit.intOf s7+1).toNat)
 case atStart=>exact ⟨sz,_,xs,rfl,qh ⟨Nat.le_refl _,rfl,rfl⟩,HV,qr,hb⟩
 case round=>
  obtain ⟨k,j,ys,rfl,HK,HO,hbw,hbs⟩:=hrel
  obtain ⟨wo,hwo⟩:∃ wo,wo=wr:=⟨_,rfl⟩
  subst hwo
  obtain ⟨a0,c0,e0⟩:=HO.out.isSlice
  subst e0
  by_cases hj:0<=j
  ·have i1:decide (0<=j)=true:=decide_eq_true hj
   have hj4:j<4:=by have:=HK.out;have:=HS.out;omega
   have x7:IntKind.i64.wrap (j-1)=j-1:=IntWalk.i64_in _ om
   have x8:IntKind.i64.wrap (8*j)=8*j:=IntWalk.i64_in _ om
   have i2:decide (8*j<0)=false:=decide_eq_false om
   have hl:ys.length<2147483648:=by have:=HK.out;have:=HX.out;have:=HS.out;omega
   have hO:=HO.out
   go_wp2_with (at_builtin;go_must (refine wpList_pushR rfl _ _ 69 rfl 5 _ 1 1 undByt infByH rfl (by decide) _ (fun _=>rfl) (by simp [Value.oneCell']) (.slice a0 ys.length c0) ys rfl hO wo.heap.size rfl rfl hl (by decide) hbs _ rfl ?_);intro g8 k8 w8 hR8)
   have hb8:=hbw.trans (hR8.below hO hbs)
   have hs8:base<=w8.heap.size:=Nat.le_trans hbs (hR8.below hO hbs).size
   have HO8:=qh hR8.own
   clear hR8 hO hl
   go_wp2_with fail
   go_roundw
   case measure=>simp [RowKit.intOf,x7];omega
   case rel=>exact ⟨k-1,_,_,rfl,qh (by have:=HK.out;simp only [List.length_append,List.length_cons,List.length_nil];omega),HO8,hb8,hs8⟩
  ·have i1:decide (0<=j)=false:=decide_eq_false hj
   go_wp2_with fail
   go_ret
   exact ⟨⟨_,rfl,ys,HO.out,by have:=HK.out;omega⟩,hbw⟩
theorem arsum0_any (ys:List Int) (v:Value) (w:World) (hv:IsBys w v ys):Calls Tryz.prog 220 #[v] w fun e w'=>(∃ x,e=.returned (.int .u32 x))/\Below w.heap.size w w':=by
 obtain ⟨a,cap,rfl,hcap,hbig,hs⟩:=hv
 go_enter Tryz.func220,Tryz.ntmps220
 go_wp2_with fail
 go_loopw [3,8] (fun s3 s8 wr=>∃ (k:Nat) (x:Int),k<=ys.length/\s8=.int .i64 k/\s3=.int .u32 x/\Below w.heap.size w wr) (fun _ i _=>ys.length-(RowKit.intOf i).toNat)
 case atStart=>exact ⟨0,7,Nat.zero_le _,rfl,rfl,qr⟩
 case round=>
  obtain ⟨k,x,hk,rfl,rfl,hb⟩:=hrel
  by_cases hlt:k<ys.length
  ·obtain ⟨b,off,rfl,c0⟩:=(hs.mono hb).by k hlt
   clear hs
   generalize ys[k]=y at *
   go_wp2_with fail
   go_roundw
   case rel=>exact ⟨k+1,_,by omega,by go_num,rfl,hb⟩
   case measure=>simp [RowKit.intOf];omega
  ·go_wp2_with fail
   go_ret
   exact ⟨⟨_,rfl⟩,hb⟩
theorem arsum_any (ys:List Int) (v:Value) (w:World) (hv:IsBys w v ys) (hl:ys.length<=1000):Calls Tryz.prog 259 #[v] w fun e w'=>(∃ x,e=.returned (.tuple #[.int .i64 x,.int .i64 0]))/\Below w.heap.size w w':=by
 have hs:=arsum0_any ys v w hv
 obtain ⟨a,cap,rfl,hcap,hbig,-⟩:=hv
 have i1:decide ((1048576:Int)<ys.length)=false:=decide_eq_false om
 have i2:decide (1048576<ys.length)=false:=decide_eq_false om
 clear hl
 go_enter Tryz.func259,Tryz.ntmps259
 go_wp2_with fail
 refine Calls.to hs ?_
 rintro e w1 ⟨x,rfl⟩ hb
 go_wp2_with fail
 go_ret2
 exact ⟨⟨_,rfl⟩,hb⟩
theorem rcsum_any (ys:List Int) (v:Value) (w:World) (hv:IsBys w v ys) (hl:ys.length<=1000):Calls Tryz.prog 213 #[v] w fun e w'=>(∃ x,e=.returned (.int .i64 x))/\Below w.heap.size w w':=by
 go_enter Tryz.func213,Tryz.ntmps213
 go_wp2_with fail
 refine Calls.to (arsum_any ys v w hv hl) ?_
 rintro e w1 ⟨x,rfl⟩ hb
 go_wp2_with fail
 go_ret
 exact ⟨⟨_,rfl⟩,hb⟩
theorem rcframe_any (xs:List Int) (v:Value) (w:World) (hv:IsBys w v xs) (hl:xs.length<=100):Calls Tryz.prog 146 #[v] w fun e w'=>(∃ u ys,e=.returned u/\Own w.heap.size 5 eBy 1 w' u ys/\ys.length=xs.length+8)/\Below w.heap.size w w':=by
 obtain ⟨a,cap,rfl,hcap,hbig,hs⟩:=hv
 have HL:=qh hl
 clear hl
 go_enter Tryz.func146,Tryz.ntmps146
 go_wp2_with fail
 refine Calls.to (rcput_any [] _ _ 4 w.heap.size w (World.ownsRow_nil _ _ _ _) (by simp) om (Nat.le_refl _)) ?_
 rintro e w1 ⟨u,ys,rfl,hO,hys⟩ hb1
 obtain ⟨a1,c1,e1⟩:=hO.isSlice
 subst e1
 have HYS:Hid (ys.length=4):=qh (by simpa using hys)
 have hyl:ys.length<1073741824:=by have:=HYS.out;omega
 have hxl:xs.length<1073741824:=by have:=HL.out;omega
 have hsz:=hb1.size
 have hs1:=hs.mono hb1
 clear hys hs
 go_wp2_with (at_builtin;go_must (refine wpList_appR rfl _ _ 69 rfl 5 _ 1 1 undByt infByH rfl (by decide) (fun _=>rfl) (by simp [Value.oneCell']) (.slice a1 ys.length c1) ys xs rfl hO a cap rfl hs1 hyl hxl (by decide) hsz ?_);intro v2 w2 hR2)
 obtain ⟨ZS,hZS⟩:∃ Z,Z=ys ++ xs:=⟨_,rfl⟩
 have hO2:Own w.heap.size 5 eBy 1 w2 v2 ZS:=by rw [hZS];exact hR2.own
 have HZS:Hid (ZS.length=xs.length+4):=qh (by rw [hZS,List.length_append,HYS.out];omega)
 have hb2:=hb1.trans (hR2.below hO hsz)
 obtain ⟨a2,c2,e2⟩:=hO2.isSlice
 subst e2
 clear hR2 hO hZS hyl hxl hs1 hsz hb1
 have his:IsBys w2 (.slice a2 ZS.length c2) ZS:=hO2.isL (fun _=>rfl)
 go_wp2_with fail
 refine Calls.to (rcsum_any ZS _ w2 his (by have:=HZS.out;have:=HL.out;omega)) ?_
 rintro e w3 ⟨x,rfl⟩ hb3
 go_wp2_with fail
 refine (rcput_any ZS _ x 4 w.heap.size w3 (hO2.below hb3) (by have:=HZS.out;have:=HL.out;omega) om (Nat.le_trans hb2.size hb3.size)).mono ?_
 rintro e w4 ⟨⟨u4,zs,rfl,hO4,hz4⟩,hb4⟩
 go_wp2_with fail
 go_ret
 exact ⟨⟨_,zs,rfl,hO4,by have:=HZS.out;omega⟩,(hb2.trans (hb3.mono hb2.size)).trans hb4⟩
theorem rctake0 (B:Nat) (T:TypeId) (w:World) (hB:w.heap[B]? = some (.cells #[.slice none 0 0,.bool false] T (0,0))) :
  Calls Tryz.prog 258 #[.pointer (some ⟨B,0,none⟩),.int .i64 4] w fun e w'=>e=.returned (.slice none 0 0)/\w'.heap[B]? = some (.cells #[.slice none 0 0,.bool true] T (0,0))/\Below B w w':=by
 have c0:w.cell? ⟨B,0,none⟩=some (.slice none 0 0):=tank_blk hB 0
 have c1:w.cell? ⟨B,1,none⟩=some (.bool false):=tank_blk hB 1
 have f1:w.frozen? ⟨B,1,none⟩=false:=tank_free hB 1
 have hw:(w.setCell ⟨B,1,none⟩ (.bool true)).heap[B]? = some (.cells #[.slice none 0 0,.bool true] T (0,0)):=by
  simp [World.setCell,Array.getElem?_modify,hB]
 have d1:(w.setCell ⟨B,1,none⟩ (.bool true)).cell? ⟨B,1,none⟩=some (.bool true):=tank_blk hw 1
 have hbl:Below B w (w.setCell ⟨B,1,none⟩ (.bool true)):=qr.setCell (p:=⟨B,1,none⟩) (Nat.le_refl _) _
 obtain ⟨W,hW⟩:∃ W,W=w.setCell ⟨B,1,none⟩ (.bool true):=⟨_,rfl⟩
 rw [<-hW] at hw d1 hbl
 have HW:=qh hW
 clear hW
 go_enter Tryz.func258,Tryz.ntmps258
 go_upto_region 2 with (fail)
 rw [<-HW.out]
 clear c0 c1 f1 HW
 go_wp2_with fail
 go_ret
 exact ⟨rfl,hw,hbl⟩
theorem rcnum0 (B:Nat) (T:TypeId) (w:World) (hB:w.heap[B]? = some (.cells #[.slice none 0 0,.bool false] T (0,0))) :
  Calls Tryz.prog 257 #[.pointer (some ⟨B,0,none⟩),.int .i64 4] w fun e w'=>e=.returned (.int .i64 0)/\w'.heap[B]? = some (.cells #[.slice none 0 0,.bool true] T (0,0))/\Below B w w':=by
 go_enter Tryz.func257,Tryz.ntmps257
 go_wp2_with fail
 refine (rctake0 B T w hB).mono ?_
 rintro e w1 ⟨rfl,h1,hb⟩
 go_wp2_with fail
 refine wp_loop_rounds 1 ?_
 rw [rounds_succ]
 go_wp2_with fail
 go_ret
 exact ⟨rfl,h1,hb⟩
theorem rcframes0 (w:World):Calls Tryz.prog 212 #[.slice none 0 0] w fun e w'=>e=.returned (.tuple #[.slice none 0 0,.slice none 0 0])/\Below w.heap.size w w':=by
 obtain ⟨W,hW⟩:∃ W,W=w.alloc (.cells #[.slice none 0 0,.bool false] 335):=⟨_,rfl⟩
 have hB:W.heap[w.heap.size]? = some (.cells #[.slice none 0 0,.bool false] 335 (0,0)):=by rw [hW];exact heap_alloc_new w _
 have hb0:Below w.heap.size w W:=by rw [hW];exact alloc_below _ _
 have c0:W.cell? ⟨w.heap.size,0,none⟩=some (.slice none 0 0):=tank_blk hB 0
 have HW:=qh hW
 clear hW
 go_enter Tryz.func212,Tryz.ntmps212
 go_upto_region 2 with (fail)
 rw [<-HW.out]
 clear HW
 refine wp_loop_rounds 1 ?_
 rw [rounds_succ]
 go_wp2_with fail
 refine (rcnum0 w.heap.size _ W hB).mono ?_
 rintro e w1 ⟨rfl,h1,hb⟩
 have d1:w1.cell? ⟨w.heap.size,1,none⟩=some (.bool true):=tank_blk h1 1
 clear c0 hB h1
 go_wp2_with fail
 go_ret2
 exact ⟨rfl,hb0.trans hb⟩
theorem rcwhole0 (w:World):Calls Tryz.prog 148 #[.slice none 0 0] w fun e w'=>e=.returned (.int .i64 0)/\Below w.heap.size w w':=by
 go_enter Tryz.func148,Tryz.ntmps148
 go_wp2_with fail
 refine Calls.to (rcframes0 w) ?_
 rintro e w1 rfl hb
 go_wp2_with fail
 go_ret
 exact ⟨rfl,hb⟩
theorem rcvalidd0 (w:World):Calls Tryz.prog 145 #[.agg #[.slice none 0 0,.int .i64 0,.int .i64 (-1)]] w fun e w'=>e=.returned (.bool true)/\Below w.heap.size w w':=by
 obtain ⟨W,hW⟩:∃ W,W=w.alloc (.cells #[.slice none 0 0,.int .i64 0,.int .i64 (-1)] 160):=⟨_,rfl⟩
 have hB:W.heap[w.heap.size]? = some (.cells #[.slice none 0 0,.int .i64 0,.int .i64 (-1)] 160 (0,0)):=by rw [hW];exact heap_alloc_new w _
 have hb0:Below w.heap.size w W:=by rw [hW];exact alloc_below _ _
 have c0:W.cell? ⟨w.heap.size,0,none⟩=some (.slice none 0 0):=tank_blk hB 0
 have c1:W.cell? ⟨w.heap.size,1,none⟩=some (.int .i64 0):=tank_blk hB 1
 have c2:W.cell? ⟨w.heap.size,2,none⟩=some (.int .i64 (-1)):=tank_blk hB 2
 have HW:=qh hW
 clear hW hB
 go_enter Tryz.func145,Tryz.ntmps145
 go_upto_region 1 with (fail)
 rw [<-HW.out]
 clear HW
 go_wp2_with fail
 refine Calls.to (rcframes0 W) ?_
 rintro e w1 rfl hb
 replace c0:=cel_lt c0 hb
 replace c1:=cel_lt c1 hb
 replace c2:=cel_lt c2 hb
 go_wp2_with fail
 go_ret
 exact ⟨rfl,hb0.trans (hb.mono hb0.size)⟩
theorem byclone0 (w:World):Calls Tryz.prog 214 #[.slice none 0 0] w fun e w'=>e=.returned (.slice none 0 0)/\w'=w:=by
 have hq:∀ w,(binOp .eql 69 (.slice none 0 0) (.slice none 0 0)).run Tryz.prog w=.ok (.bool true) w:=fun w=>by kernel_rfl
 go_enter Tryz.func214,Tryz.ntmps214
 go_wp2_with fail
 go_ret
 exact ⟨rfl,rfl⟩
theorem rccopied0 (w:World):Calls Tryz.prog 147 #[.agg #[.slice none 0 0,.int .i64 0,.int .i64 (-1)]] w fun e w'=>e=.returned (.agg #[.slice none 0 0,.int .i64 0,.int .i64 (-1)])/\Below w.heap.size w w':=by
 go_enter Tryz.func147,Tryz.ntmps147
 go_wp2_with fail
 refine (byclone0 _).mono ?_
 rintro e w1 ⟨rfl,h1⟩
 subst h1
 go_wp2_with fail
 exact bodyPost_ret (v:=.agg #[.slice none 0 0,.int .i64 0,.int .i64 (-1)]) (by simp (maxDischargeDepth:=9) [results,Tryz.results147,go_sem]) rfl ⟨rfl,bl⟩
theorem rcplain0 (w:World):Calls Tryz.prog 253 #[.agg #[.int .i64 4,.int .i64 0,.slice none 0 0,.string ⟨#[]⟩,.int .i64 0,.string ⟨#[]⟩,.int .i64 0,.int .i64 0,.int .i64 0,.int .i64 0,.string ⟨#[120]⟩]] w fun e w'=>e=.returned (.agg #[.int .i64 4,.int .i64 0,.slice none 0 0,.string ⟨#[]⟩,.int .i64 0,.string ⟨#[]⟩,.int .i64 0,.int .i64 0,.int .i64 0,.int .i64 0,.string ⟨#[120]⟩])/\Below w.heap.size w w':=by
 go_enter Tryz.func253,Tryz.ntmps253
 go_wp2_with fail
 exact bodyPost_ret (v:=.agg #[.int .i64 4,.int .i64 0,.slice none 0 0,.string ⟨#[]⟩,.int .i64 0,.string ⟨#[]⟩,.int .i64 0,.int .i64 0,.int .i64 0,.int .i64 0,.string ⟨#[120]⟩]) (by simp (maxDischargeDepth:=9) [results,Tryz.results253,go_sem]) rfl ⟨rfl,bl⟩
theorem heqi0 (w:World):Calls Tryz.prog 41 #[.slice none 0 0,.slice none 0 0] w fun e w'=>e=.returned (.bool true)/\Below w.heap.size w w':=by
 go_enter Tryz.func41,Tryz.ntmps41
 go_wp2_with fail
 refine wp_loop_rounds 1 ?_
 rw [rounds_succ]
 go_wp2_with fail
 go_ret
 exact ⟨rfl,bl⟩
theorem eqMsg (w:World):(binOp .eql 164 (.agg #[.string ⟨#[]⟩,.int .i64 0,.int .i64 0,.int .i64 0,.int .i64 0]) (.agg #[.string ⟨#[]⟩,.int .i64 0,.int .i64 0,.int .i64 0,.int .i64 0])).run Tryz.prog w=.ok (.bool true) w:=by
 kernel_rfl
theorem rcequal0 (w:World):Calls Tryz.prog 252 #[.agg #[.int .i64 4,.int .i64 0,.slice none 0 0,.string ⟨#[]⟩,.int .i64 0,.string ⟨#[]⟩,.int .i64 0,.int .i64 0,.int .i64 0,.int .i64 0,.string ⟨#[120]⟩],.agg #[.int .i64 4,.int .i64 0,.slice none 0 0,.string ⟨#[]⟩,.int .i64 0,.string ⟨#[]⟩,.int .i64 0,.int .i64 0,.int .i64 0,.int .i64 0,.string ⟨#[120]⟩]] w fun e w'=>e=.returned (.bool true)/\Below w.heap.size w w':=by
 have hm:=eqMsg
 obtain ⟨L,hL⟩:∃ L:List (Array Value×TypeId),L = [(#[.int .i64 4,.int .i64 0,.slice none 0 0,.string ⟨#[]⟩,.int .i64 0,.string ⟨#[]⟩,.int .i64 0,.int .i64 0,.int .i64 0,.int .i64 0,.string ⟨#[120]⟩],166),(#[.int .i64 4,.int .i64 0,.slice none 0 0,.string ⟨#[]⟩,.int .i64 0,.string ⟨#[]⟩,.int .i64 0,.int .i64 0,.int .i64 0,.int .i64 0,.string ⟨#[120]⟩],166)]:=⟨_,rfl⟩
 obtain ⟨W,hW⟩:∃ W,W=allocs w L:=⟨_,rfl⟩
 have hbw:Below w.heap.size w W:=by rw [hW];exact allocs_below _ _
 have t0:W.heap[w.heap.size]? = some (.cells #[.int .i64 4,.int .i64 0,.slice none 0 0,.string ⟨#[]⟩,.int .i64 0,.string ⟨#[]⟩,.int .i64 0,.int .i64 0,.int .i64 0,.int .i64 0,.string ⟨#[120]⟩] 166 (0,0)):=by rw [hW,hL];exact allocs_at _ w 0 (by simp)
 have t1:W.heap[w.heap.size+1]? = some (.cells #[.int .i64 4,.int .i64 0,.slice none 0 0,.string ⟨#[]⟩,.int .i64 0,.string ⟨#[]⟩,.int .i64 0,.int .i64 0,.int .i64 0,.int .i64 0,.string ⟨#[120]⟩] 166 (0,0)):=by rw [hW,hL];exact allocs_at _ w 1 (by simp)
 have HW:Hid (W=((w.alloc (.cells #[.int .i64 4,.int .i64 0,.slice none 0 0,.string ⟨#[]⟩,.int .i64 0,.string ⟨#[]⟩,.int .i64 0,.int .i64 0,.int .i64 0,.int .i64 0,.string ⟨#[120]⟩] 166)).alloc (.cells #[.int .i64 4,.int .i64 0,.slice none 0 0,.string ⟨#[]⟩,.int .i64 0,.string ⟨#[]⟩,.int .i64 0,.int .i64 0,.int .i64 0,.int .i64 0,.string ⟨#[120]⟩] 166))):=qh (by rw [hW,hL];rfl)
 clear hW hL
 have a0:(W).cell? ⟨w.heap.size,0,none⟩=some (.int .i64 4):=tank_blk t0 0
 have a1:(W).cell? ⟨w.heap.size,1,none⟩=some (.int .i64 0):=tank_blk t0 1
 have a2:(W).cell? ⟨w.heap.size,2,none⟩=some (.slice none 0 0):=tank_blk t0 2
 have a3:(W).cell? ⟨w.heap.size,3,none⟩=some (.string ⟨#[]⟩):=tank_blk t0 3
 have a4:(W).cell? ⟨w.heap.size,4,none⟩=some (.int .i64 0):=tank_blk t0 4
 have a5:(W).cell? ⟨w.heap.size,5,none⟩=some (.string ⟨#[]⟩):=tank_blk t0 5
 have a6:(W).cell? ⟨w.heap.size,6,none⟩=some (.int .i64 0):=tank_blk t0 6
 have a7:(W).cell? ⟨w.heap.size,7,none⟩=some (.int .i64 0):=tank_blk t0 7
 have a8:(W).cell? ⟨w.heap.size,8,none⟩=some (.int .i64 0):=tank_blk t0 8
 have a9:(W).cell? ⟨w.heap.size,9,none⟩=some (.int .i64 0):=tank_blk t0 9
 have a10:(W).cell? ⟨w.heap.size,10,none⟩=some (.string ⟨#[120]⟩):=tank_blk t0 10
 have b0:(W).cell? ⟨(w.heap.size+1),0,none⟩=some (.int .i64 4):=tank_blk t1 0
 have b1:(W).cell? ⟨(w.heap.size+1),1,none⟩=some (.int .i64 0):=tank_blk t1 1
 have b2:(W).cell? ⟨(w.heap.size+1),2,none⟩=some (.slice none 0 0):=tank_blk t1 2
 have b3:(W).cell? ⟨(w.heap.size+1),3,none⟩=some (.string ⟨#[]⟩):=tank_blk t1 3
 have b4:(W).cell? ⟨(w.heap.size+1),4,none⟩=some (.int .i64 0):=tank_blk t1 4
 have b5:(W).cell? ⟨(w.heap.size+1),5,none⟩=some (.string ⟨#[]⟩):=tank_blk t1 5
 have b6:(W).cell? ⟨(w.heap.size+1),6,none⟩=some (.int .i64 0):=tank_blk t1 6
 have b7:(W).cell? ⟨(w.heap.size+1),7,none⟩=some (.int .i64 0):=tank_blk t1 7
 have b8:(W).cell? ⟨(w.heap.size+1),8,none⟩=some (.int .i64 0):=tank_blk t1 8
 have b9:(W).cell? ⟨(w.heap.size+1),9,none⟩=some (.int .i64 0):=tank_blk t1 9
 have b10:(W).cell? ⟨(w.heap.size+1),10,none⟩=some (.string ⟨#[120]⟩):=tank_blk t1 10
 go_enter Tryz.func252,Tryz.ntmps252
 go_upto_region 1 with (fail)
 try simp only [Nat.add_assoc,Nat.reduceAdd]
 rw [<-HW.out]
 clear HW
 go_wp2_with fail
 refine Calls.to (heqi0 _) ?_
 rintro e w1 rfl hb1
 have u0:=(hb1.block w.heap.size (Array.getElem?_eq_some_iff.1 t0).1).trans t0
 have u1:=(hb1.block (w.heap.size+1) (Array.getElem?_eq_some_iff.1 t1).1).trans t1
 clear a0 a1 a2 a3 a4 a5 a6 a7 a8 a9 a10 b0 b1 b2 b3 b4 b5 b6 b7 b8 b9 b10
 have a0:(w1).cell? ⟨w.heap.size,0,none⟩=some (.int .i64 4):=tank_blk u0 0
 have a1:(w1).cell? ⟨w.heap.size,1,none⟩=some (.int .i64 0):=tank_blk u0 1
 have a2:(w1).cell? ⟨w.heap.size,2,none⟩=some (.slice none 0 0):=tank_blk u0 2
 have a3:(w1).cell? ⟨w.heap.size,3,none⟩=some (.string ⟨#[]⟩):=tank_blk u0 3
 have a4:(w1).cell? ⟨w.heap.size,4,none⟩=some (.int .i64 0):=tank_blk u0 4
 have a5:(w1).cell? ⟨w.heap.size,5,none⟩=some (.string ⟨#[]⟩):=tank_blk u0 5
 have a6:(w1).cell? ⟨w.heap.size,6,none⟩=some (.int .i64 0):=tank_blk u0 6
 have a7:(w1).cell? ⟨w.heap.size,7,none⟩=some (.int .i64 0):=tank_blk u0 7
 have a8:(w1).cell? ⟨w.heap.size,8,none⟩=some (.int .i64 0):=tank_blk u0 8
 have a9:(w1).cell? ⟨w.heap.size,9,none⟩=some (.int .i64 0):=tank_blk u0 9
 have a10:(w1).cell? ⟨w.heap.size,10,none⟩=some (.string ⟨#[120]⟩):=tank_blk u0 10
 have b0:(w1).cell? ⟨(w.heap.size+1),0,none⟩=some (.int .i64 4):=tank_blk u1 0
 have b1:(w1).cell? ⟨(w.heap.size+1),1,none⟩=some (.int .i64 0):=tank_blk u1 1
 have b2:(w1).cell? ⟨(w.heap.size+1),2,none⟩=some (.slice none 0 0):=tank_blk u1 2
 have b3:(w1).cell? ⟨(w.heap.size+1),3,none⟩=some (.string ⟨#[]⟩):=tank_blk u1 3
 have b4:(w1).cell? ⟨(w.heap.size+1),4,none⟩=some (.int .i64 0):=tank_blk u1 4
 have b5:(w1).cell? ⟨(w.heap.size+1),5,none⟩=some (.string ⟨#[]⟩):=tank_blk u1 5
 have b6:(w1).cell? ⟨(w.heap.size+1),6,none⟩=some (.int .i64 0):=tank_blk u1 6
 have b7:(w1).cell? ⟨(w.heap.size+1),7,none⟩=some (.int .i64 0):=tank_blk u1 7
 have b8:(w1).cell? ⟨(w.heap.size+1),8,none⟩=some (.int .i64 0):=tank_blk u1 8
 have b9:(w1).cell? ⟨(w.heap.size+1),9,none⟩=some (.int .i64 0):=tank_blk u1 9
 have b10:(w1).cell? ⟨(w.heap.size+1),10,none⟩=some (.string ⟨#[120]⟩):=tank_blk u1 10
 go_wp2_with fail
 go_ret
 exact ⟨rfl,hbw.trans (hb1.mono hbw.size)⟩
theorem ent256:∀ args w,(callFunc 256 args).run Tryz.prog w=.ok (.enter 256 args) w:=by
 intro args w
 simp [go_sem]
theorem rcvalid2_x (w:World):Calls Tryz.prog 256 #[.int .u8 120] w fun e w'=>e=.returned (.bool false)/\Below w.heap.size w w':=by
 go_enter Tryz.func256,Tryz.ntmps256
 go_wp2_with fail
 go_ret
 exact ⟨rfl,qr⟩
theorem rcvalid0 (w:World):Calls Tryz.prog 210 #[.agg #[.int .i64 4,.int .i64 0,.slice none 0 0,.string ⟨#[]⟩,.int .i64 0,.string ⟨#[]⟩,.int .i64 0,.int .i64 0,.int .i64 0,.int .i64 0,.string ⟨#[120]⟩]] w fun e w'=>e=.returned (.bool true)/\Below w.heap.size w w':=by
 obtain ⟨W,hW⟩:∃ W,W=w.alloc (.cells #[.int .i64 4,.int .i64 0,.slice none 0 0,.string ⟨#[]⟩,.int .i64 0,.string ⟨#[]⟩,.int .i64 0,.int .i64 0,.int .i64 0,.int .i64 0,.string ⟨#[120]⟩] 166):=⟨_,rfl⟩
 have hbw:Below w.heap.size w W:=by rw [hW];exact alloc_below _ _
 have t0:W.heap[w.heap.size]? = some (.cells #[.int .i64 4,.int .i64 0,.slice none 0 0,.string ⟨#[]⟩,.int .i64 0,.string ⟨#[]⟩,.int .i64 0,.int .i64 0,.int .i64 0,.int .i64 0,.string ⟨#[120]⟩] 166 (0,0)):=by rw [hW];exact heap_alloc_new _ _
 have HW:=qh hW
 have T0:=qh t0
 clear hW
 have a0:(W).cell? ⟨w.heap.size,0,none⟩=some (.int .i64 4):=tank_blk t0 0
 have a1:(W).cell? ⟨w.heap.size,1,none⟩=some (.int .i64 0):=tank_blk t0 1
 have a2:(W).cell? ⟨w.heap.size,2,none⟩=some (.slice none 0 0):=tank_blk t0 2
 have a3:(W).cell? ⟨w.heap.size,3,none⟩=some (.string ⟨#[]⟩):=tank_blk t0 3
 have a4:(W).cell? ⟨w.heap.size,4,none⟩=some (.int .i64 0):=tank_blk t0 4
 have a5:(W).cell? ⟨w.heap.size,5,none⟩=some (.string ⟨#[]⟩):=tank_blk t0 5
 have a6:(W).cell? ⟨w.heap.size,6,none⟩=some (.int .i64 0):=tank_blk t0 6
 have a7:(W).cell? ⟨w.heap.size,7,none⟩=some (.int .i64 0):=tank_blk t0 7
 have a8:(W).cell? ⟨w.heap.size,8,none⟩=some (.int .i64 0):=tank_blk t0 8
 have a9:(W).cell? ⟨w.heap.size,9,none⟩=some (.int .i64 0):=tank_blk t0 9
 have a10:(W).cell? ⟨w.heap.size,10,none⟩=some (.string ⟨#[120]⟩):=tank_blk t0 10
 clear t0
 go_enter Tryz.func210,Tryz.ntmps210
 go_upto_region 1 with (fail)
 rw [<-HW.out]
 clear HW
 refine wp_region_more_lit (by kernel_rfl) (by kernel_rfl) ?_
 repeat (go_big_quiet_step (first|(go_at_call 253;with_reducible exact Calls.more_of (rcplain0 _))|(go_at_call 252;with_reducible exact Calls.more_of (rcequal0 _))))
 refine wpQuiet_nil ?_
 intro _ hwq
 obtain ⟨xq,hwq⟩:=hwq
 subst hwq
 have hbm:=below_more W xq
 have u0:=(hbm.block w.heap.size (Array.getElem?_eq_some_iff.1 T0.out).1).trans T0.out
 clear a0 a1 a2 a3 a4 a5 a6 a7 a8 a9 a10
 have a0:((more W xq)).cell? ⟨w.heap.size,0,none⟩=some (.int .i64 4):=tank_blk u0 0
 have a1:((more W xq)).cell? ⟨w.heap.size,1,none⟩=some (.int .i64 0):=tank_blk u0 1
 have a2:((more W xq)).cell? ⟨w.heap.size,2,none⟩=some (.slice none 0 0):=tank_blk u0 2
 have a3:((more W xq)).cell? ⟨w.heap.size,3,none⟩=some (.string ⟨#[]⟩):=tank_blk u0 3
 have a4:((more W xq)).cell? ⟨w.heap.size,4,none⟩=some (.int .i64 0):=tank_blk u0 4
 have a5:((more W xq)).cell? ⟨w.heap.size,5,none⟩=some (.string ⟨#[]⟩):=tank_blk u0 5
 have a6:((more W xq)).cell? ⟨w.heap.size,6,none⟩=some (.int .i64 0):=tank_blk u0 6
 have a7:((more W xq)).cell? ⟨w.heap.size,7,none⟩=some (.int .i64 0):=tank_blk u0 7
 have a8:((more W xq)).cell? ⟨w.heap.size,8,none⟩=some (.int .i64 0):=tank_blk u0 8
 have a9:((more W xq)).cell? ⟨w.heap.size,9,none⟩=some (.int .i64 0):=tank_blk u0 9
 have a10:((more W xq)).cell? ⟨w.heap.size,10,none⟩=some (.string ⟨#[120]⟩):=tank_blk u0 10
 have hbm2:=hbw.trans (hbm.mono hbw.size)
 obtain ⟨W1,hW1⟩:∃ W1,W1=more W xq:=⟨_,rfl⟩
 rw [<-hW1] at a0 a1 a2 a3 a4 a5 a6 a7 a8 a9 a10 hbm2 ⊢
 clear hW1 hbm u0
 obtain ⟨WB,cB,rB,hbB,hyB⟩:=bytesOf W1 ⟨#[120]⟩ (by decide)
 have hcb:=containsBy 256 #[] ent256 (fun _=>false) [120] _ WB hyB (fun V _ y hy=>by
  rw [List.mem_singleton] at hy
  subst hy
  exact rcvalid2_x V)
 go_wp2_with fail
 refine Calls.to hcb ?_
 rintro e w2 rfl hb2
 go_wp2_with fail
 go_ret
 exact ⟨rfl,(hbm2.trans (hbB.mono hbm2.size)).trans (hb2.mono (Nat.le_trans hbm2.size hbB.size))⟩
section
variable {P : Program} {o : Oper} {a : Act} {Q : Exit → Act → World → Prop}
theorem wp_app_str {K:Act->World->Prop} (sl x:Operand) (t u:TypeId) (ho:o.op=.call { callee:=.builtin .append,args:=#[sl,x],argTypes:=#[t,u] }) (v:Value) (s:ByteArray) (hs:a.eval sl=v) (hx:a.eval x=.string s)
  {w w':World} {v':Value} (hr:(Builtin.append_ #[t,u] o.type #[v,.string s]).run P w=.ok v' w') (h:K (a.put o.dst v') w'):o.wp P a w K Q:=by
 unfold Oper.wp execOp
 simp only [ho,resolve,invoke,builtin,Sem.run_bind,Sem.run_pure,Result.andThen_ok,List.map_toArray,List.map_cons,List.map_nil,hs,hx,hr]
 exact h
end
theorem rcenc0 (w:World):Calls Tryz.prog 144 #[.agg #[.int .i64 4,.int .i64 0,.slice none 0 0,.string ⟨#[]⟩,.int .i64 0,.string ⟨#[]⟩,.int .i64 0,.int .i64 0,.int .i64 0,.int .i64 0,.string ⟨#[120]⟩]] w fun e w'=>(∃ u ys,e=.returned (.tuple #[u,.int .i64 0])/\IsBys w' u ys/\ys.length=4)/\Below w.heap.size w w':=by
 obtain ⟨W,hW⟩:∃ W,W=w.alloc (.cells #[.int .i64 4,.int .i64 0,.slice none 0 0,.string ⟨#[]⟩,.int .i64 0,.string ⟨#[]⟩,.int .i64 0,.int .i64 0,.int .i64 0,.int .i64 0,.string ⟨#[120]⟩] 166):=⟨_,rfl⟩
 have hbw:Below w.heap.size w W:=by rw [hW];exact alloc_below _ _
 have t0:W.heap[w.heap.size]? = some (.cells #[.int .i64 4,.int .i64 0,.slice none 0 0,.string ⟨#[]⟩,.int .i64 0,.string ⟨#[]⟩,.int .i64 0,.int .i64 0,.int .i64 0,.int .i64 0,.string ⟨#[120]⟩] 166 (0,0)):=by rw [hW];exact heap_alloc_new _ _
 have HW:=qh hW
 have T0:=qh t0
 clear hW
 have a0:(W).cell? ⟨w.heap.size,0,none⟩=some (.int .i64 4):=tank_blk t0 0
 have a1:(W).cell? ⟨w.heap.size,1,none⟩=some (.int .i64 0):=tank_blk t0 1
 have a2:(W).cell? ⟨w.heap.size,2,none⟩=some (.slice none 0 0):=tank_blk t0 2
 have a3:(W).cell? ⟨w.heap.size,3,none⟩=some (.string ⟨#[]⟩):=tank_blk t0 3
 have a4:(W).cell? ⟨w.heap.size,4,none⟩=some (.int .i64 0):=tank_blk t0 4
 have a5:(W).cell? ⟨w.heap.size,5,none⟩=some (.string ⟨#[]⟩):=tank_blk t0 5
 have a6:(W).cell? ⟨w.heap.size,6,none⟩=some (.int .i64 0):=tank_blk t0 6
 have a7:(W).cell? ⟨w.heap.size,7,none⟩=some (.int .i64 0):=tank_blk t0 7
 have a8:(W).cell? ⟨w.heap.size,8,none⟩=some (.int .i64 0):=tank_blk t0 8
 have a9:(W).cell? ⟨w.heap.size,9,none⟩=some (.int .i64 0):=tank_blk t0 9
 have a10:(W).cell? ⟨w.heap.size,10,none⟩=some (.string ⟨#[120]⟩):=tank_blk t0 10
 clear t0
 go_enter Tryz.func144,Tryz.ntmps144
 go_upto_region 1 with (fail)
 rw [<-HW.out]
 clear HW
 go_wp2_with fail
 refine Calls.to (rcvalid0 _) ?_
 rintro e w1 rfl hb1
 have u0:=(hb1.block w.heap.size (Array.getElem?_eq_some_iff.1 T0.out).1).trans T0.out
 clear a0 a1 a2 a3 a4 a5 a6 a7 a8 a9 a10
 have a0:(w1).cell? ⟨w.heap.size,0,none⟩=some (.int .i64 4):=tank_blk u0 0
 have a1:(w1).cell? ⟨w.heap.size,1,none⟩=some (.int .i64 0):=tank_blk u0 1
 have a2:(w1).cell? ⟨w.heap.size,2,none⟩=some (.slice none 0 0):=tank_blk u0 2
 have a3:(w1).cell? ⟨w.heap.size,3,none⟩=some (.string ⟨#[]⟩):=tank_blk u0 3
 have a4:(w1).cell? ⟨w.heap.size,4,none⟩=some (.int .i64 0):=tank_blk u0 4
 have a5:(w1).cell? ⟨w.heap.size,5,none⟩=some (.string ⟨#[]⟩):=tank_blk u0 5
 have a6:(w1).cell? ⟨w.heap.size,6,none⟩=some (.int .i64 0):=tank_blk u0 6
 have a7:(w1).cell? ⟨w.heap.size,7,none⟩=some (.int .i64 0):=tank_blk u0 7
 have a8:(w1).cell? ⟨w.heap.size,8,none⟩=some (.int .i64 0):=tank_blk u0 8
 have a9:(w1).cell? ⟨w.heap.size,9,none⟩=some (.int .i64 0):=tank_blk u0 9
 have a10:(w1).cell? ⟨w.heap.size,10,none⟩=some (.string ⟨#[120]⟩):=tank_blk u0 10
 have hbw1:=hbw.trans (hb1.mono hbw.size)
 clear hb1
 go_upto_region 4 with (fail)
 go_upto_region 25 with (fail)
 refine wp_region_any rfl ?_
 obtain ⟨V,hV⟩:∃ V,V=(w1.alloc (.cells #[.int .u8 4] 5)).drew:=⟨_,rfl⟩
 change wpAny _ _ _ _ _ _ _ (w1.alloc (.cells #[.int .u8 4] 5)).drew
 rw [<-hV]
 have hb1V:Below w1.heap.size w1 V:=by rw [hV];exact (qr.alloc (Nat.le_refl _) _).drew
 have HVS:Hid (w1.heap.size<=V.heap.size):=qh hb1V.size
 have hlt:w.heap.size<w1.heap.size:=(Array.getElem?_eq_some_iff.1 u0).1
 have HLT:=qh hlt
 have hc:V.cell? ⟨w.heap.size,10,none⟩=some (.string ⟨#[120]⟩):=cel_lt a10 hb1V
 have HOV:Hid (Own w1.heap.size 5 eBy 1 V (.slice (some ⟨w1.heap.size,0,none⟩) 1 1) [4]):=qh (by
  rw [hV]
  exact (Own.fresh (fun _=>rfl) w1 w1.heap.size (Nat.le_refl _) 5 (4:Int) _ rfl).below (qr.drew))
 have HB1V:=qh (hbw1.trans (hb1V.mono hbw1.size))
 obtain ⟨IBY,IBYI,IBYZ⟩:∃ i,Tryz.prog.info? 5=some i/\(i.zero=some (.int .u8 0)/\i.size=1/\i.bytes=1):=by
  obtain ⟨i,hi,h0,h1,h2⟩:=info_parts infByH
  exact ⟨i,hi,h0,h1,h2⟩
 clear hV hb1V hlt a0 a1 a2 a3 a4 a5 a6 a7 a8 a9 a10 u0 hbw1
 refine wpAny_take (i:=0) (v:=?_) rfl (by kernel_rfl) (by kernel_rfl) (by kernel_rfl) (fun _ _ _ h=>h) (Or.inl ⟨by rfl,?_⟩) ?_
 case refine_2=>(intro w;go_simp;try (with_reducible rfl))
 refine wpAny_take (i:=1) (v:=?_) rfl (by kernel_rfl) (by kernel_rfl) (by kernel_rfl) (fun _ _ _ h=>h) (Or.inl ⟨by rfl,?_⟩) ?_
 case refine_2=>(intro w;go_simp;try (with_reducible rfl))
 refine wpAny_take (i:=5) (v:=?_) rfl (by kernel_rfl) (by kernel_rfl) (by kernel_rfl) (fun _ _ _ h=>h) (Or.inl ⟨by rfl,?_⟩) ?_
 case refine_2=>(intro w;go_simp;try (with_reducible rfl))
 refine wpAny_ready (rs:=[2,6]) (by kernel_rfl) (by simp) ?_
 refine AllReady.cons rfl (fun K hK=>?_) (AllReady.cons rfl (fun K hK=>?_) AllReady.nil)
 ·go_simp
  refine hK _ _ ?_
  clear hK K
  refine wpAny_take (i:=3) (v:=?_) rfl (by kernel_rfl) (by kernel_rfl) (by kernel_rfl) (fun _ _ _ h=>h) (Or.inl ⟨by rfl,?_⟩) ?_
  case refine_2=>(intro w;go_simp;try (with_reducible rfl))
  refine wpAny_ready (rs:=[4,6]) (by kernel_rfl) (by simp) ?_
  refine AllReady.cons rfl (fun K hK=>?_) (AllReady.cons rfl (fun K hK=>?_) AllReady.nil)
  ·go_simp
   go_at_call 211
   refine (rcput_any [4] _ 1 2 w1.heap.size V HOV.out (by simp) om HVS.out).mono ?_
   rintro e w3 ⟨⟨u3,ys,rfl,hO3,hy3⟩,hb3⟩
   obtain ⟨a3,c3,e3⟩:=hO3.isSlice
   subst e3
   have HY3:Hid (ys.length=3):=qh (by simpa using hy3)
   have hc3:w3.cell? ⟨w.heap.size,10,none⟩=some (.string ⟨#[120]⟩):=(hb3.cell (p:=⟨w.heap.size,10,none⟩) HLT.out).trans hc
   obtain ⟨v4,w4,r4,hO4,hg4,-⟩:=Go.Lib.run_append_own_string (P:=Tryz.prog) w3 w1.heap.size 69 9 69 5 IBY undByt undS IBYI IBYZ.1 IBYZ.2.1 IBYZ.2.2 (.slice a3 ys.length c3) ys.length (ys.flatMap eBy) hO3 ⟨#[120]⟩ (by rw [HY3.out];decide) (by rw [HY3.out];decide) (Nat.le_trans HVS.out hb3.size)
   have hb4:Below w1.heap.size w3 w4:=qr.grown hg4 (Nat.le_trans HVS.out hb3.size) (fun k hk=>(hO3.lt k hk).1)
   have hZ:Own w1.heap.size 5 eBy 1 w4 v4 (ys ++ [120]):=by
    have e1:(ys ++ [(120:By)]).length=ys.length+(⟨#[120]⟩:ByteArray).size:=by rw [List.length_append];rfl
    have e2:(ys ++ [(120:By)]).flatMap eBy=ys.flatMap eBy ++ Go.Lib.strCells ⟨#[120]⟩:=by rw [List.flatMap_append];rfl
    unfold Own
    rw [e1,e2]
    exact hO4
   dsimp only
   refine hK _ _ ?_
   clear hK K hy3 hO3 hO4 hg4
   refine wpAny_ready (rs:=[6]) (by kernel_rfl) (by simp) ?_
   refine AllReady.cons rfl (fun K hK=>?_) AllReady.nil
   go_simp
   refine hK _ _ ?_
   clear hK K
   refine wpAny_ready (rs:=[7]) (by kernel_rfl) (by simp) ?_
   refine AllReady.cons rfl (fun K hK=>?_) AllReady.nil
   first|rw [if_pos (by rfl)]|skip
   refine wp_app_str _ _ _ _ rfl _ _ rfl rfl r4 ?_
   refine hK _ _ ?_
   clear hK K r4
   refine wpAny_ready (rs:=[8]) (by kernel_rfl) (by simp) ?_
   refine AllReady.cons rfl (fun K hK=>?_) AllReady.nil
   go_simp
   refine hK _ _ ?_
   clear hK K
   refine wpAny_done (by kernel_rfl) ?_ _
   obtain ⟨a5,c5,e5⟩:=hZ.isSlice
   subst e5
   go_wp2_with fail
   go_ret2
   exact ⟨⟨_,_,rfl,hZ.isL (fun _=>rfl),by simp [HY3.out]⟩,HB1V.out.trans ((hb3.trans hb4).mono (Nat.le_of_lt HLT.out))⟩
  ·go_simp
   refine hK _ _ ?_
   clear hK K
   refine wpAny_ready (rs:=[4]) (by kernel_rfl) (by simp) ?_
   refine AllReady.cons rfl (fun K hK=>?_) AllReady.nil
   go_simp
   go_at_call 211
   refine (rcput_any [4] _ 1 2 w1.heap.size V HOV.out (by simp) om HVS.out).mono ?_
   rintro e w3 ⟨⟨u3,ys,rfl,hO3,hy3⟩,hb3⟩
   obtain ⟨a3,c3,e3⟩:=hO3.isSlice
   subst e3
   have HY3:Hid (ys.length=3):=qh (by simpa using hy3)
   have hc3:w3.cell? ⟨w.heap.size,10,none⟩=some (.string ⟨#[120]⟩):=(hb3.cell (p:=⟨w.heap.size,10,none⟩) HLT.out).trans hc
   obtain ⟨v4,w4,r4,hO4,hg4,-⟩:=Go.Lib.run_append_own_string (P:=Tryz.prog) w3 w1.heap.size 69 9 69 5 IBY undByt undS IBYI IBYZ.1 IBYZ.2.1 IBYZ.2.2 (.slice a3 ys.length c3) ys.length (ys.flatMap eBy) hO3 ⟨#[120]⟩ (by rw [HY3.out];decide) (by rw [HY3.out];decide) (Nat.le_trans HVS.out hb3.size)
   have hb4:Below w1.heap.size w3 w4:=qr.grown hg4 (Nat.le_trans HVS.out hb3.size) (fun k hk=>(hO3.lt k hk).1)
   have hZ:Own w1.heap.size 5 eBy 1 w4 v4 (ys ++ [120]):=by
    have e1:(ys ++ [(120:By)]).length=ys.length+(⟨#[120]⟩:ByteArray).size:=by rw [List.length_append];rfl
    have e2:(ys ++ [(120:By)]).flatMap eBy=ys.flatMap eBy ++ Go.Lib.strCells ⟨#[120]⟩:=by rw [List.flatMap_append];rfl
    unfold Own
    rw [e1,e2]
    exact hO4
   dsimp only
   refine hK _ _ ?_
   clear hK K hy3 hO3 hO4 hg4
   refine wpAny_ready (rs:=[7]) (by kernel_rfl) (by simp) ?_
   refine AllReady.cons rfl (fun K hK=>?_) AllReady.nil
   first|rw [if_pos (by rfl)]|skip
   refine wp_app_str _ _ _ _ rfl _ _ rfl rfl r4 ?_
   refine hK _ _ ?_
   clear hK K r4
   refine wpAny_ready (rs:=[8]) (by kernel_rfl) (by simp) ?_
   refine AllReady.cons rfl (fun K hK=>?_) AllReady.nil
   go_simp
   refine hK _ _ ?_
   clear hK K
   refine wpAny_done (by kernel_rfl) ?_ _
   obtain ⟨a5,c5,e5⟩:=hZ.isSlice
   subst e5
   go_wp2_with fail
   go_ret2
   exact ⟨⟨_,_,rfl,hZ.isL (fun _=>rfl),by simp [HY3.out]⟩,HB1V.out.trans ((hb3.trans hb4).mono (Nat.le_of_lt HLT.out))⟩
 ·go_simp
  refine hK _ _ ?_
  clear hK K
  refine wpAny_ready (rs:=[2]) (by kernel_rfl) (by simp) ?_
  refine AllReady.cons rfl (fun K hK=>?_) AllReady.nil
  go_simp
  refine hK _ _ ?_
  clear hK K
  refine wpAny_take (i:=3) (v:=?_) rfl (by kernel_rfl) (by kernel_rfl) (by kernel_rfl) (fun _ _ _ h=>h) (Or.inl ⟨by rfl,?_⟩) ?_
  case refine_2=>(intro w;go_simp;try (with_reducible rfl))
  refine wpAny_ready (rs:=[4]) (by kernel_rfl) (by simp) ?_
  refine AllReady.cons rfl (fun K hK=>?_) AllReady.nil
  go_simp
  go_at_call 211
  refine (rcput_any [4] _ 1 2 w1.heap.size V HOV.out (by simp) om HVS.out).mono ?_
  rintro e w3 ⟨⟨u3,ys,rfl,hO3,hy3⟩,hb3⟩
  obtain ⟨a3,c3,e3⟩:=hO3.isSlice
  subst e3
  have HY3:Hid (ys.length=3):=qh (by simpa using hy3)
  have hc3:w3.cell? ⟨w.heap.size,10,none⟩=some (.string ⟨#[120]⟩):=(hb3.cell (p:=⟨w.heap.size,10,none⟩) HLT.out).trans hc
  obtain ⟨v4,w4,r4,hO4,hg4,-⟩:=Go.Lib.run_append_own_string (P:=Tryz.prog) w3 w1.heap.size 69 9 69 5 IBY undByt undS IBYI IBYZ.1 IBYZ.2.1 IBYZ.2.2 (.slice a3 ys.length c3) ys.length (ys.flatMap eBy) hO3 ⟨#[120]⟩ (by rw [HY3.out];decide) (by rw [HY3.out];decide) (Nat.le_trans HVS.out hb3.size)
  have hb4:Below w1.heap.size w3 w4:=qr.grown hg4 (Nat.le_trans HVS.out hb3.size) (fun k hk=>(hO3.lt k hk).1)
  have hZ:Own w1.heap.size 5 eBy 1 w4 v4 (ys ++ [120]):=by
   have e1:(ys ++ [(120:By)]).length=ys.length+(⟨#[120]⟩:ByteArray).size:=by rw [List.length_append];rfl
   have e2:(ys ++ [(120:By)]).flatMap eBy=ys.flatMap eBy ++ Go.Lib.strCells ⟨#[120]⟩:=by rw [List.flatMap_append];rfl
   unfold Own
   rw [e1,e2]
   exact hO4
  dsimp only
  refine hK _ _ ?_
  clear hK K hy3 hO3 hO4 hg4
  refine wpAny_ready (rs:=[7]) (by kernel_rfl) (by simp) ?_
  refine AllReady.cons rfl (fun K hK=>?_) AllReady.nil
  first|rw [if_pos (by rfl)]|skip
  refine wp_app_str _ _ _ _ rfl _ _ rfl rfl r4 ?_
  refine hK _ _ ?_
  clear hK K r4
  refine wpAny_ready (rs:=[8]) (by kernel_rfl) (by simp) ?_
  refine AllReady.cons rfl (fun K hK=>?_) AllReady.nil
  go_simp
  refine hK _ _ ?_
  clear hK K
  refine wpAny_done (by kernel_rfl) ?_ _
  obtain ⟨a5,c5,e5⟩:=hZ.isSlice
  subst e5
  go_wp2_with fail
  go_ret2
  exact ⟨⟨_,_,rfl,hZ.isL (fun _=>rfl),by simp [HY3.out]⟩,HB1V.out.trans ((hb3.trans hb4).mono (Nat.le_of_lt HLT.out))⟩
end Go.Proofs.YtoiakijmbghhlaaGreat
