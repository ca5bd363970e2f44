/- sizing.Solve at one pipe. Conditions: the pipe lies in memory, its section is right. | control.Run without steps at an empty network. Conditions: none. | The small examples of the Top statements on plans are answered. Conditions: none. -/
import Derived.Test.YtoiakijmbghhlaaGreatS48
import Derived.Test.YtoiakijmbghhlaaGreatS13
import Derived.Test.YtoiakijmbghhlaaGreatS16
import Derived.Test.YtoiakijmbghhlaaGreatS17
import Derived.Test.YtoiakijmbghhlaaGreatS39
set_option linter.unusedVariables false
set_option linter.unusedSimpArgs false
set_option maxRecDepth 100000
set_option maxHeartbeats 32000000
namespace Go.Proofs.YtoiakijmbghhlaaGreat
open Go.RowKit
theorem szsolve_one {a0 a1 a2 a3 a4 a5:Nat} {s:SecD} (w:World) (h:Pip w a0 a1 a2 a3 a4 a5 s) (hs:catB [s]=true) (hB:secB s=true) (hH:s.Ht=100) (hP:s.Pr=3) :
  Calls Tryz.prog 39 #[vPip a0 a1 a2 a3 a4 a5] w fun e w'=>(∃ a c,e=.returned (.tuple #[.int .i64 21,.slice a 1 c,.int .i64 0])/\IsInts w' (.slice a 1 c) [0])/\Below w.heap.size w w':=by
 have hb0:Below w.heap.size w (w.alloc (.cells #[one a0,one a1,one a2,one a3,one a4,one a5] 105)):=qr.alloc (Nat.le_refl _) _
 obtain ⟨b0,b1,b2,b3,b4,b5⟩:=boxPip w (w.alloc (.cells #[one a0,one a1,one a2,one a3,one a4,one a5] 105)) 105 a0 a1 a2 a3 a4 a5 _ rfl qr
 obtain ⟨W,hW⟩:∃ W,W=w.alloc (.cells #[one a0,one a1,one a2,one a3,one a4,one a5] 105):=⟨_,rfl⟩
 have HW:=qh hW
 rw [<-hW] at hb0 b0 b1 b2 b3 b4 b5
 have HP:=qh (h.mono hb0)
 have HF:=qh (And.intro hB (And.intro hH hP))
 have hva:=szvalid_one W HP.out hs
 clear hW h hs hB hH hP
 go_enter Tryz.func39,Tryz.ntmps39
 go_upto_region 1 with (fail)
 rw [<-HW.out]
 clear HW
 go_wp2_with fail
 refine Calls.to hva ?_
 rintro e w1 rfl hb1
 have b0:=cel_lt b0 hb1
 have b1:=cel_lt b1 hb1
 have b2:=cel_lt b2 hb1
 have b3:=cel_lt b3 hb1
 have b4:=cel_lt b4 hb1
 have b5:=cel_lt b5 hb1
 have hbr:=hb1
 clear hva hb1
 go_wp2_with fail
 refine Calls.to (sztree_one w1 (HP.out.mono hbr) HF.out.1 HF.out.2.1) ?_
 rintro e w2 ⟨g,rfl,hT⟩ hb2
 have hbr:=hbr.trans (hb2.mono hbr.size)
 have b0:=cel_lt b0 hb2
 clear b1 b2 b3 b4 b5 hb2
 go_wp2_with fail
 refine Calls.to (szvalues_one w2 hT HF.out.2.2) ?_
 rintro e w3 ⟨o,b,c,rfl,ho,hv⟩ hb3
 have hbr:=hbr.trans (hb3.mono hbr.size)
 have b0:=cel_lt b0 hb3
 have hT:=hT.mono hb3
 clear hb3
 go_wp2_with fail
 refine (szbound_one o b c w3 hT ho hv (by rw [HF.out.2.1];decide)).mono ?_
 rintro e w' ⟨rfl,rfl⟩
 have hle:W.heap.size<=w'.heap.size:=hbr.size
 go_wp2_with (refine wpList_mk _ rfl _ _ 28 rfl w'.heap.size 3 _ 8 undInts infInt eInt 0 rfl rfl _ _ 1 rfl rfl rfl rfl (by decide) om (Nat.le_refl _) ?_;intro w4 hown4 hb4 hlt4)
 have hbr:=hbr.trans (hb4.mono hbr.size)
 have hl:=szleast_one b c 4194304 w4 (hT.mono hb4) (cel_lt hv hb4) (by rw [HF.out.2.1];decide)
 have b0:=cel_lt b0 hb4
 have c0:=((HP.out.mono hbr)).c0
 have ho:=cel_lt ho hb4
 have hf4:=hown4.free 0
 have hc4:w4.cell? ⟨w'.heap.size,0,none⟩=some (.int .i64 0):=by
  have:=Own.cellAt' (enc:=eInt) (fun _=>rfl) hown4 0 0 (by simp) (by simp)
  simpa using this
 have HO:=qh hown4
 clear hown4 hb4 hT hv
 go_wp2_with fail
 refine wp_loop_rounds 2 ?_
 rw [rounds_succ]
 go_wp2_with fail
 refine hl.mono ?_
 rintro e w5 ⟨rfl,rfl⟩
 go_wp2_with fail
 rw [rounds_succ]
 go_wp2_with fail
 go_ret3
 have hst:=Own.store (enc:=eInt) (fun _=>rfl) HO.out 0 0 (by simp) (by simp) (.int .i64 0) 0 (by simp)
 have hL:=hst.isL (fun _=>rfl)
 have hfin:=hb0.trans (hbr.mono hb0.size)
 exact ⟨⟨_,_,rfl,hL⟩,hfin.setCell (by have:=hb0.size;simp only;omega) _⟩
theorem rvalid_nil (w:World):Calls Tryz.prog 54 #[.slice none 0 0] w fun e w'=>e=.returned (.bool true)/\Below w.heap.size w w':=by
 have hmm:=@run_makeMap Tryz.prog
 go_enter Tryz.func54,Tryz.ntmps54
 go_wp2_with fail
 refine wp_loop_rounds 1 ?_
 rw [rounds_succ]
 go_wp2_with fail
 go_ret
 exact ⟨rfl,bl⟩
theorem cwrong_nil (w:World):Calls Tryz.prog 55 #[.agg #[.slice none 0 0,.slice none 0 0],.slice none 0 0] w fun e w'=>e=.returned (.int .i64 0)/\Below w.heap.size w w':=by
 have hmm:=@run_makeMap Tryz.prog
 go_enter Tryz.func55,Tryz.ntmps55
 go_wp2_with fail
 refine wp_loop_rounds 1 ?_
 rw [rounds_succ]
 go_wp2_with fail
 go_ret
 exact ⟨rfl,bl⟩
abbrev nilNet:Net:=⟨⟨none,0,[]⟩,⟨none,0,[]⟩⟩
abbrev nilSta:St:=⟨⟨none,0,[]⟩,⟨none,0,[]⟩,⟨none,0,[]⟩,⟨none,0,[]⟩⟩
theorem nil_gSl {α:Type} (enc:α->List Value) (k:Nat) (g:World->α->Prop) (w:World):gSl enc k g w ⟨none,0,[]⟩:=
 ⟨Nat.le_refl _,(show (0:Nat)<=9223372036854775807 by decide),fun i h=>absurd h (Nat.not_lt_zero _),fun x hx=>by cases hx⟩
theorem nilNet_ok (w:World):gNet w nilNet:=⟨nil_gSl _ _ _ _,nil_gSl _ _ _ _⟩
theorem nilSta_ok (w:World):gSt w nilSta:=⟨nil_gSl _ _ _ _,nil_gSl _ _ _ _,nil_gSl _ _ _ _,nil_gSl _ _ _ _⟩
theorem run_nil (w:World):Calls Tryz.prog 9 #[vNet nilNet,.slice none 0 0,.slice none 0 0,vSt nilSta,.slice none 0 0,.int .i64 60,.int .i64 0] w fun e w'=>e=.returned (.tuple #[.slice none 0 0,.slice none 0 0,.int .i64 0])/\Below w.heap.size w w':=by
 have hcv:=fun W=>catvalid_any [] (.slice none 0 0) W ⟨IsL.nil _ _ _,fun s hs=>by cases hs⟩
 rw [show catB []=true from rfl] at hcv
 have hsv:=fun W=>svalid_any nilNet nilSta W (nilNet_ok W) (nilSta_ok W)
 rw [show (netB nilNet&&stB nilNet nilSta)=true from rfl] at hsv
 simp only [vNet,vSt,vSl,List.length_nil] at hsv ⊢
 obtain ⟨W,hW⟩:∃ W,W=(w.alloc (.cells #[.slice none 0 0,.slice none 0 0] 25)).alloc (.cells #[.slice none 0 0,.slice none 0 0,.slice none 0 0,.slice none 0 0] 31):=⟨_,rfl⟩
 have HW:=qh hW
 have hb0:Below w.heap.size w W:=by rw [hW];exact (qr.alloc (Nat.le_refl _) _).alloc (by simp) _
 have c0:W.cell? ⟨w.heap.size,0,none⟩=some (.slice none 0 0):=by rw [hW];simp [go_sem]
 have c1:W.cell? ⟨w.heap.size,1,none⟩=some (.slice none 0 0):=by rw [hW];simp [go_sem]
 have d0:W.cell? ⟨w.heap.size+1,0,none⟩=some (.slice none 0 0):=by rw [hW];simp [go_sem]
 have d1:W.cell? ⟨w.heap.size+1,1,none⟩=some (.slice none 0 0):=by rw [hW];simp [go_sem]
 have d2:W.cell? ⟨w.heap.size+1,2,none⟩=some (.slice none 0 0):=by rw [hW];simp [go_sem]
 have d3:W.cell? ⟨w.heap.size+1,3,none⟩=some (.slice none 0 0):=by rw [hW];simp [go_sem]
 clear hW
 go_enter Tryz.func9,Tryz.ntmps9
 go_upto_region 1 with (fail)
 rw [<-HW.out]
 clear HW
 go_wp2_with fail
 refine Calls.to (hcv _) ?_
 rintro e w1 rfl hb1
 go_wp2_with fail
 refine Calls.to (rvalid_nil _) ?_
 rintro e w2 rfl hb2
 have hbr:=hb1.trans (hb2.mono hb1.size)
 clear hb1 hb2 hcv
 have c0:=cel_lt c0 hbr
 have c1:=cel_lt c1 hbr
 have d0:=cel_lt d0 hbr
 have d1:=cel_lt d1 hbr
 have d2:=cel_lt d2 hbr
 have d3:=cel_lt d3 hbr
 go_wp2_with fail
 refine Calls.to (hsv _) ?_
 rintro e w3 rfl hb3
 have hbr:=hbr.trans (hb3.mono hbr.size)
 have c0:=cel_lt c0 hb3
 have c1:=cel_lt c1 hb3
 clear hb3 hsv d0 d1 d2 d3
 go_wp2_with fail
 refine Calls.to (cwrong_nil _) ?_
 rintro e w4 rfl hb4
 have hbr:=hbr.trans (hb4.mono hbr.size)
 clear hb4 c0 c1
 go_wp2_with fail
 refine wp_loop_rounds 1 ?_
 rw [rounds_succ]
 go_wp2_with fail
 go_ret3
 exact ⟨rfl,hb0.trans (hbr.mono hb0.size)⟩
theorem eqI_zero (b1 o1 c1 b2 o2 c2:Nat) (w:World) (h1:w.cell? ⟨b1,o1,none⟩=some (.int .i64 0)) (h2:w.cell? ⟨b2,o2,none⟩=some (.int .i64 0)) :
  Calls Tryz.prog 41 #[.slice (some ⟨b1,o1,none⟩) 1 c1,.slice (some ⟨b2,o2,none⟩) 1 c2] w fun e w'=>e=.returned (.bool true)/\Below w.heap.size w w':=by
 go_enter Tryz.func41,Tryz.ntmps41
 go_wp2_with fail
 refine wp_loop_rounds 2 ?_
 rw [rounds_succ]
 go_upto_region 6 with (fail)
 go_quiet (fail)
 have hm:Below w.heap.size w (w.drewN nq):=below_drewN (Below.refl _ w) nq
 go_wp2_with fail
 rw [rounds_succ]
 go_wp2_with fail
 go_ret
 exact ⟨rfl,hm⟩
theorem eqS_ab (b1 c1 b2 c2:Nat) (w:World) (h1:w.cell? ⟨b1,0,none⟩=some (.string ⟨#[97,32,98]⟩)) (h2:w.cell? ⟨b2,0,none⟩=some (.string ⟨#[97,32,98]⟩)) :
  Calls Tryz.prog 42 #[.slice (some ⟨b1,0,none⟩) 1 c1,.slice (some ⟨b2,0,none⟩) 1 c2] w fun e w'=>e=.returned (.bool true)/\Below w.heap.size w w':=by
 go_enter Tryz.func42,Tryz.ntmps42
 go_wp2_with fail
 refine wp_loop_rounds 2 ?_
 rw [rounds_succ]
 go_upto_region 6 with (fail)
 go_quiet (fail)
 have hm:Below w.heap.size w (w.drewN nq):=below_drewN (Below.refl _ w) nq
 go_wp2_with fail
 rw [rounds_succ]
 go_wp2_with fail
 go_ret
 exact ⟨rfl,hm⟩
abbrev exS (b:Nat):SecD:=⟨⟨#[115]⟩,100,3,⟨some ⟨b,0,none⟩,2,[⟨0,0⟩,⟨100,9⟩]⟩,⟨some ⟨b+1,0,none⟩,2,[⟨0,0⟩,⟨100,9⟩]⟩⟩
theorem exS_sec (b:Nat):secB (exS b)=true:=rfl
theorem exS_cat (b:Nat):catB [exS b]=true:=rfl
theorem gI64_lit {W:World} (n:Int) (h:(Lit.int .i64 n).wf=true):gI64 W n:=h
theorem knots_blk {W:World} {b:Nat} {T:TypeId} (h:W.heap[b]? = some (.cells #[.int .i64 0,.int .i64 0,.int .i64 100,.int .i64 9] T (0,0))):IsKns W (.slice (some ⟨b,0,none⟩) 2 2) [⟨0,0⟩,⟨100,9⟩]:=
 isL_blk (xs:=[⟨0,0⟩,⟨100,9⟩]) eKn_len rfl h (by decide)
theorem exP_ok {W:World} {b:Nat} {T1 T2 T3:TypeId} (h0:W.heap[b]? = some (.cells #[.int .i64 3] T1 (0,0))) (h1:W.heap[b+1]? = some (.cells #[.int .i64 0,.int .i64 4] T2 (0,0))) (h2:W.heap[b+1+1]? = some (.cells #[.int .i64 0,.int .i64 2] T3 (0,0))) :
  gPl W (exP (some ⟨b,0,none⟩) (some ⟨b+1,0,none⟩) (some ⟨b+1+1,0,none⟩)):=by
 refine ⟨gI64_lit _ rfl,gI64_lit _ rfl,gI64_lit _ rfl,?_,?_,?_,gI64_lit _ rfl⟩
 ·exact gSl_blk (xs:=[3]) (fun _=>rfl) rfl h0 (by decide) (fun x hx=>by rw [List.mem_singleton.1 hx];exact gI64_lit _ rfl)
 ·exact gSl_blk (xs:=[0,4]) (fun _=>rfl) rfl h1 (by decide) (fun x hx=>by rcases List.mem_cons.1 hx with h|h;rw [h];exact gI64_lit _ rfl;rw [List.mem_singleton.1 h];exact gI64_lit _ rfl)
 ·exact gSl_blk (xs:=[⟨0,2⟩]) (good:=gKn) eKn_len rfl h2 (by decide) (fun x hx=>by
   have e:=List.mem_singleton.1 hx
   subst e
   exact (show gI64 W 0/\gI64 W 2 from ⟨gI64_lit _ rfl,gI64_lit _ rfl⟩))
theorem exPip {W:World} {b:Nat} {T0 T1 T3 T4 T5 T6 T7 T8:TypeId} (h0:W.heap[b]? = some (.cells #[.int .i64 0,.int .i64 0,.int .i64 100,.int .i64 9] T0 (0,0))) (h1:W.heap[b+1]? = some (.cells #[.int .i64 0,.int .i64 0,.int .i64 100,.int .i64 9] T1 (0,0)))
  (h3:W.heap[b+3]? = some (.cells #[.int .i64 (-1)] T3 (0,0))) (h4:W.heap[b+4]? = some (.cells #[.int .i64 7] T4 (0,0))) (h5:W.heap[b+5]? = some (.cells #[.int .i64 0] T5 (0,0))) (h6:W.heap[b+6]? = some (.cells #[.int .i64 0] T6 (0,0)))
  (h7:W.heap[b+7]? = some (.cells #[.int .i64 100] T7 (0,0))) (h8:W.heap[b+8]? = some (.cells (eSec (exS b)).toArray T8 (0,0))):Pip W (b+3) (b+4) (b+5) (b+6) (b+7) (b+8) (exS b):=
 ⟨(tank_blk h3 0).trans rfl,(tank_blk h4 0).trans rfl,(tank_blk h5 0).trans rfl,(tank_blk h6 0).trans rfl,(tank_blk h7 0).trans rfl,(tank_blk h8 0).trans rfl,(tank_blk h8 1).trans rfl,(tank_blk h8 2).trans rfl,(tank_blk h8 3).trans rfl,(tank_blk h8 4).trans rfl,
  ⟨(show (1:Nat)<=maxLen by decide),knots_blk h0,knots_blk h1⟩⟩
theorem one_int {w:World} {a:Option Addr} {c:Nat} {x:Int} (h:IsInts w (.slice a 1 c) [x]):∃ b o,a=some ⟨b,o,none⟩/\w.cell? ⟨b,o,none⟩=some (.int .i64 x):=by
 obtain ⟨a',c',e,_,_,hC⟩:=h
 simp only [Value.slice.injEq] at e
 obtain ⟨rfl,_,_⟩:=e
 obtain ⟨b,o,e,hc⟩:=hC.int 0 (by simp)
 exact ⟨b,o,e,by simpa using hc⟩
theorem planAwake_any (w:World):Calls Tryz.prog 6 #[] w fun e w'=>e=.returned (.bool true)/\Below w.heap.size w w':=by
 obtain ⟨W1,hW1⟩:∃ W1,W1=allocs w [(#[.int .i64 3],3),(#[.int .i64 0,.int .i64 4],3),(#[.int .i64 0,.int .i64 2],100)]:=⟨_,rfl⟩
 have hb1:Below w.heap.size w W1:=by rw [hW1];exact allocs_below _ _
 have hg1:gPl W1 (exP (some ⟨w.heap.size,0,none⟩) (some ⟨w.heap.size+1,0,none⟩) (some ⟨w.heap.size+1+1,0,none⟩)):=by
  rw [hW1]
  exact exP_ok (allocs_at _ w 0 (by decide)) (allocs_at _ w 1 (by decide)) (allocs_at _ w 2 (by decide))
 have HW1:=qh (show W1=((w.alloc (.cells #[.int .i64 3] 3)).alloc (.cells #[.int .i64 0,.int .i64 4] 3)).alloc (.cells #[.int .i64 0,.int .i64 2] 100) from hW1)
 have hso:=psolve_ex (some ⟨w.heap.size,0,none⟩) (some ⟨w.heap.size+1,0,none⟩) (some ⟨w.heap.size+1+1,0,none⟩) W1 hg1
 simp only [vPl,vSl,List.length_cons,List.length_nil] at hso
 clear hW1 hg1
 go_enter Tryz.func6,Tryz.ntmps6
 go_wp2_with fail
 rw [<-HW1.out]
 clear HW1
 refine Calls.to hso ?_
 rintro e w2 ⟨ra,rc,rfl,hR⟩ hb2
 have hbr:=hb1.trans (hb2.mono hb1.size)
 obtain ⟨rb,ro,rfl,hrc⟩:=one_int hR
 clear hso hb1 hb2 hR
 go_wp2_with fail
 change Calls Tryz.prog 39 _ (allocs w2 [(#[.int .i64 0,.int .i64 0,.int .i64 100,.int .i64 9],100),(#[.int .i64 0,.int .i64 0,.int .i64 100,.int .i64 9],100),((eSec (exS w2.heap.size)).toArray,102),(#[.int .i64 (-1)],3),(#[.int .i64 7],3),(#[.int .i64 0],3),(#[.int .i64 0],3),(#[.int .i64 100],3),((eSec (exS w2.heap.size)).toArray,102)]) _
 have hb3:=allocs_below [(#[.int .i64 0,.int .i64 0,.int .i64 100,.int .i64 9],100),(#[.int .i64 0,.int .i64 0,.int .i64 100,.int .i64 9],100),((eSec (exS w2.heap.size)).toArray,102),(#[.int .i64 (-1)],3),(#[.int .i64 7],3),(#[.int .i64 0],3),(#[.int .i64 0],3),(#[.int .i64 100],3),((eSec (exS w2.heap.size)).toArray,102)] w2
 have hat:=allocs_at [(#[.int .i64 0,.int .i64 0,.int .i64 100,.int .i64 9],100),(#[.int .i64 0,.int .i64 0,.int .i64 100,.int .i64 9],100),((eSec (exS w2.heap.size)).toArray,102),(#[.int .i64 (-1)],3),(#[.int .i64 7],3),(#[.int .i64 0],3),(#[.int .i64 0],3),(#[.int .i64 100],3),((eSec (exS w2.heap.size)).toArray,102)] w2
 have hpip:=exPip (b:=w2.heap.size) (hat 0 (by simp)) (hat 1 (by simp)) (hat 3 (by simp)) (hat 4 (by simp)) (hat 5 (by simp)) (hat 6 (by simp)) (hat 7 (by simp)) (hat 8 (by simp))
 clear hat
 generalize allocs w2 [(#[.int .i64 0,.int .i64 0,.int .i64 100,.int .i64 9],100),(#[.int .i64 0,.int .i64 0,.int .i64 100,.int .i64 9],100),((eSec (exS w2.heap.size)).toArray,102),(#[.int .i64 (-1)],3),(#[.int .i64 7],3),(#[.int .i64 0],3),(#[.int .i64 0],3),(#[.int .i64 100],3),((eSec (exS w2.heap.size)).toArray,102)]=W3 at *
 have hss:=szsolve_one W3 hpip (exS_cat _) (exS_sec _) rfl rfl
 have hbr:=hbr.trans (hb3.mono hbr.size)
 have hrc:=cel_lt hrc hb3
 clear hb3 hpip
 refine Calls.to hss ?_
 rintro e w4 ⟨sa,sc,rfl,hS⟩ hb4
 have hbr:=hbr.trans (hb4.mono hbr.size)
 have hrc:=cel_lt hrc hb4
 obtain ⟨sb,so,rfl,hsc⟩:=one_int hS
 clear hss hb4 hS
 have hb5:Below w4.heap.size w4 (w4.alloc (.cells #[.string ⟨#[97]⟩,.string ⟨#[98]⟩] 9)):=qr.alloc (Nat.le_refl _) _
 have hrw:=rows_ab w4.heap.size (w4.alloc (.cells #[.string ⟨#[97]⟩,.string ⟨#[98]⟩] 9)) (isL_blk (xs:=[⟨#[97]⟩,⟨#[98]⟩]) (enc:=eTx) (fun _=>rfl) rfl (heap_alloc_new w4 _) (by decide))
 go_wp2_with fail
 refine Calls.to hrw ?_
 rintro e w6 ⟨tb,tc,rfl,htc⟩ hb6
 have hb7:=hb5.trans (hb6.mono hb5.size)
 have hbr:=hbr.trans (hb7.mono hbr.size)
 have hrc:=cel_lt hrc hb7
 have hsc:=cel_lt hsc hb7
 clear hrw hb5 hb6 hb7
 have hrn:=run_nil w6
 simp only [vNet,vSt,vSl,List.length_nil] at hrn
 go_wp2_with fail
 refine Calls.to hrn ?_
 rintro e w7 rfl hb7
 have hbr:=hbr.trans (hb7.mono hbr.size)
 have hrc:=cel_lt hrc hb7
 have hsc:=cel_lt hsc hb7
 have htc:=cel_lt htc hb7
 clear hrn hb7
 have hb8:Below w7.heap.size w7 (w7.alloc (.cells #[.int .i64 0] 3)):=qr.alloc (Nat.le_refl _) _
 have hq1:=eqI_zero rb ro rc w7.heap.size 0 1 _ (cel_lt hrc hb8) ((tank_blk (heap_alloc_new w7 _) 0).trans rfl)
 go_wp2_with fail
 refine Calls.to hq1 ?_
 rintro e w8 rfl hb9
 have hb9:=hb8.trans (hb9.mono hb8.size)
 have hbr:=hbr.trans (hb9.mono hbr.size)
 have hsc:=cel_lt hsc hb9
 have htc:=cel_lt htc hb9
 clear hq1 hb8 hb9 hrc
 have hb8:Below w8.heap.size w8 (w8.alloc (.cells #[.int .i64 0] 3)):=qr.alloc (Nat.le_refl _) _
 have hq1:=eqI_zero sb so sc w8.heap.size 0 1 _ (cel_lt hsc hb8) ((tank_blk (heap_alloc_new w8 _) 0).trans rfl)
 go_wp2_with fail
 refine Calls.to hq1 ?_
 rintro e w9 rfl hb9
 have hb9:=hb8.trans (hb9.mono hb8.size)
 have hbr:=hbr.trans (hb9.mono hbr.size)
 have htc:=cel_lt htc hb9
 clear hq1 hb8 hb9 hsc
 have hb8:Below w9.heap.size w9 (w9.alloc (.cells #[.string ⟨#[97,32,98]⟩] 9)):=qr.alloc (Nat.le_refl _) _
 have hq1:=eqS_ab tb tc w9.heap.size 1 _ (cel_lt htc hb8) ((tank_blk (heap_alloc_new w9 _) 0).trans rfl)
 go_wp2_with fail
 refine Calls.to hq1 ?_
 rintro e w10 rfl hb9
 have hb9:=hb8.trans (hb9.mono hb8.size)
 have hbr:=hbr.trans (hb9.mono hbr.size)
 clear hq1 hb8 hb9 htc
 go_wp2_with fail
 go_ret
 exact ⟨rfl,hbr⟩
end Go.Proofs.YtoiakijmbghhlaaGreat
