/- digraph.Tree, conflicts.Accepted, steady.Tree, archive.Encode at nothing. Conditions: none. -/
import Derived.Test.YtoiakijmbghhlaaGreatS31
import Derived.Test.YtoiakijmbghhlaaGreatS18
import Derived.Test.YtoiakijmbghhlaaGreatS16
set_option linter.unusedVariables false
set_option linter.unusedSimpArgs false
set_option maxRecDepth 100000
set_option maxHeartbeats 32000000
namespace Go.Proofs.YtoiakijmbghhlaaGreat
open Go.RowKit
abbrev hNet:Net:=⟨⟨none,0,[]⟩,⟨none,0,[]⟩⟩
theorem hNil {α:Type} (enc:α->List Value) (k:Nat) (g:World->α->Prop) (w:World):gSl enc k g w ⟨none,0,[]⟩:=
 ⟨Nat.le_refl _,(show (0:Nat)<=9223372036854775807 by decide),fun i h=>absurd h (Nat.not_lt_zero _),fun x hx=>by cases hx⟩
theorem hNet_ok (w:World):gNet w hNet:=⟨hNil _ _ _ _,hNil _ _ _ _⟩
theorem hNetB:netB hNet=true:=rfl
theorem idxE0 (a:Option Addr) (c:Nat) (f:Value) (w:World):Calls Tryz.prog 101 #[.slice a 0 c,f] w fun e w'=>e=.returned (.int .i64 (-1))/\Below w.heap.size w w':=by
 go_enter Tryz.func101,Tryz.ntmps101
 go_wp2_with fail
 refine wp_loop_rounds 1 ?_
 rw [rounds_succ]
 go_wp2_with fail
 go_ret
 exact ⟨rfl,bl⟩
theorem contE0 (a:Option Addr) (c:Nat) (f:Value) (w:World):Calls Tryz.prog 264 #[.slice a 0 c,f] w fun e w'=>e=.returned (.bool false)/\Below w.heap.size w w':=by
 go_enter Tryz.func264,Tryz.ntmps264
 go_wp2_with fail
 refine Calls.to (idxE0 a c f w) ?_
 rintro e w1 rfl hb
 go_wp2_with fail
 go_ret
 exact ⟨rfl,hb⟩
theorem dgvalid0 (a:Option Addr) (c:Nat) (w:World):Calls Tryz.prog 224 #[.int .i64 0,.slice a 0 c] w fun e w'=>e=.returned (.bool true)/\Below w.heap.size w w':=by
 have hb0:Below w.heap.size w (w.alloc (.cells #[.int .i64 0] 3)):=alloc_below _ _
 go_enter Tryz.func224,Tryz.ntmps224
 go_wp2_with fail
 refine Calls.to (contE0 a c _ _) ?_
 rintro e w1 rfl hb
 go_wp2_with fail
 go_ret
 exact ⟨rfl,hb0.trans (hb.mono hb0.size)⟩
theorem undRowsH:Tryz.prog.underlying 70=some (.slice 28):=by kernel_rfl
theorem infRowH:(Tryz.prog.info? 28).map (fun i=>(i.zero,i.size,i.bytes))=some (some (.slice none 0 0),1,24):=by kernel_rfl
theorem undIntsH:Tryz.prog.underlying 28=some (.slice 3):=by kernel_rfl
theorem infIntH:(Tryz.prog.info? 3).map (fun i=>(i.zero,i.size,i.bytes))=some (some (.int .i64 0),1,8):=by kernel_rfl
theorem undBoolsH:Tryz.prog.underlying 29=some (.slice 4):=by kernel_rfl
theorem infBoolH:(Tryz.prog.info? 4).map (fun i=>(i.zero,i.size,i.bytes))=some (some (.bool false),1,1):=by kernel_rfl
theorem dgnext0 (a:Option Addr) (c:Nat) (w:World):Calls Tryz.prog 267 #[.int .i64 0,.slice a 0 c] w fun e w'=>(∃ a' c',e=.returned (.slice a' 0 c'))/\Below w.heap.size w w':=by
 go_enter Tryz.func267,Tryz.ntmps267
 go_wp2_with (refine wpList_mk _ rfl _ _ 70 rfl w.heap.size 28 _ 24 undRowsH infRowH (fun v:Value=>[v]) (.slice none 0 0) rfl rfl _ _ 0 rfl rfl rfl rfl om om (Nat.le_refl _) ?_;intro w1 hown1 hb1 hlt1)
 refine wp_loop_rounds 1 ?_
 rw [rounds_succ]
 go_wp2_with fail
 refine wp_loop_rounds 1 ?_
 rw [rounds_succ]
 go_wp2_with fail
 go_ret
 exact ⟨⟨_,_,rfl⟩,hb1⟩
theorem dgord0 (a:Option Addr) (c:Nat) (w:World):Calls Tryz.prog 225 #[.int .i64 0,.slice a 0 c] w fun e w'=>e=.returned (.slice none 0 0)/\Below w.heap.size w w':=by
 go_enter Tryz.func225,Tryz.ntmps225
 go_wp2_with fail
 refine Calls.to (dgnext0 a c w) ?_
 rintro e w1 ⟨a',c',rfl⟩ hb
 go_wp2_with (refine wpList_mk _ rfl _ _ 28 rfl w1.heap.size 3 _ 8 undIntsH infIntH eInt 0 rfl rfl _ _ 0 rfl rfl rfl rfl om om (Nat.le_refl _) ?_;intro w2 hown1 hb1 hlt1)
 have hb2:=hb.trans (hb1.mono hb.size)
 refine wp_loop_rounds 1 ?_
 rw [rounds_succ]
 go_wp2_with fail
 refine wp_loop_rounds 1 ?_
 rw [rounds_succ]
 go_wp2_with fail
 refine wp_loop_rounds 1 ?_
 rw [rounds_succ]
 go_wp2_with fail
 go_ret
 exact ⟨rfl,hb2⟩
theorem dgtree0 (a:Option Addr) (c:Nat) (w:World):Calls Tryz.prog 157 #[.int .i64 0,.slice a 0 c] w fun e w'=>e=.returned (.bool true)/\Below w.heap.size w w':=by
 go_enter Tryz.func157,Tryz.ntmps157
 go_wp2_with fail
 refine Calls.to (dgvalid0 a c w) ?_
 rintro e w1 rfl hb
 go_wp2_with (refine wpList_mk _ rfl _ _ 29 rfl w1.heap.size 4 _ 1 undBoolsH infBoolH (fun v:Value=>[v]) (.bool false) rfl rfl _ _ 0 rfl rfl rfl rfl om om (Nat.le_refl _) ?_;intro w2 hown1 hb1 hlt1)
 have hb2:=hb.trans (hb1.mono hb.size)
 refine wp_loop_rounds 1 ?_
 rw [rounds_succ]
 go_wp2_with fail
 refine Calls.to (dgord0 a c w2) ?_
 rintro e w3 rfl hb3
 go_wp2_with fail
 go_ret
 exact ⟨rfl,hb2.trans (hb3.mono hb2.size)⟩
theorem idxL0 (f:Value) (w:World):Calls Tryz.prog 116 #[.slice none 0 0,f] w fun e w'=>e=.returned (.int .i64 (-1))/\Below w.heap.size w w':=by
 go_enter Tryz.func116,Tryz.ntmps116
 go_wp2_with fail
 refine wp_loop_rounds 1 ?_
 rw [rounds_succ]
 go_wp2_with fail
 go_ret
 exact ⟨rfl,bl⟩
theorem contL0 (f:Value) (w:World):Calls Tryz.prog 45 #[.slice none 0 0,f] w fun e w'=>e=.returned (.bool false)/\Below w.heap.size w w':=by
 go_enter Tryz.func45,Tryz.ntmps45
 go_wp2_with fail
 refine Calls.to (idxL0 f w) ?_
 rintro e w1 rfl hb
 go_wp2_with fail
 go_ret
 exact ⟨rfl,hb⟩
theorem sttree0 (w:World):Calls Tryz.prog 88 #[.agg #[.slice none 0 0,.slice none 0 0]] w fun e w'=>e=.returned (.bool true)/\Below w.heap.size w w':=by
 have hed:=fun W=>edgesX_any hNet W (hNet_ok W) hNetB
 simp only [vNet,vSl,List.length_nil] at hed
 have hb0:Below w.heap.size w (w.alloc (.cells #[.slice none 0 0,.slice none 0 0] 25)):=alloc_below _ _
 obtain ⟨W,hW⟩:∃ W,W=w.alloc (.cells #[.slice none 0 0,.slice none 0 0] 25):=⟨_,rfl⟩
 have c0:W.cell? ⟨w.heap.size,0,none⟩=some (.slice none 0 0):=by rw [hW];simp [go_sem]
 have c1:W.cell? ⟨w.heap.size,1,none⟩=some (.slice none 0 0):=by rw [hW];simp [go_sem]
 rw [<-hW] at hb0
 have HW:=qh hW
 clear hW
 go_enter Tryz.func88,Tryz.ntmps88
 go_upto_region 1 with (fail)
 rw [<-HW.out]
 clear HW
 go_wp2_with fail
 refine Calls.to (contL0 _ _) ?_
 rintro e w1 rfl hb1
 have c0:=cel_lt c0 hb1
 have c1:=cel_lt c1 hb1
 go_wp2_with fail
 refine Calls.to (hed w1) ?_
 rintro e w2 ⟨v,rfl,hv⟩ hb2
 have c0:=cel_lt c0 hb2
 have c1:=cel_lt c1 hb2
 obtain ⟨a,c,rfl⟩:=hv.isSlice
 have hv:(edgesM hNet.Ns.xs hNet.Ls.xs).length=0:=rfl
 rw [hv]
 clear hv
 go_wp2_with fail
 refine Calls.to (dgtree0 a c w2) ?_
 rintro e w3 rfl hb3
 go_wp2_with fail
 go_ret
 exact ⟨rfl,hb0.trans (((hb1.trans (hb2.mono hb1.size)).trans (hb3.mono (Nat.le_trans hb1.size hb2.size))).mono hb0.size)⟩
theorem ruvalid0 (w:World):Calls Tryz.prog 54 #[.slice none 0 0] w fun e w'=>e=.returned (.bool true)/\Below w.heap.size w w':=by
 have hmm:=@run_makeMap Tryz.prog
 go_enter Tryz.func54,Tryz.ntmps54
 go_wp2_with fail
 refine wp_loop_rounds 1 ?_
 rw [rounds_succ]
 go_wp2_with fail
 go_ret
 exact ⟨rfl,bl⟩
theorem cfgiven0 (w:World):Calls Tryz.prog 154 #[.slice none 0 0,.agg #[.slice none 0 0,.slice none 0 0]] w fun e w'=>e=.returned (.int .i64 0)/\Below w.heap.size w w':=by
 have hnv:=fun W=>nvalid_any hNet W (hNet_ok W)
 rw [hNetB] at hnv
 simp only [vNet,vSl,List.length_nil] at hnv
 have hb0:Below w.heap.size w (w.alloc (.cells #[.slice none 0 0,.slice none 0 0] 25)):=alloc_below _ _
 obtain ⟨W,hW⟩:∃ W,W=w.alloc (.cells #[.slice none 0 0,.slice none 0 0] 25):=⟨_,rfl⟩
 have c0:W.cell? ⟨w.heap.size,0,none⟩=some (.slice none 0 0):=by rw [hW];simp [go_sem]
 have c1:W.cell? ⟨w.heap.size,1,none⟩=some (.slice none 0 0):=by rw [hW];simp [go_sem]
 rw [<-hW] at hb0
 have HW:=qh hW
 clear hW
 go_enter Tryz.func154,Tryz.ntmps154
 go_upto_region 1 with (fail)
 rw [<-HW.out]
 clear HW
 go_wp2_with fail
 refine Calls.to (ruvalid0 _) ?_
 rintro e w1 rfl hb1
 have c0:=cel_lt c0 hb1
 have c1:=cel_lt c1 hb1
 go_wp2_with fail
 refine Calls.to (hnv w1) ?_
 rintro e w2 rfl hb2
 have c0:=cel_lt c0 hb2
 have c1:=cel_lt c1 hb2
 go_wp2_with fail
 refine wp_loop_rounds 1 ?_
 rw [rounds_succ]
 go_wp2_with fail
 go_ret
 exact ⟨rfl,hb0.trans ((hb1.trans (hb2.mono hb1.size)).mono hb0.size)⟩
theorem cffind0 (v:Value) (w:World) (hv:v=.agg #[.slice none 0 0,.slice none 0 0]):Calls Tryz.prog 155 #[.slice none 0 0,v] w fun e w'=>e=.returned (.slice none 0 0)/\Below w.heap.size w w':=by
 subst hv
 go_enter Tryz.func155,Tryz.ntmps155
 go_wp2_with fail
 refine wp_loop_rounds 1 ?_
 rw [rounds_succ]
 go_wp2_with fail
 go_ret
 exact ⟨rfl,bl⟩
theorem cfacc0 (w:World):Calls Tryz.prog 87 #[.slice none 0 0,.agg #[.slice none 0 0,.slice none 0 0]] w fun e w'=>e=.returned (.bool true)/\Below w.heap.size w w':=by
 have hb0:Below w.heap.size w (w.alloc (.cells #[.slice none 0 0,.slice none 0 0] 25)):=alloc_below _ _
 obtain ⟨W,hW⟩:∃ W,W=w.alloc (.cells #[.slice none 0 0,.slice none 0 0] 25):=⟨_,rfl⟩
 have c0:W.cell? ⟨w.heap.size,0,none⟩=some (.slice none 0 0):=by rw [hW];simp [go_sem]
 have c1:W.cell? ⟨w.heap.size,1,none⟩=some (.slice none 0 0):=by rw [hW];simp [go_sem]
 rw [<-hW] at hb0
 have HW:=qh hW
 clear hW
 go_enter Tryz.func87,Tryz.ntmps87
 go_upto_region 1 with (fail)
 rw [<-HW.out]
 clear HW
 go_wp2_with fail
 refine Calls.to (cfgiven0 _) ?_
 rintro e w1 rfl hb1
 have c0:=cel_lt c0 hb1
 have c1:=cel_lt c1 hb1
 go_wp2_with fail
 refine Calls.to (cffind0 _ w1 rfl) ?_
 rintro e w2 rfl hb2
 go_wp2_with fail
 go_ret
 exact ⟨rfl,hb0.trans ((hb1.trans (hb2.mono hb1.size)).mono hb0.size)⟩
theorem arhead0 (w:World):Calls Tryz.prog 152 #[] w fun e w'=>(∃ a c,e=.returned (.slice a 3 c))/\Below w.heap.size w w':=by
 go_enter Tryz.func152,Tryz.ntmps152
 go_wp2_with fail
 go_ret
 exact ⟨⟨_,_,rfl⟩,bl⟩
theorem arenc0 (w:World):Calls Tryz.prog 86 #[.slice none 0 0] w fun e w'=>(∃ a c,e=.returned (.tuple #[.slice a 3 c,.int .i64 0]))/\Below w.heap.size w w':=by
 go_enter Tryz.func86,Tryz.ntmps86
 go_wp2_with fail
 refine wp_loop_rounds 1 ?_
 rw [rounds_succ]
 go_wp2_with fail
 refine Calls.to (arhead0 w) ?_
 rintro e w1 ⟨a,c,rfl⟩ hb
 go_wp2_with fail
 refine wp_loop_rounds 1 ?_
 rw [rounds_succ]
 go_wp2_with fail
 go_ret2
 exact ⟨⟨_,_,rfl⟩,hb⟩
end Go.Proofs.YtoiakijmbghhlaaGreat
