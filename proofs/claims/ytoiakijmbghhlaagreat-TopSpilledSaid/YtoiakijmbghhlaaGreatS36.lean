/- simulate.copied, walked. Conditions: the state reads as data, its lists have at most a million elements. Written by gen/mk-rtk.py. | balance, plain: the account of a set of nodes over a controlled step. Conditions: the step is one (CStep). | balance: within, valid, sum, given, listed. Conditions: the arguments read as data. -/
import Derived.Test.YtoiakijmbghhlaaGreatS29
import Derived.Test.YtoiakijmbghhlaaGreatS26
import Derived.Test.YtoiakijmbghhlaaGreatS13
import Derived.Test.YtoiakijmbghhlaaGreatS18
set_option linter.unusedVariables false
set_option linter.unusedSimpArgs false
set_option maxRecDepth 100000
set_option maxHeartbeats 32000000
namespace Go.Proofs.YtoiakijmbghhlaaGreat
open Go.RowKit
theorem simcopied_any (s:St) (w:World) (hgs:gSt w s) (hl0:s.V.xs.length<=1000000) (hl1:s.P.xs.length<=1000000) (hl2:s.S.xs.length<=1000000) (hl3:s.O.xs.length<=1000000):Calls Tryz.prog 92 #[vSt s] w fun e w'=>
  (∃ uV uP uS uO lV hV lP hP lS hS lO hO,e=.returned (.agg #[uV,uP,uS,uO])/\Copied w w' s uV uP uS uO lV hV lP hP lS hS lO hO)/\Below w.heap.size w w':=by
 obtain ⟨wm,hW⟩:∃ W,W=allocs w [((eSt s).toArray,31),(#[.slice none 0 0,.slice none 0 0,.slice none 0 0,.slice none 0 0],31)]:=⟨_,rfl⟩
 have hbw:Below w.heap.size w wm:=by rw [hW];exact allocs_below _ _
 have t0:wm.heap[w.heap.size]? = some (.cells (eSt s).toArray 31 (0,0)):=by rw [hW];exact allocs_at [((eSt s).toArray,31),(#[.slice none 0 0,.slice none 0 0,.slice none 0 0,.slice none 0 0],31)] w 0 (by simp)
 have t1:wm.heap[w.heap.size+1]? = some (.cells #[.slice none 0 0,.slice none 0 0,.slice none 0 0,.slice none 0 0] 31 (0,0)):=by rw [hW];exact allocs_at [((eSt s).toArray,31),(#[.slice none 0 0,.slice none 0 0,.slice none 0 0,.slice none 0 0],31)] w 1 (by simp)
 have HW:Hid (wm=(w.alloc (.cells (eSt s).toArray 31)).alloc (.cells #[.slice none 0 0,.slice none 0 0,.slice none 0 0,.slice none 0 0] 31)):=qh hW
 have T0:=qh t0
 have T1:=qh t1
 have hgs:=rdSt.mono hgs hbw
 have hlt:w.heap.size+1<wm.heap.size:=(Array.getElem?_eq_some_iff.1 t1).1
 clear hW t0 t1
 go_enter Tryz.func92,Tryz.ntmps92
 go_upto_region 1 with (fail)
 first|rw [<-HW.out]|(simp only [vSt,vSl];rw [<-HW.out])|skip
 clear HW
 refine wp_region_inv (cqI wm (vSt s) w.heap.size (w.heap.size+1) s) (by kernel_rfl) (by kernel_rfl) (fun l a W h=>h.1) ?step ?fin ?start
 case start=>
  refine ⟨by simp,fun _=>undef,fun _=>0,fun _=>0,_,rfl,Below.drew qr,fun j hj h=>?_,.inl ⟨by simp,rfl⟩⟩
  exfalso
  simp [Array.getD] at h
 case fin=>
  intro l a W hI hall
  obtain ⟨hz,y,lo,hi,W0,rfl,hb,hF,h13⟩:=hI
  have h13l:=hall 13 (by decide)
  rcases h13 with ⟨h,_⟩|⟨_,h2,rfl⟩
  ·rw [h13l] at h;cases h
  ·have g2:=hF 2 om (h2 2 om)
   have g5:=hF 5 om (h2 5 om)
   have g8:=hF 8 om (h2 8 om)
   have g11:=hF 11 om (h2 11 om)
   have u1:=(hb.block (w.heap.size+1) hlt).trans T1.out
   have o0:W0.cell? ⟨w.heap.size+1,0,none⟩=some (.slice none 0 0):=(tank_blk u1 0).trans rfl
   have o1:W0.cell? ⟨w.heap.size+1,1,none⟩=some (.slice none 0 0):=(tank_blk u1 1).trans rfl
   have o2:W0.cell? ⟨w.heap.size+1,2,none⟩=some (.slice none 0 0):=(tank_blk u1 2).trans rfl
   have o3:W0.cell? ⟨w.heap.size+1,3,none⟩=some (.slice none 0 0):=(tank_blk u1 3).trans rfl
   have q0:(set4 W0 (w.heap.size+1) (y 5) (y 8) (y 11) (y 14)).cell? ⟨w.heap.size+1,0,none⟩=some (y 5):=by simp [set4,go_sem,o0]
   have q1:(set4 W0 (w.heap.size+1) (y 5) (y 8) (y 11) (y 14)).cell? ⟨w.heap.size+1,1,none⟩=some (y 8):=by simp [set4,go_sem,o1]
   have q2:(set4 W0 (w.heap.size+1) (y 5) (y 8) (y 11) (y 14)).cell? ⟨w.heap.size+1,2,none⟩=some (y 11):=by simp [set4,go_sem,o2]
   have q3:(set4 W0 (w.heap.size+1) (y 5) (y 8) (y 11) (y 14)).cell? ⟨w.heap.size+1,3,none⟩=some (y 14):=by simp [set4,go_sem,o3]
   have hbf:Below w.heap.size w (set4 W0 (w.heap.size+1) (y 5) (y 8) (y 11) (y 14)):=set4_bel (hbw.trans (hb.mono hbw.size)) om _ _ _ _
   have hcp:Copied w (set4 W0 (w.heap.size+1) (y 5) (y 8) (y 11) (y 14)) s (y 5) (y 8) (y 11) (y 14) (lo 0) (hi 0) (lo 1) (hi 1) (lo 2) (hi 2) (lo 3) (hi 3):=by
    obtain ⟨r0,r1,r2,r3⟩:=g2
    obtain ⟨_,s0,s1,s2,s3⟩:=g5
    obtain ⟨_,t0,t1,t2,t3⟩:=g8
    obtain ⟨_,u0,u1,u2,u3⟩:=g11
    have hwz:=hbw.size
    exact ⟨r0.set4 (.inl om) _ _ _ _,s0.set4 (.inl om) _ _ _ _,t0.set4 (.inl om) _ _ _ _,u0.set4 (.inl om) _ _ _ _,by omega,r2,s1,s2,t1,t2,u1,u2,by simp [set4,World.setCell];exact u3⟩
   clear g2 g5 g8 g11 o0 o1 o2 o3 u1 hF h2 hall
   generalize set4 W0 (w.heap.size+1) (y 5) (y 8) (y 11) (y 14)=WF at *
   go_wp2_with fail
   exact bodyPost_ret (v:=.agg #[y 5,y 8,y 11,y 14]) (by simp (maxDischargeDepth:=9) [results,Tryz.results92,go_sem,q0,q1,q2,q3]) rfl ⟨⟨_,_,_,_,_,_,_,_,_,_,_,_,rfl,hcp⟩,hbf⟩
 case step=>
 intro l a W i o hI ho hun hdeps
 obtain ⟨hz,y,lo,hi,W0,rfl,hb,hF,h13o⟩:=hI
 have hi14:i<14:=(Array.getElem?_eq_some_iff.1 ho).1
 have h13':l.getD 13 false=false/\W=W0:=by
  rcases h13o with h|⟨h1,h2,_⟩
  ·exact h
  ·exfalso
   rw [getD_tf om] at hun
   by_cases h:i=13
   ·subst h;rw [h1] at hun;cases hun
   ·rw [h2 i om] at hun;cases hun
 obtain ⟨h13,hWW⟩:=h13'
 subst W
 clear h13o
 have v0:=(hb.block w.heap.size om).trans T0.out
 have c0:W0.cell? ⟨w.heap.size,0,none⟩=some (vSl s.V):=(tank_blk v0 0).trans rfl
 have c1:W0.cell? ⟨w.heap.size,1,none⟩=some (vSl s.P):=(tank_blk v0 1).trans rfl
 have c2:W0.cell? ⟨w.heap.size,2,none⟩=some (vSl s.S):=(tank_blk v0 2).trans rfl
 have c3:W0.cell? ⟨w.heap.size,3,none⟩=some (vSl s.O):=(tank_blk v0 3).trans rfl
 simp only [vSl] at c0 c1 c2 c3
 have hgs:=rdSt.mono hgs hb
 rcases (show i=0\/i=1\/i=2\/i=3\/i=4\/i=5\/i=6\/i=7\/i=8\/i=9\/i=10\/i=11\/i=12\/i=13 by omega) with rfl|rfl|rfl|rfl|rfl|rfl|rfl|rfl|rfl|rfl|rfl|rfl|rfl|rfl
 ·refine wpOp_step rfl (fun K hK=>?_)
  rw [if_pos (by rfl)]
  go_simp
  exact hK _ _ (cq_next hz hb hF h13 om hun _ lo hi rfl qr (fun _ _=>⟨rfl,rfl⟩) rfl)
 ·obtain rfl:=Option.some.inj (show some _=some o from ho)
  have e:=hF 0 om (hdeps ⟨0,.data⟩ (by simp) rfl)
  change y 3=_ at e
  refine wpOp_step rfl (fun K hK=>?_)
  rw [if_pos (by rfl)]
  go_simp
  refine hK _ _ (cq_next hz hb hF h13 om hun (vSl s.V) lo hi ?_ qr (fun _ _=>⟨rfl,rfl⟩) rfl)
  first|rfl|simp [cqA,updV,e]
 ·obtain rfl:=Option.some.inj (show some _=some o from ho)
  have e:=hF 1 om (hdeps ⟨1,.data⟩ (by simp) rfl)
  change y 4=_ at e
  simp only [vSl] at e
  have hcl:=cloneInt_any s.V.xs _ W0 hgs.1.isL hl0
  simp only [vSl] at hcl
  refine wpOp_step rfl (fun K hK=>?_)
  rw [if_pos (by rfl)]
  go_simp
  go_at_call 161
  refine hcl.mono ?_
  rintro e' w' ⟨⟨v',rfl,hown⟩,hbel⟩
  have hrow:=RowAt.of hown
  refine hK _ _ (cq_next hz hb hF h13 om hun v' (updV lo 0 W0.heap.size) (updV hi 0 w'.heap.size) (by first|rfl|simp [cqA,updV,e]) hbel (fun r hr=>?_) ?_)
  ·simp only [updV];constructor <;> rw [if_neg om]
  ·exact ⟨hrow,hb.size,hbel.size,Nat.le_refl _⟩
 ·refine wpOp_step rfl (fun K hK=>?_)
  rw [if_pos (by rfl)]
  go_simp
  exact hK _ _ (cq_next hz hb hF h13 om hun _ lo hi rfl qr (fun _ _=>⟨rfl,rfl⟩) rfl)
 ·obtain rfl:=Option.some.inj (show some _=some o from ho)
  have e:=hF 3 om (hdeps ⟨3,.data⟩ (by simp) rfl)
  change y 6=_ at e
  refine wpOp_step rfl (fun K hK=>?_)
  rw [if_pos (by rfl)]
  go_simp
  refine hK _ _ (cq_next hz hb hF h13 om hun (vSl s.P) lo hi ?_ qr (fun _ _=>⟨rfl,rfl⟩) rfl)
  first|rfl|simp [cqA,updV,e]
 ·obtain rfl:=Option.some.inj (show some _=some o from ho)
  have e:=hF 4 om (hdeps ⟨4,.data⟩ (by simp) rfl)
  change y 7=_ at e
  simp only [vSl] at e
  have hcl:=cloneInt_any s.P.xs _ W0 hgs.2.1.isL hl1
  simp only [vSl] at hcl
  refine wpOp_step rfl (fun K hK=>?_)
  rw [if_pos (by rfl)]
  go_simp
  go_at_call 161
  refine hcl.mono ?_
  rintro e' w' ⟨⟨v',rfl,hown⟩,hbel⟩
  have hrow:=RowAt.of hown
  refine hK _ _ (cq_next hz hb hF h13 om hun v' (updV lo 1 W0.heap.size) (updV hi 1 w'.heap.size) (by first|rfl|simp [cqA,updV,e]) hbel (fun r hr=>?_) ?_)
  ·simp only [updV];constructor <;> rw [if_neg om]
  ·have d:=hdeps ⟨2,.chain⟩ (by simp) rfl
   exact ⟨by rw [getD_setF (by decide)];exact d,hrow,(hF 2 om d).2.2.2,hbel.size,Nat.le_refl _⟩
 ·refine wpOp_step rfl (fun K hK=>?_)
  rw [if_pos (by rfl)]
  go_simp
  exact hK _ _ (cq_next hz hb hF h13 om hun _ lo hi rfl qr (fun _ _=>⟨rfl,rfl⟩) rfl)
 ·obtain rfl:=Option.some.inj (show some _=some o from ho)
  have e:=hF 6 om (hdeps ⟨6,.data⟩ (by simp) rfl)
  change y 9=_ at e
  refine wpOp_step rfl (fun K hK=>?_)
  rw [if_pos (by rfl)]
  go_simp
  refine hK _ _ (cq_next hz hb hF h13 om hun (vSl s.S) lo hi ?_ qr (fun _ _=>⟨rfl,rfl⟩) rfl)
  first|rfl|simp [cqA,updV,e]
 ·obtain rfl:=Option.some.inj (show some _=some o from ho)
  have e:=hF 7 om (hdeps ⟨7,.data⟩ (by simp) rfl)
  change y 10=_ at e
  simp only [vSl] at e
  have hcl:=cloneInt_any s.S.xs _ W0 hgs.2.2.1.isL hl2
  simp only [vSl] at hcl
  refine wpOp_step rfl (fun K hK=>?_)
  rw [if_pos (by rfl)]
  go_simp
  go_at_call 161
  refine hcl.mono ?_
  rintro e' w' ⟨⟨v',rfl,hown⟩,hbel⟩
  have hrow:=RowAt.of hown
  refine hK _ _ (cq_next hz hb hF h13 om hun v' (updV lo 2 W0.heap.size) (updV hi 2 w'.heap.size) (by first|rfl|simp [cqA,updV,e]) hbel (fun r hr=>?_) ?_)
  ·simp only [updV];constructor <;> rw [if_neg om]
  ·have d:=hdeps ⟨5,.chain⟩ (by simp) rfl
   exact ⟨by rw [getD_setF (by decide)];exact d,hrow,(hF 5 om d).2.2.2.2,hbel.size,Nat.le_refl _⟩
 ·refine wpOp_step rfl (fun K hK=>?_)
  rw [if_pos (by rfl)]
  go_simp
  exact hK _ _ (cq_next hz hb hF h13 om hun _ lo hi rfl qr (fun _ _=>⟨rfl,rfl⟩) rfl)
 ·obtain rfl:=Option.some.inj (show some _=some o from ho)
  have e:=hF 9 om (hdeps ⟨9,.data⟩ (by simp) rfl)
  change y 12=_ at e
  refine wpOp_step rfl (fun K hK=>?_)
  rw [if_pos (by rfl)]
  go_simp
  refine hK _ _ (cq_next hz hb hF h13 om hun (vSl s.O) lo hi ?_ qr (fun _ _=>⟨rfl,rfl⟩) rfl)
  first|rfl|simp [cqA,updV,e]
 ·obtain rfl:=Option.some.inj (show some _=some o from ho)
  have e:=hF 10 om (hdeps ⟨10,.data⟩ (by simp) rfl)
  change y 13=_ at e
  simp only [vSl] at e
  have hcl:=cloneBool_any s.O.xs _ W0 hgs.2.2.2.isL hl3
  simp only [vSl] at hcl
  refine wpOp_step rfl (fun K hK=>?_)
  rw [if_pos (by rfl)]
  go_simp
  go_at_call 162
  refine hcl.mono ?_
  rintro e' w' ⟨⟨v',rfl,hown⟩,hbel⟩
  have hrow:=RowAt.of hown
  refine hK _ _ (cq_next hz hb hF h13 om hun v' (updV lo 3 W0.heap.size) (updV hi 3 w'.heap.size) (by first|rfl|simp [cqA,updV,e]) hbel (fun r hr=>?_) ?_)
  ·simp only [updV];constructor <;> rw [if_neg om]
  ·have d:=hdeps ⟨8,.chain⟩ (by simp) rfl
   exact ⟨by rw [getD_setF (by decide)];exact d,hrow,(hF 8 om d).2.2.2.2,hbel.size,Nat.le_refl _⟩
 ·obtain rfl:=Option.some.inj (show some _=some o from ho)
  have d2:=hdeps ⟨2,.data⟩ (by simp) rfl
  have d5:=hdeps ⟨5,.data⟩ (by simp) rfl
  have d8:=hdeps ⟨8,.data⟩ (by simp) rfl
  have d11:=hdeps ⟨11,.data⟩ (by simp) rfl
  obtain ⟨a0,k0,e0⟩:=(hF 2 om d2).1.1.isSlice
  obtain ⟨a1,k1,e1⟩:=(hF 5 om d5).2.1.1.isSlice
  obtain ⟨a2,k2,e2⟩:=(hF 8 om d8).2.1.1.isSlice
  obtain ⟨a3,k3,e3⟩:=(hF 11 om d11).2.1.1.isSlice
  refine wpOp_step rfl (fun K hK=>?_)
  rw [if_pos (by rfl)]
  go_simp
  refine hK _ _ (cq_next hz hb hF h13 om hun (.agg #[y 5,y 8,y 11,y 14]) lo hi ?_ qr (fun _ _=>⟨rfl,rfl⟩) ⟨⟨by rw [getD_setF (by decide)];exact d2,by rw [getD_setF (by decide)];exact d5,by rw [getD_setF (by decide)];exact d8,by rw [getD_setF (by decide)];exact d11⟩,rfl⟩)
  first|rfl|simp [cqA,updV,e0,e1,e2,e3]
 ·obtain rfl:=Option.some.inj (show some _=some o from ho)
  have hall:∀ j,j<13->l.getD j false=true:=by
   intro j hj
   rcases (show j=0\/j=1\/j=2\/j=3\/j=4\/j=5\/j=6\/j=7\/j=8\/j=9\/j=10\/j=11\/j=12 by omega) with rfl|rfl|rfl|rfl|rfl|rfl|rfl|rfl|rfl|rfl|rfl|rfl|rfl
   all_goals exact hdeps ⟨_,.phase⟩ (by simp) rfl
  have e:=(hF 12 om (hall 12 om)).2
  obtain ⟨a0,k0,e0⟩:=(hF 2 om (hall 2 om)).1.1.isSlice
  obtain ⟨a1,k1,e1⟩:=(hF 5 om (hall 5 om)).2.1.1.isSlice
  obtain ⟨a2,k2,e2⟩:=(hF 8 om (hall 8 om)).2.1.1.isSlice
  obtain ⟨a3,k3,e3⟩:=(hF 11 om (hall 11 om)).2.1.1.isSlice
  have u1:=(hb.block (w.heap.size+1) hlt).trans T1.out
  have o0:W0.cell? ⟨w.heap.size+1,0,none⟩=some (.slice none 0 0):=(tank_blk u1 0).trans rfl
  have o1:W0.cell? ⟨w.heap.size+1,1,none⟩=some (.slice none 0 0):=(tank_blk u1 1).trans rfl
  have o2:W0.cell? ⟨w.heap.size+1,2,none⟩=some (.slice none 0 0):=(tank_blk u1 2).trans rfl
  have o3:W0.cell? ⟨w.heap.size+1,3,none⟩=some (.slice none 0 0):=(tank_blk u1 3).trans rfl
  have of0:W0.frozen? ⟨w.heap.size+1,0,none⟩=false:=tank_free u1 0
  have of1:W0.frozen? ⟨w.heap.size+1,1,none⟩=false:=tank_free u1 1
  have of2:W0.frozen? ⟨w.heap.size+1,2,none⟩=false:=tank_free u1 2
  have of3:W0.frozen? ⟨w.heap.size+1,3,none⟩=false:=tank_free u1 3
  refine wpOp_step rfl (fun K hK=>?_)
  rw [if_pos (by rfl)]
  go_simp
  refine hK _ _ ⟨by simpa using hz,y,lo,hi,W0,?_,hb,?_,.inr ⟨getD_setT om,fun j hj=>by rw [getD_setF om];exact hall j hj,?_⟩⟩
  ·first|rfl|simp [cqA,e,e0,e1,e2,e3]
  ·intro j hj hl
   rw [getD_setF om] at hl
   exact cqF_keep qr h13 (fun _ _=>rfl) (fun _ _=>⟨rfl,rfl⟩) (fun j hj=>getD_setF hj) j om (hF j hj hl)
  ·first|rfl|simp [set4,e0,e1,e2,e3]
structure Led where
 I:Int
 O:Int
 P:Sl Int
structure CStep (n:Net) (s:St) (q:List Int) (s':St) (g:Led):Prop where
 st:stB n s=true
 two:∃ s2:St,s2.V.xs=s.V.xs/\s2.P.xs=s.P.xs/\StepR n s2 q s' g.I g.O g.P.xs
def difF (s s':St) (q:List Int) (i:Nat):Int:=s.V.xs.getD i 0+s.P.xs.getD i 0+q.getD i 0-s'.V.xs.getD i 0-s'.P.xs.getD i 0
def linkF (n:Net) (ins:Nat->Bool) (p:List Int) (k:Nat):Int:=
 if ins (toN n k) && !ins (frmN n k) then p.getD k 0 else if ins (frmN n k) && !ins (toN n k) then -p.getD k 0 else 0
def lostQ (n:Net) (ins:Nat->Bool) (q:List Int) (i:Nat):Int:=if ins i&&isOut n i then q.getD i 0 else 0
def lostP (n:Net) (ins:Nat->Bool) (p:List Int) (k:Nat):Int:=if ins (toN n k)&&isOut n (toN n k) then p.getD k 0 else 0
section
variable {n : Net} {s s' : St} {q : List Int} {g : Led}
theorem CStep.net (h:CStep n s q s' g):netB n=true:=by obtain ⟨_,_,_,_,h2⟩:=h;exact h2.net
theorem CStep.st' (h:CStep n s q s' g):stB n s'=true:=by obtain ⟨_,_,_,_,h2⟩:=h;exact h2.st'
theorem CStep.gi (h:CStep n s q s' g):g.I=sg (fun i=>q.getD i 0) n.Ns.xs.length:=by obtain ⟨_,_,_,_,h2⟩:=h;exact h2.gi
theorem CStep.bd (h:CStep n s q s' g) (i:Nat) (hi:i<n.Ns.xs.length):0<=s.V.xs.getD i 0/\s.V.xs.getD i 0<=1125899906842624/\0<=s.P.xs.getD i 0/\s.P.xs.getD i 0<=1125899906842624 /\
  0<=s'.V.xs.getD i 0/\s'.V.xs.getD i 0<=1125899906842624/\0<=s'.P.xs.getD i 0/\s'.P.xs.getD i 0<=1125899906842624:=by
 have a:=(stB_parts h.st).2.2.2.2.1 i hi
 have b:=(stB_parts h.st').2.2.2.2.1 i hi
 have c:=capB_le h.net i hi
 omega
theorem CStep.dif (h:CStep n s q s' g) (ins:Nat->Bool):sg (fun i=>if ins i then difF s s' q i else 0) n.Ns.xs.length+sg (linkF n ins g.P.xs) n.Ls.xs.length=sg (lostQ n ins q) n.Ns.xs.length+sg (lostP n ins g.P.xs) n.Ls.xs.length:=by
 obtain ⟨hst,s2,e1,e2,h2⟩:=h
 have hb:=stB_parts hst
 have hb':=stB_parts h2.st'
 have key:=account (n:=n.Ns.xs.length) (m:=n.Ls.xs.length) (frm:=frmN n) (dst:=toN n) (fun k hk=>(ends_lt h2.net hk).1) (fun k hk=>(ends_lt h2.net hk).2) (isOut n) ins (difF s s' q) (fun i=>q.getD i 0) (fun k=>g.P.xs.getD k 0)
  (fun i hi ho=>by
   have:=h2.held i hi ho
   rw [e1,e2] at this
   unfold outS inS at this
   unfold difF
   omega)
  (fun i hi ho=>by
   refine ⟨?_,h2.fall i hi ho⟩
   have a:=hb.2.2.2.2.1 i hi
   have b:=hb'.2.2.2.2.1 i hi
   have c:=cap_out ho
   have d:=a.2.2.2.2 ho
   have e:=b.2.2.2.2 ho
   unfold difF
   omega)
 have hl:sg (linkF n ins g.P.xs) n.Ls.xs.length=sg (fun k=>if ins (toN n k) then g.P.xs.getD k 0 else 0) n.Ls.xs.length-sg (fun k=>if ins (frmN n k) then g.P.xs.getD k 0 else 0) n.Ls.xs.length:=by
  rw [<-sg_sub]
  refine sg_congr (fun k _=>?_)
  unfold linkF
  cases ins (toN n k) <;> cases ins (frmN n k) <;> simp
 rw [hl]
 unfold lostQ lostP
 omega
end
abbrev eLed (g:Led):List Value:=[.int .i64 g.I,.int .i64 g.O,vSl g.P]
abbrev vLed (g:Led):Value:=.agg #[.int .i64 g.I,.int .i64 g.O,vSl g.P]
end Go.Proofs.YtoiakijmbghhlaaGreat
