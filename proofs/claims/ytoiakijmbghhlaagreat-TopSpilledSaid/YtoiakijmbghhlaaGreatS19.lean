/- openings: product, times, over, root: in bounds at any numbers. Conditions: the divisor is not zero. | openings: flows over weirs and through gates answer with a number and an error. Conditions: none but that the link reads as data. | links: ends, known, limited, within. Conditions: network, catalogue and link read as data. -/
import Derived.Test.YtoiakijmbghhlaaGreatS18
import Derived.Test.YtoiakijmbghhlaaGreatS05
import Derived.Test.YtoiakijmbghhlaaGreatS14
import Derived.Test.YtoiakijmbghhlaaGreatS13
set_option linter.unusedVariables false
set_option linter.unusedSimpArgs false
set_option maxRecDepth 100000
set_option maxHeartbeats 32000000
namespace Go.Proofs.YtoiakijmbghhlaaGreat
open Go.RowKit
theorem oprod_any (a b:Int) (w:World) :
  Calls Tryz.prog 352 #[.int .i64 a,.int .i64 b] w fun e w'=>(∃ H L:Nat,e=.returned (vCW H L)/\H<18446744073709551616/\L<18446744073709551616)/\Below w.heap.size w w':=by
 obtain ⟨na,x1,ha⟩:=u64_nat a
 obtain ⟨nb,x2,hb⟩:=u64_nat b
 have hm:=fun W=>mul64_any na nb W ha hb
 have hH:na*nb / 18446744073709551616<18446744073709551616:=by
  have h:=Nat.mul_le_mul (Nat.le_of_lt ha) (Nat.le_of_lt_succ (show nb<18446744073709551615+1 by omega))
  omega
 have hL:na*nb % 18446744073709551616<18446744073709551616:=Nat.mod_lt _ (by decide)
 generalize na*nb / 18446744073709551616=H at *
 generalize na*nb % 18446744073709551616=L at *
 have hb0:Below w.heap.size w (w.alloc (.cells #[.int .u64 0,.int .u64 0] 406)):=qr.alloc (Nat.le_refl _) _
 clear ha hb
 go_enter Tryz.func352,Tryz.ntmps352
 go_wp2_with fail
 refine (hm _).mono ?_
 rintro e w1 ⟨rfl,rfl⟩
 go_wp2_with fail
 exact bodyPost_ret (v:=vCW H L) (by simp (maxDischargeDepth:=9) [results,Tryz.results352,go_sem]) rfl ⟨⟨H,L,rfl,hH,hL⟩,bl⟩
theorem otimes_any (H L:Nat) (b:Int) (w:World) (hH:H<18446744073709551616) (hL:L<18446744073709551616) :
  Calls Tryz.prog 353 #[vCW H L,.int .i64 b] w fun e w'=>(∃ H' L':Nat,e=.returned (vCW H' L')/\H'<18446744073709551616/\L'<18446744073709551616)/\Below w.heap.size w w':=by
 obtain ⟨nb,x1,hb⟩:=u64_nat b
 have hm:=fun W=>mul64_any L nb W hL hb
 have hL2:L*nb % 18446744073709551616<18446744073709551616:=Nat.mod_lt _ (by decide)
 generalize L*nb / 18446744073709551616=M at *
 generalize L*nb % 18446744073709551616=L2 at *
 obtain ⟨q1,x2,hq1⟩:=u64_nat ((H:Int)*(nb:Int))
 obtain ⟨q2,x3,hq2⟩:=u64_nat ((M:Int)+(q1:Int))
 have hb0:Below w.heap.size w (w.alloc (.cells #[.int .u64 (H:Int),.int .u64 (L:Int)] 406)):=qr.alloc (Nat.le_refl _) _
 have hb1:=hb0.alloc (by simp) (.cells #[.int .u64 0,.int .u64 0] 406)
 go_enter Tryz.func353,Tryz.ntmps353
 go_wp2_with fail
 refine (hm _).mono ?_
 rintro e w1 ⟨rfl,rfl⟩
 go_wp2_with fail
 exact bodyPost_ret (v:=vCW q2 L2) (by simp (maxDischargeDepth:=9) [results,Tryz.results353,go_sem]) rfl ⟨⟨q2,L2,rfl,hq2,hL2⟩,bl⟩
theorem oover_any (H L b:Nat) (w:World) (hH:H<18446744073709551616) (hL:L<18446744073709551616) (hb:b<9223372036854775808) (h0:0<b) :
  Calls Tryz.prog 354 #[vCW H L,.int .i64 (b:Int)] w fun e w'=>(∃ H' L':Nat,e=.returned (vCW H' L')/\(H'<18446744073709551616/\L'<18446744073709551616)/\(H=0->L=0->H'=0/\L'=0))/\Below w.heap.size w w':=by
 have hlt:H % b<b:=Nat.mod_lt _ h0
 have hz1:H=0->H / b=0:=fun h=>by subst h;simp
 have hz2:H=0->L=0->(H % b*18446744073709551616+L) / b=0:=fun h1 h2=>by subst h1;subst h2;simp
 have hm:=fun W=>div64_any (H % b) L b W hlt hL om
 have hq:(H % b*18446744073709551616+L) / b<18446744073709551616:=Nat.div_lt_of_lt_mul (by
  have:H % b*18446744073709551616+18446744073709551616<=b*18446744073709551616:=by
   have:=Nat.mul_le_mul_right 18446744073709551616 hlt
   rw [Nat.succ_mul] at this
   exact this
  rw [Nat.mul_comm b] at this ⊢
  omega)
 generalize (H % b*18446744073709551616+L) / b=Q at *
 generalize (H % b*18446744073709551616+L) % b=M at *
 have x1:IntKind.u64.wrap (b:Int)=b:=by rw [IntKind.wrap_u64];omega
 obtain ⟨r,hr⟩:∃ r,r=H % b:=⟨_,rfl⟩
 obtain ⟨d,hd⟩:∃ d,d=H / b:=⟨_,rfl⟩
 rw [<-hd] at hz1
 have HZ:Hid (H=0->L=0->d=0/\Q=0):=qh (fun h1 h2=>⟨hz1 h1,hz2 h1 h2⟩)
 clear hz1 hz2
 have hdb:d<18446744073709551616:=by rw [hd];exact Nat.lt_of_le_of_lt (Nat.div_le_self _ _) hH
 have x2:(H:Int).tdiv b=d:=by rw [hd];exact (Int.ofNat_tdiv H b).symm
 have x3:(H:Int).tmod b=r:=by rw [hr];exact (Int.ofNat_tmod H b).symm
 have x4:IntKind.u64.wrap (d:Int)=d:=by rw [IntKind.wrap_u64];omega
 have i1:((b:Int)==0)=false:=by rw [beq_eq_false_iff_ne];omega
 have i2:¬ (b:Int)=0:=by omega
 have i3:¬ b=0:=by omega
 rw [<-hr] at hm hlt
 clear hr hd
 have hb0:Below w.heap.size w (w.alloc (.cells #[.int .u64 (H:Int),.int .u64 (L:Int)] 406)):=qr.alloc (Nat.le_refl _) _
 have hb1:=hb0.alloc (by simp) (.cells #[.int .u64 0,.int .u64 0] 406)
 have y1:=(Bx2.new w H L 406).mono ((Below.refl _ (w.alloc (.cells #[.int .u64 (H:Int),.int .u64 (L:Int)] 406))).alloc (Nat.le_refl _) (.cells #[.int .u64 0,.int .u64 0] 406))
 have y2:Bx2 ((w.alloc (.cells #[.int .u64 (H:Int),.int .u64 (L:Int)] 406)).alloc (.cells #[.int .u64 0,.int .u64 0] 406)) (w.heap.size+1) 0 0:=⟨by simp [go_sem],by simp [go_sem],by simp [go_sem],by simp [go_sem]⟩
 obtain ⟨W,hW⟩:∃ W,W=(w.alloc (.cells #[.int .u64 (H:Int),.int .u64 (L:Int)] 406)).alloc (.cells #[.int .u64 0,.int .u64 0] 406):=⟨_,rfl⟩
 have HW:=qh hW
 rw [<-hW] at hb1 y1 y2
 clear hW hb0
 obtain ⟨c0,c1,f0,f1⟩:=y1
 have Y2:=qh y2
 clear y2
 go_enter Tryz.func354,Tryz.ntmps354
 go_upto_region 1 with (fail)
 rw [<-HW.out]
 clear HW
 go_quiet (fail)
 have y2:=Y2.out.mono (below_drewN qr nq)
 have hb2:=below_drewN hb1 nq
 have c0:(W.drewN nq).cell? ⟨w.heap.size,0,none⟩=some (.int .u64 (H:Int)):=c0
 have c1:(W.drewN nq).cell? ⟨w.heap.size,1,none⟩=some (.int .u64 (L:Int)):=c1
 go_wp2_with fail
 refine Calls.to (hm _) ?_
 rintro e w2 rfl hb3
 have y2:=y2.mono hb3
 have hb4:=hb2.trans (hb3.mono hb2.size)
 obtain ⟨d0,d1,f0,f1⟩:=y2
 clear hm c0 c1 hb3
 go_wp2_with fail
 exact bodyPost_ret (v:=vCW d Q) (by simp (maxDischargeDepth:=9) [results,Tryz.results354,go_sem,d0,d1]) rfl ⟨⟨d,Q,rfl,⟨hdb,hq⟩,HZ.out⟩,bl⟩
theorem oroot_any (H L:Nat) (w:World):Calls Tryz.prog 355 #[vCW H L] w fun e w'=>(∃ r:Nat,e=.returned (.int .i64 (r:Int))/\r<9223372036854775808/\(H=0->L=0->r=0))/\Below w.heap.size w w':=by
 have hb0:Below w.heap.size w (w.alloc (.cells #[.int .u64 (H:Int),.int .u64 (L:Int)] 406)):=qr.alloc (Nat.le_refl _) _
 have y1:=Bx2.new w H L 406
 obtain ⟨W,hW⟩:∃ W,W=(w.alloc (.cells #[.int .u64 (H:Int),.int .u64 (L:Int)] 406)):=⟨_,rfl⟩
 have HW:=qh hW
 rw [<-hW] at hb0 y1
 clear hW
 obtain ⟨c0,c1,-,-⟩:=y1
 go_enter Tryz.func355,Tryz.ntmps355
 go_upto_region 1 with (fail)
 rw [<-HW.out]
 clear HW
 go_wp2_with fail
 go_loopw [3,4] (fun s3 s4 wr=>∃ R B:Nat,R<9223372036854775808/\B<9223372036854775808/\s3=.int .u64 (R:Int)/\s4=.int .u64 (B:Int)/\wr=W/\Hid (H=0->L=0->R=0)) (fun _ s4 _=>(RowKit.intOf s4).toNat)
 case atStart=>exact ⟨0,4611686018427387904,by decide,by decide,rfl,rfl,rfl,qh (fun _ _=>rfl)⟩
 case round=>
  obtain ⟨R,B,hR,hB,rfl,rfl,rfl,hz⟩:=hrel
  by_cases h0:0<B
  ·have i1:decide (0<B)=true:=decide_eq_true h0
   have i2:decide ((0:Int)<B)=true:=decide_eq_true om
   obtain ⟨o1,o2⟩:=or_lt R B hR hB
   obtain ⟨q,hq⟩:∃ q,q=R ||| B:=⟨_,rfl⟩
   rw [<-hq] at o1 o2
   have hm:=mul64_any q q wr om om
   have hq0:¬ (q*q / 18446744073709551616=0/\q*q % 18446744073709551616=0):=fun h=>by
    have h1:q*q=0:=by omega
    have h2:q=0:=by rcases Nat.mul_eq_zero.1 h1 with h|h <;> exact h
    rw [hq,Nat.or_eq_zero_iff] at h2
    omega
   generalize q*q / 18446744073709551616=M at hm hq0
   generalize q*q % 18446744073709551616=N at hm hq0
   have HQ0:=qh hq0
   clear hq0
   obtain ⟨b1,e1⟩:∃ b,decide (M<H)=b:=⟨_,rfl⟩
   obtain ⟨b2,e2⟩:∃ b,((M:Int)==H)=b:=⟨_,rfl⟩
   obtain ⟨b3,e3⟩:∃ b,decide (N<=L)=b:=⟨_,rfl⟩
   clear hq
   have HR:=qh hR
   have HB:=qh hB
   have HQ:=qh o2
   have H0:=qh h0
   clear hR hB o2 h0
   go_wp2_with fail
   refine hm.mono ?_
   rintro e w1 ⟨rfl,rfl⟩
   clear hm
   cases b1
   rotate_left
   ·go_wp2_with fail
    refine ⟨⟨q,B / 2,HQ.out,by have:=HB.out;omega,rfl,by simp,trivial,qh (fun h _=>by subst h;simp at e1)⟩,?_⟩
    simp only [RowKit.intOf]
    have:=H0.out
    omega
   cases b2
   ·go_wp2_with fail
    refine ⟨⟨R,B / 2,HR.out,by have:=HB.out;omega,rfl,by simp,trivial,hz⟩,?_⟩
    simp only [RowKit.intOf]
    have:=H0.out
    omega
   cases b3
   ·go_wp2_with fail
    refine ⟨⟨R,B / 2,HR.out,by have:=HB.out;omega,rfl,by simp,trivial,hz⟩,?_⟩
    simp only [RowKit.intOf]
    have:=H0.out
    omega
   ·go_wp2_with fail
    refine ⟨⟨q,B / 2,HQ.out,by have:=HB.out;omega,rfl,by simp,trivial,qh (fun h h'=>by subst h;subst h';simp at e2 e3;exact absurd ⟨e2,e3⟩ HQ0.out)⟩,?_⟩
    simp only [RowKit.intOf]
    have:=H0.out
    omega
  ·have i1:decide (0<B)=false:=decide_eq_false h0
   have i2:decide ((0:Int)<B)=false:=decide_eq_false om
   have x1:IntKind.i64.wrap (R:Int)=R:=IntWalk.i64_in _ om
   have HR:=qh hR
   clear hR hB h0
   go_wp2_with fail
   go_ret
   exact ⟨⟨R,by simp [go_sem],HR.out,hz.out⟩,hb0⟩
inductive FlowR:Value->Prop
 | mk (q e:Int):FlowR (.tuple #[.int .i64 q,.int .i64 e])
theorem oweir_any (b h:Int) (w:World):Calls Tryz.prog 347 #[.int .i64 b,.int .i64 h] w fun e w'=>(∃ r:Nat,e=.returned (.int .i64 (r:Int)))/\Below w.heap.size w w':=by
 go_enter Tryz.func347,Tryz.ntmps347
 go_wp2_with fail
 refine Calls.to (oprod_any _ _ _) ?_
 rintro e w1 ⟨H,L,rfl,hH,hL⟩ hb1
 have HB:=qh (And.intro hH hL)
 clear hH hL
 go_wp2_with fail
 refine Calls.to (otimes_any H L _ _ HB.out.1 HB.out.2) ?_
 rintro e w2 ⟨H2,L2,rfl,hH,hL⟩ hb2
 have HB:=qh (And.intro hH hL)
 have hbw:=hb1.trans (hb2.mono hb1.size)
 clear hH hL hb1 hb2
 go_wp2_with fail
 refine Calls.to (otimes_any H2 L2 _ _ HB.out.1 HB.out.2) ?_
 rintro e w3 ⟨H3,L3,rfl,hH,hL⟩ hb2
 have HB:=qh (And.intro hH hL)
 have hbw:=hbw.trans (hb2.mono hbw.size)
 clear hH hL hb2
 go_wp2_with fail
 refine Calls.to (oover_any H3 L3 100000 _ HB.out.1 HB.out.2 (by decide) (by decide)) ?_
 rintro e w4 ⟨H4,L4,rfl,-,-⟩ hb2
 have hbw:=hbw.trans (hb2.mono hbw.size)
 clear hb2
 go_wp2_with fail
 refine Calls.to (oroot_any H4 L4 _) ?_
 rintro e w5 ⟨r,rfl,-,-⟩ hb2
 have hbw:=hbw.trans (hb2.mono hbw.size)
 clear hb2
 go_wp2_with fail
 go_ret
 exact ⟨⟨r,rfl⟩,hbw⟩
theorem oorif_any (b h:Int) (w:World):Calls Tryz.prog 356 #[.int .i64 b,.int .i64 h] w fun e w'=>(∃ r:Nat,e=.returned (.int .i64 (r:Int)))/\Below w.heap.size w w':=by
 go_enter Tryz.func356,Tryz.ntmps356
 go_wp2_with fail
 refine Calls.to (oprod_any _ _ _) ?_
 rintro e w1 ⟨H,L,rfl,hH,hL⟩ hb1
 have HB:=qh (And.intro hH hL)
 clear hH hL
 go_wp2_with fail
 refine Calls.to (otimes_any H L _ _ HB.out.1 HB.out.2) ?_
 rintro e w2 ⟨H2,L2,rfl,hH,hL⟩ hb2
 have HB:=qh (And.intro hH hL)
 have hbw:=hb1.trans (hb2.mono hb1.size)
 clear hH hL hb1 hb2
 go_wp2_with fail
 refine Calls.to (otimes_any H2 L2 _ _ HB.out.1 HB.out.2) ?_
 rintro e w3 ⟨H3,L3,rfl,hH,hL⟩ hb2
 have HB:=qh (And.intro hH hL)
 have hbw:=hbw.trans (hb2.mono hbw.size)
 clear hH hL hb2
 go_wp2_with fail
 refine Calls.to (oover_any H3 L3 1250000 _ HB.out.1 HB.out.2 (by decide) (by decide)) ?_
 rintro e w4 ⟨H4,L4,rfl,-,-⟩ hb2
 have hbw:=hbw.trans (hb2.mono hbw.size)
 clear hb2
 go_wp2_with fail
 refine Calls.to (oroot_any H4 L4 _) ?_
 rintro e w5 ⟨r,rfl,-,-⟩ hb2
 have hbw:=hbw.trans (hb2.mono hbw.size)
 clear hb2
 go_wp2_with fail
 go_ret
 exact ⟨⟨r,rfl⟩,hbw⟩
theorem owithin_any (n lo hi:Int) (w:World):Calls Tryz.prog 349 #[.int .i64 n,.int .i64 lo,.int .i64 hi] w fun e w'=>e=.returned (.bool (btwB n lo hi))/\w'=w:=by
 by_cases h1:lo<=n <;> by_cases h2:n<=hi
 all_goals
  go_enter Tryz.func349,Tryz.ntmps349
  go_wp2_with fail
  go_ret
  exact ⟨ret_bool (by simp [btwB,h1,h2]),rfl⟩
theorem olevel_any (n:Int) (w:World):Calls Tryz.prog 344 #[.int .i64 n] w fun e w'=>e=.returned (.bool (btwB n (-4194304) 4194304))/\w'=w:=by
 obtain ⟨b,hb⟩:∃ b,btwB n (-4194304) 4194304=b:=⟨_,rfl⟩
 have hw:=owithin_any n (-4194304) 4194304 w
 rw [hb] at hw ⊢
 clear hb
 go_enter Tryz.func344,Tryz.ntmps344
 go_wp2_with fail
 refine hw.mono ?_
 rintro e w1 ⟨rfl,rfl⟩
 go_wp2_with fail
 go_ret
 exact ⟨rfl,rfl⟩
theorem oflow_any (q:Int) (w:World):Calls Tryz.prog 346 #[.int .i64 q] w fun e w'=>(∃ u,e=.returned u/\FlowR u)/\w'=w:=by
 cases h:decide (1099511627776<q)
 all_goals
  go_enter Tryz.func346,Tryz.ntmps346
  go_wp2_with fail
  go_ret2
  exact ⟨⟨_,rfl,.mk _ _⟩,rfl⟩
theorem bxLk (w W:World) (T:TypeId) (x:Lk) (cs:Array Value) (hcs:cs=(eLk x).toArray) (B:Nat) (hB:B=w.heap.size+1) (hb:Below B (w.alloc (.cells cs T)) W) :
  (W.cell? ⟨w.heap.size,0,none⟩=some (.string x.Name)/\W.cell? ⟨w.heap.size,1,none⟩=some (.string x.From)/\W.cell? ⟨w.heap.size,2,none⟩=some (.string x.To)) /\
  (W.cell? ⟨w.heap.size,3,none⟩=some (.int .i64 x.Kind)/\W.cell? ⟨w.heap.size,4,none⟩=some (.int .i64 x.Len)/\W.cell? ⟨w.heap.size,5,none⟩=some (.int .i64 x.Up)/\W.cell? ⟨w.heap.size,6,none⟩=some (.int .i64 x.Down)) /\
  (W.cell? ⟨w.heap.size,7,none⟩=some (.string x.Sec)/\W.cell? ⟨w.heap.size,8,none⟩=some (.int .i64 x.Wi)/\W.cell? ⟨w.heap.size,9,none⟩=some (.int .i64 x.He)/\W.cell? ⟨w.heap.size,10,none⟩=some (.slice x.Cu.a x.Cu.xs.length x.Cu.cap)):=by
 subst hB;subst hcs
 have h:∀ j v,(w.alloc (.cells (eLk x).toArray T)).cell? ⟨w.heap.size,j,none⟩=some v->W.cell? ⟨w.heap.size,j,none⟩=some v:=fun j v hv=>(hb.cell (p:=⟨w.heap.size,j,none⟩) (by simp)).trans hv
 exact ⟨⟨h _ _ (by simp [go_sem]),h _ _ (by simp [go_sem]),h _ _ (by simp [go_sem])⟩,⟨h _ _ (by simp [go_sem]),h _ _ (by simp [go_sem]),h _ _ (by simp [go_sem]),h _ _ (by simp [go_sem])⟩,h _ _ (by simp [go_sem]),h _ _ (by simp [go_sem]),h _ _ (by simp [go_sem]),h _ _ (by simp [go_sem])⟩
def oweirB (x:Lk):Bool:=decide (x.Kind=2)&&(btwB x.Up (-4194304) 4194304&&btwB x.Wi 1 1048576)
def ogateB (x:Lk):Bool:=decide (x.Kind=3)&&(btwB x.Up (-4194304) 4194304&&(btwB x.Wi 1 32768&&btwB x.He 1 32768))
abbrev IsSecL (w:World) (v:Value) (xs:List SecD):Prop:=IsL eSec 5 w v xs
theorem indexSec (g:Nat) (lb:Array Value) (eg:∀ args w,(callFunc g args).run Tryz.prog w=.ok (.enter g args) w) (p:SecD->Bool) (xs:List SecD) (v:Value) (w:World)
  (hv:IsSecL w v xs) (hp:PredOn Tryz.prog g lb vSec p xs w) :
  Calls Tryz.prog 117 #[v,.func (.func g) #[] lb] w fun e w'=>e=.returned (.int .i64 (idxFrom p xs 0))/\Below w.heap.size w w':=by
 obtain ⟨a,cap,rfl,hcap,hbig,hs⟩:=hv
 go_enter Tryz.func117,Tryz.ntmps117
 go_wp2
 go_loopw [5,8] (fun _ s8 wr=>∃ k:Nat,k<=xs.length/\s8=.int .i64 k/\Below w.heap.size w wr/\Hid (idxFrom p xs 0=idxFrom p (xs.drop k) k)) (fun _ i _=>xs.length-(RowKit.intOf i).toNat)
 case atStart=>exact ⟨0,Nat.zero_le _,rfl,qr,rfl⟩
 case round=>
  obtain ⟨k,hk,rfl,hb,hm⟩:=hrel
  by_cases hlt:k<xs.length
  ·obtain ⟨b,off,rfl,c0,c1,c2,c3,c4⟩:=(hs.mono hb).sec k hlt
   have hx:=hp wr hb xs[k] (List.getElem_mem hlt)
   have hstep:Hid (idxFrom p (xs.drop k) k=if p xs[k] then (k:Int) else idxFrom p (xs.drop (k+1)) (k+1)):=by
    rw [List.drop_eq_getElem_cons hlt];rfl
   clear hs hp
   generalize xs[k]=y at *
   cases hpy:p y
   all_goals
    rw [hpy] at hx hstep
    clear hpy
    go_wp2_with fail
    refine (Calls.to hx ?_)
    rintro e w1 rfl hb1
    have hbb:=hb.trans (hb1.mono hb.size)
    go_wp2_with fail
   ·go_roundw
    case rel=>exact ⟨k+1,by omega,by go_num,bl,hm.out.trans (hstep.out.trans (by simp))⟩
    case measure=>simp [RowKit.intOf];omega
   ·go_ret
    exact ⟨ret_int (hm.out.trans (hstep.out.trans (by simp))).symm,bl⟩
  ·go_wp2
   go_ret
   refine ⟨ret_int ?_,bl⟩
   rw [hm.out,List.drop_eq_nil_of_le om];rfl
theorem containsSec (g:Nat) (lb:Array Value) (eg:∀ args w,(callFunc g args).run Tryz.prog w=.ok (.enter g args) w) (p:SecD->Bool) (xs:List SecD) (v:Value) (w:World)
  (hv:IsSecL w v xs) (hp:PredOn Tryz.prog g lb vSec p xs w) :
  Calls Tryz.prog 47 #[v,.func (.func g) #[] lb] w fun e w'=>e=.returned (.bool (xs.any p))/\Below w.heap.size w w':=by
 go_enter Tryz.func47,Tryz.ntmps47
 go_wp2_with fail
 refine Calls.to (indexSec g lb eg p xs v w hv hp) ?_
 rintro e w1 rfl hb
 go_wp2_with fail
 go_ret
 exact ⟨ret_bool (idxFrom_any p xs 0),hb⟩
theorem ent309:∀ args w,(callFunc 309 args).run Tryz.prog w=.ok (.enter 309 args) w:=by
 intro args w
 simp [go_sem]
theorem ent310:∀ args w,(callFunc 310 args).run Tryz.prog w=.ok (.enter 310 args) w:=by
 intro args w
 simp [go_sem]
theorem ent314:∀ args w,(callFunc 314 args).run Tryz.prog w=.ok (.enter 314 args) w:=by
 intro args w
 simp [go_sem]
theorem ent335:∀ args w,(callFunc 335 args).run Tryz.prog w=.ok (.enter 335 args) w:=by
 intro args w
 simp [go_sem]
theorem ends1_any (x:Nd) (nm:ByteArray) (B:Nat) (w:World) (hc:w.cell? ⟨B,1,none⟩=some (.string nm)) :
  Calls Tryz.prog 309 #[vNd x,.pointer (some ⟨B,0,none⟩)] w fun e w'=>e=.returned (.bool (strB x.Name nm))/\Below w.heap.size w w':=by
 have H:Hid (strB x.Name nm=(x.Name.toList==nm.toList)):=rfl
 obtain ⟨xn,kd,ax,ay,iv,gr,⟨sa,scap,sxs⟩,pr,rs⟩:=x
 simp only at H
 simp only [vNd]
 generalize strB xn nm=r at *
 cases h:(xn.toList==nm.toList)
 all_goals
  have HH:=qh (H.out.trans h)
  clear H
  go_enter Tryz.func309,Tryz.ntmps309
  go_wp2_with fail
  go_ret
  exact ⟨ret_bool HH.out.symm,bl⟩
theorem ends2_any (x:Nd) (nm:ByteArray) (B:Nat) (w:World) (hc:w.cell? ⟨B,2,none⟩=some (.string nm)) :
  Calls Tryz.prog 310 #[vNd x,.pointer (some ⟨B,0,none⟩)] w fun e w'=>e=.returned (.bool (strB x.Name nm))/\Below w.heap.size w w':=by
 have H:Hid (strB x.Name nm=(x.Name.toList==nm.toList)):=rfl
 obtain ⟨xn,kd,ax,ay,iv,gr,⟨sa,scap,sxs⟩,pr,rs⟩:=x
 simp only at H
 simp only [vNd]
 generalize strB xn nm=r at *
 cases h:(xn.toList==nm.toList)
 all_goals
  have HH:=qh (H.out.trans h)
  clear H
  go_enter Tryz.func310,Tryz.ntmps310
  go_wp2_with fail
  go_ret
  exact ⟨ret_bool HH.out.symm,bl⟩
theorem known1_any (x:SecD) (nm:ByteArray) (B:Nat) (w:World) (hc:w.cell? ⟨B,7,none⟩=some (.string nm)) :
  Calls Tryz.prog 314 #[vSec x,.pointer (some ⟨B,0,none⟩)] w fun e w'=>e=.returned (.bool (strB x.N nm))/\Below w.heap.size w w':=by
 have H:Hid (strB x.N nm=(x.N.toList==nm.toList)):=rfl
 obtain ⟨xn,ht,pr,⟨sa,scap,sxs⟩,⟨ta,tcap,txs⟩⟩:=x
 simp only at H
 simp only [vSec]
 generalize strB xn nm=r at *
 cases h:(xn.toList==nm.toList)
 all_goals
  have HH:=qh (H.out.trans h)
  clear H
  go_enter Tryz.func314,Tryz.ntmps314
  go_wp2_with fail
  go_ret
  exact ⟨ret_bool HH.out.symm,bl⟩
theorem between1_any (x:SecD) (nm:ByteArray) (B:Nat) (w:World) (hc:w.cell? ⟨B,7,none⟩=some (.string nm)) :
  Calls Tryz.prog 335 #[vSec x,.pointer (some ⟨B,0,none⟩)] w fun e w'=>e=.returned (.bool (strB x.N nm))/\Below w.heap.size w w':=by
 have H:Hid (strB x.N nm=(x.N.toList==nm.toList)):=rfl
 obtain ⟨xn,ht,pr,⟨sa,scap,sxs⟩,⟨ta,tcap,txs⟩⟩:=x
 simp only at H
 simp only [vSec]
 generalize strB xn nm=r at *
 cases h:(xn.toList==nm.toList)
 all_goals
  have HH:=qh (H.out.trans h)
  clear H
  go_enter Tryz.func335,Tryz.ntmps335
  go_wp2_with fail
  go_ret
  exact ⟨ret_bool HH.out.symm,bl⟩
theorem lends_any (n:Net) (x:Lk) (w:World) (hv:IsNds w (vSl n.Ns) n.Ns.xs) :
  Calls Tryz.prog 272 #[vNet n,vLk x] w fun e w'=>e=.returned (.tuple #[.int .i64 (findNd n.Ns.xs x.From),.int .i64 (findNd n.Ns.xs x.To)])/\Below w.heap.size w w':=by
 have hb0:Below w.heap.size w (w.alloc (.cells (eNet n).toArray 25)):=qr.alloc (Nat.le_refl _) _
 have hbn:=boxNet w (w.alloc (.cells (eNet n).toArray 25)) 25 n _ rfl _ rfl qr
 obtain ⟨W0,hW0⟩:∃ W0,W0=w.alloc (.cells (eNet n).toArray 25):=⟨_,rfl⟩
 have HW0:=qh hW0
 rw [<-hW0] at hb0 hbn
 have hs0:W0.heap.size=w.heap.size+1:=by rw [hW0];simp
 have hb1:Below W0.heap.size W0 (W0.alloc (.cells (eLk x).toArray 61)):=qr.alloc (Nat.le_refl _) _
 have hbx:=bxLk W0 (W0.alloc (.cells (eLk x).toArray 61)) 61 x _ rfl _ rfl qr
 obtain ⟨W,hW⟩:∃ W,W=W0.alloc (.cells (eLk x).toArray 61):=⟨_,rfl⟩
 have HW:=qh hW
 rw [<-hW] at hb1 hbx
 rw [hs0] at hbx
 obtain ⟨⟨k0,k1,k2⟩,⟨k3,k4,k5,k6⟩,k7,k8,k9,k10⟩:=hbx
 obtain ⟨q0,q1⟩:=hbn
 have q0:=cel_lt q0 hb1
 have hbw:=hb0.trans (hb1.mono hb0.size)
 have HV:=qh (hv.mono hbw)
 obtain ⟨r1,hr1⟩:∃ r,r=findNd n.Ns.xs x.From:=⟨_,rfl⟩
 obtain ⟨r2,hr2⟩:∃ r,r=findNd n.Ns.xs x.To:=⟨_,rfl⟩
 rw [<-hr1,<-hr2]
 have h1:=indexNd 309 #[.pointer (some ⟨w.heap.size+1,0,none⟩)] ent309 (fun y=>strB y.Name x.From) n.Ns.xs _ W HV.out (fun V hV y _=>ends1_any y x.From _ V (cel_lt k1 hV))
 have h2:=fun V (hV:Below W.heap.size W V)=>indexNd 310 #[.pointer (some ⟨w.heap.size+1,0,none⟩)] ent310 (fun y=>strB y.Name x.To) n.Ns.xs _ V (HV.out.mono hV) (fun V' hV' y _=>ends2_any y x.To _ V' (cel_lt (cel_lt k2 hV) hV'))
 unfold findNd at hr1 hr2
 rw [<-hr1] at h1
 simp only [<-hr2] at h2
 have H2:=qh h2
 simp only [vNet,vLk,vSl] at h1 q0 ⊢
 clear hW hW0 hv hb0 hb1 h2 hr1 hr2 hs0 k0 k1 k2 k3 k4 k5 k6 k7 k8 k9 k10 q1
 go_enter Tryz.func272,Tryz.ntmps272
 go_upto_region 1 with (fail)
 rw [<-HW0.out]
 rw [<-HW.out]
 clear HW HW0
 go_wp2_with fail
 refine Calls.to h1 ?_
 rintro e w1 rfl hb1
 have h2:=H2.out w1 hb1
 have q0:=cel_lt q0 hb1
 have hbw:=hbw.trans (hb1.mono hbw.size)
 simp only [vSl] at h2
 clear h1 H2 hb1
 go_wp2_with fail
 refine Calls.to h2 ?_
 rintro e w2 rfl hb1
 have hbw:=hbw.trans (hb1.mono hbw.size)
 go_wp2_with fail
 go_ret2
 exact ⟨rfl,hbw⟩
theorem llimited_any (q e:Int) (w:World):Calls Tryz.prog 337 #[.int .i64 q,.int .i64 e] w fun e w'=>(∃ u,e=.returned u/\FlowR u)/\w'=w:=by
 obtain ⟨b,h⟩:∃ b,(e==5)=b:=⟨_,rfl⟩
 have h':decide (e=5)=b:=by rw [<-h];rfl
 cases b
 all_goals
  go_enter Tryz.func337,Tryz.ntmps337
  go_wp2_with fail
  go_ret2
  exact ⟨⟨_,rfl,.mk _ _⟩,rfl⟩
end Go.Proofs.YtoiakijmbghhlaaGreat
