/- openings: flows over weirs and through gates answer with a number and an error. Conditions: none but that the link reads as data. | links: ends, known, limited, within. Conditions: network, catalogue and link read as data. | openings: Over, Gate answer with a number and an error. Conditions: none. | openings: Over, Gate answer with a number and an error. Conditions: none. | links: pipe, known, levelled. Conditions: network, catalogue and link read as data. -/
import Derived.Test.YtoiakijmbghhlaaGreatS18
import Derived.Test.YtoiakijmbghhlaaGreatS03
import Derived.Test.YtoiakijmbghhlaaGreatS14
import Derived.Test.YtoiakijmbghhlaaGreatS13
set_option linter.unusedVariables false
set_option linter.unusedSimpArgs false
set_option maxRecDepth 100000
set_option maxHeartbeats 32000000
namespace Go.Proofs.YtoiakijmbghhlaaGreat
open Go.RowKit
inductive FlowR:Value->Prop
 | mk (q e:Int):FlowR (.tuple #[.int .i64 q,.int .i64 e])
theorem oweir_any (b h:Int) (w:World):Calls Tryz.prog 347 #[.int .i64 b,.int .i64 h] w fun e w'=>(∃ r:Nat,e=.returned (.int .i64 (r:Int)))/\Below w.heap.size w w':=by
 go_enter Tryz.func347,Tryz.ntmps347
 go_wp2_with fail
 refine Calls.to (oprod_any _ _ _) ?_
 rintro e w1 ⟨H,L,rfl,hH,hL⟩ hb1
 have HB:=qh (And.intro hH hL)
 clear hH hL
 go_wp2_with fail
 refine Calls.to (otimes_any H L _ _ HB.out.1 HB.out.2) ?_
 rintro e w2 ⟨H2,L2,rfl,hH,hL⟩ hb2
 have HB:=qh (And.intro hH hL)
 have hbw:=hb1.trans (hb2.mono hb1.size)
 clear hH hL hb1 hb2
 go_wp2_with fail
 refine Calls.to (otimes_any H2 L2 _ _ HB.out.1 HB.out.2) ?_
 rintro e w3 ⟨H3,L3,rfl,hH,hL⟩ hb2
 have HB:=qh (And.intro hH hL)
 have hbw:=hbw.trans (hb2.mono hbw.size)
 clear hH hL hb2
 go_wp2_with fail
 refine Calls.to (oover_any H3 L3 100000 _ HB.out.1 HB.out.2 (by decide) (by decide)) ?_
 rintro e w4 ⟨H4,L4,rfl,-,-⟩ hb2
 have hbw:=hbw.trans (hb2.mono hbw.size)
 clear hb2
 go_wp2_with fail
 refine Calls.to (oroot_any H4 L4 _) ?_
 rintro e w5 ⟨r,rfl,-,-⟩ hb2
 have hbw:=hbw.trans (hb2.mono hbw.size)
 clear hb2
 go_wp2_with fail
 go_ret
 exact ⟨⟨r,rfl⟩,hbw⟩
theorem oorif_any (b h:Int) (w:World):Calls Tryz.prog 356 #[.int .i64 b,.int .i64 h] w fun e w'=>(∃ r:Nat,e=.returned (.int .i64 (r:Int)))/\Below w.heap.size w w':=by
 go_enter Tryz.func356,Tryz.ntmps356
 go_wp2_with fail
 refine Calls.to (oprod_any _ _ _) ?_
 rintro e w1 ⟨H,L,rfl,hH,hL⟩ hb1
 have HB:=qh (And.intro hH hL)
 clear hH hL
 go_wp2_with fail
 refine Calls.to (otimes_any H L _ _ HB.out.1 HB.out.2) ?_
 rintro e w2 ⟨H2,L2,rfl,hH,hL⟩ hb2
 have HB:=qh (And.intro hH hL)
 have hbw:=hb1.trans (hb2.mono hb1.size)
 clear hH hL hb1 hb2
 go_wp2_with fail
 refine Calls.to (otimes_any H2 L2 _ _ HB.out.1 HB.out.2) ?_
 rintro e w3 ⟨H3,L3,rfl,hH,hL⟩ hb2
 have HB:=qh (And.intro hH hL)
 have hbw:=hbw.trans (hb2.mono hbw.size)
 clear hH hL hb2
 go_wp2_with fail
 refine Calls.to (oover_any H3 L3 1250000 _ HB.out.1 HB.out.2 (by decide) (by decide)) ?_
 rintro e w4 ⟨H4,L4,rfl,-,-⟩ hb2
 have hbw:=hbw.trans (hb2.mono hbw.size)
 clear hb2
 go_wp2_with fail
 refine Calls.to (oroot_any H4 L4 _) ?_
 rintro e w5 ⟨r,rfl,-,-⟩ hb2
 have hbw:=hbw.trans (hb2.mono hbw.size)
 clear hb2
 go_wp2_with fail
 go_ret
 exact ⟨⟨r,rfl⟩,hbw⟩
theorem owithin_any (n lo hi:Int) (w:World):Calls Tryz.prog 349 #[.int .i64 n,.int .i64 lo,.int .i64 hi] w fun e w'=>e=.returned (.bool (btwB n lo hi))/\w'=w:=by
 by_cases h1:lo<=n <;> by_cases h2:n<=hi
 all_goals
  go_enter Tryz.func349,Tryz.ntmps349
  go_wp2_with fail
  go_ret
  exact ⟨ret_bool (by simp [btwB,h1,h2]),rfl⟩
theorem olevel_any (n:Int) (w:World):Calls Tryz.prog 344 #[.int .i64 n] w fun e w'=>e=.returned (.bool (btwB n (-4194304) 4194304))/\w'=w:=by
 obtain ⟨b,hb⟩:∃ b,btwB n (-4194304) 4194304=b:=⟨_,rfl⟩
 have hw:=owithin_any n (-4194304) 4194304 w
 rw [hb] at hw ⊢
 clear hb
 go_enter Tryz.func344,Tryz.ntmps344
 go_wp2_with fail
 refine hw.mono ?_
 rintro e w1 ⟨rfl,rfl⟩
 go_wp2_with fail
 go_ret
 exact ⟨rfl,rfl⟩
theorem oflow_any (q:Int) (w:World):Calls Tryz.prog 346 #[.int .i64 q] w fun e w'=>(∃ u,e=.returned u/\FlowR u)/\w'=w:=by
 cases h:decide (1099511627776<q)
 all_goals
  go_enter Tryz.func346,Tryz.ntmps346
  go_wp2_with fail
  go_ret2
  exact ⟨⟨_,rfl,.mk _ _⟩,rfl⟩
theorem bxLk (w W:World) (T:TypeId) (x:Lk) (cs:Array Value) (hcs:cs=(eLk x).toArray) (B:Nat) (hB:B=w.heap.size+1) (hb:Below B (w.alloc (.cells cs T)) W) :
  (W.cell? ⟨w.heap.size,0,none⟩=some (.string x.Name)/\W.cell? ⟨w.heap.size,1,none⟩=some (.string x.From)/\W.cell? ⟨w.heap.size,2,none⟩=some (.string x.To)) /\
  (W.cell? ⟨w.heap.size,3,none⟩=some (.int .i64 x.Kind)/\W.cell? ⟨w.heap.size,4,none⟩=some (.int .i64 x.Len)/\W.cell? ⟨w.heap.size,5,none⟩=some (.int .i64 x.Up)/\W.cell? ⟨w.heap.size,6,none⟩=some (.int .i64 x.Down)) /\
  (W.cell? ⟨w.heap.size,7,none⟩=some (.string x.Sec)/\W.cell? ⟨w.heap.size,8,none⟩=some (.int .i64 x.Wi)/\W.cell? ⟨w.heap.size,9,none⟩=some (.int .i64 x.He)/\W.cell? ⟨w.heap.size,10,none⟩=some (.slice x.Cu.a x.Cu.xs.length x.Cu.cap)):=by
 subst hB;subst hcs
 have h:∀ j v,(w.alloc (.cells (eLk x).toArray T)).cell? ⟨w.heap.size,j,none⟩=some v->W.cell? ⟨w.heap.size,j,none⟩=some v:=fun j v hv=>(hb.cell (p:=⟨w.heap.size,j,none⟩) (by simp)).trans hv
 exact ⟨⟨h _ _ (by simp [go_sem]),h _ _ (by simp [go_sem]),h _ _ (by simp [go_sem])⟩,⟨h _ _ (by simp [go_sem]),h _ _ (by simp [go_sem]),h _ _ (by simp [go_sem]),h _ _ (by simp [go_sem])⟩,h _ _ (by simp [go_sem]),h _ _ (by simp [go_sem]),h _ _ (by simp [go_sem]),h _ _ (by simp [go_sem])⟩
def oweirB (x:Lk):Bool:=decide (x.Kind=2)&&(btwB x.Up (-4194304) 4194304&&btwB x.Wi 1 1048576)
def ogateB (x:Lk):Bool:=decide (x.Kind=3)&&(btwB x.Up (-4194304) 4194304&&(btwB x.Wi 1 32768&&btwB x.He 1 32768))
abbrev IsSecL (w:World) (v:Value) (xs:List SecD):Prop:=IsL eSec 5 w v xs
theorem indexSec (g:Nat) (lb:Array Value) (eg:∀ args w,(callFunc g args).run Tryz.prog w=.ok (.enter g args) w) (p:SecD->Bool) (xs:List SecD) (v:Value) (w:World)
  (hv:IsSecL w v xs) (hp:PredOn Tryz.prog g lb vSec p xs w) :
  Calls Tryz.prog 117 #[v,.func (.func g) #[] lb] w fun e w'=>e=.returned (.int .i64 (idxFrom p xs 0))/\Below w.heap.size w w':=by
 obtain ⟨a,cap,rfl,hcap,hbig,hs⟩:=hv
 go_enter Tryz.func117,Tryz.ntmps117
 go_wp2
 go_loopw [5,8] (fun _ s8 wr=>∃ k:Nat,k<=xs.length/\s8=.int .i64 k/\Below w.heap.size w wr/\Hid (idxFrom p xs 0=idxFrom p (xs.drop k) k)) (fun _ i _=>xs.length-(RowKit.intOf i).toNat)
 case atStart=>exact ⟨0,Nat.zero_le _,rfl,qr,rfl⟩
 case round=>
  obtain ⟨k,hk,rfl,hb,hm⟩:=hrel
  by_cases hlt:k<xs.length
  ·obtain ⟨b,off,rfl,c0,c1,c2,c3,c4⟩:=(hs.mono hb).sec k hlt
   have hx:=hp wr hb xs[k] (List.getElem_mem hlt)
   have hstep:Hid (idxFrom p (xs.drop k) k=if p xs[k] then (k:Int) else idxFrom p (xs.drop (k+1)) (k+1)):=by
    rw [List.drop_eq_getElem_cons hlt];rfl
   clear hs hp
   generalize xs[k]=y at *
   cases hpy:p y
   all_goals
    rw [hpy] at hx hstep
    clear hpy
    go_wp2_with fail
    refine (Calls.to hx ?_)
    rintro e w1 rfl hb1
    have hbb:=hb.trans (hb1.mono hb.size)
    go_wp2_with fail
   ·go_roundw
    case rel=>exact ⟨k+1,by omega,by go_num,bl,hm.out.trans (hstep.out.trans (by simp))⟩
    case measure=>simp [RowKit.intOf];omega
   ·go_ret
    exact ⟨ret_int (hm.out.trans (hstep.out.trans (by simp))).symm,bl⟩
  ·go_wp2
   go_ret
   refine ⟨ret_int ?_,bl⟩
   rw [hm.out,List.drop_eq_nil_of_le om];rfl
theorem containsSec (g:Nat) (lb:Array Value) (eg:∀ args w,(callFunc g args).run Tryz.prog w=.ok (.enter g args) w) (p:SecD->Bool) (xs:List SecD) (v:Value) (w:World)
  (hv:IsSecL w v xs) (hp:PredOn Tryz.prog g lb vSec p xs w) :
  Calls Tryz.prog 47 #[v,.func (.func g) #[] lb] w fun e w'=>e=.returned (.bool (xs.any p))/\Below w.heap.size w w':=by
 go_enter Tryz.func47,Tryz.ntmps47
 go_wp2_with fail
 refine Calls.to (indexSec g lb eg p xs v w hv hp) ?_
 rintro e w1 rfl hb
 go_wp2_with fail
 go_ret
 exact ⟨ret_bool (idxFrom_any p xs 0),hb⟩
theorem ent309:∀ args w,(callFunc 309 args).run Tryz.prog w=.ok (.enter 309 args) w:=by
 intro args w
 simp [go_sem]
theorem ent310:∀ args w,(callFunc 310 args).run Tryz.prog w=.ok (.enter 310 args) w:=by
 intro args w
 simp [go_sem]
theorem ent314:∀ args w,(callFunc 314 args).run Tryz.prog w=.ok (.enter 314 args) w:=by
 intro args w
 simp [go_sem]
theorem ent335:∀ args w,(callFunc 335 args).run Tryz.prog w=.ok (.enter 335 args) w:=by
 intro args w
 simp [go_sem]
theorem ends1_any (x:Nd) (nm:ByteArray) (B:Nat) (w:World) (hc:w.cell? ⟨B,1,none⟩=some (.string nm)) :
  Calls Tryz.prog 309 #[vNd x,.pointer (some ⟨B,0,none⟩)] w fun e w'=>e=.returned (.bool (strB x.Name nm))/\Below w.heap.size w w':=by
 have H:Hid (strB x.Name nm=(x.Name.toList==nm.toList)):=rfl
 obtain ⟨xn,kd,ax,ay,iv,gr,⟨sa,scap,sxs⟩,pr,rs⟩:=x
 simp only at H
 simp only [vNd]
 generalize strB xn nm=r at *
 cases h:(xn.toList==nm.toList)
 all_goals
  have HH:=qh (H.out.trans h)
  clear H
  go_enter Tryz.func309,Tryz.ntmps309
  go_wp2_with fail
  go_ret
  exact ⟨ret_bool HH.out.symm,bl⟩
theorem ends2_any (x:Nd) (nm:ByteArray) (B:Nat) (w:World) (hc:w.cell? ⟨B,2,none⟩=some (.string nm)) :
  Calls Tryz.prog 310 #[vNd x,.pointer (some ⟨B,0,none⟩)] w fun e w'=>e=.returned (.bool (strB x.Name nm))/\Below w.heap.size w w':=by
 have H:Hid (strB x.Name nm=(x.Name.toList==nm.toList)):=rfl
 obtain ⟨xn,kd,ax,ay,iv,gr,⟨sa,scap,sxs⟩,pr,rs⟩:=x
 simp only at H
 simp only [vNd]
 generalize strB xn nm=r at *
 cases h:(xn.toList==nm.toList)
 all_goals
  have HH:=qh (H.out.trans h)
  clear H
  go_enter Tryz.func310,Tryz.ntmps310
  go_wp2_with fail
  go_ret
  exact ⟨ret_bool HH.out.symm,bl⟩
theorem known1_any (x:SecD) (nm:ByteArray) (B:Nat) (w:World) (hc:w.cell? ⟨B,7,none⟩=some (.string nm)) :
  Calls Tryz.prog 314 #[vSec x,.pointer (some ⟨B,0,none⟩)] w fun e w'=>e=.returned (.bool (strB x.N nm))/\Below w.heap.size w w':=by
 have H:Hid (strB x.N nm=(x.N.toList==nm.toList)):=rfl
 obtain ⟨xn,ht,pr,⟨sa,scap,sxs⟩,⟨ta,tcap,txs⟩⟩:=x
 simp only at H
 simp only [vSec]
 generalize strB xn nm=r at *
 cases h:(xn.toList==nm.toList)
 all_goals
  have HH:=qh (H.out.trans h)
  clear H
  go_enter Tryz.func314,Tryz.ntmps314
  go_wp2_with fail
  go_ret
  exact ⟨ret_bool HH.out.symm,bl⟩
theorem between1_any (x:SecD) (nm:ByteArray) (B:Nat) (w:World) (hc:w.cell? ⟨B,7,none⟩=some (.string nm)) :
  Calls Tryz.prog 335 #[vSec x,.pointer (some ⟨B,0,none⟩)] w fun e w'=>e=.returned (.bool (strB x.N nm))/\Below w.heap.size w w':=by
 have H:Hid (strB x.N nm=(x.N.toList==nm.toList)):=rfl
 obtain ⟨xn,ht,pr,⟨sa,scap,sxs⟩,⟨ta,tcap,txs⟩⟩:=x
 simp only at H
 simp only [vSec]
 generalize strB xn nm=r at *
 cases h:(xn.toList==nm.toList)
 all_goals
  have HH:=qh (H.out.trans h)
  clear H
  go_enter Tryz.func335,Tryz.ntmps335
  go_wp2_with fail
  go_ret
  exact ⟨ret_bool HH.out.symm,bl⟩
theorem lends_any (n:Net) (x:Lk) (w:World) (hv:IsNds w (vSl n.Ns) n.Ns.xs) :
  Calls Tryz.prog 272 #[vNet n,vLk x] w fun e w'=>e=.returned (.tuple #[.int .i64 (findNd n.Ns.xs x.From),.int .i64 (findNd n.Ns.xs x.To)])/\Below w.heap.size w w':=by
 have hb0:Below w.heap.size w (w.alloc (.cells (eNet n).toArray 25)):=qr.alloc (Nat.le_refl _) _
 have hbn:=boxNet w (w.alloc (.cells (eNet n).toArray 25)) 25 n _ rfl _ rfl qr
 obtain ⟨W0,hW0⟩:∃ W0,W0=w.alloc (.cells (eNet n).toArray 25):=⟨_,rfl⟩
 have HW0:=qh hW0
 rw [<-hW0] at hb0 hbn
 have hs0:W0.heap.size=w.heap.size+1:=by rw [hW0];simp
 have hb1:Below W0.heap.size W0 (W0.alloc (.cells (eLk x).toArray 61)):=qr.alloc (Nat.le_refl _) _
 have hbx:=bxLk W0 (W0.alloc (.cells (eLk x).toArray 61)) 61 x _ rfl _ rfl qr
 obtain ⟨W,hW⟩:∃ W,W=W0.alloc (.cells (eLk x).toArray 61):=⟨_,rfl⟩
 have HW:=qh hW
 rw [<-hW] at hb1 hbx
 rw [hs0] at hbx
 obtain ⟨⟨k0,k1,k2⟩,⟨k3,k4,k5,k6⟩,k7,k8,k9,k10⟩:=hbx
 obtain ⟨q0,q1⟩:=hbn
 have q0:=cel_lt q0 hb1
 have hbw:=hb0.trans (hb1.mono hb0.size)
 have HV:=qh (hv.mono hbw)
 obtain ⟨r1,hr1⟩:∃ r,r=findNd n.Ns.xs x.From:=⟨_,rfl⟩
 obtain ⟨r2,hr2⟩:∃ r,r=findNd n.Ns.xs x.To:=⟨_,rfl⟩
 rw [<-hr1,<-hr2]
 have h1:=indexNd 309 #[.pointer (some ⟨w.heap.size+1,0,none⟩)] ent309 (fun y=>strB y.Name x.From) n.Ns.xs _ W HV.out (fun V hV y _=>ends1_any y x.From _ V (cel_lt k1 hV))
 have h2:=fun V (hV:Below W.heap.size W V)=>indexNd 310 #[.pointer (some ⟨w.heap.size+1,0,none⟩)] ent310 (fun y=>strB y.Name x.To) n.Ns.xs _ V (HV.out.mono hV) (fun V' hV' y _=>ends2_any y x.To _ V' (cel_lt (cel_lt k2 hV) hV'))
 unfold findNd at hr1 hr2
 rw [<-hr1] at h1
 simp only [<-hr2] at h2
 have H2:=qh h2
 simp only [vNet,vLk,vSl] at h1 q0 ⊢
 clear hW hW0 hv hb0 hb1 h2 hr1 hr2 hs0 k0 k1 k2 k3 k4 k5 k6 k7 k8 k9 k10 q1
 go_enter Tryz.func272,Tryz.ntmps272
 go_upto_region 1 with (fail)
 rw [<-HW0.out]
 rw [<-HW.out]
 clear HW HW0
 go_wp2_with fail
 refine Calls.to h1 ?_
 rintro e w1 rfl hb1
 have h2:=H2.out w1 hb1
 have q0:=cel_lt q0 hb1
 have hbw:=hbw.trans (hb1.mono hbw.size)
 simp only [vSl] at h2
 clear h1 H2 hb1
 go_wp2_with fail
 refine Calls.to h2 ?_
 rintro e w2 rfl hb1
 have hbw:=hbw.trans (hb1.mono hbw.size)
 go_wp2_with fail
 go_ret2
 exact ⟨rfl,hbw⟩
theorem llimited_any (q e:Int) (w:World):Calls Tryz.prog 337 #[.int .i64 q,.int .i64 e] w fun e w'=>(∃ u,e=.returned u/\FlowR u)/\w'=w:=by
 obtain ⟨b,h⟩:∃ b,(e==5)=b:=⟨_,rfl⟩
 have h':decide (e=5)=b:=by rw [<-h];rfl
 cases b
 all_goals
  go_enter Tryz.func337,Tryz.ntmps337
  go_wp2_with fail
  go_ret2
  exact ⟨⟨_,rfl,.mk _ _⟩,rfl⟩
theorem oisweir_any (x:Lk) (w:World):Calls Tryz.prog 343 #[vLk x] w fun e w'=>e=.returned (.bool (oweirB x))/\Below w.heap.size w w':=by
 obtain ⟨res,hres⟩:∃ res,res=oweirB x:=⟨_,rfl⟩
 rw [<-hres]
 unfold oweirB at hres
 obtain ⟨b0,e0⟩:∃ b,decide (x.Kind=2)=b:=⟨_,rfl⟩
 have e0':(x.Kind==2)=b0:=by rw [<-e0];rfl
 obtain ⟨b1,e1⟩:∃ b,btwB x.Up (-4194304) 4194304=b:=⟨_,rfl⟩
 obtain ⟨b2,e2⟩:∃ b,btwB x.Wi 1 1048576=b:=⟨_,rfl⟩
 skip
 rw [e0,e1,e2] at hres
 have HR:=qh hres
 have h1:=fun W=>olevel_any x.Up W
 have h2:=fun W=>owithin_any x.Wi 1 1048576 W
 skip
 rw [e1] at h1
 rw [e2] at h2
 skip
 clear hres e1 e2
 have hb0:Below w.heap.size w (w.alloc (.cells (eLk x).toArray 61)):=qr.alloc (Nat.le_refl _) _
 have hbx:=bxLk w (w.alloc (.cells (eLk x).toArray 61)) 61 x _ rfl _ rfl qr
 obtain ⟨W,hW⟩:∃ W,W=w.alloc (.cells (eLk x).toArray 61):=⟨_,rfl⟩
 have HW:=qh hW
 rw [<-hW] at hb0 hbx
 clear hW
 obtain ⟨⟨k0,k1,k2⟩,⟨k3,k4,k5,k6⟩,k7,k8,k9,k10⟩:=hbx
 simp only [vLk,vSl]
 go_enter Tryz.func343,Tryz.ntmps343
 go_upto_region 1 with (fail)
 rw [<-HW.out]
 clear HW
 cases b0
 ·go_wp2_with fail
  go_ret
  exact ⟨ret_bool (by rw [HR.out];rfl),hb0⟩
 go_wp2_with fail
 refine (h1 _).mono ?_
 rintro e w1 ⟨rfl,rfl⟩
 cases b1
 ·go_wp2_with fail
  go_ret
  exact ⟨ret_bool (by rw [HR.out];rfl),hb0⟩
 go_wp2_with fail
 refine (h2 _).mono ?_
 rintro e w2 ⟨rfl,rfl⟩
 cases b2
 ·go_wp2_with fail
  go_ret
  exact ⟨ret_bool (by rw [HR.out];rfl),hb0⟩
 ·go_wp2_with fail
  go_ret
  exact ⟨ret_bool (by rw [HR.out];rfl),hb0⟩
theorem oisgate_any (x:Lk) (w:World):Calls Tryz.prog 348 #[vLk x] w fun e w'=>e=.returned (.bool (ogateB x))/\Below w.heap.size w w':=by
 obtain ⟨res,hres⟩:∃ res,res=ogateB x:=⟨_,rfl⟩
 rw [<-hres]
 unfold ogateB at hres
 obtain ⟨b0,e0⟩:∃ b,decide (x.Kind=3)=b:=⟨_,rfl⟩
 have e0':(x.Kind==3)=b0:=by rw [<-e0];rfl
 obtain ⟨b1,e1⟩:∃ b,btwB x.Up (-4194304) 4194304=b:=⟨_,rfl⟩
 obtain ⟨b2,e2⟩:∃ b,btwB x.Wi 1 32768=b:=⟨_,rfl⟩
 obtain ⟨b3,e3⟩:∃ b,btwB x.He 1 32768=b:=⟨_,rfl⟩
 rw [e0,e1,e2,e3] at hres
 have HR:=qh hres
 have h1:=fun W=>olevel_any x.Up W
 have h2:=fun W=>owithin_any x.Wi 1 32768 W
 have h3:=fun W=>owithin_any x.He 1 32768 W
 rw [e1] at h1
 rw [e2] at h2
 rw [e3] at h3
 clear hres e1 e2
 clear e3
 have hb0:Below w.heap.size w (w.alloc (.cells (eLk x).toArray 61)):=qr.alloc (Nat.le_refl _) _
 have hbx:=bxLk w (w.alloc (.cells (eLk x).toArray 61)) 61 x _ rfl _ rfl qr
 obtain ⟨W,hW⟩:∃ W,W=w.alloc (.cells (eLk x).toArray 61):=⟨_,rfl⟩
 have HW:=qh hW
 rw [<-hW] at hb0 hbx
 clear hW
 obtain ⟨⟨k0,k1,k2⟩,⟨k3,k4,k5,k6⟩,k7,k8,k9,k10⟩:=hbx
 simp only [vLk,vSl]
 go_enter Tryz.func348,Tryz.ntmps348
 go_upto_region 1 with (fail)
 rw [<-HW.out]
 clear HW
 cases b0
 ·go_wp2_with fail
  go_ret
  exact ⟨ret_bool (by rw [HR.out];rfl),hb0⟩
 go_wp2_with fail
 refine (h1 _).mono ?_
 rintro e w1 ⟨rfl,rfl⟩
 cases b1
 ·go_wp2_with fail
  go_ret
  exact ⟨ret_bool (by rw [HR.out];rfl),hb0⟩
 go_wp2_with fail
 refine (h2 _).mono ?_
 rintro e w2 ⟨rfl,rfl⟩
 cases b2
 ·go_wp2_with fail
  go_ret
  exact ⟨ret_bool (by rw [HR.out];rfl),hb0⟩
 go_wp2_with fail
 refine (h3 _).mono ?_
 rintro e w3 ⟨rfl,rfl⟩
 cases b3
 ·go_wp2_with fail
  go_ret
  exact ⟨ret_bool (by rw [HR.out];rfl),hb0⟩
 ·go_wp2_with fail
  go_ret
  exact ⟨ret_bool (by rw [HR.out];rfl),hb0⟩
theorem ohead_any (x:Lk) (up down:Int) (w:World):Calls Tryz.prog 345 #[vLk x,.int .i64 up,.int .i64 down] w fun e w'=>(∃ h:Int,e=.returned (.int .i64 h))/\Below w.heap.size w w':=by
 have hb0:Below w.heap.size w (w.alloc (.cells (eLk x).toArray 61)):=qr.alloc (Nat.le_refl _) _
 have hbx:=bxLk w (w.alloc (.cells (eLk x).toArray 61)) 61 x _ rfl _ rfl qr
 obtain ⟨W,hW⟩:∃ W,W=w.alloc (.cells (eLk x).toArray 61):=⟨_,rfl⟩
 have HW:=qh hW
 rw [<-hW] at hb0 hbx
 clear hW
 obtain ⟨⟨k0,k1,k2⟩,⟨k3,k4,k5,k6⟩,k7,k8,k9,k10⟩:=hbx
 simp only [vLk,vSl]
 go_enter Tryz.func345,Tryz.ntmps345
 go_upto_region 1 with (fail)
 rw [<-HW.out]
 clear HW
 go_wp2_with fail
 go_ret
 exact ⟨⟨_,rfl⟩,hb0⟩
theorem ogatef_any (x:Lk) (s h:Int) (w:World):Calls Tryz.prog 350 #[vLk x,.int .i64 s,.int .i64 h] w fun e w'=>(∃ h:Nat,e=.returned (.int .i64 (h:Int)))/\Below w.heap.size w w':=by
 have hb0:Below w.heap.size w (w.alloc (.cells (eLk x).toArray 61)):=qr.alloc (Nat.le_refl _) _
 have hbx:=bxLk w (w.alloc (.cells (eLk x).toArray 61)) 61 x _ rfl _ rfl qr
 obtain ⟨W,hW⟩:∃ W,W=w.alloc (.cells (eLk x).toArray 61):=⟨_,rfl⟩
 have HW:=qh hW
 rw [<-hW] at hb0 hbx
 clear hW
 obtain ⟨⟨k0,k1,k2⟩,⟨k3,k4,k5,k6⟩,k7,k8,k9,k10⟩:=hbx
 simp only [vLk,vSl]
 go_enter Tryz.func350,Tryz.ntmps350
 go_upto_region 1 with (fail)
 rw [<-HW.out]
 clear HW
 go_wp2_with fail
 refine Calls.to (oorif_any _ _ _) ?_
 rintro e w1 ⟨r,rfl⟩ hb1
 have hbw:=hb0.trans (hb1.mono hb0.size)
 go_wp2_with fail
 go_ret
 exact ⟨⟨r,rfl⟩,hbw⟩
theorem oover_link (x:Lk) (up down:Int) (w:World):Calls Tryz.prog 338 #[vLk x,.int .i64 up,.int .i64 down] w fun e w'=>(∃ u,e=.returned u/\FlowR u)/\Below w.heap.size w w':=by
 have hb0:Below w.heap.size w (w.alloc (.cells (eLk x).toArray 61)):=qr.alloc (Nat.le_refl _) _
 have hbx:=bxLk w (w.alloc (.cells (eLk x).toArray 61)) 61 x _ rfl _ rfl qr
 obtain ⟨W,hW⟩:∃ W,W=w.alloc (.cells (eLk x).toArray 61):=⟨_,rfl⟩
 have HW:=qh hW
 rw [<-hW] at hb0 hbx
 clear hW
 obtain ⟨⟨k0,k1,k2⟩,⟨k3,k4,k5,k6⟩,k7,k8,k9,k10⟩:=hbx
 have his:=oisweir_any x W
 have hhd:=fun a b V (_:Below W.heap.size W V)=>ohead_any x a b V
 have hl1:=fun V=>olevel_any up V
 have hl2:=fun V=>olevel_any down V
 obtain ⟨y0,h0⟩:∃ y,oweirB x=y:=⟨_,rfl⟩
 obtain ⟨y1,h1⟩:∃ y,btwB up (-4194304) 4194304=y:=⟨_,rfl⟩
 obtain ⟨y2,h2⟩:∃ y,btwB down (-4194304) 4194304=y:=⟨_,rfl⟩
 rw [h0] at his
 simp only [h1] at hl1
 simp only [h2] at hl2
 clear h0 h1 h2
 simp only [vLk,vSl] at his hhd ⊢
 go_enter Tryz.func338,Tryz.ntmps338
 go_upto_region 1 with (fail)
 rw [<-HW.out]
 clear HW
 go_wp2_with fail
 refine Calls.to his ?_
 rintro e w1 rfl hb1
 have hbw:=hb0.trans (hb1.mono hb0.size)
 have hbw2:=hb1
 have k0:=cel_lt k0 hb1
 have k1:=cel_lt k1 hb1
 have k2:=cel_lt k2 hb1
 have k3:=cel_lt k3 hb1
 have k4:=cel_lt k4 hb1
 have k5:=cel_lt k5 hb1
 have k6:=cel_lt k6 hb1
 have k7:=cel_lt k7 hb1
 have k8:=cel_lt k8 hb1
 have k9:=cel_lt k9 hb1
 have k10:=cel_lt k10 hb1
 clear his hb0 hb1
 cases y0
 ·clear k0 k1 k2 k3 k4 k5 k6 k7 k8 k9 k10
  go_wp2_with fail
  go_ret2
  exact ⟨⟨_,rfl,.mk _ _⟩,hbw⟩
 go_wp2_with fail
 refine (hl1 _).mono ?_
 rintro e w' ⟨rfl,rfl⟩
 cases y1
 ·go_wp2_with fail
  go_ret2
  exact ⟨⟨_,rfl,.mk _ _⟩,hbw⟩
 go_wp2_with fail
 refine (hl2 _).mono ?_
 rintro e w' ⟨rfl,rfl⟩
 cases y2
 ·go_wp2_with fail
  go_ret2
  exact ⟨⟨_,rfl,.mk _ _⟩,hbw⟩
 go_wp2_with fail
 refine Calls.to (hhd _ _ _ hbw2) ?_
 rintro e w2 ⟨h,rfl⟩ hb2
 have hbw:=hbw.trans (hb2.mono hbw.size)
 have hbw2:=hbw2.trans (hb2.mono hbw2.size)
 have k0:=cel_lt k0 hb2
 have k1:=cel_lt k1 hb2
 have k2:=cel_lt k2 hb2
 have k3:=cel_lt k3 hb2
 have k4:=cel_lt k4 hb2
 have k5:=cel_lt k5 hb2
 have k6:=cel_lt k6 hb2
 have k7:=cel_lt k7 hb2
 have k8:=cel_lt k8 hb2
 have k9:=cel_lt k9 hb2
 have k10:=cel_lt k10 hb2
 clear hb2
 cases hh:decide (1048576<h)
 rotate_left
 ·clear k0 k1 k2 k3 k4 k5 k6 k7 k8 k9 k10
  go_wp2_with fail
  go_ret2
  exact ⟨⟨_,rfl,.mk _ _⟩,hbw⟩
 go_wp2_with fail
 refine Calls.to (oweir_any _ _ _) ?_
 rintro e w3 ⟨r,rfl⟩ hb3
 have hbw:=hbw.trans (hb3.mono hbw.size)
 clear k0 k1 k2 k3 k4 k5 k6 k7 k8 k9 k10
 go_wp2_with fail
 refine (oflow_any _ _).mono ?_
 rintro e w' ⟨⟨u,rfl,hu⟩,rfl⟩
 cases hu
 go_wp2_with fail
 go_ret2
 exact ⟨⟨_,rfl,.mk _ _⟩,hbw⟩
theorem ogate_link (x:Lk) (s up down:Int) (w:World):Calls Tryz.prog 339 #[vLk x,.int .i64 s,.int .i64 up,.int .i64 down] w fun e w'=>(∃ u,e=.returned u/\FlowR u)/\Below w.heap.size w w':=by
 have hb0:Below w.heap.size w (w.alloc (.cells (eLk x).toArray 61)):=qr.alloc (Nat.le_refl _) _
 have hbx:=bxLk w (w.alloc (.cells (eLk x).toArray 61)) 61 x _ rfl _ rfl qr
 obtain ⟨W,hW⟩:∃ W,W=w.alloc (.cells (eLk x).toArray 61):=⟨_,rfl⟩
 have HW:=qh hW
 rw [<-hW] at hb0 hbx
 clear hW
 obtain ⟨⟨k0,k1,k2⟩,⟨k3,k4,k5,k6⟩,k7,k8,k9,k10⟩:=hbx
 have his:=oisgate_any x W
 have hhd:=fun a b V (_:Below W.heap.size W V)=>ohead_any x a b V
 have hgt:=fun a b V=>ogatef_any x a b V
 have hl0:=fun V=>owithin_any s 0 1000 V
 have hl1:=fun V=>olevel_any up V
 have hl2:=fun V=>olevel_any down V
 obtain ⟨y0,h0⟩:∃ y,ogateB x=y:=⟨_,rfl⟩
 obtain ⟨y3,h3⟩:∃ y,btwB s 0 1000=y:=⟨_,rfl⟩
 obtain ⟨y1,h1⟩:∃ y,btwB up (-4194304) 4194304=y:=⟨_,rfl⟩
 obtain ⟨y2,h2⟩:∃ y,btwB down (-4194304) 4194304=y:=⟨_,rfl⟩
 rw [h0] at his
 simp only [h3] at hl0
 simp only [h1] at hl1
 simp only [h2] at hl2
 clear h0 h1 h2 h3
 simp only [vLk,vSl] at his hhd hgt ⊢
 go_enter Tryz.func339,Tryz.ntmps339
 go_upto_region 1 with (fail)
 rw [<-HW.out]
 clear HW
 go_wp2_with fail
 refine Calls.to his ?_
 rintro e w1 rfl hb1
 have hbw:=hb0.trans (hb1.mono hb0.size)
 have hbw2:=hb1
 have k0:=cel_lt k0 hb1
 have k1:=cel_lt k1 hb1
 have k2:=cel_lt k2 hb1
 have k3:=cel_lt k3 hb1
 have k4:=cel_lt k4 hb1
 have k5:=cel_lt k5 hb1
 have k6:=cel_lt k6 hb1
 have k7:=cel_lt k7 hb1
 have k8:=cel_lt k8 hb1
 have k9:=cel_lt k9 hb1
 have k10:=cel_lt k10 hb1
 clear his hb0 hb1
 cases y0
 ·clear k0 k1 k2 k3 k4 k5 k6 k7 k8 k9 k10
  go_wp2_with fail
  go_ret2
  exact ⟨⟨_,rfl,.mk _ _⟩,hbw⟩
 go_wp2_with fail
 refine (hl0 _).mono ?_
 rintro e w' ⟨rfl,rfl⟩
 cases y3
 ·go_wp2_with fail
  go_ret2
  exact ⟨⟨_,rfl,.mk _ _⟩,hbw⟩
 go_wp2_with fail
 refine (hl1 _).mono ?_
 rintro e w' ⟨rfl,rfl⟩
 cases y1
 ·go_wp2_with fail
  go_ret2
  exact ⟨⟨_,rfl,.mk _ _⟩,hbw⟩
 go_wp2_with fail
 refine (hl2 _).mono ?_
 rintro e w' ⟨rfl,rfl⟩
 cases y2
 ·go_wp2_with fail
  go_ret2
  exact ⟨⟨_,rfl,.mk _ _⟩,hbw⟩
 go_wp2_with fail
 refine Calls.to (hhd _ _ _ hbw2) ?_
 rintro e w2 ⟨h,rfl⟩ hb2
 have hbw:=hbw.trans (hb2.mono hbw.size)
 have hbw2:=hbw2.trans (hb2.mono hbw2.size)
 have k0:=cel_lt k0 hb2
 have k1:=cel_lt k1 hb2
 have k2:=cel_lt k2 hb2
 have k3:=cel_lt k3 hb2
 have k4:=cel_lt k4 hb2
 have k5:=cel_lt k5 hb2
 have k6:=cel_lt k6 hb2
 have k7:=cel_lt k7 hb2
 have k8:=cel_lt k8 hb2
 have k9:=cel_lt k9 hb2
 have k10:=cel_lt k10 hb2
 clear hb2
 cases hh:decide (1048576<h)
 rotate_left
 ·clear k0 k1 k2 k3 k4 k5 k6 k7 k8 k9 k10
  go_wp2_with fail
  go_ret2
  exact ⟨⟨_,rfl,.mk _ _⟩,hbw⟩
 go_wp2_with fail
 refine Calls.to (hgt _ _ _) ?_
 rintro e w3 ⟨r,rfl⟩ hb3
 have hbw:=hbw.trans (hb3.mono hbw.size)
 clear k0 k1 k2 k3 k4 k5 k6 k7 k8 k9 k10
 go_wp2_with fail
 refine (oflow_any _ _).mono ?_
 rintro e w' ⟨⟨u,rfl,hu⟩,rfl⟩
 cases hu
 go_wp2_with fail
 go_ret2
 exact ⟨⟨_,rfl,.mk _ _⟩,hbw⟩
theorem ccap_tot (s:SecD) (f a b:Int) (w:World) (hs:IsSec w s) :
  Calls Tryz.prog 233 #[vSec s,.int .i64 f,.int .i64 a,.int .i64 b] w fun e w'=>(∃ u,e=.returned u/\FlowR u)/\Below w.heap.size w w':=by
 by_cases hall:secB s=true/\slopeB a b=true/\0<=f/\f<=s.Ht
 ·refine (ccap_any s f a b w hs hall.1 hall.2.1 hall.2.2).mono fun e w' h=>?_
  obtain ⟨⟨u,rfl,hu,_⟩,hb⟩:=h
  exact ⟨⟨u,rfl,by cases hu <;> exact .mk _ _⟩,hb⟩
 have HALL:=qh hall
 have hb0:Below w.heap.size w (w.alloc (.cells (eSec s).toArray 102)):=qr.alloc (Nat.le_refl _) _
 obtain ⟨c0,c1,c2,c3,c4⟩:=boxSec w (w.alloc (.cells (eSec s).toArray 102)) 102 s _ rfl _ rfl qr
 obtain ⟨W,hW⟩:∃ W,W=w.alloc (.cells (eSec s).toArray 102):=⟨_,rfl⟩
 have HW:=qh hW
 rw [<-hW] at hb0 c0 c1 c2 c3 c4
 have hsv:=secvalid_any s W (hs.mono hb0)
 obtain ⟨y0,h0⟩:∃ y,secB s=y:=⟨_,rfl⟩
 obtain ⟨y1,h1⟩:∃ y,decide (f<0)=y:=⟨_,rfl⟩
 obtain ⟨y2,h2⟩:∃ y,decide (s.Ht<f)=y:=⟨_,rfl⟩
 obtain ⟨y3,h3⟩:∃ y,slopeB a b=y:=⟨_,rfl⟩
 have hno:Hid (¬ (y0=true/\y3=true/\y1=false/\y2=false)):=qh (fun h=>HALL.out ⟨by rw [h0];exact h.1,by rw [h3];exact h.2.1,by
  have q1:=h.2.2.1;rw [q1] at h1;simpa using h1,by have q2:=h.2.2.2;rw [q2] at h2;simpa using h2⟩)
 have hsl:=cslope_any a b
 rw [h0] at hsv
 rw [h3] at hsl
 clear hW hs hall HALL h0 h3
 simp only [vSec,vSl] at hsv ⊢
 go_enter Tryz.func233,Tryz.ntmps233
 go_upto_region 1 with (fail)
 rw [<-HW.out]
 clear HW
 go_wp2_with fail
 refine Calls.to hsv ?_
 rintro e w1 rfl hb1
 have hbw:=hb0.trans (hb1.mono hb0.size)
 have c0:=cel_lt c0 hb1
 have c1:=cel_lt c1 hb1
 have c2:=cel_lt c2 hb1
 have c3:=cel_lt c3 hb1
 have c4:=cel_lt c4 hb1
 clear hb1 hb0 hsv
 cases y0
 ·go_wp2_with fail
  go_ret2
  exact ⟨⟨_,rfl,.mk _ _⟩,hbw⟩
 cases y1
 rotate_left
 ·go_wp2_with fail
  go_ret2
  exact ⟨⟨_,rfl,.mk _ _⟩,hbw⟩
 cases y2
 rotate_left
 ·go_wp2_with fail
  go_ret2
  exact ⟨⟨_,rfl,.mk _ _⟩,hbw⟩
 go_wp2_with fail
 refine (hsl _).mono ?_
 rintro e w' ⟨rfl,rfl⟩
 cases y3
 ·go_wp2_with fail
  go_ret2
  exact ⟨⟨_,rfl,.mk _ _⟩,hbw⟩
 ·exact (hno.out (by simp)).elim
theorem lpipe_any (x:Lk) (s:SecD) (up down:Int) (w:World) (hs:IsSec w s) :
  Calls Tryz.prog 336 #[vLk x,vSec s,.int .i64 up,.int .i64 down] w fun e w'=>(∃ u,e=.returned u/\FlowR u)/\Below w.heap.size w w':=by
 have hb0:Below w.heap.size w (w.alloc (.cells (eLk x).toArray 61)):=qr.alloc (Nat.le_refl _) _
 have hbx:=bxLk w (w.alloc (.cells (eLk x).toArray 61)) 61 x _ rfl _ rfl qr
 obtain ⟨W0,hW0⟩:∃ W0,W0=w.alloc (.cells (eLk x).toArray 61):=⟨_,rfl⟩
 have HW0:=qh hW0
 rw [<-hW0] at hb0 hbx
 have hs0:W0.heap.size=w.heap.size+1:=by rw [hW0];simp
 have hb1:Below W0.heap.size W0 (W0.alloc (.cells (eSec s).toArray 102)):=qr.alloc (Nat.le_refl _) _
 obtain ⟨c0,c1,c2,c3,c4⟩:=boxSec W0 (W0.alloc (.cells (eSec s).toArray 102)) 102 s _ rfl _ rfl qr
 obtain ⟨W,hW⟩:∃ W,W=W0.alloc (.cells (eSec s).toArray 102):=⟨_,rfl⟩
 have HW:=qh hW
 rw [<-hW] at hb1 c0 c1 c2 c3 c4
 rw [hs0] at c0 c1 c2 c3 c4
 obtain ⟨⟨k0,k1,k2⟩,⟨k3,k4,k5,k6⟩,k7,k8,k9,k10⟩:=hbx
 have k4:=cel_lt k4 hb1
 have k5:=cel_lt k5 hb1
 have k6:=cel_lt k6 hb1
 have hbw:=hb0.trans (hb1.mono hb0.size)
 have hct:=fun f a b=>ccap_tot s f a b W (hs.mono hbw)
 simp only [vLk,vSec,vSl] at hct ⊢
 clear hW hW0 hb0 hb1 hs hs0 k0 k1 k2 k3 k7 k8 k9 k10
 go_enter Tryz.func336,Tryz.ntmps336
 go_upto_region 1 with (fail)
 rw [<-HW0.out]
 rw [<-HW.out]
 clear HW HW0
 go_wp2_with fail
 refine Calls.to (hct _ _ _) ?_
 rintro e w1 ⟨u,rfl,hu⟩ hb1
 have hbw:=hbw.trans (hb1.mono hbw.size)
 cases hu with
 | mk q e=>
  go_wp2_with fail
  refine (llimited_any q e _).mono ?_
  rintro e w' ⟨⟨u,rfl,hu⟩,rfl⟩
  cases hu with
  | mk q e=>
   go_wp2_with fail
   go_ret2
   exact ⟨⟨_,rfl,.mk _ _⟩,hbw⟩
end Go.Proofs.YtoiakijmbghhlaaGreat
