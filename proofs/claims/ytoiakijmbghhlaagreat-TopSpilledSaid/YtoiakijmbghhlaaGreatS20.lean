/- openings: Over, Gate answer with a number and an error. Conditions: none. | openings: Over, Gate answer with a number and an error. Conditions: none. | links: pipe, known, levelled. Conditions: network, catalogue and link read as data. | links: within, levelled, known. Conditions: network, catalogue and link read as data. -/
import Derived.Test.YtoiakijmbghhlaaGreatS19
import Derived.Test.YtoiakijmbghhlaaGreatS18
import Derived.Test.YtoiakijmbghhlaaGreatS04
set_option linter.unusedVariables false
set_option linter.unusedSimpArgs false
set_option maxRecDepth 100000
set_option maxHeartbeats 32000000
namespace Go.Proofs.YtoiakijmbghhlaaGreat
open Go.RowKit
theorem oisweir_any (x:Lk) (w:World):Calls Tryz.prog 343 #[vLk x] w fun e w'=>e=.returned (.bool (oweirB x))/\Below w.heap.size w w':=by
 obtain ⟨res,hres⟩:∃ res,res=oweirB x:=⟨_,rfl⟩
 rw [<-hres]
 unfold oweirB at hres
 obtain ⟨b0,e0⟩:∃ b,decide (x.Kind=2)=b:=⟨_,rfl⟩
 have e0':(x.Kind==2)=b0:=by rw [<-e0];rfl
 obtain ⟨b1,e1⟩:∃ b,btwB x.Up (-4194304) 4194304=b:=⟨_,rfl⟩
 obtain ⟨b2,e2⟩:∃ b,btwB x.Wi 1 1048576=b:=⟨_,rfl⟩
 skip
 rw [e0,e1,e2] at hres
 have HR:=qh hres
 have h1:=fun W=>olevel_any x.Up W
 have h2:=fun W=>owithin_any x.Wi 1 1048576 W
 skip
 rw [e1] at h1
 rw [e2] at h2
 skip
 clear hres e1 e2
 have hb0:Below w.heap.size w (w.alloc (.cells (eLk x).toArray 61)):=qr.alloc (Nat.le_refl _) _
 have hbx:=bxLk w (w.alloc (.cells (eLk x).toArray 61)) 61 x _ rfl _ rfl qr
 obtain ⟨W,hW⟩:∃ W,W=w.alloc (.cells (eLk x).toArray 61):=⟨_,rfl⟩
 have HW:=qh hW
 rw [<-hW] at hb0 hbx
 clear hW
 obtain ⟨⟨k0,k1,k2⟩,⟨k3,k4,k5,k6⟩,k7,k8,k9,k10⟩:=hbx
 simp only [vLk,vSl]
 go_enter Tryz.func343,Tryz.ntmps343
 go_upto_region 1 with (fail)
 rw [<-HW.out]
 clear HW
 cases b0
 ·go_wp2_with fail
  go_ret
  exact ⟨ret_bool (by rw [HR.out];rfl),hb0⟩
 go_wp2_with fail
 refine (h1 _).mono ?_
 rintro e w1 ⟨rfl,rfl⟩
 cases b1
 ·go_wp2_with fail
  go_ret
  exact ⟨ret_bool (by rw [HR.out];rfl),hb0⟩
 go_wp2_with fail
 refine (h2 _).mono ?_
 rintro e w2 ⟨rfl,rfl⟩
 cases b2
 ·go_wp2_with fail
  go_ret
  exact ⟨ret_bool (by rw [HR.out];rfl),hb0⟩
 ·go_wp2_with fail
  go_ret
  exact ⟨ret_bool (by rw [HR.out];rfl),hb0⟩
theorem oisgate_any (x:Lk) (w:World):Calls Tryz.prog 348 #[vLk x] w fun e w'=>e=.returned (.bool (ogateB x))/\Below w.heap.size w w':=by
 obtain ⟨res,hres⟩:∃ res,res=ogateB x:=⟨_,rfl⟩
 rw [<-hres]
 unfold ogateB at hres
 obtain ⟨b0,e0⟩:∃ b,decide (x.Kind=3)=b:=⟨_,rfl⟩
 have e0':(x.Kind==3)=b0:=by rw [<-e0];rfl
 obtain ⟨b1,e1⟩:∃ b,btwB x.Up (-4194304) 4194304=b:=⟨_,rfl⟩
 obtain ⟨b2,e2⟩:∃ b,btwB x.Wi 1 32768=b:=⟨_,rfl⟩
 obtain ⟨b3,e3⟩:∃ b,btwB x.He 1 32768=b:=⟨_,rfl⟩
 rw [e0,e1,e2,e3] at hres
 have HR:=qh hres
 have h1:=fun W=>olevel_any x.Up W
 have h2:=fun W=>owithin_any x.Wi 1 32768 W
 have h3:=fun W=>owithin_any x.He 1 32768 W
 rw [e1] at h1
 rw [e2] at h2
 rw [e3] at h3
 clear hres e1 e2
 clear e3
 have hb0:Below w.heap.size w (w.alloc (.cells (eLk x).toArray 61)):=qr.alloc (Nat.le_refl _) _
 have hbx:=bxLk w (w.alloc (.cells (eLk x).toArray 61)) 61 x _ rfl _ rfl qr
 obtain ⟨W,hW⟩:∃ W,W=w.alloc (.cells (eLk x).toArray 61):=⟨_,rfl⟩
 have HW:=qh hW
 rw [<-hW] at hb0 hbx
 clear hW
 obtain ⟨⟨k0,k1,k2⟩,⟨k3,k4,k5,k6⟩,k7,k8,k9,k10⟩:=hbx
 simp only [vLk,vSl]
 go_enter Tryz.func348,Tryz.ntmps348
 go_upto_region 1 with (fail)
 rw [<-HW.out]
 clear HW
 cases b0
 ·go_wp2_with fail
  go_ret
  exact ⟨ret_bool (by rw [HR.out];rfl),hb0⟩
 go_wp2_with fail
 refine (h1 _).mono ?_
 rintro e w1 ⟨rfl,rfl⟩
 cases b1
 ·go_wp2_with fail
  go_ret
  exact ⟨ret_bool (by rw [HR.out];rfl),hb0⟩
 go_wp2_with fail
 refine (h2 _).mono ?_
 rintro e w2 ⟨rfl,rfl⟩
 cases b2
 ·go_wp2_with fail
  go_ret
  exact ⟨ret_bool (by rw [HR.out];rfl),hb0⟩
 go_wp2_with fail
 refine (h3 _).mono ?_
 rintro e w3 ⟨rfl,rfl⟩
 cases b3
 ·go_wp2_with fail
  go_ret
  exact ⟨ret_bool (by rw [HR.out];rfl),hb0⟩
 ·go_wp2_with fail
  go_ret
  exact ⟨ret_bool (by rw [HR.out];rfl),hb0⟩
theorem ohead_any (x:Lk) (up down:Int) (w:World):Calls Tryz.prog 345 #[vLk x,.int .i64 up,.int .i64 down] w fun e w'=>(∃ h:Int,e=.returned (.int .i64 h))/\Below w.heap.size w w':=by
 have hb0:Below w.heap.size w (w.alloc (.cells (eLk x).toArray 61)):=qr.alloc (Nat.le_refl _) _
 have hbx:=bxLk w (w.alloc (.cells (eLk x).toArray 61)) 61 x _ rfl _ rfl qr
 obtain ⟨W,hW⟩:∃ W,W=w.alloc (.cells (eLk x).toArray 61):=⟨_,rfl⟩
 have HW:=qh hW
 rw [<-hW] at hb0 hbx
 clear hW
 obtain ⟨⟨k0,k1,k2⟩,⟨k3,k4,k5,k6⟩,k7,k8,k9,k10⟩:=hbx
 simp only [vLk,vSl]
 go_enter Tryz.func345,Tryz.ntmps345
 go_upto_region 1 with (fail)
 rw [<-HW.out]
 clear HW
 go_wp2_with fail
 go_ret
 exact ⟨⟨_,rfl⟩,hb0⟩
theorem ogatef_any (x:Lk) (s h:Int) (w:World):Calls Tryz.prog 350 #[vLk x,.int .i64 s,.int .i64 h] w fun e w'=>(∃ h:Nat,e=.returned (.int .i64 (h:Int)))/\Below w.heap.size w w':=by
 have hb0:Below w.heap.size w (w.alloc (.cells (eLk x).toArray 61)):=qr.alloc (Nat.le_refl _) _
 have hbx:=bxLk w (w.alloc (.cells (eLk x).toArray 61)) 61 x _ rfl _ rfl qr
 obtain ⟨W,hW⟩:∃ W,W=w.alloc (.cells (eLk x).toArray 61):=⟨_,rfl⟩
 have HW:=qh hW
 rw [<-hW] at hb0 hbx
 clear hW
 obtain ⟨⟨k0,k1,k2⟩,⟨k3,k4,k5,k6⟩,k7,k8,k9,k10⟩:=hbx
 simp only [vLk,vSl]
 go_enter Tryz.func350,Tryz.ntmps350
 go_upto_region 1 with (fail)
 rw [<-HW.out]
 clear HW
 go_wp2_with fail
 refine Calls.to (oorif_any _ _ _) ?_
 rintro e w1 ⟨r,rfl⟩ hb1
 have hbw:=hb0.trans (hb1.mono hb0.size)
 go_wp2_with fail
 go_ret
 exact ⟨⟨r,rfl⟩,hbw⟩
theorem oover_link (x:Lk) (up down:Int) (w:World):Calls Tryz.prog 338 #[vLk x,.int .i64 up,.int .i64 down] w fun e w'=>(∃ u,e=.returned u/\FlowR u)/\Below w.heap.size w w':=by
 have hb0:Below w.heap.size w (w.alloc (.cells (eLk x).toArray 61)):=qr.alloc (Nat.le_refl _) _
 have hbx:=bxLk w (w.alloc (.cells (eLk x).toArray 61)) 61 x _ rfl _ rfl qr
 obtain ⟨W,hW⟩:∃ W,W=w.alloc (.cells (eLk x).toArray 61):=⟨_,rfl⟩
 have HW:=qh hW
 rw [<-hW] at hb0 hbx
 clear hW
 obtain ⟨⟨k0,k1,k2⟩,⟨k3,k4,k5,k6⟩,k7,k8,k9,k10⟩:=hbx
 have his:=oisweir_any x W
 have hhd:=fun a b V (_:Below W.heap.size W V)=>ohead_any x a b V
 have hl1:=fun V=>olevel_any up V
 have hl2:=fun V=>olevel_any down V
 obtain ⟨y0,h0⟩:∃ y,oweirB x=y:=⟨_,rfl⟩
 obtain ⟨y1,h1⟩:∃ y,btwB up (-4194304) 4194304=y:=⟨_,rfl⟩
 obtain ⟨y2,h2⟩:∃ y,btwB down (-4194304) 4194304=y:=⟨_,rfl⟩
 rw [h0] at his
 simp only [h1] at hl1
 simp only [h2] at hl2
 clear h0 h1 h2
 simp only [vLk,vSl] at his hhd ⊢
 go_enter Tryz.func338,Tryz.ntmps338
 go_upto_region 1 with (fail)
 rw [<-HW.out]
 clear HW
 go_wp2_with fail
 refine Calls.to his ?_
 rintro e w1 rfl hb1
 have hbw:=hb0.trans (hb1.mono hb0.size)
 have hbw2:=hb1
 have k0:=cel_lt k0 hb1
 have k1:=cel_lt k1 hb1
 have k2:=cel_lt k2 hb1
 have k3:=cel_lt k3 hb1
 have k4:=cel_lt k4 hb1
 have k5:=cel_lt k5 hb1
 have k6:=cel_lt k6 hb1
 have k7:=cel_lt k7 hb1
 have k8:=cel_lt k8 hb1
 have k9:=cel_lt k9 hb1
 have k10:=cel_lt k10 hb1
 clear his hb0 hb1
 cases y0
 ·clear k0 k1 k2 k3 k4 k5 k6 k7 k8 k9 k10
  go_wp2_with fail
  go_ret2
  exact ⟨⟨_,rfl,.mk _ _⟩,hbw⟩
 go_wp2_with fail
 refine (hl1 _).mono ?_
 rintro e w' ⟨rfl,rfl⟩
 cases y1
 ·go_wp2_with fail
  go_ret2
  exact ⟨⟨_,rfl,.mk _ _⟩,hbw⟩
 go_wp2_with fail
 refine (hl2 _).mono ?_
 rintro e w' ⟨rfl,rfl⟩
 cases y2
 ·go_wp2_with fail
  go_ret2
  exact ⟨⟨_,rfl,.mk _ _⟩,hbw⟩
 go_wp2_with fail
 refine Calls.to (hhd _ _ _ hbw2) ?_
 rintro e w2 ⟨h,rfl⟩ hb2
 have hbw:=hbw.trans (hb2.mono hbw.size)
 have hbw2:=hbw2.trans (hb2.mono hbw2.size)
 have k0:=cel_lt k0 hb2
 have k1:=cel_lt k1 hb2
 have k2:=cel_lt k2 hb2
 have k3:=cel_lt k3 hb2
 have k4:=cel_lt k4 hb2
 have k5:=cel_lt k5 hb2
 have k6:=cel_lt k6 hb2
 have k7:=cel_lt k7 hb2
 have k8:=cel_lt k8 hb2
 have k9:=cel_lt k9 hb2
 have k10:=cel_lt k10 hb2
 clear hb2
 cases hh:decide (1048576<h)
 rotate_left
 ·clear k0 k1 k2 k3 k4 k5 k6 k7 k8 k9 k10
  go_wp2_with fail
  go_ret2
  exact ⟨⟨_,rfl,.mk _ _⟩,hbw⟩
 go_wp2_with fail
 refine Calls.to (oweir_any _ _ _) ?_
 rintro e w3 ⟨r,rfl⟩ hb3
 have hbw:=hbw.trans (hb3.mono hbw.size)
 clear k0 k1 k2 k3 k4 k5 k6 k7 k8 k9 k10
 go_wp2_with fail
 refine (oflow_any _ _).mono ?_
 rintro e w' ⟨⟨u,rfl,hu⟩,rfl⟩
 cases hu
 go_wp2_with fail
 go_ret2
 exact ⟨⟨_,rfl,.mk _ _⟩,hbw⟩
theorem ogate_link (x:Lk) (s up down:Int) (w:World):Calls Tryz.prog 339 #[vLk x,.int .i64 s,.int .i64 up,.int .i64 down] w fun e w'=>(∃ u,e=.returned u/\FlowR u)/\Below w.heap.size w w':=by
 have hb0:Below w.heap.size w (w.alloc (.cells (eLk x).toArray 61)):=qr.alloc (Nat.le_refl _) _
 have hbx:=bxLk w (w.alloc (.cells (eLk x).toArray 61)) 61 x _ rfl _ rfl qr
 obtain ⟨W,hW⟩:∃ W,W=w.alloc (.cells (eLk x).toArray 61):=⟨_,rfl⟩
 have HW:=qh hW
 rw [<-hW] at hb0 hbx
 clear hW
 obtain ⟨⟨k0,k1,k2⟩,⟨k3,k4,k5,k6⟩,k7,k8,k9,k10⟩:=hbx
 have his:=oisgate_any x W
 have hhd:=fun a b V (_:Below W.heap.size W V)=>ohead_any x a b V
 have hgt:=fun a b V=>ogatef_any x a b V
 have hl0:=fun V=>owithin_any s 0 1000 V
 have hl1:=fun V=>olevel_any up V
 have hl2:=fun V=>olevel_any down V
 obtain ⟨y0,h0⟩:∃ y,ogateB x=y:=⟨_,rfl⟩
 obtain ⟨y3,h3⟩:∃ y,btwB s 0 1000=y:=⟨_,rfl⟩
 obtain ⟨y1,h1⟩:∃ y,btwB up (-4194304) 4194304=y:=⟨_,rfl⟩
 obtain ⟨y2,h2⟩:∃ y,btwB down (-4194304) 4194304=y:=⟨_,rfl⟩
 rw [h0] at his
 simp only [h3] at hl0
 simp only [h1] at hl1
 simp only [h2] at hl2
 clear h0 h1 h2 h3
 simp only [vLk,vSl] at his hhd hgt ⊢
 go_enter Tryz.func339,Tryz.ntmps339
 go_upto_region 1 with (fail)
 rw [<-HW.out]
 clear HW
 go_wp2_with fail
 refine Calls.to his ?_
 rintro e w1 rfl hb1
 have hbw:=hb0.trans (hb1.mono hb0.size)
 have hbw2:=hb1
 have k0:=cel_lt k0 hb1
 have k1:=cel_lt k1 hb1
 have k2:=cel_lt k2 hb1
 have k3:=cel_lt k3 hb1
 have k4:=cel_lt k4 hb1
 have k5:=cel_lt k5 hb1
 have k6:=cel_lt k6 hb1
 have k7:=cel_lt k7 hb1
 have k8:=cel_lt k8 hb1
 have k9:=cel_lt k9 hb1
 have k10:=cel_lt k10 hb1
 clear his hb0 hb1
 cases y0
 ·clear k0 k1 k2 k3 k4 k5 k6 k7 k8 k9 k10
  go_wp2_with fail
  go_ret2
  exact ⟨⟨_,rfl,.mk _ _⟩,hbw⟩
 go_wp2_with fail
 refine (hl0 _).mono ?_
 rintro e w' ⟨rfl,rfl⟩
 cases y3
 ·go_wp2_with fail
  go_ret2
  exact ⟨⟨_,rfl,.mk _ _⟩,hbw⟩
 go_wp2_with fail
 refine (hl1 _).mono ?_
 rintro e w' ⟨rfl,rfl⟩
 cases y1
 ·go_wp2_with fail
  go_ret2
  exact ⟨⟨_,rfl,.mk _ _⟩,hbw⟩
 go_wp2_with fail
 refine (hl2 _).mono ?_
 rintro e w' ⟨rfl,rfl⟩
 cases y2
 ·go_wp2_with fail
  go_ret2
  exact ⟨⟨_,rfl,.mk _ _⟩,hbw⟩
 go_wp2_with fail
 refine Calls.to (hhd _ _ _ hbw2) ?_
 rintro e w2 ⟨h,rfl⟩ hb2
 have hbw:=hbw.trans (hb2.mono hbw.size)
 have hbw2:=hbw2.trans (hb2.mono hbw2.size)
 have k0:=cel_lt k0 hb2
 have k1:=cel_lt k1 hb2
 have k2:=cel_lt k2 hb2
 have k3:=cel_lt k3 hb2
 have k4:=cel_lt k4 hb2
 have k5:=cel_lt k5 hb2
 have k6:=cel_lt k6 hb2
 have k7:=cel_lt k7 hb2
 have k8:=cel_lt k8 hb2
 have k9:=cel_lt k9 hb2
 have k10:=cel_lt k10 hb2
 clear hb2
 cases hh:decide (1048576<h)
 rotate_left
 ·clear k0 k1 k2 k3 k4 k5 k6 k7 k8 k9 k10
  go_wp2_with fail
  go_ret2
  exact ⟨⟨_,rfl,.mk _ _⟩,hbw⟩
 go_wp2_with fail
 refine Calls.to (hgt _ _ _) ?_
 rintro e w3 ⟨r,rfl⟩ hb3
 have hbw:=hbw.trans (hb3.mono hbw.size)
 clear k0 k1 k2 k3 k4 k5 k6 k7 k8 k9 k10
 go_wp2_with fail
 refine (oflow_any _ _).mono ?_
 rintro e w' ⟨⟨u,rfl,hu⟩,rfl⟩
 cases hu
 go_wp2_with fail
 go_ret2
 exact ⟨⟨_,rfl,.mk _ _⟩,hbw⟩
theorem ccap_tot (s:SecD) (f a b:Int) (w:World) (hs:IsSec w s) :
  Calls Tryz.prog 233 #[vSec s,.int .i64 f,.int .i64 a,.int .i64 b] w fun e w'=>(∃ u,e=.returned u/\FlowR u)/\Below w.heap.size w w':=by
 by_cases hall:secB s=true/\slopeB a b=true/\0<=f/\f<=s.Ht
 ·refine (ccap_any s f a b w hs hall.1 hall.2.1 hall.2.2).mono fun e w' h=>?_
  obtain ⟨⟨u,rfl,hu,_⟩,hb⟩:=h
  exact ⟨⟨u,rfl,by cases hu <;> exact .mk _ _⟩,hb⟩
 have HALL:=qh hall
 have hb0:Below w.heap.size w (w.alloc (.cells (eSec s).toArray 102)):=qr.alloc (Nat.le_refl _) _
 obtain ⟨c0,c1,c2,c3,c4⟩:=boxSec w (w.alloc (.cells (eSec s).toArray 102)) 102 s _ rfl _ rfl qr
 obtain ⟨W,hW⟩:∃ W,W=w.alloc (.cells (eSec s).toArray 102):=⟨_,rfl⟩
 have HW:=qh hW
 rw [<-hW] at hb0 c0 c1 c2 c3 c4
 have hsv:=secvalid_any s W (hs.mono hb0)
 obtain ⟨y0,h0⟩:∃ y,secB s=y:=⟨_,rfl⟩
 obtain ⟨y1,h1⟩:∃ y,decide (f<0)=y:=⟨_,rfl⟩
 obtain ⟨y2,h2⟩:∃ y,decide (s.Ht<f)=y:=⟨_,rfl⟩
 obtain ⟨y3,h3⟩:∃ y,slopeB a b=y:=⟨_,rfl⟩
 have hno:Hid (¬ (y0=true/\y3=true/\y1=false/\y2=false)):=qh (fun h=>HALL.out ⟨by rw [h0];exact h.1,by rw [h3];exact h.2.1,by
  have q1:=h.2.2.1;rw [q1] at h1;simpa using h1,by have q2:=h.2.2.2;rw [q2] at h2;simpa using h2⟩)
 have hsl:=cslope_any a b
 rw [h0] at hsv
 rw [h3] at hsl
 clear hW hs hall HALL h0 h3
 simp only [vSec,vSl] at hsv ⊢
 go_enter Tryz.func233,Tryz.ntmps233
 go_upto_region 1 with (fail)
 rw [<-HW.out]
 clear HW
 go_wp2_with fail
 refine Calls.to hsv ?_
 rintro e w1 rfl hb1
 have hbw:=hb0.trans (hb1.mono hb0.size)
 have c0:=cel_lt c0 hb1
 have c1:=cel_lt c1 hb1
 have c2:=cel_lt c2 hb1
 have c3:=cel_lt c3 hb1
 have c4:=cel_lt c4 hb1
 clear hb1 hb0 hsv
 cases y0
 ·go_wp2_with fail
  go_ret2
  exact ⟨⟨_,rfl,.mk _ _⟩,hbw⟩
 cases y1
 rotate_left
 ·go_wp2_with fail
  go_ret2
  exact ⟨⟨_,rfl,.mk _ _⟩,hbw⟩
 cases y2
 rotate_left
 ·go_wp2_with fail
  go_ret2
  exact ⟨⟨_,rfl,.mk _ _⟩,hbw⟩
 go_wp2_with fail
 refine (hsl _).mono ?_
 rintro e w' ⟨rfl,rfl⟩
 cases y3
 ·go_wp2_with fail
  go_ret2
  exact ⟨⟨_,rfl,.mk _ _⟩,hbw⟩
 ·exact (hno.out (by simp)).elim
theorem lpipe_any (x:Lk) (s:SecD) (up down:Int) (w:World) (hs:IsSec w s) :
  Calls Tryz.prog 336 #[vLk x,vSec s,.int .i64 up,.int .i64 down] w fun e w'=>(∃ u,e=.returned u/\FlowR u)/\Below w.heap.size w w':=by
 have hb0:Below w.heap.size w (w.alloc (.cells (eLk x).toArray 61)):=qr.alloc (Nat.le_refl _) _
 have hbx:=bxLk w (w.alloc (.cells (eLk x).toArray 61)) 61 x _ rfl _ rfl qr
 obtain ⟨W0,hW0⟩:∃ W0,W0=w.alloc (.cells (eLk x).toArray 61):=⟨_,rfl⟩
 have HW0:=qh hW0
 rw [<-hW0] at hb0 hbx
 have hs0:W0.heap.size=w.heap.size+1:=by rw [hW0];simp
 have hb1:Below W0.heap.size W0 (W0.alloc (.cells (eSec s).toArray 102)):=qr.alloc (Nat.le_refl _) _
 obtain ⟨c0,c1,c2,c3,c4⟩:=boxSec W0 (W0.alloc (.cells (eSec s).toArray 102)) 102 s _ rfl _ rfl qr
 obtain ⟨W,hW⟩:∃ W,W=W0.alloc (.cells (eSec s).toArray 102):=⟨_,rfl⟩
 have HW:=qh hW
 rw [<-hW] at hb1 c0 c1 c2 c3 c4
 rw [hs0] at c0 c1 c2 c3 c4
 obtain ⟨⟨k0,k1,k2⟩,⟨k3,k4,k5,k6⟩,k7,k8,k9,k10⟩:=hbx
 have k4:=cel_lt k4 hb1
 have k5:=cel_lt k5 hb1
 have k6:=cel_lt k6 hb1
 have hbw:=hb0.trans (hb1.mono hb0.size)
 have hct:=fun f a b=>ccap_tot s f a b W (hs.mono hbw)
 simp only [vLk,vSec,vSl] at hct ⊢
 clear hW hW0 hb0 hb1 hs hs0 k0 k1 k2 k3 k7 k8 k9 k10
 go_enter Tryz.func336,Tryz.ntmps336
 go_upto_region 1 with (fail)
 rw [<-HW0.out]
 rw [<-HW.out]
 clear HW HW0
 go_wp2_with fail
 refine Calls.to (hct _ _ _) ?_
 rintro e w1 ⟨u,rfl,hu⟩ hb1
 have hbw:=hbw.trans (hb1.mono hbw.size)
 cases hu with
 | mk q e=>
  go_wp2_with fail
  refine (llimited_any q e _).mono ?_
  rintro e w' ⟨⟨u,rfl,hu⟩,rfl⟩
  cases hu with
  | mk q e=>
   go_wp2_with fail
   go_ret2
   exact ⟨⟨_,rfl,.mk _ _⟩,hbw⟩
def lvB (x:Nd) (v:Int):Bool:=btwB v x.Inv x.Gr
theorem lwithin_lit {x:Nd} {v:Int} {b:Bool} (h:lvB x v=b) (w:World):Calls Tryz.prog 308 #[vNd x,.int .i64 v] w fun e w'=>e=.returned (.bool b)/\Below w.heap.size w w':=by
 have hb0:Below w.heap.size w (w.alloc (.cells (eNd x).toArray 48)):=qr.alloc (Nat.le_refl _) _
 have hbx:=boxNd w (w.alloc (.cells (eNd x).toArray 48)) 48 x _ rfl _ rfl qr
 obtain ⟨W,hW⟩:∃ W,W=w.alloc (.cells (eNd x).toArray 48):=⟨_,rfl⟩
 have HW:=qh hW
 rw [<-hW] at hb0 hbx
 clear hW
 obtain ⟨k0,k1,k2,k3,k4,k5,k6,k7,k8⟩:=hbx
 have HR:Hid (b=btwB v x.Inv x.Gr):=qh h.symm
 clear h
 obtain ⟨y1,h1⟩:∃ y,decide (x.Inv<=v)=y:=⟨_,rfl⟩
 obtain ⟨y2,h2⟩:∃ y,decide (v<=x.Gr)=y:=⟨_,rfl⟩
 have HB:Hid (b=(y1&&y2)):=qh (by rw [HR.out,btwB,h1,h2])
 clear HR
 simp only [vNd,vSl]
 go_enter Tryz.func308,Tryz.ntmps308
 go_upto_region 1 with (fail)
 rw [<-HW.out]
 clear HW
 cases y1
 ·go_wp2_with fail
  go_ret
  exact ⟨ret_bool (by rw [HB.out];rfl),hb0⟩
 cases y2
 ·go_wp2_with fail
  go_ret
  exact ⟨ret_bool (by rw [HB.out];rfl),hb0⟩
 ·go_wp2_with fail
  go_ret
  exact ⟨ret_bool (by rw [HB.out];rfl),hb0⟩
def lvE (ns:List Nd) (vs:List Int) (i:Nat):Bool:=lvB (ns.getD i default) (vs.getD i 0)
def levelE (ns:List Nd) (vs:List Int):Int:=if vs.length≠ns.length then 3 else if allFrom (lvE ns vs) 0 ns.length=true then 0 else 2
theorem llevelled_any (n:Net) (vs:List Int) (v:Value) (w:World) (hv:IsNds w (vSl n.Ns) n.Ns.xs) (hvs:IsInts w v vs) (hnl:n.Ns.xs.length<2147483648) :
  Calls Tryz.prog 271 #[vNet n,v] w fun e w'=>e=.returned (.int .i64 (levelE n.Ns.xs vs))/\Below w.heap.size w w':=by
 obtain ⟨⟨na,nc,nxs⟩,ls⟩:=n
 simp only at hv hnl ⊢
 have hb0:Below w.heap.size w (w.alloc (.cells (eNet ⟨⟨na,nc,nxs⟩,ls⟩).toArray 25)):=qr.alloc (Nat.le_refl _) _
 have hbn:=boxNet w (w.alloc (.cells (eNet ⟨⟨na,nc,nxs⟩,ls⟩).toArray 25)) 25 ⟨⟨na,nc,nxs⟩,ls⟩ _ rfl _ rfl qr
 obtain ⟨W,hW⟩:∃ W,W=w.alloc (.cells (eNet ⟨⟨na,nc,nxs⟩,ls⟩).toArray 25):=⟨_,rfl⟩
 have HW:=qh hW
 rw [<-hW] at hb0 hbn
 obtain ⟨q0,q1⟩:=hbn
 obtain ⟨_,_,he,-,-,hC⟩:=hv.mono hb0
 simp only [vSl,Value.slice.injEq] at he
 obtain ⟨rfl,-,rfl⟩:=he
 obtain ⟨va,vc,rfl,-,-,hD⟩:=hvs.mono hb0
 have HC:=qh hC
 have HD:=qh hD
 obtain ⟨res,hres⟩:∃ res,res=levelE nxs vs:=⟨_,rfl⟩
 rw [<-hres]
 unfold levelE at hres
 obtain ⟨m,hm⟩:∃ m,m=nxs.length:=⟨_,rfl⟩
 obtain ⟨k,hk⟩:∃ k,k=vs.length:=⟨_,rfl⟩
 have HM:=qh hm
 have HK:=qh hk
 simp only [vNet,vSl] at q0 q1 ⊢
 rw [<-hm] at q0 hnl ⊢
 rw [<-hm,<-hk] at hres
 rw [<-hk]
 have HR:=qh hres
 clear hW hv hvs hC hD hres hm hk
 go_enter Tryz.func271,Tryz.ntmps271
 go_upto_region 1 with (fail)
 rw [HM.out]
 rw [<-HW.out]
 rw [<-HM.out]
 clear HW
 by_cases hkm:k=m
 rotate_left
 ·have j1:((k:Int) != (m:Int))=true:=by rw [bne_iff_ne];omega
  have j2:(k != m)=true:=by rw [bne_iff_ne];exact hkm
  have HF:Hid (res=3):=qh (by rw [HR.out,if_pos hkm])
  clear hkm
  go_wp2_with fail
  go_ret
  exact ⟨ret_int HF.out.symm,hb0⟩
 subst hkm
 have HF:Hid (res=if allFrom (lvE nxs vs) 0 k=true then 0 else 2):=qh (by rw [HR.out,if_neg (by simp)])
 clear HR
 go_wp2_with fail
 go_loopw [16] (fun s16 wr=>∃ i:Nat,i<=k/\s16=.int .i64 i/\Below W.heap.size W wr/\Hid (allFrom (lvE nxs vs) 0 k=allFrom (lvE nxs vs) i k)) (fun s16 _=>k-(RowKit.intOf s16).toNat)
 case atStart=>exact ⟨0,Nat.zero_le _,rfl,qr,qh rfl⟩
 case round=>
  obtain ⟨i,hi,rfl,hb,hm⟩:=hrel
  have hbr:=hb0.trans (hb.mono hb0.size)
  by_cases hik:i<k
  ·have hin:i<nxs.length:=by rw [<-HM.out];exact hik
   have hiv:i<vs.length:=by rw [<-HK.out];exact hik
   obtain ⟨b,off,rfl,c0,c1,c2,c3,c4,c5,c6,c7,c8⟩:=(HC.out.mono hb).nd i hin
   obtain ⟨vb,vo,rfl,d0⟩:=(HD.out.mono hb).int i hiv
   have hst:=allFrom_step (lvE nxs vs) hik
   have hlv:lvE nxs vs i=lvB nxs[i] vs[i]:=by simp [lvE,List.getD,List.getElem?_eq_getElem hin,List.getElem?_eq_getElem hiv]
   obtain ⟨x,hx⟩:∃ x,x=nxs[i]:=⟨_,rfl⟩
   obtain ⟨y,hy⟩:∃ y,y=vs[i]:=⟨_,rfl⟩
   rw [<-hx] at c0 c1 c2 c3 c4 c5 c6 c7 c8 hlv
   rw [<-hy] at d0 hlv
   obtain ⟨z,hz⟩:∃ z,lvB x y=z:=⟨_,rfl⟩
   rw [hlv,hz] at hst
   have HST:=qh hst
   have i1:decide (i<k)=true:=decide_eq_true hik
   have x7:IntKind.i64.wrap ((i:Int)+1)=i+1:=IntWalk.i64_in _ om
   have i4:(0:Int)<=i:=by omega
   have i5:(i:Int)<k:=by omega
   have hbA:Below wr.heap.size wr (wr.alloc (.cells (eNd x).toArray 48)):=qr.alloc (Nat.le_refl _) _
   have hbx:=boxNd wr (wr.alloc (.cells (eNd x).toArray 48)) 48 x _ rfl _ rfl qr
   obtain ⟨wo,hwo⟩:∃ wo,wo=wr:=⟨_,rfl⟩
   subst hwo
   obtain ⟨W2,hW2⟩:∃ W2,W2=wo.alloc (.cells (eNd x).toArray 48):=⟨_,rfl⟩
   have HW2:=qh hW2
   rw [<-hW2] at hbA hbx
   obtain ⟨k0,k1,k2,k3,k4,k5,k6,k7,k8⟩:=hbx
   have hlw:=fun V=>lwithin_lit hz (more W2 V)
   simp only [vNd,vSl] at hlw
   have HLW:=qh hlw
   clear hlw hx hy hst hlv hz hW2 hin hiv
   go_upto_region 6 with (fail)
   rw [<-HW2.out]
   have d0:=cel_lt d0 hbA
   clear HW2 c0 c1 c2 c3 c4 c5 c6 c7 c8
   refine wp_region_more_lit (by kernel_rfl) (by kernel_rfl) ?_
   repeat (go_big_quiet_step ((go_at_call 308;exact Calls.more_of (HLW.out _))))
   refine wpQuiet_nil ?_
   intro _ hwq
   obtain ⟨xq,hwq⟩:=hwq
   subst hwq
   have hm2:=below_more W2 xq
   have hb2:=hb.trans ((hbA.trans (hm2.mono hbA.size)).mono hb.size)
   have hbr2:=hb0.trans (hb2.mono hb0.size)
   clear k0 k1 k2 k3 k4 k5 k6 k7 k8 d0 hm2 hbA hbr hb
   cases z
   ·have HE:Hid (res=2):=qh (by rw [HF.out,hm.out,HST.out];simp)
    go_wp2_with fail
    go_ret
    exact ⟨ret_int HE.out.symm,hbr2⟩
   ·go_wp2_with fail
    go_roundw
    case measure=>simp [RowKit.intOf,x7];omega
    case rel=>exact ⟨i+1,by omega,by go_num,hb2,qh (hm.out.trans (by rw [HST.out];rfl))⟩
  ·have i1:decide (i<k)=false:=decide_eq_false hik
   have HE:Hid (res=0):=qh (by rw [HF.out,hm.out,allFrom_end _ om];rfl)
   go_wp2_with fail
   go_ret
   exact ⟨ret_int HE.out.symm,hbr⟩
end Go.Proofs.YtoiakijmbghhlaaGreat
