/- Pumps: which links are pumps, whether they are on, their flow. Conditions: the link reads as data. | links: known, between. Conditions: network, catalogue and link read as data; a pipe's section is known. -/
import Derived.Test.YtoiakijmbghhlaaGreatS16
import Derived.Test.YtoiakijmbghhlaaGreatS12
import Derived.Test.YtoiakijmbghhlaaGreatS20
set_option linter.unusedVariables false
set_option linter.unusedSimpArgs false
set_option maxRecDepth 100000
set_option maxHeartbeats 32000000
namespace Go.Proofs.YtoiakijmbghhlaaGreat
open Go.RowKit
def pumpB (l:Lk):Bool:=decide (l.Kind=4)&&lkB l
def endA (s:ByteArray) (B:Nat):Nd:=⟨s,1,0,0,0,1,⟨some ⟨B,0,none⟩,2,[⟨0,0⟩,⟨1,0⟩]⟩,false,0⟩
def endB (s:ByteArray):Nd:=⟨s,3,0,0,0,0,⟨none,0,[]⟩,false,0⟩
theorem endA_ok (s:ByteArray) (B:Nat):ndB (endA s B)=nameB s:=by
 have h1:shapeB [⟨0,0⟩,⟨1,0⟩] 1=true:=by decide +kernel
 have h2:posB 0=true:=by decide
 have h3:lvlB 0=true:=by decide
 have h4:lvlB 1=true:=by decide
 simp [ndB,endA,kindNdB,h1,h2,h3,h4]
theorem endB_ok (s:ByteArray):ndB (endB s)=nameB s:=by
 have h2:posB 0=true:=by decide
 have h3:lvlB 0=true:=by decide
 simp [ndB,endB,kindNdB,h2,h3]
theorem netB_pump (l:Lk) (B:Nat) (a b:Option Addr) (c d:Nat):netB ⟨⟨a,c,[endA l.From B,endB l.To]⟩,⟨b,d,[l]⟩⟩=lkB l:=by
 have hA:okNd [endA l.From B,endB l.To] 0=nameB l.From:=by
  have hf:findNd [endA l.From B,endB l.To] l.From=0:=by simp [findNd,idxFrom,endA,strB_self]
  simp only [okNd,List.getD_cons_zero]
  rw [endA_ok]
  rw [show (endA l.From B).Name=l.From from rfl,hf]
  simp
 have hC:allFrom (okNd [endA l.From B,endB l.To]) 0 2=(okNd [endA l.From B,endB l.To] 0&&okNd [endA l.From B,endB l.To] 1):=by
  rw [allFrom_step _ om,allFrom_step _ om,allFrom_end _ om,Bool.and_true]
 have hL:allFrom (okLk [endA l.From B,endB l.To] [l]) 0 1=okLk [endA l.From B,endB l.To] [l] 0:=by
  rw [allFrom_step _ om,allFrom_end _ om,Bool.and_true]
 have hg:netB ⟨⟨a,c,[endA l.From B,endB l.To]⟩,⟨b,d,[l]⟩⟩=(okNd [endA l.From B,endB l.To] 0&&okNd [endA l.From B,endB l.To] 1&&okLk [endA l.From B,endB l.To] [l] 0):=by
  simp only [netB,List.length_cons,List.length_nil,Nat.zero_add,Nat.reduceAdd]
  rw [hC,hL]
  simp
 rw [hg]
 cases hl:lkB l
 ·have:okLk [endA l.From B,endB l.To] [l] 0=false:=by simp [okLk,hl]
  rw [this,Bool.and_false]
 ·have hl':=hl
  simp only [lkB,Bool.and_eq_true,Bool.not_eq_true'] at hl'
  obtain ⟨⟨⟨⟨⟨n1,n2⟩,n3⟩,n4⟩,n5⟩,n6⟩:=hl'
  have hf:findNd [endA l.From B,endB l.To] l.From=0:=by simp [findNd,idxFrom,endA,strB_self]
  have ht:findNd [endA l.From B,endB l.To] l.To=1:=by simp [findNd,idxFrom,endA,endB,strB_self,n4]
  have h2:okNd [endA l.From B,endB l.To] 1=true:=by
   simp only [okNd,List.getD_cons_succ,List.getD_cons_zero]
   rw [endB_ok,show (endB l.To).Name=l.To from rfl,ht,n3]
   rfl
  have h3:okLk [endA l.From B,endB l.To] [l] 0=true:=by
   have hk:findLk [l] l.Name=0:=by simp [findLk,idxFrom,strB_self]
   simp only [okLk,List.getD_cons_zero]
   rw [hl,hk,hf,ht]
   simp [endA]
  rw [hA,h2,h3,n2]
  rfl
theorem puwithin_any (n lo hi:Int) (w:World):Calls Tryz.prog 334 #[.int .i64 n,.int .i64 lo,.int .i64 hi] w fun e w'=>e=.returned (.bool (btwB n lo hi))/\w'=w:=by
 by_cases h1:lo<=n <;> by_cases h2:n<=hi
 all_goals
  go_enter Tryz.func334,Tryz.ntmps334
  go_wp2_with fail
  go_ret
  exact ⟨ret_bool (by simp [btwB,h1,h2]),rfl⟩
theorem pulevel_any (n:Int) (w:World):Calls Tryz.prog 312 #[.int .i64 n] w fun e w'=>e=.returned (.bool (btwB n (-4194304) 4194304))/\w'=w:=by
 have hw:=fun W=>puwithin_any n (-4194304) 4194304 W
 generalize btwB n (-4194304) 4194304=b at *
 go_enter Tryz.func312,Tryz.ntmps312
 go_wp2_with fail
 refine (hw _).mono ?_
 rintro e w1 ⟨rfl,rfl⟩
 go_wp2_with fail
 go_ret
 exact ⟨rfl,rfl⟩
def pw1 (l:Lk) (w:World):World:=w.alloc (.cells (eLk l).toArray 61)
def pw2 (l:Lk) (w:World):World:=(pw1 l w).alloc (.cells #[.int .i64 0,.int .i64 0,.int .i64 1,.int .i64 0] 100)
def pw3 (l:Lk) (w:World):World:=(pw2 l w).alloc (.cells (eNd (endA l.From (w.heap.size+1))).toArray 48)
def pw4 (l:Lk) (w:World):World:=(pw3 l w).alloc (.cells (eNd (endB l.To)).toArray 48)
def pw5 (l:Lk) (w:World):World:=(pw4 l w).alloc (.cells ((eNd (endA l.From (w.heap.size+1))) ++ (eNd (endB l.To))).toArray 48)
def pw6 (l:Lk) (w:World):World:=(pw5 l w).alloc (.cells (eLk l).toArray 61)
theorem pw_size (l:Lk) (w:World):(pw1 l w).heap.size=w.heap.size+1/\(pw4 l w).heap.size=w.heap.size+4/\(pw5 l w).heap.size=w.heap.size+5:=by
 simp [pw1,pw2,pw3,pw4,pw5]
theorem pw_below (l:Lk) (w:World):Below w.heap.size w (pw6 l w)/\Below (pw2 l w).heap.size (pw2 l w) (pw6 l w)/\Below (pw5 l w).heap.size (pw5 l w) (pw6 l w):=by
 have h1:Below w.heap.size w (pw1 l w):=qr.alloc (Nat.le_refl _) _
 have h2:Below (pw1 l w).heap.size (pw1 l w) (pw2 l w):=qr.alloc (Nat.le_refl _) _
 have h3:Below (pw2 l w).heap.size (pw2 l w) (pw3 l w):=qr.alloc (Nat.le_refl _) _
 have h4:Below (pw3 l w).heap.size (pw3 l w) (pw4 l w):=qr.alloc (Nat.le_refl _) _
 have h5:Below (pw4 l w).heap.size (pw4 l w) (pw5 l w):=qr.alloc (Nat.le_refl _) _
 have h6:Below (pw5 l w).heap.size (pw5 l w) (pw6 l w):=qr.alloc (Nat.le_refl _) _
 have h46:=h5.trans (h6.mono h5.size)
 have h36:=h4.trans (h46.mono h4.size)
 have h26:=h3.trans (h36.mono h3.size)
 have h16:=h2.trans (h26.mono h2.size)
 exact ⟨h1.trans (h16.mono h1.size),h26,h6⟩
theorem pw_net (l:Lk) (w:World) (hg:gLk w l):gNet (pw6 l w) ⟨⟨some ⟨w.heap.size+4,0,none⟩,2,[endA l.From (w.heap.size+1),endB l.To]⟩,⟨some ⟨w.heap.size+5,0,none⟩,1,[l]⟩⟩:=by
 obtain ⟨s1,s4,s5⟩:=pw_size l w
 obtain ⟨b0,b2,b5⟩:=pw_below l w
 have hK:IsKns (pw2 l w) (.slice (some ⟨w.heap.size+1,0,none⟩) 2 2) [⟨0,0⟩,⟨1,0⟩]:=by
  rw [<-s1]
  exact isL_lit eKn 2 eKn_len (pw2 l w) _ 100 _ [⟨0,0⟩,⟨1,0⟩] 2 2 (heap_alloc_new _ _) rfl rfl (by decide) (by decide)
 have hN:IsNds (pw5 l w) (.slice (some ⟨w.heap.size+4,0,none⟩) 2 2) [endA l.From (w.heap.size+1),endB l.To]:=by
  rw [<-s4]
  exact isL_lit eNd 9 eNd_len (pw5 l w) _ 48 _ [endA l.From (w.heap.size+1),endB l.To] 2 2 (heap_alloc_new _ _) rfl (by simp) (by simp) (by decide)
 have hL:IsLks (pw6 l w) (.slice (some ⟨w.heap.size+5,0,none⟩) 1 1) [l]:=by
  rw [<-s5]
  exact isL_lit eLk 11 eLk_len (pw6 l w) _ 61 _ [l] 1 1 (heap_alloc_new _ _) rfl (by simp) (by simp) (by decide)
 obtain ⟨_,_,e1,_,_,qK⟩:=hK.mono b2
 obtain ⟨_,_,e2,_,_,qN⟩:=hN.mono b5
 obtain ⟨_,_,e3,_,_,qL⟩:=hL
 simp only [Value.slice.injEq] at e1 e2 e3
 obtain ⟨rfl,_,rfl⟩:=e1
 obtain ⟨rfl,_,rfl⟩:=e2
 obtain ⟨rfl,_,rfl⟩:=e3
 have hi:∀ n:Int,n=0\/n=1\/n=3->gI64 (pw6 l w) n:=by
  rintro n (rfl|rfl|rfl) <;> exact rfl
 refine ⟨⟨by simp,by simp,qN,?_⟩,⟨by simp,by simp,qL,?_⟩⟩
 ·intro y hy
  simp only [List.mem_cons,List.not_mem_nil,or_false] at hy
  rcases hy with rfl|rfl
  ·refine ⟨hg.src,rfl,rfl,rfl,rfl,rfl,⟨by simp [endA],by simp [endA],qK,?_⟩,rfl⟩
   intro k hk
   simp only [endA,List.mem_cons,List.not_mem_nil,or_false] at hk
   rcases hk with rfl|rfl <;> exact ⟨rfl,rfl⟩
  ·exact ⟨hg.dst,rfl,rfl,rfl,rfl,rfl,⟨by simp [endB],by simp [endB],fun i hi=>absurd hi (Nat.not_lt_zero _),by simp [endB]⟩,rfl⟩
 ·intro y hy
  simp only [List.mem_cons,List.not_mem_nil,or_false] at hy
  subst hy
  exact rdLk.mono hg b0
theorem puvalid_any (l:Lk) (w:World) (hg:gLk w l):Calls Tryz.prog 311 #[vLk l] w fun e w'=>e=.returned (.bool (pumpB l))/\Below w.heap.size w w':=by
 by_cases hk:l.Kind=4
 ·have HP:Hid (pumpB l=lkB l):=by show _=_;simp [pumpB,hk]
  rw [HP.out]
  have u:(l.Kind==4)=true:=beqT hk
  have hv:=nvalid_any _ _ (pw_net l w hg)
  rw [netB_pump] at hv
  have hv2:Calls Tryz.prog 58 #[.agg #[.slice (some ⟨w.heap.size+1+1+1+1,0,none⟩) 2 2,.slice (some ⟨w.heap.size+1+1+1+1+1,0,none⟩) 1 1]] (pw6 l w) fun e w'=>e=.returned (.bool (lkB l))/\Below (pw6 l w).heap.size (pw6 l w) w':=hv
  have hb0:=(pw_below l w).1
  obtain ⟨nm,fr,tt,kd,ln,up,dn,sc,wi,he,cu⟩:=l
  simp only at hk
  subst hk
  clear hv hg
  go_enter Tryz.func311,Tryz.ntmps311
  go_wp2_with fail
  refine Calls.go hb0 hv2 ?_
  rintro e w1 rfl _ hb1
  go_wp2_with fail
  go_ret
  exact ⟨rfl,hb1⟩
 ·have HP:Hid (pumpB l=false):=by show _=_;simp [pumpB,hk]
  rw [HP.out]
  have u:(l.Kind==4)=false:=beqF hk
  go_enter Tryz.func311,Tryz.ntmps311
  go_wp2_with fail
  go_ret
  exact ⟨rfl,bl⟩
structure LkBx (w:World) (B:Nat) (l:Lk):Prop where
 c0:w.cell? ⟨B,0,none⟩=some (.string l.Name)
 c1:w.cell? ⟨B,1,none⟩=some (.string l.From)
 c2:w.cell? ⟨B,2,none⟩=some (.string l.To)
 c3:w.cell? ⟨B,3,none⟩=some (.int .i64 l.Kind)
 c4:w.cell? ⟨B,4,none⟩=some (.int .i64 l.Len)
 c5:w.cell? ⟨B,5,none⟩=some (.int .i64 l.Up)
 c6:w.cell? ⟨B,6,none⟩=some (.int .i64 l.Down)
 c7:w.cell? ⟨B,7,none⟩=some (.string l.Sec)
 c8:w.cell? ⟨B,8,none⟩=some (.int .i64 l.Wi)
 c9:w.cell? ⟨B,9,none⟩=some (.int .i64 l.He)
 c10:w.cell? ⟨B,10,none⟩=some (.slice l.Cu.a l.Cu.xs.length l.Cu.cap)
theorem LkBx.mono {w w':World} {B:Nat} {l:Lk} (h:LkBx w B l) (hb:Below w.heap.size w w'):LkBx w' B l:=
 ⟨box_lt h.c0 hb,box_lt h.c1 hb,box_lt h.c2 hb,box_lt h.c3 hb,box_lt h.c4 hb,box_lt h.c5 hb,box_lt h.c6 hb,box_lt h.c7 hb,box_lt h.c8 hb,box_lt h.c9 hb,box_lt h.c10 hb⟩
theorem LkBx.new (w:World) (l:Lk) (T:TypeId):LkBx (w.alloc (.cells (eLk l).toArray T)) w.heap.size l:=by
 refine ⟨?_,?_,?_,?_,?_,?_,?_,?_,?_,?_,?_⟩ <;> simp [go_sem]
def onB (up down:Int) (was:Bool) (n:Int):Bool:=decide (up<=n)||(was&&decide (down<=n))
def levB (n:Int):Bool:=btwB n (-4194304) 4194304
theorem pon_any (l:Lk) (was:Bool) (n:Int) (w:World):Calls Tryz.prog 313 #[vLk l,.bool was,.int .i64 n] w fun e w'=>e=.returned (.bool (onB l.Up l.Down was n))/\Below w.heap.size w w':=by
 cases h1:decide (l.Up<=n)
 ·cases was
  ·have H:Hid (onB l.Up l.Down false n=false):=by show _=_;simp [onB,h1]
   rw [H.out]
   go_enter Tryz.func313,Tryz.ntmps313
   go_wp2_with fail
   go_ret
   exact ⟨rfl,bl⟩
  ·cases h2:decide (l.Down<=n)
   ·have H:Hid (onB l.Up l.Down true n=false):=by show _=_;simp only [onB,h1,h2];rfl
    rw [H.out]
    go_enter Tryz.func313,Tryz.ntmps313
    go_wp2_with fail
    go_ret
    exact ⟨rfl,bl⟩
   ·have H:Hid (onB l.Up l.Down true n=true):=by show _=_;simp only [onB,h1,h2];rfl
    rw [H.out]
    go_enter Tryz.func313,Tryz.ntmps313
    go_wp2_with fail
    go_ret
    exact ⟨rfl,bl⟩
 ·have H:Hid (onB l.Up l.Down was n=true):=by show _=_;simp only [onB,h1];rfl
  rw [H.out]
  go_enter Tryz.func313,Tryz.ntmps313
  go_wp2_with fail
  go_ret
  exact ⟨rfl,bl⟩
theorem curveB_tab {xs:List Kn} (h:curveB xs=true):tabB xs=true:=by
 simp only [curveB,Bool.and_eq_true] at h;exact h.1
theorem curveB_bd {xs:List Kn} (h:curveB xs=true) (x:Int):0<=tabV xs x/\tabV xs x<=1099511627776:=by
 have ht:=curveB_tab h
 have hl:=tabB_len ht
 obtain ⟨b1,b2⟩:=tabV_bd ht x
 simp only [curveB,Bool.and_eq_true,List.all_eq_true,decide_eq_true_eq] at h
 have h0:=h.2 _ (List.getElem_mem (l:=xs) (n:=0) om)
 have h1:=h.2 _ (List.getElem_mem (l:=xs) (n:=xs.length-1) om)
 omega
theorem pumpB_kind {l:Lk} (h:pumpB l=true):l.Kind=4:=by
 simp only [pumpB,Bool.and_eq_true,decide_eq_true_eq] at h;exact h.1
theorem pumpB_curve {l:Lk} (h:pumpB l=true):curveB l.Cu.xs=true:=by
 have hk:=pumpB_kind h
 simp only [pumpB,Bool.and_eq_true,lkB] at h
 have h2:=h.2.2
 rw [kindLkB,if_neg om,if_neg om,if_neg om,if_pos hk] at h2
 simp only [Bool.and_eq_true] at h2
 exact h2.2
def flV (xs:List Kn) (s d:Int):Int:=tabV xs d*s / 1000
theorem flV_bd {xs:List Kn} (h:curveB xs=true) {s d:Int} (hs:0<=s) (hs2:s<=1000):0<=tabV xs d*s/\tabV xs d*s<=1099511627776000/\0<=flV xs s d/\flV xs s d<=1099511627776:=by
 obtain ⟨b1,b2⟩:=curveB_bd h d
 have m1:0<=tabV xs d*s:=Int.mul_nonneg b1 hs
 have m2:tabV xs d*s<=1099511627776*1000:=Int.mul_le_mul b2 hs2 hs (by decide)
 unfold flV
 generalize tabV xs d*s=p at *
 omega
theorem pflow0_any (l:Lk) (s d:Int) (w:World) (hg:gLk w l) (hc:curveB l.Cu.xs=true) (hs:0<=s) (hs2:s<=1000) :
  Calls Tryz.prog 351 #[vLk l,.int .i64 s,.int .i64 d] w fun e w'=>e=.returned (.tuple #[.int .i64 (flV l.Cu.xs s d),.int .i64 0])/\Below w.heap.size w w':=by
 have hb0:Below w.heap.size w (w.alloc (.cells (eLk l).toArray 61)):=qr.alloc (Nat.le_refl _) _
 have hf:=tfloor_any l.Cu.xs d (vSl l.Cu) _ ((rdLk.mono hg hb0).cu.isL) (curveB_tab hc)
 obtain ⟨m1,m2,m3,m4⟩:=flV_bd hc (d:=d) hs hs2
 have x1:IntKind.i64.wrap (tabV l.Cu.xs d*s)=tabV l.Cu.xs d*s:=IntWalk.i64_in _ om
 have x2:IntKind.i64.wrap ((tabV l.Cu.xs d*s).tdiv 1000)=flV l.Cu.xs s d:=by
  rw [Int.tdiv_eq_ediv_of_nonneg m1];exact IntWalk.i64_in _ (by unfold flV at m3 m4;omega)
 generalize flV l.Cu.xs s d=R at *
 obtain ⟨nm,fr,tt,kd,ln,up,dn,sc,wi,he,⟨ca,cc,cxs⟩⟩:=l
 simp only at *
 generalize tabV cxs d=c at *
 clear m1 m2 m3 m4 hg hc hs hs2
 go_enter Tryz.func351,Tryz.ntmps351
 go_wp2_with fail
 refine Calls.go hb0 hf ?_
 rintro e w1 rfl _ hb1
 go_wp2_with fail
 go_ret2
 exact ⟨rfl,hb1⟩
def flM (l:Lk) (s d:Int):Int×Int:=if pumpB l=false then (0,1) else if (btwB s 0 1000&&btwB d 0 4194304)=false then (0,2) else (flV l.Cu.xs s d,0)
theorem pflow_any (l:Lk) (s d:Int) (w:World) (hg:gLk w l) :
  Calls Tryz.prog 340 #[vLk l,.int .i64 s,.int .i64 d] w fun e w'=>e=.returned (.tuple #[.int .i64 (flM l s d).1,.int .i64 (flM l s d).2])/\Below w.heap.size w w':=by
 have hb0:Below w.heap.size w (w.alloc (.cells (eLk l).toArray 61)):=qr.alloc (Nat.le_refl _) _
 have hg0:=rdLk.mono hg hb0
 have hpv:=puvalid_any l _ hg0
 have hG:=qh hg0
 have hbx:=LkBx.new w l 61
 have hw1:=fun W=>puwithin_any s 0 1000 W
 have hw2:=fun W=>puwithin_any d 0 4194304 W
 cases hpb:pumpB l
 ·have HR:Hid (flM l s d=(0,1)):=by show _=_;simp only [flM,hpb,if_true]
  rw [HR.out]
  rw [hpb] at hpv
  clear hpb hg hg0 hG hw1 hw2 hbx HR
  obtain ⟨nm,fr,tt,kd,ln,up,dn,sc,wi,he,cu⟩:=l
  go_enter Tryz.func340,Tryz.ntmps340
  go_wp2_with fail
  refine Calls.to hpv ?_
  rintro e w1 rfl hb1
  have hbb:=hb0.trans (hb1.mono hb0.size)
  go_wp2_with fail
  go_ret2
  exact ⟨rfl,hbb⟩
 have hcv:=pumpB_curve hpb
 rw [hpb] at hpv
 cases h1:btwB s 0 1000
 ·have HR:Hid (flM l s d=(0,2)):=by show _=_;simp [flM,hpb,h1]
  rw [HR.out]
  rw [h1] at hw1
  clear hpb hg hg0 hG hw2 hcv h1 hbx HR
  obtain ⟨nm,fr,tt,kd,ln,up,dn,sc,wi,he,cu⟩:=l
  go_enter Tryz.func340,Tryz.ntmps340
  go_wp2_with fail
  refine Calls.to hpv ?_
  rintro e w1 rfl hb1
  have hbb:=hb0.trans (hb1.mono hb0.size)
  go_wp2_with fail
  refine (hw1 _).mono ?_
  rintro _ _ ⟨rfl,rfl⟩
  go_wp2_with fail
  go_ret2
  exact ⟨rfl,hbb⟩
 cases h2:btwB d 0 4194304
 ·have HR:Hid (flM l s d=(0,2)):=by show _=_;simp [flM,hpb,h1,h2]
  rw [HR.out]
  rw [h1] at hw1
  rw [h2] at hw2
  clear hpb hg hg0 hG hcv h1 h2 hbx HR
  obtain ⟨nm,fr,tt,kd,ln,up,dn,sc,wi,he,cu⟩:=l
  go_enter Tryz.func340,Tryz.ntmps340
  go_wp2_with fail
  refine Calls.to hpv ?_
  rintro e w1 rfl hb1
  have hbb:=hb0.trans (hb1.mono hb0.size)
  go_wp2_with fail
  refine (hw1 _).mono ?_
  rintro _ _ ⟨rfl,rfl⟩
  go_wp2_with fail
  refine (hw2 _).mono ?_
  rintro _ _ ⟨rfl,rfl⟩
  go_wp2_with fail
  go_ret2
  exact ⟨rfl,hbb⟩
 have HR:Hid (flM l s d=(flV l.Cu.xs s d,0)):=by show _=_;simp [flM,hpb,h1,h2]
 rw [HR.out]
 rw [h1] at hw1
 rw [h2] at hw2
 simp only [btwB,Bool.and_eq_true,decide_eq_true_eq] at h1 h2
 have hfl:=fun W hW=>pflow0_any l s d W hW hcv h1.1 h1.2
 generalize flV l.Cu.xs s d=R at *
 clear hpb hg hg0 hcv h1 h2 HR
 obtain ⟨nm,fr,tt,kd,ln,up,dn,sc,wi,he,cu⟩:=l
 go_enter Tryz.func340,Tryz.ntmps340
 go_wp2_with fail
 refine Calls.to hpv ?_
 rintro e w1 rfl hb1
 have hbb:=hb0.trans (hb1.mono hb0.size)
 have hgg:=rdLk.mono hG.out hb1
 have hbx:=hbx.mono hb1
 go_wp2_with fail
 refine (hw1 _).mono ?_
 rintro _ _ ⟨rfl,rfl⟩
 go_wp2_with fail
 refine (hw2 _).mono ?_
 rintro _ _ ⟨rfl,rfl⟩
 clear hw1 hw2 hpv
 obtain ⟨c0,c1,c2,c3,c4,c5,c6,c7,c8,c9,c10⟩:=hbx
 simp only at c0 c1 c2 c3 c4 c5 c6 c7 c8 c9 c10
 go_wp2_with fail
 refine Calls.go hbb (hfl _ hgg) ?_
 rintro e w2 rfl _ hb2
 go_wp2_with fail
 go_ret2
 exact ⟨rfl,hb2⟩
def onM (l:Lk) (was:Bool) (n:Int):Bool×Int:=if pumpB l=false then (false,1) else if levB n=false then (false,2) else (onB l.Up l.Down was n,0)
theorem ponx_any (l:Lk) (was:Bool) (n:Int) (w:World) (hg:gLk w l) :
  Calls Tryz.prog 273 #[vLk l,.bool was,.int .i64 n] w fun e w'=>e=.returned (.tuple #[.bool (onM l was n).1,.int .i64 (onM l was n).2])/\Below w.heap.size w w':=by
 have hb0:Below w.heap.size w (w.alloc (.cells (eLk l).toArray 61)):=qr.alloc (Nat.le_refl _) _
 have hpv:=puvalid_any l _ (rdLk.mono hg hb0)
 have hbx:=LkBx.new w l 61
 have hlv:=fun W=>pulevel_any n W
 have hon:=fun W=>pon_any l was n W
 cases hpb:pumpB l
 ·have HR:Hid (onM l was n=(false,1)):=by show _=_;simp only [onM,hpb,if_true]
  rw [HR.out]
  rw [hpb] at hpv
  clear hpb hg hlv hon hbx HR
  obtain ⟨nm,fr,tt,kd,ln,up,dn,sc,wi,he,cu⟩:=l
  go_enter Tryz.func273,Tryz.ntmps273
  go_wp2_with fail
  refine Calls.to hpv ?_
  rintro e w1 rfl hb1
  have hbb:=hb0.trans (hb1.mono hb0.size)
  go_wp2_with fail
  go_ret2
  exact ⟨rfl,hbb⟩
 rw [hpb] at hpv
 rw [show btwB n (-4194304) 4194304=levB n from rfl] at hlv
 cases hl:levB n
 ·have HR:Hid (onM l was n=(false,2)):=by show _=_;simp [onM,hpb,hl]
  rw [HR.out]
  rw [hl] at hlv
  clear hpb hg hl hon hbx HR
  obtain ⟨nm,fr,tt,kd,ln,up,dn,sc,wi,he,cu⟩:=l
  go_enter Tryz.func273,Tryz.ntmps273
  go_wp2_with fail
  refine Calls.to hpv ?_
  rintro e w1 rfl hb1
  have hbb:=hb0.trans (hb1.mono hb0.size)
  go_wp2_with fail
  refine (hlv _).mono ?_
  rintro _ _ ⟨rfl,rfl⟩
  go_wp2_with fail
  go_ret2
  exact ⟨rfl,hbb⟩
 have HR:Hid (onM l was n=(onB l.Up l.Down was n,0)):=by show _=_;simp [onM,hpb,hl]
 rw [HR.out]
 rw [hl] at hlv
 generalize onB l.Up l.Down was n=now at *
 clear hpb hg hl HR
 obtain ⟨nm,fr,tt,kd,ln,up,dn,sc,wi,he,cu⟩:=l
 go_enter Tryz.func273,Tryz.ntmps273
 go_wp2_with fail
 refine Calls.to hpv ?_
 rintro e w1 rfl hb1
 have hbb:=hb0.trans (hb1.mono hb0.size)
 have hbx:=hbx.mono hb1
 go_wp2_with fail
 refine (hlv _).mono ?_
 rintro _ _ ⟨rfl,rfl⟩
 obtain ⟨c0,c1,c2,c3,c4,c5,c6,c7,c8,c9,c10⟩:=hbx
 simp only at c0 c1 c2 c3 c4 c5 c6 c7 c8 c9 c10
 clear hlv hpv
 go_wp2_with fail
 refine Calls.go hbb (hon _) ?_
 rintro e w2 rfl _ hb2
 go_wp2_with fail
 go_ret2
 exact ⟨rfl,hb2⟩
def knownB (ss:List SecD) (x:Lk):Bool:=!(decide (x.Kind=1))||ss.any (fun s=>strB s.N x.Sec)
theorem lknown_any (ss:List SecD) (v:Value) (x:Lk) (w:World) (hv:IsSecs w v ss) :
  Calls Tryz.prog 275 #[v,vLk x] w fun e w'=>e=.returned (.bool (knownB ss x))/\Below w.heap.size w w':=by
 have hb0:Below w.heap.size w (w.alloc (.cells (eLk x).toArray 61)):=qr.alloc (Nat.le_refl _) _
 have hbx:=bxLk w (w.alloc (.cells (eLk x).toArray 61)) 61 x _ rfl _ rfl qr
 obtain ⟨W,hW⟩:∃ W,W=w.alloc (.cells (eLk x).toArray 61):=⟨_,rfl⟩
 have HW:=qh hW
 rw [<-hW] at hb0 hbx
 obtain ⟨⟨k0,k1,k2⟩,⟨k3,k4,k5,k6⟩,k7,k8,k9,k10⟩:=hbx
 have hcn:=containsSec 314 #[.pointer (some ⟨w.heap.size,0,none⟩)] ent314 (fun s=>strB s.N x.Sec) ss _ W (hv.mono hb0).1 (fun V hV s _=>known1_any s x.Sec _ V (cel_lt k7 hV))
 obtain ⟨res,hres⟩:∃ res,res=knownB ss x:=⟨_,rfl⟩
 rw [<-hres]
 unfold knownB at hres
 obtain ⟨y1,h1⟩:∃ y,ss.any (fun s=>strB s.N x.Sec)=y:=⟨_,rfl⟩
 obtain ⟨y0,h0⟩:∃ y,decide (x.Kind=1)=y:=⟨_,rfl⟩
 have h0':(x.Kind==1)=y0:=by rw [<-h0];rfl
 have h0n:(x.Kind != 1) = !y0:=by rw [<-h0'];rfl
 rw [h0,h1] at hres
 rw [h1] at hcn
 have HR:=qh hres
 simp only [vLk,vSl]
 clear hW hres h1 hv
 go_enter Tryz.func275,Tryz.ntmps275
 go_upto_region 1 with (fail)
 rw [<-HW.out]
 clear HW
 cases y0
 ·simp only [Bool.not_false] at h0n
  go_wp2_with fail
  go_ret
  exact ⟨ret_bool (by rw [HR.out];rfl),hb0⟩
 ·simp only [Bool.not_true] at h0n
  go_wp2_with fail
  refine Calls.to hcn ?_
  rintro e w1 rfl hb1
  have hbw:=hb0.trans (hb1.mono hb0.size)
  go_wp2_with fail
  go_ret
  exact ⟨ret_bool (by rw [HR.out];cases y1 <;> rfl),hbw⟩
end Go.Proofs.YtoiakijmbghhlaaGreat
